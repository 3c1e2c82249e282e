/-
  Chapter 41: the program's check of a list of nodes.
-/
import Derived.Test.YtlbmbbaefncleaaGreatDoorPxBld
set_option maxRecDepth 100000
set_option maxHeartbeats 4000000
set_option linter.all false
namespace Go.Proofs.YtlbmbbaefncleaaGreatDoor.Px
open Go.Vm
def checkP (sw : Int) (l : List Nd) : Int := if 24 < l.length then 12 else if (chk sw l.length l).2 = 0 ∧ (chk sw l.length l).1 ≠ [] then 4 else (chk sw l.length l).2
theorem checkP_big {sw : Int} {l : List Nd} (h : 24 < l.length) : checkP sw l = 12 := by rw [checkP, if_pos h]
theorem checkP_err {sw : Int} {l : List Nd} (h : ¬ 24 < l.length) (he : ¬ (chk sw l.length l).2 = 0) : checkP sw l = (chk sw l.length l).2 := by rw [checkP, if_neg h, if_neg (fun g => he g.1)]
theorem checkP_long {sw : Int} {l : List Nd} (h : ¬ 24 < l.length) (he : (chk sw l.length l).2 = 0) (hn : ¬ (chk sw l.length l).1 = []) : checkP sw l = 4 := by rw [checkP, if_neg h, if_pos ⟨he, hn⟩]
theorem checkP_ok {sw : Int} {l : List Nd} (h : ¬ 24 < l.length) (he : (chk sw l.length l).2 = 0) (hn : (chk sw l.length l).1 = []) : checkP sw l = 0 := by rw [checkP, if_neg h, if_neg (fun g => g.2 hn), he]
def treR (f : Nat) (args : List V) (sw : Int) (l : List Nd) : Prop :=
 (checkP sw l = 0 ∧ ∃ p, okP sw p ∧ l = flat p ∧ l.length ≤ 24 ∧ PC Tryz.prog f args (.tup [encX p, .int .i64 0])) ∨
 (checkP sw l ≠ 0 ∧ PC Tryz.prog f args (.tup [.nili, .int .i64 (checkP sw l)]))
attribute [local push_cast] fmN fm0 take_N toN1 slN_nil encN slN cfg0 gfp_lenN gfd_lenN lfl_lenN encX st_errX os_errX
theorem tree26 (sw : Int) (l : List Nd) (hl : l.length ≤ 4000000) : treR 92 [slN l, .int .i64 sw] sw l := by
 by_cases h : 24 < l.length
 ·refine .inr ⟨by rw [checkP_big h]; decide, ?_⟩
  rw [checkP_big h]
  refine PC.walk tok mixed cfg0 Tryz.func92 rfl Tryz.call92 (by simp [bel_clX, bel_errX]) (by first | rfl | simp [bel_clX, bel_errX]) ?_; refine vms1 Tryz.ntmps92 ?_
  refine endK.ret ?_ (by first | rfl | simp [bel_clX, bel_errX]); simp [evRes, getT, retV, Tryz.f92]
 have hb := pc143 sw l.length l (Nat.le_refl _) hl
 rw [bldR] at hb
 by_cases he : (chk sw l.length l).2 = 0
 ·rw [if_pos he] at hb
  obtain ⟨p, hp, hf, hpc⟩ := hb
  by_cases hn : (chk sw l.length l).1 = []
  ·refine .inl ⟨checkP_ok h he hn, p, hp, by rw [hn, List.append_nil] at hf; exact hf, by omega, ?_⟩
   rw [hn] at hpc
   refine PC.walk tok mixed cfg0 Tryz.func92 rfl Tryz.call92 (by simp [bel_clX, bel_errX]) (by first | rfl | simp [bel_clX, bel_errX]) ?_; refine vms1 Tryz.ntmps92 ?_
   refine callO.pc hpc ?_
   refine vms0 ?_
   refine endK.ret ?_ (by first | rfl | simp [bel_clX, bel_errX]); simp [evRes, getT, retV, Tryz.f92,  encX]
  ·have hp0 : 0 < (chk sw l.length l).1.length := List.length_pos_iff.2 hn
   have hle := chk_len sw l.length l
   refine .inr ⟨by rw [checkP_long h he hn]; decide, ?_⟩
   rw [checkP_long h he hn]
   refine PC.walk tok mixed cfg0 Tryz.func92 rfl Tryz.call92 (by simp [bel_clX, bel_errX]) (by first | rfl | simp [bel_clX, bel_errX]) ?_; refine vms1 Tryz.ntmps92 ?_
   refine callO.pc hpc ?_
   refine vms1 hp0 ?_
   refine endK.ret ?_ (by first | rfl | simp [bel_clX, bel_errX]); simp [evRes, getT, retV, Tryz.f92]
 ·rw [if_neg he] at hb
  obtain ⟨m, hpc⟩ := hb
  refine .inr ⟨by rw [checkP_err h he]; exact he, ?_⟩
  rw [checkP_err h he]
  refine PC.walk tok mixed cfg0 Tryz.func92 rfl Tryz.call92 (by simp [bel_clX, bel_errX]) (by first | rfl | simp [bel_clX, bel_errX]) ?_; refine vms1 Tryz.ntmps92 ?_
  refine callO.pc hpc ?_
  refine vms1 he ?_
  refine endK.ret ?_ (by first | rfl | simp [bel_clX, bel_errX]); simp [evRes, getT, retV, Tryz.f92]
theorem tree28 (l : List Nd) (hl : l.length ≤ 4000000) : treR 73 [slN l] 1000000000 l := by
 rcases tree26 1000000000 l hl with ⟨hc, p, hp, hf, h24, hpc⟩ | ⟨hc, hpc⟩
 ·refine .inl ⟨hc, p, hp, hf, h24, ?_⟩
  refine PC.walk tok mixed cfg0 Tryz.func73 rfl Tryz.call73 (by simp [bel_clX, bel_errX]) (by first | rfl | simp [bel_clX, bel_errX]) ?_; refine vms1 Tryz.ntmps73 ?_
  refine callO.pc hpc ?_
  refine vms0 ?_
  refine endK.ret ?_ (by first | rfl | simp [bel_clX, bel_errX]); simp [evRes, getT, retV, Tryz.f73,  encX]
 ·refine .inr ⟨hc, ?_⟩
  refine PC.walk tok mixed cfg0 Tryz.func73 rfl Tryz.call73 (by simp [bel_clX, bel_errX]) (by first | rfl | simp [bel_clX, bel_errX]) ?_; refine vms1 Tryz.ntmps73 ?_
  refine callO.pc hpc ?_
  refine vms0 ?_
  refine endK.ret ?_ (by first | rfl | simp [bel_clX, bel_errX]); simp [evRes, getT, retV, Tryz.f73]
theorem pc56 (sw : Int) (l : List Nd) (hl : l.length ≤ 4000000) : PC Tryz.prog 56 [slN l, .int .i64 sw] (.int .i64 (checkP sw l)) := by
 rcases tree26 sw l hl with ⟨hc, p, hp, hf, h24, hpc⟩ | ⟨hc, hpc⟩
 ·rw [hc]
  refine PC.walk tok mixed cfg0 Tryz.func56 rfl Tryz.call56 (by simp [bel_clX, bel_errX]) (by first | rfl | simp [bel_clX, bel_errX]) ?_; refine vms1 Tryz.ntmps56 ?_
  refine callO.pc hpc ?_
  refine vms0 ?_
  refine endK.ret ?_ (by first | rfl | simp [bel_clX, bel_errX]); simp [evRes, getT, retV, Tryz.f56]
 ·refine PC.walk tok mixed cfg0 Tryz.func56 rfl Tryz.call56 (by simp [bel_clX, bel_errX]) (by first | rfl | simp [bel_clX, bel_errX]) ?_; refine vms1 Tryz.ntmps56 ?_
  refine callO.pc hpc ?_
  refine vms0 ?_
  refine endK.ret ?_ (by first | rfl | simp [bel_clX, bel_errX]); simp [evRes, getT, retV, Tryz.f56]
end Go.Proofs.YtlbmbbaefncleaaGreatDoor.Px
