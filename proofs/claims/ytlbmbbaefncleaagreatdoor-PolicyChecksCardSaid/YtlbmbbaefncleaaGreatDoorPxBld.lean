/-
  Chapter 41: the program's tree of a list of nodes.
-/
import Derived.Test.YtlbmbbaefncleaaGreatDoorPxNod
set_option maxRecDepth 100000
set_option maxHeartbeats 4000000
set_option linter.all false
namespace Go.Proofs.YtlbmbbaefncleaaGreatDoor.Px
open Go.Vm
def bldR (sw : Int) (k : Nat) (l : List Nd) : Prop :=
 if (chk sw k l).2 = 0 then ∃ p, okP sw p ∧ l = flat p ++ (chk sw k l).1 ∧ PC Tryz.prog 143 [slN l, .int .i64 sw] (.tup [encX p, slN (chk sw k l).1, .int .i64 0])
 else ∃ m, PC Tryz.prog 143 [slN l, .int .i64 sw] (.tup [errX m, .sl true [] 0, .int .i64 (chk sw k l).2])
theorem bld_ok {sw : Int} {k : Nat} {l : List Nd} (p : Pr) (hp : okP sw p) (r : List Nd) (hr : chk sw k l = (r, 0)) (hl : l = flat p ++ r) (h : PC Tryz.prog 143 [slN l, .int .i64 sw] (.tup [encX p, slN r, .int .i64 0])) : bldR sw k l := by
 rw [bldR, hr, if_pos rfl]
 exact ⟨p, hp, hl, h⟩
theorem bld_err {sw : Int} {k : Nat} {l : List Nd} (m : Er) (e : Int) (he : e ≠ 0) (hr : chk sw k l = ([], e)) (h : PC Tryz.prog 143 [slN l, .int .i64 sw] (.tup [errX m, .sl true [] 0, .int .i64 e])) : bldR sw k l := by
 rw [bldR, hr, if_neg he]
 exact ⟨m, h⟩
attribute [local push_cast] fmN fm0 take_N toN1 slN_nil encN slN cfg0 gfp_lenN gfd_lenN lfl_lenN encX st_errX os_errX
theorem pc143 (sw : Int) : ∀ (k : Nat) (l : List Nd), l.length ≤ k → l.length ≤ 4000000 → bldR sw k l := by
 intro k
 induction k with
 | zero =>
  intro l hl _
  have hl0 : l = [] := List.length_eq_zero_iff.1 (by omega)
  subst hl0
  refine bld_err .no 3 (by decide) rfl ?_
  refine PC.walk tok mixed cfg0 Tryz.func143 rfl Tryz.call143 (by simp [bel_clX, bel_errX]) (by first | rfl | simp [bel_clX, bel_errX]) ?_; simp (maxSteps := 2000000) -implicitDefEqProofs +contextual (disch := first | assumption | omega | decide +kernel) only [push_cast, ↓capI, seval, Nat.reduceLeDiff, Nat.reduceEqDiff, reduceCtorEq, ↓reduceIte, Tryz.ntmps143]
  refine endK.ret ?_ (by first | rfl | simp [bel_clX, bel_errX]); simp [evRes, getT, retV, Tryz.f143,  errX]
 | succ k ih =>
  intro l hl hm
  cases l with
  | nil =>
   refine bld_err .no 3 (by decide) rfl ?_
   refine PC.walk tok mixed cfg0 Tryz.func143 rfl Tryz.call143 (by simp [bel_clX, bel_errX]) (by first | rfl | simp [bel_clX, bel_errX]) ?_; simp (maxSteps := 2000000) -implicitDefEqProofs +contextual (disch := first | assumption | omega | decide +kernel) only [push_cast, ↓capI, seval, Nat.reduceLeDiff, Nat.reduceEqDiff, reduceCtorEq, ↓reduceIte, Tryz.ntmps143]
   refine endK.ret ?_ (by first | rfl | simp [bel_clX, bel_errX]); simp [evRes, getT, retV, Tryz.f143,  errX]
  | cons x l =>
   have hm2 : l.length ≤ 4000000 := by simp only [List.length_cons] at hm; omega
   have hk2 : l.length ≤ k := by simp only [List.length_cons] at hl; omega
   have hL : ((l.length : Int) + 1).toNat - 1 = l.length := by omega
   obtain ⟨o, n⟩ := x
   by_cases h1 : o = 1 ∨ o = 2
   ·have hc : chk1 sw ⟨o, n⟩ = 0 := by
     have ha : ¬ arity o < 0 := by rcases h1 with h | h <;> rw [h] <;> decide
     rw [chk1, if_neg ha, if_neg]
     rintro ⟨h3, _⟩
     simp only at h3
     omega
    have ha : arity o = 0 := by rcases h1 with h | h <;> rw [h] <;> rfl
    have hn : ¬ o = 3 := by omega
    refine bld_ok (.leaf ⟨o, n⟩) ⟨by simp only; omega, hc⟩ l (by rw [chk, if_neg (fun g => g hc), ha]; rfl) rfl ?_
    rcases h1 with h1 | h1
    ·subst h1
     refine PC.walk tok mixed cfg0 Tryz.func143 rfl Tryz.call143 (by simp [bel_clX, bel_errX]) (by first | rfl | simp [bel_clX, bel_errX]) ?_; simp (maxSteps := 2000000) -implicitDefEqProofs +contextual (disch := first | assumption | omega | decide +kernel) only [push_cast, ↓capI, seval, Nat.reduceLeDiff, Nat.reduceEqDiff, reduceCtorEq, ↓reduceIte, Tryz.ntmps143]
     refine endK.ret ?_ (by first | rfl | simp [bel_clX, bel_errX]); simp [evRes, getT, retV, Tryz.f143,  encX, tgX, clX, nN]
    ·subst h1
     refine PC.walk tok mixed cfg0 Tryz.func143 rfl Tryz.call143 (by simp [bel_clX, bel_errX]) (by first | rfl | simp [bel_clX, bel_errX]) ?_; simp (maxSteps := 2000000) -implicitDefEqProofs +contextual (disch := first | assumption | omega | decide +kernel) only [push_cast, ↓capI, seval, Nat.reduceLeDiff, Nat.reduceEqDiff, reduceCtorEq, ↓reduceIte, Tryz.ntmps143]
     refine endK.ret ?_ (by first | rfl | simp [bel_clX, bel_errX]); simp [evRes, getT, retV, Tryz.f143,  encX, tgX, clX, nN]
   have n1 : ¬ o = 1 := by omega
   have n2 : ¬ o = 2 := by omega
   by_cases h3 : o = 3
   ·subst h3
    have ha : arity 3 = 0 := rfl
    by_cases hb : badN sw ⟨3, n⟩
    ·have hc : chk1 sw ⟨3, n⟩ = 9 := by
      rw [chk1]
      simp only [ha]
      rw [if_neg (by decide), if_pos ⟨trivial, hb⟩]
     refine bld_err .no 9 (by decide) (by rw [chk, hc, if_pos (by decide)]) ?_
     by_cases b1 : n < 0
     ·refine PC.walk tok mixed cfg0 Tryz.func143 rfl Tryz.call143 (by simp [bel_clX, bel_errX]) (by first | rfl | simp [bel_clX, bel_errX]) ?_; simp (maxSteps := 2000000) -implicitDefEqProofs +contextual (disch := first | assumption | omega | decide +kernel) only [push_cast, ↓capI, seval, Nat.reduceLeDiff, Nat.reduceEqDiff, reduceCtorEq, ↓reduceIte, Tryz.ntmps143]
      (try simp (maxSteps := 2000000) -implicitDefEqProofs +contextual (disch := first | assumption | omega | decide +kernel) only [push_cast, ↓capI, seval, Nat.reduceLeDiff, Nat.reduceEqDiff, reduceCtorEq, ↓reduceIte, b1])
      refine endK.ret ?_ (by first | rfl | simp [bel_clX, bel_errX]); simp [evRes, getT, retV, Tryz.f143,  errX]
     by_cases b2 : sw ≤ n
     ·refine PC.walk tok mixed cfg0 Tryz.func143 rfl Tryz.call143 (by simp [bel_clX, bel_errX]) (by first | rfl | simp [bel_clX, bel_errX]) ?_; simp (maxSteps := 2000000) -implicitDefEqProofs +contextual (disch := first | assumption | omega | decide +kernel) only [push_cast, ↓capI, seval, Nat.reduceLeDiff, Nat.reduceEqDiff, reduceCtorEq, ↓reduceIte, Tryz.ntmps143]
      (try simp (maxSteps := 2000000) -implicitDefEqProofs +contextual (disch := first | assumption | omega | decide +kernel) only [push_cast, ↓capI, seval, Nat.reduceLeDiff, Nat.reduceEqDiff, reduceCtorEq, ↓reduceIte, b1, b2])
      refine endK.ret ?_ (by first | rfl | simp [bel_clX, bel_errX]); simp [evRes, getT, retV, Tryz.f143,  errX]
     have b3 : 999999999 < n := by rcases hb with h | h | h <;> simp only at h <;> omega
     refine PC.walk tok mixed cfg0 Tryz.func143 rfl Tryz.call143 (by simp [bel_clX, bel_errX]) (by first | rfl | simp [bel_clX, bel_errX]) ?_; simp (maxSteps := 2000000) -implicitDefEqProofs +contextual (disch := first | assumption | omega | decide +kernel) only [push_cast, ↓capI, seval, Nat.reduceLeDiff, Nat.reduceEqDiff, reduceCtorEq, ↓reduceIte, Tryz.ntmps143]
     (try simp (maxSteps := 2000000) -implicitDefEqProofs +contextual (disch := first | assumption | omega | decide +kernel) only [push_cast, ↓capI, seval, Nat.reduceLeDiff, Nat.reduceEqDiff, reduceCtorEq, ↓reduceIte, b1, b2, b3])
     refine endK.ret ?_ (by first | rfl | simp [bel_clX, bel_errX]); simp [evRes, getT, retV, Tryz.f143,  errX]
    ·have hc : chk1 sw ⟨3, n⟩ = 0 := by
      rw [chk1]
      simp only [ha]
      rw [if_neg (by decide), if_neg (fun h => hb h.2)]
     have b1 : ¬ n < 0 := fun h => hb (.inl h)
     have b2 : ¬ sw ≤ n := fun h => hb (.inr (.inl h))
     have b3 : ¬ 999999999 < n := fun h => hb (.inr (.inr h))
     refine bld_ok (.leaf ⟨3, n⟩) ⟨by simp, hc⟩ l (by rw [chk, if_neg (fun g => g hc)]; rfl) rfl ?_
     refine PC.walk tok mixed cfg0 Tryz.func143 rfl Tryz.call143 (by simp [bel_clX, bel_errX]) (by first | rfl | simp [bel_clX, bel_errX]) ?_; simp (maxSteps := 2000000) -implicitDefEqProofs +contextual (disch := first | assumption | omega | decide +kernel) only [push_cast, ↓capI, seval, Nat.reduceLeDiff, Nat.reduceEqDiff, reduceCtorEq, ↓reduceIte, Tryz.ntmps143]
     (try simp (maxSteps := 2000000) -implicitDefEqProofs +contextual (disch := first | assumption | omega | decide +kernel) only [push_cast, ↓capI, seval, Nat.reduceLeDiff, Nat.reduceEqDiff, reduceCtorEq, ↓reduceIte, b1, b2, b3])
     refine endK.ret ?_ (by first | rfl | simp [bel_clX, bel_errX]); simp [evRes, getT, retV, Tryz.f143,  encX, tgX, clX, nN]
   by_cases h6 : o = 6
   ·subst h6
    have hc : chk1 sw ⟨6, n⟩ = 0 := chk1_op (.inl rfl)
    have ha : arity 6 = 1 := rfl
    have hr : chk sw (k + 1) (⟨6, n⟩ :: l) = if (chk sw k l).2 ≠ 0 then ([], (chk sw k l).2) else ((chk sw k l).1, 0) := by
     rw [chk, if_neg (fun g => g hc)]
     simp only [ha]
     rfl
    have i1 := ih l hk2 hm2
    rw [bldR] at i1
    by_cases he : (chk sw k l).2 = 0
    ·rw [if_pos he] at i1
     obtain ⟨p, hp, hl, hpc⟩ := i1
     refine bld_ok (.un ⟨6, n⟩ p) ⟨rfl, hp⟩ (chk sw k l).1 (by rw [hr, if_neg (fun g => g he)]) (by rw [flat, List.cons_append, ← hl]) ?_
     refine PC.walk tok mixed cfg0 Tryz.func143 rfl Tryz.call143 (by simp [bel_clX, bel_errX]) (by first | rfl | simp [bel_clX, bel_errX]) ?_; simp (maxSteps := 2000000) -implicitDefEqProofs +contextual (disch := first | assumption | omega | decide +kernel) only [push_cast, ↓capI, seval, Nat.reduceLeDiff, Nat.reduceEqDiff, reduceCtorEq, ↓reduceIte, Tryz.ntmps143]
     refine callO.pc hpc ?_
     simp (maxSteps := 2000000) -implicitDefEqProofs +contextual (disch := first | assumption | omega | decide +kernel) only [push_cast, ↓capI, seval, Nat.reduceLeDiff, Nat.reduceEqDiff, reduceCtorEq, ↓reduceIte]
     refine endK.ret ?_ (by first | rfl | simp [bel_clX, bel_errX]); simp [evRes, getT, retV, Tryz.f143,  encX, tgX, clX, slN]
    ·rw [if_neg he] at i1
     obtain ⟨m, hpc⟩ := i1
     refine bld_err (.un m) _ he (by rw [hr, if_pos he]) ?_
     cases m
     all_goals
      refine PC.walk tok mixed cfg0 Tryz.func143 rfl Tryz.call143 (by simp [bel_clX, bel_errX]) (by first | rfl | simp [bel_clX, bel_errX]) ?_; simp (maxSteps := 2000000) -implicitDefEqProofs +contextual (disch := first | assumption | omega | decide +kernel) only [push_cast, ↓capI, seval, Nat.reduceLeDiff, Nat.reduceEqDiff, reduceCtorEq, ↓reduceIte, Tryz.ntmps143]
      refine callO.pc hpc ?_
      simp (maxSteps := 2000000) -implicitDefEqProofs +contextual (disch := first | assumption | omega | decide +kernel) only [push_cast, ↓capI, seval, Nat.reduceLeDiff, Nat.reduceEqDiff, reduceCtorEq, ↓reduceIte, errX]
      refine endK.ret ?_ (by first | rfl | simp [bel_clX, bel_errX]); simp [evRes, getT, retV, Tryz.f143,  errX]
   by_cases h45 : o = 4 ∨ o = 5
   ·have hc : chk1 sw ⟨o, n⟩ = 0 := chk1_op (.inr h45)
    have ha : arity o = 2 := by rcases h45 with h | h <;> rw [h] <;> rfl
    have hr : chk sw (k + 1) (⟨o, n⟩ :: l) = if (chk sw k l).2 ≠ 0 then ([], (chk sw k l).2) else if (chk sw k (chk sw k l).1).2 ≠ 0 then ([], (chk sw k (chk sw k l).1).2) else ((chk sw k (chk sw k l).1).1, 0) := by
     rw [chk, if_neg (fun g => g hc)]
     simp only [ha]
     rfl
    have i1 := ih l hk2 hm2
    have hlen := chk_len sw k l
    have i2 := ih (chk sw k l).1 (by omega) (by omega)
    rw [bldR] at i1 i2
    by_cases he : (chk sw k l).2 = 0
    case neg =>
     rw [if_neg he] at i1
     obtain ⟨m, hpc⟩ := i1
     refine bld_err .no _ he (by rw [hr, if_pos he]) ?_
     rcases h45 with h | h <;> subst h
     all_goals
      refine PC.walk tok mixed cfg0 Tryz.func143 rfl Tryz.call143 (by simp [bel_clX, bel_errX]) (by first | rfl | simp [bel_clX, bel_errX]) ?_; simp (maxSteps := 2000000) -implicitDefEqProofs +contextual (disch := first | assumption | omega | decide +kernel) only [push_cast, ↓capI, seval, Nat.reduceLeDiff, Nat.reduceEqDiff, reduceCtorEq, ↓reduceIte, Tryz.ntmps143]
      refine callO.pc hpc ?_
      (try simp (maxSteps := 2000000) -implicitDefEqProofs +contextual (disch := first | assumption | omega | decide +kernel) only [push_cast, ↓capI, seval, Nat.reduceLeDiff, Nat.reduceEqDiff, reduceCtorEq, ↓reduceIte, he])
      refine endK.ret ?_ (by first | rfl | simp [bel_clX, bel_errX]); simp [evRes, getT, retV, Tryz.f143,  errX]
    rw [if_pos he] at i1
    rw [if_neg (fun g => g he)] at hr
    obtain ⟨p, hp, hl1, hpc⟩ := i1
    generalize chk sw k l = c at *
    obtain ⟨r, e⟩ := c
    simp only at he hl1 hpc i2 hr hlen
    by_cases he2 : (chk sw k r).2 = 0
    ·rw [if_pos he2] at i2
     rw [if_neg (fun g => g he2)] at hr
     obtain ⟨q, hq, hl2, hpc2⟩ := i2
     refine bld_ok (.bin ⟨o, n⟩ p q) ⟨h45, hp, hq⟩ (chk sw k r).1 hr (by rw [flat, List.cons_append, List.append_assoc, ← hl2, ← hl1]) ?_
     rcases h45 with h | h <;> subst h
     all_goals
      refine PC.walk tok mixed cfg0 Tryz.func143 rfl Tryz.call143 (by simp [bel_clX, bel_errX]) (by first | rfl | simp [bel_clX, bel_errX]) ?_; simp (maxSteps := 2000000) -implicitDefEqProofs +contextual (disch := first | assumption | omega | decide +kernel) only [push_cast, ↓capI, seval, Nat.reduceLeDiff, Nat.reduceEqDiff, reduceCtorEq, ↓reduceIte, Tryz.ntmps143]
      refine callO.pc hpc ?_
      simp (maxSteps := 2000000) -implicitDefEqProofs +contextual (disch := first | assumption | omega | decide +kernel) only [push_cast, ↓capI, seval, Nat.reduceLeDiff, Nat.reduceEqDiff, reduceCtorEq, ↓reduceIte]
      refine callO.pc hpc2 ?_
      simp (maxSteps := 2000000) -implicitDefEqProofs +contextual (disch := first | assumption | omega | decide +kernel) only [push_cast, ↓capI, seval, Nat.reduceLeDiff, Nat.reduceEqDiff, reduceCtorEq, ↓reduceIte]
      refine endK.ret ?_ (by first | rfl | simp [bel_clX, bel_errX]); simp [evRes, getT, retV, Tryz.f143,  encX, tgX, clX, slN]
    ·rw [if_neg he2] at i2
     rw [if_pos he2] at hr
     obtain ⟨m, hpc2⟩ := i2
     refine bld_err (.bin o p m) _ he2 hr ?_
     rcases h45 with h | h <;> subst h
     all_goals cases m
     all_goals
      refine PC.walk tok mixed cfg0 Tryz.func143 rfl Tryz.call143 (by simp [bel_clX, bel_errX]) (by first | rfl | simp [bel_clX, bel_errX]) ?_; simp (maxSteps := 2000000) -implicitDefEqProofs +contextual (disch := first | assumption | omega | decide +kernel) only [push_cast, ↓capI, seval, Nat.reduceLeDiff, Nat.reduceEqDiff, reduceCtorEq, ↓reduceIte, Tryz.ntmps143]
      refine callO.pc hpc ?_
      simp (maxSteps := 2000000) -implicitDefEqProofs +contextual (disch := first | assumption | omega | decide +kernel) only [push_cast, ↓capI, seval, Nat.reduceLeDiff, Nat.reduceEqDiff, reduceCtorEq, ↓reduceIte]
      refine callO.pc hpc2 ?_
      simp (maxSteps := 2000000) -implicitDefEqProofs +contextual (disch := first | assumption | omega | decide +kernel) only [push_cast, ↓capI, seval, Nat.reduceLeDiff, Nat.reduceEqDiff, reduceCtorEq, ↓reduceIte, errX]
      refine endK.ret ?_ (by first | rfl | simp [bel_clX, bel_errX]); simp [evRes, getT, retV, Tryz.f143,  errX, encX]
   ·have ha : arity o = -1 := by rw [arity, if_neg (by omega), if_neg h6, if_neg h45]
    have hc : chk1 sw ⟨o, n⟩ = 11 := by
     rw [chk1]
     simp only [ha]
     rfl
    have n4 : ¬ o = 4 := by omega
    have n5 : ¬ o = 5 := by omega
    refine bld_err .no 11 (by decide) (by rw [chk, hc, if_pos (by decide)]) ?_
    refine PC.walk tok mixed cfg0 Tryz.func143 rfl Tryz.call143 (by simp [bel_clX, bel_errX]) (by first | rfl | simp [bel_clX, bel_errX]) ?_; simp (maxSteps := 2000000) -implicitDefEqProofs +contextual (disch := first | assumption | omega | decide +kernel) only [push_cast, ↓capI, seval, Nat.reduceLeDiff, Nat.reduceEqDiff, reduceCtorEq, ↓reduceIte, Tryz.ntmps143]
    (try simp (maxSteps := 2000000) -implicitDefEqProofs +contextual (disch := first | assumption | omega | decide +kernel) only [push_cast, ↓capI, seval, Nat.reduceLeDiff, Nat.reduceEqDiff, reduceCtorEq, ↓reduceIte, n1, n2, h3, n4, n5, h6])
    refine endK.ret ?_ (by first | rfl | simp [bel_clX, bel_errX]); simp [evRes, getT, retV, Tryz.f143,  errX]
end Go.Proofs.YtlbmbbaefncleaaGreatDoor.Px
