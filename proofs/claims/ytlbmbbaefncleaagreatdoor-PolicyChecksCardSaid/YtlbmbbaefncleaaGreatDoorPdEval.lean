/-
  Chapter 44: the value of a predicate, program and reference.
-/
import Derived.Test.YtlbmbbaefncleaaGreatDoorPdTree
import Derived.Test.YtlbmbbaefncleaaGreatDoorPdMisc
set_option maxRecDepth 100000
set_option maxHeartbeats 4000000
set_option linter.all false
namespace Go.Proofs.YtlbmbbaefncleaaGreatDoor.Pd
open Go.Vm
def evP (f : Fl) : Pr → Bool
 | .leaf x => if x.op = 1 then true else if x.op = 2 then false else decide ((fval f x.fd ^^^ x.v) &&& x.m = 0)
 | .un _ p => !evP f p
 | .bin x p q => if x.op = 5 then evP f p && evP f q else evP f p || evP f q
theorem xz8 (a v m : UInt8) : ((((a.toNat ^^^ v.toNat) &&& m.toNat : Nat) : Int) == 0) = decide ((a ^^^ v) &&& m = 0) := by
 rw [← UInt8.toNat_xor, ← UInt8.toNat_and, Bool.eq_iff_iff, beq_iff_eq, decide_eq_true_eq, zero8]
theorem az8 (a v m : UInt8) : ((((a.toNat &&& m.toNat : Nat) : Int)) == (v.toNat : Int)) = decide (a &&& m = v) := by
 rw [← UInt8.toNat_and, Bool.eq_iff_iff, beq_iff_eq, decide_eq_true_eq, eq8]
attribute [local push_cast] fmN fm0 take_N toN1 slN_nil xor8 and8 zero8 encF encN slN cfg0 gfp_lenN gfd_lenN lfl_lenN
theorem pc97 (f : Fl) : ∀ (p : Pr) (r : List Nd), okP p → (flat p ++ r).length ≤ 4000000 → PC Tryz.prog 97 [slN (flat p ++ r), .agg (encF f)] (.tup [.bool (evP f p), slN r])
 | .leaf x, r, hp, hl => by
  obtain ⟨h0, hc⟩ := hp
  have hl' : r.length + 1 ≤ 4000000 := hl
  show PC Tryz.prog 97 [slN (x :: r), .agg (encF f)] _
  rcases h0 with h | h | h
  ·refine PC.walk tok mixed cfg0 Tryz.func97 rfl Tryz.call97 (by simp [fmN, fm0]) (by first | rfl | simp [fmN, fm0]) ?_; refine vms1 Tryz.ntmps97 ?_
   refine vms1 h ?_
   refine endK.ret ?_ (by first | rfl | simp [fmN, fm0]); simp [evRes, getT, retV, Tryz.f97,  evP, h]
  ·refine PC.walk tok mixed cfg0 Tryz.func97 rfl Tryz.call97 (by simp [fmN, fm0]) (by first | rfl | simp [fmN, fm0]) ?_; refine vms1 Tryz.ntmps97 ?_
   refine vms1 h ?_
   refine endK.ret ?_ (by first | rfl | simp [fmN, fm0]); simp [evRes, getT, retV, Tryz.f97,  evP, h]
  ·refine PC.walk tok mixed cfg0 Tryz.func97 rfl Tryz.call97 (by simp [fmN, fm0]) (by first | rfl | simp [fmN, fm0]) ?_; refine vms1 Tryz.ntmps97 ?_
   refine vms1 h ?_
   refine callG.pc1 (pc145 f x.fd) ?_
   refine vms1 h ?_
   refine endK.ret ?_ (by first | rfl | simp [fmN, fm0]); simp [evRes, getT, retV, Tryz.f97,  evP, h, xz8]
 | .un x p, r, hp, hl => by
  obtain ⟨h4, hp⟩ := hp
  rw [flat, List.cons_append, List.length_cons] at hl
  rw [flat, List.cons_append]
  have i1 := pc97 f p r hp (by omega)
  generalize flat p ++ r = t at hl i1 ⊢
  refine PC.walk tok mixed cfg0 Tryz.func97 rfl Tryz.call97 (by simp [fmN, fm0]) (by first | rfl | simp [fmN, fm0]) ?_; refine vms1 Tryz.ntmps97 ?_
  refine vms1 h4 ?_
  refine callO.pc i1 ?_
  refine vms1 h4 ?_
  refine endK.ret ?_ (by first | rfl | simp [fmN, fm0]); simp [evRes, getT, retV, Tryz.f97,  evP]
 | .bin x p q, r, hp, hl => by
  obtain ⟨h4, hp, hq⟩ := hp
  rw [flat, List.cons_append, List.length_cons, List.append_assoc] at hl
  rw [flat, List.cons_append, List.append_assoc]
  have i1 := pc97 f p (flat q ++ r) hp (by omega)
  have i2 := pc97 f q r hq (by rw [List.length_append] at hl; omega)
  have hl2 : (flat q ++ r).length ≤ 4000000 := by rw [List.length_append] at hl; omega
  generalize flat q ++ r = u at hl hl2 i1 i2 ⊢
  generalize flat p ++ u = t at hl i1 ⊢
  rcases h4 with h | h
  ·refine PC.walk tok mixed cfg0 Tryz.func97 rfl Tryz.call97 (by simp [fmN, fm0]) (by first | rfl | simp [fmN, fm0]) ?_; refine vms1 Tryz.ntmps97 ?_
   refine vms1 h ?_
   refine callO.pc i1 ?_
   refine vms1 h ?_
   refine callO.pc i2 ?_
   cases hb : evP f p
   ·refine vms1 h ?_
    refine endK.ret ?_ (by first | rfl | simp [fmN, fm0]); simp [evRes, getT, retV, Tryz.f97,  evP, h, hb]
   ·refine vms1 h ?_
    refine endK.ret ?_ (by first | rfl | simp [fmN, fm0]); simp [evRes, getT, retV, Tryz.f97,  evP, h, hb]
  ·refine PC.walk tok mixed cfg0 Tryz.func97 rfl Tryz.call97 (by simp [fmN, fm0]) (by first | rfl | simp [fmN, fm0]) ?_; refine vms1 Tryz.ntmps97 ?_
   refine vms1 h ?_
   refine callO.pc i1 ?_
   refine vms1 h ?_
   refine callO.pc i2 ?_
   cases hb : evP f p
   ·refine vms1 h ?_
    refine endK.ret ?_ (by first | rfl | simp [fmN, fm0]); simp [evRes, getT, retV, Tryz.f97,  evP, h, hb]
   ·refine vms1 h ?_
    refine endK.ret ?_ (by first | rfl | simp [fmN, fm0]); simp [evRes, getT, retV, Tryz.f97,  evP, h, hb]
theorem mask8 (a v m : UInt8) (h : v &&& ~~~ m = 0) : ((a ^^^ v) &&& m = 0) ↔ (a &&& m = v) := by
 have h' := UInt8.toBitVec_inj.2 h
 simp only [UInt8.toBitVec_and, UInt8.toBitVec_not] at h'
 have hq : ∀ i, i < 8 → (v.toBitVec.getLsbD i && !m.toBitVec.getLsbD i) = false := by
  intro i hi
  have hb := congrArg (fun x => x.getLsbD i) h'
  simp only [BitVec.getLsbD_and, BitVec.getLsbD_not] at hb
  simp only [hi, decide_true, Bool.true_and] at hb
  simpa using hb
 constructor
 ·intro h
  apply UInt8.toBitVec_inj.1
  have h2 := UInt8.toBitVec_inj.2 h
  simp only [UInt8.toBitVec_and, UInt8.toBitVec_xor] at h2 ⊢
  apply BitVec.eq_of_getLsbD_eq
  intro i hi
  have hb := congrArg (fun x => x.getLsbD i) h2
  have hc := hq i hi
  simp only [BitVec.getLsbD_and, BitVec.getLsbD_xor] at hb ⊢
  revert hb hc
  cases v.toBitVec.getLsbD i <;> cases m.toBitVec.getLsbD i <;> cases a.toBitVec.getLsbD i <;> simp
 ·intro h
  apply UInt8.toBitVec_inj.1
  have h2 := UInt8.toBitVec_inj.2 h
  simp only [UInt8.toBitVec_and, UInt8.toBitVec_xor] at h2 ⊢
  apply BitVec.eq_of_getLsbD_eq
  intro i hi
  have hb := congrArg (fun x => x.getLsbD i) h2
  have hc := hq i hi
  simp only [BitVec.getLsbD_and, BitVec.getLsbD_xor] at hb ⊢
  revert hb hc
  cases v.toBitVec.getLsbD i <;> cases m.toBitVec.getLsbD i <;> cases a.toBitVec.getLsbD i <;> simp
theorem leaf_bad {x : Nd} (h : x.op = 3) (hc : chk1 x = 0) : (0 ≤ x.fd ∧ x.fd ≤ 2) ∧ x.v &&& ~~~ x.m = 0 := by
 rw [chk1, h, if_neg (by decide)] at hc
 split at hc
 ·cases hc
 split at hc
 ·cases hc
 rename_i h1 h2
 refine ⟨?_, ?_⟩
 ·by_cases h3 : x.fd < 0
  ·exact absurd ⟨rfl, .inl h3⟩ h1
  ·by_cases h4 : 2 < x.fd
   ·exact absurd ⟨rfl, .inr h4⟩ h1
   ·omega
 ·have : ¬ badN x = true := fun h => h2 ⟨rfl, h⟩
  rw [badN] at this
  simpa using this
theorem pc66 (f : Fl) (l : List Nd) (hm : l.length ≤ 4000000) : ∀ (p : Pr) (a : Nat) (r : List Nd), okP p → l.drop a = flat p ++ r → PC Tryz.prog 66 [slN l, .int .i64 a, .agg (encF f)] (.bool (evP f p))
 | .leaf x, a, r, hp, hl => by
  obtain ⟨h0, hc⟩ := hp
  obtain ⟨hlt, hX, h2⟩ := drop_cons (x := x) (r := r) hl
  rcases h0 with h | h | h
  ·refine PC.walk tok mixed cfg0 Tryz.func66 rfl Tryz.call66 (by simp [fmN, fm0]) (by first | rfl | simp [fmN, fm0]) ?_; refine vms1 Tryz.ntmps66 ?_
   refine vms2 hX h ?_
   refine endK.ret ?_ (by first | rfl | simp [fmN, fm0]); simp [evRes, getT, retV, Tryz.f66,  evP, h]
  ·refine PC.walk tok mixed cfg0 Tryz.func66 rfl Tryz.call66 (by simp [fmN, fm0]) (by first | rfl | simp [fmN, fm0]) ?_; refine vms1 Tryz.ntmps66 ?_
   refine vms2 hX h ?_
   refine endK.ret ?_ (by first | rfl | simp [fmN, fm0]); simp [evRes, getT, retV, Tryz.f66,  evP, h]
  ·have hb := mask8 (fval f x.fd) x.v x.m (leaf_bad h hc).2
   refine PC.walk tok mixed cfg0 Tryz.func66 rfl Tryz.call66 (by simp [fmN, fm0]) (by first | rfl | simp [fmN, fm0]) ?_; refine vms1 Tryz.ntmps66 ?_
   refine vms2 hX h ?_
   refine callG.pc1 (pc109 f x.fd) ?_
   refine vms1 h ?_
   refine endK.ret ?_ (by first | rfl | simp [fmN, fm0]); simp [evRes, getT, retV, Tryz.f66,  evP, h, hb, az8]
 | .un x p, a, r, hp, hl => by
  obtain ⟨h4, hp⟩ := hp
  obtain ⟨hlt, hX, h2⟩ := drop_cons (x := x) (r := flat p ++ r) (by rw [hl, flat, List.cons_append])
  have i1 := pc66 f l hm p (a + 1) r hp h2
  rw [show ((a + 1 : Nat) : Int) = a + 1 from rfl] at i1
  refine PC.walk tok mixed cfg0 Tryz.func66 rfl Tryz.call66 (by simp [fmN, fm0]) (by first | rfl | simp [fmN, fm0]) ?_; refine vms1 Tryz.ntmps66 ?_
  refine vms2 hX h4 ?_
  refine callO.pc i1 ?_
  refine vms1 h4 ?_
  refine endK.ret ?_ (by first | rfl | simp [fmN, fm0]); simp [evRes, getT, retV, Tryz.f66,  evP]
 | .bin x p q, a, r, hp, hl => by
  obtain ⟨h4, hp, hq⟩ := hp
  obtain ⟨hlt, hX, h2⟩ := drop_cons (x := x) (r := flat p ++ (flat q ++ r)) (by rw [hl, flat, List.cons_append, List.append_assoc])
  have i1 := pc66 f l hm p (a + 1) _ hp h2
  have i2 := pc66 f l hm q (a + 1 + (flat p).length) r hq (drop_app h2)
  have i3 := pc110 p l (a + 1) _ hp h2 hlt hm
  have hn := drop_len hlt h2
  have hnn : (flat p).length ≤ 4000000 := by omega
  rw [show ((a + 1 + (flat p).length : Nat) : Int) = (a : Int) + 1 + ((flat p).length : Nat) by omega] at i2
  rw [show ((a + 1 : Nat) : Int) = a + 1 from rfl] at i1 i3
  rcases h4 with h | h
  ·refine PC.walk tok mixed cfg0 Tryz.func66 rfl Tryz.call66 (by simp [fmN, fm0]) (by first | rfl | simp [fmN, fm0]) ?_; refine vms1 Tryz.ntmps66 ?_
   refine vms2 hX h ?_
   refine callG.pc1 i1 ?_
   cases hb : evP f p
   ·refine vms0 ?_
    refine endK.ret ?_ (by first | rfl | simp [fmN, fm0]); simp [evRes, getT, retV, Tryz.f66,  evP, h, hb]
   ·refine vms0 ?_
    refine callG.pc1 i3 ?_
    refine vms0 ?_
    refine callG.pc1 i2 ?_
    refine vms0 ?_
    refine endK.ret ?_ (by first | rfl | simp [fmN, fm0]); simp [evRes, getT, retV, Tryz.f66,  evP, h, hb]
  ·refine PC.walk tok mixed cfg0 Tryz.func66 rfl Tryz.call66 (by simp [fmN, fm0]) (by first | rfl | simp [fmN, fm0]) ?_; refine vms1 Tryz.ntmps66 ?_
   refine vms2 hX h ?_
   refine callG.pc1 i1 ?_
   cases hb : evP f p
   ·refine vms0 ?_
    refine callG.pc1 i3 ?_
    refine vms0 ?_
    refine callG.pc1 i2 ?_
    refine vms0 ?_
    refine endK.ret ?_ (by first | rfl | simp [fmN, fm0]); simp [evRes, getT, retV, Tryz.f66,  evP, h, hb]
   ·refine vms0 ?_
    refine endK.ret ?_ (by first | rfl | simp [fmN, fm0]); simp [evRes, getT, retV, Tryz.f66,  evP, h, hb]
def evalL (f : Fl) (l : List Nd) (b : Bool) : Prop := (checkP l = 0 ∧ ∃ p, okP p ∧ l = flat p ∧ b = evP f p) ∨ (checkP l ≠ 0 ∧ b = false)
theorem pc60 (f : Fl) (l : List Nd) (hl : l.length ≤ 4000000) (b : Bool) (h : evalL f l b) : PC Tryz.prog 60 [slN l, .agg (encF f)] (.bool b) := by
 rcases h with ⟨hc, p, hp, e, hb⟩ | ⟨hc, hb⟩
 ·have i1 := pc97 f p [] hp (by rw [List.append_nil, ← e]; exact hl)
  rw [List.append_nil, ← e] at i1
  have i0 := pc55 l hl
  rw [hc] at i0
  refine PC.walk tok mixed cfg0 Tryz.func60 rfl Tryz.call60 (by simp [fmN, fm0]) (by first | rfl | simp [fmN, fm0]) ?_; refine vms1 Tryz.ntmps60 ?_
  refine callO.pc i0 ?_
  refine vms0 ?_
  refine callO.pc i1 ?_
  refine vms0 ?_
  refine endK.ret ?_ (by first | rfl | simp [fmN, fm0]); simp [evRes, getT, retV, Tryz.f60,  hb]
 ·refine PC.walk tok mixed cfg0 Tryz.func60 rfl Tryz.call60 (by simp [fmN, fm0]) (by first | rfl | simp [fmN, fm0]) ?_; refine vms1 Tryz.ntmps60 ?_
  refine callO.pc (pc55 l hl) ?_
  refine vms1 hc ?_
  refine endK.ret ?_ (by first | rfl | simp [fmN, fm0]); simp [evRes, getT, retV, Tryz.f60,  hb]
theorem pc28 (f : Fl) (l : List Nd) (hl : l.length ≤ 4000000) (b : Bool) (h : evalL f l b) : PC Tryz.prog 28 [slN l, .agg (encF f)] (.bool b) := by
 rcases h with ⟨hc, p, hp, e, hb⟩ | ⟨hc, hb⟩
 ·have i1 := pc66 f l hl p 0 [] hp (by rw [List.append_nil, ← e, List.drop_zero])
  have i0 := pc58 l hl
  rw [hc] at i0
  refine PC.walk tok mixed cfg0 Tryz.func28 rfl Tryz.call28 (by simp [fmN, fm0]) (by first | rfl | simp [fmN, fm0]) ?_; refine vms1 Tryz.ntmps28 ?_
  refine callO.pc i0 ?_
  refine vms0 ?_
  refine callO.pc i1 ?_
  refine vms0 ?_
  refine endK.ret ?_ (by first | rfl | simp [fmN, fm0]); simp [evRes, getT, retV, Tryz.f28,  hb]
 ·refine PC.walk tok mixed cfg0 Tryz.func28 rfl Tryz.call28 (by simp [fmN, fm0]) (by first | rfl | simp [fmN, fm0]) ?_; refine vms1 Tryz.ntmps28 ?_
  refine callO.pc (pc58 l hl) ?_
  refine vms1 hc ?_
  refine endK.ret ?_ (by first | rfl | simp [fmN, fm0]); simp [evRes, getT, retV, Tryz.f28,  hb]
end Go.Proofs.YtlbmbbaefncleaaGreatDoor.Pd
