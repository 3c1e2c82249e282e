/-
  Chapter 44: heavy lists; equality of lists of nodes.
-/
import Derived.Test.YtlbmbbaefncleaaGreatDoorPdChk
set_option maxRecDepth 100000
set_option maxHeartbeats 4000000
set_option linter.all false
namespace Go.Proofs.YtlbmbbaefncleaaGreatDoor.Pd
open Go.Vm
theorem eq8 (a b : UInt8) : ((a.toNat : Int) = b.toNat) = (a = b) := propext ⟨fun h => UInt8.toNat_inj.1 (by omega), fun h => by rw [h]⟩
def cntN (l : List Nd) (o : Int) (i : Nat) : Nat := (l.take i).countP (fun x => x.op = o)
theorem cntN0 (l : List Nd) (o : Int) : cntN l o 0 = 0 := rfl
theorem cntN_succ (l : List Nd) (o : Int) (i : Nat) (h : i < l.length) : cntN l o (i + 1) = cntN l o i + if l[i].op = o then 1 else 0 := by
 rw [cntN, List.take_succ_eq_append_getElem h, List.countP_append, List.countP_singleton]
 simp only [decide_eq_true_eq]
 rfl
theorem cntN_le (l : List Nd) (o : Int) (i : Nat) : cntN l o i ≤ i := by
 refine Nat.le_trans List.countP_le_length ?_
 rw [List.length_take]
 omega
def heavy (l : List Nd) : Bool := decide (60 < l.length) || (decide (0 < cntN l 4 l.length) && decide (6 < cntN l 3 l.length))
def eqL (a b : List Nd) (i : Nat) : Prop := ∀ j, j < i → ∀ (h : j < a.length) (h2 : j < b.length), a[j].op = b[j].op ∧ (a[j].op = 3 → a[j] = b[j])
attribute [local push_cast] fmN fm0 take_N toN1 slN_nil encN slN cfg0 gfp_lenN gfd_lenN lfl_lenN
theorem pc53 (a b : List Nd) (ha : a.length ≤ 4000000) (hb : b.length ≤ 4000000) (r : Bool) (hr : r = true ↔ (a.length = b.length ∧ eqL a b a.length)) : PC Tryz.prog 53 [slN a, slN b] (.bool r) := by
 by_cases hn : a.length = b.length
 case neg =>
  have h0 : r = false := by
   cases r
   ·rfl
   ·exact absurd (hr.1 rfl).1 hn
  refine PC.walk tok mixed cfg0 Tryz.func53 rfl Tryz.call53 (by simp [fmN, fm0]) (by first | rfl | simp [fmN, fm0]) ?_; refine vms1 Tryz.ntmps53 ?_
  refine endK.ret ?_ (by first | rfl | simp [fmN, fm0]); simp [evRes, getT, retV, Tryz.f53,  h0]
 refine PC.walk tok mixed cfg0 Tryz.func53 rfl Tryz.call53 (by simp [fmN, fm0]) (by first | rfl | simp [fmN, fm0]) ?_; refine vms1 Tryz.ntmps53 ?_
 refine vms1 hn ?_
 refine T.lp tok mixed cfg0 (fun (i : Nat) => kp 2 (dd 3 (sv (.int .i64 i) (dd 41 (nl))))) (fun H0 (i : Nat) => []) (fun (i : Nat) => i ≤ a.length ∧ eqL a b i) (fun (i : Nat) => a.length - i) (0) ?_ ?_ ?_
 ·exact ⟨Nat.zero_le _, fun j hj => absurd hj (Nat.not_lt_zero j)⟩
 ·exact Gn.canon (J := []) (by first | rfl | (simp [List.append_nil]; done) | (simp [List.append_nil]; rfl)) (by simp [wk, slN, cntN0, putT, kp, dd, sv, nl]) (by simp [List.length_append]) (by simp [fmN, fm0, kp, dd, sv, nl]) (by simp [fmN, fm0])
 rintro i ⟨hi, he⟩
 by_cases hlt : i < a.length
 case neg =>
  have hi' : i = a.length := by omega
  subst hi'
  refine vms0 ?_
  refine endK.ret ?_ (by first | rfl | simp [fmN, fm0]); simp [evRes, getT, retV, Tryz.f53,  hr.2 ⟨hn, he⟩]
 have hlt2 : i < b.length := by omega
 by_cases ho : a[i].op = b[i].op
 case neg =>
  have h0 : r = false := by
   cases r
   ·rfl
   ·exact absurd ((hr.1 rfl).2 i hlt hlt hlt2).1 ho
  refine vms1 ho ?_
  refine endK.ret ?_ (by first | rfl | simp [fmN, fm0]); simp [evRes, getT, retV, Tryz.f53,  h0]
 have hx : ∀ h : (a[i].op = 3 → a[i] = b[i]), eqL a b (i + 1) := by
  intro h j hj h1 h2
  by_cases e : j = i
  ·subst e
   exact ⟨ho, h⟩
  ·exact he j (by omega) h1 h2
 by_cases h3 : a[i].op = 3
 case neg =>
  rw [ho] at h3
  refine vms2 ho h3 ?_
  refine ⟨i + 1, ⟨by omega, hx (fun h => absurd (ho.symm.trans h) h3)⟩, by (try simp only); omega, ?_⟩; exact Gn.canon (by first | rfl | (simp [List.append_nil]; rfl)) (by simp [wk, slN, cntN0]) (by simp [List.length_append]) (by simp [fmN, fm0]) (by simp [fmN, fm0])
 have h3' : b[i].op = 3 := ho.symm.trans h3
 by_cases hq : a[i] = b[i]
 ·refine vms3 h3 h3' hq ?_
  refine ⟨i + 1, ⟨by omega, hx (fun _ => hq)⟩, by (try simp only); omega, ?_⟩; exact Gn.canon (by first | rfl | (simp [List.append_nil]; rfl)) (by simp [wk, slN, cntN0]) (by simp [List.length_append]) (by simp [fmN, fm0]) (by simp [fmN, fm0])
 ·have h0 : r = false := by
   cases r
   ·rfl
   ·exact absurd (((hr.1 rfl).2 i hlt hlt hlt2).2 h3) hq
  by_cases hf : a[i].fd = b[i].fd
  ·by_cases hv : a[i].v = b[i].v
   ·have hm : ¬ a[i].m = b[i].m := by
     intro hm
     apply hq
     generalize a[i] = x at *
     generalize b[i] = y at *
     cases x
     cases y
     simp_all
    simp (maxSteps := 2000000) -implicitDefEqProofs +contextual (disch := first | assumption | omega | decide +kernel) only [push_cast, ↓capI, seval, Nat.reduceLeDiff, Nat.reduceEqDiff, reduceCtorEq, ↓reduceIte, h3, h3', hf, hv, hm, eq8]
    refine endK.ret ?_ (by first | rfl | simp [fmN, fm0]); simp [evRes, getT, retV, Tryz.f53,  h0]
   ·have hvb : ((a[i].v.toNat : Int) == (b[i].v.toNat : Int)) = false := beq_eq_false_iff_ne.2 (by rw [Ne, eq8]; exact hv)
    refine vms4 h3 h3' hf hvb ?_
    refine endK.ret ?_ (by first | rfl | simp [fmN, fm0]); simp [evRes, getT, retV, Tryz.f53,  h0]
  ·refine vms3 h3 h3' hf ?_
   refine endK.ret ?_ (by first | rfl | simp [fmN, fm0]); simp [evRes, getT, retV, Tryz.f53,  h0]
end Go.Proofs.YtlbmbbaefncleaaGreatDoor.Pd
