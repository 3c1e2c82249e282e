/-
  Chapter 8: what simplified lists are, in plain words.
-/
import Derived.Test.YtopnabckbpogeaaInter
import Derived.Test.YtopnabckbpogeaaCube2
set_option maxRecDepth 100000
set_option maxHeartbeats 4000000
set_option linter.all false
namespace Go.Proofs.Ytopnabckbpogeaa
open Go.Vm

theorem canon_canon {c : Cu} : canon (canon c) = canon c := by
  simp only [canon, BitVec.and_assoc, BitVec.and_self]
theorem sub_canon {a b : Cu} : sub (canon a) (canon b) = sub a b := by
  rw [Bool.eq_iff_iff, sub_iff, sub_iff]
  refine forall_congr' fun j => forall_congr' fun hj => forall_congr' fun hb => and_congr_right fun ha => ?_
  simp only [canon] at ha hb ⊢
  simp only [BitVec.getLsbD_and, BitVec.getLsbD_or, BitVec.getLsbD_not, BitVec.getLsbD_zero, BitVec.getLsbD_xor, decide_true, Bool.true_and, ha, hb, Bool.and_true]
theorem cat_canon {l : List Cu} {k : Nat} : cat (l.map canon) k = canon (cat l k) := by
  simp only [cat, List.getD_eq_getElem?_getD, List.getElem?_map]
  cases l[k]? <;> rfl
theorem redund_canon {l : List Cu} {i : Nat} : redund (l.map canon) i = redund l i := by
  have e : makes (l.map canon) i = makes l i := by
    funext k
    simp only [makes, cat_canon, sub_canon]
  rw [redund, redund, e, List.length_map]
theorem simpTo_canon {l : List Cu} : ∀ {j : Nat}, simpTo (l.map canon) j = simpTo l j
  | 0 => rfl
  | j + 1 => by rw [simpTo, simpTo, simpTo_canon, redund_canon, cat_canon, canon_canon]
theorem simp8_canon {l : List Cu} : simp8 (l.map canon) = simp8 l := by rw [simp8, simp8, List.length_map, simpTo_canon]
def cut0 (k : Nat) (c : Cu) : Cu := ⟨c.v, c.m &&& low k⟩
theorem canon_cut0 {c : Cu} {k : Nat} : canon (cut0 k c) = cutC c k := rfl
theorem simp8_cut0 {l : List Cu} {k : Nat} : simp8 (l.map (cut0 k)) = simp8 (l.map fun c => cutC c k) := by
  rw [← simp8_canon (l := l.map (cut0 k)), List.map_map]
  rfl
end Go.Proofs.Ytopnabckbpogeaa
