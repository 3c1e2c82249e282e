/-
  Chapters 7 and 8: cubes as pairs of words, their cells, what the functions answer.
-/
import Derived.Test.YtopnabckbpogeaaTypes
import Derived.Test.YtopnabckbpogeaaVm4
import Derived.Test.YtopnabckbpogeaaVm6
set_option maxRecDepth 100000
set_option linter.all false
namespace Go.Proofs.Ytopnabckbpogeaa
open Go.Vm

structure Cu where
  v : W64
  m : W64
  deriving DecidableEq
instance : Inhabited Cu := ⟨⟨0#64, 0#64⟩⟩
def encC (c : Cu) : List V := [.int .u64 c.v.toNat, .int .u64 c.m.toNat]
def slC (l : List Cu) : V := .sl false (l.flatMap encC) l.length
theorem lenC (x : Cu) : (encC x).length = 2 := rfl
theorem belC {n : Nat} (x : Cu) : belAll n (encC x) = true := rfl
theorem bel_Cs {n : Nat} (xs : List Cu) : belAll n (xs.flatMap encC) = true := belAll_flat belC xs
theorem bel_slC {n : Nat} (l : List Cu) : (slC l).bel n = true := by unfold slC; rw [bel_sl]; exact bel_Cs l
theorem mixed : Try.prog.follows .mixedOrders = true := by kernel_rfl
def cfg0 : Cfg := ⟨[], [], []⟩
theorem ones_C {g : Bool} {p : Prop} : ∀ {xs : List Cu}, ones g (xs.flatMap encC) p = p
  | [] => rfl
  | x :: xs => by simp only [List.flatMap_cons, encC, List.cons_append, List.nil_append, ones, V.one]; exact ones_C
theorem take_C {xs : List Cu} : (xs.flatMap encC).take (xs.length * 2) = xs.flatMap encC := by
  rw [List.take_of_length_le (by rw [len_flat lenC]; exact Nat.le_refl _)]

/-- the w lowest bits -/
def low (w : Nat) : W64 := BitVec.allOnes 64 >>> (64 - w)
theorem low_bit {w i : Nat} (hw : w ≤ 64) (hi : i < 64) : (low w).getLsbD i = decide (i < w) := by
  simp only [low, BitVec.getLsbD_ushiftRight, BitVec.getLsbD_allOnes]
  congr 1
  apply propext
  omega
def okW (w : Int) : Bool := decide (1 ≤ w) && decide (w ≤ 64)
def chkC (c : Cu) (w : Int) : Int := if okW w then (if c.m &&& ~~~ low w.toNat = 0#64 then (if c.v &&& ~~~ c.m = 0#64 then 0 else 5) else 9) else 10
def mem (c : Cu) (n : W64) : Bool := decide ((c.v ^^^ n) &&& c.m = 0#64)
def meet (a b : Cu) : Cu × Bool := if (a.v ^^^ b.v) &&& a.m &&& b.m = 0#64 then (⟨a.v &&& a.m ||| b.v &&& b.m, a.m ||| b.m⟩, true) else (⟨0#64, 0#64⟩, false)
def sub (a b : Cu) : Bool := decide (b.m &&& ~~~ a.m = 0#64) && decide ((a.v ^^^ b.v) &&& b.m = 0#64)
def canon (c : Cu) : Cu := ⟨c.v &&& c.m, c.m⟩
def encCB (r : Cu × Bool) : V := .tup [.agg (encC r.1), .bool r.2]

theorem bit_ext {x y : W64} (h : ∀ i, i < 64 → x.getLsbD i = y.getLsbD i) : x = y := BitVec.eq_of_getLsbD_eq h
theorem and_not_zero {x y : W64} : x &&& ~~~ y = 0#64 ↔ x &&& y = x := by
  constructor
  · intro h
    refine bit_ext fun i hi => ?_
    have := congrArg (fun z => z.getLsbD i) h
    simp only [BitVec.getLsbD_and, BitVec.getLsbD_or, BitVec.getLsbD_not, BitVec.getLsbD_zero, BitVec.getLsbD_xor, decide_true, Bool.true_and, hi] at this ⊢
    generalize x.getLsbD i = a at this ⊢
    generalize y.getLsbD i = b at this ⊢
    revert this
    cases a <;> cases b <;> decide
  · intro h
    refine bit_ext fun i hi => ?_
    have := congrArg (fun z => z.getLsbD i) h
    simp only [BitVec.getLsbD_and, BitVec.getLsbD_or, BitVec.getLsbD_not, BitVec.getLsbD_zero, BitVec.getLsbD_xor, decide_true, Bool.true_and, hi] at this ⊢
    generalize x.getLsbD i = a at this ⊢
    generalize y.getLsbD i = b at this ⊢
    revert this
    cases a <;> cases b <;> decide
theorem xor_and_zero {x y m : W64} : (x ^^^ y) &&& m = 0#64 ↔ x &&& m = y &&& m := by
  constructor
  · intro h
    refine bit_ext fun i hi => ?_
    have := congrArg (fun z => z.getLsbD i) h
    simp only [BitVec.getLsbD_and, BitVec.getLsbD_or, BitVec.getLsbD_not, BitVec.getLsbD_zero, BitVec.getLsbD_xor, decide_true, Bool.true_and, hi] at this ⊢
    generalize x.getLsbD i = a at this ⊢
    generalize y.getLsbD i = b at this ⊢
    generalize m.getLsbD i = c at this ⊢
    revert this
    cases a <;> cases b <;> cases c <;> decide
  · intro h
    refine bit_ext fun i hi => ?_
    have := congrArg (fun z => z.getLsbD i) h
    simp only [BitVec.getLsbD_and, BitVec.getLsbD_or, BitVec.getLsbD_not, BitVec.getLsbD_zero, BitVec.getLsbD_xor, decide_true, Bool.true_and, hi] at this ⊢
    generalize x.getLsbD i = a at this ⊢
    generalize y.getLsbD i = b at this ⊢
    generalize m.getLsbD i = c at this ⊢
    revert this
    cases a <;> cases b <;> cases c <;> decide
end Go.Proofs.Ytopnabckbpogeaa
