/-
  A library of the claim's own, part 6 of 6: a reckoner over abstract values and objects for the model's code, and that it is sound. No statement of a program stands here.
-/
import Derived.Test.YtlbmbbaefncleaaGreatDoorVm5
set_option linter.all false
namespace Go.Vm
abbrev W64 := BitVec 64
section
variable {x y : W64} {a b n : Int}
theorem u64_wrap (n : Int) : IntKind.u64.wrap n = ((BitVec.ofInt 64 n).toNat : Int) := by
 simp only [IntKind.wrap, BitVec.toNat_ofInt]
 simp [IntKind.signed, IntKind.bits]
 omega
theorem w_wrap : IntKind.u64.wrap (x.toNat : Int) = x.toNat := by
 rw [u64_wrap, BitVec.ofInt_natCast, BitVec.ofNat_toNat, BitVec.setWidth_eq]
theorem w_ofInt : BitVec.ofInt 64 (x.toNat : Int) = x := by
 rw [BitVec.ofInt_natCast, BitVec.ofNat_toNat, BitVec.setWidth_eq]
theorem w_nat {k : Nat} (h : k < 2 ^ 64) : IntKind.u64.wrap (k : Int) = k := by
 rw [u64_wrap, BitVec.ofInt_natCast, BitVec.toNat_ofNat, Nat.mod_eq_of_lt h]
theorem ib_and : ibits .and .u64 a b = ((BitVec.ofInt 64 a &&& BitVec.ofInt 64 b).toNat : Int) := by
 simp only [ibits]
 exact w_nat (BitVec.isLt (BitVec.ofInt 64 a &&& BitVec.ofInt 64 b))
theorem ib_or : ibits .or .u64 a b = ((BitVec.ofInt 64 a ||| BitVec.ofInt 64 b).toNat : Int) := by
 simp only [ibits]
 exact w_nat (BitVec.isLt (BitVec.ofInt 64 a ||| BitVec.ofInt 64 b))
theorem ib_xor : ibits .xor .u64 a b = ((BitVec.ofInt 64 a ^^^ BitVec.ofInt 64 b).toNat : Int) := by
 simp only [ibits]
 exact w_nat (BitVec.isLt (BitVec.ofInt 64 a ^^^ BitVec.ofInt 64 b))
theorem ib_andNot : ibits .andNot .u64 a b = ((BitVec.ofInt 64 a &&& ~~~ BitVec.ofInt 64 b).toNat : Int) := by
 simp only [ibits]
 exact w_nat (BitVec.isLt (BitVec.ofInt 64 a &&& ~~~ BitVec.ofInt 64 b))
theorem ib_not : ibits .xor .u64 (if IntKind.u64.signed = true then -1 else IntKind.u64.max) a = ((~~~ BitVec.ofInt 64 a).toNat : Int) := by
 have : BitVec.ofInt 64 (if IntKind.u64.signed = true then -1 else IntKind.u64.max) = BitVec.allOnes 64 := by decide
 rw [ib_xor, this, BitVec.allOnes_xor]
theorem w_shl {k : Nat} : ishl .u64 (x.toNat : Int) (k : Int) = ((x <<< k).toNat : Int) := by
 simp only [ishl, Int.toNat_natCast]
 rw [u64_wrap]
 congr 1
 have hb : IntKind.u64.bits = 64 := rfl
 rw [hb, show ((x.toNat : Int) * 2 ^ min k 64) = ((x.toNat * 2 ^ min k 64 : Nat) : Int) by push_cast; rfl, BitVec.ofInt_natCast, BitVec.toNat_ofNat, BitVec.toNat_shiftLeft, Nat.shiftLeft_eq]
 by_cases h : k ≤ 64
 ·rw [Nat.min_eq_left h]
 ·rw [Nat.min_eq_right (by omega)]
  have e : (2 : Nat) ^ k = 2 ^ 64 * 2 ^ (k - 64) := by rw [← Nat.pow_add]; congr 1; omega
  rw [e, ← Nat.mul_assoc, Nat.mul_mod_left, Nat.mul_right_comm, Nat.mul_mod_left]
theorem w_shr {k : Nat} : ishr .u64 (x.toNat : Int) (k : Int) = ((x >>> k).toNat : Int) := by
 simp only [ishr, Int.toNat_natCast]
 have hb : IntKind.u64.bits = 64 := rfl
 rw [hb, show ((2 : Int) ^ min k 64) = ((2 ^ min k 64 : Nat) : Int) by push_cast; rfl, BitVec.toNat_ushiftRight, Nat.shiftRight_eq_div_pow]
 rw [Int.fdiv_eq_ediv_of_nonneg _ (Int.natCast_nonneg _), ← Int.natCast_ediv]
 congr 1
 by_cases h : k ≤ 64
 ·rw [Nat.min_eq_left h]
 ·rw [Nat.min_eq_right (by omega)]
  have hx := x.isLt
  rw [Nat.div_eq_of_lt hx, Nat.div_eq_of_lt]
  exact Nat.lt_of_lt_of_le hx (Nat.pow_le_pow_right (by omega) (by omega))
theorem w_add : IntKind.u64.wrap ((x.toNat : Int) + y.toNat) = ((x + y).toNat : Int) := by
 rw [u64_wrap, BitVec.ofInt_add, w_ofInt, w_ofInt]
theorem w_sub : IntKind.u64.wrap ((x.toNat : Int) - y.toNat) = ((x - y).toNat : Int) := by
 rw [u64_wrap, Int.sub_eq_add_neg, BitVec.ofInt_add, BitVec.ofInt_neg, w_ofInt, w_ofInt, BitVec.sub_eq_add_neg]
theorem w_mul : IntKind.u64.wrap ((x.toNat : Int) * y.toNat) = ((x * y).toNat : Int) := by
 rw [u64_wrap, BitVec.ofInt_mul, w_ofInt, w_ofInt]
theorem w_inj : ((x.toNat : Int) = y.toNat) ↔ x = y := by rw [Int.natCast_inj, BitVec.toNat_inj]
theorem w_nat_inj : (x.toNat = y.toNat) ↔ x = y := BitVec.toNat_inj
theorem w_lit {k : Nat} (h : k < 2 ^ 64) : ((x.toNat : Int) = (k : Int)) ↔ x = BitVec.ofNat 64 k := by
 rw [Int.natCast_inj]
 constructor
 ·intro e; rw [← e, BitVec.ofNat_toNat, BitVec.setWidth_eq]
 ·rintro rfl; rw [BitVec.toNat_ofNat, Nat.mod_eq_of_lt h]
theorem w_zero : ((x.toNat : Int) = 0) ↔ x = 0#64 := by
 have := w_lit (x := x) (k := 0) (by decide)
 simpa using this
theorem w_one : ((x.toNat : Int) = 1) ↔ x = 1#64 := by
 have := w_lit (x := x) (k := 1) (by decide)
 simpa using this
theorem w_eqb : ((x.toNat : Int) == (y.toNat : Int)) = decide (x = y) := by
 by_cases h : x = y
 ·subst h; simp
 ·rw [decide_eq_false h]
  have : ¬ ((x.toNat : Int) = y.toNat) := fun e => h (w_inj.1 e)
  simp [this]
theorem w_eqb0 : ((x.toNat : Int) == 0) = decide (x = 0#64) := by
 by_cases h : x = 0#64
 ·subst h; simp
 ·rw [decide_eq_false h]
  have : ¬ ((x.toNat : Int) = 0) := fun e => h (w_zero.1 e)
  simpa using this
end
end Go.Vm
namespace Go.Vm
section
variable {α : Type}
theorem ldrop_cons {l : List α} {j : Nat} (h : j < l.length) : l.drop j = l[j] :: l.drop (j + 1) := List.drop_eq_getElem_cons h
theorem deq_cons [DecidableEq α] {a b : List α} {j : Nat} (ha : j < a.length) (hb : j < b.length) {q : Bool} (h : decide (a.drop j = b.drop j) = q) :
  (a[j] ≠ b[j] → q = false) ∧ (a[j] = b[j] → decide (a.drop (j + 1) = b.drop (j + 1)) = q) := by
 have e : (a.drop j = b.drop j) ↔ (a[j] = b[j] ∧ a.drop (j + 1) = b.drop (j + 1)) := by rw [ldrop_cons ha, ldrop_cons hb, List.cons.injEq]
 cases q with
 | true =>
  have h := e.1 (of_decide_eq_true h)
  exact ⟨fun hn => absurd h.1 hn, fun _ => decide_eq_true h.2⟩
 | false =>
  have h := of_decide_eq_false h
  exact ⟨fun _ => rfl, fun h1 => decide_eq_false fun h2 => h (e.2 ⟨h1, h2⟩)⟩
theorem deq_end [DecidableEq α] {a b : List α} {j : Nat} (ha : a.length ≤ j) (hb : b.length ≤ j) {q : Bool} (h : decide (a.drop j = b.drop j) = q) : q = true := by
 rw [List.drop_of_length_le ha, List.drop_of_length_le hb] at h
 simpa using h.symm
theorem lany_cons {f : α → Bool} {l : List α} {j : Nat} {r : Bool} (h : j < l.length) (hr : (l.drop j).any f = r) : (f l[j] = true → r = true) ∧ (f l[j] = false → (l.drop (j + 1)).any f = r) := by
 rw [ldrop_cons h, List.any_cons] at hr
 cases hf : f l[j] with
 | true => rw [hf] at hr; exact ⟨fun _ => by simpa using hr.symm, fun h => by simp at h⟩
 | false => rw [hf] at hr; exact ⟨fun h => by simp at h, fun _ => by simpa using hr⟩
theorem lany_end {f : α → Bool} {l : List α} {j : Nat} {r : Bool} (h : ¬ j < l.length) (hr : (l.drop j).any f = r) : r = false := by
 rw [List.drop_of_length_le (by omega)] at hr; exact hr.symm
theorem lgetD {l : List α} {d : α} {j : Nat} (h : j < l.length) : l.getD j d = l[j] := by rw [List.getD_eq_getElem?_getD, List.getElem?_eq_getElem h]; rfl
end
end Go.Vm
