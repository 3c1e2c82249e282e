/-
  Chapter 7: the length of a word, the number of its bits that are set.
-/
import Derived.Test.YtlbmbbaefncleaaGreatDoorBase
set_option maxRecDepth 100000
set_option maxHeartbeats 4000000
set_option linter.all false
namespace Go.Proofs.YtlbmbbaefncleaaGreatDoor
open Go.Vm
theorem shr_lit {n : Int} {k : Nat} (hk : k ≤ 64) : ishr .u64 n (k : Int) = n / 2 ^ k := by
 simp only [ishr, Int.toNat_natCast]
 have hb : IntKind.u64.bits = 64 := rfl
 rw [hb, Nat.min_eq_left hk, Int.fdiv_eq_ediv_of_nonneg _ (Int.pow_nonneg (by decide))]
theorem shr32 {n : Int} : ishr .u64 n 32 = n / 4294967296 := shr_lit (k := 32) (by decide)
theorem shr16 {n : Int} : ishr .u64 n 16 = n / 65536 := shr_lit (k := 16) (by decide)
theorem shr8 {n : Int} : ishr .u64 n 8 = n / 256 := shr_lit (k := 8) (by decide)
def tab8 : List UInt8 := [0, 1, 2, 2] ++ List.replicate 4 3 ++ List.replicate 8 4 ++ List.replicate 16 5 ++ List.replicate 32 6 ++ List.replicate 64 7 ++ List.replicate 128 8
def l8 (k : Nat) : Nat := (tab8.getD k 0).toNat
theorem l8_spec : ∀ k, k < 256 → l8 k ≤ 8 ∧ (k = 0 → l8 k = 0) ∧ (k ≠ 0 → 1 ≤ l8 k ∧ 2 ^ (l8 k - 1) ≤ k ∧ k < 2 ^ l8 k) := by decide +kernel
def len64 (x : Nat) : Nat := if x = 0 then 0 else Nat.log2 x + 1
theorem log2_is {x k : Nat} (h1 : 2 ^ k ≤ x) (h2 : x < 2 ^ (k + 1)) : Nat.log2 x = k := by
 have hx : x ≠ 0 := by
  have : 0 < 2 ^ k := Nat.two_pow_pos k
  omega
 have h3 := (Nat.le_log2 hx).2 h1
 have h4 := (Nat.log2_lt hx).2 h2
 omega
theorem len_shift {x s y : Nat} (hy : y = x / 2 ^ s) (h0 : y ≠ 0) (h8 : y < 256) : len64 x = s + l8 y := by
 obtain ⟨_, _, h⟩ := l8_spec y h8
 obtain ⟨h1, h2, h3⟩ := h h0
 have hx : x ≠ 0 := by rintro rfl; rw [Nat.zero_div] at hy; omega
 have e : l8 y - 1 + 1 = l8 y := by omega
 unfold len64
 rw [if_neg hx, log2_is (k := s + (l8 y - 1))]
 ·omega
 ·rw [Nat.pow_add]
  have := Nat.div_mul_le_self x (2 ^ s)
  rw [← hy] at this
  have h4 : 2 ^ s * 2 ^ (l8 y - 1) ≤ 2 ^ s * y := Nat.mul_le_mul_left _ h2
  rw [Nat.mul_comm y] at this
  omega
 ·have h5 : x < 2 ^ s * (y + 1) := by
   rw [hy]
   exact Nat.lt_mul_div_succ x (Nat.two_pow_pos s)
  have h6 : 2 ^ s * (y + 1) ≤ 2 ^ s * 2 ^ l8 y := Nat.mul_le_mul_left _ h3
  rw [show s + (l8 y - 1) + 1 = s + l8 y by omega, Nat.pow_add]
  omega
theorem len_small {x : Nat} (h8 : x < 256) : len64 x = l8 x := by
 by_cases h0 : x = 0
 ·subst h0; rfl
 ·have := len_shift (x := x) (s := 0) (y := x) (by simp) h0 h8
  omega
theorem fin64 {x s y : Nat} {z c : Int} (hz : z = y) (hc : c = s) (hs : s ≤ 56) (h8 : y < 256) (h : len64 x = s + l8 y) : IntKind.i64.wrap (c + IntKind.i64.wrap ((tab8.getD z.toNat 0).toNat : Int)) = (len64 x : Int) := by
 subst hz hc
 have := (l8_spec y h8).1
 rw [Int.toNat_natCast, show (tab8.getD y 0).toNat = l8 y from rfl, i64_ok (n := (l8 y : Int)) (by omega) (by omega), i64_ok (by omega) (by omega), h]
 omega
attribute [local push_cast] cfg0 shr32 shr16 shr8
theorem pc209 (x : Nat) (hx : x < 2 ^ 64) : PC Tryz.prog 209 [.int .u64 x] (.int .i64 (len64 x)) := by
 refine PC.walk tok mixed cfg0 Tryz.func209 rfl Tryz.call209 (by simp) (by first | rfl | simp) ?_; refine vms1 Tryz.ntmps209 ?_
 by_cases h1 : 4294967296 ≤ x <;> by_cases h2 : 65536 ≤ (if 4294967296 ≤ x then x / 4294967296 else x) <;> by_cases h3 : 256 ≤ (if 65536 ≤ (if 4294967296 ≤ x then x / 4294967296 else x) then (if 4294967296 ≤ x then x / 4294967296 else x) / 65536 else (if 4294967296 ≤ x then x / 4294967296 else x))
 all_goals simp only [h1, if_true, if_false] at h2 h3
 all_goals simp only [h2, if_true, if_false] at h3
 all_goals refine vms0 ?_
 all_goals
  generalize hl : List.append (List.append _ _) (List.append _ _) = tl
  have ht : tl = tab8 := by rw [← hl]; rfl
  rw [ht]
  have h256 : tab8.length = 256 := rfl
  rw [h256]
  refine ⟨by omega, fun _ => endK.ret ?_ rfl⟩
  simp only [evRes, getT, retV, Tryz.f209]
  congr 1
 ·exact fin64 (s := 56) (y := x / 4294967296 / 65536 / 256) (by omega) rfl (by decide) (by omega) (len_shift (by rw [Nat.div_div_eq_div_mul, Nat.div_div_eq_div_mul]) (by omega) (by omega))
 ·exact fin64 (s := 48) (y := x / 4294967296 / 65536) (by omega) rfl (by decide) (by omega) (len_shift (by rw [Nat.div_div_eq_div_mul]) (by omega) (by omega))
 ·exact fin64 (s := 40) (y := x / 4294967296 / 256) (by omega) rfl (by decide) (by omega) (len_shift (by rw [Nat.div_div_eq_div_mul]) (by omega) (by omega))
 ·exact fin64 (s := 32) (y := x / 4294967296) (by omega) rfl (by decide) (by omega) (len_shift rfl (by omega) (by omega))
 ·exact fin64 (s := 24) (y := x / 65536 / 256) (by omega) rfl (by decide) (by omega) (len_shift (by rw [Nat.div_div_eq_div_mul]) (by omega) (by omega))
 ·exact fin64 (s := 16) (y := x / 65536) (by omega) rfl (by decide) (by omega) (len_shift rfl (by omega) (by omega))
 ·exact fin64 (s := 8) (y := x / 256) (by omega) rfl (by decide) (by omega) (len_shift rfl (by omega) (by omega))
 ·exact fin64 (s := 0) (y := x) (z := (x : Int)) rfl rfl (by decide) (by omega) (by rw [len_small (by omega)]; omega)
end Go.Proofs.YtlbmbbaefncleaaGreatDoor
