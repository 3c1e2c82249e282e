/-
  Joined by a program from the texts Bits Fmt Fmt2 Fmt3 Fmt4 Rnum Rnum2.
-/
import Derived.Test.YtafongdfnpnneaaGreatDoorMa
/- Chapter 7: the length of a word, the number of its bits that are set. -/
set_option maxRecDepth 100000
set_option maxHeartbeats 4000000
set_option linter.all false
namespace Go.Proofs.YtafongdfnpnneaaGreatDoor
open Go.Vm

theorem shr_lit {n : Int} {k : Nat} (hk : k ≤ 64) : ishr .u64 n (k : Int) = n / 2 ^ k := by
  simp only [ishr, Int.toNat_natCast]
  have hb : IntKind.u64.bits = 64 := rfl
  rw [hb, Nat.min_eq_left hk, Int.fdiv_eq_ediv_of_nonneg _ (Int.pow_nonneg (by decide))]
theorem shr32 {n : Int} : ishr .u64 n 32 = n / 4294967296 := shr_lit (k := 32) (by decide)
theorem shr16 {n : Int} : ishr .u64 n 16 = n / 65536 := shr_lit (k := 16) (by decide)
theorem shr8 {n : Int} : ishr .u64 n 8 = n / 256 := shr_lit (k := 8) (by decide)
def tab8 : List UInt8 := [0, 1, 2, 2] ++ List.replicate 4 3 ++ List.replicate 8 4 ++ List.replicate 16 5 ++ List.replicate 32 6 ++ List.replicate 64 7 ++ List.replicate 128 8
def l8 (k : Nat) : Nat := (tab8.getD k 0).toNat
theorem l8_spec : ∀ k, k < 256 → l8 k ≤ 8 ∧ (k = 0 → l8 k = 0) ∧ (k ≠ 0 → 1 ≤ l8 k ∧ 2 ^ (l8 k - 1) ≤ k ∧ k < 2 ^ l8 k) := by decide +kernel
/-- the number of binary digits -/
def len64 (x : Nat) : Nat := if x = 0 then 0 else Nat.log2 x + 1
theorem log2_is {x k : Nat} (h1 : 2 ^ k ≤ x) (h2 : x < 2 ^ (k + 1)) : Nat.log2 x = k := by
  have hx : x ≠ 0 := by
    have : 0 < 2 ^ k := Nat.two_pow_pos k
    omega
  have h3 := (Nat.le_log2 hx).2 h1
  have h4 := (Nat.log2_lt hx).2 h2
  omega
theorem len_shift {x s y : Nat} (hy : y = x / 2 ^ s) (h0 : y ≠ 0) (h8 : y < 256) : len64 x = s + l8 y := by
  obtain ⟨_, _, h⟩ := l8_spec y h8
  obtain ⟨h1, h2, h3⟩ := h h0
  have hx : x ≠ 0 := by rintro rfl; rw [Nat.zero_div] at hy; omega
  have e : l8 y - 1 + 1 = l8 y := by omega
  unfold len64
  rw [if_neg hx, log2_is (k := s + (l8 y - 1))]
  · omega
  · rw [Nat.pow_add]
    have := Nat.div_mul_le_self x (2 ^ s)
    rw [← hy] at this
    have h4 : 2 ^ s * 2 ^ (l8 y - 1) ≤ 2 ^ s * y := Nat.mul_le_mul_left _ h2
    rw [Nat.mul_comm y] at this
    omega
  · have h5 : x < 2 ^ s * (y + 1) := by
      rw [hy]
      exact Nat.lt_mul_div_succ x (Nat.two_pow_pos s)
    have h6 : 2 ^ s * (y + 1) ≤ 2 ^ s * 2 ^ l8 y := Nat.mul_le_mul_left _ h3
    rw [show s + (l8 y - 1) + 1 = s + l8 y by omega, Nat.pow_add]
    omega
theorem len_small {x : Nat} (h8 : x < 256) : len64 x = l8 x := by
  by_cases h0 : x = 0
  · subst h0; rfl
  · have := len_shift (x := x) (s := 0) (y := x) (by simp) h0 h8
    omega
theorem fin64 {x s y : Nat} {z c : Int} (hz : z = y) (hc : c = s) (hs : s ≤ 56) (h8 : y < 256) (h : len64 x = s + l8 y) : IntKind.i64.wrap (c + IntKind.i64.wrap ((tab8.getD z.toNat 0).toNat : Int)) = (len64 x : Int) := by
  subst hz hc
  have := (l8_spec y h8).1
  rw [Int.toNat_natCast, show (tab8.getD y 0).toNat = l8 y from rfl, i64_ok (n := (l8 y : Int)) (by omega) (by omega), i64_ok (by omega) (by omega), h]
  omega
theorem pc95 (x : Nat) (hx : x < 2 ^ 64) : PC Tryz.prog 95 [.int .u64 x] (.int .i64 (len64 x)) := by
  refine PC.walk tok mixed cfg0 Tryz.func95 rfl Tryz.call95 (by simp [belC, bel_Cs, bel_slC]) (by first | rfl | simp [belC, bel_Cs, bel_slC]) ?_; simp (maxSteps := 2000000) -implicitDefEqProofs +contextual (disch := first | assumption | omega | decide +kernel) only [push_cast, ↓capI, br2_true, br2_false, frk_tt, frk_tf, frk_f, frkD_tt, frkD_tf, frkD_f, pk2_true, pk2_false, imp_true, seval, Nat.reduceLeDiff, Nat.reduceEqDiff, reduceCtorEq, ↓reduceIte, encC, cfg0, shr32, shr16, shr8, Tryz.ntmps95]
  by_cases h1 : 4294967296 ≤ x <;> by_cases h2 : 65536 ≤ (if 4294967296 ≤ x then x / 4294967296 else x) <;> by_cases h3 : 256 ≤ (if 65536 ≤ (if 4294967296 ≤ x then x / 4294967296 else x) then (if 4294967296 ≤ x then x / 4294967296 else x) / 65536 else (if 4294967296 ≤ x then x / 4294967296 else x))
  all_goals simp only [h1, if_true, if_false] at h2 h3
  all_goals simp only [h2, if_true, if_false] at h3
  all_goals simp (maxSteps := 2000000) -implicitDefEqProofs +contextual (disch := first | assumption | omega | decide +kernel) only [push_cast, ↓capI, br2_true, br2_false, frk_tt, frk_tf, frk_f, frkD_tt, frkD_tf, frkD_f, pk2_true, pk2_false, imp_true, seval, Nat.reduceLeDiff, Nat.reduceEqDiff, reduceCtorEq, ↓reduceIte, encC, cfg0, shr32, shr16, shr8]
  all_goals
    generalize hl : List.append (List.append _ _) (List.append _ _) = tl
    have ht : tl = tab8 := by rw [← hl]; rfl
    rw [ht]
    have h256 : tab8.length = 256 := rfl
    rw [h256]
    refine ⟨by omega, fun _ => endK.ret ?_ rfl⟩
    simp only [evRes, getT, retV, Tryz.f95]
    congr 1
  · exact fin64 (s := 56) (y := x / 4294967296 / 65536 / 256) (by omega) rfl (by decide) (by omega) (len_shift (by rw [Nat.div_div_eq_div_mul, Nat.div_div_eq_div_mul]) (by omega) (by omega))
  · exact fin64 (s := 48) (y := x / 4294967296 / 65536) (by omega) rfl (by decide) (by omega) (len_shift (by rw [Nat.div_div_eq_div_mul]) (by omega) (by omega))
  · exact fin64 (s := 40) (y := x / 4294967296 / 256) (by omega) rfl (by decide) (by omega) (len_shift (by rw [Nat.div_div_eq_div_mul]) (by omega) (by omega))
  · exact fin64 (s := 32) (y := x / 4294967296) (by omega) rfl (by decide) (by omega) (len_shift rfl (by omega) (by omega))
  · exact fin64 (s := 24) (y := x / 65536 / 256) (by omega) rfl (by decide) (by omega) (len_shift (by rw [Nat.div_div_eq_div_mul]) (by omega) (by omega))
  · exact fin64 (s := 16) (y := x / 65536) (by omega) rfl (by decide) (by omega) (len_shift rfl (by omega) (by omega))
  · exact fin64 (s := 8) (y := x / 256) (by omega) rfl (by decide) (by omega) (len_shift rfl (by omega) (by omega))
  · exact fin64 (s := 0) (y := x) (z := (x : Int)) rfl rfl (by decide) (by omega) (by rw [len_small (by omega)]; omega)
end Go.Proofs.YtafongdfnpnneaaGreatDoor

/- Chapter 44: integers written by the program and by the reference. -/
set_option maxRecDepth 100000
set_option maxHeartbeats 4000000
set_option linter.all false
namespace Go.Proofs.YtafongdfnpnneaaGreatDoor
open Go.Vm

/-- the digits of a number below 256 -/
def dec8 (n : Nat) : List UInt8 :=
  if n < 10 then [UInt8.ofNat (48 + n)] else if n < 100 then [UInt8.ofNat (48 + n / 10), UInt8.ofNat (48 + n % 10)]
  else [UInt8.ofNat (48 + n / 100), UInt8.ofNat (48 + n / 10 % 10), UInt8.ofNat (48 + n % 10)]
theorem fin100 {P : Nat → Prop} (h : ∀ m : Fin 100, P m.1) {n : Nat} (hn : n < 100) : P n := h ⟨n, hn⟩
theorem u32_id {x : Int} (h : 0 ≤ x ∧ x < 4294967296) : IntKind.u32.wrap x = x := by
  unfold IntKind.wrap
  simp [IntKind.bits, IntKind.signed]
  omega
theorem u8_id {x : Int} (h : 0 ≤ x ∧ x < 256) : IntKind.u8.wrap x = x := by
  unfold IntKind.wrap
  simp [IntKind.bits, IntKind.signed]
  omega
theorem fin10 {P : Nat → Prop} (h : ∀ m : Fin 10, P m.1) {n : Nat} (hn : n < 10) : P n := h ⟨n, hn⟩
theorem fin10n {P : Nat → Prop} (h : ∀ m : Fin 10, P m.1) : ∀ n, n < 10 → P n := fun n hn => h ⟨n, hn⟩
theorem fin100n {P : Nat → Prop} (h : ∀ m : Fin 100, 10 ≤ m.1 → P m.1) : ∀ n, n < 100 → 10 ≤ n → P n := fun n hn h2 => h ⟨n, hn⟩ h2
theorem gl0 : (GlobTab.gl 1 : Option (List (IntKind × Int))) = some [(.u64, 1), (.u64, 10), (.u64, 100), (.u64, 1000), (.u64, 10000), (.u64, 100000), (.u64, 1000000), (.u64, 10000000), (.u64, 100000000), (.u64, 1000000000), (.u64, 10000000000), (.u64, 100000000000), (.u64, 1000000000000), (.u64, 10000000000000), (.u64, 100000000000000), (.u64, 1000000000000000), (.u64, 10000000000000000), (.u64, 100000000000000000), (.u64, 1000000000000000000), (.u64, 10000000000000000000)] := rfl
theorem pc85 (n : Nat) (hn : n < 100) : PC Tryz.prog 85 [.int .i64 n] (.str (dec8 n)) := by
  refine PC.walk tok mixed cfg0 Tryz.func85 rfl Tryz.call85 (by simp ) (by first | rfl | simp ) ?_; simp (maxSteps := 2000000) -implicitDefEqProofs +contextual (disch := first | assumption | omega | decide +kernel) only [push_cast, ↓capI, br2_true, br2_false, frk_tt, frk_tf, frk_f, frkD_tt, frkD_tf, frkD_f, pk2_true, pk2_false, imp_true, seval, Nat.reduceLeDiff, Nat.reduceEqDiff, reduceCtorEq, ↓reduceIte, cfg0, take_rest, ibeq_dec, V.rn, rns, qn, setPs, rnOs, Ob.rn, gl0, glV, List.map, V.st, List.set_cons_zero, List.size_toArray, Tryz.ntmps85]
  refine ⟨fun h => ?_, fun h => ?_⟩
  · have h2 : n < 10 := by omega
    refine endK.ret ?_ (by first | rfl | simp ); simp [evRes, getT, retV, Tryz.f85]
    clear h hn
    revert n
    apply fin10n
    decide
  · have hl : (n : Int) * 2 + 2 ≤ 200 := by omega
    refine ⟨hl, fun _ => ?_⟩
    have h3 : 10 ≤ n := by omega
    have e1 : ((n : Int) * 2 + 2).toNat - ((n : Int) * 2).toNat = 2 := by omega
    have e2 : ((n : Int) * 2).toNat = n * 2 := by omega
    refine endK.ret ?_ (by first | rfl | simp ); simp [evRes, getT, retV, Tryz.f85,  e1, e2]
    rename_i hx
    clear h hl e1 e2 hx
    revert n
    apply fin100n
    decide
theorem pc94 (n : Nat) (hn : n = 7 ∨ n = 8) : PC Tryz.prog 94 [.int .i64 n] (.int .i64 2) := by
  rcases hn with rfl | rfl
  · refine PC.walk tok mixed cfg0 Tryz.func94 rfl Tryz.call94 (by simp ) (by first | rfl | simp ) ?_; simp (maxSteps := 2000000) -implicitDefEqProofs +contextual (disch := first | assumption | omega | decide +kernel) only [push_cast, ↓capI, br2_true, br2_false, frk_tt, frk_tf, frk_f, frkD_tt, frkD_tf, frkD_f, pk2_true, pk2_false, imp_true, seval, Nat.reduceLeDiff, Nat.reduceEqDiff, reduceCtorEq, ↓reduceIte, cfg0, take_rest, ibeq_dec, V.rn, rns, qn, setPs, rnOs, Ob.rn, gl0, glV, List.map, V.st, List.set_cons_zero, List.size_toArray, Tryz.ntmps94]
    refine endK.ret ?_ (by first | rfl | simp ); simp [evRes, getT, retV, Tryz.f94]
    rfl
  · refine PC.walk tok mixed cfg0 Tryz.func94 rfl Tryz.call94 (by simp ) (by first | rfl | simp ) ?_; simp (maxSteps := 2000000) -implicitDefEqProofs +contextual (disch := first | assumption | omega | decide +kernel) only [push_cast, ↓capI, br2_true, br2_false, frk_tt, frk_tf, frk_f, frkD_tt, frkD_tf, frkD_f, pk2_true, pk2_false, imp_true, seval, Nat.reduceLeDiff, Nat.reduceEqDiff, reduceCtorEq, ↓reduceIte, cfg0, take_rest, ibeq_dec, V.rn, rns, qn, setPs, rnOs, Ob.rn, gl0, glV, List.map, V.st, List.set_cons_zero, List.size_toArray, Tryz.ntmps94]
    refine endK.ret ?_ (by first | rfl | simp ); simp [evRes, getT, retV, Tryz.f94]
    rfl
theorem pc96 (b : Bool) : PC Tryz.prog 96 [.bool b] (.int .i64 (if b then 1 else 0)) := by
  cases b
  · refine PC.walk tok mixed cfg0 Tryz.func96 rfl Tryz.call96 (by simp ) (by first | rfl | simp ) ?_; simp (maxSteps := 2000000) -implicitDefEqProofs +contextual (disch := first | assumption | omega | decide +kernel) only [push_cast, ↓capI, br2_true, br2_false, frk_tt, frk_tf, frk_f, frkD_tt, frkD_tf, frkD_f, pk2_true, pk2_false, imp_true, seval, Nat.reduceLeDiff, Nat.reduceEqDiff, reduceCtorEq, ↓reduceIte, cfg0, take_rest, ibeq_dec, V.rn, rns, qn, setPs, rnOs, Ob.rn, gl0, glV, List.map, V.st, List.set_cons_zero, List.size_toArray, Tryz.ntmps96]
    refine endK.ret ?_ (by first | rfl | simp ); simp [evRes, getT, retV, Tryz.f96]
  · refine PC.walk tok mixed cfg0 Tryz.func96 rfl Tryz.call96 (by simp ) (by first | rfl | simp ) ?_; simp (maxSteps := 2000000) -implicitDefEqProofs +contextual (disch := first | assumption | omega | decide +kernel) only [push_cast, ↓capI, br2_true, br2_false, frk_tt, frk_tf, frk_f, frkD_tt, frkD_tf, frkD_f, pk2_true, pk2_false, imp_true, seval, Nat.reduceLeDiff, Nat.reduceEqDiff, reduceCtorEq, ↓reduceIte, cfg0, take_rest, ibeq_dec, V.rn, rns, qn, setPs, rnOs, Ob.rn, gl0, glV, List.map, V.st, List.set_cons_zero, List.size_toArray, Tryz.ntmps96]
    refine endK.ret ?_ (by first | rfl | simp ); simp [evRes, getT, retV, Tryz.f96]
theorem pc86 (n : Nat) (hn : 100 ≤ n ∧ n < 256) : PC Tryz.prog 86 [.int .u64 n] (.int .i64 3) := by
  have h64 : len64 n = 7 ∨ len64 n = 8 := by
    have : n.log2 = 6 ∨ n.log2 = 7 := by
      have h1 : 6 ≤ n.log2 := (Nat.le_log2 (by omega)).2 (by omega)
      have h2 : n.log2 < 8 := (Nat.log2_lt (by omega)).2 (by omega)
      omega
    unfold len64
    rw [if_neg (by omega)]
    omega
  refine PC.walk tok mixed cfg0 Tryz.func86 rfl Tryz.call86 (by simp ) (by first | rfl | simp ) ?_; simp (maxSteps := 2000000) -implicitDefEqProofs +contextual (disch := first | assumption | omega | decide +kernel) only [push_cast, ↓capI, br2_true, br2_false, frk_tt, frk_tf, frk_f, frkD_tt, frkD_tf, frkD_f, pk2_true, pk2_false, imp_true, seval, Nat.reduceLeDiff, Nat.reduceEqDiff, reduceCtorEq, ↓reduceIte, cfg0, take_rest, ibeq_dec, V.rn, rns, qn, setPs, rnOs, Ob.rn, gl0, glV, List.map, V.st, List.set_cons_zero, List.size_toArray, Tryz.ntmps86]
  refine callO.pc (pc95 n (by omega)) ?_
  simp (maxSteps := 2000000) -implicitDefEqProofs +contextual (disch := first | assumption | omega | decide +kernel) only [push_cast, ↓capI, br2_true, br2_false, frk_tt, frk_tf, frk_f, frkD_tt, frkD_tf, frkD_f, pk2_true, pk2_false, imp_true, seval, Nat.reduceLeDiff, Nat.reduceEqDiff, reduceCtorEq, ↓reduceIte, cfg0, take_rest, ibeq_dec, V.rn, rns, qn, setPs, rnOs, Ob.rn, gl0, glV, List.map, V.st, List.set_cons_zero, List.size_toArray]
  refine callO.pc (pc94 _ h64) ?_
  simp (maxSteps := 2000000) -implicitDefEqProofs +contextual (disch := first | assumption | omega | decide +kernel) only [push_cast, ↓capI, br2_true, br2_false, frk_tt, frk_tf, frk_f, frkD_tt, frkD_tf, frkD_f, pk2_true, pk2_false, imp_true, seval, Nat.reduceLeDiff, Nat.reduceEqDiff, reduceCtorEq, ↓reduceIte, cfg0, take_rest, ibeq_dec, V.rn, rns, qn, setPs, rnOs, Ob.rn, gl0, glV, List.map, V.st, List.set_cons_zero, List.size_toArray]
  have h100 : (100 : Int) ≤ (n : Int) := by omega
  refine callO.pc (pc96 true) ?_
  simp (maxSteps := 2000000) -implicitDefEqProofs +contextual (disch := first | assumption | omega | decide +kernel) only [push_cast, ↓capI, br2_true, br2_false, frk_tt, frk_tf, frk_f, frkD_tt, frkD_tf, frkD_f, pk2_true, pk2_false, imp_true, seval, Nat.reduceLeDiff, Nat.reduceEqDiff, reduceCtorEq, ↓reduceIte, cfg0, take_rest, ibeq_dec, V.rn, rns, qn, setPs, rnOs, Ob.rn, gl0, glV, List.map, V.st, List.set_cons_zero, List.size_toArray]
  refine endK.ret ?_ (by first | rfl | simp ); simp [evRes, getT, retV, Tryz.f86]
def z24 : List V := List.replicate 24 (.int .u8 0)
def buf3 (n : Nat) : List V := [.int .u8 0, .int .u8 ((48 + n / 100 : Nat) : Int), .int .u8 ((48 + n / 10 % 10 : Nat) : Int), .int .u8 ((48 + n % 10 : Nat) : Int)] ++ List.replicate 20 (.int .u8 0)
theorem bigL : ((List.append (List.append [48, 48, 48, 49, 48, 50, 48, 51, 48, 52, 48, 53, 48, 54, 48, 55, 48, 56, 48, 57, 49, 48, 49, 49, 49, 50, 49, 51, 49, 52, 49, 53, 49, 54, 49, 55, 49, 56, 49, 57, 50, 48, 50, 49, 50, 50, 50, 51, 50, 52] [50, 53, 50, 54, 50, 55, 50, 56, 50, 57, 51, 48, 51, 49, 51, 50, 51, 51, 51, 52, 51, 53, 51, 54, 51, 55, 51, 56, 51, 57, 52, 48, 52, 49, 52, 50, 52, 51, 52, 52, 52, 53, 52, 54, 52, 55, 52, 56, 52, 57]) (List.append [53, 48, 53, 49, 53, 50, 53, 51, 53, 52, 53, 53, 53, 54, 53, 55, 53, 56, 53, 57, 54, 48, 54, 49, 54, 50, 54, 51, 54, 52, 54, 53, 54, 54, 54, 55, 54, 56, 54, 57, 55, 48, 55, 49, 55, 50, 55, 51, 55, 52] [55, 53, 55, 54, 55, 55, 55, 56, 55, 57, 56, 48, 56, 49, 56, 50, 56, 51, 56, 52, 56, 53, 56, 54, 56, 55, 56, 56, 56, 57, 57, 48, 57, 49, 57, 50, 57, 51, 57, 52, 57, 53, 57, 54, 57, 55, 57, 56, 57, 57])) : List UInt8).length = 200 := rfl
theorem bigA (m : Nat) (h : m < 100) : (((List.append (List.append [48, 48, 48, 49, 48, 50, 48, 51, 48, 52, 48, 53, 48, 54, 48, 55, 48, 56, 48, 57, 49, 48, 49, 49, 49, 50, 49, 51, 49, 52, 49, 53, 49, 54, 49, 55, 49, 56, 49, 57, 50, 48, 50, 49, 50, 50, 50, 51, 50, 52] [50, 53, 50, 54, 50, 55, 50, 56, 50, 57, 51, 48, 51, 49, 51, 50, 51, 51, 51, 52, 51, 53, 51, 54, 51, 55, 51, 56, 51, 57, 52, 48, 52, 49, 52, 50, 52, 51, 52, 52, 52, 53, 52, 54, 52, 55, 52, 56, 52, 57]) (List.append [53, 48, 53, 49, 53, 50, 53, 51, 53, 52, 53, 53, 53, 54, 53, 55, 53, 56, 53, 57, 54, 48, 54, 49, 54, 50, 54, 51, 54, 52, 54, 53, 54, 54, 54, 55, 54, 56, 54, 57, 55, 48, 55, 49, 55, 50, 55, 51, 55, 52] [55, 53, 55, 54, 55, 55, 55, 56, 55, 57, 56, 48, 56, 49, 56, 50, 56, 51, 56, 52, 56, 53, 56, 54, 56, 55, 56, 56, 56, 57, 57, 48, 57, 49, 57, 50, 57, 51, 57, 52, 57, 53, 57, 54, 57, 55, 57, 56, 57, 57])) : List UInt8).getD (m * 2) 0).toNat = 48 + m / 10 := by
  revert m
  exact fun m h => (by decide : ∀ m : Fin 100, (((List.append (List.append [48, 48, 48, 49, 48, 50, 48, 51, 48, 52, 48, 53, 48, 54, 48, 55, 48, 56, 48, 57, 49, 48, 49, 49, 49, 50, 49, 51, 49, 52, 49, 53, 49, 54, 49, 55, 49, 56, 49, 57, 50, 48, 50, 49, 50, 50, 50, 51, 50, 52] [50, 53, 50, 54, 50, 55, 50, 56, 50, 57, 51, 48, 51, 49, 51, 50, 51, 51, 51, 52, 51, 53, 51, 54, 51, 55, 51, 56, 51, 57, 52, 48, 52, 49, 52, 50, 52, 51, 52, 52, 52, 53, 52, 54, 52, 55, 52, 56, 52, 57]) (List.append [53, 48, 53, 49, 53, 50, 53, 51, 53, 52, 53, 53, 53, 54, 53, 55, 53, 56, 53, 57, 54, 48, 54, 49, 54, 50, 54, 51, 54, 52, 54, 53, 54, 54, 54, 55, 54, 56, 54, 57, 55, 48, 55, 49, 55, 50, 55, 51, 55, 52] [55, 53, 55, 54, 55, 55, 55, 56, 55, 57, 56, 48, 56, 49, 56, 50, 56, 51, 56, 52, 56, 53, 56, 54, 56, 55, 56, 56, 56, 57, 57, 48, 57, 49, 57, 50, 57, 51, 57, 52, 57, 53, 57, 54, 57, 55, 57, 56, 57, 57])) : List UInt8).getD (m.1 * 2) 0).toNat = 48 + m.1 / 10) ⟨m, h⟩
theorem bigB (m : Nat) (h : m < 100) : (((List.append (List.append [48, 48, 48, 49, 48, 50, 48, 51, 48, 52, 48, 53, 48, 54, 48, 55, 48, 56, 48, 57, 49, 48, 49, 49, 49, 50, 49, 51, 49, 52, 49, 53, 49, 54, 49, 55, 49, 56, 49, 57, 50, 48, 50, 49, 50, 50, 50, 51, 50, 52] [50, 53, 50, 54, 50, 55, 50, 56, 50, 57, 51, 48, 51, 49, 51, 50, 51, 51, 51, 52, 51, 53, 51, 54, 51, 55, 51, 56, 51, 57, 52, 48, 52, 49, 52, 50, 52, 51, 52, 52, 52, 53, 52, 54, 52, 55, 52, 56, 52, 57]) (List.append [53, 48, 53, 49, 53, 50, 53, 51, 53, 52, 53, 53, 53, 54, 53, 55, 53, 56, 53, 57, 54, 48, 54, 49, 54, 50, 54, 51, 54, 52, 54, 53, 54, 54, 54, 55, 54, 56, 54, 57, 55, 48, 55, 49, 55, 50, 55, 51, 55, 52] [55, 53, 55, 54, 55, 55, 55, 56, 55, 57, 56, 48, 56, 49, 56, 50, 56, 51, 56, 52, 56, 53, 56, 54, 56, 55, 56, 56, 56, 57, 57, 48, 57, 49, 57, 50, 57, 51, 57, 52, 57, 53, 57, 54, 57, 55, 57, 56, 57, 57])) : List UInt8).getD (m * 2 + 1) 0).toNat = 48 + m % 10 := by
  revert m
  exact fun m h => (by decide : ∀ m : Fin 100, (((List.append (List.append [48, 48, 48, 49, 48, 50, 48, 51, 48, 52, 48, 53, 48, 54, 48, 55, 48, 56, 48, 57, 49, 48, 49, 49, 49, 50, 49, 51, 49, 52, 49, 53, 49, 54, 49, 55, 49, 56, 49, 57, 50, 48, 50, 49, 50, 50, 50, 51, 50, 52] [50, 53, 50, 54, 50, 55, 50, 56, 50, 57, 51, 48, 51, 49, 51, 50, 51, 51, 51, 52, 51, 53, 51, 54, 51, 55, 51, 56, 51, 57, 52, 48, 52, 49, 52, 50, 52, 51, 52, 52, 52, 53, 52, 54, 52, 55, 52, 56, 52, 57]) (List.append [53, 48, 53, 49, 53, 50, 53, 51, 53, 52, 53, 53, 53, 54, 53, 55, 53, 56, 53, 57, 54, 48, 54, 49, 54, 50, 54, 51, 54, 52, 54, 53, 54, 54, 54, 55, 54, 56, 54, 57, 55, 48, 55, 49, 55, 50, 55, 51, 55, 52] [55, 53, 55, 54, 55, 55, 55, 56, 55, 57, 56, 48, 56, 49, 56, 50, 56, 51, 56, 52, 56, 53, 56, 54, 56, 55, 56, 56, 56, 57, 57, 48, 57, 49, 57, 50, 57, 51, 57, 52, 57, 53, 57, 54, 57, 55, 57, 56, 57, 57])) : List UInt8).getD (m.1 * 2 + 1) 0).toNat = 48 + m.1 % 10) ⟨m, h⟩
theorem g80 (n : Nat) (hn : 100 ≤ n ∧ n < 256) : GCall Tryz.prog 87 [.buf 0 0 1 3 1, .int .u64 n] [.cells 0 z24] (.tup []) [.cells 0 (buf3 n)] := by
  unfold z24
  simp only [List.replicate]
  refine GC.walk tok mixed cfg0 Tryz.func87 rfl Tryz.call87 ?_; simp (maxSteps := 2000000) -implicitDefEqProofs +contextual (disch := first | assumption | omega | decide +kernel) only [push_cast, ↓capI, br2_true, br2_false, frk_tt, frk_tf, frk_f, frkD_tt, frkD_tf, frkD_f, pk2_true, pk2_false, imp_true, seval, Nat.reduceLeDiff, Nat.reduceEqDiff, reduceCtorEq, ↓reduceIte, cfg0, take_rest, ibeq_dec, V.rn, rns, qn, setPs, rnOs, Ob.rn, gl0, glV, List.map, V.st, List.set_cons_zero, List.size_toArray, Tryz.ntmps87]
  refine T.lp tok mixed cfg0 (fun (j : Nat) => kp 1 (sv (.int .u64 n) (dd 2 (sv (.int .i64 3) (dd 162 (nl)))))) (fun H0 (j : Nat) => [.cells 0 z24]) (fun (j : Nat) => j = 0) (fun (j : Nat) => 0) (0) ?_ ?_ ?_
  · rfl
  · unfold z24
    simp only [List.replicate]
    exact Gn.canon (J := []) (by first | rfl | (simp [List.append_nil]; done) | (simp [List.append_nil]; rfl)) (by simp [wk, putT, kp, dd, sv, nl]) (by simp [List.length_append]) (by simp [kp, dd, sv, nl]) (by simp )
  rintro j rfl
  unfold z24
  simp only [List.replicate]
  simp (maxSteps := 2000000) -implicitDefEqProofs +contextual (disch := first | assumption | omega | decide +kernel) only [push_cast, ↓capI, br2_true, br2_false, frk_tt, frk_tf, frk_f, frkD_tt, frkD_tf, frkD_f, pk2_true, pk2_false, imp_true, seval, Nat.reduceLeDiff, Nat.reduceEqDiff, reduceCtorEq, ↓reduceIte, cfg0, take_rest, ibeq_dec, V.rn, rns, qn, setPs, rnOs, Ob.rn, gl0, glV, List.map, V.st, List.set_cons_zero, List.size_toArray]
  have e1 : IntKind.u32.wrap (n : Int) = (n : Int) := u32_id (by omega)
  have e2 : ((n : Int)).tmod 100 = ((n % 100 : Nat) : Int) := by rw [Int.tmod_eq_emod_of_nonneg (by omega)]; omega
  have e3 : ((n : Int)).tdiv 100 = ((n / 100 : Nat) : Int) := by rw [Int.tdiv_eq_ediv_of_nonneg (by omega)]; omega
  have e4 : IntKind.u32.wrap (((n % 100 : Nat) : Int) * 2) = ((n % 100 * 2 : Nat) : Int) := by rw [u32_id (by omega)]; omega
  have e5 : IntKind.u32.wrap (((n % 100 * 2 : Nat) : Int) + 1) = ((n % 100 * 2 + 1 : Nat) : Int) := by rw [u32_id (by omega)]; omega
  have e6 : IntKind.u32.wrap ((n / 100 : Nat) : Int) = ((n / 100 : Nat) : Int) := u32_id (by omega)
  have e7 : IntKind.u32.wrap (48 + ((n / 100 : Nat) : Int)) = ((48 + n / 100 : Nat) : Int) := by rw [u32_id (by omega)]; omega
  have e8 : IntKind.u8.wrap (((48 + n / 100 : Nat) : Int)) = ((48 + n / 100 : Nat) : Int) := u8_id (by omega)
  have h5 : n % 100 < 100 := by omega
  have e9 : ((n % 100 * 2 + 1 : Nat) : Int).toNat = n % 100 * 2 + 1 := Int.toNat_natCast _
  have e10 : ((n % 100 * 2 : Nat) : Int).toNat = n % 100 * 2 := Int.toNat_natCast _
  have f1 : (0 : Int) ≤ ((n % 100 * 2 + 1 : Nat) : Int) ∧ ((n % 100 * 2 + 1 : Nat) : Int) < ((200 : Nat) : Int) := by omega
  have f2 : (0 : Int) ≤ ((n % 100 * 2 : Nat) : Int) ∧ ((n % 100 * 2 : Nat) : Int) < ((200 : Nat) : Int) := by omega
  simp only [e1, e2, e3, e4, e5, e6, e7, e8, e9, e10, bigL, bigA _ h5, bigB _ h5, f1, f2, true_and, true_imp_iff, and_self]
  have e11 : n % 100 / 10 = n / 10 % 10 := by omega
  have e12 : n % 100 % 10 = n % 10 := by omega
  rw [e11, e12]
  unfold buf3
  refine endG.normal ([]) (by first | rfl | simp [fzs_ok, getO, setO, fzs, fz, fzH, Nat.beq, tt_3, tt_4, tt_5, tt_9, tt_129, tt_122, tt_126, tt_128, tt_138, tt_134, tt_2, tt_67, tt_141, tt_150, tt_134, cfg0, take_rest, ibeq_dec, V.rn, rns, qn, setPs, rnOs, Ob.rn, gl0, glV, List.map, V.st, List.set_cons_zero, List.size_toArray, List.replicate]) (by simp) (by simp [fzs_ok, imp, lenOK_iff, List.take_of_length_le, evRes, getT, getO, setO, fzs, fz, fzH, Nat.beq, retV, Res.then, ldT, ldR, mkV, getV, tt_3, tt_4, tt_5, tt_9, tt_129, tt_122, tt_126, tt_128, tt_138, tt_134, tt_2, tt_67, tt_141, tt_150, tt_134, cfg0, take_rest, ibeq_dec, V.rn, rns, qn, setPs, rnOs, Ob.rn, gl0, glV, List.map, V.st, List.set_cons_zero, List.size_toArray, Tryz.f87, List.replicate]) (by first | rfl | simp [List.replicate]) (by first | rfl | simp [List.replicate])
theorem pc75 (n : Nat) (hn : n < 256) : PC Tryz.prog 75 [.int .i64 n, .int .i64 10] (.str (dec8 n)) := by
  refine PC.walk tok mixed cfg0 Tryz.func75 rfl Tryz.call75 (by simp ) (by first | rfl | simp ) ?_; simp (maxSteps := 2000000) -implicitDefEqProofs +contextual (disch := first | assumption | omega | decide +kernel) only [push_cast, ↓capI, br2_true, br2_false, frk_tt, frk_tf, frk_f, frkD_tt, frkD_tf, frkD_f, pk2_true, pk2_false, imp_true, seval, Nat.reduceLeDiff, Nat.reduceEqDiff, reduceCtorEq, ↓reduceIte, cfg0, take_rest, ibeq_dec, V.rn, rns, qn, setPs, rnOs, Ob.rn, gl0, glV, List.map, V.st, List.set_cons_zero, List.size_toArray, Tryz.ntmps75]
  refine ⟨fun h => ?_, fun h => ?_⟩
  · refine callO.pc (pc85 n (by omega)) ?_
    simp (maxSteps := 2000000) -implicitDefEqProofs +contextual (disch := first | assumption | omega | decide +kernel) only [push_cast, ↓capI, br2_true, br2_false, frk_tt, frk_tf, frk_f, frkD_tt, frkD_tf, frkD_f, pk2_true, pk2_false, imp_true, seval, Nat.reduceLeDiff, Nat.reduceEqDiff, reduceCtorEq, ↓reduceIte, cfg0, take_rest, ibeq_dec, V.rn, rns, qn, setPs, rnOs, Ob.rn, gl0, glV, List.map, V.st, List.set_cons_zero, List.size_toArray]
    refine endK.ret ?_ (by first | rfl | simp ); simp [evRes, getT, retV, Tryz.f75]
  have hr : 100 ≤ n ∧ n < 256 := by omega
  have hi : ¬ (n : Int) < 0 := by omega
  refine callO.pc (pc86 n hr) ?_
  simp (maxSteps := 2000000) -implicitDefEqProofs +contextual (disch := first | assumption | omega | decide +kernel) only [push_cast, ↓capI, br2_true, br2_false, frk_tt, frk_tf, frk_f, frkD_tt, frkD_tf, frkD_f, pk2_true, pk2_false, imp_true, seval, Nat.reduceLeDiff, Nat.reduceEqDiff, reduceCtorEq, ↓reduceIte, cfg0, take_rest, ibeq_dec, V.rn, rns, qn, setPs, rnOs, Ob.rn, gl0, glV, List.map, V.st, List.set_cons_zero, List.size_toArray, hi]
  refine callO.part0 [0] (g80 n hr) (by decide) rfl rfl ⟨by rfl, by simp, trivial⟩ ?_
  unfold buf3
  simp only [List.replicate, List.append_eq, List.cons_append, List.nil_append]
  simp (maxSteps := 2000000) -implicitDefEqProofs +contextual (disch := first | assumption | omega | decide +kernel) only [push_cast, ↓capI, br2_true, br2_false, frk_tt, frk_tf, frk_f, frkD_tt, frkD_tf, frkD_f, pk2_true, pk2_false, imp_true, seval, Nat.reduceLeDiff, Nat.reduceEqDiff, reduceCtorEq, ↓reduceIte, cfg0, take_rest, ibeq_dec, V.rn, rns, qn, setPs, rnOs, Ob.rn, gl0, glV, List.map, V.st, List.set_cons_zero, List.size_toArray, hi]
  have t1 : ((48 : Int) + (n : Int) / 100).toNat = 48 + n / 100 := by omega
  have t2 : ((48 : Int) + (n : Int) / 10 % 10).toNat = 48 + n / 10 % 10 := by omega
  have t3 : ((48 : Int) + (n : Int) % 10).toNat = 48 + n % 10 := by omega
  have h1 : ¬ n < 10 := by omega
  have h2 : ¬ n < 100 := by omega
  refine endK.ret ?_ (by first | rfl | simp ); simp [evRes, getT, retV, Tryz.f75,  dec8, h1, h2, if_false, t1, t2, t3]
theorem pc63 (n : Nat) (hn : n < 256) : PC Tryz.prog 63 [.int .i64 n] (.str (dec8 n)) := by
  refine PC.walk tok mixed cfg0 Tryz.func63 rfl Tryz.call63 (by simp ) (by first | rfl | simp ) ?_; simp (maxSteps := 2000000) -implicitDefEqProofs +contextual (disch := first | assumption | omega | decide +kernel) only [push_cast, ↓capI, br2_true, br2_false, frk_tt, frk_tf, frk_f, frkD_tt, frkD_tf, frkD_f, pk2_true, pk2_false, imp_true, seval, Nat.reduceLeDiff, Nat.reduceEqDiff, reduceCtorEq, ↓reduceIte, cfg0, take_rest, ibeq_dec, V.rn, rns, qn, setPs, rnOs, Ob.rn, gl0, glV, List.map, V.st, List.set_cons_zero, List.size_toArray, Tryz.ntmps63]
  refine callO.pc (pc75 n hn) ?_
  simp (maxSteps := 2000000) -implicitDefEqProofs +contextual (disch := first | assumption | omega | decide +kernel) only [push_cast, ↓capI, br2_true, br2_false, frk_tt, frk_tf, frk_f, frkD_tt, frkD_tf, frkD_f, pk2_true, pk2_false, imp_true, seval, Nat.reduceLeDiff, Nat.reduceEqDiff, reduceCtorEq, ↓reduceIte, cfg0, take_rest, ibeq_dec, V.rn, rns, qn, setPs, rnOs, Ob.rn, gl0, glV, List.map, V.st, List.set_cons_zero, List.size_toArray]
  refine endK.ret ?_ (by first | rfl | simp ); simp [evRes, getT, retV, Tryz.f63]
theorem pc56 (n : Nat) (hn : n < 256) : PC Tryz.prog 56 [.int .i64 n] (.str (dec8 n)) := by
  refine PC.walk tok mixed cfg0 Tryz.func56 rfl Tryz.call56 (by simp ) (by first | rfl | simp ) ?_; simp (maxSteps := 2000000) -implicitDefEqProofs +contextual (disch := first | assumption | omega | decide +kernel) only [push_cast, ↓capI, br2_true, br2_false, frk_tt, frk_tf, frk_f, frkD_tt, frkD_tf, frkD_f, pk2_true, pk2_false, imp_true, seval, Nat.reduceLeDiff, Nat.reduceEqDiff, reduceCtorEq, ↓reduceIte, cfg0, take_rest, ibeq_dec, V.rn, rns, qn, setPs, rnOs, Ob.rn, gl0, glV, List.map, V.st, List.set_cons_zero, List.size_toArray, Tryz.ntmps56]
  refine callO.pc (pc63 n hn) ?_
  simp (maxSteps := 2000000) -implicitDefEqProofs +contextual (disch := first | assumption | omega | decide +kernel) only [push_cast, ↓capI, br2_true, br2_false, frk_tt, frk_tf, frk_f, frkD_tt, frkD_tf, frkD_f, pk2_true, pk2_false, imp_true, seval, Nat.reduceLeDiff, Nat.reduceEqDiff, reduceCtorEq, ↓reduceIte, cfg0, take_rest, ibeq_dec, V.rn, rns, qn, setPs, rnOs, Ob.rn, gl0, glV, List.map, V.st, List.set_cons_zero, List.size_toArray]
  refine endK.ret ?_ (by first | rfl | simp ); simp [evRes, getT, retV, Tryz.f56]
theorem pc45 (n : Nat) (hn : n < 256) : PC Tryz.prog 45 [.int .i64 n] (.str (dec8 n)) := by
  refine PC.walk tok mixed cfg0 Tryz.func45 rfl Tryz.call45 (by simp ) (by first | rfl | simp ) ?_; simp (maxSteps := 2000000) -implicitDefEqProofs +contextual (disch := first | assumption | omega | decide +kernel) only [push_cast, ↓capI, br2_true, br2_false, frk_tt, frk_tf, frk_f, frkD_tt, frkD_tf, frkD_f, pk2_true, pk2_false, imp_true, seval, Nat.reduceLeDiff, Nat.reduceEqDiff, reduceCtorEq, ↓reduceIte, cfg0, take_rest, ibeq_dec, V.rn, rns, qn, setPs, rnOs, Ob.rn, gl0, glV, List.map, V.st, List.set_cons_zero, List.size_toArray, Tryz.ntmps45]
  refine callO.pc (pc56 n hn) ?_
  simp (maxSteps := 2000000) -implicitDefEqProofs +contextual (disch := first | assumption | omega | decide +kernel) only [push_cast, ↓capI, br2_true, br2_false, frk_tt, frk_tf, frk_f, frkD_tt, frkD_tf, frkD_f, pk2_true, pk2_false, imp_true, seval, Nat.reduceLeDiff, Nat.reduceEqDiff, reduceCtorEq, ↓reduceIte, cfg0, take_rest, ibeq_dec, V.rn, rns, qn, setPs, rnOs, Ob.rn, gl0, glV, List.map, V.st, List.set_cons_zero, List.size_toArray]
  refine endK.ret ?_ (by first | rfl | simp ); simp [evRes, getT, retV, Tryz.f45]
theorem dec8_len (n : Nat) : (dec8 n).length ≤ 3 := by
  unfold dec8
  split
  · simp
  split <;> simp
theorem dec8_app (n : Nat) (h : 10 ≤ n) (hn : n < 256) : dec8 (n / 10) ++ dec8 (n % 10) = dec8 n := by
  rw [dec8, dec8, dec8, if_pos (by omega : n % 10 < 10), if_neg (by omega : ¬ n < 10)]
  split
  · rw [if_pos (by omega)]
    rfl
  · rw [if_pos (by omega : n / 10 < 100), if_neg (by omega : ¬ n < 100), Nat.div_div_eq_div_mul]
    rfl
end Go.Proofs.YtafongdfnpnneaaGreatDoor

/- Integers of up to nine digits, written by the program. -/
set_option maxRecDepth 100000
set_option maxHeartbeats 4000000
set_option linter.all false
namespace Go.Proofs.YtafongdfnpnneaaGreatDoor
open Go.Vm

/-- the decimal digits of a number, for k digits at most -/
def dgs : Nat → Nat → List UInt8
  | 0, _ => []
  | k + 1, n => if n < 10 then [UInt8.ofNat (48 + n)] else dgs k (n / 10) ++ [UInt8.ofNat (48 + n % 10)]
theorem dgs_len : ∀ k n, (dgs k n).length ≤ k
  | 0, _ => Nat.le_refl _
  | k + 1, n => by
    rw [dgs]
    split
    · simp
    · have := dgs_len k (n / 10)
      rw [List.length_append, List.length_singleton]
      omega
theorem len64_of {n x : Nat} (h1 : 2 ^ x ≤ n) (h2 : n < 2 ^ (x + 1)) : len64 n = x + 1 := by
  have hn : n ≠ 0 := by
    intro e
    have := Nat.two_pow_pos x
    omega
  have a1 : x ≤ n.log2 := (Nat.le_log2 hn).2 h1
  have a2 : n.log2 < x + 1 := (Nat.log2_lt hn).2 h2
  unfold len64
  rw [if_neg hn]
  omega
theorem pow2_log (x : Nat) (hx : x ≤ 64) : PC Tryz.prog 94 [.int .i64 x] (.int .i64 ((x * 78913 / 262144 : Nat) : Int)) := by
  have key : ∀ y : Fin 65, ishr .i64 ((y.val : Int) * 78913) 18 = ((y.val * 78913 / 262144 : Nat) : Int) := by decide +kernel
  have h := key ⟨x, by omega⟩
  simp only at h
  generalize x * 78913 / 262144 = t at h
  refine PC.walk tok mixed cfg0 Tryz.func94 rfl Tryz.call94 (by simp ) (by first | rfl | simp ) ?_; simp (maxSteps := 2000000) -implicitDefEqProofs +contextual (disch := first | assumption | omega | decide +kernel) only [push_cast, ↓capI, br2_true, br2_false, frk_tt, frk_tf, frk_f, frkD_tt, frkD_tf, frkD_f, pk2_true, pk2_false, imp_true, seval, Nat.reduceLeDiff, Nat.reduceEqDiff, reduceCtorEq, ↓reduceIte, cfg0, take_rest, ibeq_dec, V.rn, rns, qn, setPs, rnOs, Ob.rn, gl0, glV, List.map, V.st, List.set_cons_zero, List.size_toArray, Tryz.ntmps94]
  refine endK.ret ?_ (by first | rfl | simp ); simp [evRes, getT, retV, Tryz.f94,  h]
theorem nd2 (n : Nat) (hn : n < 2 ^ 64) (h64 : len64 n ≤ 64) (ht : len64 n * 78913 / 262144 = 2) : PC Tryz.prog 86 [.int .u64 n] (.int .i64 (2 + if 100 ≤ n then 1 else 0)) := by
  have hl := pc95 n hn
  have h85 := pow2_log (len64 n) h64
  rw [ht] at h85
  have h86 := pc96 (decide (100 ≤ n))
  have hd : decide ((100 : Int) ≤ (n : Int)) = decide (100 ≤ n) := by rw [decide_eq_decide]; omega
  have hle : (0 : Int) ≤ (if (decide (100 ≤ n)) = true then 1 else 0) ∧ (if (decide (100 ≤ n)) = true then (1 : Int) else 0) ≤ 1 := by split <;> decide
  have he : (if (decide (100 ≤ n)) = true then (1 : Int) else 0) = if 100 ≤ n then 1 else 0 := by simp
  rw [← he]
  generalize (if (decide (100 ≤ n)) = true then (1 : Int) else 0) = z at h86 hle
  generalize decide (100 ≤ n) = b at h86 hd
  refine PC.walk tok mixed cfg0 Tryz.func86 rfl Tryz.call86 (by simp ) (by first | rfl | simp ) ?_; simp (maxSteps := 2000000) -implicitDefEqProofs +contextual (disch := first | assumption | omega | decide +kernel) only [push_cast, ↓capI, br2_true, br2_false, frk_tt, frk_tf, frk_f, frkD_tt, frkD_tf, frkD_f, pk2_true, pk2_false, imp_true, seval, Nat.reduceLeDiff, Nat.reduceEqDiff, reduceCtorEq, ↓reduceIte, cfg0, take_rest, ibeq_dec, V.rn, rns, qn, setPs, rnOs, Ob.rn, gl0, glV, List.map, V.st, List.set_cons_zero, List.size_toArray, Tryz.ntmps86]
  refine callO.pc hl ?_
  simp (maxSteps := 2000000) -implicitDefEqProofs +contextual (disch := first | assumption | omega | decide +kernel) only [push_cast, ↓capI, br2_true, br2_false, frk_tt, frk_tf, frk_f, frkD_tt, frkD_tf, frkD_f, pk2_true, pk2_false, imp_true, seval, Nat.reduceLeDiff, Nat.reduceEqDiff, reduceCtorEq, ↓reduceIte, cfg0, take_rest, ibeq_dec, V.rn, rns, qn, setPs, rnOs, Ob.rn, gl0, glV, List.map, V.st, List.set_cons_zero, List.size_toArray]
  refine callO.pc h85 ?_
  simp (maxSteps := 2000000) -implicitDefEqProofs +contextual (disch := first | assumption | omega | decide +kernel) only [push_cast, ↓capI, br2_true, br2_false, frk_tt, frk_tf, frk_f, frkD_tt, frkD_tf, frkD_f, pk2_true, pk2_false, imp_true, seval, Nat.reduceLeDiff, Nat.reduceEqDiff, reduceCtorEq, ↓reduceIte, cfg0, take_rest, ibeq_dec, V.rn, rns, qn, setPs, rnOs, Ob.rn, gl0, glV, List.map, V.st, List.set_cons_zero, List.size_toArray, hd]
  refine callO.pc h86 ?_
  simp (maxSteps := 2000000) -implicitDefEqProofs +contextual (disch := first | assumption | omega | decide +kernel) only [push_cast, ↓capI, br2_true, br2_false, frk_tt, frk_tf, frk_f, frkD_tt, frkD_tf, frkD_f, pk2_true, pk2_false, imp_true, seval, Nat.reduceLeDiff, Nat.reduceEqDiff, reduceCtorEq, ↓reduceIte, cfg0, take_rest, ibeq_dec, V.rn, rns, qn, setPs, rnOs, Ob.rn, gl0, glV, List.map, V.st, List.set_cons_zero, List.size_toArray]
  refine endK.ret ?_ (by first | rfl | simp ); simp [evRes, getT, retV, Tryz.f86]
theorem nd3 (n : Nat) (hn : n < 2 ^ 64) (h64 : len64 n ≤ 64) (ht : len64 n * 78913 / 262144 = 3) : PC Tryz.prog 86 [.int .u64 n] (.int .i64 (3 + if 1000 ≤ n then 1 else 0)) := by
  have hl := pc95 n hn
  have h85 := pow2_log (len64 n) h64
  rw [ht] at h85
  have h86 := pc96 (decide (1000 ≤ n))
  have hd : decide ((1000 : Int) ≤ (n : Int)) = decide (1000 ≤ n) := by rw [decide_eq_decide]; omega
  have hle : (0 : Int) ≤ (if (decide (1000 ≤ n)) = true then 1 else 0) ∧ (if (decide (1000 ≤ n)) = true then (1 : Int) else 0) ≤ 1 := by split <;> decide
  have he : (if (decide (1000 ≤ n)) = true then (1 : Int) else 0) = if 1000 ≤ n then 1 else 0 := by simp
  rw [← he]
  generalize (if (decide (1000 ≤ n)) = true then (1 : Int) else 0) = z at h86 hle
  generalize decide (1000 ≤ n) = b at h86 hd
  refine PC.walk tok mixed cfg0 Tryz.func86 rfl Tryz.call86 (by simp ) (by first | rfl | simp ) ?_; simp (maxSteps := 2000000) -implicitDefEqProofs +contextual (disch := first | assumption | omega | decide +kernel) only [push_cast, ↓capI, br2_true, br2_false, frk_tt, frk_tf, frk_f, frkD_tt, frkD_tf, frkD_f, pk2_true, pk2_false, imp_true, seval, Nat.reduceLeDiff, Nat.reduceEqDiff, reduceCtorEq, ↓reduceIte, cfg0, take_rest, ibeq_dec, V.rn, rns, qn, setPs, rnOs, Ob.rn, gl0, glV, List.map, V.st, List.set_cons_zero, List.size_toArray, Tryz.ntmps86]
  refine callO.pc hl ?_
  simp (maxSteps := 2000000) -implicitDefEqProofs +contextual (disch := first | assumption | omega | decide +kernel) only [push_cast, ↓capI, br2_true, br2_false, frk_tt, frk_tf, frk_f, frkD_tt, frkD_tf, frkD_f, pk2_true, pk2_false, imp_true, seval, Nat.reduceLeDiff, Nat.reduceEqDiff, reduceCtorEq, ↓reduceIte, cfg0, take_rest, ibeq_dec, V.rn, rns, qn, setPs, rnOs, Ob.rn, gl0, glV, List.map, V.st, List.set_cons_zero, List.size_toArray]
  refine callO.pc h85 ?_
  simp (maxSteps := 2000000) -implicitDefEqProofs +contextual (disch := first | assumption | omega | decide +kernel) only [push_cast, ↓capI, br2_true, br2_false, frk_tt, frk_tf, frk_f, frkD_tt, frkD_tf, frkD_f, pk2_true, pk2_false, imp_true, seval, Nat.reduceLeDiff, Nat.reduceEqDiff, reduceCtorEq, ↓reduceIte, cfg0, take_rest, ibeq_dec, V.rn, rns, qn, setPs, rnOs, Ob.rn, gl0, glV, List.map, V.st, List.set_cons_zero, List.size_toArray, hd]
  refine callO.pc h86 ?_
  simp (maxSteps := 2000000) -implicitDefEqProofs +contextual (disch := first | assumption | omega | decide +kernel) only [push_cast, ↓capI, br2_true, br2_false, frk_tt, frk_tf, frk_f, frkD_tt, frkD_tf, frkD_f, pk2_true, pk2_false, imp_true, seval, Nat.reduceLeDiff, Nat.reduceEqDiff, reduceCtorEq, ↓reduceIte, cfg0, take_rest, ibeq_dec, V.rn, rns, qn, setPs, rnOs, Ob.rn, gl0, glV, List.map, V.st, List.set_cons_zero, List.size_toArray]
  refine endK.ret ?_ (by first | rfl | simp ); simp [evRes, getT, retV, Tryz.f86]
theorem nd4 (n : Nat) (hn : n < 2 ^ 64) (h64 : len64 n ≤ 64) (ht : len64 n * 78913 / 262144 = 4) : PC Tryz.prog 86 [.int .u64 n] (.int .i64 (4 + if 10000 ≤ n then 1 else 0)) := by
  have hl := pc95 n hn
  have h85 := pow2_log (len64 n) h64
  rw [ht] at h85
  have h86 := pc96 (decide (10000 ≤ n))
  have hd : decide ((10000 : Int) ≤ (n : Int)) = decide (10000 ≤ n) := by rw [decide_eq_decide]; omega
  have hle : (0 : Int) ≤ (if (decide (10000 ≤ n)) = true then 1 else 0) ∧ (if (decide (10000 ≤ n)) = true then (1 : Int) else 0) ≤ 1 := by split <;> decide
  have he : (if (decide (10000 ≤ n)) = true then (1 : Int) else 0) = if 10000 ≤ n then 1 else 0 := by simp
  rw [← he]
  generalize (if (decide (10000 ≤ n)) = true then (1 : Int) else 0) = z at h86 hle
  generalize decide (10000 ≤ n) = b at h86 hd
  refine PC.walk tok mixed cfg0 Tryz.func86 rfl Tryz.call86 (by simp ) (by first | rfl | simp ) ?_; simp (maxSteps := 2000000) -implicitDefEqProofs +contextual (disch := first | assumption | omega | decide +kernel) only [push_cast, ↓capI, br2_true, br2_false, frk_tt, frk_tf, frk_f, frkD_tt, frkD_tf, frkD_f, pk2_true, pk2_false, imp_true, seval, Nat.reduceLeDiff, Nat.reduceEqDiff, reduceCtorEq, ↓reduceIte, cfg0, take_rest, ibeq_dec, V.rn, rns, qn, setPs, rnOs, Ob.rn, gl0, glV, List.map, V.st, List.set_cons_zero, List.size_toArray, Tryz.ntmps86]
  refine callO.pc hl ?_
  simp (maxSteps := 2000000) -implicitDefEqProofs +contextual (disch := first | assumption | omega | decide +kernel) only [push_cast, ↓capI, br2_true, br2_false, frk_tt, frk_tf, frk_f, frkD_tt, frkD_tf, frkD_f, pk2_true, pk2_false, imp_true, seval, Nat.reduceLeDiff, Nat.reduceEqDiff, reduceCtorEq, ↓reduceIte, cfg0, take_rest, ibeq_dec, V.rn, rns, qn, setPs, rnOs, Ob.rn, gl0, glV, List.map, V.st, List.set_cons_zero, List.size_toArray]
  refine callO.pc h85 ?_
  simp (maxSteps := 2000000) -implicitDefEqProofs +contextual (disch := first | assumption | omega | decide +kernel) only [push_cast, ↓capI, br2_true, br2_false, frk_tt, frk_tf, frk_f, frkD_tt, frkD_tf, frkD_f, pk2_true, pk2_false, imp_true, seval, Nat.reduceLeDiff, Nat.reduceEqDiff, reduceCtorEq, ↓reduceIte, cfg0, take_rest, ibeq_dec, V.rn, rns, qn, setPs, rnOs, Ob.rn, gl0, glV, List.map, V.st, List.set_cons_zero, List.size_toArray, hd]
  refine callO.pc h86 ?_
  simp (maxSteps := 2000000) -implicitDefEqProofs +contextual (disch := first | assumption | omega | decide +kernel) only [push_cast, ↓capI, br2_true, br2_false, frk_tt, frk_tf, frk_f, frkD_tt, frkD_tf, frkD_f, pk2_true, pk2_false, imp_true, seval, Nat.reduceLeDiff, Nat.reduceEqDiff, reduceCtorEq, ↓reduceIte, cfg0, take_rest, ibeq_dec, V.rn, rns, qn, setPs, rnOs, Ob.rn, gl0, glV, List.map, V.st, List.set_cons_zero, List.size_toArray]
  refine endK.ret ?_ (by first | rfl | simp ); simp [evRes, getT, retV, Tryz.f86]
theorem nd5 (n : Nat) (hn : n < 2 ^ 64) (h64 : len64 n ≤ 64) (ht : len64 n * 78913 / 262144 = 5) : PC Tryz.prog 86 [.int .u64 n] (.int .i64 (5 + if 100000 ≤ n then 1 else 0)) := by
  have hl := pc95 n hn
  have h85 := pow2_log (len64 n) h64
  rw [ht] at h85
  have h86 := pc96 (decide (100000 ≤ n))
  have hd : decide ((100000 : Int) ≤ (n : Int)) = decide (100000 ≤ n) := by rw [decide_eq_decide]; omega
  have hle : (0 : Int) ≤ (if (decide (100000 ≤ n)) = true then 1 else 0) ∧ (if (decide (100000 ≤ n)) = true then (1 : Int) else 0) ≤ 1 := by split <;> decide
  have he : (if (decide (100000 ≤ n)) = true then (1 : Int) else 0) = if 100000 ≤ n then 1 else 0 := by simp
  rw [← he]
  generalize (if (decide (100000 ≤ n)) = true then (1 : Int) else 0) = z at h86 hle
  generalize decide (100000 ≤ n) = b at h86 hd
  refine PC.walk tok mixed cfg0 Tryz.func86 rfl Tryz.call86 (by simp ) (by first | rfl | simp ) ?_; simp (maxSteps := 2000000) -implicitDefEqProofs +contextual (disch := first | assumption | omega | decide +kernel) only [push_cast, ↓capI, br2_true, br2_false, frk_tt, frk_tf, frk_f, frkD_tt, frkD_tf, frkD_f, pk2_true, pk2_false, imp_true, seval, Nat.reduceLeDiff, Nat.reduceEqDiff, reduceCtorEq, ↓reduceIte, cfg0, take_rest, ibeq_dec, V.rn, rns, qn, setPs, rnOs, Ob.rn, gl0, glV, List.map, V.st, List.set_cons_zero, List.size_toArray, Tryz.ntmps86]
  refine callO.pc hl ?_
  simp (maxSteps := 2000000) -implicitDefEqProofs +contextual (disch := first | assumption | omega | decide +kernel) only [push_cast, ↓capI, br2_true, br2_false, frk_tt, frk_tf, frk_f, frkD_tt, frkD_tf, frkD_f, pk2_true, pk2_false, imp_true, seval, Nat.reduceLeDiff, Nat.reduceEqDiff, reduceCtorEq, ↓reduceIte, cfg0, take_rest, ibeq_dec, V.rn, rns, qn, setPs, rnOs, Ob.rn, gl0, glV, List.map, V.st, List.set_cons_zero, List.size_toArray]
  refine callO.pc h85 ?_
  simp (maxSteps := 2000000) -implicitDefEqProofs +contextual (disch := first | assumption | omega | decide +kernel) only [push_cast, ↓capI, br2_true, br2_false, frk_tt, frk_tf, frk_f, frkD_tt, frkD_tf, frkD_f, pk2_true, pk2_false, imp_true, seval, Nat.reduceLeDiff, Nat.reduceEqDiff, reduceCtorEq, ↓reduceIte, cfg0, take_rest, ibeq_dec, V.rn, rns, qn, setPs, rnOs, Ob.rn, gl0, glV, List.map, V.st, List.set_cons_zero, List.size_toArray, hd]
  refine callO.pc h86 ?_
  simp (maxSteps := 2000000) -implicitDefEqProofs +contextual (disch := first | assumption | omega | decide +kernel) only [push_cast, ↓capI, br2_true, br2_false, frk_tt, frk_tf, frk_f, frkD_tt, frkD_tf, frkD_f, pk2_true, pk2_false, imp_true, seval, Nat.reduceLeDiff, Nat.reduceEqDiff, reduceCtorEq, ↓reduceIte, cfg0, take_rest, ibeq_dec, V.rn, rns, qn, setPs, rnOs, Ob.rn, gl0, glV, List.map, V.st, List.set_cons_zero, List.size_toArray]
  refine endK.ret ?_ (by first | rfl | simp ); simp [evRes, getT, retV, Tryz.f86]
theorem nd6 (n : Nat) (hn : n < 2 ^ 64) (h64 : len64 n ≤ 64) (ht : len64 n * 78913 / 262144 = 6) : PC Tryz.prog 86 [.int .u64 n] (.int .i64 (6 + if 1000000 ≤ n then 1 else 0)) := by
  have hl := pc95 n hn
  have h85 := pow2_log (len64 n) h64
  rw [ht] at h85
  have h86 := pc96 (decide (1000000 ≤ n))
  have hd : decide ((1000000 : Int) ≤ (n : Int)) = decide (1000000 ≤ n) := by rw [decide_eq_decide]; omega
  have hle : (0 : Int) ≤ (if (decide (1000000 ≤ n)) = true then 1 else 0) ∧ (if (decide (1000000 ≤ n)) = true then (1 : Int) else 0) ≤ 1 := by split <;> decide
  have he : (if (decide (1000000 ≤ n)) = true then (1 : Int) else 0) = if 1000000 ≤ n then 1 else 0 := by simp
  rw [← he]
  generalize (if (decide (1000000 ≤ n)) = true then (1 : Int) else 0) = z at h86 hle
  generalize decide (1000000 ≤ n) = b at h86 hd
  refine PC.walk tok mixed cfg0 Tryz.func86 rfl Tryz.call86 (by simp ) (by first | rfl | simp ) ?_; simp (maxSteps := 2000000) -implicitDefEqProofs +contextual (disch := first | assumption | omega | decide +kernel) only [push_cast, ↓capI, br2_true, br2_false, frk_tt, frk_tf, frk_f, frkD_tt, frkD_tf, frkD_f, pk2_true, pk2_false, imp_true, seval, Nat.reduceLeDiff, Nat.reduceEqDiff, reduceCtorEq, ↓reduceIte, cfg0, take_rest, ibeq_dec, V.rn, rns, qn, setPs, rnOs, Ob.rn, gl0, glV, List.map, V.st, List.set_cons_zero, List.size_toArray, Tryz.ntmps86]
  refine callO.pc hl ?_
  simp (maxSteps := 2000000) -implicitDefEqProofs +contextual (disch := first | assumption | omega | decide +kernel) only [push_cast, ↓capI, br2_true, br2_false, frk_tt, frk_tf, frk_f, frkD_tt, frkD_tf, frkD_f, pk2_true, pk2_false, imp_true, seval, Nat.reduceLeDiff, Nat.reduceEqDiff, reduceCtorEq, ↓reduceIte, cfg0, take_rest, ibeq_dec, V.rn, rns, qn, setPs, rnOs, Ob.rn, gl0, glV, List.map, V.st, List.set_cons_zero, List.size_toArray]
  refine callO.pc h85 ?_
  simp (maxSteps := 2000000) -implicitDefEqProofs +contextual (disch := first | assumption | omega | decide +kernel) only [push_cast, ↓capI, br2_true, br2_false, frk_tt, frk_tf, frk_f, frkD_tt, frkD_tf, frkD_f, pk2_true, pk2_false, imp_true, seval, Nat.reduceLeDiff, Nat.reduceEqDiff, reduceCtorEq, ↓reduceIte, cfg0, take_rest, ibeq_dec, V.rn, rns, qn, setPs, rnOs, Ob.rn, gl0, glV, List.map, V.st, List.set_cons_zero, List.size_toArray, hd]
  refine callO.pc h86 ?_
  simp (maxSteps := 2000000) -implicitDefEqProofs +contextual (disch := first | assumption | omega | decide +kernel) only [push_cast, ↓capI, br2_true, br2_false, frk_tt, frk_tf, frk_f, frkD_tt, frkD_tf, frkD_f, pk2_true, pk2_false, imp_true, seval, Nat.reduceLeDiff, Nat.reduceEqDiff, reduceCtorEq, ↓reduceIte, cfg0, take_rest, ibeq_dec, V.rn, rns, qn, setPs, rnOs, Ob.rn, gl0, glV, List.map, V.st, List.set_cons_zero, List.size_toArray]
  refine endK.ret ?_ (by first | rfl | simp ); simp [evRes, getT, retV, Tryz.f86]
theorem nd7 (n : Nat) (hn : n < 2 ^ 64) (h64 : len64 n ≤ 64) (ht : len64 n * 78913 / 262144 = 7) : PC Tryz.prog 86 [.int .u64 n] (.int .i64 (7 + if 10000000 ≤ n then 1 else 0)) := by
  have hl := pc95 n hn
  have h85 := pow2_log (len64 n) h64
  rw [ht] at h85
  have h86 := pc96 (decide (10000000 ≤ n))
  have hd : decide ((10000000 : Int) ≤ (n : Int)) = decide (10000000 ≤ n) := by rw [decide_eq_decide]; omega
  have hle : (0 : Int) ≤ (if (decide (10000000 ≤ n)) = true then 1 else 0) ∧ (if (decide (10000000 ≤ n)) = true then (1 : Int) else 0) ≤ 1 := by split <;> decide
  have he : (if (decide (10000000 ≤ n)) = true then (1 : Int) else 0) = if 10000000 ≤ n then 1 else 0 := by simp
  rw [← he]
  generalize (if (decide (10000000 ≤ n)) = true then (1 : Int) else 0) = z at h86 hle
  generalize decide (10000000 ≤ n) = b at h86 hd
  refine PC.walk tok mixed cfg0 Tryz.func86 rfl Tryz.call86 (by simp ) (by first | rfl | simp ) ?_; simp (maxSteps := 2000000) -implicitDefEqProofs +contextual (disch := first | assumption | omega | decide +kernel) only [push_cast, ↓capI, br2_true, br2_false, frk_tt, frk_tf, frk_f, frkD_tt, frkD_tf, frkD_f, pk2_true, pk2_false, imp_true, seval, Nat.reduceLeDiff, Nat.reduceEqDiff, reduceCtorEq, ↓reduceIte, cfg0, take_rest, ibeq_dec, V.rn, rns, qn, setPs, rnOs, Ob.rn, gl0, glV, List.map, V.st, List.set_cons_zero, List.size_toArray, Tryz.ntmps86]
  refine callO.pc hl ?_
  simp (maxSteps := 2000000) -implicitDefEqProofs +contextual (disch := first | assumption | omega | decide +kernel) only [push_cast, ↓capI, br2_true, br2_false, frk_tt, frk_tf, frk_f, frkD_tt, frkD_tf, frkD_f, pk2_true, pk2_false, imp_true, seval, Nat.reduceLeDiff, Nat.reduceEqDiff, reduceCtorEq, ↓reduceIte, cfg0, take_rest, ibeq_dec, V.rn, rns, qn, setPs, rnOs, Ob.rn, gl0, glV, List.map, V.st, List.set_cons_zero, List.size_toArray]
  refine callO.pc h85 ?_
  simp (maxSteps := 2000000) -implicitDefEqProofs +contextual (disch := first | assumption | omega | decide +kernel) only [push_cast, ↓capI, br2_true, br2_false, frk_tt, frk_tf, frk_f, frkD_tt, frkD_tf, frkD_f, pk2_true, pk2_false, imp_true, seval, Nat.reduceLeDiff, Nat.reduceEqDiff, reduceCtorEq, ↓reduceIte, cfg0, take_rest, ibeq_dec, V.rn, rns, qn, setPs, rnOs, Ob.rn, gl0, glV, List.map, V.st, List.set_cons_zero, List.size_toArray, hd]
  refine callO.pc h86 ?_
  simp (maxSteps := 2000000) -implicitDefEqProofs +contextual (disch := first | assumption | omega | decide +kernel) only [push_cast, ↓capI, br2_true, br2_false, frk_tt, frk_tf, frk_f, frkD_tt, frkD_tf, frkD_f, pk2_true, pk2_false, imp_true, seval, Nat.reduceLeDiff, Nat.reduceEqDiff, reduceCtorEq, ↓reduceIte, cfg0, take_rest, ibeq_dec, V.rn, rns, qn, setPs, rnOs, Ob.rn, gl0, glV, List.map, V.st, List.set_cons_zero, List.size_toArray]
  refine endK.ret ?_ (by first | rfl | simp ); simp [evRes, getT, retV, Tryz.f86]
theorem nd8 (n : Nat) (hn : n < 2 ^ 64) (h64 : len64 n ≤ 64) (ht : len64 n * 78913 / 262144 = 8) : PC Tryz.prog 86 [.int .u64 n] (.int .i64 (8 + if 100000000 ≤ n then 1 else 0)) := by
  have hl := pc95 n hn
  have h85 := pow2_log (len64 n) h64
  rw [ht] at h85
  have h86 := pc96 (decide (100000000 ≤ n))
  have hd : decide ((100000000 : Int) ≤ (n : Int)) = decide (100000000 ≤ n) := by rw [decide_eq_decide]; omega
  have hle : (0 : Int) ≤ (if (decide (100000000 ≤ n)) = true then 1 else 0) ∧ (if (decide (100000000 ≤ n)) = true then (1 : Int) else 0) ≤ 1 := by split <;> decide
  have he : (if (decide (100000000 ≤ n)) = true then (1 : Int) else 0) = if 100000000 ≤ n then 1 else 0 := by simp
  rw [← he]
  generalize (if (decide (100000000 ≤ n)) = true then (1 : Int) else 0) = z at h86 hle
  generalize decide (100000000 ≤ n) = b at h86 hd
  refine PC.walk tok mixed cfg0 Tryz.func86 rfl Tryz.call86 (by simp ) (by first | rfl | simp ) ?_; simp (maxSteps := 2000000) -implicitDefEqProofs +contextual (disch := first | assumption | omega | decide +kernel) only [push_cast, ↓capI, br2_true, br2_false, frk_tt, frk_tf, frk_f, frkD_tt, frkD_tf, frkD_f, pk2_true, pk2_false, imp_true, seval, Nat.reduceLeDiff, Nat.reduceEqDiff, reduceCtorEq, ↓reduceIte, cfg0, take_rest, ibeq_dec, V.rn, rns, qn, setPs, rnOs, Ob.rn, gl0, glV, List.map, V.st, List.set_cons_zero, List.size_toArray, Tryz.ntmps86]
  refine callO.pc hl ?_
  simp (maxSteps := 2000000) -implicitDefEqProofs +contextual (disch := first | assumption | omega | decide +kernel) only [push_cast, ↓capI, br2_true, br2_false, frk_tt, frk_tf, frk_f, frkD_tt, frkD_tf, frkD_f, pk2_true, pk2_false, imp_true, seval, Nat.reduceLeDiff, Nat.reduceEqDiff, reduceCtorEq, ↓reduceIte, cfg0, take_rest, ibeq_dec, V.rn, rns, qn, setPs, rnOs, Ob.rn, gl0, glV, List.map, V.st, List.set_cons_zero, List.size_toArray]
  refine callO.pc h85 ?_
  simp (maxSteps := 2000000) -implicitDefEqProofs +contextual (disch := first | assumption | omega | decide +kernel) only [push_cast, ↓capI, br2_true, br2_false, frk_tt, frk_tf, frk_f, frkD_tt, frkD_tf, frkD_f, pk2_true, pk2_false, imp_true, seval, Nat.reduceLeDiff, Nat.reduceEqDiff, reduceCtorEq, ↓reduceIte, cfg0, take_rest, ibeq_dec, V.rn, rns, qn, setPs, rnOs, Ob.rn, gl0, glV, List.map, V.st, List.set_cons_zero, List.size_toArray, hd]
  refine callO.pc h86 ?_
  simp (maxSteps := 2000000) -implicitDefEqProofs +contextual (disch := first | assumption | omega | decide +kernel) only [push_cast, ↓capI, br2_true, br2_false, frk_tt, frk_tf, frk_f, frkD_tt, frkD_tf, frkD_f, pk2_true, pk2_false, imp_true, seval, Nat.reduceLeDiff, Nat.reduceEqDiff, reduceCtorEq, ↓reduceIte, cfg0, take_rest, ibeq_dec, V.rn, rns, qn, setPs, rnOs, Ob.rn, gl0, glV, List.map, V.st, List.set_cons_zero, List.size_toArray]
  refine endK.ret ?_ (by first | rfl | simp ); simp [evRes, getT, retV, Tryz.f86]
theorem nd9 (n : Nat) (hn : n < 2 ^ 64) (h64 : len64 n ≤ 64) (ht : len64 n * 78913 / 262144 = 9) : PC Tryz.prog 86 [.int .u64 n] (.int .i64 (9 + if 1000000000 ≤ n then 1 else 0)) := by
  have hl := pc95 n hn
  have h85 := pow2_log (len64 n) h64
  rw [ht] at h85
  have h86 := pc96 (decide (1000000000 ≤ n))
  have hd : decide ((1000000000 : Int) ≤ (n : Int)) = decide (1000000000 ≤ n) := by rw [decide_eq_decide]; omega
  have hle : (0 : Int) ≤ (if (decide (1000000000 ≤ n)) = true then 1 else 0) ∧ (if (decide (1000000000 ≤ n)) = true then (1 : Int) else 0) ≤ 1 := by split <;> decide
  have he : (if (decide (1000000000 ≤ n)) = true then (1 : Int) else 0) = if 1000000000 ≤ n then 1 else 0 := by simp
  rw [← he]
  generalize (if (decide (1000000000 ≤ n)) = true then (1 : Int) else 0) = z at h86 hle
  generalize decide (1000000000 ≤ n) = b at h86 hd
  refine PC.walk tok mixed cfg0 Tryz.func86 rfl Tryz.call86 (by simp ) (by first | rfl | simp ) ?_; simp (maxSteps := 2000000) -implicitDefEqProofs +contextual (disch := first | assumption | omega | decide +kernel) only [push_cast, ↓capI, br2_true, br2_false, frk_tt, frk_tf, frk_f, frkD_tt, frkD_tf, frkD_f, pk2_true, pk2_false, imp_true, seval, Nat.reduceLeDiff, Nat.reduceEqDiff, reduceCtorEq, ↓reduceIte, cfg0, take_rest, ibeq_dec, V.rn, rns, qn, setPs, rnOs, Ob.rn, gl0, glV, List.map, V.st, List.set_cons_zero, List.size_toArray, Tryz.ntmps86]
  refine callO.pc hl ?_
  simp (maxSteps := 2000000) -implicitDefEqProofs +contextual (disch := first | assumption | omega | decide +kernel) only [push_cast, ↓capI, br2_true, br2_false, frk_tt, frk_tf, frk_f, frkD_tt, frkD_tf, frkD_f, pk2_true, pk2_false, imp_true, seval, Nat.reduceLeDiff, Nat.reduceEqDiff, reduceCtorEq, ↓reduceIte, cfg0, take_rest, ibeq_dec, V.rn, rns, qn, setPs, rnOs, Ob.rn, gl0, glV, List.map, V.st, List.set_cons_zero, List.size_toArray]
  refine callO.pc h85 ?_
  simp (maxSteps := 2000000) -implicitDefEqProofs +contextual (disch := first | assumption | omega | decide +kernel) only [push_cast, ↓capI, br2_true, br2_false, frk_tt, frk_tf, frk_f, frkD_tt, frkD_tf, frkD_f, pk2_true, pk2_false, imp_true, seval, Nat.reduceLeDiff, Nat.reduceEqDiff, reduceCtorEq, ↓reduceIte, cfg0, take_rest, ibeq_dec, V.rn, rns, qn, setPs, rnOs, Ob.rn, gl0, glV, List.map, V.st, List.set_cons_zero, List.size_toArray, hd]
  refine callO.pc h86 ?_
  simp (maxSteps := 2000000) -implicitDefEqProofs +contextual (disch := first | assumption | omega | decide +kernel) only [push_cast, ↓capI, br2_true, br2_false, frk_tt, frk_tf, frk_f, frkD_tt, frkD_tf, frkD_f, pk2_true, pk2_false, imp_true, seval, Nat.reduceLeDiff, Nat.reduceEqDiff, reduceCtorEq, ↓reduceIte, cfg0, take_rest, ibeq_dec, V.rn, rns, qn, setPs, rnOs, Ob.rn, gl0, glV, List.map, V.st, List.set_cons_zero, List.size_toArray]
  refine endK.ret ?_ (by first | rfl | simp ); simp [evRes, getT, retV, Tryz.f86]
theorem numDigits (n k : Nat) (hk : 3 ≤ k ∧ k ≤ 9) (h1 : 10 ^ (k - 1) ≤ n) (h2 : n < 10 ^ k) : PC Tryz.prog 86 [.int .u64 n] (.int .i64 k) := by
  have hkk : k = 3 ∨ k = 4 ∨ k = 5 ∨ k = 6 ∨ k = 7 ∨ k = 8 ∨ k = 9 := by omega
  have hn : 100 ≤ n ∧ n < 1000000000 := by
    rcases hkk with rfl | rfl | rfl | rfl | rfl | rfl | rfl <;> simp only [Nat.reducePow, Nat.reduceSub] at h1 h2 <;> omega
  by_cases c6 : n < 128
  · have hx : len64 n = 7 := len64_of (x := 6) (by omega) c6
    have h := nd2 n (by omega) (by rw [hx]; decide) (by rw [hx])
    have e : ((2 : Int) + if 100 ≤ n then 1 else 0) = (k : Int) := by
      rcases hkk with rfl | rfl | rfl | rfl | rfl | rfl | rfl <;> simp only [Nat.reducePow, Nat.reduceSub] at h1 h2 <;> split <;> omega
    rw [e] at h
    exact h
  by_cases c7 : n < 256
  · have hx : len64 n = 8 := len64_of (x := 7) (by omega) c7
    have h := nd2 n (by omega) (by rw [hx]; decide) (by rw [hx])
    have e : ((2 : Int) + if 100 ≤ n then 1 else 0) = (k : Int) := by
      rcases hkk with rfl | rfl | rfl | rfl | rfl | rfl | rfl <;> simp only [Nat.reducePow, Nat.reduceSub] at h1 h2 <;> split <;> omega
    rw [e] at h
    exact h
  by_cases c8 : n < 512
  · have hx : len64 n = 9 := len64_of (x := 8) (by omega) c8
    have h := nd2 n (by omega) (by rw [hx]; decide) (by rw [hx])
    have e : ((2 : Int) + if 100 ≤ n then 1 else 0) = (k : Int) := by
      rcases hkk with rfl | rfl | rfl | rfl | rfl | rfl | rfl <;> simp only [Nat.reducePow, Nat.reduceSub] at h1 h2 <;> split <;> omega
    rw [e] at h
    exact h
  by_cases c9 : n < 1024
  · have hx : len64 n = 10 := len64_of (x := 9) (by omega) c9
    have h := nd3 n (by omega) (by rw [hx]; decide) (by rw [hx])
    have e : ((3 : Int) + if 1000 ≤ n then 1 else 0) = (k : Int) := by
      rcases hkk with rfl | rfl | rfl | rfl | rfl | rfl | rfl <;> simp only [Nat.reducePow, Nat.reduceSub] at h1 h2 <;> split <;> omega
    rw [e] at h
    exact h
  by_cases c10 : n < 2048
  · have hx : len64 n = 11 := len64_of (x := 10) (by omega) c10
    have h := nd3 n (by omega) (by rw [hx]; decide) (by rw [hx])
    have e : ((3 : Int) + if 1000 ≤ n then 1 else 0) = (k : Int) := by
      rcases hkk with rfl | rfl | rfl | rfl | rfl | rfl | rfl <;> simp only [Nat.reducePow, Nat.reduceSub] at h1 h2 <;> split <;> omega
    rw [e] at h
    exact h
  by_cases c11 : n < 4096
  · have hx : len64 n = 12 := len64_of (x := 11) (by omega) c11
    have h := nd3 n (by omega) (by rw [hx]; decide) (by rw [hx])
    have e : ((3 : Int) + if 1000 ≤ n then 1 else 0) = (k : Int) := by
      rcases hkk with rfl | rfl | rfl | rfl | rfl | rfl | rfl <;> simp only [Nat.reducePow, Nat.reduceSub] at h1 h2 <;> split <;> omega
    rw [e] at h
    exact h
  by_cases c12 : n < 8192
  · have hx : len64 n = 13 := len64_of (x := 12) (by omega) c12
    have h := nd3 n (by omega) (by rw [hx]; decide) (by rw [hx])
    have e : ((3 : Int) + if 1000 ≤ n then 1 else 0) = (k : Int) := by
      rcases hkk with rfl | rfl | rfl | rfl | rfl | rfl | rfl <;> simp only [Nat.reducePow, Nat.reduceSub] at h1 h2 <;> split <;> omega
    rw [e] at h
    exact h
  by_cases c13 : n < 16384
  · have hx : len64 n = 14 := len64_of (x := 13) (by omega) c13
    have h := nd4 n (by omega) (by rw [hx]; decide) (by rw [hx])
    have e : ((4 : Int) + if 10000 ≤ n then 1 else 0) = (k : Int) := by
      rcases hkk with rfl | rfl | rfl | rfl | rfl | rfl | rfl <;> simp only [Nat.reducePow, Nat.reduceSub] at h1 h2 <;> split <;> omega
    rw [e] at h
    exact h
  by_cases c14 : n < 32768
  · have hx : len64 n = 15 := len64_of (x := 14) (by omega) c14
    have h := nd4 n (by omega) (by rw [hx]; decide) (by rw [hx])
    have e : ((4 : Int) + if 10000 ≤ n then 1 else 0) = (k : Int) := by
      rcases hkk with rfl | rfl | rfl | rfl | rfl | rfl | rfl <;> simp only [Nat.reducePow, Nat.reduceSub] at h1 h2 <;> split <;> omega
    rw [e] at h
    exact h
  by_cases c15 : n < 65536
  · have hx : len64 n = 16 := len64_of (x := 15) (by omega) c15
    have h := nd4 n (by omega) (by rw [hx]; decide) (by rw [hx])
    have e : ((4 : Int) + if 10000 ≤ n then 1 else 0) = (k : Int) := by
      rcases hkk with rfl | rfl | rfl | rfl | rfl | rfl | rfl <;> simp only [Nat.reducePow, Nat.reduceSub] at h1 h2 <;> split <;> omega
    rw [e] at h
    exact h
  by_cases c16 : n < 131072
  · have hx : len64 n = 17 := len64_of (x := 16) (by omega) c16
    have h := nd5 n (by omega) (by rw [hx]; decide) (by rw [hx])
    have e : ((5 : Int) + if 100000 ≤ n then 1 else 0) = (k : Int) := by
      rcases hkk with rfl | rfl | rfl | rfl | rfl | rfl | rfl <;> simp only [Nat.reducePow, Nat.reduceSub] at h1 h2 <;> split <;> omega
    rw [e] at h
    exact h
  by_cases c17 : n < 262144
  · have hx : len64 n = 18 := len64_of (x := 17) (by omega) c17
    have h := nd5 n (by omega) (by rw [hx]; decide) (by rw [hx])
    have e : ((5 : Int) + if 100000 ≤ n then 1 else 0) = (k : Int) := by
      rcases hkk with rfl | rfl | rfl | rfl | rfl | rfl | rfl <;> simp only [Nat.reducePow, Nat.reduceSub] at h1 h2 <;> split <;> omega
    rw [e] at h
    exact h
  by_cases c18 : n < 524288
  · have hx : len64 n = 19 := len64_of (x := 18) (by omega) c18
    have h := nd5 n (by omega) (by rw [hx]; decide) (by rw [hx])
    have e : ((5 : Int) + if 100000 ≤ n then 1 else 0) = (k : Int) := by
      rcases hkk with rfl | rfl | rfl | rfl | rfl | rfl | rfl <;> simp only [Nat.reducePow, Nat.reduceSub] at h1 h2 <;> split <;> omega
    rw [e] at h
    exact h
  by_cases c19 : n < 1048576
  · have hx : len64 n = 20 := len64_of (x := 19) (by omega) c19
    have h := nd6 n (by omega) (by rw [hx]; decide) (by rw [hx])
    have e : ((6 : Int) + if 1000000 ≤ n then 1 else 0) = (k : Int) := by
      rcases hkk with rfl | rfl | rfl | rfl | rfl | rfl | rfl <;> simp only [Nat.reducePow, Nat.reduceSub] at h1 h2 <;> split <;> omega
    rw [e] at h
    exact h
  by_cases c20 : n < 2097152
  · have hx : len64 n = 21 := len64_of (x := 20) (by omega) c20
    have h := nd6 n (by omega) (by rw [hx]; decide) (by rw [hx])
    have e : ((6 : Int) + if 1000000 ≤ n then 1 else 0) = (k : Int) := by
      rcases hkk with rfl | rfl | rfl | rfl | rfl | rfl | rfl <;> simp only [Nat.reducePow, Nat.reduceSub] at h1 h2 <;> split <;> omega
    rw [e] at h
    exact h
  by_cases c21 : n < 4194304
  · have hx : len64 n = 22 := len64_of (x := 21) (by omega) c21
    have h := nd6 n (by omega) (by rw [hx]; decide) (by rw [hx])
    have e : ((6 : Int) + if 1000000 ≤ n then 1 else 0) = (k : Int) := by
      rcases hkk with rfl | rfl | rfl | rfl | rfl | rfl | rfl <;> simp only [Nat.reducePow, Nat.reduceSub] at h1 h2 <;> split <;> omega
    rw [e] at h
    exact h
  by_cases c22 : n < 8388608
  · have hx : len64 n = 23 := len64_of (x := 22) (by omega) c22
    have h := nd6 n (by omega) (by rw [hx]; decide) (by rw [hx])
    have e : ((6 : Int) + if 1000000 ≤ n then 1 else 0) = (k : Int) := by
      rcases hkk with rfl | rfl | rfl | rfl | rfl | rfl | rfl <;> simp only [Nat.reducePow, Nat.reduceSub] at h1 h2 <;> split <;> omega
    rw [e] at h
    exact h
  by_cases c23 : n < 16777216
  · have hx : len64 n = 24 := len64_of (x := 23) (by omega) c23
    have h := nd7 n (by omega) (by rw [hx]; decide) (by rw [hx])
    have e : ((7 : Int) + if 10000000 ≤ n then 1 else 0) = (k : Int) := by
      rcases hkk with rfl | rfl | rfl | rfl | rfl | rfl | rfl <;> simp only [Nat.reducePow, Nat.reduceSub] at h1 h2 <;> split <;> omega
    rw [e] at h
    exact h
  by_cases c24 : n < 33554432
  · have hx : len64 n = 25 := len64_of (x := 24) (by omega) c24
    have h := nd7 n (by omega) (by rw [hx]; decide) (by rw [hx])
    have e : ((7 : Int) + if 10000000 ≤ n then 1 else 0) = (k : Int) := by
      rcases hkk with rfl | rfl | rfl | rfl | rfl | rfl | rfl <;> simp only [Nat.reducePow, Nat.reduceSub] at h1 h2 <;> split <;> omega
    rw [e] at h
    exact h
  by_cases c25 : n < 67108864
  · have hx : len64 n = 26 := len64_of (x := 25) (by omega) c25
    have h := nd7 n (by omega) (by rw [hx]; decide) (by rw [hx])
    have e : ((7 : Int) + if 10000000 ≤ n then 1 else 0) = (k : Int) := by
      rcases hkk with rfl | rfl | rfl | rfl | rfl | rfl | rfl <;> simp only [Nat.reducePow, Nat.reduceSub] at h1 h2 <;> split <;> omega
    rw [e] at h
    exact h
  by_cases c26 : n < 134217728
  · have hx : len64 n = 27 := len64_of (x := 26) (by omega) c26
    have h := nd8 n (by omega) (by rw [hx]; decide) (by rw [hx])
    have e : ((8 : Int) + if 100000000 ≤ n then 1 else 0) = (k : Int) := by
      rcases hkk with rfl | rfl | rfl | rfl | rfl | rfl | rfl <;> simp only [Nat.reducePow, Nat.reduceSub] at h1 h2 <;> split <;> omega
    rw [e] at h
    exact h
  by_cases c27 : n < 268435456
  · have hx : len64 n = 28 := len64_of (x := 27) (by omega) c27
    have h := nd8 n (by omega) (by rw [hx]; decide) (by rw [hx])
    have e : ((8 : Int) + if 100000000 ≤ n then 1 else 0) = (k : Int) := by
      rcases hkk with rfl | rfl | rfl | rfl | rfl | rfl | rfl <;> simp only [Nat.reducePow, Nat.reduceSub] at h1 h2 <;> split <;> omega
    rw [e] at h
    exact h
  by_cases c28 : n < 536870912
  · have hx : len64 n = 29 := len64_of (x := 28) (by omega) c28
    have h := nd8 n (by omega) (by rw [hx]; decide) (by rw [hx])
    have e : ((8 : Int) + if 100000000 ≤ n then 1 else 0) = (k : Int) := by
      rcases hkk with rfl | rfl | rfl | rfl | rfl | rfl | rfl <;> simp only [Nat.reducePow, Nat.reduceSub] at h1 h2 <;> split <;> omega
    rw [e] at h
    exact h
  by_cases c29 : n < 1073741824
  · have hx : len64 n = 30 := len64_of (x := 29) (by omega) c29
    have h := nd9 n (by omega) (by rw [hx]; decide) (by rw [hx])
    have e : ((9 : Int) + if 1000000000 ≤ n then 1 else 0) = (k : Int) := by
      rcases hkk with rfl | rfl | rfl | rfl | rfl | rfl | rfl <;> simp only [Nat.reducePow, Nat.reduceSub] at h1 h2 <;> split <;> omega
    rw [e] at h
    exact h
  omega
end Go.Proofs.YtafongdfnpnneaaGreatDoor

/- Integers of up to nine digits, written by the program: the digits in the array. -/
set_option maxRecDepth 100000
set_option maxHeartbeats 4000000
set_option linter.all false
namespace Go.Proofs.YtafongdfnpnneaaGreatDoor
open Go.Vm

def dc (m : Nat) : V := .int .u8 ((48 + m : Nat) : Int)
theorem bel_dc {n m : Nat} : (dc m).bel n = true := rfl
theorem u32_two {m : Nat} (h : m < 100) : IntKind.u32.wrap ((m : Int) * 2) = (m : Int) * 2 := u32_id (by omega)
theorem u32_one {m : Nat} (h : m < 100) : IntKind.u32.wrap ((m : Int) * 2 + 1) = (m : Int) * 2 + 1 := u32_id (by omega)
theorem nat_two {m : Nat} : ((m : Int) * 2).toNat = m * 2 := by omega
theorem nat_one {m : Nat} : ((m : Int) * 2 + 1).toNat = m * 2 + 1 := by omega
theorem u32_48 {m : Nat} (h : m < 100) : IntKind.u32.wrap (48 + (m : Int)) = 48 + (m : Int) := u32_id (by omega)
theorem u8_48 {m : Nat} (h : m < 100) : IntKind.u8.wrap (48 + (m : Int)) = 48 + (m : Int) := u8_id (by omega)

theorem g80_3 (a A n : Nat) (hA : A < 100) (ha : a < 10) (hn : n = a * 100 + A) : GCall Tryz.prog 87 [.buf 0 0 1 3 1, .int .u64 n] [.cells 0 z24] (.tup []) [.cells 0 ([.int .u8 0, dc a, dc (A / 10), dc (A % 10)] ++ List.replicate 20 (.int .u8 0))] := by
  have hn9 : n < 1000000000 := by omega
  have hx : True := trivial
  have r1 : IntKind.u32.wrap ((n : Nat) : Int) = ((n : Nat) : Int) := by exact u32_id (by omega)
  have r2 : ((n : Nat) : Int).tmod 100 = ((A : Nat) : Int) := by rw [Int.tmod_eq_emod_of_nonneg (by omega)]; omega
  have r3 : ((n : Nat) : Int).tdiv 100 = ((a : Nat) : Int) := by rw [Int.tdiv_eq_ediv_of_nonneg (by omega)]; omega
  have wA : IntKind.u32.wrap ((A : Nat) : Int) = ((A : Nat) : Int) := by exact u32_id (by omega)
  have wa : IntKind.u32.wrap ((a : Nat) : Int) = ((a : Nat) : Int) := by exact u32_id (by omega)
  unfold z24
  simp only [List.replicate]
  refine GC.walk tok mixed cfg0 Tryz.func87 rfl Tryz.call87 ?_; simp (maxSteps := 2000000) -implicitDefEqProofs +contextual (disch := first | assumption | omega | decide +kernel) only [push_cast, ↓capI, br2_true, br2_false, frk_tt, frk_tf, frk_f, frkD_tt, frkD_tf, frkD_f, pk2_true, pk2_false, imp_true, seval, Nat.reduceLeDiff, Nat.reduceEqDiff, reduceCtorEq, ↓reduceIte, cfg0, take_rest, ibeq_dec, V.rn, rns, qn, setPs, rnOs, Ob.rn, gl0, glV, List.map, V.st, List.set_cons_zero, List.size_toArray, Tryz.ntmps87]
  refine T.lp tok mixed cfg0 (fun (j : Nat) => kp 1 (sv (.int .u64 n) (dd 2 (sv (.int .i64 3) (dd 162 (nl)))))) (fun H0 (j : Nat) => [.cells 0 z24]) (fun (j : Nat) => j = 0) (fun (j : Nat) => 0) (0) ?_ ?_ ?_
  · rfl
  · unfold z24
    simp only [List.replicate]
    exact Gn.canon (J := []) (by first | rfl | (simp [List.append_nil]; done) | (simp [List.append_nil]; rfl)) (by simp [wk, putT, kp, dd, sv, nl]) (by simp [List.length_append]) (by simp [bel_dc, kp, dd, sv, nl]) (by simp [bel_dc])
  rintro j rfl
  unfold z24
  simp only [List.replicate]
  simp (maxSteps := 2000000) -implicitDefEqProofs +contextual (disch := first | assumption | omega | decide +kernel) only [push_cast, ↓capI, br2_true, br2_false, frk_tt, frk_tf, frk_f, frkD_tt, frkD_tf, frkD_f, pk2_true, pk2_false, imp_true, seval, Nat.reduceLeDiff, Nat.reduceEqDiff, reduceCtorEq, ↓reduceIte, cfg0, take_rest, ibeq_dec, V.rn, rns, qn, setPs, rnOs, Ob.rn, gl0, glV, List.map, V.st, List.set_cons_zero, List.size_toArray, r1, r2, r3, wA, wa, u32_two, u32_one, nat_two, nat_one, u32_48, u8_48, bigA, bigB, bigL]
  refine endG.normal ([]) (by first | rfl | simp [bel_dc, fzs_ok, getO, setO, fzs, fz, fzH, Nat.beq, tt_3, tt_4, tt_5, tt_9, tt_129, tt_122, tt_126, tt_128, tt_138, tt_134, tt_2, tt_67, tt_141, tt_150, cfg0, take_rest, ibeq_dec, V.rn, rns, qn, setPs, rnOs, Ob.rn, gl0, glV, List.map, V.st, List.set_cons_zero, List.size_toArray, dc, List.replicate, hx]) (by simp) (by simp [bel_dc, fzs_ok, imp, lenOK_iff, List.take_of_length_le, evRes, getT, getO, setO, fzs, fz, fzH, Nat.beq, retV, Res.then, ldT, ldR, mkV, getV, tt_3, tt_4, tt_5, tt_9, tt_129, tt_122, tt_126, tt_128, tt_138, tt_134, tt_2, tt_67, tt_141, tt_150, cfg0, take_rest, ibeq_dec, V.rn, rns, qn, setPs, rnOs, Ob.rn, gl0, glV, List.map, V.st, List.set_cons_zero, List.size_toArray, Tryz.f87, dc, List.replicate, hx]) (by first | rfl | simp [bel_dc, dc, List.replicate, hx]) (by first | rfl | simp [bel_dc, dc, List.replicate, hx])
theorem g80_4 (B A n : Nat) (hA : A < 100) (hB : B < 100) (hn : n = B * 100 + A) : GCall Tryz.prog 87 [.buf 0 0 1 4 1, .int .u64 n] [.cells 0 z24] (.tup []) [.cells 0 ([.int .u8 0, dc (B / 10), dc (B % 10), dc (A / 10), dc (A % 10)] ++ List.replicate 19 (.int .u8 0))] := by
  have hn9 : n < 1000000000 := by omega
  obtain ⟨y, hy⟩ : ∃ y, y = B * 100 + A := ⟨_, rfl⟩
  obtain ⟨x, hx⟩ : ∃ x, x = 0 := ⟨_, rfl⟩
  have r1 : IntKind.u32.wrap ((n : Nat) : Int) = ((n : Nat) : Int) := by exact u32_id (by omega)
  have r2 : ((n : Nat) : Int).tmod 10000 = ((y : Nat) : Int) := by rw [Int.tmod_eq_emod_of_nonneg (by omega)]; omega
  have r3 : ((n : Nat) : Int).tdiv 10000 = ((x : Nat) : Int) := by rw [Int.tdiv_eq_ediv_of_nonneg (by omega)]; omega
  have r4 : ((y : Nat) : Int).tdiv 100 = ((B : Nat) : Int) := by rw [Int.tdiv_eq_ediv_of_nonneg (by omega)]; omega
  have r5 : ((y : Nat) : Int).tmod 100 = ((A : Nat) : Int) := by rw [Int.tmod_eq_emod_of_nonneg (by omega)]; omega
  have r6 : IntKind.u32.wrap ((x : Nat) : Int) = ((x : Nat) : Int) := by exact u32_id (by omega)
  have r7 : IntKind.u32.wrap ((y : Nat) : Int) = ((y : Nat) : Int) := by exact u32_id (by omega)
  have wA : IntKind.u32.wrap ((A : Nat) : Int) = ((A : Nat) : Int) := by exact u32_id (by omega)
  have wB : IntKind.u32.wrap ((B : Nat) : Int) = ((B : Nat) : Int) := by exact u32_id (by omega)
  unfold z24
  simp only [List.replicate]
  refine GC.walk tok mixed cfg0 Tryz.func87 rfl Tryz.call87 ?_; simp (maxSteps := 2000000) -implicitDefEqProofs +contextual (disch := first | assumption | omega | decide +kernel) only [push_cast, ↓capI, br2_true, br2_false, frk_tt, frk_tf, frk_f, frkD_tt, frkD_tf, frkD_f, pk2_true, pk2_false, imp_true, seval, Nat.reduceLeDiff, Nat.reduceEqDiff, reduceCtorEq, ↓reduceIte, cfg0, take_rest, ibeq_dec, V.rn, rns, qn, setPs, rnOs, Ob.rn, gl0, glV, List.map, V.st, List.set_cons_zero, List.size_toArray, Tryz.ntmps87]
  refine T.lp tok mixed cfg0 (fun (j : Nat) => kp 1 (sv (.int .u64 n) (dd 2 (sv (.int .i64 4) (dd 162 (nl)))))) (fun H0 (j : Nat) => [.cells 0 z24]) (fun (j : Nat) => j = 0) (fun (j : Nat) => 0) (0) ?_ ?_ ?_
  · rfl
  · unfold z24
    simp only [List.replicate]
    exact Gn.canon (J := []) (by first | rfl | (simp [List.append_nil]; done) | (simp [List.append_nil]; rfl)) (by simp [wk, putT, kp, dd, sv, nl]) (by simp [List.length_append]) (by simp [bel_dc, kp, dd, sv, nl]) (by simp [bel_dc])
  rintro j rfl
  unfold z24
  simp only [List.replicate]
  simp (maxSteps := 2000000) -implicitDefEqProofs +contextual (disch := first | assumption | omega | decide +kernel) only [push_cast, ↓capI, br2_true, br2_false, frk_tt, frk_tf, frk_f, frkD_tt, frkD_tf, frkD_f, pk2_true, pk2_false, imp_true, seval, Nat.reduceLeDiff, Nat.reduceEqDiff, reduceCtorEq, ↓reduceIte, cfg0, take_rest, ibeq_dec, V.rn, rns, qn, setPs, rnOs, Ob.rn, gl0, glV, List.map, V.st, List.set_cons_zero, List.size_toArray, r1, r2, r3, r4, r5, r6, r7, wA, wB, u32_two, u32_one, nat_two, nat_one, u32_48, u8_48, bigA, bigB, bigL]
  refine endG.normal ([]) (by first | rfl | simp [bel_dc, fzs_ok, getO, setO, fzs, fz, fzH, Nat.beq, tt_3, tt_4, tt_5, tt_9, tt_129, tt_122, tt_126, tt_128, tt_138, tt_134, tt_2, tt_67, tt_141, tt_150, cfg0, take_rest, ibeq_dec, V.rn, rns, qn, setPs, rnOs, Ob.rn, gl0, glV, List.map, V.st, List.set_cons_zero, List.size_toArray, dc, List.replicate, hx]) (by simp) (by simp [bel_dc, fzs_ok, imp, lenOK_iff, List.take_of_length_le, evRes, getT, getO, setO, fzs, fz, fzH, Nat.beq, retV, Res.then, ldT, ldR, mkV, getV, tt_3, tt_4, tt_5, tt_9, tt_129, tt_122, tt_126, tt_128, tt_138, tt_134, tt_2, tt_67, tt_141, tt_150, cfg0, take_rest, ibeq_dec, V.rn, rns, qn, setPs, rnOs, Ob.rn, gl0, glV, List.map, V.st, List.set_cons_zero, List.size_toArray, Tryz.f87, dc, List.replicate, hx]) (by first | rfl | simp [bel_dc, dc, List.replicate, hx]) (by first | rfl | simp [bel_dc, dc, List.replicate, hx])
theorem g80_5 (a B A n : Nat) (hA : A < 100) (hB : B < 100) (ha : a < 10) (hn : n = a * 10000 + B * 100 + A) : GCall Tryz.prog 87 [.buf 0 0 1 5 1, .int .u64 n] [.cells 0 z24] (.tup []) [.cells 0 ([.int .u8 0, dc a, dc (B / 10), dc (B % 10), dc (A / 10), dc (A % 10)] ++ List.replicate 18 (.int .u8 0))] := by
  have hn9 : n < 1000000000 := by omega
  obtain ⟨y, hy⟩ : ∃ y, y = B * 100 + A := ⟨_, rfl⟩
  obtain ⟨x, hx⟩ : ∃ x, x = a := ⟨_, rfl⟩
  have r1 : IntKind.u32.wrap ((n : Nat) : Int) = ((n : Nat) : Int) := by exact u32_id (by omega)
  have r2 : ((n : Nat) : Int).tmod 10000 = ((y : Nat) : Int) := by rw [Int.tmod_eq_emod_of_nonneg (by omega)]; omega
  have r3 : ((n : Nat) : Int).tdiv 10000 = ((x : Nat) : Int) := by rw [Int.tdiv_eq_ediv_of_nonneg (by omega)]; omega
  have r4 : ((y : Nat) : Int).tdiv 100 = ((B : Nat) : Int) := by rw [Int.tdiv_eq_ediv_of_nonneg (by omega)]; omega
  have r5 : ((y : Nat) : Int).tmod 100 = ((A : Nat) : Int) := by rw [Int.tmod_eq_emod_of_nonneg (by omega)]; omega
  have r6 : IntKind.u32.wrap ((x : Nat) : Int) = ((x : Nat) : Int) := by exact u32_id (by omega)
  have r7 : IntKind.u32.wrap ((y : Nat) : Int) = ((y : Nat) : Int) := by exact u32_id (by omega)
  have wA : IntKind.u32.wrap ((A : Nat) : Int) = ((A : Nat) : Int) := by exact u32_id (by omega)
  have wB : IntKind.u32.wrap ((B : Nat) : Int) = ((B : Nat) : Int) := by exact u32_id (by omega)
  have wa : IntKind.u32.wrap ((a : Nat) : Int) = ((a : Nat) : Int) := by exact u32_id (by omega)
  unfold z24
  simp only [List.replicate]
  refine GC.walk tok mixed cfg0 Tryz.func87 rfl Tryz.call87 ?_; simp (maxSteps := 2000000) -implicitDefEqProofs +contextual (disch := first | assumption | omega | decide +kernel) only [push_cast, ↓capI, br2_true, br2_false, frk_tt, frk_tf, frk_f, frkD_tt, frkD_tf, frkD_f, pk2_true, pk2_false, imp_true, seval, Nat.reduceLeDiff, Nat.reduceEqDiff, reduceCtorEq, ↓reduceIte, cfg0, take_rest, ibeq_dec, V.rn, rns, qn, setPs, rnOs, Ob.rn, gl0, glV, List.map, V.st, List.set_cons_zero, List.size_toArray, Tryz.ntmps87]
  refine T.lp tok mixed cfg0 (fun (j : Nat) => kp 1 (sv (.int .u64 n) (dd 2 (sv (.int .i64 5) (dd 162 (nl)))))) (fun H0 (j : Nat) => [.cells 0 z24]) (fun (j : Nat) => j = 0) (fun (j : Nat) => 0) (0) ?_ ?_ ?_
  · rfl
  · unfold z24
    simp only [List.replicate]
    exact Gn.canon (J := []) (by first | rfl | (simp [List.append_nil]; done) | (simp [List.append_nil]; rfl)) (by simp [wk, putT, kp, dd, sv, nl]) (by simp [List.length_append]) (by simp [bel_dc, kp, dd, sv, nl]) (by simp [bel_dc])
  rintro j rfl
  unfold z24
  simp only [List.replicate]
  simp (maxSteps := 2000000) -implicitDefEqProofs +contextual (disch := first | assumption | omega | decide +kernel) only [push_cast, ↓capI, br2_true, br2_false, frk_tt, frk_tf, frk_f, frkD_tt, frkD_tf, frkD_f, pk2_true, pk2_false, imp_true, seval, Nat.reduceLeDiff, Nat.reduceEqDiff, reduceCtorEq, ↓reduceIte, cfg0, take_rest, ibeq_dec, V.rn, rns, qn, setPs, rnOs, Ob.rn, gl0, glV, List.map, V.st, List.set_cons_zero, List.size_toArray, r1, r2, r3, r4, r5, r6, r7, wA, wB, wa, u32_two, u32_one, nat_two, nat_one, u32_48, u8_48, bigA, bigB, bigL]
  refine endG.normal ([]) (by first | rfl | simp [bel_dc, fzs_ok, getO, setO, fzs, fz, fzH, Nat.beq, tt_3, tt_4, tt_5, tt_9, tt_129, tt_122, tt_126, tt_128, tt_138, tt_134, tt_2, tt_67, tt_141, tt_150, cfg0, take_rest, ibeq_dec, V.rn, rns, qn, setPs, rnOs, Ob.rn, gl0, glV, List.map, V.st, List.set_cons_zero, List.size_toArray, dc, List.replicate, hx]) (by simp) (by simp [bel_dc, fzs_ok, imp, lenOK_iff, List.take_of_length_le, evRes, getT, getO, setO, fzs, fz, fzH, Nat.beq, retV, Res.then, ldT, ldR, mkV, getV, tt_3, tt_4, tt_5, tt_9, tt_129, tt_122, tt_126, tt_128, tt_138, tt_134, tt_2, tt_67, tt_141, tt_150, cfg0, take_rest, ibeq_dec, V.rn, rns, qn, setPs, rnOs, Ob.rn, gl0, glV, List.map, V.st, List.set_cons_zero, List.size_toArray, Tryz.f87, dc, List.replicate, hx]) (by first | rfl | simp [bel_dc, dc, List.replicate, hx]) (by first | rfl | simp [bel_dc, dc, List.replicate, hx])
theorem g80_6 (C B A n : Nat) (hA : A < 100) (hB : B < 100) (hC : C < 100) (hn : n = C * 10000 + B * 100 + A) : GCall Tryz.prog 87 [.buf 0 0 1 6 1, .int .u64 n] [.cells 0 z24] (.tup []) [.cells 0 ([.int .u8 0, dc (C / 10), dc (C % 10), dc (B / 10), dc (B % 10), dc (A / 10), dc (A % 10)] ++ List.replicate 17 (.int .u8 0))] := by
  have hn9 : n < 1000000000 := by omega
  obtain ⟨y, hy⟩ : ∃ y, y = B * 100 + A := ⟨_, rfl⟩
  obtain ⟨x, hx⟩ : ∃ x, x = C := ⟨_, rfl⟩
  have r1 : IntKind.u32.wrap ((n : Nat) : Int) = ((n : Nat) : Int) := by exact u32_id (by omega)
  have r2 : ((n : Nat) : Int).tmod 10000 = ((y : Nat) : Int) := by rw [Int.tmod_eq_emod_of_nonneg (by omega)]; omega
  have r3 : ((n : Nat) : Int).tdiv 10000 = ((x : Nat) : Int) := by rw [Int.tdiv_eq_ediv_of_nonneg (by omega)]; omega
  have r4 : ((y : Nat) : Int).tdiv 100 = ((B : Nat) : Int) := by rw [Int.tdiv_eq_ediv_of_nonneg (by omega)]; omega
  have r5 : ((y : Nat) : Int).tmod 100 = ((A : Nat) : Int) := by rw [Int.tmod_eq_emod_of_nonneg (by omega)]; omega
  have r6 : IntKind.u32.wrap ((x : Nat) : Int) = ((x : Nat) : Int) := by exact u32_id (by omega)
  have r7 : IntKind.u32.wrap ((y : Nat) : Int) = ((y : Nat) : Int) := by exact u32_id (by omega)
  have wA : IntKind.u32.wrap ((A : Nat) : Int) = ((A : Nat) : Int) := by exact u32_id (by omega)
  have wB : IntKind.u32.wrap ((B : Nat) : Int) = ((B : Nat) : Int) := by exact u32_id (by omega)
  have r8 : ((x : Nat) : Int).tmod 100 = ((C : Nat) : Int) := by rw [Int.tmod_eq_emod_of_nonneg (by omega)]; omega
  have r9 : ((x : Nat) : Int).tdiv 100 = ((0 : Nat) : Int) := by rw [Int.tdiv_eq_ediv_of_nonneg (by omega)]; omega
  have wC : IntKind.u32.wrap ((C : Nat) : Int) = ((C : Nat) : Int) := by exact u32_id (by omega)
  unfold z24
  simp only [List.replicate]
  refine GC.walk tok mixed cfg0 Tryz.func87 rfl Tryz.call87 ?_; simp (maxSteps := 2000000) -implicitDefEqProofs +contextual (disch := first | assumption | omega | decide +kernel) only [push_cast, ↓capI, br2_true, br2_false, frk_tt, frk_tf, frk_f, frkD_tt, frkD_tf, frkD_f, pk2_true, pk2_false, imp_true, seval, Nat.reduceLeDiff, Nat.reduceEqDiff, reduceCtorEq, ↓reduceIte, cfg0, take_rest, ibeq_dec, V.rn, rns, qn, setPs, rnOs, Ob.rn, gl0, glV, List.map, V.st, List.set_cons_zero, List.size_toArray, Tryz.ntmps87]
  refine T.lp tok mixed cfg0 (fun (j : Nat) => kp 1 (sv (.int .u64 n) (dd 2 (sv (.int .i64 6) (dd 162 (nl)))))) (fun H0 (j : Nat) => [.cells 0 z24]) (fun (j : Nat) => j = 0) (fun (j : Nat) => 0) (0) ?_ ?_ ?_
  · rfl
  · unfold z24
    simp only [List.replicate]
    exact Gn.canon (J := []) (by first | rfl | (simp [List.append_nil]; done) | (simp [List.append_nil]; rfl)) (by simp [wk, putT, kp, dd, sv, nl]) (by simp [List.length_append]) (by simp [bel_dc, kp, dd, sv, nl]) (by simp [bel_dc])
  rintro j rfl
  unfold z24
  simp only [List.replicate]
  simp (maxSteps := 2000000) -implicitDefEqProofs +contextual (disch := first | assumption | omega | decide +kernel) only [push_cast, ↓capI, br2_true, br2_false, frk_tt, frk_tf, frk_f, frkD_tt, frkD_tf, frkD_f, pk2_true, pk2_false, imp_true, seval, Nat.reduceLeDiff, Nat.reduceEqDiff, reduceCtorEq, ↓reduceIte, cfg0, take_rest, ibeq_dec, V.rn, rns, qn, setPs, rnOs, Ob.rn, gl0, glV, List.map, V.st, List.set_cons_zero, List.size_toArray, r1, r2, r3, r4, r5, r6, r7, wA, wB, r8, r9, wC, u32_two, u32_one, nat_two, nat_one, u32_48, u8_48, bigA, bigB, bigL]
  refine endG.normal ([]) (by first | rfl | simp [bel_dc, fzs_ok, getO, setO, fzs, fz, fzH, Nat.beq, tt_3, tt_4, tt_5, tt_9, tt_129, tt_122, tt_126, tt_128, tt_138, tt_134, tt_2, tt_67, tt_141, tt_150, cfg0, take_rest, ibeq_dec, V.rn, rns, qn, setPs, rnOs, Ob.rn, gl0, glV, List.map, V.st, List.set_cons_zero, List.size_toArray, dc, List.replicate, hx]) (by simp) (by simp [bel_dc, fzs_ok, imp, lenOK_iff, List.take_of_length_le, evRes, getT, getO, setO, fzs, fz, fzH, Nat.beq, retV, Res.then, ldT, ldR, mkV, getV, tt_3, tt_4, tt_5, tt_9, tt_129, tt_122, tt_126, tt_128, tt_138, tt_134, tt_2, tt_67, tt_141, tt_150, cfg0, take_rest, ibeq_dec, V.rn, rns, qn, setPs, rnOs, Ob.rn, gl0, glV, List.map, V.st, List.set_cons_zero, List.size_toArray, Tryz.f87, dc, List.replicate, hx]) (by first | rfl | simp [bel_dc, dc, List.replicate, hx]) (by first | rfl | simp [bel_dc, dc, List.replicate, hx])
theorem g80_7 (a C B A n : Nat) (hA : A < 100) (hB : B < 100) (hC : C < 100) (ha : a < 10) (hn : n = a * 1000000 + C * 10000 + B * 100 + A) : GCall Tryz.prog 87 [.buf 0 0 1 7 1, .int .u64 n] [.cells 0 z24] (.tup []) [.cells 0 ([.int .u8 0, dc a, dc (C / 10), dc (C % 10), dc (B / 10), dc (B % 10), dc (A / 10), dc (A % 10)] ++ List.replicate 16 (.int .u8 0))] := by
  have hn9 : n < 1000000000 := by omega
  obtain ⟨y, hy⟩ : ∃ y, y = B * 100 + A := ⟨_, rfl⟩
  obtain ⟨x, hx⟩ : ∃ x, x = a * 100 + C := ⟨_, rfl⟩
  have r1 : IntKind.u32.wrap ((n : Nat) : Int) = ((n : Nat) : Int) := by exact u32_id (by omega)
  have r2 : ((n : Nat) : Int).tmod 10000 = ((y : Nat) : Int) := by rw [Int.tmod_eq_emod_of_nonneg (by omega)]; omega
  have r3 : ((n : Nat) : Int).tdiv 10000 = ((x : Nat) : Int) := by rw [Int.tdiv_eq_ediv_of_nonneg (by omega)]; omega
  have r4 : ((y : Nat) : Int).tdiv 100 = ((B : Nat) : Int) := by rw [Int.tdiv_eq_ediv_of_nonneg (by omega)]; omega
  have r5 : ((y : Nat) : Int).tmod 100 = ((A : Nat) : Int) := by rw [Int.tmod_eq_emod_of_nonneg (by omega)]; omega
  have r6 : IntKind.u32.wrap ((x : Nat) : Int) = ((x : Nat) : Int) := by exact u32_id (by omega)
  have r7 : IntKind.u32.wrap ((y : Nat) : Int) = ((y : Nat) : Int) := by exact u32_id (by omega)
  have wA : IntKind.u32.wrap ((A : Nat) : Int) = ((A : Nat) : Int) := by exact u32_id (by omega)
  have wB : IntKind.u32.wrap ((B : Nat) : Int) = ((B : Nat) : Int) := by exact u32_id (by omega)
  have r8 : ((x : Nat) : Int).tmod 100 = ((C : Nat) : Int) := by rw [Int.tmod_eq_emod_of_nonneg (by omega)]; omega
  have r9 : ((x : Nat) : Int).tdiv 100 = ((a : Nat) : Int) := by rw [Int.tdiv_eq_ediv_of_nonneg (by omega)]; omega
  have wC : IntKind.u32.wrap ((C : Nat) : Int) = ((C : Nat) : Int) := by exact u32_id (by omega)
  have wa : IntKind.u32.wrap ((a : Nat) : Int) = ((a : Nat) : Int) := by exact u32_id (by omega)
  unfold z24
  simp only [List.replicate]
  refine GC.walk tok mixed cfg0 Tryz.func87 rfl Tryz.call87 ?_; simp (maxSteps := 2000000) -implicitDefEqProofs +contextual (disch := first | assumption | omega | decide +kernel) only [push_cast, ↓capI, br2_true, br2_false, frk_tt, frk_tf, frk_f, frkD_tt, frkD_tf, frkD_f, pk2_true, pk2_false, imp_true, seval, Nat.reduceLeDiff, Nat.reduceEqDiff, reduceCtorEq, ↓reduceIte, cfg0, take_rest, ibeq_dec, V.rn, rns, qn, setPs, rnOs, Ob.rn, gl0, glV, List.map, V.st, List.set_cons_zero, List.size_toArray, Tryz.ntmps87]
  refine T.lp tok mixed cfg0 (fun (j : Nat) => kp 1 (sv (.int .u64 n) (dd 2 (sv (.int .i64 7) (dd 162 (nl)))))) (fun H0 (j : Nat) => [.cells 0 z24]) (fun (j : Nat) => j = 0) (fun (j : Nat) => 0) (0) ?_ ?_ ?_
  · rfl
  · unfold z24
    simp only [List.replicate]
    exact Gn.canon (J := []) (by first | rfl | (simp [List.append_nil]; done) | (simp [List.append_nil]; rfl)) (by simp [wk, putT, kp, dd, sv, nl]) (by simp [List.length_append]) (by simp [bel_dc, kp, dd, sv, nl]) (by simp [bel_dc])
  rintro j rfl
  unfold z24
  simp only [List.replicate]
  simp (maxSteps := 2000000) -implicitDefEqProofs +contextual (disch := first | assumption | omega | decide +kernel) only [push_cast, ↓capI, br2_true, br2_false, frk_tt, frk_tf, frk_f, frkD_tt, frkD_tf, frkD_f, pk2_true, pk2_false, imp_true, seval, Nat.reduceLeDiff, Nat.reduceEqDiff, reduceCtorEq, ↓reduceIte, cfg0, take_rest, ibeq_dec, V.rn, rns, qn, setPs, rnOs, Ob.rn, gl0, glV, List.map, V.st, List.set_cons_zero, List.size_toArray, r1, r2, r3, r4, r5, r6, r7, wA, wB, r8, r9, wC, wa, u32_two, u32_one, nat_two, nat_one, u32_48, u8_48, bigA, bigB, bigL]
  refine endG.normal ([]) (by first | rfl | simp [bel_dc, fzs_ok, getO, setO, fzs, fz, fzH, Nat.beq, tt_3, tt_4, tt_5, tt_9, tt_129, tt_122, tt_126, tt_128, tt_138, tt_134, tt_2, tt_67, tt_141, tt_150, cfg0, take_rest, ibeq_dec, V.rn, rns, qn, setPs, rnOs, Ob.rn, gl0, glV, List.map, V.st, List.set_cons_zero, List.size_toArray, dc, List.replicate, hx]) (by simp) (by simp [bel_dc, fzs_ok, imp, lenOK_iff, List.take_of_length_le, evRes, getT, getO, setO, fzs, fz, fzH, Nat.beq, retV, Res.then, ldT, ldR, mkV, getV, tt_3, tt_4, tt_5, tt_9, tt_129, tt_122, tt_126, tt_128, tt_138, tt_134, tt_2, tt_67, tt_141, tt_150, cfg0, take_rest, ibeq_dec, V.rn, rns, qn, setPs, rnOs, Ob.rn, gl0, glV, List.map, V.st, List.set_cons_zero, List.size_toArray, Tryz.f87, dc, List.replicate, hx]) (by first | rfl | simp [bel_dc, dc, List.replicate, hx]) (by first | rfl | simp [bel_dc, dc, List.replicate, hx])
theorem g80_8 (D C B A n : Nat) (hA : A < 100) (hB : B < 100) (hC : C < 100) (hD : D < 100) (hn : n = D * 1000000 + C * 10000 + B * 100 + A) : GCall Tryz.prog 87 [.buf 0 0 1 8 1, .int .u64 n] [.cells 0 z24] (.tup []) [.cells 0 ([.int .u8 0, dc (D / 10), dc (D % 10), dc (C / 10), dc (C % 10), dc (B / 10), dc (B % 10), dc (A / 10), dc (A % 10)] ++ List.replicate 15 (.int .u8 0))] := by
  have hn9 : n < 1000000000 := by omega
  obtain ⟨q, hq⟩ : ∃ q, q = n % 100000000 := ⟨_, rfl⟩
  have hq2 : q = D * 1000000 + C * 10000 + B * 100 + A := by omega
  obtain ⟨x, hx⟩ : ∃ x, x = D * 100 + C := ⟨_, rfl⟩
  obtain ⟨y, hy⟩ : ∃ y, y = B * 100 + A := ⟨_, rfl⟩
  have r1 : ((n : Nat) : Int).tmod 100000000 = ((q : Nat) : Int) := by rw [Int.tmod_eq_emod_of_nonneg (by omega)]; omega
  have r2 : ((n : Nat) : Int).tdiv 100000000 = ((0 : Nat) : Int) := by rw [Int.tdiv_eq_ediv_of_nonneg (by omega)]; omega
  have r3 : IntKind.u32.wrap ((q : Nat) : Int) = ((q : Nat) : Int) := by exact u32_id (by omega)
  have r4 : ((q : Nat) : Int).tdiv 10000 = ((x : Nat) : Int) := by rw [Int.tdiv_eq_ediv_of_nonneg (by omega)]; omega
  have r5 : ((q : Nat) : Int).tmod 10000 = ((y : Nat) : Int) := by rw [Int.tmod_eq_emod_of_nonneg (by omega)]; omega
  have r6 : ((y : Nat) : Int).tdiv 100 = ((B : Nat) : Int) := by rw [Int.tdiv_eq_ediv_of_nonneg (by omega)]; omega
  have r7 : ((y : Nat) : Int).tmod 100 = ((A : Nat) : Int) := by rw [Int.tmod_eq_emod_of_nonneg (by omega)]; omega
  have r8 : ((x : Nat) : Int).tdiv 100 = ((D : Nat) : Int) := by rw [Int.tdiv_eq_ediv_of_nonneg (by omega)]; omega
  have r9 : ((x : Nat) : Int).tmod 100 = ((C : Nat) : Int) := by rw [Int.tmod_eq_emod_of_nonneg (by omega)]; omega
  have r10 : IntKind.u32.wrap ((x : Nat) : Int) = ((x : Nat) : Int) := by exact u32_id (by omega)
  have r11 : IntKind.u32.wrap ((y : Nat) : Int) = ((y : Nat) : Int) := by exact u32_id (by omega)
  have wA : IntKind.u32.wrap ((A : Nat) : Int) = ((A : Nat) : Int) := by exact u32_id (by omega)
  have wB : IntKind.u32.wrap ((B : Nat) : Int) = ((B : Nat) : Int) := by exact u32_id (by omega)
  have wC : IntKind.u32.wrap ((C : Nat) : Int) = ((C : Nat) : Int) := by exact u32_id (by omega)
  have wD : IntKind.u32.wrap ((D : Nat) : Int) = ((D : Nat) : Int) := by exact u32_id (by omega)
  unfold z24
  simp only [List.replicate]
  refine GC.walk tok mixed cfg0 Tryz.func87 rfl Tryz.call87 ?_; simp (maxSteps := 2000000) -implicitDefEqProofs +contextual (disch := first | assumption | omega | decide +kernel) only [push_cast, ↓capI, br2_true, br2_false, frk_tt, frk_tf, frk_f, frkD_tt, frkD_tf, frkD_f, pk2_true, pk2_false, imp_true, seval, Nat.reduceLeDiff, Nat.reduceEqDiff, reduceCtorEq, ↓reduceIte, cfg0, take_rest, ibeq_dec, V.rn, rns, qn, setPs, rnOs, Ob.rn, gl0, glV, List.map, V.st, List.set_cons_zero, List.size_toArray, Tryz.ntmps87]
  refine T.lp tok mixed cfg0 (fun (j : Nat) => kp 1 (sv (.int .u64 (if j = 1 then ((0 : Nat) : Int) else ((n : Nat) : Int))) (dd 2 (sv (.int .i64 (if j = 1 then 0 else 8)) (dd 162 (nl)))))) (fun H0 (j : Nat) => [.cells 0 (if j = 1 then [.int .u8 0, dc (D / 10), dc (D % 10), dc (C / 10), dc (C % 10), dc (B / 10), dc (B % 10), dc (A / 10), dc (A % 10)] ++ List.replicate 15 (.int .u8 0) else z24)]) (fun (j : Nat) => j ≤ 1) (fun (j : Nat) => 1 - j) (0) ?_ ?_ ?_
  · exact Nat.zero_le _
  · unfold z24
    simp only [List.replicate, Nat.zero_ne_one, if_false]
    exact Gn.canon (J := []) (by first | rfl | (simp [List.append_nil]; done) | (simp [List.append_nil]; rfl)) (by simp [wk, putT, kp, dd, sv, nl]) (by simp [List.length_append]) (by simp [bel_dc, kp, dd, sv, nl]) (by simp [bel_dc])
  intro j hj
  rcases (by omega : j = 0 ∨ j = 1) with rfl | rfl
  · unfold z24
    simp only [List.replicate, Nat.zero_ne_one, if_false]
    simp (maxSteps := 2000000) -implicitDefEqProofs +contextual (disch := first | assumption | omega | decide +kernel) only [push_cast, ↓capI, br2_true, br2_false, frk_tt, frk_tf, frk_f, frkD_tt, frkD_tf, frkD_f, pk2_true, pk2_false, imp_true, seval, Nat.reduceLeDiff, Nat.reduceEqDiff, reduceCtorEq, ↓reduceIte, cfg0, take_rest, ibeq_dec, V.rn, rns, qn, setPs, rnOs, Ob.rn, gl0, glV, List.map, V.st, List.set_cons_zero, List.size_toArray, r1, r2, r3, r4, r5, r6, r7, r8, r9, r10, r11, wA, wB, wC, wD, u32_two, u32_one, nat_two, nat_one, u32_48, u8_48, bigA, bigB, bigL]
    refine ⟨1, by omega, by (try simp only); omega, ?_⟩; exact Gn.canon (by first | rfl | (simp [List.append_nil, dc, List.replicate, hx]; rfl)) (by simp [wk, dc, List.replicate, hx]) (by simp [List.length_append]) (by simp [bel_dc]) (by simp [bel_dc])
  · simp only [List.replicate, if_true, List.cons_append, List.nil_append]
    simp (maxSteps := 2000000) -implicitDefEqProofs +contextual (disch := first | assumption | omega | decide +kernel) only [push_cast, ↓capI, br2_true, br2_false, frk_tt, frk_tf, frk_f, frkD_tt, frkD_tf, frkD_f, pk2_true, pk2_false, imp_true, seval, Nat.reduceLeDiff, Nat.reduceEqDiff, reduceCtorEq, ↓reduceIte, cfg0, take_rest, ibeq_dec, V.rn, rns, qn, setPs, rnOs, Ob.rn, gl0, glV, List.map, V.st, List.set_cons_zero, List.size_toArray, r1, r2, r3, r4, r5, r6, r7, r8, r9, r10, r11, wA, wB, wC, wD, u32_two, u32_one, nat_two, nat_one, u32_48, u8_48, bigA, bigB, bigL]
    refine endG.normal ([]) (by first | rfl | simp [bel_dc, fzs_ok, getO, setO, fzs, fz, fzH, Nat.beq, tt_3, tt_4, tt_5, tt_9, tt_129, tt_122, tt_126, tt_128, tt_138, tt_134, tt_2, tt_67, tt_141, tt_150, cfg0, take_rest, ibeq_dec, V.rn, rns, qn, setPs, rnOs, Ob.rn, gl0, glV, List.map, V.st, List.set_cons_zero, List.size_toArray, dc, List.replicate, hx]) (by simp) (by simp [bel_dc, fzs_ok, imp, lenOK_iff, List.take_of_length_le, evRes, getT, getO, setO, fzs, fz, fzH, Nat.beq, retV, Res.then, ldT, ldR, mkV, getV, tt_3, tt_4, tt_5, tt_9, tt_129, tt_122, tt_126, tt_128, tt_138, tt_134, tt_2, tt_67, tt_141, tt_150, cfg0, take_rest, ibeq_dec, V.rn, rns, qn, setPs, rnOs, Ob.rn, gl0, glV, List.map, V.st, List.set_cons_zero, List.size_toArray, Tryz.f87, dc, List.replicate, hx]) (by first | rfl | simp [bel_dc, dc, List.replicate, hx]) (by first | rfl | simp [bel_dc, dc, List.replicate, hx])
theorem g80_9 (a D C B A n : Nat) (hA : A < 100) (hB : B < 100) (hC : C < 100) (hD : D < 100) (ha : a < 10) (hn : n = a * 100000000 + D * 1000000 + C * 10000 + B * 100 + A) : GCall Tryz.prog 87 [.buf 0 0 1 9 1, .int .u64 n] [.cells 0 z24] (.tup []) [.cells 0 ([.int .u8 0, dc a, dc (D / 10), dc (D % 10), dc (C / 10), dc (C % 10), dc (B / 10), dc (B % 10), dc (A / 10), dc (A % 10)] ++ List.replicate 14 (.int .u8 0))] := by
  have hn9 : n < 1000000000 := by omega
  obtain ⟨q, hq⟩ : ∃ q, q = n % 100000000 := ⟨_, rfl⟩
  have hq2 : q = D * 1000000 + C * 10000 + B * 100 + A := by omega
  obtain ⟨x, hx⟩ : ∃ x, x = D * 100 + C := ⟨_, rfl⟩
  obtain ⟨y, hy⟩ : ∃ y, y = B * 100 + A := ⟨_, rfl⟩
  have r1 : ((n : Nat) : Int).tmod 100000000 = ((q : Nat) : Int) := by rw [Int.tmod_eq_emod_of_nonneg (by omega)]; omega
  have r2 : ((n : Nat) : Int).tdiv 100000000 = ((a : Nat) : Int) := by rw [Int.tdiv_eq_ediv_of_nonneg (by omega)]; omega
  have r3 : IntKind.u32.wrap ((q : Nat) : Int) = ((q : Nat) : Int) := by exact u32_id (by omega)
  have r4 : ((q : Nat) : Int).tdiv 10000 = ((x : Nat) : Int) := by rw [Int.tdiv_eq_ediv_of_nonneg (by omega)]; omega
  have r5 : ((q : Nat) : Int).tmod 10000 = ((y : Nat) : Int) := by rw [Int.tmod_eq_emod_of_nonneg (by omega)]; omega
  have r6 : ((y : Nat) : Int).tdiv 100 = ((B : Nat) : Int) := by rw [Int.tdiv_eq_ediv_of_nonneg (by omega)]; omega
  have r7 : ((y : Nat) : Int).tmod 100 = ((A : Nat) : Int) := by rw [Int.tmod_eq_emod_of_nonneg (by omega)]; omega
  have r8 : ((x : Nat) : Int).tdiv 100 = ((D : Nat) : Int) := by rw [Int.tdiv_eq_ediv_of_nonneg (by omega)]; omega
  have r9 : ((x : Nat) : Int).tmod 100 = ((C : Nat) : Int) := by rw [Int.tmod_eq_emod_of_nonneg (by omega)]; omega
  have r10 : IntKind.u32.wrap ((x : Nat) : Int) = ((x : Nat) : Int) := by exact u32_id (by omega)
  have r11 : IntKind.u32.wrap ((y : Nat) : Int) = ((y : Nat) : Int) := by exact u32_id (by omega)
  have wA : IntKind.u32.wrap ((A : Nat) : Int) = ((A : Nat) : Int) := by exact u32_id (by omega)
  have wB : IntKind.u32.wrap ((B : Nat) : Int) = ((B : Nat) : Int) := by exact u32_id (by omega)
  have wC : IntKind.u32.wrap ((C : Nat) : Int) = ((C : Nat) : Int) := by exact u32_id (by omega)
  have wD : IntKind.u32.wrap ((D : Nat) : Int) = ((D : Nat) : Int) := by exact u32_id (by omega)
  have wa : IntKind.u32.wrap ((a : Nat) : Int) = ((a : Nat) : Int) := by exact u32_id (by omega)
  have wa6 : IntKind.u64.wrap ((a : Nat) : Int) = ((a : Nat) : Int) := by exact IntWalk.u64_in _ ⟨by omega, by omega⟩
  unfold z24
  simp only [List.replicate]
  refine GC.walk tok mixed cfg0 Tryz.func87 rfl Tryz.call87 ?_; simp (maxSteps := 2000000) -implicitDefEqProofs +contextual (disch := first | assumption | omega | decide +kernel) only [push_cast, ↓capI, br2_true, br2_false, frk_tt, frk_tf, frk_f, frkD_tt, frkD_tf, frkD_f, pk2_true, pk2_false, imp_true, seval, Nat.reduceLeDiff, Nat.reduceEqDiff, reduceCtorEq, ↓reduceIte, cfg0, take_rest, ibeq_dec, V.rn, rns, qn, setPs, rnOs, Ob.rn, gl0, glV, List.map, V.st, List.set_cons_zero, List.size_toArray, Tryz.ntmps87]
  refine T.lp tok mixed cfg0 (fun (j : Nat) => kp 1 (sv (.int .u64 (if j = 1 then ((a : Nat) : Int) else ((n : Nat) : Int))) (dd 2 (sv (.int .i64 (if j = 1 then 1 else 9)) (dd 162 (nl)))))) (fun H0 (j : Nat) => [.cells 0 (if j = 1 then [.int .u8 0, .int .u8 0, dc (D / 10), dc (D % 10), dc (C / 10), dc (C % 10), dc (B / 10), dc (B % 10), dc (A / 10), dc (A % 10)] ++ List.replicate 14 (.int .u8 0) else z24)]) (fun (j : Nat) => j ≤ 1) (fun (j : Nat) => 1 - j) (0) ?_ ?_ ?_
  · exact Nat.zero_le _
  · unfold z24
    simp only [List.replicate, Nat.zero_ne_one, if_false]
    exact Gn.canon (J := []) (by first | rfl | (simp [List.append_nil]; done) | (simp [List.append_nil]; rfl)) (by simp [wk, putT, kp, dd, sv, nl]) (by simp [List.length_append]) (by simp [bel_dc, kp, dd, sv, nl]) (by simp [bel_dc])
  intro j hj
  rcases (by omega : j = 0 ∨ j = 1) with rfl | rfl
  · unfold z24
    simp only [List.replicate, Nat.zero_ne_one, if_false]
    simp (maxSteps := 2000000) -implicitDefEqProofs +contextual (disch := first | assumption | omega | decide +kernel) only [push_cast, ↓capI, br2_true, br2_false, frk_tt, frk_tf, frk_f, frkD_tt, frkD_tf, frkD_f, pk2_true, pk2_false, imp_true, seval, Nat.reduceLeDiff, Nat.reduceEqDiff, reduceCtorEq, ↓reduceIte, cfg0, take_rest, ibeq_dec, V.rn, rns, qn, setPs, rnOs, Ob.rn, gl0, glV, List.map, V.st, List.set_cons_zero, List.size_toArray, r1, r2, r3, r4, r5, r6, r7, r8, r9, r10, r11, wA, wB, wC, wD, wa, wa6, u32_two, u32_one, nat_two, nat_one, u32_48, u8_48, bigA, bigB, bigL]
    refine ⟨1, by omega, by (try simp only); omega, ?_⟩; exact Gn.canon (by first | rfl | (simp [List.append_nil, dc, List.replicate, hx]; rfl)) (by simp [wk, dc, List.replicate, hx]) (by simp [List.length_append]) (by simp [bel_dc]) (by simp [bel_dc])
  · simp only [List.replicate, if_true, List.cons_append, List.nil_append]
    simp (maxSteps := 2000000) -implicitDefEqProofs +contextual (disch := first | assumption | omega | decide +kernel) only [push_cast, ↓capI, br2_true, br2_false, frk_tt, frk_tf, frk_f, frkD_tt, frkD_tf, frkD_f, pk2_true, pk2_false, imp_true, seval, Nat.reduceLeDiff, Nat.reduceEqDiff, reduceCtorEq, ↓reduceIte, cfg0, take_rest, ibeq_dec, V.rn, rns, qn, setPs, rnOs, Ob.rn, gl0, glV, List.map, V.st, List.set_cons_zero, List.size_toArray, r1, r2, r3, r4, r5, r6, r7, r8, r9, r10, r11, wA, wB, wC, wD, wa, wa6, u32_two, u32_one, nat_two, nat_one, u32_48, u8_48, bigA, bigB, bigL]
    refine endG.normal ([]) (by first | rfl | simp [bel_dc, fzs_ok, getO, setO, fzs, fz, fzH, Nat.beq, tt_3, tt_4, tt_5, tt_9, tt_129, tt_122, tt_126, tt_128, tt_138, tt_134, tt_2, tt_67, tt_141, tt_150, cfg0, take_rest, ibeq_dec, V.rn, rns, qn, setPs, rnOs, Ob.rn, gl0, glV, List.map, V.st, List.set_cons_zero, List.size_toArray, dc, List.replicate, hx]) (by simp) (by simp [bel_dc, fzs_ok, imp, lenOK_iff, List.take_of_length_le, evRes, getT, getO, setO, fzs, fz, fzH, Nat.beq, retV, Res.then, ldT, ldR, mkV, getV, tt_3, tt_4, tt_5, tt_9, tt_129, tt_122, tt_126, tt_128, tt_138, tt_134, tt_2, tt_67, tt_141, tt_150, cfg0, take_rest, ibeq_dec, V.rn, rns, qn, setPs, rnOs, Ob.rn, gl0, glV, List.map, V.st, List.set_cons_zero, List.size_toArray, Tryz.f87, dc, List.replicate, hx]) (by first | rfl | simp [bel_dc, dc, List.replicate, hx]) (by first | rfl | simp [bel_dc, dc, List.replicate, hx])
end Go.Proofs.YtafongdfnpnneaaGreatDoor

/- Integers of up to nine digits, written by the program: FormatInt. -/
set_option maxRecDepth 100000
set_option maxHeartbeats 4000000
set_option linter.all false
namespace Go.Proofs.YtafongdfnpnneaaGreatDoor
open Go.Vm

theorem dgs_one {k n : Nat} (h : n < 10) : dgs (k + 1) n = [UInt8.ofNat (48 + n)] := by rw [dgs, if_pos h]
theorem dgs_step {k n : Nat} (h : 10 ≤ n) : dgs (k + 1) n = dgs k (n / 10) ++ [UInt8.ofNat (48 + n % 10)] := by rw [dgs, if_neg (by omega)]
theorem t48a {m : Nat} : ((48 : Int) + (m : Int) / 10).toNat = 48 + m / 10 := by omega
theorem t48b {m : Nat} : ((48 : Int) + (m : Int) % 10).toNat = 48 + m % 10 := by omega
theorem t48c {m : Nat} : ((48 : Int) + (m : Int)).toNat = 48 + m := by omega
theorem f65_3 (n : Nat) (h1 : 10 ^ 2 ≤ n) (h2 : n < 10 ^ 3) : PC Tryz.prog 75 [.int .i64 n, .int .i64 10] (.str (dgs 9 n)) := by
  have hd := numDigits n 3 (by decide) h1 h2
  simp only [Nat.reducePow] at h1 h2
  obtain ⟨A, hA⟩ : ∃ x, x = n / 1 % 100 := ⟨_, rfl⟩
  obtain ⟨a, ha⟩ : ∃ x, x = n / 100 := ⟨_, rfl⟩
  have hs : dgs 9 n = [UInt8.ofNat (48 + a), UInt8.ofNat (48 + (A / 10)), UInt8.ofNat (48 + (A % 10))] := by
    rw [dgs_step (by omega), dgs_step (by omega), dgs_one (by omega)]
    have e0 : n % 10 = A % 10 := by omega
    have e1 : n / 10 % 10 = A / 10 := by omega
    have e2 : n / 10 / 10 = a := by omega
    rw [e2, e1, e0]
    rfl
  have hg := g80_3 a A n (by omega) (by omega) (by omega)
  have hi : ¬ (n : Int) < 0 := by omega
  have hc : ¬ (n : Int) < 100 := by omega
  clear hA ha
  rw [hs]
  clear hs
  refine PC.walk tok mixed cfg0 Tryz.func75 rfl Tryz.call75 (by simp ) (by first | rfl | simp ) ?_; simp (maxSteps := 2000000) -implicitDefEqProofs +contextual (disch := first | assumption | omega | decide +kernel) only [push_cast, ↓capI, br2_true, br2_false, frk_tt, frk_tf, frk_f, frkD_tt, frkD_tf, frkD_f, pk2_true, pk2_false, imp_true, seval, Nat.reduceLeDiff, Nat.reduceEqDiff, reduceCtorEq, ↓reduceIte, cfg0, take_rest, ibeq_dec, V.rn, rns, qn, setPs, rnOs, Ob.rn, gl0, glV, List.map, V.st, List.set_cons_zero, List.size_toArray, Tryz.ntmps75]
  (try simp (maxSteps := 2000000) -implicitDefEqProofs +contextual (disch := first | assumption | omega | decide +kernel) only [push_cast, ↓capI, br2_true, br2_false, frk_tt, frk_tf, frk_f, frkD_tt, frkD_tf, frkD_f, pk2_true, pk2_false, imp_true, seval, Nat.reduceLeDiff, Nat.reduceEqDiff, reduceCtorEq, ↓reduceIte, cfg0, take_rest, ibeq_dec, V.rn, rns, qn, setPs, rnOs, Ob.rn, gl0, glV, List.map, V.st, List.set_cons_zero, List.size_toArray, hc])
  refine callO.pc hd ?_
  simp (maxSteps := 2000000) -implicitDefEqProofs +contextual (disch := first | assumption | omega | decide +kernel) only [push_cast, ↓capI, br2_true, br2_false, frk_tt, frk_tf, frk_f, frkD_tt, frkD_tf, frkD_f, pk2_true, pk2_false, imp_true, seval, Nat.reduceLeDiff, Nat.reduceEqDiff, reduceCtorEq, ↓reduceIte, cfg0, take_rest, ibeq_dec, V.rn, rns, qn, setPs, rnOs, Ob.rn, gl0, glV, List.map, V.st, List.set_cons_zero, List.size_toArray, hi]
  refine callO.part0 [0] hg (by decide) rfl rfl ⟨by rfl, by simp, trivial⟩ ?_
  unfold dc
  simp only [List.replicate, List.append_eq, List.cons_append, List.nil_append]
  simp (maxSteps := 2000000) -implicitDefEqProofs +contextual (disch := first | assumption | omega | decide +kernel) only [push_cast, ↓capI, br2_true, br2_false, frk_tt, frk_tf, frk_f, frkD_tt, frkD_tf, frkD_f, pk2_true, pk2_false, imp_true, seval, Nat.reduceLeDiff, Nat.reduceEqDiff, reduceCtorEq, ↓reduceIte, cfg0, take_rest, ibeq_dec, V.rn, rns, qn, setPs, rnOs, Ob.rn, gl0, glV, List.map, V.st, List.set_cons_zero, List.size_toArray, hi]
  refine endK.ret ?_ (by first | rfl | simp ); simp [evRes, getT, retV, Tryz.f75,  t48a, t48b, t48c]
theorem f65_4 (n : Nat) (h1 : 10 ^ 3 ≤ n) (h2 : n < 10 ^ 4) : PC Tryz.prog 75 [.int .i64 n, .int .i64 10] (.str (dgs 9 n)) := by
  have hd := numDigits n 4 (by decide) h1 h2
  simp only [Nat.reducePow] at h1 h2
  obtain ⟨A, hA⟩ : ∃ x, x = n / 1 % 100 := ⟨_, rfl⟩
  obtain ⟨B, hB⟩ : ∃ x, x = n / 100 % 100 := ⟨_, rfl⟩
  have hs : dgs 9 n = [UInt8.ofNat (48 + (B / 10)), UInt8.ofNat (48 + (B % 10)), UInt8.ofNat (48 + (A / 10)), UInt8.ofNat (48 + (A % 10))] := by
    rw [dgs_step (by omega), dgs_step (by omega), dgs_step (by omega), dgs_one (by omega)]
    have e0 : n % 10 = A % 10 := by omega
    have e1 : n / 10 % 10 = A / 10 := by omega
    have e2 : n / 10 / 10 % 10 = B % 10 := by omega
    have e3 : n / 10 / 10 / 10 = B / 10 := by omega
    rw [e3, e2, e1, e0]
    rfl
  have hg := g80_4 B A n (by omega) (by omega) (by omega)
  have hi : ¬ (n : Int) < 0 := by omega
  have hc : ¬ (n : Int) < 100 := by omega
  clear hA hB
  rw [hs]
  clear hs
  refine PC.walk tok mixed cfg0 Tryz.func75 rfl Tryz.call75 (by simp ) (by first | rfl | simp ) ?_; simp (maxSteps := 2000000) -implicitDefEqProofs +contextual (disch := first | assumption | omega | decide +kernel) only [push_cast, ↓capI, br2_true, br2_false, frk_tt, frk_tf, frk_f, frkD_tt, frkD_tf, frkD_f, pk2_true, pk2_false, imp_true, seval, Nat.reduceLeDiff, Nat.reduceEqDiff, reduceCtorEq, ↓reduceIte, cfg0, take_rest, ibeq_dec, V.rn, rns, qn, setPs, rnOs, Ob.rn, gl0, glV, List.map, V.st, List.set_cons_zero, List.size_toArray, Tryz.ntmps75]
  (try simp (maxSteps := 2000000) -implicitDefEqProofs +contextual (disch := first | assumption | omega | decide +kernel) only [push_cast, ↓capI, br2_true, br2_false, frk_tt, frk_tf, frk_f, frkD_tt, frkD_tf, frkD_f, pk2_true, pk2_false, imp_true, seval, Nat.reduceLeDiff, Nat.reduceEqDiff, reduceCtorEq, ↓reduceIte, cfg0, take_rest, ibeq_dec, V.rn, rns, qn, setPs, rnOs, Ob.rn, gl0, glV, List.map, V.st, List.set_cons_zero, List.size_toArray, hc])
  refine callO.pc hd ?_
  simp (maxSteps := 2000000) -implicitDefEqProofs +contextual (disch := first | assumption | omega | decide +kernel) only [push_cast, ↓capI, br2_true, br2_false, frk_tt, frk_tf, frk_f, frkD_tt, frkD_tf, frkD_f, pk2_true, pk2_false, imp_true, seval, Nat.reduceLeDiff, Nat.reduceEqDiff, reduceCtorEq, ↓reduceIte, cfg0, take_rest, ibeq_dec, V.rn, rns, qn, setPs, rnOs, Ob.rn, gl0, glV, List.map, V.st, List.set_cons_zero, List.size_toArray, hi]
  refine callO.part0 [0] hg (by decide) rfl rfl ⟨by rfl, by simp, trivial⟩ ?_
  unfold dc
  simp only [List.replicate, List.append_eq, List.cons_append, List.nil_append]
  simp (maxSteps := 2000000) -implicitDefEqProofs +contextual (disch := first | assumption | omega | decide +kernel) only [push_cast, ↓capI, br2_true, br2_false, frk_tt, frk_tf, frk_f, frkD_tt, frkD_tf, frkD_f, pk2_true, pk2_false, imp_true, seval, Nat.reduceLeDiff, Nat.reduceEqDiff, reduceCtorEq, ↓reduceIte, cfg0, take_rest, ibeq_dec, V.rn, rns, qn, setPs, rnOs, Ob.rn, gl0, glV, List.map, V.st, List.set_cons_zero, List.size_toArray, hi]
  refine endK.ret ?_ (by first | rfl | simp ); simp [evRes, getT, retV, Tryz.f75,  t48a, t48b, t48c]
theorem f65_5 (n : Nat) (h1 : 10 ^ 4 ≤ n) (h2 : n < 10 ^ 5) : PC Tryz.prog 75 [.int .i64 n, .int .i64 10] (.str (dgs 9 n)) := by
  have hd := numDigits n 5 (by decide) h1 h2
  simp only [Nat.reducePow] at h1 h2
  obtain ⟨A, hA⟩ : ∃ x, x = n / 1 % 100 := ⟨_, rfl⟩
  obtain ⟨B, hB⟩ : ∃ x, x = n / 100 % 100 := ⟨_, rfl⟩
  obtain ⟨a, ha⟩ : ∃ x, x = n / 10000 := ⟨_, rfl⟩
  have hs : dgs 9 n = [UInt8.ofNat (48 + a), UInt8.ofNat (48 + (B / 10)), UInt8.ofNat (48 + (B % 10)), UInt8.ofNat (48 + (A / 10)), UInt8.ofNat (48 + (A % 10))] := by
    rw [dgs_step (by omega), dgs_step (by omega), dgs_step (by omega), dgs_step (by omega), dgs_one (by omega)]
    have e0 : n % 10 = A % 10 := by omega
    have e1 : n / 10 % 10 = A / 10 := by omega
    have e2 : n / 10 / 10 % 10 = B % 10 := by omega
    have e3 : n / 10 / 10 / 10 % 10 = B / 10 := by omega
    have e4 : n / 10 / 10 / 10 / 10 = a := by omega
    rw [e4, e3, e2, e1, e0]
    rfl
  have hg := g80_5 a B A n (by omega) (by omega) (by omega) (by omega)
  have hi : ¬ (n : Int) < 0 := by omega
  have hc : ¬ (n : Int) < 100 := by omega
  clear hA hB ha
  rw [hs]
  clear hs
  refine PC.walk tok mixed cfg0 Tryz.func75 rfl Tryz.call75 (by simp ) (by first | rfl | simp ) ?_; simp (maxSteps := 2000000) -implicitDefEqProofs +contextual (disch := first | assumption | omega | decide +kernel) only [push_cast, ↓capI, br2_true, br2_false, frk_tt, frk_tf, frk_f, frkD_tt, frkD_tf, frkD_f, pk2_true, pk2_false, imp_true, seval, Nat.reduceLeDiff, Nat.reduceEqDiff, reduceCtorEq, ↓reduceIte, cfg0, take_rest, ibeq_dec, V.rn, rns, qn, setPs, rnOs, Ob.rn, gl0, glV, List.map, V.st, List.set_cons_zero, List.size_toArray, Tryz.ntmps75]
  (try simp (maxSteps := 2000000) -implicitDefEqProofs +contextual (disch := first | assumption | omega | decide +kernel) only [push_cast, ↓capI, br2_true, br2_false, frk_tt, frk_tf, frk_f, frkD_tt, frkD_tf, frkD_f, pk2_true, pk2_false, imp_true, seval, Nat.reduceLeDiff, Nat.reduceEqDiff, reduceCtorEq, ↓reduceIte, cfg0, take_rest, ibeq_dec, V.rn, rns, qn, setPs, rnOs, Ob.rn, gl0, glV, List.map, V.st, List.set_cons_zero, List.size_toArray, hc])
  refine callO.pc hd ?_
  simp (maxSteps := 2000000) -implicitDefEqProofs +contextual (disch := first | assumption | omega | decide +kernel) only [push_cast, ↓capI, br2_true, br2_false, frk_tt, frk_tf, frk_f, frkD_tt, frkD_tf, frkD_f, pk2_true, pk2_false, imp_true, seval, Nat.reduceLeDiff, Nat.reduceEqDiff, reduceCtorEq, ↓reduceIte, cfg0, take_rest, ibeq_dec, V.rn, rns, qn, setPs, rnOs, Ob.rn, gl0, glV, List.map, V.st, List.set_cons_zero, List.size_toArray, hi]
  refine callO.part0 [0] hg (by decide) rfl rfl ⟨by rfl, by simp, trivial⟩ ?_
  unfold dc
  simp only [List.replicate, List.append_eq, List.cons_append, List.nil_append]
  simp (maxSteps := 2000000) -implicitDefEqProofs +contextual (disch := first | assumption | omega | decide +kernel) only [push_cast, ↓capI, br2_true, br2_false, frk_tt, frk_tf, frk_f, frkD_tt, frkD_tf, frkD_f, pk2_true, pk2_false, imp_true, seval, Nat.reduceLeDiff, Nat.reduceEqDiff, reduceCtorEq, ↓reduceIte, cfg0, take_rest, ibeq_dec, V.rn, rns, qn, setPs, rnOs, Ob.rn, gl0, glV, List.map, V.st, List.set_cons_zero, List.size_toArray, hi]
  refine endK.ret ?_ (by first | rfl | simp ); simp [evRes, getT, retV, Tryz.f75,  t48a, t48b, t48c]
theorem f65_6 (n : Nat) (h1 : 10 ^ 5 ≤ n) (h2 : n < 10 ^ 6) : PC Tryz.prog 75 [.int .i64 n, .int .i64 10] (.str (dgs 9 n)) := by
  have hd := numDigits n 6 (by decide) h1 h2
  simp only [Nat.reducePow] at h1 h2
  obtain ⟨A, hA⟩ : ∃ x, x = n / 1 % 100 := ⟨_, rfl⟩
  obtain ⟨B, hB⟩ : ∃ x, x = n / 100 % 100 := ⟨_, rfl⟩
  obtain ⟨C, hC⟩ : ∃ x, x = n / 10000 % 100 := ⟨_, rfl⟩
  have hs : dgs 9 n = [UInt8.ofNat (48 + (C / 10)), UInt8.ofNat (48 + (C % 10)), UInt8.ofNat (48 + (B / 10)), UInt8.ofNat (48 + (B % 10)), UInt8.ofNat (48 + (A / 10)), UInt8.ofNat (48 + (A % 10))] := by
    rw [dgs_step (by omega), dgs_step (by omega), dgs_step (by omega), dgs_step (by omega), dgs_step (by omega), dgs_one (by omega)]
    have e0 : n % 10 = A % 10 := by omega
    have e1 : n / 10 % 10 = A / 10 := by omega
    have e2 : n / 10 / 10 % 10 = B % 10 := by omega
    have e3 : n / 10 / 10 / 10 % 10 = B / 10 := by omega
    have e4 : n / 10 / 10 / 10 / 10 % 10 = C % 10 := by omega
    have e5 : n / 10 / 10 / 10 / 10 / 10 = C / 10 := by omega
    rw [e5, e4, e3, e2, e1, e0]
    rfl
  have hg := g80_6 C B A n (by omega) (by omega) (by omega) (by omega)
  have hi : ¬ (n : Int) < 0 := by omega
  have hc : ¬ (n : Int) < 100 := by omega
  clear hA hB hC
  rw [hs]
  clear hs
  refine PC.walk tok mixed cfg0 Tryz.func75 rfl Tryz.call75 (by simp ) (by first | rfl | simp ) ?_; simp (maxSteps := 2000000) -implicitDefEqProofs +contextual (disch := first | assumption | omega | decide +kernel) only [push_cast, ↓capI, br2_true, br2_false, frk_tt, frk_tf, frk_f, frkD_tt, frkD_tf, frkD_f, pk2_true, pk2_false, imp_true, seval, Nat.reduceLeDiff, Nat.reduceEqDiff, reduceCtorEq, ↓reduceIte, cfg0, take_rest, ibeq_dec, V.rn, rns, qn, setPs, rnOs, Ob.rn, gl0, glV, List.map, V.st, List.set_cons_zero, List.size_toArray, Tryz.ntmps75]
  (try simp (maxSteps := 2000000) -implicitDefEqProofs +contextual (disch := first | assumption | omega | decide +kernel) only [push_cast, ↓capI, br2_true, br2_false, frk_tt, frk_tf, frk_f, frkD_tt, frkD_tf, frkD_f, pk2_true, pk2_false, imp_true, seval, Nat.reduceLeDiff, Nat.reduceEqDiff, reduceCtorEq, ↓reduceIte, cfg0, take_rest, ibeq_dec, V.rn, rns, qn, setPs, rnOs, Ob.rn, gl0, glV, List.map, V.st, List.set_cons_zero, List.size_toArray, hc])
  refine callO.pc hd ?_
  simp (maxSteps := 2000000) -implicitDefEqProofs +contextual (disch := first | assumption | omega | decide +kernel) only [push_cast, ↓capI, br2_true, br2_false, frk_tt, frk_tf, frk_f, frkD_tt, frkD_tf, frkD_f, pk2_true, pk2_false, imp_true, seval, Nat.reduceLeDiff, Nat.reduceEqDiff, reduceCtorEq, ↓reduceIte, cfg0, take_rest, ibeq_dec, V.rn, rns, qn, setPs, rnOs, Ob.rn, gl0, glV, List.map, V.st, List.set_cons_zero, List.size_toArray, hi]
  refine callO.part0 [0] hg (by decide) rfl rfl ⟨by rfl, by simp, trivial⟩ ?_
  unfold dc
  simp only [List.replicate, List.append_eq, List.cons_append, List.nil_append]
  simp (maxSteps := 2000000) -implicitDefEqProofs +contextual (disch := first | assumption | omega | decide +kernel) only [push_cast, ↓capI, br2_true, br2_false, frk_tt, frk_tf, frk_f, frkD_tt, frkD_tf, frkD_f, pk2_true, pk2_false, imp_true, seval, Nat.reduceLeDiff, Nat.reduceEqDiff, reduceCtorEq, ↓reduceIte, cfg0, take_rest, ibeq_dec, V.rn, rns, qn, setPs, rnOs, Ob.rn, gl0, glV, List.map, V.st, List.set_cons_zero, List.size_toArray, hi]
  refine endK.ret ?_ (by first | rfl | simp ); simp [evRes, getT, retV, Tryz.f75,  t48a, t48b, t48c]
theorem f65_7 (n : Nat) (h1 : 10 ^ 6 ≤ n) (h2 : n < 10 ^ 7) : PC Tryz.prog 75 [.int .i64 n, .int .i64 10] (.str (dgs 9 n)) := by
  have hd := numDigits n 7 (by decide) h1 h2
  simp only [Nat.reducePow] at h1 h2
  obtain ⟨A, hA⟩ : ∃ x, x = n / 1 % 100 := ⟨_, rfl⟩
  obtain ⟨B, hB⟩ : ∃ x, x = n / 100 % 100 := ⟨_, rfl⟩
  obtain ⟨C, hC⟩ : ∃ x, x = n / 10000 % 100 := ⟨_, rfl⟩
  obtain ⟨a, ha⟩ : ∃ x, x = n / 1000000 := ⟨_, rfl⟩
  have hs : dgs 9 n = [UInt8.ofNat (48 + a), UInt8.ofNat (48 + (C / 10)), UInt8.ofNat (48 + (C % 10)), UInt8.ofNat (48 + (B / 10)), UInt8.ofNat (48 + (B % 10)), UInt8.ofNat (48 + (A / 10)), UInt8.ofNat (48 + (A % 10))] := by
    rw [dgs_step (by omega), dgs_step (by omega), dgs_step (by omega), dgs_step (by omega), dgs_step (by omega), dgs_step (by omega), dgs_one (by omega)]
    have e0 : n % 10 = A % 10 := by omega
    have e1 : n / 10 % 10 = A / 10 := by omega
    have e2 : n / 10 / 10 % 10 = B % 10 := by omega
    have e3 : n / 10 / 10 / 10 % 10 = B / 10 := by omega
    have e4 : n / 10 / 10 / 10 / 10 % 10 = C % 10 := by omega
    have e5 : n / 10 / 10 / 10 / 10 / 10 % 10 = C / 10 := by omega
    have e6 : n / 10 / 10 / 10 / 10 / 10 / 10 = a := by omega
    rw [e6, e5, e4, e3, e2, e1, e0]
    rfl
  have hg := g80_7 a C B A n (by omega) (by omega) (by omega) (by omega) (by omega)
  have hi : ¬ (n : Int) < 0 := by omega
  have hc : ¬ (n : Int) < 100 := by omega
  clear hA hB hC ha
  rw [hs]
  clear hs
  refine PC.walk tok mixed cfg0 Tryz.func75 rfl Tryz.call75 (by simp ) (by first | rfl | simp ) ?_; simp (maxSteps := 2000000) -implicitDefEqProofs +contextual (disch := first | assumption | omega | decide +kernel) only [push_cast, ↓capI, br2_true, br2_false, frk_tt, frk_tf, frk_f, frkD_tt, frkD_tf, frkD_f, pk2_true, pk2_false, imp_true, seval, Nat.reduceLeDiff, Nat.reduceEqDiff, reduceCtorEq, ↓reduceIte, cfg0, take_rest, ibeq_dec, V.rn, rns, qn, setPs, rnOs, Ob.rn, gl0, glV, List.map, V.st, List.set_cons_zero, List.size_toArray, Tryz.ntmps75]
  (try simp (maxSteps := 2000000) -implicitDefEqProofs +contextual (disch := first | assumption | omega | decide +kernel) only [push_cast, ↓capI, br2_true, br2_false, frk_tt, frk_tf, frk_f, frkD_tt, frkD_tf, frkD_f, pk2_true, pk2_false, imp_true, seval, Nat.reduceLeDiff, Nat.reduceEqDiff, reduceCtorEq, ↓reduceIte, cfg0, take_rest, ibeq_dec, V.rn, rns, qn, setPs, rnOs, Ob.rn, gl0, glV, List.map, V.st, List.set_cons_zero, List.size_toArray, hc])
  refine callO.pc hd ?_
  simp (maxSteps := 2000000) -implicitDefEqProofs +contextual (disch := first | assumption | omega | decide +kernel) only [push_cast, ↓capI, br2_true, br2_false, frk_tt, frk_tf, frk_f, frkD_tt, frkD_tf, frkD_f, pk2_true, pk2_false, imp_true, seval, Nat.reduceLeDiff, Nat.reduceEqDiff, reduceCtorEq, ↓reduceIte, cfg0, take_rest, ibeq_dec, V.rn, rns, qn, setPs, rnOs, Ob.rn, gl0, glV, List.map, V.st, List.set_cons_zero, List.size_toArray, hi]
  refine callO.part0 [0] hg (by decide) rfl rfl ⟨by rfl, by simp, trivial⟩ ?_
  unfold dc
  simp only [List.replicate, List.append_eq, List.cons_append, List.nil_append]
  simp (maxSteps := 2000000) -implicitDefEqProofs +contextual (disch := first | assumption | omega | decide +kernel) only [push_cast, ↓capI, br2_true, br2_false, frk_tt, frk_tf, frk_f, frkD_tt, frkD_tf, frkD_f, pk2_true, pk2_false, imp_true, seval, Nat.reduceLeDiff, Nat.reduceEqDiff, reduceCtorEq, ↓reduceIte, cfg0, take_rest, ibeq_dec, V.rn, rns, qn, setPs, rnOs, Ob.rn, gl0, glV, List.map, V.st, List.set_cons_zero, List.size_toArray, hi]
  refine endK.ret ?_ (by first | rfl | simp ); simp [evRes, getT, retV, Tryz.f75,  t48a, t48b, t48c]
theorem f65_8 (n : Nat) (h1 : 10 ^ 7 ≤ n) (h2 : n < 10 ^ 8) : PC Tryz.prog 75 [.int .i64 n, .int .i64 10] (.str (dgs 9 n)) := by
  have hd := numDigits n 8 (by decide) h1 h2
  simp only [Nat.reducePow] at h1 h2
  obtain ⟨A, hA⟩ : ∃ x, x = n / 1 % 100 := ⟨_, rfl⟩
  obtain ⟨B, hB⟩ : ∃ x, x = n / 100 % 100 := ⟨_, rfl⟩
  obtain ⟨C, hC⟩ : ∃ x, x = n / 10000 % 100 := ⟨_, rfl⟩
  obtain ⟨D, hD⟩ : ∃ x, x = n / 1000000 % 100 := ⟨_, rfl⟩
  have hs : dgs 9 n = [UInt8.ofNat (48 + (D / 10)), UInt8.ofNat (48 + (D % 10)), UInt8.ofNat (48 + (C / 10)), UInt8.ofNat (48 + (C % 10)), UInt8.ofNat (48 + (B / 10)), UInt8.ofNat (48 + (B % 10)), UInt8.ofNat (48 + (A / 10)), UInt8.ofNat (48 + (A % 10))] := by
    rw [dgs_step (by omega), dgs_step (by omega), dgs_step (by omega), dgs_step (by omega), dgs_step (by omega), dgs_step (by omega), dgs_step (by omega), dgs_one (by omega)]
    have e0 : n % 10 = A % 10 := by omega
    have e1 : n / 10 % 10 = A / 10 := by omega
    have e2 : n / 10 / 10 % 10 = B % 10 := by omega
    have e3 : n / 10 / 10 / 10 % 10 = B / 10 := by omega
    have e4 : n / 10 / 10 / 10 / 10 % 10 = C % 10 := by omega
    have e5 : n / 10 / 10 / 10 / 10 / 10 % 10 = C / 10 := by omega
    have e6 : n / 10 / 10 / 10 / 10 / 10 / 10 % 10 = D % 10 := by omega
    have e7 : n / 10 / 10 / 10 / 10 / 10 / 10 / 10 = D / 10 := by omega
    rw [e7, e6, e5, e4, e3, e2, e1, e0]
    rfl
  have hg := g80_8 D C B A n (by omega) (by omega) (by omega) (by omega) (by omega)
  have hi : ¬ (n : Int) < 0 := by omega
  have hc : ¬ (n : Int) < 100 := by omega
  clear hA hB hC hD
  rw [hs]
  clear hs
  refine PC.walk tok mixed cfg0 Tryz.func75 rfl Tryz.call75 (by simp ) (by first | rfl | simp ) ?_; simp (maxSteps := 2000000) -implicitDefEqProofs +contextual (disch := first | assumption | omega | decide +kernel) only [push_cast, ↓capI, br2_true, br2_false, frk_tt, frk_tf, frk_f, frkD_tt, frkD_tf, frkD_f, pk2_true, pk2_false, imp_true, seval, Nat.reduceLeDiff, Nat.reduceEqDiff, reduceCtorEq, ↓reduceIte, cfg0, take_rest, ibeq_dec, V.rn, rns, qn, setPs, rnOs, Ob.rn, gl0, glV, List.map, V.st, List.set_cons_zero, List.size_toArray, Tryz.ntmps75]
  (try simp (maxSteps := 2000000) -implicitDefEqProofs +contextual (disch := first | assumption | omega | decide +kernel) only [push_cast, ↓capI, br2_true, br2_false, frk_tt, frk_tf, frk_f, frkD_tt, frkD_tf, frkD_f, pk2_true, pk2_false, imp_true, seval, Nat.reduceLeDiff, Nat.reduceEqDiff, reduceCtorEq, ↓reduceIte, cfg0, take_rest, ibeq_dec, V.rn, rns, qn, setPs, rnOs, Ob.rn, gl0, glV, List.map, V.st, List.set_cons_zero, List.size_toArray, hc])
  refine callO.pc hd ?_
  simp (maxSteps := 2000000) -implicitDefEqProofs +contextual (disch := first | assumption | omega | decide +kernel) only [push_cast, ↓capI, br2_true, br2_false, frk_tt, frk_tf, frk_f, frkD_tt, frkD_tf, frkD_f, pk2_true, pk2_false, imp_true, seval, Nat.reduceLeDiff, Nat.reduceEqDiff, reduceCtorEq, ↓reduceIte, cfg0, take_rest, ibeq_dec, V.rn, rns, qn, setPs, rnOs, Ob.rn, gl0, glV, List.map, V.st, List.set_cons_zero, List.size_toArray, hi]
  refine callO.part0 [0] hg (by decide) rfl rfl ⟨by rfl, by simp, trivial⟩ ?_
  unfold dc
  simp only [List.replicate, List.append_eq, List.cons_append, List.nil_append]
  simp (maxSteps := 2000000) -implicitDefEqProofs +contextual (disch := first | assumption | omega | decide +kernel) only [push_cast, ↓capI, br2_true, br2_false, frk_tt, frk_tf, frk_f, frkD_tt, frkD_tf, frkD_f, pk2_true, pk2_false, imp_true, seval, Nat.reduceLeDiff, Nat.reduceEqDiff, reduceCtorEq, ↓reduceIte, cfg0, take_rest, ibeq_dec, V.rn, rns, qn, setPs, rnOs, Ob.rn, gl0, glV, List.map, V.st, List.set_cons_zero, List.size_toArray, hi]
  refine endK.ret ?_ (by first | rfl | simp ); simp [evRes, getT, retV, Tryz.f75,  t48a, t48b, t48c]
theorem f65_9 (n : Nat) (h1 : 10 ^ 8 ≤ n) (h2 : n < 10 ^ 9) : PC Tryz.prog 75 [.int .i64 n, .int .i64 10] (.str (dgs 9 n)) := by
  have hd := numDigits n 9 (by decide) h1 h2
  simp only [Nat.reducePow] at h1 h2
  obtain ⟨A, hA⟩ : ∃ x, x = n / 1 % 100 := ⟨_, rfl⟩
  obtain ⟨B, hB⟩ : ∃ x, x = n / 100 % 100 := ⟨_, rfl⟩
  obtain ⟨C, hC⟩ : ∃ x, x = n / 10000 % 100 := ⟨_, rfl⟩
  obtain ⟨D, hD⟩ : ∃ x, x = n / 1000000 % 100 := ⟨_, rfl⟩
  obtain ⟨a, ha⟩ : ∃ x, x = n / 100000000 := ⟨_, rfl⟩
  have hs : dgs 9 n = [UInt8.ofNat (48 + a), UInt8.ofNat (48 + (D / 10)), UInt8.ofNat (48 + (D % 10)), UInt8.ofNat (48 + (C / 10)), UInt8.ofNat (48 + (C % 10)), UInt8.ofNat (48 + (B / 10)), UInt8.ofNat (48 + (B % 10)), UInt8.ofNat (48 + (A / 10)), UInt8.ofNat (48 + (A % 10))] := by
    rw [dgs_step (by omega), dgs_step (by omega), dgs_step (by omega), dgs_step (by omega), dgs_step (by omega), dgs_step (by omega), dgs_step (by omega), dgs_step (by omega), dgs_one (by omega)]
    have e0 : n % 10 = A % 10 := by omega
    have e1 : n / 10 % 10 = A / 10 := by omega
    have e2 : n / 10 / 10 % 10 = B % 10 := by omega
    have e3 : n / 10 / 10 / 10 % 10 = B / 10 := by omega
    have e4 : n / 10 / 10 / 10 / 10 % 10 = C % 10 := by omega
    have e5 : n / 10 / 10 / 10 / 10 / 10 % 10 = C / 10 := by omega
    have e6 : n / 10 / 10 / 10 / 10 / 10 / 10 % 10 = D % 10 := by omega
    have e7 : n / 10 / 10 / 10 / 10 / 10 / 10 / 10 % 10 = D / 10 := by omega
    have e8 : n / 10 / 10 / 10 / 10 / 10 / 10 / 10 / 10 = a := by omega
    rw [e8, e7, e6, e5, e4, e3, e2, e1, e0]
    rfl
  have hg := g80_9 a D C B A n (by omega) (by omega) (by omega) (by omega) (by omega) (by omega)
  have hi : ¬ (n : Int) < 0 := by omega
  have hc : ¬ (n : Int) < 100 := by omega
  clear hA hB hC hD ha
  rw [hs]
  clear hs
  refine PC.walk tok mixed cfg0 Tryz.func75 rfl Tryz.call75 (by simp ) (by first | rfl | simp ) ?_; simp (maxSteps := 2000000) -implicitDefEqProofs +contextual (disch := first | assumption | omega | decide +kernel) only [push_cast, ↓capI, br2_true, br2_false, frk_tt, frk_tf, frk_f, frkD_tt, frkD_tf, frkD_f, pk2_true, pk2_false, imp_true, seval, Nat.reduceLeDiff, Nat.reduceEqDiff, reduceCtorEq, ↓reduceIte, cfg0, take_rest, ibeq_dec, V.rn, rns, qn, setPs, rnOs, Ob.rn, gl0, glV, List.map, V.st, List.set_cons_zero, List.size_toArray, Tryz.ntmps75]
  (try simp (maxSteps := 2000000) -implicitDefEqProofs +contextual (disch := first | assumption | omega | decide +kernel) only [push_cast, ↓capI, br2_true, br2_false, frk_tt, frk_tf, frk_f, frkD_tt, frkD_tf, frkD_f, pk2_true, pk2_false, imp_true, seval, Nat.reduceLeDiff, Nat.reduceEqDiff, reduceCtorEq, ↓reduceIte, cfg0, take_rest, ibeq_dec, V.rn, rns, qn, setPs, rnOs, Ob.rn, gl0, glV, List.map, V.st, List.set_cons_zero, List.size_toArray, hc])
  refine callO.pc hd ?_
  simp (maxSteps := 2000000) -implicitDefEqProofs +contextual (disch := first | assumption | omega | decide +kernel) only [push_cast, ↓capI, br2_true, br2_false, frk_tt, frk_tf, frk_f, frkD_tt, frkD_tf, frkD_f, pk2_true, pk2_false, imp_true, seval, Nat.reduceLeDiff, Nat.reduceEqDiff, reduceCtorEq, ↓reduceIte, cfg0, take_rest, ibeq_dec, V.rn, rns, qn, setPs, rnOs, Ob.rn, gl0, glV, List.map, V.st, List.set_cons_zero, List.size_toArray, hi]
  refine callO.part0 [0] hg (by decide) rfl rfl ⟨by rfl, by simp, trivial⟩ ?_
  unfold dc
  simp only [List.replicate, List.append_eq, List.cons_append, List.nil_append]
  simp (maxSteps := 2000000) -implicitDefEqProofs +contextual (disch := first | assumption | omega | decide +kernel) only [push_cast, ↓capI, br2_true, br2_false, frk_tt, frk_tf, frk_f, frkD_tt, frkD_tf, frkD_f, pk2_true, pk2_false, imp_true, seval, Nat.reduceLeDiff, Nat.reduceEqDiff, reduceCtorEq, ↓reduceIte, cfg0, take_rest, ibeq_dec, V.rn, rns, qn, setPs, rnOs, Ob.rn, gl0, glV, List.map, V.st, List.set_cons_zero, List.size_toArray, hi]
  refine endK.ret ?_ (by first | rfl | simp ); simp [evRes, getT, retV, Tryz.f75,  t48a, t48b, t48c]
theorem f65s (n : Nat) (h : n < 100) : PC Tryz.prog 75 [.int .i64 n, .int .i64 10] (.str (dgs 9 n)) := by
  have h8 := pc75 n (by omega)
  have e : dec8 n = dgs 9 n := by
    rw [dec8]
    by_cases h10 : n < 10
    · rw [if_pos h10, dgs_one h10]
    · rw [if_neg h10, if_pos h, dgs_step (by omega), dgs_one (by omega)]
      rfl
  rw [e] at h8
  exact h8
theorem f65 (n : Nat) (h : n < 1000000000) : PC Tryz.prog 75 [.int .i64 n, .int .i64 10] (.str (dgs 9 n)) := by
  by_cases h2 : n < 100
  · exact f65s n h2
  by_cases h3 : n < 1000
  · exact f65_3 n (by simp only [Nat.reducePow]; omega) (by simp only [Nat.reducePow]; omega)
  by_cases h4 : n < 10000
  · exact f65_4 n (by simp only [Nat.reducePow]; omega) (by simp only [Nat.reducePow]; omega)
  by_cases h5 : n < 100000
  · exact f65_5 n (by simp only [Nat.reducePow]; omega) (by simp only [Nat.reducePow]; omega)
  by_cases h6 : n < 1000000
  · exact f65_6 n (by simp only [Nat.reducePow]; omega) (by simp only [Nat.reducePow]; omega)
  by_cases h7 : n < 10000000
  · exact f65_7 n (by simp only [Nat.reducePow]; omega) (by simp only [Nat.reducePow]; omega)
  by_cases h8 : n < 100000000
  · exact f65_8 n (by simp only [Nat.reducePow]; omega) (by simp only [Nat.reducePow]; omega)
  exact f65_9 n (by simp only [Nat.reducePow]; omega) (by simp only [Nat.reducePow]; omega)
theorem fI1 (n : Nat) (hn : n < 1000000000) : PC Tryz.prog 63 [.int .i64 n] (.str (dgs 9 n)) := by
  refine PC.walk tok mixed cfg0 Tryz.func63 rfl Tryz.call63 (by simp ) (by first | rfl | simp ) ?_; simp (maxSteps := 2000000) -implicitDefEqProofs +contextual (disch := first | assumption | omega | decide +kernel) only [push_cast, ↓capI, br2_true, br2_false, frk_tt, frk_tf, frk_f, frkD_tt, frkD_tf, frkD_f, pk2_true, pk2_false, imp_true, seval, Nat.reduceLeDiff, Nat.reduceEqDiff, reduceCtorEq, ↓reduceIte, cfg0, take_rest, ibeq_dec, V.rn, rns, qn, setPs, rnOs, Ob.rn, gl0, glV, List.map, V.st, List.set_cons_zero, List.size_toArray, Tryz.ntmps63]
  refine callO.pc (f65 n hn) ?_
  simp (maxSteps := 2000000) -implicitDefEqProofs +contextual (disch := first | assumption | omega | decide +kernel) only [push_cast, ↓capI, br2_true, br2_false, frk_tt, frk_tf, frk_f, frkD_tt, frkD_tf, frkD_f, pk2_true, pk2_false, imp_true, seval, Nat.reduceLeDiff, Nat.reduceEqDiff, reduceCtorEq, ↓reduceIte, cfg0, take_rest, ibeq_dec, V.rn, rns, qn, setPs, rnOs, Ob.rn, gl0, glV, List.map, V.st, List.set_cons_zero, List.size_toArray]
  refine endK.ret ?_ (by first | rfl | simp ); simp [evRes, getT, retV, Tryz.f63]
theorem fI2 (n : Nat) (hn : n < 1000000000) : PC Tryz.prog 56 [.int .i64 n] (.str (dgs 9 n)) := by
  refine PC.walk tok mixed cfg0 Tryz.func56 rfl Tryz.call56 (by simp ) (by first | rfl | simp ) ?_; simp (maxSteps := 2000000) -implicitDefEqProofs +contextual (disch := first | assumption | omega | decide +kernel) only [push_cast, ↓capI, br2_true, br2_false, frk_tt, frk_tf, frk_f, frkD_tt, frkD_tf, frkD_f, pk2_true, pk2_false, imp_true, seval, Nat.reduceLeDiff, Nat.reduceEqDiff, reduceCtorEq, ↓reduceIte, cfg0, take_rest, ibeq_dec, V.rn, rns, qn, setPs, rnOs, Ob.rn, gl0, glV, List.map, V.st, List.set_cons_zero, List.size_toArray, Tryz.ntmps56]
  refine callO.pc (fI1 n hn) ?_
  simp (maxSteps := 2000000) -implicitDefEqProofs +contextual (disch := first | assumption | omega | decide +kernel) only [push_cast, ↓capI, br2_true, br2_false, frk_tt, frk_tf, frk_f, frkD_tt, frkD_tf, frkD_f, pk2_true, pk2_false, imp_true, seval, Nat.reduceLeDiff, Nat.reduceEqDiff, reduceCtorEq, ↓reduceIte, cfg0, take_rest, ibeq_dec, V.rn, rns, qn, setPs, rnOs, Ob.rn, gl0, glV, List.map, V.st, List.set_cons_zero, List.size_toArray]
  refine endK.ret ?_ (by first | rfl | simp ); simp [evRes, getT, retV, Tryz.f56]
theorem fmtP (n : Nat) (hn : n < 1000000000) : PC Tryz.prog 45 [.int .i64 n] (.str (dgs 9 n)) := by
  refine PC.walk tok mixed cfg0 Tryz.func45 rfl Tryz.call45 (by simp ) (by first | rfl | simp ) ?_; simp (maxSteps := 2000000) -implicitDefEqProofs +contextual (disch := first | assumption | omega | decide +kernel) only [push_cast, ↓capI, br2_true, br2_false, frk_tt, frk_tf, frk_f, frkD_tt, frkD_tf, frkD_f, pk2_true, pk2_false, imp_true, seval, Nat.reduceLeDiff, Nat.reduceEqDiff, reduceCtorEq, ↓reduceIte, cfg0, take_rest, ibeq_dec, V.rn, rns, qn, setPs, rnOs, Ob.rn, gl0, glV, List.map, V.st, List.set_cons_zero, List.size_toArray, Tryz.ntmps45]
  refine callO.pc (fI2 n hn) ?_
  simp (maxSteps := 2000000) -implicitDefEqProofs +contextual (disch := first | assumption | omega | decide +kernel) only [push_cast, ↓capI, br2_true, br2_false, frk_tt, frk_tf, frk_f, frkD_tt, frkD_tf, frkD_f, pk2_true, pk2_false, imp_true, seval, Nat.reduceLeDiff, Nat.reduceEqDiff, reduceCtorEq, ↓reduceIte, cfg0, take_rest, ibeq_dec, V.rn, rns, qn, setPs, rnOs, Ob.rn, gl0, glV, List.map, V.st, List.set_cons_zero, List.size_toArray]
  refine endK.ret ?_ (by first | rfl | simp ); simp [evRes, getT, retV, Tryz.f45]
end Go.Proofs.YtafongdfnpnneaaGreatDoor

/- Chapter 44: numbers read by the reference. -/
set_option maxRecDepth 100000
set_option maxHeartbeats 4000000
set_option linter.all false
namespace Go.Proofs.YtafongdfnpnneaaGreatDoor
open Go.Vm

def decR (s : List UInt8) : Nat × Bool := if s.length < 1 ∨ 9 < s.length then (0, false) else match valL s 0 with
  | some v => (v, true)
  | none => (0, false)
def encDR (r : Nat × Bool) : V := .tup [.int .u64 r.1, .bool r.2]
theorem bel_encDR {n : Nat} {r : Nat × Bool} : (encDR r).bel n = true := rfl
theorem bel_encIB {n : Nat} {r : Int × Bool} : (encIB r).bel n = true := rfl
/-- a number of 64 bits in writing -/
def fmtI (n : Int) : List UInt8 := if 0 ≤ n then dgs 20 n.toNat else 45 :: dgs 20 (-n).toNat
theorem fmtI_len (n : Int) : (fmtI n).length ≤ 21 := by
  unfold fmtI
  have h1 := dgs_len 20 n.toNat
  have h2 := dgs_len 20 (-n).toNat
  split
  · omega
  · rw [List.length_cons]; omega
theorem dgs_more : ∀ (k j n : Nat), n < 10 ^ k → 1 ≤ k → k ≤ j → dgs j n = dgs k n
  | 0, _, _, _, h, _ => absurd h (by decide)
  | k + 1, 0, _, _, _, h => by omega
  | k + 1, j + 1, n, hn, _, hj => by
    rw [dgs, dgs]
    by_cases h : n < 10
    · rw [if_pos h, if_pos h]
    · rw [if_neg h, if_neg h]
      have hk1 : 1 ≤ k := by
        apply Decidable.byContradiction
        intro h0
        have : k = 0 := by omega
        subst this
        simp at hn
        omega
      rw [dgs_more k j (n / 10) (by rw [Nat.pow_succ] at hn; omega) hk1 (by omega)]
end Go.Proofs.YtafongdfnpnneaaGreatDoor

/- Chapter 44: the reference's reading of a decimal number agrees with the program's. -/
set_option maxRecDepth 100000
set_option maxHeartbeats 4000000
set_option linter.all false
namespace Go.Proofs.YtafongdfnpnneaaGreatDoor
open Go.Vm

theorem valL_app : ∀ (a b : List UInt8) (v : Nat), valL (a ++ b) v = (valL a v).bind (valL b)
  | [], b, v => rfl
  | c :: a, b, v => by
    rw [List.cons_append, valL, valL]
    by_cases h : isDig c = true
    · rw [if_pos h, if_pos h, valL_app a b]
    · rw [if_neg h, if_neg h]; rfl
theorem valL_all : ∀ {d : List UInt8} (v : Nat), (∀ c, c ∈ d → isDig c = true) → ∃ r, valL d v = some r ∧ v ≤ r
  | [], v, _ => ⟨v, rfl, Nat.le_refl _⟩
  | c :: d, v, h => by
    rw [valL, if_pos (h c (List.mem_cons_self ..))]
    obtain ⟨r, h1, h2⟩ := valL_all (v * 10 + (c.toNat - 48)) (fun c hc => h c (List.mem_cons_of_mem _ hc))
    exact ⟨r, h1, by omega⟩
theorem dig_range {c : UInt8} (h : isDig c = true) : 48 ≤ c.toNat ∧ c.toNat ≤ 57 := by
  simpa only [isDig, Bool.and_eq_true, decide_eq_true_eq] using h
theorem dgs_val : ∀ (k : Nat) (d : List UInt8) (v : Nat), d ≠ [] → d.length ≤ k → (∀ c, c ∈ d → isDig c = true) → canonD d = true → valL d 0 = some v → dgs k v = d
  | 0, d, v, h, hl, _, _, _ => absurd (List.length_eq_zero_iff.1 (Nat.le_zero.1 hl)) h
  | k + 1, d, v, h, hl, hd, hc, hv => by
    obtain ⟨e, c, rfl⟩ : ∃ e c, d = e ++ [c] := ⟨d.dropLast, d.getLast h, (List.dropLast_concat_getLast h).symm⟩
    have hcd := dig_range (hd c (by simp))
    rw [List.length_append, List.length_singleton] at hl
    obtain ⟨u, hu, _⟩ := valL_all (d := e) 0 (fun x hx => hd x (by simp [hx]))
    have e1 : v = u * 10 + (c.toNat - 48) := by
      rw [valL_app, hu] at hv
      simp only [Option.bind_some] at hv
      rw [valL, if_pos (hd c (by simp)), valL] at hv
      exact (Option.some.inj hv).symm
    cases e with
    | nil =>
      rw [valL] at hu
      have hu0 := Option.some.inj hu
      have hv10 : v < 10 := by omega
      rw [dgs, if_pos hv10, List.nil_append]
      congr 1
      apply UInt8.toNat_inj.1
      rw [UInt8.toNat_ofNat']
      omega
    | cons x e =>
      have hx := dig_range (hd x (by simp))
      have hx48 : x.toNat ≠ 48 := by
        simp only [canonD, List.cons_append, List.length_cons, List.length_append, List.length_singleton, Bool.or_eq_true, decide_eq_true_eq, Bool.and_eq_true, List.getD_cons_zero, bne_iff_ne] at hc
        rcases hc with hc | hc
        · omega
        · have := hc.2
          omega
      obtain ⟨w, hw, hge⟩ := valL_all (d := e) (0 * 10 + (x.toNat - 48)) (fun y hy => hd y (by simp [hy]))
      have hu1 : 1 ≤ u := by
        rw [valL, if_pos (hd x (by simp)), hw] at hu
        have := Option.some.inj hu
        omega
      have hcan : canonD (x :: e) = true := by
        simp only [canonD, Bool.or_eq_true, decide_eq_true_eq, Bool.and_eq_true, List.getD_cons_zero, bne_iff_ne]
        exact .inr ⟨List.cons_ne_nil _ _, by omega⟩
      have ih := dgs_val k (x :: e) u (List.cons_ne_nil _ _) (by omega) (fun y hy => hd y (by rw [List.mem_append]; exact .inl hy)) hcan hu
      rw [dgs, if_neg (by omega), show v / 10 = u by omega, ih]
      congr 2
      apply UInt8.toNat_inj.1
      rw [UInt8.toNat_ofNat']
      omega
theorem dgs_head : ∀ k v, v < 10 ^ k → 1 ≤ k → dgs k v ≠ [] ∧ ((dgs k v).length = 1 ∨ ((dgs k v).getD 0 0).toNat ≠ 48) ∧ (1 ≤ v → ((dgs k v).getD 0 0).toNat ≠ 48)
  | 0, _, _, h => absurd h (by decide)
  | k + 1, v, hv, _ => by
    rw [dgs]
    by_cases h : v < 10
    · rw [if_pos h]
      refine ⟨List.cons_ne_nil _ _, .inl rfl, fun h1 => ?_⟩
      rw [List.getD_cons_zero, UInt8.toNat_ofNat']
      omega
    · rw [if_neg h]
      have hk1 : 1 ≤ k := by
        apply Decidable.byContradiction
        intro h0
        have : k = 0 := by omega
        subst this
        simp at hv
        omega
      obtain ⟨i1, _, i3⟩ := dgs_head k (v / 10) (by rw [Nat.pow_succ] at hv; omega) hk1
      have i3 := i3 (by omega)
      cases hq : dgs k (v / 10) with
      | nil => exact absurd hq i1
      | cons y l =>
        rw [hq, List.getD_cons_zero] at i3
        exact ⟨List.cons_ne_nil _ _, .inr i3, fun _ => i3⟩
theorem dgs_canon (v : Nat) (hv : v < 1000000000) : canonD (dgs 9 v) = true := by
  obtain ⟨h1, h2, _⟩ := dgs_head 9 v hv (by decide)
  simp only [canonD, Bool.or_eq_true, decide_eq_true_eq, Bool.and_eq_true, bne_iff_ne]
  rcases h2 with h | h
  · exact .inl h
  · exact .inr ⟨h1, by omega⟩
/-- the number that a text is, to the reference -/
def refP (s : List UInt8) : Int × Bool :=
  if s.head? = some 45 then (if (decR (s.drop 1)).2 = true ∧ fmtI (-((decR (s.drop 1)).1 : Int)) = s then (-((decR (s.drop 1)).1 : Int), true) else (0, false))
  else (if (decR s).2 = true ∧ fmtI ((decR s).1 : Int) = s then (((decR s).1 : Int), true) else (0, false))
theorem decR_lt (s : List UInt8) : (decR s).1 < 1000000000 := by
  unfold decR
  split
  · decide
  · split
    · rename_i h _ v hv
      have := valL_lt hv
      have hp : 10 ^ s.length ≤ 10 ^ 9 := Nat.pow_le_pow_right (by omega) (by omega)
      simp only
      omega
    · decide
end Go.Proofs.YtafongdfnpnneaaGreatDoor

