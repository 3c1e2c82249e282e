/-
  Chapter 7: the number of bits that are set.
-/
import Derived.Test.YtopnabckbpogeaaTern
set_option maxRecDepth 100000
set_option maxHeartbeats 4000000
set_option linter.all false
namespace Go.Proofs.Ytopnabckbpogeaa
open Go.Vm

section
variable {x : W64}
theorem wr1 : ishr .u64 (x.toNat : Int) 1 = ((x >>> 1).toNat : Int) := w_shr (k := 1)
theorem wr2 : ishr .u64 (x.toNat : Int) 2 = ((x >>> 2).toNat : Int) := w_shr (k := 2)
theorem wr4 : ishr .u64 (x.toNat : Int) 4 = ((x >>> 4).toNat : Int) := w_shr (k := 4)
theorem wr8 : ishr .u64 (x.toNat : Int) 8 = ((x >>> 8).toNat : Int) := w_shr (k := 8)
theorem wr16 : ishr .u64 (x.toNat : Int) 16 = ((x >>> 16).toNat : Int) := w_shr (k := 16)
theorem wr32 : ishr .u64 (x.toNat : Int) 32 = ((x >>> 32).toNat : Int) := w_shr (k := 32)
end
theorem and127 {n : Nat} : ibits .and .i64 (IntKind.i64.wrap (n : Int)) 127 = ((n % 128 : Nat) : Int) := by
  have hb : IntKind.i64.bits = 64 := rfl
  have h1 : BitVec.ofInt 64 (IntKind.i64.wrap (n : Int)) = BitVec.ofNat 64 n := by
    apply BitVec.eq_of_toNat_eq
    rw [BitVec.toNat_ofInt, BitVec.toNat_ofNat]
    simp only [IntKind.wrap, IntKind.signed, hb]
    split <;> omega
  have h2 : (BitVec.ofNat 64 n &&& BitVec.ofInt 64 127).toNat = n % 128 := by
    rw [BitVec.toNat_and, BitVec.toNat_ofNat, show (BitVec.ofInt 64 127).toNat = 2 ^ 7 - 1 by decide, Nat.and_two_pow_sub_one_eq_mod]
    omega
  show IntKind.i64.wrap ((BitVec.ofInt 64 (IntKind.i64.wrap (n : Int)) &&& BitVec.ofInt 64 127).toNat : Int) = _
  rw [h1, h2]
  exact i64_ok (by omega) (by omega)

/-- the bits that are set among the n lowest -/
def pop : Nat → Nat → Nat
  | 0, _ => 0
  | n + 1, x => x % 2 + pop n (x / 2)
/-- one byte, over and over -/
def rep (c : Nat) : Nat → Nat
  | 0 => 0
  | n + 1 => c + 256 * rep c n
/-- a function at each byte -/
def mapB (f : Nat → Nat) : Nat → Nat → Nat
  | 0, _ => 0
  | n + 1, x => f (x % 256) + 256 * mapB f n (x / 256)
theorem and_byte {a x c m : Nat} (ha : a < 256) (hc : c < 256) : (a + 256 * x) &&& (c + 256 * m) = (a &&& c) + 256 * (x &&& m) := by
  have hac : a &&& c < 2 ^ 8 := Nat.and_lt_two_pow _ hc
  apply Nat.eq_of_testBit_eq
  intro i
  rw [Nat.testBit_and, Nat.add_comm a, Nat.add_comm c, Nat.add_comm (a &&& c), show (256 : Nat) = 2 ^ 8 from rfl, Nat.testBit_two_pow_mul_add _ ha, Nat.testBit_two_pow_mul_add _ hc, Nat.testBit_two_pow_mul_add _ hac]
  split
  · rw [Nat.testBit_and]
  · rw [Nat.testBit_and]
theorem split_byte (x : Nat) : x = x % 256 + 256 * (x / 256) := by omega
def f1 (a : Nat) : Nat := (a / 2 &&& 85) + (a &&& 85)
def f2 (a : Nat) : Nat := (a / 4 &&& 51) + (a &&& 51)
def f3 (a : Nat) : Nat := (a / 16 + a) % 16
theorem t1 : ∀ a, a < 256 → ∀ b, b < 2 → (a / 2 + 128 * b) &&& 85 = a / 2 &&& 85 := by decide +kernel
theorem t2 : ∀ a, a < 256 → ∀ b, b < 4 → (a / 4 + 64 * b) &&& 51 = a / 4 &&& 51 := by decide +kernel
theorem t3 : ∀ a, a < 256 → f1 a < 256 ∧ f2 (f1 a) / 16 ≤ 4 ∧ f2 (f1 a) % 16 ≤ 4 ∧ f3 (f2 (f1 a)) = pop 8 a ∧ pop 8 a ≤ 8 := by decide +kernel
theorem s1 : ∀ (n x : Nat), (x / 2 &&& rep 85 n) + (x &&& rep 85 n) = mapB f1 n x
  | 0, x => by simp [rep, mapB]
  | n + 1, x => by
    have ih := s1 n (x / 256)
    have h1 : x / 2 = (x % 256 / 2 + 128 * (x / 256 % 2)) + 256 * (x / 256 / 2) := by omega
    have e1 : x / 2 &&& rep 85 (n + 1) = (x % 256 / 2 &&& 85) + 256 * (x / 256 / 2 &&& rep 85 n) := by
      rw [h1, rep, and_byte (by omega) (by omega), t1 _ (by omega) _ (by omega)]
    have e2 : x &&& rep 85 (n + 1) = (x % 256 &&& 85) + 256 * (x / 256 &&& rep 85 n) := by
      conv => lhs; rw [split_byte x, rep]
      rw [and_byte (by omega) (by omega)]
    rw [e1, e2, mapB, ← ih, f1]
    omega
theorem s2 : ∀ (n x : Nat), (x / 4 &&& rep 51 n) + (x &&& rep 51 n) = mapB f2 n x
  | 0, x => by simp [rep, mapB]
  | n + 1, x => by
    have ih := s2 n (x / 256)
    have h1 : x / 4 = (x % 256 / 4 + 64 * (x / 256 % 4)) + 256 * (x / 256 / 4) := by omega
    have e1 : x / 4 &&& rep 51 (n + 1) = (x % 256 / 4 &&& 51) + 256 * (x / 256 / 4 &&& rep 51 n) := by
      rw [h1, rep, and_byte (by omega) (by omega), t2 _ (by omega) _ (by omega)]
    have e2 : x &&& rep 51 (n + 1) = (x % 256 &&& 51) + 256 * (x / 256 &&& rep 51 n) := by
      conv => lhs; rw [split_byte x, rep]
      rw [and_byte (by omega) (by omega)]
    rw [e1, e2, mapB, ← ih, f2]
    omega
theorem mapB_mod {f : Nat → Nat} (hf : ∀ a, a < 256 → f a < 256) {n x : Nat} : mapB f (n + 1) x % 256 = f (x % 256) ∧ mapB f (n + 1) x / 256 = mapB f n (x / 256) := by
  have := hf (x % 256) (by omega)
  rw [mapB]
  omega
theorem mapB_map {f g : Nat → Nat} (hf : ∀ a, a < 256 → f a < 256) : ∀ (n x : Nat), mapB g n (mapB f n x) = mapB (fun a => g (f a)) n x
  | 0, _ => rfl
  | n + 1, x => by
    have h := mapB_mod hf (n := n) (x := x)
    rw [mapB, h.1, h.2, mapB_map hf n, mapB]
theorem mapB_cong {f g : Nat → Nat} (h : ∀ a, a < 256 → f a = g a) : ∀ (n x : Nat), mapB f n x = mapB g n x
  | 0, _ => rfl
  | n + 1, x => by rw [mapB, mapB, h _ (by omega), mapB_cong h n]
theorem s3 : ∀ (n x : Nat), (mapB (fun a => f2 (f1 a)) n x / 16 + mapB (fun a => f2 (f1 a)) n x) &&& rep 15 n = mapB (fun a => f3 (f2 (f1 a))) n x
  | 0, x => by simp [rep, mapB]
  | n + 1, x => by
    have ih := s3 n (x / 256)
    obtain ⟨_, h1, h2, _, _⟩ := t3 (x % 256) (by omega)
    have hy : mapB (fun a => f2 (f1 a)) n (x / 256) % 16 ≤ 4 := by
      cases n with
      | zero => simp [mapB]
      | succ n =>
        obtain ⟨_, _, h3, _, _⟩ := t3 (x / 256 % 256) (by omega)
        rw [mapB]
        omega
    rw [mapB]
    generalize hA : f2 (f1 (x % 256)) = A at h1 h2
    generalize hY : mapB (fun a => f2 (f1 a)) n (x / 256) = Y at ih hy
    have e : (A + 256 * Y) / 16 + (A + 256 * Y) = (A / 16 + A + 16 * (Y % 16)) + 256 * (Y / 16 + Y) := by omega
    rw [e, rep, and_byte (by omega) (by omega), ih, mapB]
    have h15 : (A / 16 + A + 16 * (Y % 16)) &&& 15 = f3 (f2 (f1 (x % 256))) := by
      rw [show (15 : Nat) = 2 ^ 4 - 1 from rfl, Nat.and_two_pow_sub_one_eq_mod, f3, hA]
      omega
    rw [h15]
theorem pop_add : ∀ (m n x : Nat), pop (m + n) x = pop m x + pop n (x / 2 ^ m)
  | 0, n, x => by simp [pop]
  | m + 1, n, x => by
    rw [show m + 1 + n = (m + n) + 1 by omega, pop, pop, pop_add m n, Nat.div_div_eq_div_mul, Nat.pow_succ, Nat.mul_comm 2]
    omega
theorem pop_byte : ∀ (x : Nat), pop 8 (x % 256) = pop 8 x := by
  intro x
  simp only [pop]
  omega
theorem pop_le : ∀ (n x : Nat), pop n x ≤ n
  | 0, _ => Nat.le_refl _
  | n + 1, x => by have := pop_le n (x / 2); rw [pop]; omega
theorem ones_nat (x : Nat) : (mapB (fun a => f3 (f2 (f1 a))) 8 x) = mapB (pop 8) 8 x := mapB_cong (fun a ha => (t3 a ha).2.2.2.1) 8 x
theorem fin_nat (x y : Nat) (hy : y = mapB (pop 8) 8 x) : let y4 := y + y / 256; let y5 := y4 + y4 / 65536; let y6 := y5 + y5 / 4294967296; y6 < 2 ^ 64 ∧ y5 < 2 ^ 64 ∧ y4 < 2 ^ 64 ∧ y6 % 128 = pop 64 x := by
  simp only [mapB, pop_byte] at hy
  have e : pop 64 x = pop 8 x + (pop 8 (x / 256) + (pop 8 (x / 256 / 256) + (pop 8 (x / 256 / 256 / 256) + (pop 8 (x / 256 / 256 / 256 / 256) + (pop 8 (x / 256 / 256 / 256 / 256 / 256) + (pop 8 (x / 256 / 256 / 256 / 256 / 256 / 256) + (pop 8 (x / 256 / 256 / 256 / 256 / 256 / 256 / 256)))))))) := by
    rw [show (64 : Nat) = 8 + 56 from rfl, pop_add, show (56 : Nat) = 8 + 48 from rfl, pop_add, show (48 : Nat) = 8 + 40 from rfl, pop_add, show (40 : Nat) = 8 + 32 from rfl, pop_add, show (32 : Nat) = 8 + 24 from rfl, pop_add,
      show (24 : Nat) = 8 + 16 from rfl, pop_add, show (16 : Nat) = 8 + 8 from rfl, pop_add]
  have l0 := pop_le 8 x
  have l1 := pop_le 8 (x / 256)
  have l2 := pop_le 8 (x / 256 / 256)
  have l3 := pop_le 8 (x / 256 / 256 / 256)
  have l4 := pop_le 8 (x / 256 / 256 / 256 / 256)
  have l5 := pop_le 8 (x / 256 / 256 / 256 / 256 / 256)
  have l6 := pop_le 8 (x / 256 / 256 / 256 / 256 / 256 / 256)
  have l7 := pop_le 8 (x / 256 / 256 / 256 / 256 / 256 / 256 / 256)
  rw [e]
  generalize pop 8 x = c0 at *
  generalize pop 8 (x / 256) = c1 at *
  generalize pop 8 (x / 256 / 256) = c2 at *
  generalize pop 8 (x / 256 / 256 / 256) = c3 at *
  generalize pop 8 (x / 256 / 256 / 256 / 256) = c4 at *
  generalize pop 8 (x / 256 / 256 / 256 / 256 / 256) = c5 at *
  generalize pop 8 (x / 256 / 256 / 256 / 256 / 256 / 256) = c6 at *
  generalize pop 8 (x / 256 / 256 / 256 / 256 / 256 / 256 / 256) = c7 at *
  obtain ⟨Y7, e7⟩ : ∃ Y, Y = c7 + 256 * 0 := ⟨_, rfl⟩
  obtain ⟨Y6, e6⟩ : ∃ Y, Y = c6 + 256 * Y7 := ⟨_, rfl⟩
  obtain ⟨Y5, e5⟩ : ∃ Y, Y = c5 + 256 * Y6 := ⟨_, rfl⟩
  obtain ⟨Y4, e4⟩ : ∃ Y, Y = c4 + 256 * Y5 := ⟨_, rfl⟩
  obtain ⟨Y3, e3⟩ : ∃ Y, Y = c3 + 256 * Y4 := ⟨_, rfl⟩
  obtain ⟨Y2, e2⟩ : ∃ Y, Y = c2 + 256 * Y3 := ⟨_, rfl⟩
  obtain ⟨Y1, e1⟩ : ∃ Y, Y = c1 + 256 * Y2 := ⟨_, rfl⟩
  have e0 : y = c0 + 256 * Y1 := by rw [hy, e1, e2, e3, e4, e5, e6, e7]
  clear hy e
  have b6 : Y6 ≤ 2056 := by omega
  have b5 : Y5 ≤ 526344 := by omega
  have b4 : Y4 ≤ 134744072 := by omega
  have b3 : Y3 ≤ 34494482440 := by omega
  have b2 : Y2 ≤ 8830587504648 := by omega
  have b1 : Y1 ≤ 2260630401189896 := by omega
  have b0 : y ≤ 578721382704613384 := by omega
  have h4 : y / 256 = Y1 := by clear e1 e2 e3 e4 e5 e6 e7; omega
  have g4 : (y + Y1) / 65536 = Y2 + Y3 := by
    have : y + Y1 = (c0 + c1) + 256 * ((c1 + c2) + 256 * (Y2 + Y3)) := by omega
    clear e0 e1 e2 e3 e4 e5 e6 e7
    omega
  have g5 : (y + Y1 + (Y2 + Y3)) / 4294967296 = Y4 + Y5 + Y6 + Y7 := by
    have : y + Y1 + (Y2 + Y3) = (c0 + c1 + c2 + c3) + 256 * ((c1 + c2 + c3 + c4) + 256 * ((c2 + c3 + c4 + c5) + 256 * ((c3 + c4 + c5 + c6) + 256 * (Y4 + Y5 + Y6 + Y7)))) := by omega
    clear e0 e1 e2 e3 e4 e5 e6 e7
    omega
  simp only
  rw [h4, g4, g5]
  refine ⟨by omega, by omega, by omega, ?_⟩
  have : y + Y1 + (Y2 + Y3) + (Y4 + Y5 + Y6 + Y7) = (c0 + c1 + c2 + c3 + c4 + c5 + c6 + c7) + 128 * (2 * (Y1 + Y2 + Y3 + Y4 + Y5 + Y6 + Y7)) := by omega
  clear e0 e1 e2 e3 e4 e5 e6 e7 h4 g4 g5
  omega
theorem shr_div {x : W64} {k : Nat} : (x >>> k).toNat = x.toNat / 2 ^ k := by rw [BitVec.toNat_ushiftRight, Nat.shiftRight_eq_div_pow]
theorem ones_bv (x y1 y2 y3 y4 y5 y6 : W64) (h1 : y1 = (x >>> 1 &&& 6148914691236517205#64) + (x &&& 6148914691236517205#64))
    (h2 : y2 = (y1 >>> 2 &&& 3689348814741910323#64) + (y1 &&& 3689348814741910323#64)) (h3 : y3 = (y2 >>> 4 + y2) &&& 1085102592571150095#64)
    (h4 : y4 = y3 + y3 >>> 8) (h5 : y5 = y4 + y4 >>> 16) (h6 : y6 = y5 + y5 >>> 32) : y6.toNat % 128 = pop 64 x.toNat := by
  have r1 : (6148914691236517205#64 : W64).toNat = rep 85 8 := by decide
  have r2 : (3689348814741910323#64 : W64).toNat = rep 51 8 := by decide
  have r3 : (1085102592571150095#64 : W64).toNat = rep 15 8 := by decide
  have le1 : ∀ f : Nat → Nat, (∀ a, a < 256 → f a < 256) → ∀ (n z : Nat), mapB f n z < 256 ^ n := by
    intro f hf n
    induction n with
    | zero => intro z; simp [mapB]
    | succ n ih =>
      intro z
      have a1 := hf (z % 256) (by omega)
      have a2 := ih (z / 256)
      rw [mapB, Nat.pow_succ]
      omega
  have t2' : ∀ a, a < 256 → f2 (f1 a) < 256 := fun a ha => by have := t3 a ha; omega
  have n1 : y1.toNat = mapB f1 8 x.toNat := by
    have e := s1 8 x.toNat
    have b := le1 f1 (fun a ha => (t3 a ha).1) 8 x.toNat
    rw [h1, BitVec.toNat_add, BitVec.toNat_and, BitVec.toNat_and, shr_div, r1, Nat.pow_one, e, Nat.mod_eq_of_lt b]
  have n2 : y2.toNat = mapB (fun a => f2 (f1 a)) 8 x.toNat := by
    have e := s2 8 y1.toNat
    rw [n1, mapB_map (fun a ha => (t3 a ha).1)] at e
    have b := le1 (fun a => f2 (f1 a)) t2' 8 x.toNat
    rw [h2, BitVec.toNat_add, BitVec.toNat_and, BitVec.toNat_and, shr_div, r2, n1, show (2 : Nat) ^ 2 = 4 from rfl, e, Nat.mod_eq_of_lt b]
  have n3 : y3.toNat = mapB (pop 8) 8 x.toNat := by
    have e := s3 8 x.toNat
    rw [ones_nat] at e
    have b : mapB (fun a => f2 (f1 a)) 8 x.toNat < 256 ^ 8 / 2 := by
      have a1 := le1 (fun a => f2 (f1 a)) t2' 7 (x.toNat)
      have key : ∀ (n z : Nat), 2 * mapB (fun a => f2 (f1 a)) (n + 1) z < 256 ^ (n + 1) := by
        intro n
        induction n with
        | zero => intro z; have := t3 (z % 256) (by omega); simp only [mapB]; omega
        | succ n ih =>
          intro z
          have a1 := ih (z / 256)
          have a2 := t3 (z % 256) (by omega)
          rw [mapB, Nat.pow_succ]
          omega
      have := key 7 x.toNat
      change 2 * mapB (fun a => f2 (f1 a)) 8 x.toNat < 256 ^ 8 at this
      omega
    rw [h3, BitVec.toNat_and, BitVec.toNat_add, shr_div, r3, n2, show (2 : Nat) ^ 4 = 16 from rfl, Nat.mod_eq_of_lt (by omega), e]
  obtain ⟨a1, a2, a3, a4⟩ := fin_nat x.toNat y3.toNat n3
  have n4 : y4.toNat = y3.toNat + y3.toNat / 256 := by rw [h4, BitVec.toNat_add, shr_div, show (2 : Nat) ^ 8 = 256 from rfl, Nat.mod_eq_of_lt a3]
  have n5 : y5.toNat = y4.toNat + y4.toNat / 65536 := by rw [h5, BitVec.toNat_add, shr_div, show (2 : Nat) ^ 16 = 65536 from rfl, n4, Nat.mod_eq_of_lt a2]
  have n6 : y6.toNat = y5.toNat + y5.toNat / 4294967296 := by rw [h6, BitVec.toNat_add, shr_div, show (2 : Nat) ^ 32 = 4294967296 from rfl, n5, n4, Nat.mod_eq_of_lt a1]
  rw [n6, n5, n4, a4]
theorem pc67 (x : W64) : PC Try.prog 67 [.int .u64 x.toNat] (.int .i64 (pop 64 x.toNat)) := by
  refine PC.walk tok mixed cfg0 Try.func67 rfl Try.call67 (by simp [bel_int, bel_bool, bel_str, bel_nilp, bel_nili, bel_nilf, bel_nilm, bel_dead, bel_agg, bel_tup, bel_sl, bel_fp, bel_buf, bel_ptr, bel_mp, bel_ifc, bel_fn, bel_opt, belAll_nil, belAll_cons, belO_cells, belO_dead, belO_unborn, belObs_nil, belObs_cons, belObs_append, belAll_tab, belObs_tab, belObs_tabN, belC, bel_Cs, bel_slC]) (by first | rfl | simp [bel_int, bel_bool, bel_str, bel_nilp, bel_nili, bel_nilf, bel_nilm, bel_dead, bel_agg, bel_tup, bel_sl, bel_fp, bel_buf, bel_ptr, bel_mp, bel_ifc, bel_fn, bel_opt, belAll_nil, belAll_cons, belO_cells, belO_dead, belO_unborn, belObs_nil, belObs_cons, belObs_append, belAll_tab, belObs_tab, belObs_tabN, belC, bel_Cs, bel_slC]) ?_; simp (config := { maxSteps := 2000000 }) -implicitDefEqProofs +contextual (disch := first | assumption | omega | decide +kernel) only [push_cast, ↓capI, br2_true, br2_false, frk_tt, frk_tf, frk_f, frkD_tt, frkD_tf, frkD_f, pk2_true, pk2_false, imp_true, Nat.reduceAdd, Nat.reduceSub, Nat.reduceMul, Nat.reduceLeDiff, Nat.reduceLT, reduceCtorEq, ↓reduceIte, Nat.reduceEqDiff, Nat.reduceSub, Nat.reduceMul, Int.reduceNeg, Int.reduceLT, Int.reduceLE, Int.reduceAdd, Int.reduceSub, Int.reduceMul, Int.reduceEq, Int.reduceToNat, Nat.reduceDiv, Nat.reduceMod, Nat.reduceBEq, Nat.reduceBNe, reduceCtorEq, tt_25, tt_23, tt_3, tt_4, tt_5, tt_26, tt_36, tt_38, tt_9, encC, cfg0, ib_and, ib_or, ib_xor, ib_andNot, w_ofInt, w_eqb, w_eqb0, w_inj, w_zero, w_wrap, w_add, BitVec.reduceOfInt, wr1, wr2, wr4, wr8, wr16, wr32, and127, Try.ntmps67]
  refine endK.ret ?_ rfl
  simp only [evRes, getT, retV, Try.f67]
  refine congrArg (V.int .i64) (congrArg Nat.cast ?_)
  exact ones_bv x _ _ _ _ _ _ rfl rfl rfl rfl rfl rfl
end Go.Proofs.Ytopnabckbpogeaa
