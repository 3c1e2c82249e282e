/-
  Chapter 7: the difference of two cubes, by the program.
-/
import Derived.Test.YtopnabckbpogeaaSub
set_option maxRecDepth 100000
set_option maxHeartbeats 4000000
set_option linter.all false
namespace Go.Proofs.Ytopnabckbpogeaa
open Go.Vm

theorem w_ones : BitVec.ofInt 64 (if IntKind.u64.signed = true then -1 else IntKind.u64.max) = BitVec.allOnes 64 := by decide
def zerosC : List Cu := List.replicate 64 ⟨0#64, 0#64⟩
theorem zeros_C : (tab 128 fun _ => V.int .u64 0) = zerosC.flatMap encC := by kernel_rfl
theorem zerosC_len : zerosC.length = 64 := by decide
/-- the program and the reference: what is left below bit i -/
theorem len_bit {x : W64} (h : x ≠ 0#64) : ∃ k, len64 x.toNat = k + 1 ∧ k < 64 ∧ x.getLsbD k = true ∧ ∀ j, k < j → x.getLsbD j = false := by
  have h0 : x.toNat ≠ 0 := fun e => h (BitVec.eq_of_toNat_eq (by simpa using e))
  refine ⟨Nat.log2 x.toNat, by simp [len64, h0], ?_, ?_, ?_⟩
  · exact (Nat.log2_lt h0).2 x.isLt
  · have h1 := Nat.log2_self_le h0
    have h2 : x.toNat < 2 ^ (Nat.log2 x.toNat + 1) := Nat.lt_log2_self
    show Nat.testBit x.toNat (Nat.log2 x.toNat) = true
    rw [Nat.testBit_eq_decide_div_mod_eq, decide_eq_true_eq]
    have h3 : x.toNat / 2 ^ Nat.log2 x.toNat = 1 := by
      apply Nat.div_eq_of_lt_le
      · omega
      · rw [Nat.pow_succ] at h2; omega
    rw [h3]
  · intro j hj
    show Nat.testBit x.toNat j = false
    apply Nat.testBit_lt_two_pow
    exact Nat.lt_of_lt_of_le Nat.lt_log2_self (Nat.pow_le_pow_right (by omega) hj)
theorem subGo_skip {b : Cu} {k : Nat} : ∀ {i : Nat} {r : Cu}, k ≤ i → (∀ j, k ≤ j → j < i → (b.m.getLsbD j && !r.m.getLsbD j) = false) → subGo b i r = subGo b k r
  | 0, r, hk, _ => by rw [Nat.le_zero.1 hk]
  | i + 1, r, hk, h => by
    by_cases e : k = i + 1
    · rw [e]
    · rw [subGo, if_neg (by rw [h i (by omega) (by omega)]; simp)]
      exact subGo_skip (by omega) fun j h1 h2 => h j h1 (by omega)

theorem pc21 (a b : Cu) (w : Int) : PC Try.prog 21 [.agg (encC a), .agg (encC b), .int .i64 w] (slC (subL a b w)) := by
  by_cases hw : okW w = true
  case neg =>
    have e : subL a b w = [] := by simp [subL, hw]
    rw [e]
    refine PC.laxr (v := .sl true [] 0) ?_
    refine PC.walk tok mixed cfg0 Try.func21 rfl Try.call21 (by simp [bel_int, bel_bool, bel_str, bel_nilp, bel_nili, bel_nilf, bel_nilm, bel_dead, bel_agg, bel_tup, bel_sl, bel_fp, bel_buf, bel_ptr, bel_mp, bel_ifc, bel_fn, bel_opt, belAll_nil, belAll_cons, belO_cells, belO_dead, belO_unborn, belObs_nil, belObs_cons, belObs_append, belAll_tab, belObs_tab, belObs_tabN, belC, bel_Cs, bel_slC, belAll_append]) (by first | rfl | simp [bel_int, bel_bool, bel_str, bel_nilp, bel_nili, bel_nilf, bel_nilm, bel_dead, bel_agg, bel_tup, bel_sl, bel_fp, bel_buf, bel_ptr, bel_mp, bel_ifc, bel_fn, bel_opt, belAll_nil, belAll_cons, belO_cells, belO_dead, belO_unborn, belObs_nil, belObs_cons, belObs_append, belAll_tab, belObs_tab, belObs_tabN, belC, bel_Cs, bel_slC, belAll_append]) ?_; simp (config := { maxSteps := 2000000 }) -implicitDefEqProofs +contextual (disch := first | assumption | omega | decide +kernel) only [push_cast, ↓capI, br2_true, br2_false, frk_tt, frk_tf, frk_f, frkD_tt, frkD_tf, frkD_f, pk2_true, pk2_false, imp_true, Nat.reduceAdd, Nat.reduceSub, Nat.reduceMul, Nat.reduceLeDiff, Nat.reduceLT, reduceCtorEq, ↓reduceIte, Nat.reduceEqDiff, Nat.reduceSub, Nat.reduceMul, Int.reduceNeg, Int.reduceLT, Int.reduceLE, Int.reduceAdd, Int.reduceSub, Int.reduceMul, Int.reduceEq, Int.reduceToNat, Nat.reduceDiv, Nat.reduceMod, Nat.reduceBEq, Nat.reduceBNe, reduceCtorEq, tt_25, tt_23, tt_3, tt_4, tt_5, tt_26, tt_36, tt_38, tt_9, tt_79, encC, cfg0, ib_and, ib_or, ib_xor, ib_andNot, ib_not, w_ofInt, w_eqb, w_eqb0, w_inj, w_zero, w_wrap, BitVec.reduceOfInt, shl_bit, zeros_C, w_ones, BitVec.allOnes_xor, len_flat lenC, Try.ntmps21]
    refine callO.pc (pc61 w) ?_
    rw [show okW w = false by simpa using hw]
    simp (config := { maxSteps := 2000000 }) -implicitDefEqProofs +contextual (disch := first | assumption | omega | decide +kernel) only [push_cast, ↓capI, br2_true, br2_false, frk_tt, frk_tf, frk_f, frkD_tt, frkD_tf, frkD_f, pk2_true, pk2_false, imp_true, Nat.reduceAdd, Nat.reduceSub, Nat.reduceMul, Nat.reduceLeDiff, Nat.reduceLT, reduceCtorEq, ↓reduceIte, Nat.reduceEqDiff, Nat.reduceSub, Nat.reduceMul, Int.reduceNeg, Int.reduceLT, Int.reduceLE, Int.reduceAdd, Int.reduceSub, Int.reduceMul, Int.reduceEq, Int.reduceToNat, Nat.reduceDiv, Nat.reduceMod, Nat.reduceBEq, Nat.reduceBNe, reduceCtorEq, tt_25, tt_23, tt_3, tt_4, tt_5, tt_26, tt_36, tt_38, tt_9, tt_79, encC, cfg0, ib_and, ib_or, ib_xor, ib_andNot, ib_not, w_ofInt, w_eqb, w_eqb0, w_inj, w_zero, w_wrap, BitVec.reduceOfInt, shl_bit, zeros_C, w_ones, BitVec.allOnes_xor, len_flat lenC]
    refine endK.ret ?_ (by first | rfl | simp [bel_int, bel_bool, bel_str, bel_nilp, bel_nili, bel_nilf, bel_nilm, bel_dead, bel_agg, bel_tup, bel_sl, bel_fp, bel_buf, bel_ptr, bel_mp, bel_ifc, bel_fn, bel_opt, belAll_nil, belAll_cons, belO_cells, belO_dead, belO_unborn, belObs_nil, belObs_cons, belObs_append, belAll_tab, belObs_tab, belObs_tabN, belC, bel_Cs, bel_slC, belAll_append]); simp [evRes, getT, retV, Try.f21]
  obtain ⟨k, rfl, hk1, hk2⟩ := okW_nat hw
  have e : subL a b (k : Int) = if (meet (cutC a k) (cutC b k)).2 = true then subGo (cutC b k) k (cutC a k) else [cutC a k] := by simp [subL, hw]
  have ecan : ∀ c : Cu, canon ⟨c.v, c.m &&& low k⟩ = cutC c k := fun c => rfl
  by_cases hm : (meet (cutC a k) (cutC b k)).2 = true
  case neg =>
    have hmf : (meet (cutC a k) (cutC b k)).2 = false := by simpa using hm
    rw [e, if_neg hm]
    refine PC.walk tok mixed cfg0 Try.func21 rfl Try.call21 (by simp [bel_int, bel_bool, bel_str, bel_nilp, bel_nili, bel_nilf, bel_nilm, bel_dead, bel_agg, bel_tup, bel_sl, bel_fp, bel_buf, bel_ptr, bel_mp, bel_ifc, bel_fn, bel_opt, belAll_nil, belAll_cons, belO_cells, belO_dead, belO_unborn, belObs_nil, belObs_cons, belObs_append, belAll_tab, belObs_tab, belObs_tabN, belC, bel_Cs, bel_slC, belAll_append]) (by first | rfl | simp [bel_int, bel_bool, bel_str, bel_nilp, bel_nili, bel_nilf, bel_nilm, bel_dead, bel_agg, bel_tup, bel_sl, bel_fp, bel_buf, bel_ptr, bel_mp, bel_ifc, bel_fn, bel_opt, belAll_nil, belAll_cons, belO_cells, belO_dead, belO_unborn, belObs_nil, belObs_cons, belObs_append, belAll_tab, belObs_tab, belObs_tabN, belC, bel_Cs, bel_slC, belAll_append]) ?_; simp (config := { maxSteps := 2000000 }) -implicitDefEqProofs +contextual (disch := first | assumption | omega | decide +kernel) only [push_cast, ↓capI, br2_true, br2_false, frk_tt, frk_tf, frk_f, frkD_tt, frkD_tf, frkD_f, pk2_true, pk2_false, imp_true, Nat.reduceAdd, Nat.reduceSub, Nat.reduceMul, Nat.reduceLeDiff, Nat.reduceLT, reduceCtorEq, ↓reduceIte, Nat.reduceEqDiff, Nat.reduceSub, Nat.reduceMul, Int.reduceNeg, Int.reduceLT, Int.reduceLE, Int.reduceAdd, Int.reduceSub, Int.reduceMul, Int.reduceEq, Int.reduceToNat, Nat.reduceDiv, Nat.reduceMod, Nat.reduceBEq, Nat.reduceBNe, reduceCtorEq, tt_25, tt_23, tt_3, tt_4, tt_5, tt_26, tt_36, tt_38, tt_9, tt_79, encC, cfg0, ib_and, ib_or, ib_xor, ib_andNot, ib_not, w_ofInt, w_eqb, w_eqb0, w_inj, w_zero, w_wrap, BitVec.reduceOfInt, shl_bit, zeros_C, w_ones, BitVec.allOnes_xor, len_flat lenC, Try.ntmps21]
    refine callO.pc (pc61 k) ?_
    rw [hw]
    simp (config := { maxSteps := 2000000 }) -implicitDefEqProofs +contextual (disch := first | assumption | omega | decide +kernel) only [push_cast, ↓capI, br2_true, br2_false, frk_tt, frk_tf, frk_f, frkD_tt, frkD_tf, frkD_f, pk2_true, pk2_false, imp_true, Nat.reduceAdd, Nat.reduceSub, Nat.reduceMul, Nat.reduceLeDiff, Nat.reduceLT, reduceCtorEq, ↓reduceIte, Nat.reduceEqDiff, Nat.reduceSub, Nat.reduceMul, Int.reduceNeg, Int.reduceLT, Int.reduceLE, Int.reduceAdd, Int.reduceSub, Int.reduceMul, Int.reduceEq, Int.reduceToNat, Nat.reduceDiv, Nat.reduceMod, Nat.reduceBEq, Nat.reduceBNe, reduceCtorEq, tt_25, tt_23, tt_3, tt_4, tt_5, tt_26, tt_36, tt_38, tt_9, tt_79, encC, cfg0, ib_and, ib_or, ib_xor, ib_andNot, ib_not, w_ofInt, w_eqb, w_eqb0, w_inj, w_zero, w_wrap, BitVec.reduceOfInt, shl_bit, zeros_C, w_ones, BitVec.allOnes_xor, len_flat lenC]
    refine callG.pc1 (pc62 k hk2) ?_
    simp (config := { maxSteps := 2000000 }) -implicitDefEqProofs +contextual (disch := first | assumption | omega | decide +kernel) only [push_cast, ↓capI, br2_true, br2_false, frk_tt, frk_tf, frk_f, frkD_tt, frkD_tf, frkD_f, pk2_true, pk2_false, imp_true, Nat.reduceAdd, Nat.reduceSub, Nat.reduceMul, Nat.reduceLeDiff, Nat.reduceLT, reduceCtorEq, ↓reduceIte, Nat.reduceEqDiff, Nat.reduceSub, Nat.reduceMul, Int.reduceNeg, Int.reduceLT, Int.reduceLE, Int.reduceAdd, Int.reduceSub, Int.reduceMul, Int.reduceEq, Int.reduceToNat, Nat.reduceDiv, Nat.reduceMod, Nat.reduceBEq, Nat.reduceBNe, reduceCtorEq, tt_25, tt_23, tt_3, tt_4, tt_5, tt_26, tt_36, tt_38, tt_9, tt_79, encC, cfg0, ib_and, ib_or, ib_xor, ib_andNot, ib_not, w_ofInt, w_eqb, w_eqb0, w_inj, w_zero, w_wrap, BitVec.reduceOfInt, shl_bit, zeros_C, w_ones, BitVec.allOnes_xor, len_flat lenC]
    refine callG.pc1 (pc62 k hk2) ?_
    simp (config := { maxSteps := 2000000 }) -implicitDefEqProofs +contextual (disch := first | assumption | omega | decide +kernel) only [push_cast, ↓capI, br2_true, br2_false, frk_tt, frk_tf, frk_f, frkD_tt, frkD_tf, frkD_f, pk2_true, pk2_false, imp_true, Nat.reduceAdd, Nat.reduceSub, Nat.reduceMul, Nat.reduceLeDiff, Nat.reduceLT, reduceCtorEq, ↓reduceIte, Nat.reduceEqDiff, Nat.reduceSub, Nat.reduceMul, Int.reduceNeg, Int.reduceLT, Int.reduceLE, Int.reduceAdd, Int.reduceSub, Int.reduceMul, Int.reduceEq, Int.reduceToNat, Nat.reduceDiv, Nat.reduceMod, Nat.reduceBEq, Nat.reduceBNe, reduceCtorEq, tt_25, tt_23, tt_3, tt_4, tt_5, tt_26, tt_36, tt_38, tt_9, tt_79, encC, cfg0, ib_and, ib_or, ib_xor, ib_andNot, ib_not, w_ofInt, w_eqb, w_eqb0, w_inj, w_zero, w_wrap, BitVec.reduceOfInt, shl_bit, zeros_C, w_ones, BitVec.allOnes_xor, len_flat lenC]
    refine callG.pc1 (pc63 ⟨a.v, a.m &&& low k⟩) ?_
    simp (config := { maxSteps := 2000000 }) -implicitDefEqProofs +contextual (disch := first | assumption | omega | decide +kernel) only [push_cast, ↓capI, br2_true, br2_false, frk_tt, frk_tf, frk_f, frkD_tt, frkD_tf, frkD_f, pk2_true, pk2_false, imp_true, Nat.reduceAdd, Nat.reduceSub, Nat.reduceMul, Nat.reduceLeDiff, Nat.reduceLT, reduceCtorEq, ↓reduceIte, Nat.reduceEqDiff, Nat.reduceSub, Nat.reduceMul, Int.reduceNeg, Int.reduceLT, Int.reduceLE, Int.reduceAdd, Int.reduceSub, Int.reduceMul, Int.reduceEq, Int.reduceToNat, Nat.reduceDiv, Nat.reduceMod, Nat.reduceBEq, Nat.reduceBNe, reduceCtorEq, tt_25, tt_23, tt_3, tt_4, tt_5, tt_26, tt_36, tt_38, tt_9, tt_79, encC, cfg0, ib_and, ib_or, ib_xor, ib_andNot, ib_not, w_ofInt, w_eqb, w_eqb0, w_inj, w_zero, w_wrap, BitVec.reduceOfInt, shl_bit, zeros_C, w_ones, BitVec.allOnes_xor, len_flat lenC, ecan]
    refine callG.pc1 (pc63 ⟨b.v, b.m &&& low k⟩) ?_
    simp (config := { maxSteps := 2000000 }) -implicitDefEqProofs +contextual (disch := first | assumption | omega | decide +kernel) only [push_cast, ↓capI, br2_true, br2_false, frk_tt, frk_tf, frk_f, frkD_tt, frkD_tf, frkD_f, pk2_true, pk2_false, imp_true, Nat.reduceAdd, Nat.reduceSub, Nat.reduceMul, Nat.reduceLeDiff, Nat.reduceLT, reduceCtorEq, ↓reduceIte, Nat.reduceEqDiff, Nat.reduceSub, Nat.reduceMul, Int.reduceNeg, Int.reduceLT, Int.reduceLE, Int.reduceAdd, Int.reduceSub, Int.reduceMul, Int.reduceEq, Int.reduceToNat, Nat.reduceDiv, Nat.reduceMod, Nat.reduceBEq, Nat.reduceBNe, reduceCtorEq, tt_25, tt_23, tt_3, tt_4, tt_5, tt_26, tt_36, tt_38, tt_9, tt_79, encC, cfg0, ib_and, ib_or, ib_xor, ib_andNot, ib_not, w_ofInt, w_eqb, w_eqb0, w_inj, w_zero, w_wrap, BitVec.reduceOfInt, shl_bit, zeros_C, w_ones, BitVec.allOnes_xor, len_flat lenC, ecan]
    refine callO.pc (pc23 (cutC a k) (cutC b k)) ?_
    simp (config := { maxSteps := 2000000 }) -implicitDefEqProofs +contextual (disch := first | assumption | omega | decide +kernel) only [push_cast, ↓capI, br2_true, br2_false, frk_tt, frk_tf, frk_f, frkD_tt, frkD_tf, frkD_f, pk2_true, pk2_false, imp_true, Nat.reduceAdd, Nat.reduceSub, Nat.reduceMul, Nat.reduceLeDiff, Nat.reduceLT, reduceCtorEq, ↓reduceIte, Nat.reduceEqDiff, Nat.reduceSub, Nat.reduceMul, Int.reduceNeg, Int.reduceLT, Int.reduceLE, Int.reduceAdd, Int.reduceSub, Int.reduceMul, Int.reduceEq, Int.reduceToNat, Nat.reduceDiv, Nat.reduceMod, Nat.reduceBEq, Nat.reduceBNe, reduceCtorEq, tt_25, tt_23, tt_3, tt_4, tt_5, tt_26, tt_36, tt_38, tt_9, tt_79, encC, cfg0, ib_and, ib_or, ib_xor, ib_andNot, ib_not, w_ofInt, w_eqb, w_eqb0, w_inj, w_zero, w_wrap, BitVec.reduceOfInt, shl_bit, zeros_C, w_ones, BitVec.allOnes_xor, len_flat lenC, encCB, hmf]
    refine endK.ret ?_ (by first | rfl | simp [bel_int, bel_bool, bel_str, bel_nilp, bel_nili, bel_nilf, bel_nilm, bel_dead, bel_agg, bel_tup, bel_sl, bel_fp, bel_buf, bel_ptr, bel_mp, bel_ifc, bel_fn, bel_opt, belAll_nil, belAll_cons, belO_cells, belO_dead, belO_unborn, belObs_nil, belObs_cons, belObs_append, belAll_tab, belObs_tab, belObs_tabN, belC, bel_Cs, bel_slC, belAll_append]); simp [bel_int, bel_bool, bel_str, bel_nilp, bel_nili, bel_nilf, bel_nilm, bel_dead, bel_agg, bel_tup, bel_sl, bel_fp, bel_buf, bel_ptr, bel_mp, bel_ifc, bel_fn, bel_opt, belAll_nil, belAll_cons, belO_cells, belO_dead, belO_unborn, belObs_nil, belObs_cons, belObs_append, belAll_tab, belObs_tab, belObs_tabN, belC, bel_Cs, bel_slC, belAll_append, fzs_ok, imp, lenOK_iff, List.take_of_length_le, evRes, getT, getO, setO, fzs, fz, fzH, Nat.beq, retV, Res.then, ldT, ldR, mkV, getV, tt_25, tt_23, tt_3, tt_4, tt_5, tt_26, tt_36, tt_38, tt_9, tt_79, encC, cfg0, ib_and, ib_or, ib_xor, ib_andNot, ib_not, w_ofInt, w_eqb, w_eqb0, w_inj, w_zero, w_wrap, BitVec.reduceOfInt, shl_bit, zeros_C, w_ones, BitVec.allOnes_xor, len_flat lenC, Try.f21,  slC, encC]
  rw [e, if_pos hm]
  refine PC.walk tok mixed cfg0 Try.func21 rfl Try.call21 (by simp [bel_int, bel_bool, bel_str, bel_nilp, bel_nili, bel_nilf, bel_nilm, bel_dead, bel_agg, bel_tup, bel_sl, bel_fp, bel_buf, bel_ptr, bel_mp, bel_ifc, bel_fn, bel_opt, belAll_nil, belAll_cons, belO_cells, belO_dead, belO_unborn, belObs_nil, belObs_cons, belObs_append, belAll_tab, belObs_tab, belObs_tabN, belC, bel_Cs, bel_slC, belAll_append]) (by first | rfl | simp [bel_int, bel_bool, bel_str, bel_nilp, bel_nili, bel_nilf, bel_nilm, bel_dead, bel_agg, bel_tup, bel_sl, bel_fp, bel_buf, bel_ptr, bel_mp, bel_ifc, bel_fn, bel_opt, belAll_nil, belAll_cons, belO_cells, belO_dead, belO_unborn, belObs_nil, belObs_cons, belObs_append, belAll_tab, belObs_tab, belObs_tabN, belC, bel_Cs, bel_slC, belAll_append]) ?_; simp (config := { maxSteps := 2000000 }) -implicitDefEqProofs +contextual (disch := first | assumption | omega | decide +kernel) only [push_cast, ↓capI, br2_true, br2_false, frk_tt, frk_tf, frk_f, frkD_tt, frkD_tf, frkD_f, pk2_true, pk2_false, imp_true, Nat.reduceAdd, Nat.reduceSub, Nat.reduceMul, Nat.reduceLeDiff, Nat.reduceLT, reduceCtorEq, ↓reduceIte, Nat.reduceEqDiff, Nat.reduceSub, Nat.reduceMul, Int.reduceNeg, Int.reduceLT, Int.reduceLE, Int.reduceAdd, Int.reduceSub, Int.reduceMul, Int.reduceEq, Int.reduceToNat, Nat.reduceDiv, Nat.reduceMod, Nat.reduceBEq, Nat.reduceBNe, reduceCtorEq, tt_25, tt_23, tt_3, tt_4, tt_5, tt_26, tt_36, tt_38, tt_9, tt_79, encC, cfg0, ib_and, ib_or, ib_xor, ib_andNot, ib_not, w_ofInt, w_eqb, w_eqb0, w_inj, w_zero, w_wrap, BitVec.reduceOfInt, shl_bit, zeros_C, w_ones, BitVec.allOnes_xor, len_flat lenC, Try.ntmps21]
  refine callO.pc (pc61 k) ?_
  rw [hw]
  simp (config := { maxSteps := 2000000 }) -implicitDefEqProofs +contextual (disch := first | assumption | omega | decide +kernel) only [push_cast, ↓capI, br2_true, br2_false, frk_tt, frk_tf, frk_f, frkD_tt, frkD_tf, frkD_f, pk2_true, pk2_false, imp_true, Nat.reduceAdd, Nat.reduceSub, Nat.reduceMul, Nat.reduceLeDiff, Nat.reduceLT, reduceCtorEq, ↓reduceIte, Nat.reduceEqDiff, Nat.reduceSub, Nat.reduceMul, Int.reduceNeg, Int.reduceLT, Int.reduceLE, Int.reduceAdd, Int.reduceSub, Int.reduceMul, Int.reduceEq, Int.reduceToNat, Nat.reduceDiv, Nat.reduceMod, Nat.reduceBEq, Nat.reduceBNe, reduceCtorEq, tt_25, tt_23, tt_3, tt_4, tt_5, tt_26, tt_36, tt_38, tt_9, tt_79, encC, cfg0, ib_and, ib_or, ib_xor, ib_andNot, ib_not, w_ofInt, w_eqb, w_eqb0, w_inj, w_zero, w_wrap, BitVec.reduceOfInt, shl_bit, zeros_C, w_ones, BitVec.allOnes_xor, len_flat lenC]
  refine callG.pc1 (pc62 k hk2) ?_
  simp (config := { maxSteps := 2000000 }) -implicitDefEqProofs +contextual (disch := first | assumption | omega | decide +kernel) only [push_cast, ↓capI, br2_true, br2_false, frk_tt, frk_tf, frk_f, frkD_tt, frkD_tf, frkD_f, pk2_true, pk2_false, imp_true, Nat.reduceAdd, Nat.reduceSub, Nat.reduceMul, Nat.reduceLeDiff, Nat.reduceLT, reduceCtorEq, ↓reduceIte, Nat.reduceEqDiff, Nat.reduceSub, Nat.reduceMul, Int.reduceNeg, Int.reduceLT, Int.reduceLE, Int.reduceAdd, Int.reduceSub, Int.reduceMul, Int.reduceEq, Int.reduceToNat, Nat.reduceDiv, Nat.reduceMod, Nat.reduceBEq, Nat.reduceBNe, reduceCtorEq, tt_25, tt_23, tt_3, tt_4, tt_5, tt_26, tt_36, tt_38, tt_9, tt_79, encC, cfg0, ib_and, ib_or, ib_xor, ib_andNot, ib_not, w_ofInt, w_eqb, w_eqb0, w_inj, w_zero, w_wrap, BitVec.reduceOfInt, shl_bit, zeros_C, w_ones, BitVec.allOnes_xor, len_flat lenC]
  refine callG.pc1 (pc62 k hk2) ?_
  simp (config := { maxSteps := 2000000 }) -implicitDefEqProofs +contextual (disch := first | assumption | omega | decide +kernel) only [push_cast, ↓capI, br2_true, br2_false, frk_tt, frk_tf, frk_f, frkD_tt, frkD_tf, frkD_f, pk2_true, pk2_false, imp_true, Nat.reduceAdd, Nat.reduceSub, Nat.reduceMul, Nat.reduceLeDiff, Nat.reduceLT, reduceCtorEq, ↓reduceIte, Nat.reduceEqDiff, Nat.reduceSub, Nat.reduceMul, Int.reduceNeg, Int.reduceLT, Int.reduceLE, Int.reduceAdd, Int.reduceSub, Int.reduceMul, Int.reduceEq, Int.reduceToNat, Nat.reduceDiv, Nat.reduceMod, Nat.reduceBEq, Nat.reduceBNe, reduceCtorEq, tt_25, tt_23, tt_3, tt_4, tt_5, tt_26, tt_36, tt_38, tt_9, tt_79, encC, cfg0, ib_and, ib_or, ib_xor, ib_andNot, ib_not, w_ofInt, w_eqb, w_eqb0, w_inj, w_zero, w_wrap, BitVec.reduceOfInt, shl_bit, zeros_C, w_ones, BitVec.allOnes_xor, len_flat lenC]
  refine callG.pc1 (pc63 ⟨a.v, a.m &&& low k⟩) ?_
  simp (config := { maxSteps := 2000000 }) -implicitDefEqProofs +contextual (disch := first | assumption | omega | decide +kernel) only [push_cast, ↓capI, br2_true, br2_false, frk_tt, frk_tf, frk_f, frkD_tt, frkD_tf, frkD_f, pk2_true, pk2_false, imp_true, Nat.reduceAdd, Nat.reduceSub, Nat.reduceMul, Nat.reduceLeDiff, Nat.reduceLT, reduceCtorEq, ↓reduceIte, Nat.reduceEqDiff, Nat.reduceSub, Nat.reduceMul, Int.reduceNeg, Int.reduceLT, Int.reduceLE, Int.reduceAdd, Int.reduceSub, Int.reduceMul, Int.reduceEq, Int.reduceToNat, Nat.reduceDiv, Nat.reduceMod, Nat.reduceBEq, Nat.reduceBNe, reduceCtorEq, tt_25, tt_23, tt_3, tt_4, tt_5, tt_26, tt_36, tt_38, tt_9, tt_79, encC, cfg0, ib_and, ib_or, ib_xor, ib_andNot, ib_not, w_ofInt, w_eqb, w_eqb0, w_inj, w_zero, w_wrap, BitVec.reduceOfInt, shl_bit, zeros_C, w_ones, BitVec.allOnes_xor, len_flat lenC, ecan]
  refine callG.pc1 (pc63 ⟨b.v, b.m &&& low k⟩) ?_
  simp (config := { maxSteps := 2000000 }) -implicitDefEqProofs +contextual (disch := first | assumption | omega | decide +kernel) only [push_cast, ↓capI, br2_true, br2_false, frk_tt, frk_tf, frk_f, frkD_tt, frkD_tf, frkD_f, pk2_true, pk2_false, imp_true, Nat.reduceAdd, Nat.reduceSub, Nat.reduceMul, Nat.reduceLeDiff, Nat.reduceLT, reduceCtorEq, ↓reduceIte, Nat.reduceEqDiff, Nat.reduceSub, Nat.reduceMul, Int.reduceNeg, Int.reduceLT, Int.reduceLE, Int.reduceAdd, Int.reduceSub, Int.reduceMul, Int.reduceEq, Int.reduceToNat, Nat.reduceDiv, Nat.reduceMod, Nat.reduceBEq, Nat.reduceBNe, reduceCtorEq, tt_25, tt_23, tt_3, tt_4, tt_5, tt_26, tt_36, tt_38, tt_9, tt_79, encC, cfg0, ib_and, ib_or, ib_xor, ib_andNot, ib_not, w_ofInt, w_eqb, w_eqb0, w_inj, w_zero, w_wrap, BitVec.reduceOfInt, shl_bit, zeros_C, w_ones, BitVec.allOnes_xor, len_flat lenC, ecan]
  refine callO.pc (pc23 (cutC a k) (cutC b k)) ?_
  simp (config := { maxSteps := 2000000 }) -implicitDefEqProofs +contextual (disch := first | assumption | omega | decide +kernel) only [push_cast, ↓capI, br2_true, br2_false, frk_tt, frk_tf, frk_f, frkD_tt, frkD_tf, frkD_f, pk2_true, pk2_false, imp_true, Nat.reduceAdd, Nat.reduceSub, Nat.reduceMul, Nat.reduceLeDiff, Nat.reduceLT, reduceCtorEq, ↓reduceIte, Nat.reduceEqDiff, Nat.reduceSub, Nat.reduceMul, Int.reduceNeg, Int.reduceLT, Int.reduceLE, Int.reduceAdd, Int.reduceSub, Int.reduceMul, Int.reduceEq, Int.reduceToNat, Nat.reduceDiv, Nat.reduceMod, Nat.reduceBEq, Nat.reduceBNe, reduceCtorEq, tt_25, tt_23, tt_3, tt_4, tt_5, tt_26, tt_36, tt_38, tt_9, tt_79, encC, cfg0, ib_and, ib_or, ib_xor, ib_andNot, ib_not, w_ofInt, w_eqb, w_eqb0, w_inj, w_zero, w_wrap, BitVec.reduceOfInt, shl_bit, zeros_C, w_ones, BitVec.allOnes_xor, len_flat lenC, encCB, hm]
  refine T.lp tok mixed cfg0 (fun ((j, r, A, n) : Nat × Cu × List Cu × Nat) => dd 4 (kp 1 (dd 4 (kp 1 (sv (.int .i64 n) (kp 1 (sv (.int .u64 ((cutC b k).m &&& ~~~ (cutC a k).m &&& low j).toNat) (dd 76 (nl))))))))) (fun H0 ((j, r, A, n) : Nat × Cu × List Cu × Nat) => [.cells 0 (encC (cutC a k)), .cells 0 (encC (cutC b k)), .cells 0 (encC (meet (cutC a k) (cutC b k)).1), .cells 0 (A.flatMap encC), .cells 0 (encC r)]) (fun ((j, r, A, n) : Nat × Cu × List Cu × Nat) => j ≤ k ∧ n + j ≤ k ∧ A.length = 64 ∧ A.take n ++ subGo (cutC b k) j r = subGo (cutC b k) k (cutC a k) ∧ (∀ i, i < j → r.m.getLsbD i = (cutC a k).m.getLsbD i)) (fun ((j, r, A, n) : Nat × Cu × List Cu × Nat) => j) ((k, cutC a k, zerosC, 0)) ?_ ?_ ?_
  · exact ⟨Nat.le_refl _, by simp, zerosC_len, rfl, fun _ _ => rfl⟩
  · have hlk : (cutC b k).m &&& ~~~ (cutC a k).m &&& low k = (cutC b k).m &&& ~~~ (cutC a k).m := by
      refine bit_ext fun i hi => ?_
      simp only [BitVec.getLsbD_and, BitVec.getLsbD_or, BitVec.getLsbD_not, BitVec.getLsbD_zero, BitVec.getLsbD_xor, decide_true, Bool.true_and, low_bit hk2 hi, cutC, hi]
      generalize b.m.getLsbD i = u
      generalize a.m.getLsbD i = v
      generalize decide (i < k) = t
      revert u v t
      decide
    exact Gn.canon (J := []) rfl (by simp [wk, putT, kp, dd, sv, nl, hlk]) (by simp) (by simp [bel_int, bel_bool, bel_str, bel_nilp, bel_nili, bel_nilf, bel_nilm, bel_dead, bel_agg, bel_tup, bel_sl, bel_fp, bel_buf, bel_ptr, bel_mp, bel_ifc, bel_fn, bel_opt, belAll_nil, belAll_cons, belO_cells, belO_dead, belO_unborn, belObs_nil, belObs_cons, belObs_append, belAll_tab, belObs_tab, belObs_tabN, belC, bel_Cs, bel_slC, belAll_append, kp, dd, sv, nl]) (by simp [bel_int, bel_bool, bel_str, bel_nilp, bel_nili, bel_nilf, bel_nilm, bel_dead, bel_agg, bel_tup, bel_sl, bel_fp, bel_buf, bel_ptr, bel_mp, bel_ifc, bel_fn, bel_opt, belAll_nil, belAll_cons, belO_cells, belO_dead, belO_unborn, belObs_nil, belObs_cons, belObs_append, belAll_tab, belObs_tab, belObs_tabN, belC, bel_Cs, bel_slC, belAll_append])
  rintro ⟨j, r, A, n⟩ ⟨hj, hn, hA, hL, hr⟩
  obtain ⟨lf, hlf⟩ : ∃ lf : W64, lf = (cutC b k).m &&& ~~~ (cutC a k).m &&& low j := ⟨_, rfl⟩
  have hlb : ∀ i, i < j → lf.getLsbD i = ((cutC b k).m.getLsbD i && !r.m.getLsbD i) := by
    intro i hi
    rw [hlf, hr i hi]
    simp only [BitVec.getLsbD_and, BitVec.getLsbD_or, BitVec.getLsbD_not, BitVec.getLsbD_zero, BitVec.getLsbD_xor, decide_true, Bool.true_and, low_bit (show j ≤ 64 by omega) (show i < 64 by omega), show i < 64 by omega, hi, Bool.and_true]
  simp only [← hlf]
  by_cases h0 : lf = 0#64
  · have hz : subGo (cutC b k) j r = [] := by
      rw [subGo_skip (k := 0) (Nat.zero_le _) fun i _ hi => by rw [← hlb i hi, h0]; simp]
      rfl
    rw [hz, List.append_nil] at hL
    simp (config := { maxSteps := 2000000 }) -implicitDefEqProofs +contextual (disch := first | assumption | omega | decide +kernel) only [push_cast, ↓capI, br2_true, br2_false, frk_tt, frk_tf, frk_f, frkD_tt, frkD_tf, frkD_f, pk2_true, pk2_false, imp_true, Nat.reduceAdd, Nat.reduceSub, Nat.reduceMul, Nat.reduceLeDiff, Nat.reduceLT, reduceCtorEq, ↓reduceIte, Nat.reduceEqDiff, Nat.reduceSub, Nat.reduceMul, Int.reduceNeg, Int.reduceLT, Int.reduceLE, Int.reduceAdd, Int.reduceSub, Int.reduceMul, Int.reduceEq, Int.reduceToNat, Nat.reduceDiv, Nat.reduceMod, Nat.reduceBEq, Nat.reduceBNe, reduceCtorEq, tt_25, tt_23, tt_3, tt_4, tt_5, tt_26, tt_36, tt_38, tt_9, tt_79, encC, cfg0, ib_and, ib_or, ib_xor, ib_andNot, ib_not, w_ofInt, w_eqb, w_eqb0, w_inj, w_zero, w_wrap, BitVec.reduceOfInt, shl_bit, zeros_C, w_ones, BitVec.allOnes_xor, len_flat lenC, h0, hA]
    refine endK.gn (Gn.freeze (id := 3) rfl) ?_; refine endK.ret ?_ (by first | rfl | simp [bel_int, bel_bool, bel_str, bel_nilp, bel_nili, bel_nilf, bel_nilm, bel_dead, bel_agg, bel_tup, bel_sl, bel_fp, bel_buf, bel_ptr, bel_mp, bel_ifc, bel_fn, bel_opt, belAll_nil, belAll_cons, belO_cells, belO_dead, belO_unborn, belObs_nil, belObs_cons, belObs_append, belAll_tab, belObs_tab, belObs_tabN, belC, bel_Cs, bel_slC, belAll_append]); simp [bel_int, bel_bool, bel_str, bel_nilp, bel_nili, bel_nilf, bel_nilm, bel_dead, bel_agg, bel_tup, bel_sl, bel_fp, bel_buf, bel_ptr, bel_mp, bel_ifc, bel_fn, bel_opt, belAll_nil, belAll_cons, belO_cells, belO_dead, belO_unborn, belObs_nil, belObs_cons, belObs_append, belAll_tab, belObs_tab, belObs_tabN, belC, bel_Cs, bel_slC, belAll_append, fzs_ok, imp, lenOK_iff, List.take_of_length_le, evRes, getT, getO, setO, fzs, fz, fzH, Nat.beq, retV, Res.then, ldT, ldR, mkV, getV, tt_25, tt_23, tt_3, tt_4, tt_5, tt_26, tt_36, tt_38, tt_9, tt_79, encC, cfg0, ib_and, ib_or, ib_xor, ib_andNot, ib_not, w_ofInt, w_eqb, w_eqb0, w_inj, w_zero, w_wrap, BitVec.reduceOfInt, shl_bit, zeros_C, w_ones, BitVec.allOnes_xor, len_flat lenC, Try.f21,  slC, hA, len_flat lenC, ← hL, take_flat lenC]
    omega
  · obtain ⟨q, hq1, hq2, hq3, hq4⟩ := len_bit h0
    have hqj : q < j := by
      rw [hlf] at hq3
      simp only [BitVec.getLsbD_and, BitVec.getLsbD_or, BitVec.getLsbD_not, BitVec.getLsbD_zero, BitVec.getLsbD_xor, decide_true, Bool.true_and, low_bit (show j ≤ 64 by omega) hq2, Bool.and_eq_true, decide_eq_true_eq] at hq3
      exact hq3.2
    simp (config := { maxSteps := 2000000 }) -implicitDefEqProofs +contextual (disch := first | assumption | omega | decide +kernel) only [push_cast, ↓capI, br2_true, br2_false, frk_tt, frk_tf, frk_f, frkD_tt, frkD_tf, frkD_f, pk2_true, pk2_false, imp_true, Nat.reduceAdd, Nat.reduceSub, Nat.reduceMul, Nat.reduceLeDiff, Nat.reduceLT, reduceCtorEq, ↓reduceIte, Nat.reduceEqDiff, Nat.reduceSub, Nat.reduceMul, Int.reduceNeg, Int.reduceLT, Int.reduceLE, Int.reduceAdd, Int.reduceSub, Int.reduceMul, Int.reduceEq, Int.reduceToNat, Nat.reduceDiv, Nat.reduceMod, Nat.reduceBEq, Nat.reduceBNe, reduceCtorEq, tt_25, tt_23, tt_3, tt_4, tt_5, tt_26, tt_36, tt_38, tt_9, tt_79, encC, cfg0, ib_and, ib_or, ib_xor, ib_andNot, ib_not, w_ofInt, w_eqb, w_eqb0, w_inj, w_zero, w_wrap, BitVec.reduceOfInt, shl_bit, zeros_C, w_ones, BitVec.allOnes_xor, len_flat lenC, h0]
    refine callO.pc (pc64 lf.toNat lf.isLt) ?_
    rw [hq1]
    simp (config := { maxSteps := 2000000 }) -implicitDefEqProofs +contextual (disch := first | assumption | omega | decide +kernel) only [push_cast, ↓capI, br2_true, br2_false, frk_tt, frk_tf, frk_f, frkD_tt, frkD_tf, frkD_f, pk2_true, pk2_false, imp_true, Nat.reduceAdd, Nat.reduceSub, Nat.reduceMul, Nat.reduceLeDiff, Nat.reduceLT, reduceCtorEq, ↓reduceIte, Nat.reduceEqDiff, Nat.reduceSub, Nat.reduceMul, Int.reduceNeg, Int.reduceLT, Int.reduceLE, Int.reduceAdd, Int.reduceSub, Int.reduceMul, Int.reduceEq, Int.reduceToNat, Nat.reduceDiv, Nat.reduceMod, Nat.reduceBEq, Nat.reduceBNe, reduceCtorEq, tt_25, tt_23, tt_3, tt_4, tt_5, tt_26, tt_36, tt_38, tt_9, tt_79, encC, cfg0, ib_and, ib_or, ib_xor, ib_andNot, ib_not, w_ofInt, w_eqb, w_eqb0, w_inj, w_zero, w_wrap, BitVec.reduceOfInt, shl_bit, zeros_C, w_ones, BitVec.allOnes_xor, len_flat lenC, Int.add_sub_cancel, hA]
    have hskip : subGo (cutC b k) j r = subGo (cutC b k) (q + 1) r := subGo_skip hqj fun i h1 h2 => by rw [← hlb i h2]; exact hq4 i h1
    have htest := hlb q hqj
    rw [hq3] at htest
    have hput : putV (A.flatMap encC) (n * 2) (encC (piece (cutC b k) r q)) = (A.set n (piece (cutC b k) r q)).flatMap encC := by
      have hlt : n < A.length := by omega
      have := put_flat lenC (x' := piece (cutC b k) r q) (cs := encC (piece (cutC b k) r q)) (o := 0) (by simp [encC]) A n hlt (by simp [encC, putV])
      rwa [Nat.add_zero] at this
    rw [hskip, subGo, if_pos htest.symm] at hL
    refine ⟨(q, nextR (cutC b k) r q, A.set n (piece (cutC b k) r q), n + 1), ⟨by simp only; omega, by simp only; omega, by simp only [List.length_set]; exact hA, ?_, ?_⟩, by (try simp only); omega, ?_⟩
    · have ht : (A.set n (piece (cutC b k) r q)).take (n + 1) = A.take n ++ [piece (cutC b k) r q] := by
        rw [List.take_add_one, List.getElem?_set_self (by omega), List.take_set_of_le (Nat.le_refl _)]
        rfl
      simp only [ht, List.append_assoc, List.cons_append, List.nil_append]
      exact hL
    · intro i hi
      simp only [nextR, BitVec.getLsbD_or, bit_at (show i < 64 by omega)]
      rw [hr i (by simp only at hi; omega), decide_eq_false (by simp only at hi; omega), Bool.or_false]
    · have hnew : lf &&& ~~~ bit q = (cutC b k).m &&& ~~~ (cutC a k).m &&& low q := by
        refine bit_ext fun i hi => ?_
        simp only [BitVec.getLsbD_and, BitVec.getLsbD_or, BitVec.getLsbD_not, BitVec.getLsbD_zero, BitVec.getLsbD_xor, decide_true, Bool.true_and, bit_at hi, hi]
        by_cases h1 : q < i
        · rw [hq4 i h1, low_bit (by omega) hi]
          simp
          intro _ _
          omega
        · by_cases h2 : q = i
          · subst h2
            rw [low_bit (by omega) hi]
            simp
          · rw [hlf]
            simp only [BitVec.getLsbD_and, BitVec.getLsbD_or, BitVec.getLsbD_not, BitVec.getLsbD_zero, BitVec.getLsbD_xor, decide_true, Bool.true_and, low_bit (show j ≤ 64 by omega) hi, low_bit (show q ≤ 64 by omega) hi, hi]
            simp [h2, show i < j by omega, show i < q by omega]
      refine Gn.canon (J := []) ?_ (by simp [wk, hnew]) (by simp) (by simp [bel_int, bel_bool, bel_str, bel_nilp, bel_nili, bel_nilf, bel_nilm, bel_dead, bel_agg, bel_tup, bel_sl, bel_fp, bel_buf, bel_ptr, bel_mp, bel_ifc, bel_fn, bel_opt, belAll_nil, belAll_cons, belO_cells, belO_dead, belO_unborn, belObs_nil, belObs_cons, belObs_append, belAll_tab, belObs_tab, belObs_tabN, belC, bel_Cs, bel_slC, belAll_append]) (by simp [bel_int, bel_bool, bel_str, bel_nilp, bel_nili, bel_nilf, bel_nilm, bel_dead, bel_agg, bel_tup, bel_sl, bel_fp, bel_buf, bel_ptr, bel_mp, bel_ifc, bel_fn, bel_opt, belAll_nil, belAll_cons, belO_cells, belO_dead, belO_unborn, belObs_nil, belObs_cons, belObs_append, belAll_tab, belObs_tab, belObs_tabN, belC, bel_Cs, bel_slC, belAll_append])
      simp only [piece, encC] at hput
      simp only [hput, nextR, encC, piece, List.append_nil]
end Go.Proofs.Ytopnabckbpogeaa
