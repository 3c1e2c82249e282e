/-
  Chapter 7: patterns as texts, by the program.
-/
import Derived.Test.YtopnabckbpogeaaText
set_option maxRecDepth 100000
set_option maxHeartbeats 4000000
set_option linter.all false
namespace Go.Proofs.Ytopnabckbpogeaa
open Go.Vm

theorem bit_val {x : W64} {i : Nat} : (x >>> i &&& 1#64) = if x.getLsbD i = true then 1#64 else 0#64 := by
  by_cases h : x.getLsbD i = true
  · rw [if_pos h]
    have h1 : ¬ (x >>> i &&& 1#64 = 0#64) := fun e => by rw [bit_lsb.1 e] at h; simp at h
    rw [bit_nat] at h1
    apply BitVec.eq_of_toNat_eq
    rw [BitVec.toNat_and, shr_div, show (1#64 : W64).toNat = 2 ^ 1 - 1 from rfl, Nat.and_two_pow_sub_one_eq_mod]
    omega
  · rw [if_neg h]
    exact bit_lsb.2 (by simpa using h)
theorem u8s_map : ∀ {l : List UInt8}, u8s (l.map encU) = true
  | [] => rfl
  | x :: l => by rw [List.map_cons, encU, u8s]; exact u8s_map
theorem toBytes_map : ∀ {l : List UInt8}, toBytes (l.map encU) = l
  | [] => rfl
  | x :: l => by
    rw [List.map_cons, encU, toBytes, toBytes_map, Int.toNat_natCast, UInt8.ofNat_toNat]
theorem pc19 (c : Cu) (w : Int) : PC Try.prog 19 [.agg (encC c), .int .i64 w] (encSE (fmtC c w)) := by
  refine PC.walk tok mixed cfg0 Try.func19 rfl Try.call19 (by simp [bel_int, bel_bool, bel_str, bel_nilp, bel_nili, bel_nilf, bel_nilm, bel_dead, bel_agg, bel_tup, bel_sl, bel_fp, bel_buf, bel_ptr, bel_mp, bel_ifc, bel_fn, bel_opt, belAll_nil, belAll_cons, belO_cells, belO_dead, belO_unborn, belObs_nil, belObs_cons, belObs_append, belAll_tab, belObs_tab, belObs_tabN, belC, bel_Cs, bel_slC, bel_bytes, bel_encSE, encU]) (by first | rfl | simp [bel_int, bel_bool, bel_str, bel_nilp, bel_nili, bel_nilf, bel_nilm, bel_dead, bel_agg, bel_tup, bel_sl, bel_fp, bel_buf, bel_ptr, bel_mp, bel_ifc, bel_fn, bel_opt, belAll_nil, belAll_cons, belO_cells, belO_dead, belO_unborn, belObs_nil, belObs_cons, belObs_append, belAll_tab, belObs_tab, belObs_tabN, belC, bel_Cs, bel_slC, bel_bytes, bel_encSE, encU]) ?_; simp (config := { maxSteps := 2000000 }) -implicitDefEqProofs +contextual (disch := first | assumption | omega | decide +kernel) only [push_cast, ↓capI, br2_true, br2_false, frk_tt, frk_tf, frk_f, frkD_tt, frkD_tf, frkD_f, pk2_true, pk2_false, imp_true, Nat.reduceAdd, Nat.reduceSub, Nat.reduceMul, Nat.reduceLeDiff, Nat.reduceLT, reduceCtorEq, ↓reduceIte, Nat.reduceEqDiff, Nat.reduceSub, Nat.reduceMul, Int.reduceNeg, Int.reduceLT, Int.reduceLE, Int.reduceAdd, Int.reduceSub, Int.reduceMul, Int.reduceEq, Int.reduceToNat, Nat.reduceDiv, Nat.reduceMod, Nat.reduceBEq, Nat.reduceBNe, reduceCtorEq, tt_25, tt_23, tt_3, tt_4, tt_5, tt_26, tt_36, tt_38, tt_9, tt_74, tt_75, encC, cfg0, ib_and, ib_or, ib_xor, ib_andNot, w_ofInt, w_eqb, w_eqb0, w_inj, w_zero, w_wrap, BitVec.reduceOfInt, w_shr, zeros_T, List.length_map, Nat.mul_one, Try.ntmps19]
  refine callO.pc (pc20 c w) ?_
  by_cases h0 : chkC c w = 0
  case neg =>
    simp (config := { maxSteps := 2000000 }) -implicitDefEqProofs +contextual (disch := first | assumption | omega | decide +kernel) only [push_cast, ↓capI, br2_true, br2_false, frk_tt, frk_tf, frk_f, frkD_tt, frkD_tf, frkD_f, pk2_true, pk2_false, imp_true, Nat.reduceAdd, Nat.reduceSub, Nat.reduceMul, Nat.reduceLeDiff, Nat.reduceLT, reduceCtorEq, ↓reduceIte, Nat.reduceEqDiff, Nat.reduceSub, Nat.reduceMul, Int.reduceNeg, Int.reduceLT, Int.reduceLE, Int.reduceAdd, Int.reduceSub, Int.reduceMul, Int.reduceEq, Int.reduceToNat, Nat.reduceDiv, Nat.reduceMod, Nat.reduceBEq, Nat.reduceBNe, reduceCtorEq, tt_25, tt_23, tt_3, tt_4, tt_5, tt_26, tt_36, tt_38, tt_9, tt_74, tt_75, encC, cfg0, ib_and, ib_or, ib_xor, ib_andNot, w_ofInt, w_eqb, w_eqb0, w_inj, w_zero, w_wrap, BitVec.reduceOfInt, w_shr, zeros_T, List.length_map, Nat.mul_one, h0]
    refine endK.ret ?_ (by first | rfl | simp [bel_int, bel_bool, bel_str, bel_nilp, bel_nili, bel_nilf, bel_nilm, bel_dead, bel_agg, bel_tup, bel_sl, bel_fp, bel_buf, bel_ptr, bel_mp, bel_ifc, bel_fn, bel_opt, belAll_nil, belAll_cons, belO_cells, belO_dead, belO_unborn, belObs_nil, belObs_cons, belObs_append, belAll_tab, belObs_tab, belObs_tabN, belC, bel_Cs, bel_slC, bel_bytes, bel_encSE, encU]); simp [evRes, getT, retV, Try.f19,  encSE, fmtC, h0]
  obtain ⟨hw, _, _⟩ := chk_ok h0
  obtain ⟨k, rfl, hk1, hk2⟩ := okW_nat hw
  have e : fmtC c (k : Int) = (fmtL c k, 0) := by simp [fmtC, h0]
  rw [e]
  simp (config := { maxSteps := 2000000 }) -implicitDefEqProofs +contextual (disch := first | assumption | omega | decide +kernel) only [push_cast, ↓capI, br2_true, br2_false, frk_tt, frk_tf, frk_f, frkD_tt, frkD_tf, frkD_f, pk2_true, pk2_false, imp_true, Nat.reduceAdd, Nat.reduceSub, Nat.reduceMul, Nat.reduceLeDiff, Nat.reduceLT, reduceCtorEq, ↓reduceIte, Nat.reduceEqDiff, Nat.reduceSub, Nat.reduceMul, Int.reduceNeg, Int.reduceLT, Int.reduceLE, Int.reduceAdd, Int.reduceSub, Int.reduceMul, Int.reduceEq, Int.reduceToNat, Nat.reduceDiv, Nat.reduceMod, Nat.reduceBEq, Nat.reduceBNe, reduceCtorEq, tt_25, tt_23, tt_3, tt_4, tt_5, tt_26, tt_36, tt_38, tt_9, tt_74, tt_75, encC, cfg0, ib_and, ib_or, ib_xor, ib_andNot, w_ofInt, w_eqb, w_eqb0, w_inj, w_zero, w_wrap, BitVec.reduceOfInt, w_shr, zeros_T, List.length_map, Nat.mul_one, h0]
  refine T.lp tok mixed cfg0 (fun ((i, A) : Nat × List UInt8) => dd 1 (kp 2 (dd 4 (kp 1 (dd 8 (kp 1 (sv (.int .i64 i) (dd 29 (nl))))))))) (fun H0 ((i, A) : Nat × List UInt8) => [.cells 0 (encC c), .cells 0 (A.map encU)]) (fun ((i, A) : Nat × List UInt8) => i ≤ k ∧ A.length = 64 ∧ A.take i ++ fmtL c (k - i) = fmtL c k) (fun ((i, A) : Nat × List UInt8) => k - i) ((0, List.replicate 64 0)) ?_ ?_ ?_
  · exact ⟨Nat.zero_le _, by simp, rfl⟩
  · exact Gn.canon (J := []) (by first | rfl | (simp [List.append_nil]; done) | (simp [List.append_nil]; rfl)) (by simp [wk, putT, kp, dd, sv, nl]) (by simp [List.length_append]) (by simp [bel_int, bel_bool, bel_str, bel_nilp, bel_nili, bel_nilf, bel_nilm, bel_dead, bel_agg, bel_tup, bel_sl, bel_fp, bel_buf, bel_ptr, bel_mp, bel_ifc, bel_fn, bel_opt, belAll_nil, belAll_cons, belO_cells, belO_dead, belO_unborn, belObs_nil, belObs_cons, belObs_append, belAll_tab, belObs_tab, belObs_tabN, belC, bel_Cs, bel_slC, bel_bytes, bel_encSE, encU, kp, dd, sv, nl]) (by simp [bel_int, bel_bool, bel_str, bel_nilp, bel_nili, bel_nilf, bel_nilm, bel_dead, bel_agg, bel_tup, bel_sl, bel_fp, bel_buf, bel_ptr, bel_mp, bel_ifc, bel_fn, bel_opt, belAll_nil, belAll_cons, belO_cells, belO_dead, belO_unborn, belObs_nil, belObs_cons, belObs_append, belAll_tab, belObs_tab, belObs_tabN, belC, bel_Cs, bel_slC, bel_bytes, bel_encSE, encU])
  rintro ⟨i, A⟩ ⟨hi, hA, hL⟩
  by_cases hlt : i < k
  · obtain ⟨q, hq⟩ : ∃ q, k = i + 1 + q := ⟨k - i - 1, by omega⟩
    have hq2 : (k : Int) - 1 - i = (q : Int) := by omega
    have hiA : i < A.length := by omega
    have hcons : fmtL c (k - i) = chr c q :: fmtL c q := by rw [show k - i = q + 1 by omega, fmtL]
    rw [hcons] at hL
    have hset : ∀ b : UInt8, (A.set i b).take (i + 1) = A.take i ++ [b] := by
      intro b
      rw [List.take_add_one, List.getElem?_set_self hiA, List.take_set_of_le (Nat.le_refl _)]
      rfl
    have hput : ∀ b : UInt8, putV (A.map encU) i [.int .u8 b.toNat] = (A.set i b).map encU := fun b => put_map (f := encU) (y := b) A i hiA
    have hnext : k - (i + 1) = q := by omega
    have hone : ((1#64 : W64).toNat : Int) = 1 := rfl
    have hzero : ((0#64 : W64).toNat : Int) = 0 := rfl
    cases hm : c.m.getLsbD q with
    | false =>
      have hm0 : c.m >>> q &&& 1#64 = 0#64 := bit_lsb.2 hm
      have hc : chr c q = 120 := by simp [chr, hm]
      have hp := hput 120
      have h1 := hset 120
      rw [hc] at hL
      simp (config := { maxSteps := 2000000 }) -implicitDefEqProofs +contextual (disch := first | assumption | omega | decide +kernel) only [push_cast, ↓capI, br2_true, br2_false, frk_tt, frk_tf, frk_f, frkD_tt, frkD_tf, frkD_f, pk2_true, pk2_false, imp_true, Nat.reduceAdd, Nat.reduceSub, Nat.reduceMul, Nat.reduceLeDiff, Nat.reduceLT, reduceCtorEq, ↓reduceIte, Nat.reduceEqDiff, Nat.reduceSub, Nat.reduceMul, Int.reduceNeg, Int.reduceLT, Int.reduceLE, Int.reduceAdd, Int.reduceSub, Int.reduceMul, Int.reduceEq, Int.reduceToNat, Nat.reduceDiv, Nat.reduceMod, Nat.reduceBEq, Nat.reduceBNe, reduceCtorEq, tt_25, tt_23, tt_3, tt_4, tt_5, tt_26, tt_36, tt_38, tt_9, tt_74, tt_75, encC, cfg0, ib_and, ib_or, ib_xor, ib_andNot, w_ofInt, w_eqb, w_eqb0, w_inj, w_zero, w_wrap, BitVec.reduceOfInt, w_shr, zeros_T, List.length_map, Nat.mul_one, hlt, hq2, hA, hm0, hone, hzero]
      refine ⟨(i + 1, A.set i 120), ⟨by simp only; omega, by simp only [List.length_set]; exact hA, by simp only [h1, hnext, List.append_assoc, List.cons_append, List.nil_append]; exact hL⟩, by (try simp only); omega, ?_⟩
      exact Gn.canon (J := []) (by simp only [← hp]; rfl) (by simp [wk]) (by simp) (by simp [bel_int, bel_bool, bel_str, bel_nilp, bel_nili, bel_nilf, bel_nilm, bel_dead, bel_agg, bel_tup, bel_sl, bel_fp, bel_buf, bel_ptr, bel_mp, bel_ifc, bel_fn, bel_opt, belAll_nil, belAll_cons, belO_cells, belO_dead, belO_unborn, belObs_nil, belObs_cons, belObs_append, belAll_tab, belObs_tab, belObs_tabN, belC, bel_Cs, bel_slC, bel_bytes, bel_encSE, encU]) (by simp only [bel_int, bel_bool, bel_str, bel_nilp, bel_nili, bel_nilf, bel_nilm, bel_dead, bel_agg, bel_tup, bel_sl, bel_fp, bel_buf, bel_ptr, bel_mp, bel_ifc, bel_fn, bel_opt, belAll_nil, belAll_cons, belO_cells, belO_dead, belO_unborn, belObs_nil, belObs_cons, belObs_append, belAll_tab, belObs_tab, belObs_tabN, belC, bel_Cs, bel_slC, bel_bytes, bel_encSE, encU]; simp)
    | true =>
      have hm0 : c.m >>> q &&& 1#64 = 1#64 := by rw [bit_val, if_pos hm]
      have hm1 : ¬ c.m >>> q &&& 1#64 = 0#64 := by rw [hm0]; decide
      cases hv : c.v.getLsbD q with
      | false =>
        have hv0 : c.v >>> q &&& 1#64 = 0#64 := bit_lsb.2 hv
        have hc : chr c q = 48 := by simp [chr, hm, hv]
        have hp := hput 48
        have h1 := hset 48
        rw [hc] at hL
        simp (config := { maxSteps := 2000000 }) -implicitDefEqProofs +contextual (disch := first | assumption | omega | decide +kernel) only [push_cast, ↓capI, br2_true, br2_false, frk_tt, frk_tf, frk_f, frkD_tt, frkD_tf, frkD_f, pk2_true, pk2_false, imp_true, Nat.reduceAdd, Nat.reduceSub, Nat.reduceMul, Nat.reduceLeDiff, Nat.reduceLT, reduceCtorEq, ↓reduceIte, Nat.reduceEqDiff, Nat.reduceSub, Nat.reduceMul, Int.reduceNeg, Int.reduceLT, Int.reduceLE, Int.reduceAdd, Int.reduceSub, Int.reduceMul, Int.reduceEq, Int.reduceToNat, Nat.reduceDiv, Nat.reduceMod, Nat.reduceBEq, Nat.reduceBNe, reduceCtorEq, tt_25, tt_23, tt_3, tt_4, tt_5, tt_26, tt_36, tt_38, tt_9, tt_74, tt_75, encC, cfg0, ib_and, ib_or, ib_xor, ib_andNot, w_ofInt, w_eqb, w_eqb0, w_inj, w_zero, w_wrap, BitVec.reduceOfInt, w_shr, zeros_T, List.length_map, Nat.mul_one, hlt, hq2, hA, hm1, hv0, hone, hzero]
        refine ⟨(i + 1, A.set i 48), ⟨by simp only; omega, by simp only [List.length_set]; exact hA, by simp only [h1, hnext, List.append_assoc, List.cons_append, List.nil_append]; exact hL⟩, by (try simp only); omega, ?_⟩
        exact Gn.canon (J := []) (by simp only [← hp]; rfl) (by simp [wk]) (by simp) (by simp [bel_int, bel_bool, bel_str, bel_nilp, bel_nili, bel_nilf, bel_nilm, bel_dead, bel_agg, bel_tup, bel_sl, bel_fp, bel_buf, bel_ptr, bel_mp, bel_ifc, bel_fn, bel_opt, belAll_nil, belAll_cons, belO_cells, belO_dead, belO_unborn, belObs_nil, belObs_cons, belObs_append, belAll_tab, belObs_tab, belObs_tabN, belC, bel_Cs, bel_slC, bel_bytes, bel_encSE, encU]) (by simp only [bel_int, bel_bool, bel_str, bel_nilp, bel_nili, bel_nilf, bel_nilm, bel_dead, bel_agg, bel_tup, bel_sl, bel_fp, bel_buf, bel_ptr, bel_mp, bel_ifc, bel_fn, bel_opt, belAll_nil, belAll_cons, belO_cells, belO_dead, belO_unborn, belObs_nil, belObs_cons, belObs_append, belAll_tab, belObs_tab, belObs_tabN, belC, bel_Cs, bel_slC, bel_bytes, bel_encSE, encU]; simp)
      | true =>
        have hv0 : c.v >>> q &&& 1#64 = 1#64 := by rw [bit_val, if_pos hv]
        have hc : chr c q = 49 := by simp [chr, hm, hv]
        have hp := hput 49
        have h1 := hset 49
        rw [hc] at hL
        simp (config := { maxSteps := 2000000 }) -implicitDefEqProofs +contextual (disch := first | assumption | omega | decide +kernel) only [push_cast, ↓capI, br2_true, br2_false, frk_tt, frk_tf, frk_f, frkD_tt, frkD_tf, frkD_f, pk2_true, pk2_false, imp_true, Nat.reduceAdd, Nat.reduceSub, Nat.reduceMul, Nat.reduceLeDiff, Nat.reduceLT, reduceCtorEq, ↓reduceIte, Nat.reduceEqDiff, Nat.reduceSub, Nat.reduceMul, Int.reduceNeg, Int.reduceLT, Int.reduceLE, Int.reduceAdd, Int.reduceSub, Int.reduceMul, Int.reduceEq, Int.reduceToNat, Nat.reduceDiv, Nat.reduceMod, Nat.reduceBEq, Nat.reduceBNe, reduceCtorEq, tt_25, tt_23, tt_3, tt_4, tt_5, tt_26, tt_36, tt_38, tt_9, tt_74, tt_75, encC, cfg0, ib_and, ib_or, ib_xor, ib_andNot, w_ofInt, w_eqb, w_eqb0, w_inj, w_zero, w_wrap, BitVec.reduceOfInt, w_shr, zeros_T, List.length_map, Nat.mul_one, hlt, hq2, hA, hm1, hv0, hone, hzero]
        refine ⟨(i + 1, A.set i 49), ⟨by simp only; omega, by simp only [List.length_set]; exact hA, by simp only [h1, hnext, List.append_assoc, List.cons_append, List.nil_append]; exact hL⟩, by (try simp only); omega, ?_⟩
        exact Gn.canon (J := []) (by simp only [← hp]; rfl) (by simp [wk]) (by simp) (by simp [bel_int, bel_bool, bel_str, bel_nilp, bel_nili, bel_nilf, bel_nilm, bel_dead, bel_agg, bel_tup, bel_sl, bel_fp, bel_buf, bel_ptr, bel_mp, bel_ifc, bel_fn, bel_opt, belAll_nil, belAll_cons, belO_cells, belO_dead, belO_unborn, belObs_nil, belObs_cons, belObs_append, belAll_tab, belObs_tab, belObs_tabN, belC, bel_Cs, bel_slC, bel_bytes, bel_encSE, encU]) (by simp only [bel_int, bel_bool, bel_str, bel_nilp, bel_nili, bel_nilf, bel_nilm, bel_dead, bel_agg, bel_tup, bel_sl, bel_fp, bel_buf, bel_ptr, bel_mp, bel_ifc, bel_fn, bel_opt, belAll_nil, belAll_cons, belO_cells, belO_dead, belO_unborn, belObs_nil, belObs_cons, belObs_append, belAll_tab, belObs_tab, belObs_tabN, belC, bel_Cs, bel_slC, bel_bytes, bel_encSE, encU]; simp)
  · obtain rfl : i = k := by omega
    rw [Nat.sub_self, fmtL, List.append_nil] at hL
    simp (config := { maxSteps := 2000000 }) -implicitDefEqProofs +contextual (disch := first | assumption | omega | decide +kernel) only [push_cast, ↓capI, br2_true, br2_false, frk_tt, frk_tf, frk_f, frkD_tt, frkD_tf, frkD_f, pk2_true, pk2_false, imp_true, Nat.reduceAdd, Nat.reduceSub, Nat.reduceMul, Nat.reduceLeDiff, Nat.reduceLT, reduceCtorEq, ↓reduceIte, Nat.reduceEqDiff, Nat.reduceSub, Nat.reduceMul, Int.reduceNeg, Int.reduceLT, Int.reduceLE, Int.reduceAdd, Int.reduceSub, Int.reduceMul, Int.reduceEq, Int.reduceToNat, Nat.reduceDiv, Nat.reduceMod, Nat.reduceBEq, Nat.reduceBNe, reduceCtorEq, tt_25, tt_23, tt_3, tt_4, tt_5, tt_26, tt_36, tt_38, tt_9, tt_74, tt_75, encC, cfg0, ib_and, ib_or, ib_xor, ib_andNot, w_ofInt, w_eqb, w_eqb0, w_inj, w_zero, w_wrap, BitVec.reduceOfInt, w_shr, zeros_T, List.length_map, Nat.mul_one, hlt, hA, Nat.sub_zero, ← List.map_take, hL, u8s_map, toBytes_map]
    refine endK.ret ?_ (by first | rfl | simp [bel_int, bel_bool, bel_str, bel_nilp, bel_nili, bel_nilf, bel_nilm, bel_dead, bel_agg, bel_tup, bel_sl, bel_fp, bel_buf, bel_ptr, bel_mp, bel_ifc, bel_fn, bel_opt, belAll_nil, belAll_cons, belO_cells, belO_dead, belO_unborn, belObs_nil, belObs_cons, belObs_append, belAll_tab, belObs_tab, belObs_tabN, belC, bel_Cs, bel_slC, bel_bytes, bel_encSE, encU]); simp [evRes, getT, retV, Try.f19,  encSE]
end Go.Proofs.Ytopnabckbpogeaa
