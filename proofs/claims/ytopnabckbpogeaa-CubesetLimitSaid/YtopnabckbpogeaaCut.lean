/-
  Chapter 8: lists of cubes cut to a width.
-/
import Derived.Test.YtopnabckbpogeaaInter
set_option maxRecDepth 100000
set_option maxHeartbeats 4000000
set_option linter.all false
namespace Go.Proofs.Ytopnabckbpogeaa
open Go.Vm

theorem pc72 (a : List Cu) (k : Nat) (ha : a.length ≤ 1000000) (h1 : 1 ≤ k) (h2 : k ≤ 64) : PC Try.prog 72 [slC a, .int .i64 k] (slC (a.map fun c => cutC c k)) := by
  have hlow := low_shr h2
  refine PC.walk tok mixed cfg0 Try.func72 rfl Try.call72 (by simp [bel_int, bel_bool, bel_str, bel_nilp, bel_nili, bel_nilf, bel_nilm, bel_dead, bel_agg, bel_tup, bel_sl, bel_fp, bel_buf, bel_ptr, bel_mp, bel_ifc, bel_fn, bel_opt, belAll_nil, belAll_cons, belO_cells, belO_dead, belO_unborn, belObs_nil, belObs_cons, belObs_append, belAll_tab, belObs_tab, belObs_tabN, belC, bel_Cs, bel_slC, belAll_append, bel_encLE]) (by first | rfl | simp [bel_int, bel_bool, bel_str, bel_nilp, bel_nili, bel_nilf, bel_nilm, bel_dead, bel_agg, bel_tup, bel_sl, bel_fp, bel_buf, bel_ptr, bel_mp, bel_ifc, bel_fn, bel_opt, belAll_nil, belAll_cons, belO_cells, belO_dead, belO_unborn, belObs_nil, belObs_cons, belObs_append, belAll_tab, belObs_tab, belObs_tabN, belC, bel_Cs, bel_slC, belAll_append, bel_encLE]) ?_; simp (config := { maxSteps := 2000000 }) -implicitDefEqProofs +contextual (disch := first | assumption | omega | decide +kernel) only [push_cast, ↓capI, br2_true, br2_false, frk_tt, frk_tf, frk_f, frkD_tt, frkD_tf, frkD_f, pk2_true, pk2_false, imp_true, Nat.reduceAdd, Nat.reduceSub, Nat.reduceMul, Nat.reduceLeDiff, Nat.reduceLT, reduceCtorEq, ↓reduceIte, Nat.reduceEqDiff, Nat.reduceSub, Nat.reduceMul, Int.reduceNeg, Int.reduceLT, Int.reduceLE, Int.reduceAdd, Int.reduceSub, Int.reduceMul, Int.reduceEq, Int.reduceToNat, Nat.reduceDiv, Nat.reduceMod, Nat.reduceBEq, Nat.reduceBNe, reduceCtorEq, tt_25, tt_23, tt_3, tt_4, tt_5, tt_26, tt_36, tt_38, tt_9, encC, cfg0, slC, get_flat_part lenC, get_flat_drop lenC, len_flat lenC, ib_and, ib_or, ib_xor, ib_andNot, w_ofInt, w_eqb, w_eqb0, w_inj, w_zero, w_wrap, BitVec.reduceOfInt, Try.ntmps72]
  refine T.lp tok mixed cfg0 (fun ((i, L) : Nat × List Cu) => dd 5 (sv (.int .u64 (low k).toNat) (sv (.buf 0 L.length 0 L.length 2) (dd 6 (kp 2 (sv (.int .i64 i) (dd 18 (nl)))))))) (fun H0 ((i, L) : Nat × List Cu) => [.cells L.length (L.flatMap encC)]) (fun ((i, L) : Nat × List Cu) => i ≤ a.length ∧ L = (a.take i).map (fun c => cutC c k)) (fun ((i, L) : Nat × List Cu) => a.length - i) ((0, [])) ?_ ?_ ?_
  · exact ⟨Nat.zero_le _, rfl⟩
  · refine (Gn.ownNil (t := 6) (sz := 2) rfl).trans ?_
    exact Gn.canon (J := []) rfl (by simp [wk, putT, kp, dd, sv, nl, hlow]) (by simp) (by simp [bel_int, bel_bool, bel_str, bel_nilp, bel_nili, bel_nilf, bel_nilm, bel_dead, bel_agg, bel_tup, bel_sl, bel_fp, bel_buf, bel_ptr, bel_mp, bel_ifc, bel_fn, bel_opt, belAll_nil, belAll_cons, belO_cells, belO_dead, belO_unborn, belObs_nil, belObs_cons, belObs_append, belAll_tab, belObs_tab, belObs_tabN, belC, bel_Cs, bel_slC, belAll_append, bel_encLE, kp, dd, sv, nl]) (by simp [bel_int, bel_bool, bel_str, bel_nilp, bel_nili, bel_nilf, bel_nilm, bel_dead, bel_agg, bel_tup, bel_sl, bel_fp, bel_buf, bel_ptr, bel_mp, bel_ifc, bel_fn, bel_opt, belAll_nil, belAll_cons, belO_cells, belO_dead, belO_unborn, belObs_nil, belObs_cons, belObs_append, belAll_tab, belObs_tab, belObs_tabN, belC, bel_Cs, bel_slC, belAll_append, bel_encLE])
  rintro ⟨i, L⟩ ⟨hi, hL⟩
  have hlen : L.length ≤ i := by rw [hL, List.length_map, List.length_take]; omega
  simp (config := { maxSteps := 2000000 }) -implicitDefEqProofs +contextual (disch := first | assumption | omega | decide +kernel) only [push_cast, ↓capI, br2_true, br2_false, frk_tt, frk_tf, frk_f, frkD_tt, frkD_tf, frkD_f, pk2_true, pk2_false, imp_true, Nat.reduceAdd, Nat.reduceSub, Nat.reduceMul, Nat.reduceLeDiff, Nat.reduceLT, reduceCtorEq, ↓reduceIte, Nat.reduceEqDiff, Nat.reduceSub, Nat.reduceMul, Int.reduceNeg, Int.reduceLT, Int.reduceLE, Int.reduceAdd, Int.reduceSub, Int.reduceMul, Int.reduceEq, Int.reduceToNat, Nat.reduceDiv, Nat.reduceMod, Nat.reduceBEq, Nat.reduceBNe, reduceCtorEq, tt_25, tt_23, tt_3, tt_4, tt_5, tt_26, tt_36, tt_38, tt_9, encC, cfg0, slC, get_flat_part lenC, get_flat_drop lenC, len_flat lenC, ib_and, ib_or, ib_xor, ib_andNot, w_ofInt, w_eqb, w_eqb0, w_inj, w_zero, w_wrap, BitVec.reduceOfInt]
  refine ⟨fun hlt => ?_, fun hge => ?_⟩
  · refine ⟨(i + 1, L ++ [cutC a[i] k]), ⟨by simp only; omega, by rw [List.take_succ_eq_append_getElem hlt, List.map_append, hL]; rfl⟩, by (try simp only); omega, ?_⟩; exact Gn.canon (by first | rfl | (simp [List.append_nil, cutC, encC]; rfl)) (by simp [wk, slC, cutC, encC]) (by simp [List.length_append]) (by simp [bel_int, bel_bool, bel_str, bel_nilp, bel_nili, bel_nilf, bel_nilm, bel_dead, bel_agg, bel_tup, bel_sl, bel_fp, bel_buf, bel_ptr, bel_mp, bel_ifc, bel_fn, bel_opt, belAll_nil, belAll_cons, belO_cells, belO_dead, belO_unborn, belObs_nil, belObs_cons, belObs_append, belAll_tab, belObs_tab, belObs_tabN, belC, bel_Cs, bel_slC, belAll_append, bel_encLE]) (by simp [bel_int, bel_bool, bel_str, bel_nilp, bel_nili, bel_nilf, bel_nilm, bel_dead, bel_agg, bel_tup, bel_sl, bel_fp, bel_buf, bel_ptr, bel_mp, bel_ifc, bel_fn, bel_opt, belAll_nil, belAll_cons, belO_cells, belO_dead, belO_unborn, belObs_nil, belObs_cons, belObs_append, belAll_tab, belObs_tab, belObs_tabN, belC, bel_Cs, bel_slC, belAll_append, bel_encLE])
  · have e : L = a.map fun c => cutC c k := by rw [hL, List.take_of_length_le (by omega)]
    have e2 : L.length = a.length := by rw [e, List.length_map]
    refine endK.gn (Gn.freeze (id := 0) rfl) ?_; refine endK.ret ?_ (by first | rfl | simp [bel_int, bel_bool, bel_str, bel_nilp, bel_nili, bel_nilf, bel_nilm, bel_dead, bel_agg, bel_tup, bel_sl, bel_fp, bel_buf, bel_ptr, bel_mp, bel_ifc, bel_fn, bel_opt, belAll_nil, belAll_cons, belO_cells, belO_dead, belO_unborn, belObs_nil, belObs_cons, belObs_append, belAll_tab, belObs_tab, belObs_tabN, belC, bel_Cs, bel_slC, belAll_append, bel_encLE]); simp [bel_int, bel_bool, bel_str, bel_nilp, bel_nili, bel_nilf, bel_nilm, bel_dead, bel_agg, bel_tup, bel_sl, bel_fp, bel_buf, bel_ptr, bel_mp, bel_ifc, bel_fn, bel_opt, belAll_nil, belAll_cons, belO_cells, belO_dead, belO_unborn, belObs_nil, belObs_cons, belObs_append, belAll_tab, belObs_tab, belObs_tabN, belC, bel_Cs, bel_slC, belAll_append, bel_encLE, fzs_ok, imp, lenOK_iff, List.take_of_length_le, evRes, getT, getO, setO, fzs, fz, fzH, Nat.beq, retV, Res.then, ldT, ldR, mkV, getV, tt_25, tt_23, tt_3, tt_4, tt_5, tt_26, tt_36, tt_38, tt_9, encC, cfg0, slC, get_flat_part lenC, get_flat_drop lenC, len_flat lenC, ib_and, ib_or, ib_xor, ib_andNot, w_ofInt, w_eqb, w_eqb0, w_inj, w_zero, w_wrap, BitVec.reduceOfInt, Try.f72,  slC, ← e, e2, take_flat lenC]
theorem bit_mul {k : Nat} (h1 : 1 ≤ k) (h2 : k ≤ 64) : IntKind.u64.wrap (IntKind.u64.wrap (((bit (k - 1)).toNat : Int) * 2) - 1) = ((low k).toNat : Int) := by
  have e1 := w_mul (x := bit (k - 1)) (y := 2#64)
  have e2 := w_sub (x := bit (k - 1) * 2#64) (y := 1#64)
  have e3 : bit (k - 1) * 2#64 - 1#64 = low k := by
    apply BitVec.eq_of_toNat_eq
    have hp : 2 ^ k = 2 * 2 ^ (k - 1) := by rw [← Nat.pow_succ']; congr 1; omega
    have h3 : 2 ^ k ≤ 2 ^ 64 := Nat.pow_le_pow_right (by omega) h2
    have h4 : 1 ≤ 2 ^ (k - 1) := Nat.one_le_two_pow
    rw [low_nat h2, BitVec.toNat_sub, BitVec.toNat_mul, bit, BitVec.toNat_shiftLeft, Nat.shiftLeft_eq]
    simp only [BitVec.toNat_ofNat]
    omega
  rw [e3] at e2
  rw [show (((bit (k - 1)).toNat : Int) * 2) = ((bit (k - 1)).toNat : Int) * ((2#64).toNat : Int) from rfl, e1]
  exact e2
theorem pc73 (k : Nat) (h1 : 1 ≤ k) (h2 : k ≤ 64) : PC Try.prog 73 [.int .i64 k] (.int .u64 (low k).toNat) := by
  obtain ⟨q, rfl⟩ : ∃ q, k = q + 1 := ⟨k - 1, by omega⟩
  have e1 : IntKind.u64.wrap (q : Int) = q := by
    have := w_wrap (x := BitVec.ofNat 64 q)
    rw [BitVec.toNat_ofNat, Nat.mod_eq_of_lt (by omega)] at this
    exact this
  have e2 : (((q + 1 : Nat) : Int) - 1) = q := by omega
  have e3 := bit_mul h1 h2
  rw [Nat.add_sub_cancel] at e3
  refine PC.walk tok mixed cfg0 Try.func73 rfl Try.call73 (by simp [bel_int, bel_bool, bel_str, bel_nilp, bel_nili, bel_nilf, bel_nilm, bel_dead, bel_agg, bel_tup, bel_sl, bel_fp, bel_buf, bel_ptr, bel_mp, bel_ifc, bel_fn, bel_opt, belAll_nil, belAll_cons, belO_cells, belO_dead, belO_unborn, belObs_nil, belObs_cons, belObs_append, belAll_tab, belObs_tab, belObs_tabN, belC, bel_Cs, bel_slC, belAll_append, bel_encLE]) (by first | rfl | simp [bel_int, bel_bool, bel_str, bel_nilp, bel_nili, bel_nilf, bel_nilm, bel_dead, bel_agg, bel_tup, bel_sl, bel_fp, bel_buf, bel_ptr, bel_mp, bel_ifc, bel_fn, bel_opt, belAll_nil, belAll_cons, belO_cells, belO_dead, belO_unborn, belObs_nil, belObs_cons, belObs_append, belAll_tab, belObs_tab, belObs_tabN, belC, bel_Cs, bel_slC, belAll_append, bel_encLE]) ?_; simp (config := { maxSteps := 2000000 }) -implicitDefEqProofs +contextual (disch := first | assumption | omega | decide +kernel) only [push_cast, ↓capI, br2_true, br2_false, frk_tt, frk_tf, frk_f, frkD_tt, frkD_tf, frkD_f, pk2_true, pk2_false, imp_true, Nat.reduceAdd, Nat.reduceSub, Nat.reduceMul, Nat.reduceLeDiff, Nat.reduceLT, reduceCtorEq, ↓reduceIte, Nat.reduceEqDiff, Nat.reduceSub, Nat.reduceMul, Int.reduceNeg, Int.reduceLT, Int.reduceLE, Int.reduceAdd, Int.reduceSub, Int.reduceMul, Int.reduceEq, Int.reduceToNat, Nat.reduceDiv, Nat.reduceMod, Nat.reduceBEq, Nat.reduceBNe, reduceCtorEq, tt_25, tt_23, tt_3, tt_4, tt_5, tt_26, tt_36, tt_38, tt_9, encC, cfg0, slC, get_flat_part lenC, get_flat_drop lenC, len_flat lenC, ib_and, ib_or, ib_xor, ib_andNot, w_ofInt, w_eqb, w_eqb0, w_inj, w_zero, w_wrap, BitVec.reduceOfInt, Try.ntmps73]
  refine endK.ret ?_ (by first | rfl | simp [bel_int, bel_bool, bel_str, bel_nilp, bel_nili, bel_nilf, bel_nilm, bel_dead, bel_agg, bel_tup, bel_sl, bel_fp, bel_buf, bel_ptr, bel_mp, bel_ifc, bel_fn, bel_opt, belAll_nil, belAll_cons, belO_cells, belO_dead, belO_unborn, belObs_nil, belObs_cons, belObs_append, belAll_tab, belObs_tab, belObs_tabN, belC, bel_Cs, bel_slC, belAll_append, bel_encLE]); simp [evRes, getT, retV, Try.f73,  e1, e2, e3, shl_bit]
end Go.Proofs.Ytopnabckbpogeaa
