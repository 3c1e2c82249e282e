/-
  Chapter 8: the law CubesetCounts as a contract.
-/
import Derived.Test.YtopnabckbpogeaaPlain5
import Derived.Test.YtopnabckbpogeaaL11
set_option maxRecDepth 100000
set_option maxHeartbeats 4000000
set_option linter.all false
namespace Go.Proofs.Ytopnabckbpogeaa
open Go.Vm Go.ChangeShapes Go.WideShapes Go.ChangeAt Go.RowKit

theorem width9 {x : Int} (hx : 0 ≤ x ∧ x ≤ 255) : ∃ k : Nat, IntKind.i64.wrap (1 + IntKind.i64.wrap (x.tmod 9)) = (k : Int) ∧ 1 ≤ k ∧ k ≤ 9 := by
  have e : x.tmod 9 = x % 9 := Int.tmod_eq_emod_of_nonneg hx.1
  refine ⟨(1 + x % 9).toNat, ?_, by omega, by omega⟩
  rw [e, i64_ok (n := x % 9) (by omega) (by omega), i64_ok (by omega) (by omega)]
  omega
theorem brw_an {a : List Cu} {ver : Nat} {os : List Ob} {ki : IntKind} {n : Int} : brws (.cells ver (a.flatMap encC) :: os) [.buf 0 ver 0 a.length 2, .int ki n] = [slC a, .int ki n] := by
  have hb : Nat.beq ver ver = true := Nat.beq_refl ver
  simp only [brws, brw, getO, hb, List.drop_zero]
  rw [take_C]
  rfl
theorem bit_nat1 {k : Nat} (h : k ≤ 9) : (bit k).toNat = 2 ^ k := by
  have := Nat.pow_lt_pow_right (a := 2) (by omega) (show k < 64 by omega)
  rw [bit, BitVec.toNat_shiftLeft, Nat.shiftLeft_eq]
  simp
  omega
theorem pc10 (a : List Cu) (x : Int) (hx : 0 ≤ x ∧ x ≤ 255) : PC Try.prog 10 [slC a, .int .u8 x] (.bool true) := by
  obtain ⟨k, hk, h1, h2⟩ := width9 hx
  refine PC.walk tok mixed cfg0 Try.func10 rfl Try.call10 (by simp [bel_int, bel_bool, bel_str, bel_nilp, bel_nili, bel_nilf, bel_nilm, bel_dead, bel_agg, bel_tup, bel_sl, bel_fp, bel_buf, bel_ptr, bel_mp, bel_ifc, bel_fn, bel_opt, belAll_nil, belAll_cons, belO_cells, belO_dead, belO_unborn, belObs_nil, belObs_cons, belObs_append, belAll_tab, belObs_tab, belObs_tabN, belC, bel_Cs, bel_slC, bel_encLE, belAll_append]) (by first | rfl | simp [bel_int, bel_bool, bel_str, bel_nilp, bel_nili, bel_nilf, bel_nilm, bel_dead, bel_agg, bel_tup, bel_sl, bel_fp, bel_buf, bel_ptr, bel_mp, bel_ifc, bel_fn, bel_opt, belAll_nil, belAll_cons, belO_cells, belO_dead, belO_unborn, belObs_nil, belObs_cons, belObs_append, belAll_tab, belObs_tab, belObs_tabN, belC, bel_Cs, bel_slC, bel_encLE, belAll_append]) ?_; simp (config := { maxSteps := 2000000 }) -implicitDefEqProofs +contextual (disch := first | assumption | omega | decide +kernel) only [push_cast, ↓capI, br2_true, br2_false, frk_tt, frk_tf, frk_f, frkD_tt, frkD_tf, frkD_f, pk2_true, pk2_false, imp_true, Nat.reduceAdd, Nat.reduceSub, Nat.reduceMul, Nat.reduceLeDiff, Nat.reduceLT, reduceCtorEq, ↓reduceIte, Nat.reduceEqDiff, Nat.reduceSub, Nat.reduceMul, Int.reduceNeg, Int.reduceLT, Int.reduceLE, Int.reduceAdd, Int.reduceSub, Int.reduceMul, Int.reduceEq, Int.reduceToNat, Nat.reduceDiv, Nat.reduceMod, Nat.reduceBEq, Nat.reduceBNe, reduceCtorEq, tt_25, tt_23, tt_3, tt_4, tt_5, tt_26, tt_35, tt_36, tt_38, tt_9, encC, List.cons_append, List.nil_append, cfg0, ib_and, ib_or, ib_xor, ib_andNot, w_ofInt, w_eqb, w_eqb0, w_inj, w_zero, w_wrap, BitVec.reduceOfInt, slC, encLE, encBE, encNE, encWB, shl_bit, get_flat_part lenC, get_flat_drop lenC, len_flat lenC, Try.ntmps10]
  refine ⟨fun _ => ?_, fun hs => ?_⟩
  · refine callO.pc pc36 ?_
    simp (config := { maxSteps := 2000000 }) -implicitDefEqProofs +contextual (disch := first | assumption | omega | decide +kernel) only [push_cast, ↓capI, br2_true, br2_false, frk_tt, frk_tf, frk_f, frkD_tt, frkD_tf, frkD_f, pk2_true, pk2_false, imp_true, Nat.reduceAdd, Nat.reduceSub, Nat.reduceMul, Nat.reduceLeDiff, Nat.reduceLT, reduceCtorEq, ↓reduceIte, Nat.reduceEqDiff, Nat.reduceSub, Nat.reduceMul, Int.reduceNeg, Int.reduceLT, Int.reduceLE, Int.reduceAdd, Int.reduceSub, Int.reduceMul, Int.reduceEq, Int.reduceToNat, Nat.reduceDiv, Nat.reduceMod, Nat.reduceBEq, Nat.reduceBNe, reduceCtorEq, tt_25, tt_23, tt_3, tt_4, tt_5, tt_26, tt_35, tt_36, tt_38, tt_9, encC, List.cons_append, List.nil_append, cfg0, ib_and, ib_or, ib_xor, ib_andNot, w_ofInt, w_eqb, w_eqb0, w_inj, w_zero, w_wrap, BitVec.reduceOfInt, slC, encLE, encBE, encNE, encWB, shl_bit, get_flat_part lenC, get_flat_drop lenC, len_flat lenC]
    refine endK.ret ?_ (by first | rfl | simp [bel_int, bel_bool, bel_str, bel_nilp, bel_nili, bel_nilf, bel_nilm, bel_dead, bel_agg, bel_tup, bel_sl, bel_fp, bel_buf, bel_ptr, bel_mp, bel_ifc, bel_fn, bel_opt, belAll_nil, belAll_cons, belO_cells, belO_dead, belO_unborn, belObs_nil, belObs_cons, belObs_append, belAll_tab, belObs_tab, belObs_tabN, belC, bel_Cs, bel_slC, bel_encLE, belAll_append]); simp [evRes, getT, retV, Try.f10]
  have hs1 : a.length ≤ 10 := by omega
  rw [hk]
  refine T.lp tok mixed cfg0 (fun ((i, L) : Nat × List Cu) => kp 1 (dd 4 (kp 1 (sv (.buf 0 L.length 0 L.length 2) (sv (.int .i64 i) (dd 90 (nl))))))) (fun H0 ((i, L) : Nat × List Cu) => [.cells L.length (L.flatMap encC)]) (fun ((i, L) : Nat × List Cu) => i ≤ a.length ∧ L = (a.take i).map (lowC k)) (fun ((i, L) : Nat × List Cu) => a.length - i) ((0, [])) ?_ ?_ ?_
  · exact ⟨Nat.zero_le _, rfl⟩
  · refine (Gn.ownNil (t := 6) (sz := 2) rfl).trans ?_
    exact Gn.canon (J := []) (by first | rfl | (simp [List.append_nil]; done) | (simp [List.append_nil]; rfl)) (by simp [wk, slC, putT, kp, dd, sv, nl]) (by simp [List.length_append]) (by simp [bel_int, bel_bool, bel_str, bel_nilp, bel_nili, bel_nilf, bel_nilm, bel_dead, bel_agg, bel_tup, bel_sl, bel_fp, bel_buf, bel_ptr, bel_mp, bel_ifc, bel_fn, bel_opt, belAll_nil, belAll_cons, belO_cells, belO_dead, belO_unborn, belObs_nil, belObs_cons, belObs_append, belAll_tab, belObs_tab, belObs_tabN, belC, bel_Cs, bel_slC, bel_encLE, belAll_append, kp, dd, sv, nl]) (by simp [bel_int, bel_bool, bel_str, bel_nilp, bel_nili, bel_nilf, bel_nilm, bel_dead, bel_agg, bel_tup, bel_sl, bel_fp, bel_buf, bel_ptr, bel_mp, bel_ifc, bel_fn, bel_opt, belAll_nil, belAll_cons, belO_cells, belO_dead, belO_unborn, belObs_nil, belObs_cons, belObs_append, belAll_tab, belObs_tab, belObs_tabN, belC, bel_Cs, bel_slC, bel_encLE, belAll_append])
  rintro ⟨i, L⟩ ⟨hi, hLe⟩
  have hLl : L.length ≤ 10 := by rw [hLe, List.length_map, List.length_take]; omega
  simp (config := { maxSteps := 2000000 }) -implicitDefEqProofs +contextual (disch := first | assumption | omega | decide +kernel) only [push_cast, ↓capI, br2_true, br2_false, frk_tt, frk_tf, frk_f, frkD_tt, frkD_tf, frkD_f, pk2_true, pk2_false, imp_true, Nat.reduceAdd, Nat.reduceSub, Nat.reduceMul, Nat.reduceLeDiff, Nat.reduceLT, reduceCtorEq, ↓reduceIte, Nat.reduceEqDiff, Nat.reduceSub, Nat.reduceMul, Int.reduceNeg, Int.reduceLT, Int.reduceLE, Int.reduceAdd, Int.reduceSub, Int.reduceMul, Int.reduceEq, Int.reduceToNat, Nat.reduceDiv, Nat.reduceMod, Nat.reduceBEq, Nat.reduceBNe, reduceCtorEq, tt_25, tt_23, tt_3, tt_4, tt_5, tt_26, tt_35, tt_36, tt_38, tt_9, encC, List.cons_append, List.nil_append, cfg0, ib_and, ib_or, ib_xor, ib_andNot, w_ofInt, w_eqb, w_eqb0, w_inj, w_zero, w_wrap, BitVec.reduceOfInt, slC, encLE, encBE, encNE, encWB, shl_bit, get_flat_part lenC, get_flat_drop lenC, len_flat lenC]
  refine ⟨fun hlt => ?_, fun hge => ?_⟩
  · refine callG.pc1 (pc40 a[i].v k h1 (by omega)) ?_
    simp (config := { maxSteps := 2000000 }) -implicitDefEqProofs +contextual (disch := first | assumption | omega | decide +kernel) only [push_cast, ↓capI, br2_true, br2_false, frk_tt, frk_tf, frk_f, frkD_tt, frkD_tf, frkD_f, pk2_true, pk2_false, imp_true, Nat.reduceAdd, Nat.reduceSub, Nat.reduceMul, Nat.reduceLeDiff, Nat.reduceLT, reduceCtorEq, ↓reduceIte, Nat.reduceEqDiff, Nat.reduceSub, Nat.reduceMul, Int.reduceNeg, Int.reduceLT, Int.reduceLE, Int.reduceAdd, Int.reduceSub, Int.reduceMul, Int.reduceEq, Int.reduceToNat, Nat.reduceDiv, Nat.reduceMod, Nat.reduceBEq, Nat.reduceBNe, reduceCtorEq, tt_25, tt_23, tt_3, tt_4, tt_5, tt_26, tt_35, tt_36, tt_38, tt_9, encC, List.cons_append, List.nil_append, cfg0, ib_and, ib_or, ib_xor, ib_andNot, w_ofInt, w_eqb, w_eqb0, w_inj, w_zero, w_wrap, BitVec.reduceOfInt, slC, encLE, encBE, encNE, encWB, shl_bit, get_flat_part lenC, get_flat_drop lenC, len_flat lenC]
    refine callG.pc1 (pc40 a[i].m k h1 (by omega)) ?_
    simp (config := { maxSteps := 2000000 }) -implicitDefEqProofs +contextual (disch := first | assumption | omega | decide +kernel) only [push_cast, ↓capI, br2_true, br2_false, frk_tt, frk_tf, frk_f, frkD_tt, frkD_tf, frkD_f, pk2_true, pk2_false, imp_true, Nat.reduceAdd, Nat.reduceSub, Nat.reduceMul, Nat.reduceLeDiff, Nat.reduceLT, reduceCtorEq, ↓reduceIte, Nat.reduceEqDiff, Nat.reduceSub, Nat.reduceMul, Int.reduceNeg, Int.reduceLT, Int.reduceLE, Int.reduceAdd, Int.reduceSub, Int.reduceMul, Int.reduceEq, Int.reduceToNat, Nat.reduceDiv, Nat.reduceMod, Nat.reduceBEq, Nat.reduceBNe, reduceCtorEq, tt_25, tt_23, tt_3, tt_4, tt_5, tt_26, tt_35, tt_36, tt_38, tt_9, encC, List.cons_append, List.nil_append, cfg0, ib_and, ib_or, ib_xor, ib_andNot, w_ofInt, w_eqb, w_eqb0, w_inj, w_zero, w_wrap, BitVec.reduceOfInt, slC, encLE, encBE, encNE, encWB, shl_bit, get_flat_part lenC, get_flat_drop lenC, len_flat lenC]
    refine ⟨(i + 1, L ++ [lowC k a[i]]), ⟨by simp only; omega, by rw [List.take_succ_eq_append_getElem hlt, List.map_append, hLe]; rfl⟩, by (try simp only); omega, ?_⟩; exact Gn.canon (by first | rfl | (simp [List.append_nil, encC, lowC]; rfl)) (by simp [wk, slC, encC, lowC]) (by simp [List.length_append]) (by simp [bel_int, bel_bool, bel_str, bel_nilp, bel_nili, bel_nilf, bel_nilm, bel_dead, bel_agg, bel_tup, bel_sl, bel_fp, bel_buf, bel_ptr, bel_mp, bel_ifc, bel_fn, bel_opt, belAll_nil, belAll_cons, belO_cells, belO_dead, belO_unborn, belObs_nil, belObs_cons, belObs_append, belAll_tab, belObs_tab, belObs_tabN, belC, bel_Cs, bel_slC, bel_encLE, belAll_append]) (by simp [bel_int, bel_bool, bel_str, bel_nilp, bel_nili, bel_nilf, bel_nilm, bel_dead, bel_agg, bel_tup, bel_sl, bel_fp, bel_buf, bel_ptr, bel_mp, bel_ifc, bel_fn, bel_opt, belAll_nil, belAll_cons, belO_cells, belO_dead, belO_unborn, belObs_nil, belObs_cons, belObs_append, belAll_tab, belObs_tab, belObs_tabN, belC, bel_Cs, bel_slC, bel_encLE, belAll_append])
  have hLa : L = a.map (lowC k) := by rw [hLe, List.take_of_length_le (by omega)]
  have hp : 2 ^ k ≤ 2 ^ 9 := Nat.pow_le_pow_right (by omega) h2
  rw [bit_nat1 h2]
  have hM : 2 ^ k ≤ 512 := hp
  have hM1 : 1 ≤ 2 ^ k := Nat.one_le_two_pow
  have hL10 : L.length ≤ 10 := hLl
  have hst := fun d => @stp_le (fun i => anyMem L (BitVec.ofNat 64 i)) (2 ^ k) d
  have hend : (stp (fun i => anyMem L (BitVec.ofNat 64 i)) (2 ^ k) (2 ^ k)).1 = N k (anyMem L) := stp_N
  have hfst : ∀ h : a ≠ [], (stp (fun i => anyMem L (BitVec.ofNat 64 i)) (2 ^ k) (2 ^ k)).2 = (min8 L).1.toNat := fun h => by rw [hLa]; exact min8_first (by omega) h
  have h0 : stp (fun i => anyMem L (BitVec.ofNat 64 i)) (2 ^ k) 0 = (0, 0) := rfl
  have hs : ∀ d, stp (fun i => anyMem L (BitVec.ofNat 64 i)) (2 ^ k) (d + 1) = if anyMem L (BitVec.ofNat 64 (2 ^ k - 1 - d)) = true then ((stp (fun i => anyMem L (BitVec.ofNat 64 i)) (2 ^ k) d).1 + 1, 2 ^ k - 1 - d) else stp (fun i => anyMem L (BitVec.ofNat 64 i)) (2 ^ k) d := fun d => rfl
  generalize stp (fun i => anyMem L (BitVec.ofNat 64 i)) (2 ^ k) = st at hst hend hfst h0 hs
  generalize hMe : 2 ^ k = M at hM hM1 hst hend hfst hs ⊢
  refine T.lp tok mixed cfg0 (fun ((d, j) : Nat × Nat) => kp 1 (dd 4 (kp 2 (dd 1 (sv (.int .u64 ((st d).1 : Nat)) (sv (.int .u64 ((st d).2 : Nat)) (sv (.int .u64 (j : Int)) (dd 87 (nl))))))))) (fun H0 ((d, j) : Nat × Nat) => H0) (fun ((d, j) : Nat × Nat) => d + j = M) (fun ((d, j) : Nat × Nat) => j) ((0, M)) ?_ ?_ ?_
  · exact Nat.zero_add _
  · exact Gn.canon (by first | rfl | (simp; rfl)) (by simp [wk, slC, putT, kp, dd, sv, nl, h0, ← hMe]) (by simp) (by simp [bel_int, bel_bool, bel_str, bel_nilp, bel_nili, bel_nilf, bel_nilm, bel_dead, bel_agg, bel_tup, bel_sl, bel_fp, bel_buf, bel_ptr, bel_mp, bel_ifc, bel_fn, bel_opt, belAll_nil, belAll_cons, belO_cells, belO_dead, belO_unborn, belObs_nil, belObs_cons, belObs_append, belAll_tab, belObs_tab, belObs_tabN, belC, bel_Cs, bel_slC, bel_encLE, belAll_append, kp, dd, sv, nl]) (by simp [bel_int, bel_bool, bel_str, bel_nilp, bel_nili, bel_nilf, bel_nilm, bel_dead, bel_agg, bel_tup, bel_sl, bel_fp, bel_buf, bel_ptr, bel_mp, bel_ifc, bel_fn, bel_opt, belAll_nil, belAll_cons, belO_cells, belO_dead, belO_unborn, belObs_nil, belObs_cons, belObs_append, belAll_tab, belObs_tab, belObs_tabN, belC, bel_Cs, bel_slC, bel_encLE, belAll_append])
  rintro ⟨d, j⟩ hd
  simp only at hd
  have hst0 := hst d
  simp (config := { maxSteps := 2000000 }) -implicitDefEqProofs +contextual (disch := first | assumption | omega | decide +kernel) only [push_cast, ↓capI, br2_true, br2_false, frk_tt, frk_tf, frk_f, frkD_tt, frkD_tf, frkD_f, pk2_true, pk2_false, imp_true, Nat.reduceAdd, Nat.reduceSub, Nat.reduceMul, Nat.reduceLeDiff, Nat.reduceLT, reduceCtorEq, ↓reduceIte, Nat.reduceEqDiff, Nat.reduceSub, Nat.reduceMul, Int.reduceNeg, Int.reduceLT, Int.reduceLE, Int.reduceAdd, Int.reduceSub, Int.reduceMul, Int.reduceEq, Int.reduceToNat, Nat.reduceDiv, Nat.reduceMod, Nat.reduceBEq, Nat.reduceBNe, reduceCtorEq, tt_25, tt_23, tt_3, tt_4, tt_5, tt_26, tt_35, tt_36, tt_38, tt_9, encC, List.cons_append, List.nil_append, cfg0, ib_and, ib_or, ib_xor, ib_andNot, w_ofInt, w_eqb, w_eqb0, w_inj, w_zero, w_wrap, BitVec.reduceOfInt, slC, encLE, encBE, encNE, encWB, shl_bit, get_flat_part lenC, get_flat_drop lenC, len_flat lenC]
  refine ⟨fun hlt => ?_, fun hge => ?_⟩
  · obtain ⟨q, rfl⟩ : ∃ q, j = q + 1 := ⟨j - 1, by omega⟩
    have e : ((q + 1 : Nat) : Int) - 1 = ((BitVec.ofNat 64 q).toNat : Int) := by
      rw [BitVec.toNat_ofNat, Nat.mod_eq_of_lt (by omega)]; omega
    have e2 : (BitVec.ofNat 64 q).toNat = q := by rw [BitVec.toNat_ofNat, Nat.mod_eq_of_lt (by omega)]
    have hsd := hs d
    rw [show M - 1 - d = q by omega] at hsd
    rw [e]
    refine callO.lent (J := []) (by rw [List.nil_append, List.append_nil, brw_an]; exact (pc41 L (BitVec.ofNat 64 q) (by omega)).toJ rfl) (by rw [List.nil_append, List.append_nil, brw_an]; simp [belAll_cons, belAll_nil, bel_slC, bel_int]) rfl rfl ?_
    cases hm : anyMem L (BitVec.ofNat 64 q)
    · rw [hm] at hsd
      simp (config := { maxSteps := 2000000 }) -implicitDefEqProofs +contextual (disch := first | assumption | omega | decide +kernel) only [push_cast, ↓capI, br2_true, br2_false, frk_tt, frk_tf, frk_f, frkD_tt, frkD_tf, frkD_f, pk2_true, pk2_false, imp_true, Nat.reduceAdd, Nat.reduceSub, Nat.reduceMul, Nat.reduceLeDiff, Nat.reduceLT, reduceCtorEq, ↓reduceIte, Nat.reduceEqDiff, Nat.reduceSub, Nat.reduceMul, Int.reduceNeg, Int.reduceLT, Int.reduceLE, Int.reduceAdd, Int.reduceSub, Int.reduceMul, Int.reduceEq, Int.reduceToNat, Nat.reduceDiv, Nat.reduceMod, Nat.reduceBEq, Nat.reduceBNe, reduceCtorEq, tt_25, tt_23, tt_3, tt_4, tt_5, tt_26, tt_35, tt_36, tt_38, tt_9, encC, List.cons_append, List.nil_append, cfg0, ib_and, ib_or, ib_xor, ib_andNot, w_ofInt, w_eqb, w_eqb0, w_inj, w_zero, w_wrap, BitVec.reduceOfInt, slC, encLE, encBE, encNE, encWB, shl_bit, get_flat_part lenC, get_flat_drop lenC, len_flat lenC, V.sh, shs, shOs]
      refine ⟨(d + 1, q), by simp only; omega, by (try simp only); omega, ?_⟩; exact Gn.canon (by first | rfl | (simp [List.append_nil, hsd]; rfl)) (by simp [wk, slC, hsd]) (by simp [List.length_append]) (by simp [bel_int, bel_bool, bel_str, bel_nilp, bel_nili, bel_nilf, bel_nilm, bel_dead, bel_agg, bel_tup, bel_sl, bel_fp, bel_buf, bel_ptr, bel_mp, bel_ifc, bel_fn, bel_opt, belAll_nil, belAll_cons, belO_cells, belO_dead, belO_unborn, belObs_nil, belObs_cons, belObs_append, belAll_tab, belObs_tab, belObs_tabN, belC, bel_Cs, bel_slC, bel_encLE, belAll_append]) (by simp [bel_int, bel_bool, bel_str, bel_nilp, bel_nili, bel_nilf, bel_nilm, bel_dead, bel_agg, bel_tup, bel_sl, bel_fp, bel_buf, bel_ptr, bel_mp, bel_ifc, bel_fn, bel_opt, belAll_nil, belAll_cons, belO_cells, belO_dead, belO_unborn, belObs_nil, belObs_cons, belObs_append, belAll_tab, belObs_tab, belObs_tabN, belC, bel_Cs, bel_slC, bel_encLE, belAll_append])
    · rw [hm] at hsd
      simp (config := { maxSteps := 2000000 }) -implicitDefEqProofs +contextual (disch := first | assumption | omega | decide +kernel) only [push_cast, ↓capI, br2_true, br2_false, frk_tt, frk_tf, frk_f, frkD_tt, frkD_tf, frkD_f, pk2_true, pk2_false, imp_true, Nat.reduceAdd, Nat.reduceSub, Nat.reduceMul, Nat.reduceLeDiff, Nat.reduceLT, reduceCtorEq, ↓reduceIte, Nat.reduceEqDiff, Nat.reduceSub, Nat.reduceMul, Int.reduceNeg, Int.reduceLT, Int.reduceLE, Int.reduceAdd, Int.reduceSub, Int.reduceMul, Int.reduceEq, Int.reduceToNat, Nat.reduceDiv, Nat.reduceMod, Nat.reduceBEq, Nat.reduceBNe, reduceCtorEq, tt_25, tt_23, tt_3, tt_4, tt_5, tt_26, tt_35, tt_36, tt_38, tt_9, encC, List.cons_append, List.nil_append, cfg0, ib_and, ib_or, ib_xor, ib_andNot, w_ofInt, w_eqb, w_eqb0, w_inj, w_zero, w_wrap, BitVec.reduceOfInt, slC, encLE, encBE, encNE, encWB, shl_bit, get_flat_part lenC, get_flat_drop lenC, len_flat lenC, V.sh, shs, shOs]
      refine ⟨(d + 1, q), by simp only; omega, by (try simp only); omega, ?_⟩; exact Gn.canon (by first | rfl | (simp [List.append_nil, hsd]; rfl)) (by simp [wk, slC, hsd]) (by simp [List.length_append]) (by simp [bel_int, bel_bool, bel_str, bel_nilp, bel_nili, bel_nilf, bel_nilm, bel_dead, bel_agg, bel_tup, bel_sl, bel_fp, bel_buf, bel_ptr, bel_mp, bel_ifc, bel_fn, bel_opt, belAll_nil, belAll_cons, belO_cells, belO_dead, belO_unborn, belObs_nil, belObs_cons, belObs_append, belAll_tab, belObs_tab, belObs_tabN, belC, bel_Cs, bel_slC, bel_encLE, belAll_append]) (by simp [bel_int, bel_bool, bel_str, bel_nilp, bel_nili, bel_nilf, bel_nilm, bel_dead, bel_agg, bel_tup, bel_sl, bel_fp, bel_buf, bel_ptr, bel_mp, bel_ifc, bel_fn, bel_opt, belAll_nil, belAll_cons, belO_cells, belO_dead, belO_unborn, belObs_nil, belObs_cons, belObs_append, belAll_tab, belObs_tab, belObs_tabN, belC, bel_Cs, bel_slC, bel_encLE, belAll_append])
  obtain rfl : j = 0 := by omega
  obtain rfl : d = M := by omega
  refine callO.pc (pc42 a k (by omega)) ?_
  have hc0 := count8_ok (s := a) h1 h2
  have hc1 := count8_spec (s := a) h1 (by omega : k ≤ 62) (pair_eq hc0)
  rw [pair_eq hc0]
  have hC : (count8 a k).1.toNat = (st d).1 := by
    rw [hc1, hend, hLa, N_congr (fun n => any_lowC (k := k) (a := a) (n := n)), BitVec.toNat_ofNat, Nat.mod_eq_of_lt]
    rw [hLa, N_congr (fun n => any_lowC (k := k) (a := a) (n := n))] at hend
    omega
  generalize (count8 a k).1 = C at hC ⊢
  generalize st d = r at hC hfst hst0 ⊢
  obtain ⟨u, v⟩ := r
  simp only at hC hfst hst0
  subst hC
  simp (config := { maxSteps := 2000000 }) -implicitDefEqProofs +contextual (disch := first | assumption | omega | decide +kernel) only [push_cast, ↓capI, br2_true, br2_false, frk_tt, frk_tf, frk_f, frkD_tt, frkD_tf, frkD_f, pk2_true, pk2_false, imp_true, Nat.reduceAdd, Nat.reduceSub, Nat.reduceMul, Nat.reduceLeDiff, Nat.reduceLT, reduceCtorEq, ↓reduceIte, Nat.reduceEqDiff, Nat.reduceSub, Nat.reduceMul, Int.reduceNeg, Int.reduceLT, Int.reduceLE, Int.reduceAdd, Int.reduceSub, Int.reduceMul, Int.reduceEq, Int.reduceToNat, Nat.reduceDiv, Nat.reduceMod, Nat.reduceBEq, Nat.reduceBNe, reduceCtorEq, tt_25, tt_23, tt_3, tt_4, tt_5, tt_26, tt_35, tt_36, tt_38, tt_9, encC, List.cons_append, List.nil_append, cfg0, ib_and, ib_or, ib_xor, ib_andNot, w_ofInt, w_eqb, w_eqb0, w_inj, w_zero, w_wrap, BitVec.reduceOfInt, slC, encLE, encBE, encNE, encWB, shl_bit, get_flat_part lenC, get_flat_drop lenC, len_flat lenC]
  refine callO.lent (J := []) (by rw [List.nil_append, List.append_nil, brw_a]; exact (pc43 L (by omega)).toJ rfl) (by rw [List.nil_append, List.append_nil, brw_a]; simp [belAll_cons, belAll_nil, bel_slC]) rfl rfl ?_
  by_cases ha : a = []
  · subst ha
    have hL0 : L = [] := by rw [hLa]; rfl
    subst hL0
    rw [show min8 [] = (0#64, false) from rfl]
    simp (config := { maxSteps := 2000000 }) -implicitDefEqProofs +contextual (disch := first | assumption | omega | decide +kernel) only [push_cast, ↓capI, br2_true, br2_false, frk_tt, frk_tf, frk_f, frkD_tt, frkD_tf, frkD_f, pk2_true, pk2_false, imp_true, Nat.reduceAdd, Nat.reduceSub, Nat.reduceMul, Nat.reduceLeDiff, Nat.reduceLT, reduceCtorEq, ↓reduceIte, Nat.reduceEqDiff, Nat.reduceSub, Nat.reduceMul, Int.reduceNeg, Int.reduceLT, Int.reduceLE, Int.reduceAdd, Int.reduceSub, Int.reduceMul, Int.reduceEq, Int.reduceToNat, Nat.reduceDiv, Nat.reduceMod, Nat.reduceBEq, Nat.reduceBNe, reduceCtorEq, tt_25, tt_23, tt_3, tt_4, tt_5, tt_26, tt_35, tt_36, tt_38, tt_9, encC, List.cons_append, List.nil_append, cfg0, ib_and, ib_or, ib_xor, ib_andNot, w_ofInt, w_eqb, w_eqb0, w_inj, w_zero, w_wrap, BitVec.reduceOfInt, slC, encLE, encBE, encNE, encWB, shl_bit, get_flat_part lenC, get_flat_drop lenC, len_flat lenC, V.sh, shs, shOs]
    refine callO.pc pc36 ?_
    simp (config := { maxSteps := 2000000 }) -implicitDefEqProofs +contextual (disch := first | assumption | omega | decide +kernel) only [push_cast, ↓capI, br2_true, br2_false, frk_tt, frk_tf, frk_f, frkD_tt, frkD_tf, frkD_f, pk2_true, pk2_false, imp_true, Nat.reduceAdd, Nat.reduceSub, Nat.reduceMul, Nat.reduceLeDiff, Nat.reduceLT, reduceCtorEq, ↓reduceIte, Nat.reduceEqDiff, Nat.reduceSub, Nat.reduceMul, Int.reduceNeg, Int.reduceLT, Int.reduceLE, Int.reduceAdd, Int.reduceSub, Int.reduceMul, Int.reduceEq, Int.reduceToNat, Nat.reduceDiv, Nat.reduceMod, Nat.reduceBEq, Nat.reduceBNe, reduceCtorEq, tt_25, tt_23, tt_3, tt_4, tt_5, tt_26, tt_35, tt_36, tt_38, tt_9, encC, List.cons_append, List.nil_append, cfg0, ib_and, ib_or, ib_xor, ib_andNot, w_ofInt, w_eqb, w_eqb0, w_inj, w_zero, w_wrap, BitVec.reduceOfInt, slC, encLE, encBE, encNE, encWB, shl_bit, get_flat_part lenC, get_flat_drop lenC, len_flat lenC]
    refine endK.ret ?_ (by first | rfl | simp [bel_int, bel_bool, bel_str, bel_nilp, bel_nili, bel_nilf, bel_nilm, bel_dead, bel_agg, bel_tup, bel_sl, bel_fp, bel_buf, bel_ptr, bel_mp, bel_ifc, bel_fn, bel_opt, belAll_nil, belAll_cons, belO_cells, belO_dead, belO_unborn, belObs_nil, belObs_cons, belObs_append, belAll_tab, belObs_tab, belObs_tabN, belC, bel_Cs, bel_slC, bel_encLE, belAll_append]); simp [evRes, getT, retV, Try.f10]
  · have hL1 : L ≠ [] := by rw [hLa]; simpa using ha
    have hL2 : 0 < L.length := List.length_pos_iff.2 hL1
    have hv := hfst ha
    have hm := (min8_spec hL1).1
    rw [pair_eq hm]
    generalize (min8 L).1 = z at hv ⊢
    subst hv
    simp (config := { maxSteps := 2000000 }) -implicitDefEqProofs +contextual (disch := first | assumption | omega | decide +kernel) only [push_cast, ↓capI, br2_true, br2_false, frk_tt, frk_tf, frk_f, frkD_tt, frkD_tf, frkD_f, pk2_true, pk2_false, imp_true, Nat.reduceAdd, Nat.reduceSub, Nat.reduceMul, Nat.reduceLeDiff, Nat.reduceLT, reduceCtorEq, ↓reduceIte, Nat.reduceEqDiff, Nat.reduceSub, Nat.reduceMul, Int.reduceNeg, Int.reduceLT, Int.reduceLE, Int.reduceAdd, Int.reduceSub, Int.reduceMul, Int.reduceEq, Int.reduceToNat, Nat.reduceDiv, Nat.reduceMod, Nat.reduceBEq, Nat.reduceBNe, reduceCtorEq, tt_25, tt_23, tt_3, tt_4, tt_5, tt_26, tt_35, tt_36, tt_38, tt_9, encC, List.cons_append, List.nil_append, cfg0, ib_and, ib_or, ib_xor, ib_andNot, w_ofInt, w_eqb, w_eqb0, w_inj, w_zero, w_wrap, BitVec.reduceOfInt, slC, encLE, encBE, encNE, encWB, shl_bit, get_flat_part lenC, get_flat_drop lenC, len_flat lenC, V.sh, shs, shOs]
    refine callO.pc pc36 ?_
    simp (config := { maxSteps := 2000000 }) -implicitDefEqProofs +contextual (disch := first | assumption | omega | decide +kernel) only [push_cast, ↓capI, br2_true, br2_false, frk_tt, frk_tf, frk_f, frkD_tt, frkD_tf, frkD_f, pk2_true, pk2_false, imp_true, Nat.reduceAdd, Nat.reduceSub, Nat.reduceMul, Nat.reduceLeDiff, Nat.reduceLT, reduceCtorEq, ↓reduceIte, Nat.reduceEqDiff, Nat.reduceSub, Nat.reduceMul, Int.reduceNeg, Int.reduceLT, Int.reduceLE, Int.reduceAdd, Int.reduceSub, Int.reduceMul, Int.reduceEq, Int.reduceToNat, Nat.reduceDiv, Nat.reduceMod, Nat.reduceBEq, Nat.reduceBNe, reduceCtorEq, tt_25, tt_23, tt_3, tt_4, tt_5, tt_26, tt_35, tt_36, tt_38, tt_9, encC, List.cons_append, List.nil_append, cfg0, ib_and, ib_or, ib_xor, ib_andNot, w_ofInt, w_eqb, w_eqb0, w_inj, w_zero, w_wrap, BitVec.reduceOfInt, slC, encLE, encBE, encNE, encWB, shl_bit, get_flat_part lenC, get_flat_drop lenC, len_flat lenC]
    refine endK.ret ?_ (by first | rfl | simp [bel_int, bel_bool, bel_str, bel_nilp, bel_nili, bel_nilf, bel_nilm, bel_dead, bel_agg, bel_tup, bel_sl, bel_fp, bel_buf, bel_ptr, bel_mp, bel_ifc, bel_fn, bel_opt, belAll_nil, belAll_cons, belO_cells, belO_dead, belO_unborn, belObs_nil, belObs_cons, belObs_append, belAll_tab, belObs_tab, belObs_tabN, belC, bel_Cs, bel_slC, bel_encLE, belAll_append]); simp [evRes, getT, retV, Try.f10]
theorem law10 (xs : List V) (h : TypA tt 8 [36, 5] xs) : PC Try.prog 10 xs (.bool true) := by
  obtain ⟨v, vs, cs, rfl, rfl, h1, h⟩ := typA_cons h
  obtain ⟨v, vs, es, rfl, rfl, h3, h⟩ := typA_cons h
  obtain rfl := typA_nil h
  obtain ⟨a, ha⟩ := typ_Cs h1
  obtain ⟨x, rfl, hx1, hx2⟩ := typ_int (by rw [tt_5]) h3
  refine PC.lax ?_
  rw [laxs, laxs, laxs, ha, show lax (mkV (tt 5) [.int .u8 x]) = .int .u8 x by rw [tt_5]; rfl]
  exact pc10 a x ⟨hx1, hx2⟩
end Go.Proofs.Ytopnabckbpogeaa
