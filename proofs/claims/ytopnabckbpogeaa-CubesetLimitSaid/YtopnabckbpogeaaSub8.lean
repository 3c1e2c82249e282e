/-
  Chapter 8: differences of lists of cubes.
-/
import Derived.Test.YtopnabckbpogeaaCut
import Derived.Test.YtopnabckbpogeaaSub2
set_option maxRecDepth 100000
set_option maxHeartbeats 4000000
set_option linter.all false
namespace Go.Proofs.Ytopnabckbpogeaa
open Go.Vm

def outs (l : List Cu) (y : Cu) (k : Nat) : List Cu := l.flatMap fun x => subL x y k
def subt8Go (k : Nat) : List Cu → List Cu → List Cu × Int
  | [], l => (l, 0)
  | y :: ys, l => if 1024 < (simp8 (outs l y k)).length then ([], 12) else subt8Go k ys (simp8 (outs l y k))
def subt8 (a b : List Cu) (w : Int) : List Cu × Int :=
  if okW w = true then (if 1024 < (simp8 (a.map fun c => cutC c w.toNat)).length then ([], 12) else subt8Go w.toNat b (simp8 (a.map fun c => cutC c w.toNat))) else ([], 10)
theorem outs_take {l : List Cu} {y : Cu} {k j : Nat} (h : j < l.length) : outs (l.take (j + 1)) y k = outs (l.take j) y k ++ subL l[j] y k := by
  rw [List.take_succ_eq_append_getElem h, outs, List.flatMap_append, ← outs]
  simp
theorem outs_len {y : Cu} {k : Nat} : ∀ {l : List Cu}, (outs l y k).length ≤ l.length * 64
  | [] => Nat.le_refl _
  | x :: l => by
    have := outs_len (y := y) (k := k) (l := l)
    have h := subL_len (a := x) (b := y) (w := k)
    rw [outs, List.flatMap_cons, List.length_append, ← outs, List.length_cons]
    omega
theorem putV_all : ∀ (l cs : List V), l.length = cs.length → putV l 0 cs = cs
  | [], [], _ => rfl
  | x :: l, c :: cs, h => by simp only [putV, putV_all l cs (by simpa using h)]
  | [], c :: cs, h => by simp at h
  | x :: l, [], h => by simp at h
theorem put_zC {D : List Cu} (h : D.length ≤ 64) : putV (zerosC.flatMap encC) 0 (D.flatMap encC) = D.flatMap encC ++ (zerosC.drop D.length).flatMap encC := by
  have e : zerosC.flatMap encC = (zerosC.take D.length).flatMap encC ++ (zerosC.drop D.length).flatMap encC := by rw [← List.flatMap_append, List.take_append_drop]
  have hl : ((zerosC.take D.length).flatMap encC).length = (D.flatMap encC).length := by rw [len_flat lenC, len_flat lenC, List.length_take, zerosC_len]; congr 1; omega
  rw [e, putV_left _ _ _ _ (by omega)]
  congr 1
  exact putV_all _ _ hl
theorem len_zC {D : List Cu} (h : D.length ≤ 64) : (D.flatMap encC ++ (zerosC.drop D.length).flatMap encC).length = 128 := by
  rw [List.length_append, len_flat lenC, len_flat lenC, List.length_drop, zerosC_len]; omega
theorem take_zC {D : List Cu} : (D.flatMap encC ++ (zerosC.drop D.length).flatMap encC).take (D.length * 2) = D.flatMap encC := by
  rw [List.take_append_of_le_length (by rw [len_flat lenC]; exact Nat.le_refl _), take_C]
theorem brw_1 {o : Ob} {a : List Cu} {ver : Nat} {os : List Ob} : brws (o :: .cells ver (a.flatMap encC) :: os) [.buf 1 ver 0 a.length 2] = [slC a] := by
  have hb : Nat.beq ver ver = true := Nat.beq_refl ver
  simp only [brws, brw, getO, hb, List.drop_zero]
  rw [take_C]
  rfl
theorem pcX49 (a b : List Cu) (k : Nat) (h1 : 1 ≤ k) (h2 : k ≤ 64) (ha : a.length ≤ 1000000) (hb : b.length ≤ 1000000) (v : V) (hv : (subt8 a b k).2 = 0 → v = encLE (subt8 a b k)) (hv2 : subt8 a b k = ([], 12) → v = .tup [.sl true [] 0, .int .i64 12]) (hbel : ∀ n, v.bel n = true) :
    PC Try.prog 49 [slC a, slC b, .int .i64 k] v := by
  have hw : okW (k : Int) = true := by simp only [okW, Bool.and_eq_true, decide_eq_true_eq]; omega
  have e0 : subt8 a b k = if 1024 < (simp8 (a.map fun c => cutC c k)).length then ([], 12) else subt8Go k b (simp8 (a.map fun c => cutC c k)) := by simp [subt8, hw]
  have hn1 : ¬ (k : Int) < 1 := by omega
  have hn2 : ¬ 64 < (k : Int) := by omega
  have hml : (a.map fun c => cutC c k).length ≤ 4000000000 := by rw [List.length_map]; omega
  by_cases h0 : 1024 < (simp8 (a.map fun c => cutC c k)).length
  · rw [if_pos h0] at e0
    rw [hv2 e0]
    refine PC.walk tok mixed cfg0 Try.func49 rfl Try.call49 (by simp [bel_int, bel_bool, bel_str, bel_nilp, bel_nili, bel_nilf, bel_nilm, bel_dead, bel_agg, bel_tup, bel_sl, bel_fp, bel_buf, bel_ptr, bel_mp, bel_ifc, bel_fn, bel_opt, belAll_nil, belAll_cons, belO_cells, belO_dead, belO_unborn, belObs_nil, belObs_cons, belObs_append, belAll_tab, belObs_tab, belObs_tabN, belC, bel_Cs, bel_slC, belAll_append, bel_encLE, hbel]) (by first | rfl | simp [bel_int, bel_bool, bel_str, bel_nilp, bel_nili, bel_nilf, bel_nilm, bel_dead, bel_agg, bel_tup, bel_sl, bel_fp, bel_buf, bel_ptr, bel_mp, bel_ifc, bel_fn, bel_opt, belAll_nil, belAll_cons, belO_cells, belO_dead, belO_unborn, belObs_nil, belObs_cons, belObs_append, belAll_tab, belObs_tab, belObs_tabN, belC, bel_Cs, bel_slC, belAll_append, bel_encLE, hbel]) ?_; simp (config := { maxSteps := 2000000 }) -implicitDefEqProofs +contextual (disch := first | assumption | omega | decide +kernel) only [push_cast, ↓capI, br2_true, br2_false, frk_tt, frk_tf, frk_f, frkD_tt, frkD_tf, frkD_f, pk2_true, pk2_false, imp_true, Nat.reduceAdd, Nat.reduceSub, Nat.reduceMul, Nat.reduceLeDiff, Nat.reduceLT, reduceCtorEq, ↓reduceIte, Nat.reduceEqDiff, Nat.reduceSub, Nat.reduceMul, Int.reduceNeg, Int.reduceLT, Int.reduceLE, Int.reduceAdd, Int.reduceSub, Int.reduceMul, Int.reduceEq, Int.reduceToNat, Nat.reduceDiv, Nat.reduceMod, Nat.reduceBEq, Nat.reduceBNe, reduceCtorEq, tt_25, tt_23, tt_3, tt_4, tt_5, tt_26, tt_36, tt_38, tt_9, tt_79, encC, cfg0, slC, get_flat_part lenC, get_flat_drop lenC, len_flat lenC, ib_and, ib_or, ib_xor, ib_andNot, w_ofInt, w_eqb, w_eqb0, w_inj, w_zero, w_wrap, BitVec.reduceOfInt, encLE, zeros_C, Try.ntmps49]
    refine callO.pc (pc72 a k ha h1 h2) ?_
    generalize (a.map fun c => cutC c k) = l0 at e0 hml h0 ⊢
    simp (config := { maxSteps := 2000000 }) -implicitDefEqProofs +contextual (disch := first | assumption | omega | decide +kernel) only [push_cast, ↓capI, br2_true, br2_false, frk_tt, frk_tf, frk_f, frkD_tt, frkD_tf, frkD_f, pk2_true, pk2_false, imp_true, Nat.reduceAdd, Nat.reduceSub, Nat.reduceMul, Nat.reduceLeDiff, Nat.reduceLT, reduceCtorEq, ↓reduceIte, Nat.reduceEqDiff, Nat.reduceSub, Nat.reduceMul, Int.reduceNeg, Int.reduceLT, Int.reduceLE, Int.reduceAdd, Int.reduceSub, Int.reduceMul, Int.reduceEq, Int.reduceToNat, Nat.reduceDiv, Nat.reduceMod, Nat.reduceBEq, Nat.reduceBNe, reduceCtorEq, tt_25, tt_23, tt_3, tt_4, tt_5, tt_26, tt_36, tt_38, tt_9, tt_79, encC, cfg0, slC, get_flat_part lenC, get_flat_drop lenC, len_flat lenC, ib_and, ib_or, ib_xor, ib_andNot, w_ofInt, w_eqb, w_eqb0, w_inj, w_zero, w_wrap, BitVec.reduceOfInt, encLE, zeros_C]
    refine callO.pc (pc69 l0 hml) ?_
    rw [fin8, if_pos h0]
    simp (config := { maxSteps := 2000000 }) -implicitDefEqProofs +contextual (disch := first | assumption | omega | decide +kernel) only [push_cast, ↓capI, br2_true, br2_false, frk_tt, frk_tf, frk_f, frkD_tt, frkD_tf, frkD_f, pk2_true, pk2_false, imp_true, Nat.reduceAdd, Nat.reduceSub, Nat.reduceMul, Nat.reduceLeDiff, Nat.reduceLT, reduceCtorEq, ↓reduceIte, Nat.reduceEqDiff, Nat.reduceSub, Nat.reduceMul, Int.reduceNeg, Int.reduceLT, Int.reduceLE, Int.reduceAdd, Int.reduceSub, Int.reduceMul, Int.reduceEq, Int.reduceToNat, Nat.reduceDiv, Nat.reduceMod, Nat.reduceBEq, Nat.reduceBNe, reduceCtorEq, tt_25, tt_23, tt_3, tt_4, tt_5, tt_26, tt_36, tt_38, tt_9, tt_79, encC, cfg0, slC, get_flat_part lenC, get_flat_drop lenC, len_flat lenC, ib_and, ib_or, ib_xor, ib_andNot, w_ofInt, w_eqb, w_eqb0, w_inj, w_zero, w_wrap, BitVec.reduceOfInt, encLE, zeros_C]
    refine endK.ret ?_ (by first | rfl | simp [bel_int, bel_bool, bel_str, bel_nilp, bel_nili, bel_nilf, bel_nilm, bel_dead, bel_agg, bel_tup, bel_sl, bel_fp, bel_buf, bel_ptr, bel_mp, bel_ifc, bel_fn, bel_opt, belAll_nil, belAll_cons, belO_cells, belO_dead, belO_unborn, belObs_nil, belObs_cons, belObs_append, belAll_tab, belObs_tab, belObs_tabN, belC, bel_Cs, bel_slC, belAll_append, bel_encLE, hbel]); simp [evRes, getT, retV, Try.f49]
  refine PC.walk tok mixed cfg0 Try.func49 rfl Try.call49 (by simp [bel_int, bel_bool, bel_str, bel_nilp, bel_nili, bel_nilf, bel_nilm, bel_dead, bel_agg, bel_tup, bel_sl, bel_fp, bel_buf, bel_ptr, bel_mp, bel_ifc, bel_fn, bel_opt, belAll_nil, belAll_cons, belO_cells, belO_dead, belO_unborn, belObs_nil, belObs_cons, belObs_append, belAll_tab, belObs_tab, belObs_tabN, belC, bel_Cs, bel_slC, belAll_append, bel_encLE, hbel]) (by first | rfl | simp [bel_int, bel_bool, bel_str, bel_nilp, bel_nili, bel_nilf, bel_nilm, bel_dead, bel_agg, bel_tup, bel_sl, bel_fp, bel_buf, bel_ptr, bel_mp, bel_ifc, bel_fn, bel_opt, belAll_nil, belAll_cons, belO_cells, belO_dead, belO_unborn, belObs_nil, belObs_cons, belObs_append, belAll_tab, belObs_tab, belObs_tabN, belC, bel_Cs, bel_slC, belAll_append, bel_encLE, hbel]) ?_; simp (config := { maxSteps := 2000000 }) -implicitDefEqProofs +contextual (disch := first | assumption | omega | decide +kernel) only [push_cast, ↓capI, br2_true, br2_false, frk_tt, frk_tf, frk_f, frkD_tt, frkD_tf, frkD_f, pk2_true, pk2_false, imp_true, Nat.reduceAdd, Nat.reduceSub, Nat.reduceMul, Nat.reduceLeDiff, Nat.reduceLT, reduceCtorEq, ↓reduceIte, Nat.reduceEqDiff, Nat.reduceSub, Nat.reduceMul, Int.reduceNeg, Int.reduceLT, Int.reduceLE, Int.reduceAdd, Int.reduceSub, Int.reduceMul, Int.reduceEq, Int.reduceToNat, Nat.reduceDiv, Nat.reduceMod, Nat.reduceBEq, Nat.reduceBNe, reduceCtorEq, tt_25, tt_23, tt_3, tt_4, tt_5, tt_26, tt_36, tt_38, tt_9, tt_79, encC, cfg0, slC, get_flat_part lenC, get_flat_drop lenC, len_flat lenC, ib_and, ib_or, ib_xor, ib_andNot, w_ofInt, w_eqb, w_eqb0, w_inj, w_zero, w_wrap, BitVec.reduceOfInt, encLE, zeros_C, Try.ntmps49]
  refine callO.pc (pc72 a k ha h1 h2) ?_
  generalize (a.map fun c => cutC c k) = l0 at e0 hml h0 ⊢
  simp (config := { maxSteps := 2000000 }) -implicitDefEqProofs +contextual (disch := first | assumption | omega | decide +kernel) only [push_cast, ↓capI, br2_true, br2_false, frk_tt, frk_tf, frk_f, frkD_tt, frkD_tf, frkD_f, pk2_true, pk2_false, imp_true, Nat.reduceAdd, Nat.reduceSub, Nat.reduceMul, Nat.reduceLeDiff, Nat.reduceLT, reduceCtorEq, ↓reduceIte, Nat.reduceEqDiff, Nat.reduceSub, Nat.reduceMul, Int.reduceNeg, Int.reduceLT, Int.reduceLE, Int.reduceAdd, Int.reduceSub, Int.reduceMul, Int.reduceEq, Int.reduceToNat, Nat.reduceDiv, Nat.reduceMod, Nat.reduceBEq, Nat.reduceBNe, reduceCtorEq, tt_25, tt_23, tt_3, tt_4, tt_5, tt_26, tt_36, tt_38, tt_9, tt_79, encC, cfg0, slC, get_flat_part lenC, get_flat_drop lenC, len_flat lenC, ib_and, ib_or, ib_xor, ib_andNot, w_ofInt, w_eqb, w_eqb0, w_inj, w_zero, w_wrap, BitVec.reduceOfInt, encLE, zeros_C]
  refine callO.pc (pc69 l0 hml) ?_
  rw [if_neg h0] at e0
  rw [fin8, if_neg h0]
  simp (config := { maxSteps := 2000000 }) -implicitDefEqProofs +contextual (disch := first | assumption | omega | decide +kernel) only [push_cast, ↓capI, br2_true, br2_false, frk_tt, frk_tf, frk_f, frkD_tt, frkD_tf, frkD_f, pk2_true, pk2_false, imp_true, Nat.reduceAdd, Nat.reduceSub, Nat.reduceMul, Nat.reduceLeDiff, Nat.reduceLT, reduceCtorEq, ↓reduceIte, Nat.reduceEqDiff, Nat.reduceSub, Nat.reduceMul, Int.reduceNeg, Int.reduceLT, Int.reduceLE, Int.reduceAdd, Int.reduceSub, Int.reduceMul, Int.reduceEq, Int.reduceToNat, Nat.reduceDiv, Nat.reduceMod, Nat.reduceBEq, Nat.reduceBNe, reduceCtorEq, tt_25, tt_23, tt_3, tt_4, tt_5, tt_26, tt_36, tt_38, tt_9, tt_79, encC, cfg0, slC, get_flat_part lenC, get_flat_drop lenC, len_flat lenC, ib_and, ib_or, ib_xor, ib_andNot, w_ofInt, w_eqb, w_eqb0, w_inj, w_zero, w_wrap, BitVec.reduceOfInt, encLE, zeros_C]
  refine T.lp tok mixed cfg0 (fun ((i, L) : Nat × List Cu) => dd 2 (kp 1 (dd 5 (sv (slC L) (dd 24 (kp 2 (sv (.int .i64 i) (dd 31 (nl))))))))) (fun H0 ((i, L) : Nat × List Cu) => H0) (fun ((i, L) : Nat × List Cu) => i ≤ b.length ∧ L.length ≤ 1024 ∧ subt8Go k (b.drop i) L = subt8 a b k) (fun ((i, L) : Nat × List Cu) => b.length - i) ((0, simp8 l0)) ?_ ?_ ?_
  · exact ⟨Nat.zero_le _, by (try simp only); omega, e0.symm⟩
  · exact Gn.canon (J := []) (by first | rfl | (simp [List.append_nil]; done) | (simp [List.append_nil]; rfl)) (by simp [wk, slC, putT, kp, dd, sv, nl]) (by simp [List.length_append]) (by simp [bel_int, bel_bool, bel_str, bel_nilp, bel_nili, bel_nilf, bel_nilm, bel_dead, bel_agg, bel_tup, bel_sl, bel_fp, bel_buf, bel_ptr, bel_mp, bel_ifc, bel_fn, bel_opt, belAll_nil, belAll_cons, belO_cells, belO_dead, belO_unborn, belObs_nil, belObs_cons, belObs_append, belAll_tab, belObs_tab, belObs_tabN, belC, bel_Cs, bel_slC, belAll_append, bel_encLE, hbel, kp, dd, sv, nl]) (by simp [bel_int, bel_bool, bel_str, bel_nilp, bel_nili, bel_nilf, bel_nilm, bel_dead, bel_agg, bel_tup, bel_sl, bel_fp, bel_buf, bel_ptr, bel_mp, bel_ifc, bel_fn, bel_opt, belAll_nil, belAll_cons, belO_cells, belO_dead, belO_unborn, belObs_nil, belObs_cons, belObs_append, belAll_tab, belObs_tab, belObs_tabN, belC, bel_Cs, bel_slC, belAll_append, bel_encLE, hbel])
  rintro ⟨i, L⟩ ⟨hi, hL, hr⟩
  simp (config := { maxSteps := 2000000 }) -implicitDefEqProofs +contextual (disch := first | assumption | omega | decide +kernel) only [push_cast, ↓capI, br2_true, br2_false, frk_tt, frk_tf, frk_f, frkD_tt, frkD_tf, frkD_f, pk2_true, pk2_false, imp_true, Nat.reduceAdd, Nat.reduceSub, Nat.reduceMul, Nat.reduceLeDiff, Nat.reduceLT, reduceCtorEq, ↓reduceIte, Nat.reduceEqDiff, Nat.reduceSub, Nat.reduceMul, Int.reduceNeg, Int.reduceLT, Int.reduceLE, Int.reduceAdd, Int.reduceSub, Int.reduceMul, Int.reduceEq, Int.reduceToNat, Nat.reduceDiv, Nat.reduceMod, Nat.reduceBEq, Nat.reduceBNe, reduceCtorEq, tt_25, tt_23, tt_3, tt_4, tt_5, tt_26, tt_36, tt_38, tt_9, tt_79, encC, cfg0, slC, get_flat_part lenC, get_flat_drop lenC, len_flat lenC, ib_and, ib_or, ib_xor, ib_andNot, w_ofInt, w_eqb, w_eqb0, w_inj, w_zero, w_wrap, BitVec.reduceOfInt, encLE, zeros_C]
  refine ⟨fun hlt => ?_, fun hge => ?_⟩
  case refine_2 =>
    rw [List.drop_of_length_le (by omega), subt8Go] at hr
    rw [hv (by rw [← hr]), ← hr]
    refine endK.ret ?_ (by first | rfl | simp [bel_int, bel_bool, bel_str, bel_nilp, bel_nili, bel_nilf, bel_nilm, bel_dead, bel_agg, bel_tup, bel_sl, bel_fp, bel_buf, bel_ptr, bel_mp, bel_ifc, bel_fn, bel_opt, belAll_nil, belAll_cons, belO_cells, belO_dead, belO_unborn, belObs_nil, belObs_cons, belObs_append, belAll_tab, belObs_tab, belObs_tabN, belC, bel_Cs, bel_slC, belAll_append, bel_encLE, hbel]); simp [bel_int, bel_bool, bel_str, bel_nilp, bel_nili, bel_nilf, bel_nilm, bel_dead, bel_agg, bel_tup, bel_sl, bel_fp, bel_buf, bel_ptr, bel_mp, bel_ifc, bel_fn, bel_opt, belAll_nil, belAll_cons, belO_cells, belO_dead, belO_unborn, belObs_nil, belObs_cons, belObs_append, belAll_tab, belObs_tab, belObs_tabN, belC, bel_Cs, bel_slC, belAll_append, bel_encLE, hbel, fzs_ok, imp, lenOK_iff, List.take_of_length_le, evRes, getT, getO, setO, fzs, fz, fzH, Nat.beq, retV, Res.then, ldT, ldR, mkV, getV, tt_25, tt_23, tt_3, tt_4, tt_5, tt_26, tt_36, tt_38, tt_9, tt_79, encC, cfg0, slC, get_flat_part lenC, get_flat_drop lenC, len_flat lenC, ib_and, ib_or, ib_xor, ib_andNot, w_ofInt, w_eqb, w_eqb0, w_inj, w_zero, w_wrap, BitVec.reduceOfInt, encLE, zeros_C, Try.f49,  encLE, slC, take_flat lenC]
  refine T.lp tok mixed cfg0 (fun ((j, M) : Nat × List Cu) => dd 2 (kp 1 (dd 8 (kp 1 (sv (.buf 1 j 0 M.length 2) (dd 20 (kp 3 (dd 3 (kp 2 (sv (.int .i64 j) (dd 25 (nl)))))))))))) (fun H0 ((j, M) : Nat × List Cu) => [.cells 0 (encC b[i]), .cells j (M.flatMap encC)]) (fun ((j, M) : Nat × List Cu) => j ≤ L.length ∧ M = outs (L.take j) b[i] k) (fun ((j, M) : Nat × List Cu) => L.length - j) ((0, [])) ?_ ?_ ?_
  · exact ⟨Nat.zero_le _, rfl⟩
  · refine (Gn.ownNil (t := 12) (sz := 2) rfl).trans ?_
    exact Gn.canon (J := []) (by first | rfl | (simp [List.append_nil]; done) | (simp [List.append_nil]; rfl)) (by simp [wk, slC, putT, kp, dd, sv, nl]) (by simp [List.length_append]) (by simp [bel_int, bel_bool, bel_str, bel_nilp, bel_nili, bel_nilf, bel_nilm, bel_dead, bel_agg, bel_tup, bel_sl, bel_fp, bel_buf, bel_ptr, bel_mp, bel_ifc, bel_fn, bel_opt, belAll_nil, belAll_cons, belO_cells, belO_dead, belO_unborn, belObs_nil, belObs_cons, belObs_append, belAll_tab, belObs_tab, belObs_tabN, belC, bel_Cs, bel_slC, belAll_append, bel_encLE, hbel, kp, dd, sv, nl]) (by simp [bel_int, bel_bool, bel_str, bel_nilp, bel_nili, bel_nilf, bel_nilm, bel_dead, bel_agg, bel_tup, bel_sl, bel_fp, bel_buf, bel_ptr, bel_mp, bel_ifc, bel_fn, bel_opt, belAll_nil, belAll_cons, belO_cells, belO_dead, belO_unborn, belObs_nil, belObs_cons, belObs_append, belAll_tab, belObs_tab, belObs_tabN, belC, bel_Cs, bel_slC, belAll_append, bel_encLE, hbel])
  rintro ⟨j, M⟩ ⟨hj, hM⟩
  have hMl : M.length ≤ 65536 := by
    have := outs_len (y := b[i]) (k := k) (l := L.take j)
    rw [hM]
    rw [List.length_take] at this
    omega
  simp (config := { maxSteps := 2000000 }) -implicitDefEqProofs +contextual (disch := first | assumption | omega | decide +kernel) only [push_cast, ↓capI, br2_true, br2_false, frk_tt, frk_tf, frk_f, frkD_tt, frkD_tf, frkD_f, pk2_true, pk2_false, imp_true, Nat.reduceAdd, Nat.reduceSub, Nat.reduceMul, Nat.reduceLeDiff, Nat.reduceLT, reduceCtorEq, ↓reduceIte, Nat.reduceEqDiff, Nat.reduceSub, Nat.reduceMul, Int.reduceNeg, Int.reduceLT, Int.reduceLE, Int.reduceAdd, Int.reduceSub, Int.reduceMul, Int.reduceEq, Int.reduceToNat, Nat.reduceDiv, Nat.reduceMod, Nat.reduceBEq, Nat.reduceBNe, reduceCtorEq, tt_25, tt_23, tt_3, tt_4, tt_5, tt_26, tt_36, tt_38, tt_9, tt_79, encC, cfg0, slC, get_flat_part lenC, get_flat_drop lenC, len_flat lenC, ib_and, ib_or, ib_xor, ib_andNot, w_ofInt, w_eqb, w_eqb0, w_inj, w_zero, w_wrap, BitVec.reduceOfInt, encLE, zeros_C]
  refine ⟨fun hlt2 => ?_, fun hge2 => ?_⟩
  · refine callG.pc1 (pc21 L[j] b[i] k) ?_
    have hD := subL_len (a := L[j]) (b := b[i]) (w := k)
    have e := outs_take (y := b[i]) (k := k) hlt2
    generalize subL L[j] b[i] (k : Int) = D at hD e ⊢
    have hmin : min D.length 64 = D.length := by omega
    have hz := put_zC hD
    have hzl := len_zC hD
    have hle : M.length + D.length ≤ 68719476736 := by omega
    simp (config := { maxSteps := 2000000 }) -implicitDefEqProofs +contextual (disch := first | assumption | omega | decide +kernel) only [push_cast, ↓capI, br2_true, br2_false, frk_tt, frk_tf, frk_f, frkD_tt, frkD_tf, frkD_f, pk2_true, pk2_false, imp_true, Nat.reduceAdd, Nat.reduceSub, Nat.reduceMul, Nat.reduceLeDiff, Nat.reduceLT, reduceCtorEq, ↓reduceIte, Nat.reduceEqDiff, Nat.reduceSub, Nat.reduceMul, Int.reduceNeg, Int.reduceLT, Int.reduceLE, Int.reduceAdd, Int.reduceSub, Int.reduceMul, Int.reduceEq, Int.reduceToNat, Nat.reduceDiv, Nat.reduceMod, Nat.reduceBEq, Nat.reduceBNe, reduceCtorEq, tt_25, tt_23, tt_3, tt_4, tt_5, tt_26, tt_36, tt_38, tt_9, tt_79, encC, cfg0, slC, get_flat_part lenC, get_flat_drop lenC, len_flat lenC, ib_and, ib_or, ib_xor, ib_andNot, w_ofInt, w_eqb, w_eqb0, w_inj, w_zero, w_wrap, BitVec.reduceOfInt, encLE, zeros_C, take_C, hmin, hz, hzl, take_zC, ones_C, Nat.sub_zero, hle]
    refine ⟨(j + 1, M ++ D), ⟨by simp only; omega, by simp [hM, e]⟩, by (try simp only); omega, ?_⟩; exact Gn.canon (by first | rfl | (simp [List.append_nil, encC]; rfl)) (by simp [wk, slC, encC]) (by simp [List.length_append]) (by simp [bel_int, bel_bool, bel_str, bel_nilp, bel_nili, bel_nilf, bel_nilm, bel_dead, bel_agg, bel_tup, bel_sl, bel_fp, bel_buf, bel_ptr, bel_mp, bel_ifc, bel_fn, bel_opt, belAll_nil, belAll_cons, belO_cells, belO_dead, belO_unborn, belObs_nil, belObs_cons, belObs_append, belAll_tab, belObs_tab, belObs_tabN, belC, bel_Cs, bel_slC, belAll_append, bel_encLE, hbel]) (by simp [bel_int, bel_bool, bel_str, bel_nilp, bel_nili, bel_nilf, bel_nilm, bel_dead, bel_agg, bel_tup, bel_sl, bel_fp, bel_buf, bel_ptr, bel_mp, bel_ifc, bel_fn, bel_opt, belAll_nil, belAll_cons, belO_cells, belO_dead, belO_unborn, belObs_nil, belObs_cons, belObs_append, belAll_tab, belObs_tab, belObs_tabN, belC, bel_Cs, bel_slC, belAll_append, bel_encLE, hbel])
  have hMe : M = outs L b[i] k := by rw [hM, List.take_of_length_le (by omega)]
  have hMl2 : M.length ≤ 4000000000 := by omega
  rw [List.drop_eq_getElem_cons hlt, subt8Go, ← hMe] at hr
  by_cases h : 1024 < (simp8 M).length
  · rw [if_pos h] at hr
    rw [hv2 hr.symm]
    refine callO.lent (J := []) (by rw [List.nil_append, List.append_nil, brw_1]; exact (pcE69 M hMl2 h).toJ rfl) (by rw [List.nil_append, List.append_nil, brw_1]; simp [belAll_cons, belAll_nil, bel_slC]) rfl rfl ?_
    simp (config := { maxSteps := 2000000 }) -implicitDefEqProofs +contextual (disch := first | assumption | omega | decide +kernel) only [push_cast, ↓capI, br2_true, br2_false, frk_tt, frk_tf, frk_f, frkD_tt, frkD_tf, frkD_f, pk2_true, pk2_false, imp_true, Nat.reduceAdd, Nat.reduceSub, Nat.reduceMul, Nat.reduceLeDiff, Nat.reduceLT, reduceCtorEq, ↓reduceIte, Nat.reduceEqDiff, Nat.reduceSub, Nat.reduceMul, Int.reduceNeg, Int.reduceLT, Int.reduceLE, Int.reduceAdd, Int.reduceSub, Int.reduceMul, Int.reduceEq, Int.reduceToNat, Nat.reduceDiv, Nat.reduceMod, Nat.reduceBEq, Nat.reduceBNe, reduceCtorEq, tt_25, tt_23, tt_3, tt_4, tt_5, tt_26, tt_36, tt_38, tt_9, tt_79, encC, cfg0, slC, get_flat_part lenC, get_flat_drop lenC, len_flat lenC, ib_and, ib_or, ib_xor, ib_andNot, w_ofInt, w_eqb, w_eqb0, w_inj, w_zero, w_wrap, BitVec.reduceOfInt, encLE, zeros_C, V.sh, shs, shOs]
    refine endK.ret ?_ (by first | rfl | simp [bel_int, bel_bool, bel_str, bel_nilp, bel_nili, bel_nilf, bel_nilm, bel_dead, bel_agg, bel_tup, bel_sl, bel_fp, bel_buf, bel_ptr, bel_mp, bel_ifc, bel_fn, bel_opt, belAll_nil, belAll_cons, belO_cells, belO_dead, belO_unborn, belObs_nil, belObs_cons, belObs_append, belAll_tab, belObs_tab, belObs_tabN, belC, bel_Cs, bel_slC, belAll_append, bel_encLE, hbel]); simp [evRes, getT, retV, Try.f49]
  · rw [if_neg h] at hr
    refine callO.lent (by rw [List.nil_append, List.append_nil, brw_1]; exact pcj69 M hMl2 (by omega)) (by rw [List.nil_append, List.append_nil, brw_1]; simp [belAll_cons, belAll_nil, bel_slC]) rfl (by simp [pursO, Ob.pur, pur_C]) ?_
    simp (config := { maxSteps := 2000000 }) -implicitDefEqProofs +contextual (disch := first | assumption | omega | decide +kernel) only [push_cast, ↓capI, br2_true, br2_false, frk_tt, frk_tf, frk_f, frkD_tt, frkD_tf, frkD_f, pk2_true, pk2_false, imp_true, Nat.reduceAdd, Nat.reduceSub, Nat.reduceMul, Nat.reduceLeDiff, Nat.reduceLT, reduceCtorEq, ↓reduceIte, Nat.reduceEqDiff, Nat.reduceSub, Nat.reduceMul, Int.reduceNeg, Int.reduceLT, Int.reduceLE, Int.reduceAdd, Int.reduceSub, Int.reduceMul, Int.reduceEq, Int.reduceToNat, Nat.reduceDiv, Nat.reduceMod, Nat.reduceBEq, Nat.reduceBNe, reduceCtorEq, tt_25, tt_23, tt_3, tt_4, tt_5, tt_26, tt_36, tt_38, tt_9, tt_79, encC, cfg0, slC, get_flat_part lenC, get_flat_drop lenC, len_flat lenC, ib_and, ib_or, ib_xor, ib_andNot, w_ofInt, w_eqb, w_eqb0, w_inj, w_zero, w_wrap, BitVec.reduceOfInt, encLE, zeros_C, V.sh, shs, shOs, bufC, Ob.sh, shs_C]
    refine ⟨(i + 1, simp8 M), ⟨by (try simp only); omega, by (try simp only); omega, hr⟩, by (try simp only); omega, ?_⟩; refine (Gn.freeze (id := 2) rfl).trans ?_; exact Gn.canon (by first | rfl | (simp [List.append_nil, fzs, fz, fzs_ok, fzH, setO, getO, Nat.beq, List.take_of_length_le, bel_int, bel_bool, bel_str, bel_nilp, bel_nili, bel_nilf, bel_nilm, bel_dead, bel_agg, bel_tup, bel_sl, bel_fp, bel_buf, bel_ptr, bel_mp, bel_ifc, bel_fn, bel_opt, belAll_nil, belAll_cons, belO_cells, belO_dead, belO_unborn, belObs_nil, belObs_cons, belObs_append, belAll_tab, belObs_tab, belObs_tabN, belC, bel_Cs, bel_slC, belAll_append, bel_encLE, hbel, take_C]; done) | (simp [List.append_nil, fzs, fz, fzs_ok, fzH, setO, getO, Nat.beq, List.take_of_length_le, bel_int, bel_bool, bel_str, bel_nilp, bel_nili, bel_nilf, bel_nilm, bel_dead, bel_agg, bel_tup, bel_sl, bel_fp, bel_buf, bel_ptr, bel_mp, bel_ifc, bel_fn, bel_opt, belAll_nil, belAll_cons, belO_cells, belO_dead, belO_unborn, belObs_nil, belObs_cons, belObs_append, belAll_tab, belObs_tab, belObs_tabN, belC, bel_Cs, bel_slC, belAll_append, bel_encLE, hbel, take_C]; rfl)) (by simp [wk, slC, fzs, fz, fzs_ok, fzH, setO, getO, Nat.beq, List.take_of_length_le, bel_int, bel_bool, bel_str, bel_nilp, bel_nili, bel_nilf, bel_nilm, bel_dead, bel_agg, bel_tup, bel_sl, bel_fp, bel_buf, bel_ptr, bel_mp, bel_ifc, bel_fn, bel_opt, belAll_nil, belAll_cons, belO_cells, belO_dead, belO_unborn, belObs_nil, belObs_cons, belObs_append, belAll_tab, belObs_tab, belObs_tabN, belC, bel_Cs, bel_slC, belAll_append, bel_encLE, hbel, take_C, tt_25, tt_23, tt_3, tt_4, tt_5, tt_26, tt_36, tt_38, tt_9, tt_79, encC, cfg0, slC, get_flat_part lenC, get_flat_drop lenC, len_flat lenC, ib_and, ib_or, ib_xor, ib_andNot, w_ofInt, w_eqb, w_eqb0, w_inj, w_zero, w_wrap, BitVec.reduceOfInt, encLE, zeros_C]) (by simp [List.length_append]) (by simp [bel_int, bel_bool, bel_str, bel_nilp, bel_nili, bel_nilf, bel_nilm, bel_dead, bel_agg, bel_tup, bel_sl, bel_fp, bel_buf, bel_ptr, bel_mp, bel_ifc, bel_fn, bel_opt, belAll_nil, belAll_cons, belO_cells, belO_dead, belO_unborn, belObs_nil, belObs_cons, belObs_append, belAll_tab, belObs_tab, belObs_tabN, belC, bel_Cs, bel_slC, belAll_append, bel_encLE, hbel]) (by simp [bel_int, bel_bool, bel_str, bel_nilp, bel_nili, bel_nilf, bel_nilm, bel_dead, bel_agg, bel_tup, bel_sl, bel_fp, bel_buf, bel_ptr, bel_mp, bel_ifc, bel_fn, bel_opt, belAll_nil, belAll_cons, belO_cells, belO_dead, belO_unborn, belObs_nil, belObs_cons, belObs_append, belAll_tab, belObs_tab, belObs_tabN, belC, bel_Cs, bel_slC, belAll_append, bel_encLE, hbel])
theorem subt8_bad {a b : List Cu} {k : Nat} (h1 : 1 ≤ k) (h2 : k ≤ 64) (h : ¬ (subt8 a b k).2 = 0) : subt8 a b k = ([], 12) := by
  have key : ∀ (ys l : List Cu), ¬ (subt8Go k ys l).2 = 0 → subt8Go k ys l = ([], 12) := by
    intro ys
    induction ys with
    | nil => intro out h; exact absurd rfl h
    | cons y ys ih =>
      intro out h
      rw [subt8Go] at h ⊢
      split
      · rfl
      · rename_i h1
        rw [if_neg h1] at h
        exact ih _ h
  have hw : okW (k : Int) = true := by simp only [okW, Bool.and_eq_true, decide_eq_true_eq]; omega
  rw [subt8, if_pos hw] at h ⊢
  split
  · rfl
  · rename_i h1
    rw [if_neg h1] at h
    exact key _ _ h
theorem okW_not {w : Int} (h : ¬ okW w = true) : w < 1 ∨ 64 < w := by
  simp only [okW, Bool.and_eq_true, decide_eq_true_eq] at h
  omega
theorem pc49 (a b : List Cu) (w : Int) (ha : a.length ≤ 1000000) (hb : b.length ≤ 1000000) : PC Try.prog 49 [slC a, slC b, .int .i64 w] (encLE (subt8 a b w)) := by
  by_cases hw : okW w = true
  · obtain ⟨k, rfl, h1, h2⟩ := okW_nat hw
    by_cases h : (subt8 a b k).2 = 0
    · exact pcX49 a b k h1 h2 ha hb _ (fun _ => rfl) (fun e => by rw [e] at h; cases h) (fun _ => bel_encLE)
    · have e := subt8_bad h1 h2 h
      have := PC.laxr (pcX49 a b k h1 h2 ha hb (.tup [.sl true [] 0, .int .i64 12]) (fun h1 => absurd h1 h) (fun _ => rfl) (fun _ => rfl))
      rw [e]
      exact this
  · have e : subt8 a b w = ([], 10) := by simp [subt8, hw]
    rw [e]
    refine PC.laxr (v := .tup [.sl true [] 0, .int .i64 10]) ?_
    have hw' := okW_not hw
    have hbel := True.intro
    by_cases h1 : w < 1
    · refine PC.walk tok mixed cfg0 Try.func49 rfl Try.call49 (by simp [bel_int, bel_bool, bel_str, bel_nilp, bel_nili, bel_nilf, bel_nilm, bel_dead, bel_agg, bel_tup, bel_sl, bel_fp, bel_buf, bel_ptr, bel_mp, bel_ifc, bel_fn, bel_opt, belAll_nil, belAll_cons, belO_cells, belO_dead, belO_unborn, belObs_nil, belObs_cons, belObs_append, belAll_tab, belObs_tab, belObs_tabN, belC, bel_Cs, bel_slC, belAll_append, bel_encLE, hbel]) (by first | rfl | simp [bel_int, bel_bool, bel_str, bel_nilp, bel_nili, bel_nilf, bel_nilm, bel_dead, bel_agg, bel_tup, bel_sl, bel_fp, bel_buf, bel_ptr, bel_mp, bel_ifc, bel_fn, bel_opt, belAll_nil, belAll_cons, belO_cells, belO_dead, belO_unborn, belObs_nil, belObs_cons, belObs_append, belAll_tab, belObs_tab, belObs_tabN, belC, bel_Cs, bel_slC, belAll_append, bel_encLE, hbel]) ?_; simp (config := { maxSteps := 2000000 }) -implicitDefEqProofs +contextual (disch := first | assumption | omega | decide +kernel) only [push_cast, ↓capI, br2_true, br2_false, frk_tt, frk_tf, frk_f, frkD_tt, frkD_tf, frkD_f, pk2_true, pk2_false, imp_true, Nat.reduceAdd, Nat.reduceSub, Nat.reduceMul, Nat.reduceLeDiff, Nat.reduceLT, reduceCtorEq, ↓reduceIte, Nat.reduceEqDiff, Nat.reduceSub, Nat.reduceMul, Int.reduceNeg, Int.reduceLT, Int.reduceLE, Int.reduceAdd, Int.reduceSub, Int.reduceMul, Int.reduceEq, Int.reduceToNat, Nat.reduceDiv, Nat.reduceMod, Nat.reduceBEq, Nat.reduceBNe, reduceCtorEq, tt_25, tt_23, tt_3, tt_4, tt_5, tt_26, tt_36, tt_38, tt_9, tt_79, encC, cfg0, slC, get_flat_part lenC, get_flat_drop lenC, len_flat lenC, ib_and, ib_or, ib_xor, ib_andNot, w_ofInt, w_eqb, w_eqb0, w_inj, w_zero, w_wrap, BitVec.reduceOfInt, encLE, zeros_C, Try.ntmps49]
      refine endK.ret ?_ (by first | rfl | simp [bel_int, bel_bool, bel_str, bel_nilp, bel_nili, bel_nilf, bel_nilm, bel_dead, bel_agg, bel_tup, bel_sl, bel_fp, bel_buf, bel_ptr, bel_mp, bel_ifc, bel_fn, bel_opt, belAll_nil, belAll_cons, belO_cells, belO_dead, belO_unborn, belObs_nil, belObs_cons, belObs_append, belAll_tab, belObs_tab, belObs_tabN, belC, bel_Cs, bel_slC, belAll_append, bel_encLE, hbel]); simp [evRes, getT, retV, Try.f49]
    · have h2 : 64 < w := by omega
      refine PC.walk tok mixed cfg0 Try.func49 rfl Try.call49 (by simp [bel_int, bel_bool, bel_str, bel_nilp, bel_nili, bel_nilf, bel_nilm, bel_dead, bel_agg, bel_tup, bel_sl, bel_fp, bel_buf, bel_ptr, bel_mp, bel_ifc, bel_fn, bel_opt, belAll_nil, belAll_cons, belO_cells, belO_dead, belO_unborn, belObs_nil, belObs_cons, belObs_append, belAll_tab, belObs_tab, belObs_tabN, belC, bel_Cs, bel_slC, belAll_append, bel_encLE, hbel]) (by first | rfl | simp [bel_int, bel_bool, bel_str, bel_nilp, bel_nili, bel_nilf, bel_nilm, bel_dead, bel_agg, bel_tup, bel_sl, bel_fp, bel_buf, bel_ptr, bel_mp, bel_ifc, bel_fn, bel_opt, belAll_nil, belAll_cons, belO_cells, belO_dead, belO_unborn, belObs_nil, belObs_cons, belObs_append, belAll_tab, belObs_tab, belObs_tabN, belC, bel_Cs, bel_slC, belAll_append, bel_encLE, hbel]) ?_; simp (config := { maxSteps := 2000000 }) -implicitDefEqProofs +contextual (disch := first | assumption | omega | decide +kernel) only [push_cast, ↓capI, br2_true, br2_false, frk_tt, frk_tf, frk_f, frkD_tt, frkD_tf, frkD_f, pk2_true, pk2_false, imp_true, Nat.reduceAdd, Nat.reduceSub, Nat.reduceMul, Nat.reduceLeDiff, Nat.reduceLT, reduceCtorEq, ↓reduceIte, Nat.reduceEqDiff, Nat.reduceSub, Nat.reduceMul, Int.reduceNeg, Int.reduceLT, Int.reduceLE, Int.reduceAdd, Int.reduceSub, Int.reduceMul, Int.reduceEq, Int.reduceToNat, Nat.reduceDiv, Nat.reduceMod, Nat.reduceBEq, Nat.reduceBNe, reduceCtorEq, tt_25, tt_23, tt_3, tt_4, tt_5, tt_26, tt_36, tt_38, tt_9, tt_79, encC, cfg0, slC, get_flat_part lenC, get_flat_drop lenC, len_flat lenC, ib_and, ib_or, ib_xor, ib_andNot, w_ofInt, w_eqb, w_eqb0, w_inj, w_zero, w_wrap, BitVec.reduceOfInt, encLE, zeros_C, Try.ntmps49]
      refine endK.ret ?_ (by first | rfl | simp [bel_int, bel_bool, bel_str, bel_nilp, bel_nili, bel_nilf, bel_nilm, bel_dead, bel_agg, bel_tup, bel_sl, bel_fp, bel_buf, bel_ptr, bel_mp, bel_ifc, bel_fn, bel_opt, belAll_nil, belAll_cons, belO_cells, belO_dead, belO_unborn, belObs_nil, belObs_cons, belObs_append, belAll_tab, belObs_tab, belObs_tabN, belC, bel_Cs, bel_slC, belAll_append, bel_encLE, hbel]); simp [evRes, getT, retV, Try.f49]
end Go.Proofs.Ytopnabckbpogeaa
