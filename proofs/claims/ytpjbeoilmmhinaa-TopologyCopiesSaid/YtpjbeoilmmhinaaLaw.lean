/-
  Chapter 40: the arguments of the laws as plain topologies; from a contract to a statement.
-/
import Derived.Test.YtpjbeoilmmhinaaWorks
import Derived.Test.YtpjbeoilmmhinaaRows
import Derived.Test.YtpjbeoilmmhinaaVm5
set_option maxRecDepth 100000
set_option maxHeartbeats 4000000
set_option linter.all false
namespace Go.Proofs.Ytpjbeoilmmhinaa
open Go.Vm Go.ChangeShapes Go.WideShapes Go.ChangeAt Go.RowKit

theorem own : ownKnob Try.prog.godebug = none := by kernel_rfl
theorem laidOut : laidOutB Try.prog = true := by kernel_rfl
theorem typ_P {m : Nat} (c : List V) (h : Typ tt (m + 2) 32 c) : ∃ x : Int × Int, laxs c = encP x ∧ True := by
  have h := typ_struct (by rw [tt_32]) h
  obtain ⟨c1, r1, rfl, h1, h⟩ := typF_cons h
  obtain ⟨c2, r2, rfl, h2, h⟩ := typF_cons h
  obtain rfl := typF_nil h
  obtain ⟨a, rfl, _⟩ := typ_int (by rw [tt_3]) h1
  obtain ⟨b, rfl, _⟩ := typ_int (by rw [tt_3]) h2
  exact ⟨(a, b), rfl, trivial⟩
theorem typ_L {m : Nat} (c : List V) (h : Typ tt (m + 3) 42 c) : ∃ x : Lk, laxs c = encL x ∧ True := by
  have h := typ_struct (by rw [tt_42]) h
  obtain ⟨c1, r1, rfl, h1, h⟩ := typF_cons h
  obtain ⟨c2, r2, rfl, h2, h⟩ := typF_cons h
  obtain ⟨c3, r3, rfl, h3, h⟩ := typF_cons h
  obtain rfl := typF_nil h
  obtain ⟨a, ha, _⟩ := typ_P (m := m) c1 h1
  obtain ⟨b, hb, _⟩ := typ_P (m := m) c2 h2
  obtain ⟨d, rfl⟩ := typ_bool (by rw [tt_4]) h3
  refine ⟨⟨a, b, d⟩, ?_, trivial⟩
  rw [laxs_append, laxs_append, laxs_append, ha, hb]
  rfl
theorem typ_I {m : Nat} (c : List V) (h : Typ tt (m + 1) 3 c) : ∃ x : Int, laxs c = [.int .i64 x] ∧ True := by
  obtain ⟨a, rfl, _⟩ := typ_int (by rw [tt_3]) h
  exact ⟨a, rfl, trivial⟩
theorem typ_T {m : Nat} {c : List V} (h : Typ tt (m + 5) 26 c) : ∃ t : Tp, laxs c = encT t := by
  have h := typ_struct (by rw [tt_26]) h
  obtain ⟨c1, r1, rfl, h1, h⟩ := typF_cons h
  obtain ⟨c2, r2, rfl, h2, h⟩ := typF_cons h
  obtain ⟨c3, r3, rfl, h3, h⟩ := typF_cons h
  obtain rfl := typF_nil h
  obtain ⟨p, hp, _, _⟩ := typ_slice (by rw [tt_22]) typ_I h1
  obtain ⟨l, hl, _, _⟩ := typ_slice (by rw [tt_23]) typ_L h2
  obtain ⟨q, hq, _, _⟩ := typ_slice (by rw [tt_24]) typ_P h3
  refine ⟨⟨p, l, q⟩, ?_⟩
  rw [laxs_append, laxs_append, laxs_append, hp, hl, hq]
  simp only [flatMap_one]
  rfl
theorem mk_T {c : List V} : mkV (tt 26) c = .agg c := by rw [tt_26]; rfl
theorem mk_P {c : List V} : mkV (tt 32) c = .agg c := by rw [tt_32]; rfl

theorem lenT3 {t : Tp} : (encT t).length = 3 := rfl
theorem getT3 {t : Tp} : getV (encT t) 0 3 = encT t := rfl
theorem pc3 (t : Tp) : PC Try.prog 3 [.agg (encT t)] (.bool true) := by
  refine PC.walk tok mixed cfg0 Try.func3 rfl Try.call3 (by simp [bel_int, bel_bool, bel_str, bel_nilp, bel_nili, bel_nilf, bel_nilm, bel_dead, bel_agg, bel_tup, bel_sl, bel_fp, bel_buf, bel_ptr, bel_mp, bel_ifc, bel_fn, bel_opt, belAll_nil, belAll_cons, belO_cells, belO_dead, belO_unborn, belObs_nil, belObs_cons, belObs_append, belAll_tab, belObs_tab, belObs_tabN, belT]) (by first | rfl | simp [bel_int, bel_bool, bel_str, bel_nilp, bel_nili, bel_nilf, bel_nilm, bel_dead, bel_agg, bel_tup, bel_sl, bel_fp, bel_buf, bel_ptr, bel_mp, bel_ifc, bel_fn, bel_opt, belAll_nil, belAll_cons, belO_cells, belO_dead, belO_unborn, belObs_nil, belObs_cons, belObs_append, belAll_tab, belObs_tab, belObs_tabN, belT]) ?_; simp (config := { maxSteps := 2000000 }) -implicitDefEqProofs +contextual (disch := first | assumption | omega | decide +kernel) only [push_cast, ↓capI, br2_true, br2_false, frk_tt, frk_tf, frk_f, frkD_tt, frkD_tf, frkD_f, pk2_true, pk2_false, imp_true, Nat.reduceAdd, Nat.reduceSub, Nat.reduceMul, Nat.reduceLeDiff, Nat.reduceLT, reduceCtorEq, ↓reduceIte, Nat.reduceEqDiff, Nat.reduceSub, Nat.reduceMul, Int.reduceNeg, Int.reduceLT, Int.reduceLE, Int.reduceAdd, Int.reduceSub, Int.reduceMul, Int.reduceEq, Int.reduceToNat, Nat.reduceDiv, Nat.reduceMod, Nat.reduceBEq, Nat.reduceBNe, reduceCtorEq, tt_26, tt_32, tt_22, tt_23, tt_24, tt_3, tt_4, tt_42, tt_29, tt_38, tt_53, tt_54, cfg0, Nat.mul_one, lenT3, getT3, Try.ntmps3]
  refine callO.pc (pc9 t) ?_
  simp (config := { maxSteps := 2000000 }) -implicitDefEqProofs +contextual (disch := first | assumption | omega | decide +kernel) only [push_cast, ↓capI, br2_true, br2_false, frk_tt, frk_tf, frk_f, frkD_tt, frkD_tf, frkD_f, pk2_true, pk2_false, imp_true, Nat.reduceAdd, Nat.reduceSub, Nat.reduceMul, Nat.reduceLeDiff, Nat.reduceLT, reduceCtorEq, ↓reduceIte, Nat.reduceEqDiff, Nat.reduceSub, Nat.reduceMul, Int.reduceNeg, Int.reduceLT, Int.reduceLE, Int.reduceAdd, Int.reduceSub, Int.reduceMul, Int.reduceEq, Int.reduceToNat, Nat.reduceDiv, Nat.reduceMod, Nat.reduceBEq, Nat.reduceBNe, reduceCtorEq, tt_26, tt_32, tt_22, tt_23, tt_24, tt_3, tt_4, tt_42, tt_29, tt_38, tt_53, tt_54, cfg0, Nat.mul_one, lenT3, getT3]
  refine ⟨fun hs => ?_, fun hs => ?_⟩
  · refine callO.pc pc10 ?_
    simp (config := { maxSteps := 2000000 }) -implicitDefEqProofs +contextual (disch := first | assumption | omega | decide +kernel) only [push_cast, ↓capI, br2_true, br2_false, frk_tt, frk_tf, frk_f, frkD_tt, frkD_tf, frkD_f, pk2_true, pk2_false, imp_true, Nat.reduceAdd, Nat.reduceSub, Nat.reduceMul, Nat.reduceLeDiff, Nat.reduceLT, reduceCtorEq, ↓reduceIte, Nat.reduceEqDiff, Nat.reduceSub, Nat.reduceMul, Int.reduceNeg, Int.reduceLT, Int.reduceLE, Int.reduceAdd, Int.reduceSub, Int.reduceMul, Int.reduceEq, Int.reduceToNat, Nat.reduceDiv, Nat.reduceMod, Nat.reduceBEq, Nat.reduceBNe, reduceCtorEq, tt_26, tt_32, tt_22, tt_23, tt_24, tt_3, tt_4, tt_42, tt_29, tt_38, tt_53, tt_54, cfg0, Nat.mul_one, lenT3, getT3]
    refine endK.ret ?_ (by first | rfl | simp [bel_int, bel_bool, bel_str, bel_nilp, bel_nili, bel_nilf, bel_nilm, bel_dead, bel_agg, bel_tup, bel_sl, bel_fp, bel_buf, bel_ptr, bel_mp, bel_ifc, bel_fn, bel_opt, belAll_nil, belAll_cons, belO_cells, belO_dead, belO_unborn, belObs_nil, belObs_cons, belObs_append, belAll_tab, belObs_tab, belObs_tabN, belT]); simp [evRes, getT, retV, Try.f3]
  have hf := small_fit hs
  refine callG.pc1 (pc11 t hf) ?_
  simp (config := { maxSteps := 2000000 }) -implicitDefEqProofs +contextual (disch := first | assumption | omega | decide +kernel) only [push_cast, ↓capI, br2_true, br2_false, frk_tt, frk_tf, frk_f, frkD_tt, frkD_tf, frkD_f, pk2_true, pk2_false, imp_true, Nat.reduceAdd, Nat.reduceSub, Nat.reduceMul, Nat.reduceLeDiff, Nat.reduceLT, reduceCtorEq, ↓reduceIte, Nat.reduceEqDiff, Nat.reduceSub, Nat.reduceMul, Int.reduceNeg, Int.reduceLT, Int.reduceLE, Int.reduceAdd, Int.reduceSub, Int.reduceMul, Int.reduceEq, Int.reduceToNat, Nat.reduceDiv, Nat.reduceMod, Nat.reduceBEq, Nat.reduceBNe, reduceCtorEq, tt_26, tt_32, tt_22, tt_23, tt_24, tt_3, tt_4, tt_42, tt_29, tt_38, tt_53, tt_54, cfg0, Nat.mul_one, lenT3, getT3]
  refine callG.pc1 (pc12 t hf) ?_
  simp (config := { maxSteps := 2000000 }) -implicitDefEqProofs +contextual (disch := first | assumption | omega | decide +kernel) only [push_cast, ↓capI, br2_true, br2_false, frk_tt, frk_tf, frk_f, frkD_tt, frkD_tf, frkD_f, pk2_true, pk2_false, imp_true, Nat.reduceAdd, Nat.reduceSub, Nat.reduceMul, Nat.reduceLeDiff, Nat.reduceLT, reduceCtorEq, ↓reduceIte, Nat.reduceEqDiff, Nat.reduceSub, Nat.reduceMul, Int.reduceNeg, Int.reduceLT, Int.reduceLE, Int.reduceAdd, Int.reduceSub, Int.reduceMul, Int.reduceEq, Int.reduceToNat, Nat.reduceDiv, Nat.reduceMod, Nat.reduceBEq, Nat.reduceBNe, reduceCtorEq, tt_26, tt_32, tt_22, tt_23, tt_24, tt_3, tt_4, tt_42, tt_29, tt_38, tt_53, tt_54, cfg0, Nat.mul_one, lenT3, getT3]
  refine callG.pc1 pc10 ?_
  simp (config := { maxSteps := 2000000 }) -implicitDefEqProofs +contextual (disch := first | assumption | omega | decide +kernel) only [push_cast, ↓capI, br2_true, br2_false, frk_tt, frk_tf, frk_f, frkD_tt, frkD_tf, frkD_f, pk2_true, pk2_false, imp_true, Nat.reduceAdd, Nat.reduceSub, Nat.reduceMul, Nat.reduceLeDiff, Nat.reduceLT, reduceCtorEq, ↓reduceIte, Nat.reduceEqDiff, Nat.reduceSub, Nat.reduceMul, Int.reduceNeg, Int.reduceLT, Int.reduceLE, Int.reduceAdd, Int.reduceSub, Int.reduceMul, Int.reduceEq, Int.reduceToNat, Nat.reduceDiv, Nat.reduceMod, Nat.reduceBEq, Nat.reduceBNe, reduceCtorEq, tt_26, tt_32, tt_22, tt_23, tt_24, tt_3, tt_4, tt_42, tt_29, tt_38, tt_53, tt_54, cfg0, Nat.mul_one, lenT3, getT3]
  refine endK.ret ?_ (by first | rfl | simp [bel_int, bel_bool, bel_str, bel_nilp, bel_nili, bel_nilf, bel_nilm, bel_dead, bel_agg, bel_tup, bel_sl, bel_fp, bel_buf, bel_ptr, bel_mp, bel_ifc, bel_fn, bel_opt, belAll_nil, belAll_cons, belO_cells, belO_dead, belO_unborn, belObs_nil, belObs_cons, belObs_append, belAll_tab, belObs_tab, belObs_tabN, belT]); simp [evRes, getT, retV, Try.f3]
theorem law3 (xs : List V) (h : TypA tt 8 [26] xs) : PC Try.prog 3 xs (.bool true) := by
  obtain ⟨v, vs, cs, rfl, rfl, h1, h⟩ := typA_cons h
  obtain rfl := typA_nil h
  obtain ⟨t, ht⟩ := typ_T (m := 3) h1
  refine PC.lax ?_
  rw [mk_T, laxs, laxs, Go.Vm.lax, ht]
  exact pc3 t

theorem spec_one {s : ChangeSpec} {H : Type} (h : s.fn H = fun | [d] => { results := [.lit (.bool true)], args := [d] } | _ => Rows.none) (ds : List (DataW H)) (hl : ds.length = 1) :
    s.fn H ds = { results := [.lit (.bool true)], args := ds } := by
  rw [h]
  match ds, hl with
  | [d], _ => rfl
theorem spec_two {s : ChangeSpec} {H : Type} (h : s.fn H = fun | [d, e] => { results := [.lit (.bool true)], args := [d, e] } | _ => Rows.none) (ds : List (DataW H)) (hl : ds.length = 2) :
    s.fn H ds = { results := [.lit (.bool true)], args := ds } := by
  rw [h]
  match ds, hl with
  | [d, e], _ => rfl
theorem spec_three {s : ChangeSpec} {H : Type} (h : s.fn H = fun | [d, e, f] => { results := [.lit (.bool true)], args := [d, e, f] } | _ => Rows.none) (ds : List (DataW H)) (hl : ds.length = 3) :
    s.fn H ds = { results := [.lit (.bool true)], args := ds } := by
  rw [h]
  match ds, hl with
  | [d, e, f], _ => rfl
end Go.Proofs.Ytpjbeoilmmhinaa
