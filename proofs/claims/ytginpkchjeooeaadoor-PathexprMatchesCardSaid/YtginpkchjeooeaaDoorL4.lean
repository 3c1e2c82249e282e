/-
  Joined by a program from the texts L4.
-/
import Derived.Test.YtginpkchjeooeaaDoorMe
/- Chapter 41: the law PathexprMatches as a contract. -/
set_option maxRecDepth 100000
set_option maxHeartbeats 4000000
set_option linter.all false
namespace Go.Proofs.YtginpkchjeooeaaDoor
open Go.Vm Go.ChangeShapes Go.WideShapes Go.ChangeAt Go.RowKit

theorem pc4 (l : List Nd) (w : List Int) : PC Tryd.prog 4 [slN l, slI w] (.bool true) := by
  by_cases hl : 200 < l.length
  · refine PC.walk tok mixed cfg0 Tryd.func4 rfl Tryd.call4 (by simp [fmN, fm0, belN, bel_Ns, bel_slN, bel_slM, bel_MI, bel_slI, belAll_append]) (by first | rfl | simp [fmN, fm0, belN, bel_Ns, bel_slN, bel_slM, bel_MI, bel_slI, belAll_append]) ?_; simp (maxSteps := 2000000) -implicitDefEqProofs +contextual (disch := first | assumption | omega | decide +kernel) only [push_cast, ↓capI, br2_true, br2_false, frk_tt, frk_tf, frk_f, frkD_tt, frkD_tf, frkD_f, pk2_true, pk2_false, imp_true, seval, Nat.reduceLeDiff, Nat.reduceEqDiff, reduceCtorEq, ↓reduceIte, cfg0, encMI, st_N, os_N, st_I, os_I, st_M, os_M, slM_nil, Tryd.ntmps4]
    simp (maxSteps := 2000000) -implicitDefEqProofs +contextual (disch := first | assumption | omega | decide +kernel) only [push_cast, ↓capI, br2_true, br2_false, frk_tt, frk_tf, frk_f, frkD_tt, frkD_tf, frkD_f, pk2_true, pk2_false, imp_true, seval, Nat.reduceLeDiff, Nat.reduceEqDiff, reduceCtorEq, ↓reduceIte, cfg0, encMI, st_N, os_N, st_I, os_I, st_M, os_M, slM_nil, slN, hl]
    refine callO.pc pc10 ?_
    simp (maxSteps := 2000000) -implicitDefEqProofs +contextual (disch := first | assumption | omega | decide +kernel) only [push_cast, ↓capI, br2_true, br2_false, frk_tt, frk_tf, frk_f, frkD_tt, frkD_tf, frkD_f, pk2_true, pk2_false, imp_true, seval, Nat.reduceLeDiff, Nat.reduceEqDiff, reduceCtorEq, ↓reduceIte, cfg0, encMI, st_N, os_N, st_I, os_I, st_M, os_M, slM_nil]
    refine endK.ret ?_ (by first | rfl | simp [fmN, fm0, belN, bel_Ns, bel_slN, bel_slM, bel_MI, bel_slI, belAll_append]); simp [evRes, getT, retV, Tryd.f4]
  by_cases hw : 12 < w.length
  · refine PC.walk tok mixed cfg0 Tryd.func4 rfl Tryd.call4 (by simp [fmN, fm0, belN, bel_Ns, bel_slN, bel_slM, bel_MI, bel_slI, belAll_append]) (by first | rfl | simp [fmN, fm0, belN, bel_Ns, bel_slN, bel_slM, bel_MI, bel_slI, belAll_append]) ?_; simp (maxSteps := 2000000) -implicitDefEqProofs +contextual (disch := first | assumption | omega | decide +kernel) only [push_cast, ↓capI, br2_true, br2_false, frk_tt, frk_tf, frk_f, frkD_tt, frkD_tf, frkD_f, pk2_true, pk2_false, imp_true, seval, Nat.reduceLeDiff, Nat.reduceEqDiff, reduceCtorEq, ↓reduceIte, cfg0, encMI, st_N, os_N, st_I, os_I, st_M, os_M, slM_nil, Tryd.ntmps4]
    simp (maxSteps := 2000000) -implicitDefEqProofs +contextual (disch := first | assumption | omega | decide +kernel) only [push_cast, ↓capI, br2_true, br2_false, frk_tt, frk_tf, frk_f, frkD_tt, frkD_tf, frkD_f, pk2_true, pk2_false, imp_true, seval, Nat.reduceLeDiff, Nat.reduceEqDiff, reduceCtorEq, ↓reduceIte, cfg0, encMI, st_N, os_N, st_I, os_I, st_M, os_M, slM_nil, slN, slI, hl, hw]
    refine callO.pc pc10 ?_
    simp (maxSteps := 2000000) -implicitDefEqProofs +contextual (disch := first | assumption | omega | decide +kernel) only [push_cast, ↓capI, br2_true, br2_false, frk_tt, frk_tf, frk_f, frkD_tt, frkD_tf, frkD_f, pk2_true, pk2_false, imp_true, seval, Nat.reduceLeDiff, Nat.reduceEqDiff, reduceCtorEq, ↓reduceIte, cfg0, encMI, st_N, os_N, st_I, os_I, st_M, os_M, slM_nil]
    refine endK.ret ?_ (by first | rfl | simp [fmN, fm0, belN, bel_Ns, bel_slN, bel_slM, bel_MI, bel_slI, belAll_append]); simp [evRes, getT, retV, Tryd.f4]
  obtain ⟨⟨n, b⟩, hx⟩ := mxL_ex l
  have h13 := pc13 l (by omega) _ hx
  have h14 := pc14 l (by omega) _ hx
  rw [encIB] at h13 h14
  have h15 := pc15 l w (by omega) (by omega)
  have h16 := pc16 l w (by omega) (by omega)
  generalize mtL l w = t at h15 h16
  refine PC.walk tok mixed cfg0 Tryd.func4 rfl Tryd.call4 (by simp [fmN, fm0, belN, bel_Ns, bel_slN, bel_slM, bel_MI, bel_slI, belAll_append]) (by first | rfl | simp [fmN, fm0, belN, bel_Ns, bel_slN, bel_slM, bel_MI, bel_slI, belAll_append]) ?_; simp (maxSteps := 2000000) -implicitDefEqProofs +contextual (disch := first | assumption | omega | decide +kernel) only [push_cast, ↓capI, br2_true, br2_false, frk_tt, frk_tf, frk_f, frkD_tt, frkD_tf, frkD_f, pk2_true, pk2_false, imp_true, seval, Nat.reduceLeDiff, Nat.reduceEqDiff, reduceCtorEq, ↓reduceIte, cfg0, encMI, st_N, os_N, st_I, os_I, st_M, os_M, slM_nil, Tryd.ntmps4]
  simp (maxSteps := 2000000) -implicitDefEqProofs +contextual (disch := first | assumption | omega | decide +kernel) only [push_cast, ↓capI, br2_true, br2_false, frk_tt, frk_tf, frk_f, frkD_tt, frkD_tf, frkD_f, pk2_true, pk2_false, imp_true, seval, Nat.reduceLeDiff, Nat.reduceEqDiff, reduceCtorEq, ↓reduceIte, cfg0, encMI, st_N, os_N, st_I, os_I, st_M, os_M, slM_nil, slN, slI, hl, hw]
  refine callO.pc h13 ?_
  simp (maxSteps := 2000000) -implicitDefEqProofs +contextual (disch := first | assumption | omega | decide +kernel) only [push_cast, ↓capI, br2_true, br2_false, frk_tt, frk_tf, frk_f, frkD_tt, frkD_tf, frkD_f, pk2_true, pk2_false, imp_true, seval, Nat.reduceLeDiff, Nat.reduceEqDiff, reduceCtorEq, ↓reduceIte, cfg0, encMI, st_N, os_N, st_I, os_I, st_M, os_M, slM_nil]
  refine callO.pc h14 ?_
  simp (maxSteps := 2000000) -implicitDefEqProofs +contextual (disch := first | assumption | omega | decide +kernel) only [push_cast, ↓capI, br2_true, br2_false, frk_tt, frk_tf, frk_f, frkD_tt, frkD_tf, frkD_f, pk2_true, pk2_false, imp_true, seval, Nat.reduceLeDiff, Nat.reduceEqDiff, reduceCtorEq, ↓reduceIte, cfg0, encMI, st_N, os_N, st_I, os_I, st_M, os_M, slM_nil]
  refine callO.pc h15 ?_
  simp (maxSteps := 2000000) -implicitDefEqProofs +contextual (disch := first | assumption | omega | decide +kernel) only [push_cast, ↓capI, br2_true, br2_false, frk_tt, frk_tf, frk_f, frkD_tt, frkD_tf, frkD_f, pk2_true, pk2_false, imp_true, seval, Nat.reduceLeDiff, Nat.reduceEqDiff, reduceCtorEq, ↓reduceIte, cfg0, encMI, st_N, os_N, st_I, os_I, st_M, os_M, slM_nil]
  refine callO.pc h16 ?_
  simp (maxSteps := 2000000) -implicitDefEqProofs +contextual (disch := first | assumption | omega | decide +kernel) only [push_cast, ↓capI, br2_true, br2_false, frk_tt, frk_tf, frk_f, frkD_tt, frkD_tf, frkD_f, pk2_true, pk2_false, imp_true, seval, Nat.reduceLeDiff, Nat.reduceEqDiff, reduceCtorEq, ↓reduceIte, cfg0, encMI, st_N, os_N, st_I, os_I, st_M, os_M, slM_nil]
  refine callO.pc pc10 ?_
  simp (maxSteps := 2000000) -implicitDefEqProofs +contextual (disch := first | assumption | omega | decide +kernel) only [push_cast, ↓capI, br2_true, br2_false, frk_tt, frk_tf, frk_f, frkD_tt, frkD_tf, frkD_f, pk2_true, pk2_false, imp_true, seval, Nat.reduceLeDiff, Nat.reduceEqDiff, reduceCtorEq, ↓reduceIte, cfg0, encMI, st_N, os_N, st_I, os_I, st_M, os_M, slM_nil]
  refine endK.ret ?_ (by first | rfl | simp [fmN, fm0, belN, bel_Ns, bel_slN, bel_slM, bel_MI, bel_slI, belAll_append]); simp [evRes, getT, retV, Tryd.f4]
theorem law4 (xs : List V) (h : TypA tt 8 [22, 27] xs) : PC Tryd.prog 4 xs (.bool true) := by
  obtain ⟨v, vs, cs, rfl, rfl, h1, h⟩ := typA_cons h
  obtain ⟨v, vs, ds, rfl, rfl, h2, h⟩ := typA_cons h
  obtain rfl := typA_nil h
  obtain ⟨a, ha⟩ := typ_slN h1
  obtain ⟨x, hx⟩ := typ_slI h2
  refine PC.lax ?_
  rw [laxs, laxs, laxs, ha, hx]
  exact pc4 a x
end Go.Proofs.YtginpkchjeooeaaDoor

