/-
  Joined by a program from the texts L5.
-/
import Derived.Test.YtginpkchjeooeaaDoorMe
/- Chapter 41: the law PathexprFormats as a contract. -/
set_option maxRecDepth 100000
set_option maxHeartbeats 4000000
set_option linter.all false
namespace Go.Proofs.YtginpkchjeooeaaDoor
open Go.Vm Go.ChangeShapes Go.WideShapes Go.ChangeAt Go.RowKit

theorem pc5 (l : List Nd) : PC Tryd.prog 5 [slN l] (.bool true) := by
  by_cases hl : 200 < l.length
  · refine PC.walk tok mixed cfg0 Tryd.func5 rfl Tryd.call5 (by simp [fmN, fm0, belN, bel_Ns, bel_slN, bel_slM, bel_MI, bel_slI, belAll_append]) (by first | rfl | simp [fmN, fm0, belN, bel_Ns, bel_slN, bel_slM, bel_MI, bel_slI, belAll_append]) ?_; simp (maxSteps := 2000000) -implicitDefEqProofs +contextual (disch := first | assumption | omega | decide +kernel) only [push_cast, ↓capI, br2_true, br2_false, frk_tt, frk_tf, frk_f, frkD_tt, frkD_tf, frkD_f, pk2_true, pk2_false, imp_true, seval, Nat.reduceLeDiff, Nat.reduceEqDiff, reduceCtorEq, ↓reduceIte, cfg0, encMI, st_N, os_N, st_I, os_I, st_M, os_M, slM_nil, Tryd.ntmps5]
    simp (maxSteps := 2000000) -implicitDefEqProofs +contextual (disch := first | assumption | omega | decide +kernel) only [push_cast, ↓capI, br2_true, br2_false, frk_tt, frk_tf, frk_f, frkD_tt, frkD_tf, frkD_f, pk2_true, pk2_false, imp_true, seval, Nat.reduceLeDiff, Nat.reduceEqDiff, reduceCtorEq, ↓reduceIte, cfg0, encMI, st_N, os_N, st_I, os_I, st_M, os_M, slM_nil, slN, hl]
    refine callO.pc pc10 ?_
    simp (maxSteps := 2000000) -implicitDefEqProofs +contextual (disch := first | assumption | omega | decide +kernel) only [push_cast, ↓capI, br2_true, br2_false, frk_tt, frk_tf, frk_f, frkD_tt, frkD_tf, frkD_f, pk2_true, pk2_false, imp_true, seval, Nat.reduceLeDiff, Nat.reduceEqDiff, reduceCtorEq, ↓reduceIte, cfg0, encMI, st_N, os_N, st_I, os_I, st_M, os_M, slM_nil]
    refine endK.ret ?_ (by first | rfl | simp [fmN, fm0, belN, bel_Ns, bel_slN, bel_slM, bel_MI, bel_slI, belAll_append]); simp [evRes, getT, retV, Tryd.f5]
  by_cases hc : checkP 1000000000 l = 0
  case neg =>
    have hf : fmtL l [] (checkP 1000000000 l) := ⟨rfl, .inr ⟨hc, rfl⟩⟩
    refine PC.walk tok mixed cfg0 Tryd.func5 rfl Tryd.call5 (by simp [fmN, fm0, belN, bel_Ns, bel_slN, bel_slM, bel_MI, bel_slI, belAll_append]) (by first | rfl | simp [fmN, fm0, belN, bel_Ns, bel_slN, bel_slM, bel_MI, bel_slI, belAll_append]) ?_; simp (maxSteps := 2000000) -implicitDefEqProofs +contextual (disch := first | assumption | omega | decide +kernel) only [push_cast, ↓capI, br2_true, br2_false, frk_tt, frk_tf, frk_f, frkD_tt, frkD_tf, frkD_f, pk2_true, pk2_false, imp_true, seval, Nat.reduceLeDiff, Nat.reduceEqDiff, reduceCtorEq, ↓reduceIte, cfg0, encMI, st_N, os_N, st_I, os_I, st_M, os_M, slM_nil, Tryd.ntmps5]
    simp (maxSteps := 2000000) -implicitDefEqProofs +contextual (disch := first | assumption | omega | decide +kernel) only [push_cast, ↓capI, br2_true, br2_false, frk_tt, frk_tf, frk_f, frkD_tt, frkD_tf, frkD_f, pk2_true, pk2_false, imp_true, seval, Nat.reduceLeDiff, Nat.reduceEqDiff, reduceCtorEq, ↓reduceIte, cfg0, encMI, st_N, os_N, st_I, os_I, st_M, os_M, slM_nil, slN, hl]
    refine callO.pc (pc17 l (by omega) [] _ hf) ?_
    simp (maxSteps := 2000000) -implicitDefEqProofs +contextual (disch := first | assumption | omega | decide +kernel) only [push_cast, ↓capI, br2_true, br2_false, frk_tt, frk_tf, frk_f, frkD_tt, frkD_tf, frkD_f, pk2_true, pk2_false, imp_true, seval, Nat.reduceLeDiff, Nat.reduceEqDiff, reduceCtorEq, ↓reduceIte, cfg0, encMI, st_N, os_N, st_I, os_I, st_M, os_M, slM_nil]
    refine callO.pc (pc18 l (by omega) [] _ hf) ?_
    simp (maxSteps := 2000000) -implicitDefEqProofs +contextual (disch := first | assumption | omega | decide +kernel) only [push_cast, ↓capI, br2_true, br2_false, frk_tt, frk_tf, frk_f, frkD_tt, frkD_tf, frkD_f, pk2_true, pk2_false, imp_true, seval, Nat.reduceLeDiff, Nat.reduceEqDiff, reduceCtorEq, ↓reduceIte, cfg0, encMI, st_N, os_N, st_I, os_I, st_M, os_M, slM_nil, hc]
    refine callO.pc pc10 ?_
    simp (maxSteps := 2000000) -implicitDefEqProofs +contextual (disch := first | assumption | omega | decide +kernel) only [push_cast, ↓capI, br2_true, br2_false, frk_tt, frk_tf, frk_f, frkD_tt, frkD_tf, frkD_f, pk2_true, pk2_false, imp_true, seval, Nat.reduceLeDiff, Nat.reduceEqDiff, reduceCtorEq, ↓reduceIte, cfg0, encMI, st_N, os_N, st_I, os_I, st_M, os_M, slM_nil]
    refine endK.ret ?_ (by first | rfl | simp [fmN, fm0, belN, bel_Ns, bel_slN, bel_slM, bel_MI, bel_slI, belAll_append]); simp [evRes, getT, retV, Tryd.f5]
  obtain ⟨h24, p, hp, e⟩ := checkP_tree hc
  have hf : fmtL l (tx p) 0 := ⟨hc.symm, .inl ⟨hc, p, hp, e, h24, rfl⟩⟩
  have hq := pc19 (tx p)
  rw [parse_tx hp (by rw [← e]; exact h24), encMI, slM_cons (flat_ne (cl p))] at hq
  have hcl : (flat (cl p)).length = l.length := by rw [cl_len, ← e]
  have hc2 := tree_checkP (cl_ok hp) (by rw [hcl]; exact h24)
  have hf2 : fmtL (flat (cl p)) (tx p) 0 := ⟨hc2.symm, .inl ⟨hc2, cl p, cl_ok hp, rfl, by rw [hcl]; exact h24, (cl_tx hp).symm⟩⟩
  have h20 := pc20 (flat (cl p)) (by omega) (tx p) 0 hf2
  simp only [slN, hcl] at h20
  refine PC.walk tok mixed cfg0 Tryd.func5 rfl Tryd.call5 (by simp [fmN, fm0, belN, bel_Ns, bel_slN, bel_slM, bel_MI, bel_slI, belAll_append]) (by first | rfl | simp [fmN, fm0, belN, bel_Ns, bel_slN, bel_slM, bel_MI, bel_slI, belAll_append]) ?_; simp (maxSteps := 2000000) -implicitDefEqProofs +contextual (disch := first | assumption | omega | decide +kernel) only [push_cast, ↓capI, br2_true, br2_false, frk_tt, frk_tf, frk_f, frkD_tt, frkD_tf, frkD_f, pk2_true, pk2_false, imp_true, seval, Nat.reduceLeDiff, Nat.reduceEqDiff, reduceCtorEq, ↓reduceIte, cfg0, encMI, st_N, os_N, st_I, os_I, st_M, os_M, slM_nil, Tryd.ntmps5]
  simp (maxSteps := 2000000) -implicitDefEqProofs +contextual (disch := first | assumption | omega | decide +kernel) only [push_cast, ↓capI, br2_true, br2_false, frk_tt, frk_tf, frk_f, frkD_tt, frkD_tf, frkD_f, pk2_true, pk2_false, imp_true, seval, Nat.reduceLeDiff, Nat.reduceEqDiff, reduceCtorEq, ↓reduceIte, cfg0, encMI, st_N, os_N, st_I, os_I, st_M, os_M, slM_nil, slN, hl]
  refine callO.pc (pc17 l (by omega) _ _ hf) ?_
  simp (maxSteps := 2000000) -implicitDefEqProofs +contextual (disch := first | assumption | omega | decide +kernel) only [push_cast, ↓capI, br2_true, br2_false, frk_tt, frk_tf, frk_f, frkD_tt, frkD_tf, frkD_f, pk2_true, pk2_false, imp_true, seval, Nat.reduceLeDiff, Nat.reduceEqDiff, reduceCtorEq, ↓reduceIte, cfg0, encMI, st_N, os_N, st_I, os_I, st_M, os_M, slM_nil]
  refine callO.pc (pc18 l (by omega) _ _ hf) ?_
  simp (maxSteps := 2000000) -implicitDefEqProofs +contextual (disch := first | assumption | omega | decide +kernel) only [push_cast, ↓capI, br2_true, br2_false, frk_tt, frk_tf, frk_f, frkD_tt, frkD_tf, frkD_f, pk2_true, pk2_false, imp_true, seval, Nat.reduceLeDiff, Nat.reduceEqDiff, reduceCtorEq, ↓reduceIte, cfg0, encMI, st_N, os_N, st_I, os_I, st_M, os_M, slM_nil]
  refine callO.pc hq ?_
  simp (maxSteps := 2000000) -implicitDefEqProofs +contextual (disch := first | assumption | omega | decide +kernel) only [push_cast, ↓capI, br2_true, br2_false, frk_tt, frk_tf, frk_f, frkD_tt, frkD_tf, frkD_f, pk2_true, pk2_false, imp_true, seval, Nat.reduceLeDiff, Nat.reduceEqDiff, reduceCtorEq, ↓reduceIte, cfg0, encMI, st_N, os_N, st_I, os_I, st_M, os_M, slM_nil, slN, hcl]
  refine callO.pc h20 ?_
  simp (maxSteps := 2000000) -implicitDefEqProofs +contextual (disch := first | assumption | omega | decide +kernel) only [push_cast, ↓capI, br2_true, br2_false, frk_tt, frk_tf, frk_f, frkD_tt, frkD_tf, frkD_f, pk2_true, pk2_false, imp_true, seval, Nat.reduceLeDiff, Nat.reduceEqDiff, reduceCtorEq, ↓reduceIte, cfg0, encMI, st_N, os_N, st_I, os_I, st_M, os_M, slM_nil]
  refine callO.pc pc10 ?_
  simp (maxSteps := 2000000) -implicitDefEqProofs +contextual (disch := first | assumption | omega | decide +kernel) only [push_cast, ↓capI, br2_true, br2_false, frk_tt, frk_tf, frk_f, frkD_tt, frkD_tf, frkD_f, pk2_true, pk2_false, imp_true, seval, Nat.reduceLeDiff, Nat.reduceEqDiff, reduceCtorEq, ↓reduceIte, cfg0, encMI, st_N, os_N, st_I, os_I, st_M, os_M, slM_nil]
  refine endK.ret ?_ (by first | rfl | simp [fmN, fm0, belN, bel_Ns, bel_slN, bel_slM, bel_MI, bel_slI, belAll_append]); simp [evRes, getT, retV, Tryd.f5]
theorem law5 (xs : List V) (h : TypA tt 8 [22] xs) : PC Tryd.prog 5 xs (.bool true) := by
  obtain ⟨v, vs, cs, rfl, rfl, h1, h⟩ := typA_cons h
  obtain rfl := typA_nil h
  obtain ⟨a, ha⟩ := typ_slN h1
  refine PC.lax ?_
  rw [laxs, laxs, ha]
  exact pc5 a
end Go.Proofs.YtginpkchjeooeaaDoor

