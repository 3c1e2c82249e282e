/-
  Joined by a program from the texts L7.
-/
import Derived.Test.YtginpkchjeooeaaDoorLz
/- Chapter 41: the law PathexprAlgebra as a contract. -/
set_option maxRecDepth 100000
set_option maxHeartbeats 4000000
set_option linter.all false
namespace Go.Proofs.YtginpkchjeooeaaDoor
open Go.Vm Go.ChangeShapes Go.WideShapes Go.ChangeAt Go.RowKit

theorem alg_cat {p q s : Pr} {w : List Int} : Mt (.bin (op0 4) (.bin (op0 4) p q) s) w ↔ Mt (.bin (op0 4) p (.bin (op0 4) q s)) w := by
  rw [Mt_cat, Mt_cat]
  constructor
  · rintro ⟨u, v, rfl, h, h3⟩
    obtain ⟨a, b, rfl, h1, h2⟩ := Mt_cat.1 h
    exact ⟨a, b ++ v, by rw [List.append_assoc], h1, Mt_cat.2 ⟨b, v, rfl, h2, h3⟩⟩
  · rintro ⟨u, v, rfl, h1, h⟩
    obtain ⟨a, b, rfl, h2, h3⟩ := Mt_cat.1 h
    exact ⟨u ++ a, b, by rw [List.append_assoc], Mt_cat.2 ⟨u, a, rfl, h1, h2⟩, h3⟩
theorem alg_alt {p q s : Pr} {w : List Int} : Mt (.bin (op0 5) (.bin (op0 5) p q) s) w ↔ Mt (.bin (op0 5) p (.bin (op0 5) q s)) w := by
  rw [Mt_alt, Mt_alt, Mt_alt, Mt_alt, or_assoc]
theorem alg_com {p q : Pr} {w : List Int} : Mt (.bin (op0 5) p q) w ↔ Mt (.bin (op0 5) q p) w := by
  rw [Mt_alt, Mt_alt, or_comm]
theorem alg_idem {p : Pr} {w : List Int} : Mt (.bin (op0 5) p p) w ↔ Mt p w := by
  rw [Mt_alt, or_self]
theorem alg_star {p : Pr} {w : List Int} : Mt (.un (op0 6) (.un (op0 6) p)) w ↔ Mt (.un (op0 6) p) w := by
  rw [Mt_star, Mt_star]
  constructor
  · intro h
    exact Star.idem (h.mono fun u hu => Mt_star.1 hu)
  · intro h
    exact Star.one (Mt_star.2 h)
/-- two lists of nodes that match the same -/
theorem both {P Q : Pr} {w : List Int} (hP : okP 1000000000 P) (hQ : okP 1000000000 Q) (lP : (flat P).length ≤ 24) (lQ : (flat Q).length ≤ 24) (hw : w.length ≤ 900) (h : Mt P w ↔ Mt Q w) :
    ∃ b, PC Tryd.prog 15 [slN (flat P), slI w] (.bool b) ∧ PC Tryd.prog 15 [slN (flat Q), slI w] (.bool b) := by
  refine ⟨mtL (flat P) w, pc15 _ w (by omega) hw, ?_⟩
  rw [show mtL (flat P) w = mtL (flat Q) w from bool_ext ((mt_of hP lP).trans h) (mt_of hQ lQ)]
  exact pc15 _ w (by omega) hw
theorem pc7 (a b c : List Nd) (w : List Int) : PC Tryd.prog 7 [.agg [slN a, slN b, slN c], slI w] (.bool true) := by
  by_cases hw : 12 < w.length
  · refine PC.walk tok mixed cfg0 Tryd.func7 rfl Tryd.call7 (by simp [fmN, fm0, belN, bel_Ns, bel_slN, bel_slM, bel_MI, bel_slI, belAll_append]) (by first | rfl | simp [fmN, fm0, belN, bel_Ns, bel_slN, bel_slM, bel_MI, bel_slI, belAll_append]) ?_; simp (maxSteps := 2000000) -implicitDefEqProofs +contextual (disch := first | assumption | omega | decide +kernel) only [push_cast, ↓capI, br2_true, br2_false, frk_tt, frk_tf, frk_f, frkD_tt, frkD_tf, frkD_f, pk2_true, pk2_false, imp_true, seval, Nat.reduceLeDiff, Nat.reduceEqDiff, reduceCtorEq, ↓reduceIte, cfg0, encMI, st_N, os_N, st_I, os_I, st_M, os_M, slM_nil, Tryd.ntmps7]
    simp (maxSteps := 2000000) -implicitDefEqProofs +contextual (disch := first | assumption | omega | decide +kernel) only [push_cast, ↓capI, br2_true, br2_false, frk_tt, frk_tf, frk_f, frkD_tt, frkD_tf, frkD_f, pk2_true, pk2_false, imp_true, seval, Nat.reduceLeDiff, Nat.reduceEqDiff, reduceCtorEq, ↓reduceIte, cfg0, encMI, st_N, os_N, st_I, os_I, st_M, os_M, slM_nil, slI, hw]
    refine callO.pc pc10 ?_
    simp (maxSteps := 2000000) -implicitDefEqProofs +contextual (disch := first | assumption | omega | decide +kernel) only [push_cast, ↓capI, br2_true, br2_false, frk_tt, frk_tf, frk_f, frkD_tt, frkD_tf, frkD_f, pk2_true, pk2_false, imp_true, seval, Nat.reduceLeDiff, Nat.reduceEqDiff, reduceCtorEq, ↓reduceIte, cfg0, encMI, st_N, os_N, st_I, os_I, st_M, os_M, slM_nil]
    refine endK.ret ?_ (by first | rfl | simp [fmN, fm0, belN, bel_Ns, bel_slN, bel_slM, bel_MI, bel_slI, belAll_append]); simp [evRes, getT, retV, Tryd.f7]
  have sa := pc23 a
  have sb := pc23 b
  have sc := pc23 c
  by_cases ga : a.length ≤ 6 ∧ checkP 1000000000 a = 0
  case neg =>
    rw [decide_eq_false ga] at sa
    refine PC.walk tok mixed cfg0 Tryd.func7 rfl Tryd.call7 (by simp [fmN, fm0, belN, bel_Ns, bel_slN, bel_slM, bel_MI, bel_slI, belAll_append]) (by first | rfl | simp [fmN, fm0, belN, bel_Ns, bel_slN, bel_slM, bel_MI, bel_slI, belAll_append]) ?_; simp (maxSteps := 2000000) -implicitDefEqProofs +contextual (disch := first | assumption | omega | decide +kernel) only [push_cast, ↓capI, br2_true, br2_false, frk_tt, frk_tf, frk_f, frkD_tt, frkD_tf, frkD_f, pk2_true, pk2_false, imp_true, seval, Nat.reduceLeDiff, Nat.reduceEqDiff, reduceCtorEq, ↓reduceIte, cfg0, encMI, st_N, os_N, st_I, os_I, st_M, os_M, slM_nil, Tryd.ntmps7]
    simp (maxSteps := 2000000) -implicitDefEqProofs +contextual (disch := first | assumption | omega | decide +kernel) only [push_cast, ↓capI, br2_true, br2_false, frk_tt, frk_tf, frk_f, frkD_tt, frkD_tf, frkD_f, pk2_true, pk2_false, imp_true, seval, Nat.reduceLeDiff, Nat.reduceEqDiff, reduceCtorEq, ↓reduceIte, cfg0, encMI, st_N, os_N, st_I, os_I, st_M, os_M, slM_nil, slI, hw]
    refine callO.pc sa ?_
    simp (maxSteps := 2000000) -implicitDefEqProofs +contextual (disch := first | assumption | omega | decide +kernel) only [push_cast, ↓capI, br2_true, br2_false, frk_tt, frk_tf, frk_f, frkD_tt, frkD_tf, frkD_f, pk2_true, pk2_false, imp_true, seval, Nat.reduceLeDiff, Nat.reduceEqDiff, reduceCtorEq, ↓reduceIte, cfg0, encMI, st_N, os_N, st_I, os_I, st_M, os_M, slM_nil]
    refine callO.pc pc10 ?_
    simp (maxSteps := 2000000) -implicitDefEqProofs +contextual (disch := first | assumption | omega | decide +kernel) only [push_cast, ↓capI, br2_true, br2_false, frk_tt, frk_tf, frk_f, frkD_tt, frkD_tf, frkD_f, pk2_true, pk2_false, imp_true, seval, Nat.reduceLeDiff, Nat.reduceEqDiff, reduceCtorEq, ↓reduceIte, cfg0, encMI, st_N, os_N, st_I, os_I, st_M, os_M, slM_nil]
    refine endK.ret ?_ (by first | rfl | simp [fmN, fm0, belN, bel_Ns, bel_slN, bel_slM, bel_MI, bel_slI, belAll_append]); simp [evRes, getT, retV, Tryd.f7]
  rw [decide_eq_true ga] at sa
  by_cases gb : b.length ≤ 6 ∧ checkP 1000000000 b = 0
  case neg =>
    rw [decide_eq_false gb] at sb
    refine PC.walk tok mixed cfg0 Tryd.func7 rfl Tryd.call7 (by simp [fmN, fm0, belN, bel_Ns, bel_slN, bel_slM, bel_MI, bel_slI, belAll_append]) (by first | rfl | simp [fmN, fm0, belN, bel_Ns, bel_slN, bel_slM, bel_MI, bel_slI, belAll_append]) ?_; simp (maxSteps := 2000000) -implicitDefEqProofs +contextual (disch := first | assumption | omega | decide +kernel) only [push_cast, ↓capI, br2_true, br2_false, frk_tt, frk_tf, frk_f, frkD_tt, frkD_tf, frkD_f, pk2_true, pk2_false, imp_true, seval, Nat.reduceLeDiff, Nat.reduceEqDiff, reduceCtorEq, ↓reduceIte, cfg0, encMI, st_N, os_N, st_I, os_I, st_M, os_M, slM_nil, Tryd.ntmps7]
    simp (maxSteps := 2000000) -implicitDefEqProofs +contextual (disch := first | assumption | omega | decide +kernel) only [push_cast, ↓capI, br2_true, br2_false, frk_tt, frk_tf, frk_f, frkD_tt, frkD_tf, frkD_f, pk2_true, pk2_false, imp_true, seval, Nat.reduceLeDiff, Nat.reduceEqDiff, reduceCtorEq, ↓reduceIte, cfg0, encMI, st_N, os_N, st_I, os_I, st_M, os_M, slM_nil, slI, hw]
    refine callO.pc sa ?_
    simp (maxSteps := 2000000) -implicitDefEqProofs +contextual (disch := first | assumption | omega | decide +kernel) only [push_cast, ↓capI, br2_true, br2_false, frk_tt, frk_tf, frk_f, frkD_tt, frkD_tf, frkD_f, pk2_true, pk2_false, imp_true, seval, Nat.reduceLeDiff, Nat.reduceEqDiff, reduceCtorEq, ↓reduceIte, cfg0, encMI, st_N, os_N, st_I, os_I, st_M, os_M, slM_nil]
    refine callO.pc sb ?_
    simp (maxSteps := 2000000) -implicitDefEqProofs +contextual (disch := first | assumption | omega | decide +kernel) only [push_cast, ↓capI, br2_true, br2_false, frk_tt, frk_tf, frk_f, frkD_tt, frkD_tf, frkD_f, pk2_true, pk2_false, imp_true, seval, Nat.reduceLeDiff, Nat.reduceEqDiff, reduceCtorEq, ↓reduceIte, cfg0, encMI, st_N, os_N, st_I, os_I, st_M, os_M, slM_nil]
    refine callO.pc pc10 ?_
    simp (maxSteps := 2000000) -implicitDefEqProofs +contextual (disch := first | assumption | omega | decide +kernel) only [push_cast, ↓capI, br2_true, br2_false, frk_tt, frk_tf, frk_f, frkD_tt, frkD_tf, frkD_f, pk2_true, pk2_false, imp_true, seval, Nat.reduceLeDiff, Nat.reduceEqDiff, reduceCtorEq, ↓reduceIte, cfg0, encMI, st_N, os_N, st_I, os_I, st_M, os_M, slM_nil]
    refine endK.ret ?_ (by first | rfl | simp [fmN, fm0, belN, bel_Ns, bel_slN, bel_slM, bel_MI, bel_slI, belAll_append]); simp [evRes, getT, retV, Tryd.f7]
  rw [decide_eq_true gb] at sb
  by_cases gc : c.length ≤ 6 ∧ checkP 1000000000 c = 0
  case neg =>
    rw [decide_eq_false gc] at sc
    refine PC.walk tok mixed cfg0 Tryd.func7 rfl Tryd.call7 (by simp [fmN, fm0, belN, bel_Ns, bel_slN, bel_slM, bel_MI, bel_slI, belAll_append]) (by first | rfl | simp [fmN, fm0, belN, bel_Ns, bel_slN, bel_slM, bel_MI, bel_slI, belAll_append]) ?_; simp (maxSteps := 2000000) -implicitDefEqProofs +contextual (disch := first | assumption | omega | decide +kernel) only [push_cast, ↓capI, br2_true, br2_false, frk_tt, frk_tf, frk_f, frkD_tt, frkD_tf, frkD_f, pk2_true, pk2_false, imp_true, seval, Nat.reduceLeDiff, Nat.reduceEqDiff, reduceCtorEq, ↓reduceIte, cfg0, encMI, st_N, os_N, st_I, os_I, st_M, os_M, slM_nil, Tryd.ntmps7]
    simp (maxSteps := 2000000) -implicitDefEqProofs +contextual (disch := first | assumption | omega | decide +kernel) only [push_cast, ↓capI, br2_true, br2_false, frk_tt, frk_tf, frk_f, frkD_tt, frkD_tf, frkD_f, pk2_true, pk2_false, imp_true, seval, Nat.reduceLeDiff, Nat.reduceEqDiff, reduceCtorEq, ↓reduceIte, cfg0, encMI, st_N, os_N, st_I, os_I, st_M, os_M, slM_nil, slI, hw]
    refine callO.pc sa ?_
    simp (maxSteps := 2000000) -implicitDefEqProofs +contextual (disch := first | assumption | omega | decide +kernel) only [push_cast, ↓capI, br2_true, br2_false, frk_tt, frk_tf, frk_f, frkD_tt, frkD_tf, frkD_f, pk2_true, pk2_false, imp_true, seval, Nat.reduceLeDiff, Nat.reduceEqDiff, reduceCtorEq, ↓reduceIte, cfg0, encMI, st_N, os_N, st_I, os_I, st_M, os_M, slM_nil]
    refine callO.pc sb ?_
    simp (maxSteps := 2000000) -implicitDefEqProofs +contextual (disch := first | assumption | omega | decide +kernel) only [push_cast, ↓capI, br2_true, br2_false, frk_tt, frk_tf, frk_f, frkD_tt, frkD_tf, frkD_f, pk2_true, pk2_false, imp_true, seval, Nat.reduceLeDiff, Nat.reduceEqDiff, reduceCtorEq, ↓reduceIte, cfg0, encMI, st_N, os_N, st_I, os_I, st_M, os_M, slM_nil]
    refine callO.pc sc ?_
    simp (maxSteps := 2000000) -implicitDefEqProofs +contextual (disch := first | assumption | omega | decide +kernel) only [push_cast, ↓capI, br2_true, br2_false, frk_tt, frk_tf, frk_f, frkD_tt, frkD_tf, frkD_f, pk2_true, pk2_false, imp_true, seval, Nat.reduceLeDiff, Nat.reduceEqDiff, reduceCtorEq, ↓reduceIte, cfg0, encMI, st_N, os_N, st_I, os_I, st_M, os_M, slM_nil]
    refine callO.pc pc10 ?_
    simp (maxSteps := 2000000) -implicitDefEqProofs +contextual (disch := first | assumption | omega | decide +kernel) only [push_cast, ↓capI, br2_true, br2_false, frk_tt, frk_tf, frk_f, frkD_tt, frkD_tf, frkD_f, pk2_true, pk2_false, imp_true, seval, Nat.reduceLeDiff, Nat.reduceEqDiff, reduceCtorEq, ↓reduceIte, cfg0, encMI, st_N, os_N, st_I, os_I, st_M, os_M, slM_nil]
    refine endK.ret ?_ (by first | rfl | simp [fmN, fm0, belN, bel_Ns, bel_slN, bel_slM, bel_MI, bel_slI, belAll_append]); simp [evRes, getT, retV, Tryd.f7]
  rw [decide_eq_true gc] at sc
  obtain ⟨_, p, hp, ep⟩ := checkP_tree ga.2
  obtain ⟨_, q, hq, eq⟩ := checkP_tree gb.2
  obtain ⟨_, s, hs, es⟩ := checkP_tree gc.2
  have lp := ga.1
  have lq := gb.1
  have ls := gc.1
  subst ep eq es
  have o4 : ∀ {p q}, okP 1000000000 p → okP 1000000000 q → okP 1000000000 (.bin (op0 4) p q) := fun h1 h2 => ⟨.inl rfl, h1, h2⟩
  have o5 : ∀ {p q}, okP 1000000000 p → okP 1000000000 q → okP 1000000000 (.bin (op0 5) p q) := fun h1 h2 => ⟨.inr rfl, h1, h2⟩
  have o6 : ∀ {p}, okP 1000000000 p → okP 1000000000 (.un (op0 6) p) := fun h1 => ⟨rfl, h1⟩
  obtain ⟨x1, c1, d1⟩ := both (w := w) (o4 (o4 hp hq) hs) (o4 hp (o4 hq hs)) (by simp only [bin_len]; omega) (by simp only [bin_len]; omega) (by omega) alg_cat
  obtain ⟨x2, c2, d2⟩ := both (w := w) (o5 (o5 hp hq) hs) (o5 hp (o5 hq hs)) (by simp only [bin_len]; omega) (by simp only [bin_len]; omega) (by omega) alg_alt
  obtain ⟨x3, c3, d3⟩ := both (w := w) (o5 hp hq) (o5 hq hp) (by simp only [bin_len]; omega) (by simp only [bin_len]; omega) (by omega) alg_com
  obtain ⟨x4, c4, d4⟩ := both (w := w) (o5 hp hp) hp (by simp only [bin_len]; omega) (by omega) (by omega) alg_idem
  obtain ⟨x5, c5, d5⟩ := both (w := w) (o6 (o6 hp)) (o6 hp) (by simp only [un_len]; omega) (by simp only [un_len]; omega) (by omega) alg_star
  have tw : ∀ o (p q : Pr), (flat p).length ≤ 100 → (flat q).length ≤ 100 → PC Tryd.prog 24 [.int .i64 o, slN (flat p), slN (flat q)] (slN (flat (.bin (op0 o) p q))) := fun o p q h1 h2 => pc24 o _ _ (by omega) (by omega)
  have ts : ∀ (p : Pr), (flat p).length ≤ 100 → PC Tryd.prog 25 [slN (flat p)] (slN (flat (.un (op0 6) p))) := fun p h => pc25 _ (by omega)
  refine PC.walk tok mixed cfg0 Tryd.func7 rfl Tryd.call7 (by simp [fmN, fm0, belN, bel_Ns, bel_slN, bel_slM, bel_MI, bel_slI, belAll_append]) (by first | rfl | simp [fmN, fm0, belN, bel_Ns, bel_slN, bel_slM, bel_MI, bel_slI, belAll_append]) ?_; simp (maxSteps := 2000000) -implicitDefEqProofs +contextual (disch := first | assumption | omega | decide +kernel) only [push_cast, ↓capI, br2_true, br2_false, frk_tt, frk_tf, frk_f, frkD_tt, frkD_tf, frkD_f, pk2_true, pk2_false, imp_true, seval, Nat.reduceLeDiff, Nat.reduceEqDiff, reduceCtorEq, ↓reduceIte, cfg0, encMI, st_N, os_N, st_I, os_I, st_M, os_M, slM_nil, Tryd.ntmps7]
  simp (maxSteps := 2000000) -implicitDefEqProofs +contextual (disch := first | assumption | omega | decide +kernel) only [push_cast, ↓capI, br2_true, br2_false, frk_tt, frk_tf, frk_f, frkD_tt, frkD_tf, frkD_f, pk2_true, pk2_false, imp_true, seval, Nat.reduceLeDiff, Nat.reduceEqDiff, reduceCtorEq, ↓reduceIte, cfg0, encMI, st_N, os_N, st_I, os_I, st_M, os_M, slM_nil, slI, hw]
  refine callO.pc sa ?_
  simp (maxSteps := 2000000) -implicitDefEqProofs +contextual (disch := first | assumption | omega | decide +kernel) only [push_cast, ↓capI, br2_true, br2_false, frk_tt, frk_tf, frk_f, frkD_tt, frkD_tf, frkD_f, pk2_true, pk2_false, imp_true, seval, Nat.reduceLeDiff, Nat.reduceEqDiff, reduceCtorEq, ↓reduceIte, cfg0, encMI, st_N, os_N, st_I, os_I, st_M, os_M, slM_nil]
  refine callO.pc sb ?_
  simp (maxSteps := 2000000) -implicitDefEqProofs +contextual (disch := first | assumption | omega | decide +kernel) only [push_cast, ↓capI, br2_true, br2_false, frk_tt, frk_tf, frk_f, frkD_tt, frkD_tf, frkD_f, pk2_true, pk2_false, imp_true, seval, Nat.reduceLeDiff, Nat.reduceEqDiff, reduceCtorEq, ↓reduceIte, cfg0, encMI, st_N, os_N, st_I, os_I, st_M, os_M, slM_nil]
  refine callO.pc sc ?_
  simp (maxSteps := 2000000) -implicitDefEqProofs +contextual (disch := first | assumption | omega | decide +kernel) only [push_cast, ↓capI, br2_true, br2_false, frk_tt, frk_tf, frk_f, frkD_tt, frkD_tf, frkD_f, pk2_true, pk2_false, imp_true, seval, Nat.reduceLeDiff, Nat.reduceEqDiff, reduceCtorEq, ↓reduceIte, cfg0, encMI, st_N, os_N, st_I, os_I, st_M, os_M, slM_nil]
  refine callO.pc (tw 4 p q (by omega) (by omega)) ?_
  simp (maxSteps := 2000000) -implicitDefEqProofs +contextual (disch := first | assumption | omega | decide +kernel) only [push_cast, ↓capI, br2_true, br2_false, frk_tt, frk_tf, frk_f, frkD_tt, frkD_tf, frkD_f, pk2_true, pk2_false, imp_true, seval, Nat.reduceLeDiff, Nat.reduceEqDiff, reduceCtorEq, ↓reduceIte, cfg0, encMI, st_N, os_N, st_I, os_I, st_M, os_M, slM_nil]
  refine callO.pc (tw 4 _ s (by simp only [bin_len]; omega) (by omega)) ?_
  simp (maxSteps := 2000000) -implicitDefEqProofs +contextual (disch := first | assumption | omega | decide +kernel) only [push_cast, ↓capI, br2_true, br2_false, frk_tt, frk_tf, frk_f, frkD_tt, frkD_tf, frkD_f, pk2_true, pk2_false, imp_true, seval, Nat.reduceLeDiff, Nat.reduceEqDiff, reduceCtorEq, ↓reduceIte, cfg0, encMI, st_N, os_N, st_I, os_I, st_M, os_M, slM_nil]
  refine callO.pc c1 ?_
  simp (maxSteps := 2000000) -implicitDefEqProofs +contextual (disch := first | assumption | omega | decide +kernel) only [push_cast, ↓capI, br2_true, br2_false, frk_tt, frk_tf, frk_f, frkD_tt, frkD_tf, frkD_f, pk2_true, pk2_false, imp_true, seval, Nat.reduceLeDiff, Nat.reduceEqDiff, reduceCtorEq, ↓reduceIte, cfg0, encMI, st_N, os_N, st_I, os_I, st_M, os_M, slM_nil]
  refine callO.pc (tw 4 q s (by omega) (by omega)) ?_
  simp (maxSteps := 2000000) -implicitDefEqProofs +contextual (disch := first | assumption | omega | decide +kernel) only [push_cast, ↓capI, br2_true, br2_false, frk_tt, frk_tf, frk_f, frkD_tt, frkD_tf, frkD_f, pk2_true, pk2_false, imp_true, seval, Nat.reduceLeDiff, Nat.reduceEqDiff, reduceCtorEq, ↓reduceIte, cfg0, encMI, st_N, os_N, st_I, os_I, st_M, os_M, slM_nil]
  refine callO.pc (tw 4 p _ (by omega) (by simp only [bin_len]; omega)) ?_
  simp (maxSteps := 2000000) -implicitDefEqProofs +contextual (disch := first | assumption | omega | decide +kernel) only [push_cast, ↓capI, br2_true, br2_false, frk_tt, frk_tf, frk_f, frkD_tt, frkD_tf, frkD_f, pk2_true, pk2_false, imp_true, seval, Nat.reduceLeDiff, Nat.reduceEqDiff, reduceCtorEq, ↓reduceIte, cfg0, encMI, st_N, os_N, st_I, os_I, st_M, os_M, slM_nil]
  refine callO.pc d1 ?_
  simp (maxSteps := 2000000) -implicitDefEqProofs +contextual (disch := first | assumption | omega | decide +kernel) only [push_cast, ↓capI, br2_true, br2_false, frk_tt, frk_tf, frk_f, frkD_tt, frkD_tf, frkD_f, pk2_true, pk2_false, imp_true, seval, Nat.reduceLeDiff, Nat.reduceEqDiff, reduceCtorEq, ↓reduceIte, cfg0, encMI, st_N, os_N, st_I, os_I, st_M, os_M, slM_nil]
  refine callO.pc (tw 5 p q (by omega) (by omega)) ?_
  simp (maxSteps := 2000000) -implicitDefEqProofs +contextual (disch := first | assumption | omega | decide +kernel) only [push_cast, ↓capI, br2_true, br2_false, frk_tt, frk_tf, frk_f, frkD_tt, frkD_tf, frkD_f, pk2_true, pk2_false, imp_true, seval, Nat.reduceLeDiff, Nat.reduceEqDiff, reduceCtorEq, ↓reduceIte, cfg0, encMI, st_N, os_N, st_I, os_I, st_M, os_M, slM_nil]
  refine callO.pc (tw 5 _ s (by simp only [bin_len]; omega) (by omega)) ?_
  simp (maxSteps := 2000000) -implicitDefEqProofs +contextual (disch := first | assumption | omega | decide +kernel) only [push_cast, ↓capI, br2_true, br2_false, frk_tt, frk_tf, frk_f, frkD_tt, frkD_tf, frkD_f, pk2_true, pk2_false, imp_true, seval, Nat.reduceLeDiff, Nat.reduceEqDiff, reduceCtorEq, ↓reduceIte, cfg0, encMI, st_N, os_N, st_I, os_I, st_M, os_M, slM_nil]
  refine callO.pc (c2) ?_
  simp (maxSteps := 2000000) -implicitDefEqProofs +contextual (disch := first | assumption | omega | decide +kernel) only [push_cast, ↓capI, br2_true, br2_false, frk_tt, frk_tf, frk_f, frkD_tt, frkD_tf, frkD_f, pk2_true, pk2_false, imp_true, seval, Nat.reduceLeDiff, Nat.reduceEqDiff, reduceCtorEq, ↓reduceIte, cfg0, encMI, st_N, os_N, st_I, os_I, st_M, os_M, slM_nil]
  refine callO.pc (tw 5 q s (by omega) (by omega)) ?_
  simp (maxSteps := 2000000) -implicitDefEqProofs +contextual (disch := first | assumption | omega | decide +kernel) only [push_cast, ↓capI, br2_true, br2_false, frk_tt, frk_tf, frk_f, frkD_tt, frkD_tf, frkD_f, pk2_true, pk2_false, imp_true, seval, Nat.reduceLeDiff, Nat.reduceEqDiff, reduceCtorEq, ↓reduceIte, cfg0, encMI, st_N, os_N, st_I, os_I, st_M, os_M, slM_nil]
  refine callO.pc (tw 5 p _ (by omega) (by simp only [bin_len]; omega)) ?_
  simp (maxSteps := 2000000) -implicitDefEqProofs +contextual (disch := first | assumption | omega | decide +kernel) only [push_cast, ↓capI, br2_true, br2_false, frk_tt, frk_tf, frk_f, frkD_tt, frkD_tf, frkD_f, pk2_true, pk2_false, imp_true, seval, Nat.reduceLeDiff, Nat.reduceEqDiff, reduceCtorEq, ↓reduceIte, cfg0, encMI, st_N, os_N, st_I, os_I, st_M, os_M, slM_nil]
  refine callO.pc (d2) ?_
  simp (maxSteps := 2000000) -implicitDefEqProofs +contextual (disch := first | assumption | omega | decide +kernel) only [push_cast, ↓capI, br2_true, br2_false, frk_tt, frk_tf, frk_f, frkD_tt, frkD_tf, frkD_f, pk2_true, pk2_false, imp_true, seval, Nat.reduceLeDiff, Nat.reduceEqDiff, reduceCtorEq, ↓reduceIte, cfg0, encMI, st_N, os_N, st_I, os_I, st_M, os_M, slM_nil]
  refine callO.pc (tw 5 p q (by omega) (by omega)) ?_
  simp (maxSteps := 2000000) -implicitDefEqProofs +contextual (disch := first | assumption | omega | decide +kernel) only [push_cast, ↓capI, br2_true, br2_false, frk_tt, frk_tf, frk_f, frkD_tt, frkD_tf, frkD_f, pk2_true, pk2_false, imp_true, seval, Nat.reduceLeDiff, Nat.reduceEqDiff, reduceCtorEq, ↓reduceIte, cfg0, encMI, st_N, os_N, st_I, os_I, st_M, os_M, slM_nil]
  refine callO.pc (c3) ?_
  simp (maxSteps := 2000000) -implicitDefEqProofs +contextual (disch := first | assumption | omega | decide +kernel) only [push_cast, ↓capI, br2_true, br2_false, frk_tt, frk_tf, frk_f, frkD_tt, frkD_tf, frkD_f, pk2_true, pk2_false, imp_true, seval, Nat.reduceLeDiff, Nat.reduceEqDiff, reduceCtorEq, ↓reduceIte, cfg0, encMI, st_N, os_N, st_I, os_I, st_M, os_M, slM_nil]
  refine callO.pc (tw 5 q p (by omega) (by omega)) ?_
  simp (maxSteps := 2000000) -implicitDefEqProofs +contextual (disch := first | assumption | omega | decide +kernel) only [push_cast, ↓capI, br2_true, br2_false, frk_tt, frk_tf, frk_f, frkD_tt, frkD_tf, frkD_f, pk2_true, pk2_false, imp_true, seval, Nat.reduceLeDiff, Nat.reduceEqDiff, reduceCtorEq, ↓reduceIte, cfg0, encMI, st_N, os_N, st_I, os_I, st_M, os_M, slM_nil]
  refine callO.pc (d3) ?_
  simp (maxSteps := 2000000) -implicitDefEqProofs +contextual (disch := first | assumption | omega | decide +kernel) only [push_cast, ↓capI, br2_true, br2_false, frk_tt, frk_tf, frk_f, frkD_tt, frkD_tf, frkD_f, pk2_true, pk2_false, imp_true, seval, Nat.reduceLeDiff, Nat.reduceEqDiff, reduceCtorEq, ↓reduceIte, cfg0, encMI, st_N, os_N, st_I, os_I, st_M, os_M, slM_nil]
  refine callO.pc (tw 5 p p (by omega) (by omega)) ?_
  simp (maxSteps := 2000000) -implicitDefEqProofs +contextual (disch := first | assumption | omega | decide +kernel) only [push_cast, ↓capI, br2_true, br2_false, frk_tt, frk_tf, frk_f, frkD_tt, frkD_tf, frkD_f, pk2_true, pk2_false, imp_true, seval, Nat.reduceLeDiff, Nat.reduceEqDiff, reduceCtorEq, ↓reduceIte, cfg0, encMI, st_N, os_N, st_I, os_I, st_M, os_M, slM_nil]
  refine callO.pc (c4) ?_
  simp (maxSteps := 2000000) -implicitDefEqProofs +contextual (disch := first | assumption | omega | decide +kernel) only [push_cast, ↓capI, br2_true, br2_false, frk_tt, frk_tf, frk_f, frkD_tt, frkD_tf, frkD_f, pk2_true, pk2_false, imp_true, seval, Nat.reduceLeDiff, Nat.reduceEqDiff, reduceCtorEq, ↓reduceIte, cfg0, encMI, st_N, os_N, st_I, os_I, st_M, os_M, slM_nil]
  refine callO.pc (d4) ?_
  simp (maxSteps := 2000000) -implicitDefEqProofs +contextual (disch := first | assumption | omega | decide +kernel) only [push_cast, ↓capI, br2_true, br2_false, frk_tt, frk_tf, frk_f, frkD_tt, frkD_tf, frkD_f, pk2_true, pk2_false, imp_true, seval, Nat.reduceLeDiff, Nat.reduceEqDiff, reduceCtorEq, ↓reduceIte, cfg0, encMI, st_N, os_N, st_I, os_I, st_M, os_M, slM_nil]
  refine callO.pc (ts p (by omega)) ?_
  simp (maxSteps := 2000000) -implicitDefEqProofs +contextual (disch := first | assumption | omega | decide +kernel) only [push_cast, ↓capI, br2_true, br2_false, frk_tt, frk_tf, frk_f, frkD_tt, frkD_tf, frkD_f, pk2_true, pk2_false, imp_true, seval, Nat.reduceLeDiff, Nat.reduceEqDiff, reduceCtorEq, ↓reduceIte, cfg0, encMI, st_N, os_N, st_I, os_I, st_M, os_M, slM_nil]
  refine callO.pc (ts _ (by simp only [un_len]; omega)) ?_
  simp (maxSteps := 2000000) -implicitDefEqProofs +contextual (disch := first | assumption | omega | decide +kernel) only [push_cast, ↓capI, br2_true, br2_false, frk_tt, frk_tf, frk_f, frkD_tt, frkD_tf, frkD_f, pk2_true, pk2_false, imp_true, seval, Nat.reduceLeDiff, Nat.reduceEqDiff, reduceCtorEq, ↓reduceIte, cfg0, encMI, st_N, os_N, st_I, os_I, st_M, os_M, slM_nil]
  refine callO.pc (c5) ?_
  simp (maxSteps := 2000000) -implicitDefEqProofs +contextual (disch := first | assumption | omega | decide +kernel) only [push_cast, ↓capI, br2_true, br2_false, frk_tt, frk_tf, frk_f, frkD_tt, frkD_tf, frkD_f, pk2_true, pk2_false, imp_true, seval, Nat.reduceLeDiff, Nat.reduceEqDiff, reduceCtorEq, ↓reduceIte, cfg0, encMI, st_N, os_N, st_I, os_I, st_M, os_M, slM_nil]
  refine callO.pc (ts p (by omega)) ?_
  simp (maxSteps := 2000000) -implicitDefEqProofs +contextual (disch := first | assumption | omega | decide +kernel) only [push_cast, ↓capI, br2_true, br2_false, frk_tt, frk_tf, frk_f, frkD_tt, frkD_tf, frkD_f, pk2_true, pk2_false, imp_true, seval, Nat.reduceLeDiff, Nat.reduceEqDiff, reduceCtorEq, ↓reduceIte, cfg0, encMI, st_N, os_N, st_I, os_I, st_M, os_M, slM_nil]
  refine callO.pc (d5) ?_
  simp (maxSteps := 2000000) -implicitDefEqProofs +contextual (disch := first | assumption | omega | decide +kernel) only [push_cast, ↓capI, br2_true, br2_false, frk_tt, frk_tf, frk_f, frkD_tt, frkD_tf, frkD_f, pk2_true, pk2_false, imp_true, seval, Nat.reduceLeDiff, Nat.reduceEqDiff, reduceCtorEq, ↓reduceIte, cfg0, encMI, st_N, os_N, st_I, os_I, st_M, os_M, slM_nil]
  refine callO.pc (pc10) ?_
  simp (maxSteps := 2000000) -implicitDefEqProofs +contextual (disch := first | assumption | omega | decide +kernel) only [push_cast, ↓capI, br2_true, br2_false, frk_tt, frk_tf, frk_f, frkD_tt, frkD_tf, frkD_f, pk2_true, pk2_false, imp_true, seval, Nat.reduceLeDiff, Nat.reduceEqDiff, reduceCtorEq, ↓reduceIte, cfg0, encMI, st_N, os_N, st_I, os_I, st_M, os_M, slM_nil]
  refine endK.ret ?_ (by first | rfl | simp [fmN, fm0, belN, bel_Ns, bel_slN, bel_slM, bel_MI, bel_slI, belAll_append]); simp [evRes, getT, retV, Tryd.f7]
theorem mk_39 {c : List V} : mkV (tt 39) c = .agg c := by rw [tt_39]; rfl
theorem typ_N3 {m : Nat} (c : List V) (h : Typ tt (m + 3) 22 c) : ∃ l : List Nd, laxs c = [slN l] ∧ True := by
  obtain ⟨l, hl, _, _⟩ := typ_slice (by rw [tt_22]) typ_N h
  exact ⟨l, hl, trivial⟩
theorem law7 (xs : List V) (h : TypA tt 8 [39, 27] xs) : PC Tryd.prog 7 xs (.bool true) := by
  obtain ⟨v, vs, cs, rfl, rfl, h1, h⟩ := typA_cons h
  obtain ⟨v, vs, ds, rfl, rfl, h2, h⟩ := typA_cons h
  obtain rfl := typA_nil h
  obtain ⟨ls, e, hl, _⟩ := typ_arr (by rw [tt_39]) typ_N3 h1
  obtain ⟨x, hx⟩ := typ_slI h2
  match ls, hl, e with
  | [a, b, c], _, e =>
    refine PC.lax ?_
    rw [laxs, laxs, laxs, mk_39, Go.Vm.lax, e, hx]
    exact pc7 a b c x
end Go.Proofs.YtginpkchjeooeaaDoor

