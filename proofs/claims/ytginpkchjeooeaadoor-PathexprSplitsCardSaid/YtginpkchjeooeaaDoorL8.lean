/-
  Joined by a program from the texts L8.
-/
import Derived.Test.YtginpkchjeooeaaDoorLz
/- Chapter 41: the law PathexprSplits as a contract. -/
set_option maxRecDepth 100000
set_option maxHeartbeats 4000000
set_option linter.all false
namespace Go.Proofs.YtginpkchjeooeaaDoor
open Go.Vm Go.ChangeShapes Go.WideShapes Go.ChangeAt Go.RowKit

/-- a split that is met before place i -/
noncomputable def Sp (a b : List Nd) (w : List Int) (i : Nat) : Bool := (List.range i).any fun j => mtL a (w.take j) && mtL b (w.drop j)
noncomputable def Rp (a : List Nd) (w : List Int) (i : Nat) : Bool := decide (w.length = 0) || (List.range i).any fun j => decide (0 < j) && (mtL a (w.take j) && mtL (op0 6 :: a) (w.drop j))
theorem Sp_succ {a b : List Nd} {w : List Int} {i : Nat} : Sp a b w (i + 1) = (Sp a b w i || (mtL a (w.take i) && mtL b (w.drop i))) := by
  unfold Sp
  rw [List.range_succ, List.any_append]
  simp
theorem Rp_succ {a : List Nd} {w : List Int} {i : Nat} : Rp a w (i + 1) = (Rp a w i || (decide (0 < i) && (mtL a (w.take i) && mtL (op0 6 :: a) (w.drop i)))) := by
  unfold Rp
  rw [List.range_succ, List.any_append, Bool.or_assoc]
  simp
theorem Sp_all {p q : Pr} {w : List Int} (hp : okP 1000000000 p) (hq : okP 1000000000 q) (lp : (flat p).length ≤ 6) (lq : (flat q).length ≤ 6) : mtL (flat (.bin (op0 4) p q)) w = Sp (flat p) (flat q) w (w.length + 1) := by
  refine bool_ext ((mt_of (P := .bin (op0 4) p q) ⟨.inl rfl, hp, hq⟩ (by simp only [bin_len]; omega)).trans Mt_cat) ?_
  unfold Sp
  rw [List.any_eq_true]
  constructor
  · rintro ⟨j, hj, h⟩
    rw [Bool.and_eq_true, mt_of hp (by omega), mt_of hq (by omega)] at h
    exact ⟨w.take j, w.drop j, (List.take_append_drop j w).symm, h.1, h.2⟩
  · rintro ⟨u, v, rfl, h1, h2⟩
    refine ⟨u.length, List.mem_range.2 (by rw [List.length_append]; omega), ?_⟩
    rw [Bool.and_eq_true, mt_of hp (by omega), mt_of hq (by omega), List.take_left, List.drop_left]
    exact ⟨h1, h2⟩
theorem Rp_all {p : Pr} {w : List Int} (hp : okP 1000000000 p) (lp : (flat p).length ≤ 6) : mtL (flat (.un (op0 6) p)) w = Rp (flat p) w (w.length + 1) := by
  have hs : okP 1000000000 (.un (op0 6) p) := ⟨rfl, hp⟩
  refine bool_ext ((mt_of hs (by simp only [un_len]; omega)).trans Mt_star) ?_
  unfold Rp
  rw [Bool.or_eq_true, List.any_eq_true, decide_eq_true_iff]
  constructor
  · rintro (h | ⟨j, hj, h⟩)
    · rw [List.length_eq_zero_iff.1 h]
      exact .nil
    · rw [st_flat, Bool.and_eq_true, Bool.and_eq_true, mt_of hp (by omega), mt_of hs (by simp only [un_len]; omega), Mt_star] at h
      rw [← List.take_append_drop j w]
      exact .app h.2.1 h.2.2
  · intro h
    rcases h.first with rfl | ⟨u, v, rfl, h1, h2, hn⟩
    · exact .inl rfl
    · refine .inr ⟨u.length, List.mem_range.2 (by rw [List.length_append]; omega), ?_⟩
      rw [st_flat, Bool.and_eq_true, Bool.and_eq_true, mt_of hp (by omega), mt_of hs (by simp only [un_len]; omega), Mt_star, List.take_left, List.drop_left]
      exact ⟨decide_eq_true (List.length_pos_iff.2 hn), h1, h2⟩
theorem slI_take {w : List Int} {i : Nat} (h : i ≤ w.length) : slI (w.take i) = .sl false ((w.map (V.int .i64 ·)).take i) i := by
  rw [slI, List.map_take, List.length_take, Nat.min_eq_left h]
theorem slI_drop {w : List Int} {i : Nat} : slI (w.drop i) = .sl false ((w.map (V.int .i64 ·)).drop i) (w.length - i) := by
  rw [slI, List.map_drop, List.length_drop]
theorem take_dropI {w : List Int} {i : Nat} : ((w.map (V.int .i64 ·)).drop i).take (w.length - i) = (w.map (V.int .i64 ·)).drop i := List.take_of_length_le (by rw [List.length_drop, List.length_map]; exact Nat.le_refl _)
theorem pc8 (a b : List Nd) (w : List Int) : PC Tryd.prog 8 [slN a, slN b, slI w] (.bool true) := by
  by_cases hw : 8 < w.length
  · refine PC.walk tok mixed cfg0 Tryd.func8 rfl Tryd.call8 (by simp [fmN, fm0, belN, bel_Ns, bel_slN, bel_slM, bel_MI, bel_slI, bel_I, belAll_append]) (by first | rfl | simp [fmN, fm0, belN, bel_Ns, bel_slN, bel_slM, bel_MI, bel_slI, bel_I, belAll_append]) ?_; simp (maxSteps := 2000000) -implicitDefEqProofs +contextual (disch := first | assumption | omega | decide +kernel) only [push_cast, ↓capI, br2_true, br2_false, frk_tt, frk_tf, frk_f, frkD_tt, frkD_tf, frkD_f, pk2_true, pk2_false, imp_true, seval, Nat.reduceLeDiff, Nat.reduceEqDiff, reduceCtorEq, ↓reduceIte, Nat.sub_zero, Nat.mul_one, cfg0, encMI, st_N, os_N, st_I, os_I, st_M, os_M, slM_nil, Tryd.ntmps8]
    simp (maxSteps := 2000000) -implicitDefEqProofs +contextual (disch := first | assumption | omega | decide +kernel) only [push_cast, ↓capI, br2_true, br2_false, frk_tt, frk_tf, frk_f, frkD_tt, frkD_tf, frkD_f, pk2_true, pk2_false, imp_true, seval, Nat.reduceLeDiff, Nat.reduceEqDiff, reduceCtorEq, ↓reduceIte, Nat.sub_zero, Nat.mul_one, cfg0, encMI, st_N, os_N, st_I, os_I, st_M, os_M, slM_nil, slI, hw]
    refine callO.pc pc10 ?_
    simp (maxSteps := 2000000) -implicitDefEqProofs +contextual (disch := first | assumption | omega | decide +kernel) only [push_cast, ↓capI, br2_true, br2_false, frk_tt, frk_tf, frk_f, frkD_tt, frkD_tf, frkD_f, pk2_true, pk2_false, imp_true, seval, Nat.reduceLeDiff, Nat.reduceEqDiff, reduceCtorEq, ↓reduceIte, Nat.sub_zero, Nat.mul_one, cfg0, encMI, st_N, os_N, st_I, os_I, st_M, os_M, slM_nil]
    refine endK.ret ?_ (by first | rfl | simp [fmN, fm0, belN, bel_Ns, bel_slN, bel_slM, bel_MI, bel_slI, bel_I, belAll_append]); simp [evRes, getT, retV, Tryd.f8]
  have sa := pc23 a
  have sb := pc23 b
  by_cases ga : a.length ≤ 6 ∧ checkP 1000000000 a = 0
  case neg =>
    rw [decide_eq_false ga] at sa
    refine PC.walk tok mixed cfg0 Tryd.func8 rfl Tryd.call8 (by simp [fmN, fm0, belN, bel_Ns, bel_slN, bel_slM, bel_MI, bel_slI, bel_I, belAll_append]) (by first | rfl | simp [fmN, fm0, belN, bel_Ns, bel_slN, bel_slM, bel_MI, bel_slI, bel_I, belAll_append]) ?_; simp (maxSteps := 2000000) -implicitDefEqProofs +contextual (disch := first | assumption | omega | decide +kernel) only [push_cast, ↓capI, br2_true, br2_false, frk_tt, frk_tf, frk_f, frkD_tt, frkD_tf, frkD_f, pk2_true, pk2_false, imp_true, seval, Nat.reduceLeDiff, Nat.reduceEqDiff, reduceCtorEq, ↓reduceIte, Nat.sub_zero, Nat.mul_one, cfg0, encMI, st_N, os_N, st_I, os_I, st_M, os_M, slM_nil, Tryd.ntmps8]
    simp (maxSteps := 2000000) -implicitDefEqProofs +contextual (disch := first | assumption | omega | decide +kernel) only [push_cast, ↓capI, br2_true, br2_false, frk_tt, frk_tf, frk_f, frkD_tt, frkD_tf, frkD_f, pk2_true, pk2_false, imp_true, seval, Nat.reduceLeDiff, Nat.reduceEqDiff, reduceCtorEq, ↓reduceIte, Nat.sub_zero, Nat.mul_one, cfg0, encMI, st_N, os_N, st_I, os_I, st_M, os_M, slM_nil, slI, hw]
    refine callO.pc sa ?_
    simp (maxSteps := 2000000) -implicitDefEqProofs +contextual (disch := first | assumption | omega | decide +kernel) only [push_cast, ↓capI, br2_true, br2_false, frk_tt, frk_tf, frk_f, frkD_tt, frkD_tf, frkD_f, pk2_true, pk2_false, imp_true, seval, Nat.reduceLeDiff, Nat.reduceEqDiff, reduceCtorEq, ↓reduceIte, Nat.sub_zero, Nat.mul_one, cfg0, encMI, st_N, os_N, st_I, os_I, st_M, os_M, slM_nil]
    refine callO.pc pc10 ?_
    simp (maxSteps := 2000000) -implicitDefEqProofs +contextual (disch := first | assumption | omega | decide +kernel) only [push_cast, ↓capI, br2_true, br2_false, frk_tt, frk_tf, frk_f, frkD_tt, frkD_tf, frkD_f, pk2_true, pk2_false, imp_true, seval, Nat.reduceLeDiff, Nat.reduceEqDiff, reduceCtorEq, ↓reduceIte, Nat.sub_zero, Nat.mul_one, cfg0, encMI, st_N, os_N, st_I, os_I, st_M, os_M, slM_nil]
    refine endK.ret ?_ (by first | rfl | simp [fmN, fm0, belN, bel_Ns, bel_slN, bel_slM, bel_MI, bel_slI, bel_I, belAll_append]); simp [evRes, getT, retV, Tryd.f8]
  rw [decide_eq_true ga] at sa
  by_cases gb : b.length ≤ 6 ∧ checkP 1000000000 b = 0
  case neg =>
    rw [decide_eq_false gb] at sb
    refine PC.walk tok mixed cfg0 Tryd.func8 rfl Tryd.call8 (by simp [fmN, fm0, belN, bel_Ns, bel_slN, bel_slM, bel_MI, bel_slI, bel_I, belAll_append]) (by first | rfl | simp [fmN, fm0, belN, bel_Ns, bel_slN, bel_slM, bel_MI, bel_slI, bel_I, belAll_append]) ?_; simp (maxSteps := 2000000) -implicitDefEqProofs +contextual (disch := first | assumption | omega | decide +kernel) only [push_cast, ↓capI, br2_true, br2_false, frk_tt, frk_tf, frk_f, frkD_tt, frkD_tf, frkD_f, pk2_true, pk2_false, imp_true, seval, Nat.reduceLeDiff, Nat.reduceEqDiff, reduceCtorEq, ↓reduceIte, Nat.sub_zero, Nat.mul_one, cfg0, encMI, st_N, os_N, st_I, os_I, st_M, os_M, slM_nil, Tryd.ntmps8]
    simp (maxSteps := 2000000) -implicitDefEqProofs +contextual (disch := first | assumption | omega | decide +kernel) only [push_cast, ↓capI, br2_true, br2_false, frk_tt, frk_tf, frk_f, frkD_tt, frkD_tf, frkD_f, pk2_true, pk2_false, imp_true, seval, Nat.reduceLeDiff, Nat.reduceEqDiff, reduceCtorEq, ↓reduceIte, Nat.sub_zero, Nat.mul_one, cfg0, encMI, st_N, os_N, st_I, os_I, st_M, os_M, slM_nil, slI, hw]
    refine callO.pc sa ?_
    simp (maxSteps := 2000000) -implicitDefEqProofs +contextual (disch := first | assumption | omega | decide +kernel) only [push_cast, ↓capI, br2_true, br2_false, frk_tt, frk_tf, frk_f, frkD_tt, frkD_tf, frkD_f, pk2_true, pk2_false, imp_true, seval, Nat.reduceLeDiff, Nat.reduceEqDiff, reduceCtorEq, ↓reduceIte, Nat.sub_zero, Nat.mul_one, cfg0, encMI, st_N, os_N, st_I, os_I, st_M, os_M, slM_nil]
    refine callO.pc sb ?_
    simp (maxSteps := 2000000) -implicitDefEqProofs +contextual (disch := first | assumption | omega | decide +kernel) only [push_cast, ↓capI, br2_true, br2_false, frk_tt, frk_tf, frk_f, frkD_tt, frkD_tf, frkD_f, pk2_true, pk2_false, imp_true, seval, Nat.reduceLeDiff, Nat.reduceEqDiff, reduceCtorEq, ↓reduceIte, Nat.sub_zero, Nat.mul_one, cfg0, encMI, st_N, os_N, st_I, os_I, st_M, os_M, slM_nil]
    refine callO.pc pc10 ?_
    simp (maxSteps := 2000000) -implicitDefEqProofs +contextual (disch := first | assumption | omega | decide +kernel) only [push_cast, ↓capI, br2_true, br2_false, frk_tt, frk_tf, frk_f, frkD_tt, frkD_tf, frkD_f, pk2_true, pk2_false, imp_true, seval, Nat.reduceLeDiff, Nat.reduceEqDiff, reduceCtorEq, ↓reduceIte, Nat.sub_zero, Nat.mul_one, cfg0, encMI, st_N, os_N, st_I, os_I, st_M, os_M, slM_nil]
    refine endK.ret ?_ (by first | rfl | simp [fmN, fm0, belN, bel_Ns, bel_slN, bel_slM, bel_MI, bel_slI, bel_I, belAll_append]); simp [evRes, getT, retV, Tryd.f8]
  rw [decide_eq_true gb] at sb
  obtain ⟨_, p, hp, ep⟩ := checkP_tree ga.2
  obtain ⟨_, q, hq, eq⟩ := checkP_tree gb.2
  have lp := ga.1
  have lq := gb.1
  have e5 : mtL (jn 5 a b) w = (mtL a w || mtL b w) := by
    subst ep eq
    refine bool_ext ((mt_of (P := .bin (op0 5) p q) ⟨.inr rfl, hp, hq⟩ (by simp only [bin_len]; omega)).trans Mt_alt) ?_
    rw [Bool.or_eq_true, mt_of hp (by omega), mt_of hq (by omega)]
  have e4 : mtL (jn 4 a b) w = Sp a b w (w.length + 1) := by
    subst ep eq
    exact Sp_all hp hq lp lq
  have e6 : mtL (op0 6 :: a) w = Rp a w (w.length + 1) := by
    subst ep
    exact Rp_all hp lp
  have c5 := pc15 (jn 5 a b) w (by rw [jn_len]; omega) (by omega)
  have c4 := pc15 (jn 4 a b) w (by rw [jn_len]; omega) (by omega)
  have c6 := pc15 (op0 6 :: a) w (by rw [List.length_cons]; omega) (by omega)
  rw [e5] at c5
  rw [e4] at c4
  rw [e6] at c6
  have t5 := pc24 5 a b (by omega) (by omega)
  have t4 := pc24 4 a b (by omega) (by omega)
  have ts := pc25 a (by omega)
  have ca := pc15 a w (by omega) (by omega)
  have cb := pc15 b w (by omega) (by omega)
  have hz : Rp a w 0 = decide (w.length = 0) := by unfold Rp; simp
  have hz2 : decide ((w.length : Int) = 0) = Rp a w 0 := by
    rw [hz, decide_eq_decide]
    omega
  cases hA : mtL a w
  all_goals
    simp only [hA, Bool.false_or, Bool.true_or] at ca c5
    refine PC.walk tok mixed cfg0 Tryd.func8 rfl Tryd.call8 (by simp [fmN, fm0, belN, bel_Ns, bel_slN, bel_slM, bel_MI, bel_slI, bel_I, belAll_append]) (by first | rfl | simp [fmN, fm0, belN, bel_Ns, bel_slN, bel_slM, bel_MI, bel_slI, bel_I, belAll_append]) ?_; simp (maxSteps := 2000000) -implicitDefEqProofs +contextual (disch := first | assumption | omega | decide +kernel) only [push_cast, ↓capI, br2_true, br2_false, frk_tt, frk_tf, frk_f, frkD_tt, frkD_tf, frkD_f, pk2_true, pk2_false, imp_true, seval, Nat.reduceLeDiff, Nat.reduceEqDiff, reduceCtorEq, ↓reduceIte, Nat.sub_zero, Nat.mul_one, cfg0, encMI, st_N, os_N, st_I, os_I, st_M, os_M, slM_nil, Tryd.ntmps8]
    simp (maxSteps := 2000000) -implicitDefEqProofs +contextual (disch := first | assumption | omega | decide +kernel) only [push_cast, ↓capI, br2_true, br2_false, frk_tt, frk_tf, frk_f, frkD_tt, frkD_tf, frkD_f, pk2_true, pk2_false, imp_true, seval, Nat.reduceLeDiff, Nat.reduceEqDiff, reduceCtorEq, ↓reduceIte, Nat.sub_zero, Nat.mul_one, cfg0, encMI, st_N, os_N, st_I, os_I, st_M, os_M, slM_nil, slI, hw]
    refine callO.pc sa ?_
    simp (maxSteps := 2000000) -implicitDefEqProofs +contextual (disch := first | assumption | omega | decide +kernel) only [push_cast, ↓capI, br2_true, br2_false, frk_tt, frk_tf, frk_f, frkD_tt, frkD_tf, frkD_f, pk2_true, pk2_false, imp_true, seval, Nat.reduceLeDiff, Nat.reduceEqDiff, reduceCtorEq, ↓reduceIte, Nat.sub_zero, Nat.mul_one, cfg0, encMI, st_N, os_N, st_I, os_I, st_M, os_M, slM_nil]
    refine callO.pc sb ?_
    simp (maxSteps := 2000000) -implicitDefEqProofs +contextual (disch := first | assumption | omega | decide +kernel) only [push_cast, ↓capI, br2_true, br2_false, frk_tt, frk_tf, frk_f, frkD_tt, frkD_tf, frkD_f, pk2_true, pk2_false, imp_true, seval, Nat.reduceLeDiff, Nat.reduceEqDiff, reduceCtorEq, ↓reduceIte, Nat.sub_zero, Nat.mul_one, cfg0, encMI, st_N, os_N, st_I, os_I, st_M, os_M, slM_nil]
    refine callO.pc ca ?_
    simp (maxSteps := 2000000) -implicitDefEqProofs +contextual (disch := first | assumption | omega | decide +kernel) only [push_cast, ↓capI, br2_true, br2_false, frk_tt, frk_tf, frk_f, frkD_tt, frkD_tf, frkD_f, pk2_true, pk2_false, imp_true, seval, Nat.reduceLeDiff, Nat.reduceEqDiff, reduceCtorEq, ↓reduceIte, Nat.sub_zero, Nat.mul_one, cfg0, encMI, st_N, os_N, st_I, os_I, st_M, os_M, slM_nil]
    (try (refine callO.pc cb ?_; simp (maxSteps := 2000000) -implicitDefEqProofs +contextual (disch := first | assumption | omega | decide +kernel) only [push_cast, ↓capI, br2_true, br2_false, frk_tt, frk_tf, frk_f, frkD_tt, frkD_tf, frkD_f, pk2_true, pk2_false, imp_true, seval, Nat.reduceLeDiff, Nat.reduceEqDiff, reduceCtorEq, ↓reduceIte, Nat.sub_zero, Nat.mul_one, cfg0, encMI, st_N, os_N, st_I, os_I, st_M, os_M, slM_nil]))
    (try simp (maxSteps := 2000000) -implicitDefEqProofs +contextual (disch := first | assumption | omega | decide +kernel) only [push_cast, ↓capI, br2_true, br2_false, frk_tt, frk_tf, frk_f, frkD_tt, frkD_tf, frkD_f, pk2_true, pk2_false, imp_true, seval, Nat.reduceLeDiff, Nat.reduceEqDiff, reduceCtorEq, ↓reduceIte, Nat.sub_zero, Nat.mul_one, cfg0, encMI, st_N, os_N, st_I, os_I, st_M, os_M, slM_nil, ibeq_dec])
    refine T.lp tok mixed cfg0 (fun ((i, S, R) : Nat × Bool × Bool) => kp 3 (dd 4 (kp 1 (sv (.bool S) (sv (.bool R) (sv (.int .i64 i) (dd 93 (nl)))))))) (fun H0 ((i, S, R) : Nat × Bool × Bool) => []) (fun ((i, S, R) : Nat × Bool × Bool) => i ≤ w.length + 1 ∧ S = Sp a b w i ∧ R = Rp a w i) (fun ((i, S, R) : Nat × Bool × Bool) => w.length + 1 - i) ((0, false, decide ((w.length : Int) = 0))) ?_ ?_ ?_
    · exact ⟨Nat.zero_le _, rfl, hz2⟩
    · exact Gn.canon (J := []) (by first | rfl | (simp [List.append_nil]; done) | (simp [List.append_nil]; rfl)) (by simp [wk, slN, putT, kp, dd, sv, nl]) (by simp [List.length_append]) (by simp [fmN, fm0, belN, bel_Ns, bel_slN, bel_slM, bel_MI, bel_slI, bel_I, belAll_append, kp, dd, sv, nl]) (by simp [fmN, fm0, belN, bel_Ns, bel_slN, bel_slM, bel_MI, bel_slI, bel_I, belAll_append])
    rintro ⟨i, S, R⟩ ⟨hi, hS, hR⟩
    by_cases hlt : i ≤ w.length
    · have hTa := pc15 a (w.take i) (by omega) (by rw [List.length_take]; omega)
      have hTb := pc15 b (w.drop i) (by omega) (by rw [List.length_drop]; omega)
      have hTs := pc15 (op0 6 :: a) (w.drop i) (by rw [List.length_cons]; omega) (by rw [List.length_drop]; omega)
      rw [slI_take hlt] at hTa
      rw [slI_drop] at hTb hTs
      have hS2 := Sp_succ (a := a) (b := b) (w := w) (i := i)
      have hR2 := Rp_succ (a := a) (w := w) (i := i)
      rw [← hS] at hS2
      rw [← hR] at hR2
      generalize mtL a (w.take i) = A at hTa hS2 hR2
      generalize mtL b (w.drop i) = B at hTb hS2
      generalize mtL (op0 6 :: a) (w.drop i) = C at hTs hR2
      clear hS hR
      cases S <;> cases R <;> cases A <;> by_cases h0 : 0 < i
      all_goals
        simp only [h0, decide_true, decide_false, Bool.false_or, Bool.true_or, Bool.false_and, Bool.true_and] at hS2 hR2
        simp (maxSteps := 2000000) -implicitDefEqProofs +contextual (disch := first | assumption | omega | decide +kernel) only [push_cast, ↓capI, br2_true, br2_false, frk_tt, frk_tf, frk_f, frkD_tt, frkD_tf, frkD_f, pk2_true, pk2_false, imp_true, seval, Nat.reduceLeDiff, Nat.reduceEqDiff, reduceCtorEq, ↓reduceIte, Nat.sub_zero, Nat.mul_one, cfg0, encMI, st_N, os_N, st_I, os_I, st_M, os_M, slM_nil, hlt, h0, take_dropI]
        (try (refine callO.pc hTa ?_; simp (maxSteps := 2000000) -implicitDefEqProofs +contextual (disch := first | assumption | omega | decide +kernel) only [push_cast, ↓capI, br2_true, br2_false, frk_tt, frk_tf, frk_f, frkD_tt, frkD_tf, frkD_f, pk2_true, pk2_false, imp_true, seval, Nat.reduceLeDiff, Nat.reduceEqDiff, reduceCtorEq, ↓reduceIte, Nat.sub_zero, Nat.mul_one, cfg0, encMI, st_N, os_N, st_I, os_I, st_M, os_M, slM_nil, h0, take_dropI]))
        (try (refine callO.pc hTb ?_; simp (maxSteps := 2000000) -implicitDefEqProofs +contextual (disch := first | assumption | omega | decide +kernel) only [push_cast, ↓capI, br2_true, br2_false, frk_tt, frk_tf, frk_f, frkD_tt, frkD_tf, frkD_f, pk2_true, pk2_false, imp_true, seval, Nat.reduceLeDiff, Nat.reduceEqDiff, reduceCtorEq, ↓reduceIte, Nat.sub_zero, Nat.mul_one, cfg0, encMI, st_N, os_N, st_I, os_I, st_M, os_M, slM_nil, h0, take_dropI]))
        (try (refine callG.pc1 hTa ?_; simp (maxSteps := 2000000) -implicitDefEqProofs +contextual (disch := first | assumption | omega | decide +kernel) only [push_cast, ↓capI, br2_true, br2_false, frk_tt, frk_tf, frk_f, frkD_tt, frkD_tf, frkD_f, pk2_true, pk2_false, imp_true, seval, Nat.reduceLeDiff, Nat.reduceEqDiff, reduceCtorEq, ↓reduceIte, Nat.sub_zero, Nat.mul_one, cfg0, encMI, st_N, os_N, st_I, os_I, st_M, os_M, slM_nil, h0, take_dropI]))
        (try (refine callG.pc1 ts ?_; simp (maxSteps := 2000000) -implicitDefEqProofs +contextual (disch := first | assumption | omega | decide +kernel) only [push_cast, ↓capI, br2_true, br2_false, frk_tt, frk_tf, frk_f, frkD_tt, frkD_tf, frkD_f, pk2_true, pk2_false, imp_true, seval, Nat.reduceLeDiff, Nat.reduceEqDiff, reduceCtorEq, ↓reduceIte, Nat.sub_zero, Nat.mul_one, cfg0, encMI, st_N, os_N, st_I, os_I, st_M, os_M, slM_nil, h0, take_dropI]))
        (try (refine callG.pc1 hTs ?_; simp (maxSteps := 2000000) -implicitDefEqProofs +contextual (disch := first | assumption | omega | decide +kernel) only [push_cast, ↓capI, br2_true, br2_false, frk_tt, frk_tf, frk_f, frkD_tt, frkD_tf, frkD_f, pk2_true, pk2_false, imp_true, seval, Nat.reduceLeDiff, Nat.reduceEqDiff, reduceCtorEq, ↓reduceIte, Nat.sub_zero, Nat.mul_one, cfg0, encMI, st_N, os_N, st_I, os_I, st_M, os_M, slM_nil, h0, take_dropI]))

        refine ⟨(i + 1, Sp a b w (i + 1), Rp a w (i + 1)), ⟨by (try simp only); omega, rfl, rfl⟩, by (try simp only); omega, ?_⟩; exact Gn.canon (by first | rfl | (simp [List.append_nil, hS2, hR2]; rfl)) (by simp [wk, slN, hS2, hR2]) (by simp [List.length_append]) (by simp [fmN, fm0, belN, bel_Ns, bel_slN, bel_slM, bel_MI, bel_slI, bel_I, belAll_append]) (by simp [fmN, fm0, belN, bel_Ns, bel_slN, bel_slM, bel_MI, bel_slI, bel_I, belAll_append])
    · have hie : i = w.length + 1 := by omega
      subst hie
      rw [← hS] at c4
      rw [← hR] at c6
      simp (maxSteps := 2000000) -implicitDefEqProofs +contextual (disch := first | assumption | omega | decide +kernel) only [push_cast, ↓capI, br2_true, br2_false, frk_tt, frk_tf, frk_f, frkD_tt, frkD_tf, frkD_f, pk2_true, pk2_false, imp_true, seval, Nat.reduceLeDiff, Nat.reduceEqDiff, reduceCtorEq, ↓reduceIte, Nat.sub_zero, Nat.mul_one, cfg0, encMI, st_N, os_N, st_I, os_I, st_M, os_M, slM_nil, hlt]
      refine callO.pc t5 ?_
      simp (maxSteps := 2000000) -implicitDefEqProofs +contextual (disch := first | assumption | omega | decide +kernel) only [push_cast, ↓capI, br2_true, br2_false, frk_tt, frk_tf, frk_f, frkD_tt, frkD_tf, frkD_f, pk2_true, pk2_false, imp_true, seval, Nat.reduceLeDiff, Nat.reduceEqDiff, reduceCtorEq, ↓reduceIte, Nat.sub_zero, Nat.mul_one, cfg0, encMI, st_N, os_N, st_I, os_I, st_M, os_M, slM_nil]
      refine callO.pc c5 ?_
      simp (maxSteps := 2000000) -implicitDefEqProofs +contextual (disch := first | assumption | omega | decide +kernel) only [push_cast, ↓capI, br2_true, br2_false, frk_tt, frk_tf, frk_f, frkD_tt, frkD_tf, frkD_f, pk2_true, pk2_false, imp_true, seval, Nat.reduceLeDiff, Nat.reduceEqDiff, reduceCtorEq, ↓reduceIte, Nat.sub_zero, Nat.mul_one, cfg0, encMI, st_N, os_N, st_I, os_I, st_M, os_M, slM_nil]
      refine callO.pc t4 ?_
      simp (maxSteps := 2000000) -implicitDefEqProofs +contextual (disch := first | assumption | omega | decide +kernel) only [push_cast, ↓capI, br2_true, br2_false, frk_tt, frk_tf, frk_f, frkD_tt, frkD_tf, frkD_f, pk2_true, pk2_false, imp_true, seval, Nat.reduceLeDiff, Nat.reduceEqDiff, reduceCtorEq, ↓reduceIte, Nat.sub_zero, Nat.mul_one, cfg0, encMI, st_N, os_N, st_I, os_I, st_M, os_M, slM_nil]
      refine callO.pc c4 ?_
      simp (maxSteps := 2000000) -implicitDefEqProofs +contextual (disch := first | assumption | omega | decide +kernel) only [push_cast, ↓capI, br2_true, br2_false, frk_tt, frk_tf, frk_f, frkD_tt, frkD_tf, frkD_f, pk2_true, pk2_false, imp_true, seval, Nat.reduceLeDiff, Nat.reduceEqDiff, reduceCtorEq, ↓reduceIte, Nat.sub_zero, Nat.mul_one, cfg0, encMI, st_N, os_N, st_I, os_I, st_M, os_M, slM_nil]
      refine callO.pc ts ?_
      simp (maxSteps := 2000000) -implicitDefEqProofs +contextual (disch := first | assumption | omega | decide +kernel) only [push_cast, ↓capI, br2_true, br2_false, frk_tt, frk_tf, frk_f, frkD_tt, frkD_tf, frkD_f, pk2_true, pk2_false, imp_true, seval, Nat.reduceLeDiff, Nat.reduceEqDiff, reduceCtorEq, ↓reduceIte, Nat.sub_zero, Nat.mul_one, cfg0, encMI, st_N, os_N, st_I, os_I, st_M, os_M, slM_nil]
      refine callO.pc c6 ?_
      simp (maxSteps := 2000000) -implicitDefEqProofs +contextual (disch := first | assumption | omega | decide +kernel) only [push_cast, ↓capI, br2_true, br2_false, frk_tt, frk_tf, frk_f, frkD_tt, frkD_tf, frkD_f, pk2_true, pk2_false, imp_true, seval, Nat.reduceLeDiff, Nat.reduceEqDiff, reduceCtorEq, ↓reduceIte, Nat.sub_zero, Nat.mul_one, cfg0, encMI, st_N, os_N, st_I, os_I, st_M, os_M, slM_nil]
      refine callO.pc pc10 ?_
      simp (maxSteps := 2000000) -implicitDefEqProofs +contextual (disch := first | assumption | omega | decide +kernel) only [push_cast, ↓capI, br2_true, br2_false, frk_tt, frk_tf, frk_f, frkD_tt, frkD_tf, frkD_f, pk2_true, pk2_false, imp_true, seval, Nat.reduceLeDiff, Nat.reduceEqDiff, reduceCtorEq, ↓reduceIte, Nat.sub_zero, Nat.mul_one, cfg0, encMI, st_N, os_N, st_I, os_I, st_M, os_M, slM_nil]
      refine endK.ret ?_ (by first | rfl | simp [fmN, fm0, belN, bel_Ns, bel_slN, bel_slM, bel_MI, bel_slI, bel_I, belAll_append]); simp [evRes, getT, retV, Tryd.f8]
theorem law8 (xs : List V) (h : TypA tt 8 [22, 22, 27] xs) : PC Tryd.prog 8 xs (.bool true) := by
  obtain ⟨v, vs, cs, rfl, rfl, h1, h⟩ := typA_cons h
  obtain ⟨v, vs, ds, rfl, rfl, h2, h⟩ := typA_cons h
  obtain ⟨v, vs, es, rfl, rfl, h3, h⟩ := typA_cons h
  obtain rfl := typA_nil h
  obtain ⟨a, ha⟩ := typ_slN h1
  obtain ⟨b, hb⟩ := typ_slN h2
  obtain ⟨x, hx⟩ := typ_slI h3
  refine PC.lax ?_
  rw [laxs, laxs, laxs, laxs, ha, hb, hx]
  exact pc8 a b x
end Go.Proofs.YtginpkchjeooeaaDoor

