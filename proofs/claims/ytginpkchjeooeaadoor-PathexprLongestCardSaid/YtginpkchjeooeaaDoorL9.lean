/-
  Joined by a program from the texts L9.
-/
import Derived.Test.YtginpkchjeooeaaDoorMe
/- Chapter 41: the law PathexprLongest as a contract. -/
set_option maxRecDepth 100000
set_option maxHeartbeats 4000000
set_option linter.all false
namespace Go.Proofs.YtginpkchjeooeaaDoor
open Go.Vm Go.ChangeShapes Go.WideShapes Go.ChangeAt Go.RowKit

theorem star_nil {L : List Int → Prop} (h : ∀ w, L w → w = []) {w : List Int} (hw : Star L w) : w = [] := by
  induction hw with
  | nil => rfl
  | app hu _ ih => rw [h _ hu, ih]; rfl
theorem lng_max : ∀ (p : Pr) (w : List Int), (lng p).2 = true → Mt p w → (w.length : Int) ≤ (lng p).1
  | .leaf x, w, _, h => by
    rw [Mt] at h
    rw [lng]
    split at h
    · rename_i h1
      rw [if_pos h1, h]
      exact Int.le_refl _
    · rename_i h1
      rw [if_neg h1]
      split at h
      · rw [h]
        exact Int.le_refl _
      · rw [h]
        exact Int.le_refl _
  | .un x p, w, hb, h => by
    rw [lng] at hb ⊢
    simp only [Bool.and_eq_true, decide_eq_true_eq] at hb
    have : w = [] := star_nil (fun u hu => by
      have := lng_max p u hb.1 hu
      exact List.length_eq_zero_iff.1 (by omega)) h
    rw [this]
    exact Int.le_refl _
  | .bin x p q, w, hb, h => by
    rw [Mt] at h
    rw [lng] at hb ⊢
    split at hb
    · rename_i hc
      rw [if_pos hc]
      simp only
      split at h
      · rename_i h5
        rw [if_pos h5]
        rcases h with h | h
        · have := lng_max p w hc.1 h
          omega
        · have := lng_max q w hc.2 h
          omega
      · rename_i h5
        rw [if_neg h5]
        obtain ⟨u, v, e, h1, h2⟩ := h
        have i1 := lng_max p u hc.1 h1
        have i2 := lng_max q v hc.2 h2
        rw [e, List.length_append]
        omega
    · simp at hb
theorem lng_zero : ∀ p, (lng p).2 = false → (lng p).1 = 0
  | .leaf x, h => by simp [lng] at h
  | .un x p, _ => rfl
  | .bin x p q, h => by
    rw [lng] at h ⊢
    split at h
    · simp at h
    · rename_i hc
      rw [if_neg hc]
theorem pc9 (l : List Nd) (w : List Int) : PC Tryd.prog 9 [slN l, slI w] (.bool true) := by
  by_cases hl : 200 < l.length
  · refine PC.walk tok mixed cfg0 Tryd.func9 rfl Tryd.call9 (by simp [fmN, fm0, belN, bel_Ns, bel_slN, bel_slM, bel_MI, bel_slI, belAll_append]) (by first | rfl | simp [fmN, fm0, belN, bel_Ns, bel_slN, bel_slM, bel_MI, bel_slI, belAll_append]) ?_; simp (maxSteps := 2000000) -implicitDefEqProofs +contextual (disch := first | assumption | omega | decide +kernel) only [push_cast, ↓capI, br2_true, br2_false, frk_tt, frk_tf, frk_f, frkD_tt, frkD_tf, frkD_f, pk2_true, pk2_false, imp_true, seval, Nat.reduceLeDiff, Nat.reduceEqDiff, reduceCtorEq, ↓reduceIte, cfg0, encMI, st_N, os_N, st_I, os_I, st_M, os_M, slM_nil, Tryd.ntmps9]
    simp (maxSteps := 2000000) -implicitDefEqProofs +contextual (disch := first | assumption | omega | decide +kernel) only [push_cast, ↓capI, br2_true, br2_false, frk_tt, frk_tf, frk_f, frkD_tt, frkD_tf, frkD_f, pk2_true, pk2_false, imp_true, seval, Nat.reduceLeDiff, Nat.reduceEqDiff, reduceCtorEq, ↓reduceIte, cfg0, encMI, st_N, os_N, st_I, os_I, st_M, os_M, slM_nil, slN, hl]
    refine callO.pc pc10 ?_
    simp (maxSteps := 2000000) -implicitDefEqProofs +contextual (disch := first | assumption | omega | decide +kernel) only [push_cast, ↓capI, br2_true, br2_false, frk_tt, frk_tf, frk_f, frkD_tt, frkD_tf, frkD_f, pk2_true, pk2_false, imp_true, seval, Nat.reduceLeDiff, Nat.reduceEqDiff, reduceCtorEq, ↓reduceIte, cfg0, encMI, st_N, os_N, st_I, os_I, st_M, os_M, slM_nil]
    refine endK.ret ?_ (by first | rfl | simp [fmN, fm0, belN, bel_Ns, bel_slN, bel_slM, bel_MI, bel_slI, belAll_append]); simp [evRes, getT, retV, Tryd.f9]
  by_cases hw : 12 < w.length
  · refine PC.walk tok mixed cfg0 Tryd.func9 rfl Tryd.call9 (by simp [fmN, fm0, belN, bel_Ns, bel_slN, bel_slM, bel_MI, bel_slI, belAll_append]) (by first | rfl | simp [fmN, fm0, belN, bel_Ns, bel_slN, bel_slM, bel_MI, bel_slI, belAll_append]) ?_; simp (maxSteps := 2000000) -implicitDefEqProofs +contextual (disch := first | assumption | omega | decide +kernel) only [push_cast, ↓capI, br2_true, br2_false, frk_tt, frk_tf, frk_f, frkD_tt, frkD_tf, frkD_f, pk2_true, pk2_false, imp_true, seval, Nat.reduceLeDiff, Nat.reduceEqDiff, reduceCtorEq, ↓reduceIte, cfg0, encMI, st_N, os_N, st_I, os_I, st_M, os_M, slM_nil, Tryd.ntmps9]
    simp (maxSteps := 2000000) -implicitDefEqProofs +contextual (disch := first | assumption | omega | decide +kernel) only [push_cast, ↓capI, br2_true, br2_false, frk_tt, frk_tf, frk_f, frkD_tt, frkD_tf, frkD_f, pk2_true, pk2_false, imp_true, seval, Nat.reduceLeDiff, Nat.reduceEqDiff, reduceCtorEq, ↓reduceIte, cfg0, encMI, st_N, os_N, st_I, os_I, st_M, os_M, slM_nil, slN, slI, hl, hw]
    refine callO.pc pc10 ?_
    simp (maxSteps := 2000000) -implicitDefEqProofs +contextual (disch := first | assumption | omega | decide +kernel) only [push_cast, ↓capI, br2_true, br2_false, frk_tt, frk_tf, frk_f, frkD_tt, frkD_tf, frkD_f, pk2_true, pk2_false, imp_true, seval, Nat.reduceLeDiff, Nat.reduceEqDiff, reduceCtorEq, ↓reduceIte, cfg0, encMI, st_N, os_N, st_I, os_I, st_M, os_M, slM_nil]
    refine endK.ret ?_ (by first | rfl | simp [fmN, fm0, belN, bel_Ns, bel_slN, bel_slM, bel_MI, bel_slI, belAll_append]); simp [evRes, getT, retV, Tryd.f9]
  obtain ⟨⟨n, b⟩, hx⟩ := mxL_ex l
  have h13 := pc13 l (by omega) _ hx
  rw [encIB] at h13
  cases b
  · have hn : n = 0 := by
      rcases hx with ⟨_, p, _, _, _, e⟩ | ⟨_, e⟩
      · have := lng_zero p (by rw [← e])
        rw [← e] at this
        exact this
      · cases e; rfl
    subst hn
    refine PC.walk tok mixed cfg0 Tryd.func9 rfl Tryd.call9 (by simp [fmN, fm0, belN, bel_Ns, bel_slN, bel_slM, bel_MI, bel_slI, belAll_append]) (by first | rfl | simp [fmN, fm0, belN, bel_Ns, bel_slN, bel_slM, bel_MI, bel_slI, belAll_append]) ?_; simp (maxSteps := 2000000) -implicitDefEqProofs +contextual (disch := first | assumption | omega | decide +kernel) only [push_cast, ↓capI, br2_true, br2_false, frk_tt, frk_tf, frk_f, frkD_tt, frkD_tf, frkD_f, pk2_true, pk2_false, imp_true, seval, Nat.reduceLeDiff, Nat.reduceEqDiff, reduceCtorEq, ↓reduceIte, cfg0, encMI, st_N, os_N, st_I, os_I, st_M, os_M, slM_nil, Tryd.ntmps9]
    simp (maxSteps := 2000000) -implicitDefEqProofs +contextual (disch := first | assumption | omega | decide +kernel) only [push_cast, ↓capI, br2_true, br2_false, frk_tt, frk_tf, frk_f, frkD_tt, frkD_tf, frkD_f, pk2_true, pk2_false, imp_true, seval, Nat.reduceLeDiff, Nat.reduceEqDiff, reduceCtorEq, ↓reduceIte, cfg0, encMI, st_N, os_N, st_I, os_I, st_M, os_M, slM_nil, slN, slI, hl, hw]
    refine callO.pc h13 ?_
    simp (maxSteps := 2000000) -implicitDefEqProofs +contextual (disch := first | assumption | omega | decide +kernel) only [push_cast, ↓capI, br2_true, br2_false, frk_tt, frk_tf, frk_f, frkD_tt, frkD_tf, frkD_f, pk2_true, pk2_false, imp_true, seval, Nat.reduceLeDiff, Nat.reduceEqDiff, reduceCtorEq, ↓reduceIte, cfg0, encMI, st_N, os_N, st_I, os_I, st_M, os_M, slM_nil]
    refine callO.pc pc10 ?_
    simp (maxSteps := 2000000) -implicitDefEqProofs +contextual (disch := first | assumption | omega | decide +kernel) only [push_cast, ↓capI, br2_true, br2_false, frk_tt, frk_tf, frk_f, frkD_tt, frkD_tf, frkD_f, pk2_true, pk2_false, imp_true, seval, Nat.reduceLeDiff, Nat.reduceEqDiff, reduceCtorEq, ↓reduceIte, cfg0, encMI, st_N, os_N, st_I, os_I, st_M, os_M, slM_nil]
    refine endK.ret ?_ (by first | rfl | simp [fmN, fm0, belN, bel_Ns, bel_slN, bel_slM, bel_MI, bel_slI, belAll_append]); simp [evRes, getT, retV, Tryd.f9]
  have h15 := pc15 l w (by omega) (by omega)
  rcases hx with ⟨hc, p, hp, hf, h24, e⟩ | ⟨_, e⟩
  case inr => cases e
  have hn : 0 ≤ n := by
    have := (lng_le p).1
    rw [← e] at this
    exact this
  by_cases hle : (w.length : Int) ≤ n
  · refine PC.walk tok mixed cfg0 Tryd.func9 rfl Tryd.call9 (by simp [fmN, fm0, belN, bel_Ns, bel_slN, bel_slM, bel_MI, bel_slI, belAll_append]) (by first | rfl | simp [fmN, fm0, belN, bel_Ns, bel_slN, bel_slM, bel_MI, bel_slI, belAll_append]) ?_; simp (maxSteps := 2000000) -implicitDefEqProofs +contextual (disch := first | assumption | omega | decide +kernel) only [push_cast, ↓capI, br2_true, br2_false, frk_tt, frk_tf, frk_f, frkD_tt, frkD_tf, frkD_f, pk2_true, pk2_false, imp_true, seval, Nat.reduceLeDiff, Nat.reduceEqDiff, reduceCtorEq, ↓reduceIte, cfg0, encMI, st_N, os_N, st_I, os_I, st_M, os_M, slM_nil, Tryd.ntmps9]
    simp (maxSteps := 2000000) -implicitDefEqProofs +contextual (disch := first | assumption | omega | decide +kernel) only [push_cast, ↓capI, br2_true, br2_false, frk_tt, frk_tf, frk_f, frkD_tt, frkD_tf, frkD_f, pk2_true, pk2_false, imp_true, seval, Nat.reduceLeDiff, Nat.reduceEqDiff, reduceCtorEq, ↓reduceIte, cfg0, encMI, st_N, os_N, st_I, os_I, st_M, os_M, slM_nil, slN, slI, hl, hw]
    refine callO.pc h13 ?_
    simp (maxSteps := 2000000) -implicitDefEqProofs +contextual (disch := first | assumption | omega | decide +kernel) only [push_cast, ↓capI, br2_true, br2_false, frk_tt, frk_tf, frk_f, frkD_tt, frkD_tf, frkD_f, pk2_true, pk2_false, imp_true, seval, Nat.reduceLeDiff, Nat.reduceEqDiff, reduceCtorEq, ↓reduceIte, cfg0, encMI, st_N, os_N, st_I, os_I, st_M, os_M, slM_nil, hn, hle]
    refine callO.pc pc10 ?_
    simp (maxSteps := 2000000) -implicitDefEqProofs +contextual (disch := first | assumption | omega | decide +kernel) only [push_cast, ↓capI, br2_true, br2_false, frk_tt, frk_tf, frk_f, frkD_tt, frkD_tf, frkD_f, pk2_true, pk2_false, imp_true, seval, Nat.reduceLeDiff, Nat.reduceEqDiff, reduceCtorEq, ↓reduceIte, cfg0, encMI, st_N, os_N, st_I, os_I, st_M, os_M, slM_nil]
    refine endK.ret ?_ (by first | rfl | simp [fmN, fm0, belN, bel_Ns, bel_slN, bel_slM, bel_MI, bel_slI, belAll_append]); simp [evRes, getT, retV, Tryd.f9]
  · have hm : mtL l w = false := by
      rw [← Bool.not_eq_true]
      intro h
      rw [hf] at h hc
      have := lng_max p w (by rw [← e]) ((mtL_iff hp hc).1 h)
      rw [← e] at this
      exact hle this
    rw [hm] at h15
    refine PC.walk tok mixed cfg0 Tryd.func9 rfl Tryd.call9 (by simp [fmN, fm0, belN, bel_Ns, bel_slN, bel_slM, bel_MI, bel_slI, belAll_append]) (by first | rfl | simp [fmN, fm0, belN, bel_Ns, bel_slN, bel_slM, bel_MI, bel_slI, belAll_append]) ?_; simp (maxSteps := 2000000) -implicitDefEqProofs +contextual (disch := first | assumption | omega | decide +kernel) only [push_cast, ↓capI, br2_true, br2_false, frk_tt, frk_tf, frk_f, frkD_tt, frkD_tf, frkD_f, pk2_true, pk2_false, imp_true, seval, Nat.reduceLeDiff, Nat.reduceEqDiff, reduceCtorEq, ↓reduceIte, cfg0, encMI, st_N, os_N, st_I, os_I, st_M, os_M, slM_nil, Tryd.ntmps9]
    simp (maxSteps := 2000000) -implicitDefEqProofs +contextual (disch := first | assumption | omega | decide +kernel) only [push_cast, ↓capI, br2_true, br2_false, frk_tt, frk_tf, frk_f, frkD_tt, frkD_tf, frkD_f, pk2_true, pk2_false, imp_true, seval, Nat.reduceLeDiff, Nat.reduceEqDiff, reduceCtorEq, ↓reduceIte, cfg0, encMI, st_N, os_N, st_I, os_I, st_M, os_M, slM_nil, slN, slI, hl, hw]
    refine callO.pc h13 ?_
    simp (maxSteps := 2000000) -implicitDefEqProofs +contextual (disch := first | assumption | omega | decide +kernel) only [push_cast, ↓capI, br2_true, br2_false, frk_tt, frk_tf, frk_f, frkD_tt, frkD_tf, frkD_f, pk2_true, pk2_false, imp_true, seval, Nat.reduceLeDiff, Nat.reduceEqDiff, reduceCtorEq, ↓reduceIte, cfg0, encMI, st_N, os_N, st_I, os_I, st_M, os_M, slM_nil, hn, hle]
    refine callO.pc h15 ?_
    simp (maxSteps := 2000000) -implicitDefEqProofs +contextual (disch := first | assumption | omega | decide +kernel) only [push_cast, ↓capI, br2_true, br2_false, frk_tt, frk_tf, frk_f, frkD_tt, frkD_tf, frkD_f, pk2_true, pk2_false, imp_true, seval, Nat.reduceLeDiff, Nat.reduceEqDiff, reduceCtorEq, ↓reduceIte, cfg0, encMI, st_N, os_N, st_I, os_I, st_M, os_M, slM_nil]
    refine callO.pc pc10 ?_
    simp (maxSteps := 2000000) -implicitDefEqProofs +contextual (disch := first | assumption | omega | decide +kernel) only [push_cast, ↓capI, br2_true, br2_false, frk_tt, frk_tf, frk_f, frkD_tt, frkD_tf, frkD_f, pk2_true, pk2_false, imp_true, seval, Nat.reduceLeDiff, Nat.reduceEqDiff, reduceCtorEq, ↓reduceIte, cfg0, encMI, st_N, os_N, st_I, os_I, st_M, os_M, slM_nil]
    refine endK.ret ?_ (by first | rfl | simp [fmN, fm0, belN, bel_Ns, bel_slN, bel_slM, bel_MI, bel_slI, belAll_append]); simp [evRes, getT, retV, Tryd.f9]
theorem law9 (xs : List V) (h : TypA tt 8 [22, 27] xs) : PC Tryd.prog 9 xs (.bool true) := by
  obtain ⟨v, vs, cs, rfl, rfl, h1, h⟩ := typA_cons h
  obtain ⟨v, vs, ds, rfl, rfl, h2, h⟩ := typA_cons h
  obtain rfl := typA_nil h
  obtain ⟨a, ha⟩ := typ_slN h1
  obtain ⟨x, hx⟩ := typ_slI h2
  refine PC.lax ?_
  rw [laxs, laxs, laxs, ha, hx]
  exact pc9 a x
end Go.Proofs.YtginpkchjeooeaaDoor

