/-
  Joined by a program from the texts L5.
-/
import Derived.Test.YtafongdfnpnneaaDoorMe
/- Chapter 53: the law EventlogPrefixes as a contract. -/
set_option maxRecDepth 100000
set_option maxHeartbeats 4000000
set_option linter.all false
namespace Go.Proofs.YtafongdfnpnneaaDoor
open Go.Vm Go.ChangeShapes Go.WideShapes Go.ChangeAt Go.RowKit

theorem lenT3 {t : Top.Tp} : (Top.encT t).length = 3 := rfl
theorem getT3 {t : Top.Tp} : getV (Top.encT t) 0 3 = Top.encT t := rfl
theorem chk_take : ∀ (l : List Ev) (r : Top.Rn) (i n : Nat),
    ((Top.chkG r l i).2 = 0 → Top.chkG r (l.take n) i = (0, 0)) ∧
    ((Top.chkG r l i).2 ≠ 0 → (i : Int) ≤ (Top.chkG r l i).1 ∧ (((n + i : Nat) : Int) ≤ (Top.chkG r l i).1 → Top.chkG r (l.take n) i = (0, 0)) ∧ ((Top.chkG r l i).1 < ((n + i : Nat) : Int) → Top.chkG r (l.take n) i = Top.chkG r l i))
  | [], r, i, n => by
    refine ⟨fun _ => by rw [List.take_nil]; rfl, fun h => absurd rfl h⟩
  | e :: l, r, i, 0 => by
    rw [List.take_zero]
    refine ⟨fun _ => rfl, fun h => ?_⟩
    have hle : (i : Int) ≤ (Top.chkG r (e :: l) i).1 := by
      rw [Top.chkG] at h ⊢
      by_cases h0 : Top.ckR r e = 0
      · rw [if_pos h0] at h ⊢
        have := ((chk_take l (Top.apR r e) (i + 1) 0).2 h).1
        omega
      · rw [if_neg h0]; exact Int.le_refl _
    exact ⟨hle, fun _ => rfl, fun h2 => by omega⟩
  | e :: l, r, i, n + 1 => by
    rw [List.take_succ_cons, Top.chkG, Top.chkG]
    by_cases h0 : Top.ckR r e = 0
    · rw [if_pos h0, if_pos h0]
      obtain ⟨a, b⟩ := chk_take l (Top.apR r e) (i + 1) n
      refine ⟨a, fun h => ?_⟩
      obtain ⟨b1, b2, b3⟩ := b h
      rw [show n + (i + 1) = n + 1 + i by omega] at b2 b3
      exact ⟨by omega, b2, b3⟩
    · rw [if_neg h0, if_neg h0]
      refine ⟨fun h => absurd h h0, fun _ => ⟨Int.le_refl _, fun h => ?_, fun _ => rfl⟩⟩
      simp only at h
      omega
theorem prefix_law (t : Top.Tp) (l : List Ev) (n : Nat) : (if (Top.checkEv t l).2 = 0 ∨ (n : Int) ≤ (Top.checkEv t l).1 then (Top.checkEv t (l.take n)).2 = 0 ∨ (Top.checkEv t l).1 = -1 else Top.checkEv t (l.take n) = Top.checkEv t l) := by
  unfold Top.checkEv
  by_cases hc : Top.chk t = 0
  · rw [if_pos hc, if_pos hc]
    obtain ⟨a, b⟩ := chk_take l (Top.r0 t) 0 n
    by_cases he : (Top.chkG (Top.r0 t) l 0).2 = 0
    · rw [if_pos (.inl he), a he]
      exact .inl rfl
    · obtain ⟨b1, b2, b3⟩ := b he
      by_cases hn : (n : Int) ≤ (Top.chkG (Top.r0 t) l 0).1
      · rw [if_pos (.inr hn), b2 hn]
        exact .inl rfl
      · rw [if_neg (by rintro (h | h); exact he h; exact hn h)]
        exact b3 (by simp only [Nat.add_zero]; omega)
  · rw [if_neg hc, if_neg hc]
    rw [if_neg (by rintro (h | h); exact hc h; simp only at h; omega)]
theorem pc5 (t : Top.Tp) (l : List Ev) (n : Int) : PC Tryd.prog 5 [.agg (Top.encT t), slE l, .int .i64 n] (.bool true) := by
  have h13 := Top.pc13 t
  have hln : (slE l) = .sl false (l.flatMap encE) l.length := rfl
  cases hs : Top.small t with
  | false =>
    rw [hs] at h13
    refine PC.walk tok mixed cfg0 Tryd.func5 rfl Tryd.call5 (by simp [bel_slE, bel_Es, Top.belT]) (by first | rfl | simp [bel_slE, bel_Es, Top.belT]) ?_; simp (maxSteps := 2000000) -implicitDefEqProofs +contextual (disch := first | assumption | omega | decide +kernel) only [push_cast, ↓capI, br2_true, br2_false, frk_tt, frk_tf, frk_f, frkD_tt, frkD_tf, frkD_f, pk2_true, pk2_false, imp_true, seval, Nat.reduceLeDiff, Nat.reduceEqDiff, reduceCtorEq, ↓reduceIte, cfg0, st_E, os_E, lenT3, getT3, Nat.mul_one, Tryd.ntmps5]
    refine callO.pc h13 ?_
    simp (maxSteps := 2000000) -implicitDefEqProofs +contextual (disch := first | assumption | omega | decide +kernel) only [push_cast, ↓capI, br2_true, br2_false, frk_tt, frk_tf, frk_f, frkD_tt, frkD_tf, frkD_f, pk2_true, pk2_false, imp_true, seval, Nat.reduceLeDiff, Nat.reduceEqDiff, reduceCtorEq, ↓reduceIte, cfg0, st_E, os_E, lenT3, getT3, Nat.mul_one]
    refine callO.pc awake ?_
    simp (maxSteps := 2000000) -implicitDefEqProofs +contextual (disch := first | assumption | omega | decide +kernel) only [push_cast, ↓capI, br2_true, br2_false, frk_tt, frk_tf, frk_f, frkD_tt, frkD_tf, frkD_f, pk2_true, pk2_false, imp_true, seval, Nat.reduceLeDiff, Nat.reduceEqDiff, reduceCtorEq, ↓reduceIte, cfg0, st_E, os_E, lenT3, getT3, Nat.mul_one]
    refine endK.ret ?_ (by first | rfl | simp [bel_slE, bel_Es, Top.belT]); simp [evRes, getT, retV, Tryd.f5]
  | true =>
  rw [hs] at h13
  have hf := Top.small_fit hs
  have hp : t.ports.length ≤ 4000000000 := by
    simp only [Top.small, Bool.and_eq_true, decide_eq_true_eq] at hs
    omega
  by_cases hl : 80 < l.length
  · have hl2 : (80 : Int) < (l.length : Int) := by omega
    refine PC.walk tok mixed cfg0 Tryd.func5 rfl Tryd.call5 (by simp [bel_slE, bel_Es, Top.belT]) (by first | rfl | simp [bel_slE, bel_Es, Top.belT]) ?_; simp (maxSteps := 2000000) -implicitDefEqProofs +contextual (disch := first | assumption | omega | decide +kernel) only [push_cast, ↓capI, br2_true, br2_false, frk_tt, frk_tf, frk_f, frkD_tt, frkD_tf, frkD_f, pk2_true, pk2_false, imp_true, seval, Nat.reduceLeDiff, Nat.reduceEqDiff, reduceCtorEq, ↓reduceIte, cfg0, st_E, os_E, lenT3, getT3, Nat.mul_one, Tryd.ntmps5]
    refine callO.pc h13 ?_
    simp (maxSteps := 2000000) -implicitDefEqProofs +contextual (disch := first | assumption | omega | decide +kernel) only [push_cast, ↓capI, br2_true, br2_false, frk_tt, frk_tf, frk_f, frkD_tt, frkD_tf, frkD_f, pk2_true, pk2_false, imp_true, seval, Nat.reduceLeDiff, Nat.reduceEqDiff, reduceCtorEq, ↓reduceIte, cfg0, st_E, os_E, lenT3, getT3, Nat.mul_one, hln, hl2]
    refine callO.pc awake ?_
    simp (maxSteps := 2000000) -implicitDefEqProofs +contextual (disch := first | assumption | omega | decide +kernel) only [push_cast, ↓capI, br2_true, br2_false, frk_tt, frk_tf, frk_f, frkD_tt, frkD_tf, frkD_f, pk2_true, pk2_false, imp_true, seval, Nat.reduceLeDiff, Nat.reduceEqDiff, reduceCtorEq, ↓reduceIte, cfg0, st_E, os_E, lenT3, getT3, Nat.mul_one]
    refine endK.ret ?_ (by first | rfl | simp [bel_slE, bel_Es, Top.belT]); simp [evRes, getT, retV, Tryd.f5]
  have hl2 : ¬ (80 : Int) < (l.length : Int) := by omega
  by_cases hn : n < 0
  · refine PC.walk tok mixed cfg0 Tryd.func5 rfl Tryd.call5 (by simp [bel_slE, bel_Es, Top.belT]) (by first | rfl | simp [bel_slE, bel_Es, Top.belT]) ?_; simp (maxSteps := 2000000) -implicitDefEqProofs +contextual (disch := first | assumption | omega | decide +kernel) only [push_cast, ↓capI, br2_true, br2_false, frk_tt, frk_tf, frk_f, frkD_tt, frkD_tf, frkD_f, pk2_true, pk2_false, imp_true, seval, Nat.reduceLeDiff, Nat.reduceEqDiff, reduceCtorEq, ↓reduceIte, cfg0, st_E, os_E, lenT3, getT3, Nat.mul_one, Tryd.ntmps5]
    refine callO.pc h13 ?_
    simp (maxSteps := 2000000) -implicitDefEqProofs +contextual (disch := first | assumption | omega | decide +kernel) only [push_cast, ↓capI, br2_true, br2_false, frk_tt, frk_tf, frk_f, frkD_tt, frkD_tf, frkD_f, pk2_true, pk2_false, imp_true, seval, Nat.reduceLeDiff, Nat.reduceEqDiff, reduceCtorEq, ↓reduceIte, cfg0, st_E, os_E, lenT3, getT3, Nat.mul_one, hln, hl2, hn]
    refine callO.pc awake ?_
    simp (maxSteps := 2000000) -implicitDefEqProofs +contextual (disch := first | assumption | omega | decide +kernel) only [push_cast, ↓capI, br2_true, br2_false, frk_tt, frk_tf, frk_f, frkD_tt, frkD_tf, frkD_f, pk2_true, pk2_false, imp_true, seval, Nat.reduceLeDiff, Nat.reduceEqDiff, reduceCtorEq, ↓reduceIte, cfg0, st_E, os_E, lenT3, getT3, Nat.mul_one]
    refine endK.ret ?_ (by first | rfl | simp [bel_slE, bel_Es, Top.belT]); simp [evRes, getT, retV, Tryd.f5]
  by_cases hn2 : (l.length : Int) < n
  · refine PC.walk tok mixed cfg0 Tryd.func5 rfl Tryd.call5 (by simp [bel_slE, bel_Es, Top.belT]) (by first | rfl | simp [bel_slE, bel_Es, Top.belT]) ?_; simp (maxSteps := 2000000) -implicitDefEqProofs +contextual (disch := first | assumption | omega | decide +kernel) only [push_cast, ↓capI, br2_true, br2_false, frk_tt, frk_tf, frk_f, frkD_tt, frkD_tf, frkD_f, pk2_true, pk2_false, imp_true, seval, Nat.reduceLeDiff, Nat.reduceEqDiff, reduceCtorEq, ↓reduceIte, cfg0, st_E, os_E, lenT3, getT3, Nat.mul_one, Tryd.ntmps5]
    refine callO.pc h13 ?_
    simp (maxSteps := 2000000) -implicitDefEqProofs +contextual (disch := first | assumption | omega | decide +kernel) only [push_cast, ↓capI, br2_true, br2_false, frk_tt, frk_tf, frk_f, frkD_tt, frkD_tf, frkD_f, pk2_true, pk2_false, imp_true, seval, Nat.reduceLeDiff, Nat.reduceEqDiff, reduceCtorEq, ↓reduceIte, cfg0, st_E, os_E, lenT3, getT3, Nat.mul_one, hln, hl2, hn, hn2]
    refine callO.pc awake ?_
    simp (maxSteps := 2000000) -implicitDefEqProofs +contextual (disch := first | assumption | omega | decide +kernel) only [push_cast, ↓capI, br2_true, br2_false, frk_tt, frk_tf, frk_f, frkD_tt, frkD_tf, frkD_f, pk2_true, pk2_false, imp_true, seval, Nat.reduceLeDiff, Nat.reduceEqDiff, reduceCtorEq, ↓reduceIte, cfg0, st_E, os_E, lenT3, getT3, Nat.mul_one]
    refine endK.ret ?_ (by first | rfl | simp [bel_slE, bel_Es, Top.belT]); simp [evRes, getT, retV, Tryd.f5]
  obtain ⟨m, rfl⟩ : ∃ m : Nat, n = m := ⟨n.toNat, by omega⟩
  have hm : m ≤ l.length := by omega
  have h14 := Top.pc14 t hf hp l (by omega)
  have h14b := Top.pc14 t hf hp (l.take m) (by rw [List.length_take]; omega)
  have hlm : slE (l.take m) = .sl false ((l.flatMap encE).take (m * 4)) m := by
    rw [slE, take_flat lenE, List.length_take, Nat.min_eq_left hm]
  rw [hlm] at h14b
  have hlaw := prefix_law t l m
  generalize Top.checkEv t l = c1 at h14 hlaw
  generalize Top.checkEv t (l.take m) = c2 at h14b hlaw
  obtain ⟨a1, e1⟩ := c1
  obtain ⟨a2, e2⟩ := c2
  simp only at hlaw
  refine PC.walk tok mixed cfg0 Tryd.func5 rfl Tryd.call5 (by simp [bel_slE, bel_Es, Top.belT]) (by first | rfl | simp [bel_slE, bel_Es, Top.belT]) ?_; simp (maxSteps := 2000000) -implicitDefEqProofs +contextual (disch := first | assumption | omega | decide +kernel) only [push_cast, ↓capI, br2_true, br2_false, frk_tt, frk_tf, frk_f, frkD_tt, frkD_tf, frkD_f, pk2_true, pk2_false, imp_true, seval, Nat.reduceLeDiff, Nat.reduceEqDiff, reduceCtorEq, ↓reduceIte, cfg0, st_E, os_E, lenT3, getT3, Nat.mul_one, Tryd.ntmps5]
  refine callO.pc h13 ?_
  simp (maxSteps := 2000000) -implicitDefEqProofs +contextual (disch := first | assumption | omega | decide +kernel) only [push_cast, ↓capI, br2_true, br2_false, frk_tt, frk_tf, frk_f, frkD_tt, frkD_tf, frkD_f, pk2_true, pk2_false, imp_true, seval, Nat.reduceLeDiff, Nat.reduceEqDiff, reduceCtorEq, ↓reduceIte, cfg0, st_E, os_E, lenT3, getT3, Nat.mul_one, hln, hl2, hn, hn2]
  refine callO.pc h14 ?_
  simp (maxSteps := 2000000) -implicitDefEqProofs +contextual (disch := first | assumption | omega | decide +kernel) only [push_cast, ↓capI, br2_true, br2_false, frk_tt, frk_tf, frk_f, frkD_tt, frkD_tf, frkD_f, pk2_true, pk2_false, imp_true, seval, Nat.reduceLeDiff, Nat.reduceEqDiff, reduceCtorEq, ↓reduceIte, cfg0, st_E, os_E, lenT3, getT3, Nat.mul_one, Top.encII]
  refine callG.pc1 h14b ?_
  simp (maxSteps := 2000000) -implicitDefEqProofs +contextual (disch := first | assumption | omega | decide +kernel) only [push_cast, ↓capI, br2_true, br2_false, frk_tt, frk_tf, frk_f, frkD_tt, frkD_tf, frkD_f, pk2_true, pk2_false, imp_true, seval, Nat.reduceLeDiff, Nat.reduceEqDiff, reduceCtorEq, ↓reduceIte, cfg0, st_E, os_E, lenT3, getT3, Nat.mul_one, Top.encII]
  by_cases he : e1 = 0
  · rw [if_pos (.inl he)] at hlaw
    subst he
    by_cases h2 : e2 = 0
    · simp (maxSteps := 2000000) -implicitDefEqProofs +contextual (disch := first | assumption | omega | decide +kernel) only [push_cast, ↓capI, br2_true, br2_false, frk_tt, frk_tf, frk_f, frkD_tt, frkD_tf, frkD_f, pk2_true, pk2_false, imp_true, seval, Nat.reduceLeDiff, Nat.reduceEqDiff, reduceCtorEq, ↓reduceIte, cfg0, st_E, os_E, lenT3, getT3, Nat.mul_one, h2]
      refine callO.pc awake ?_
      simp (maxSteps := 2000000) -implicitDefEqProofs +contextual (disch := first | assumption | omega | decide +kernel) only [push_cast, ↓capI, br2_true, br2_false, frk_tt, frk_tf, frk_f, frkD_tt, frkD_tf, frkD_f, pk2_true, pk2_false, imp_true, seval, Nat.reduceLeDiff, Nat.reduceEqDiff, reduceCtorEq, ↓reduceIte, cfg0, st_E, os_E, lenT3, getT3, Nat.mul_one]
      refine endK.ret ?_ (by first | rfl | simp [bel_slE, bel_Es, Top.belT]); simp [evRes, getT, retV, Tryd.f5]
    · have ha := hlaw.resolve_left h2
      simp (maxSteps := 2000000) -implicitDefEqProofs +contextual (disch := first | assumption | omega | decide +kernel) only [push_cast, ↓capI, br2_true, br2_false, frk_tt, frk_tf, frk_f, frkD_tt, frkD_tf, frkD_f, pk2_true, pk2_false, imp_true, seval, Nat.reduceLeDiff, Nat.reduceEqDiff, reduceCtorEq, ↓reduceIte, cfg0, st_E, os_E, lenT3, getT3, Nat.mul_one, h2, ha]
      refine callO.pc awake ?_
      simp (maxSteps := 2000000) -implicitDefEqProofs +contextual (disch := first | assumption | omega | decide +kernel) only [push_cast, ↓capI, br2_true, br2_false, frk_tt, frk_tf, frk_f, frkD_tt, frkD_tf, frkD_f, pk2_true, pk2_false, imp_true, seval, Nat.reduceLeDiff, Nat.reduceEqDiff, reduceCtorEq, ↓reduceIte, cfg0, st_E, os_E, lenT3, getT3, Nat.mul_one]
      refine endK.ret ?_ (by first | rfl | simp [bel_slE, bel_Es, Top.belT]); simp [evRes, getT, retV, Tryd.f5]
  · by_cases hma : (m : Int) ≤ a1
    · rw [if_pos (.inr hma)] at hlaw
      have h2 := hlaw.resolve_right (by omega)
      simp (maxSteps := 2000000) -implicitDefEqProofs +contextual (disch := first | assumption | omega | decide +kernel) only [push_cast, ↓capI, br2_true, br2_false, frk_tt, frk_tf, frk_f, frkD_tt, frkD_tf, frkD_f, pk2_true, pk2_false, imp_true, seval, Nat.reduceLeDiff, Nat.reduceEqDiff, reduceCtorEq, ↓reduceIte, cfg0, st_E, os_E, lenT3, getT3, Nat.mul_one, he, hma, h2]
      refine callO.pc awake ?_
      simp (maxSteps := 2000000) -implicitDefEqProofs +contextual (disch := first | assumption | omega | decide +kernel) only [push_cast, ↓capI, br2_true, br2_false, frk_tt, frk_tf, frk_f, frkD_tt, frkD_tf, frkD_f, pk2_true, pk2_false, imp_true, seval, Nat.reduceLeDiff, Nat.reduceEqDiff, reduceCtorEq, ↓reduceIte, cfg0, st_E, os_E, lenT3, getT3, Nat.mul_one]
      refine endK.ret ?_ (by first | rfl | simp [bel_slE, bel_Es, Top.belT]); simp [evRes, getT, retV, Tryd.f5]
    · rw [if_neg (by rintro (h | h); exact he h; exact hma h)] at hlaw
      simp only [Prod.mk.injEq] at hlaw
      obtain ⟨rfl, rfl⟩ := hlaw
      simp (maxSteps := 2000000) -implicitDefEqProofs +contextual (disch := first | assumption | omega | decide +kernel) only [push_cast, ↓capI, br2_true, br2_false, frk_tt, frk_tf, frk_f, frkD_tt, frkD_tf, frkD_f, pk2_true, pk2_false, imp_true, seval, Nat.reduceLeDiff, Nat.reduceEqDiff, reduceCtorEq, ↓reduceIte, cfg0, st_E, os_E, lenT3, getT3, Nat.mul_one, he, hma]
      refine callO.pc awake ?_
      simp (maxSteps := 2000000) -implicitDefEqProofs +contextual (disch := first | assumption | omega | decide +kernel) only [push_cast, ↓capI, br2_true, br2_false, frk_tt, frk_tf, frk_f, frkD_tt, frkD_tf, frkD_f, pk2_true, pk2_false, imp_true, seval, Nat.reduceLeDiff, Nat.reduceEqDiff, reduceCtorEq, ↓reduceIte, cfg0, st_E, os_E, lenT3, getT3, Nat.mul_one]
      refine endK.ret ?_ (by first | rfl | simp [bel_slE, bel_Es, Top.belT]); simp [evRes, getT, retV, Tryd.f5]
theorem law5 (xs : List V) (h : TypA tt 8 [36, 22, 3] xs) : PC Tryd.prog 5 xs (.bool true) := by
  obtain ⟨v, vs, cs, rfl, rfl, h1, h⟩ := typA_cons h
  obtain ⟨v, vs, cs2, rfl, rfl, h2, h⟩ := typA_cons h
  obtain ⟨v, vs, cs3, rfl, rfl, h3, h⟩ := typA_cons h
  obtain rfl := typA_nil h
  obtain ⟨t, ht⟩ := typ_T (m := 3) h1
  obtain ⟨l, hl, _⟩ := typ_slE h2
  obtain ⟨n, hn⟩ := typ_J h3
  refine PC.lax ?_
  rw [laxs, laxs, laxs, laxs, ht, hl, hn]
  exact pc5 t l n
end Go.Proofs.YtafongdfnpnneaaDoor

