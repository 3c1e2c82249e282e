/-
  Joined by a program from the texts L3.
-/
import Derived.Test.YtafongdfnpnneaaGreatDoorMe
import Derived.Test.YtafongdfnpnneaaGreatDoorMf
/- Chapter 53: the law EventlogChecks as a contract. -/
set_option maxRecDepth 100000
set_option maxHeartbeats 4000000
set_option linter.all false
namespace Go.Proofs.YtafongdfnpnneaaGreatDoor
open Go.Vm Go.ChangeShapes Go.WideShapes Go.ChangeAt Go.RowKit

theorem st_E (l : List Ev) : (slE l).st = slE l := rfl
theorem os_E {g : Bool} {l : List Ev} {xs : List V} {p : Prop} : optSide g (slE l :: xs) p = optSide g xs p := rfl
theorem st_H (l : List Top.Hp) : (Top.slH l).st = Top.slH l := rfl
theorem os_H {g : Bool} {l : List Top.Hp} {xs : List V} {p : Prop} : optSide g (Top.slH l :: xs) p = optSide g xs p := rfl
theorem lenT3 {t : Top.Tp} : (Top.encT t).length = 3 := rfl
theorem getT3 {t : Top.Tp} : getV (Top.encT t) 0 3 = Top.encT t := rfl
theorem pc3 (t : Top.Tp) (l : List Ev) (id : Int) : PC Tryz.prog 3 [.agg (Top.encT t), slE l, .int .i64 id] (.bool true) := by
  have h4 := Top.pc4 t
  have hln : (slE l) = .sl false (l.flatMap encE) l.length := rfl
  cases hs : Top.small t with
  | false =>
    rw [hs] at h4
    refine PC.walk tok mixed cfg0 Tryz.func3 rfl Tryz.call3 (by simp [bel_slE, bel_Es, Top.belT, Top.bel_slH, st_E]) (by first | rfl | simp [bel_slE, bel_Es, Top.belT, Top.bel_slH, st_E]) ?_; simp (maxSteps := 2000000) -implicitDefEqProofs +contextual (disch := first | assumption | omega | decide +kernel) only [push_cast, ↓capI, br2_true, br2_false, frk_tt, frk_tf, frk_f, frkD_tt, frkD_tf, frkD_f, pk2_true, pk2_false, imp_true, seval, Nat.reduceLeDiff, Nat.reduceEqDiff, reduceCtorEq, ↓reduceIte, cfg0, st_E, os_E, st_H, os_H, lenT3, getT3, Nat.mul_one, Tryz.ntmps3]
    refine callO.pc h4 ?_
    simp (maxSteps := 2000000) -implicitDefEqProofs +contextual (disch := first | assumption | omega | decide +kernel) only [push_cast, ↓capI, br2_true, br2_false, frk_tt, frk_tf, frk_f, frkD_tt, frkD_tf, frkD_f, pk2_true, pk2_false, imp_true, seval, Nat.reduceLeDiff, Nat.reduceEqDiff, reduceCtorEq, ↓reduceIte, cfg0, st_E, os_E, st_H, os_H, lenT3, getT3, Nat.mul_one]
    refine callO.pc awake ?_
    simp (maxSteps := 2000000) -implicitDefEqProofs +contextual (disch := first | assumption | omega | decide +kernel) only [push_cast, ↓capI, br2_true, br2_false, frk_tt, frk_tf, frk_f, frkD_tt, frkD_tf, frkD_f, pk2_true, pk2_false, imp_true, seval, Nat.reduceLeDiff, Nat.reduceEqDiff, reduceCtorEq, ↓reduceIte, cfg0, st_E, os_E, st_H, os_H, lenT3, getT3, Nat.mul_one]
    refine endK.ret ?_ (by first | rfl | simp [bel_slE, bel_Es, Top.belT, Top.bel_slH, st_E]); simp [evRes, getT, retV, Tryz.f3]
  | true =>
  rw [hs] at h4
  have hf := Top.small_fit hs
  have hp : t.ports.length ≤ 4000000000 := by
    simp only [Top.small, Bool.and_eq_true, decide_eq_true_eq] at hs
    omega
  by_cases hl : 80 < l.length
  · have hl2 : (80 : Int) < (l.length : Int) := by omega
    refine PC.walk tok mixed cfg0 Tryz.func3 rfl Tryz.call3 (by simp [bel_slE, bel_Es, Top.belT, Top.bel_slH, st_E]) (by first | rfl | simp [bel_slE, bel_Es, Top.belT, Top.bel_slH, st_E]) ?_; simp (maxSteps := 2000000) -implicitDefEqProofs +contextual (disch := first | assumption | omega | decide +kernel) only [push_cast, ↓capI, br2_true, br2_false, frk_tt, frk_tf, frk_f, frkD_tt, frkD_tf, frkD_f, pk2_true, pk2_false, imp_true, seval, Nat.reduceLeDiff, Nat.reduceEqDiff, reduceCtorEq, ↓reduceIte, cfg0, st_E, os_E, st_H, os_H, lenT3, getT3, Nat.mul_one, Tryz.ntmps3]
    refine callO.pc h4 ?_
    simp (maxSteps := 2000000) -implicitDefEqProofs +contextual (disch := first | assumption | omega | decide +kernel) only [push_cast, ↓capI, br2_true, br2_false, frk_tt, frk_tf, frk_f, frkD_tt, frkD_tf, frkD_f, pk2_true, pk2_false, imp_true, seval, Nat.reduceLeDiff, Nat.reduceEqDiff, reduceCtorEq, ↓reduceIte, cfg0, st_E, os_E, st_H, os_H, lenT3, getT3, Nat.mul_one, hln, hl2]
    refine callO.pc awake ?_
    simp (maxSteps := 2000000) -implicitDefEqProofs +contextual (disch := first | assumption | omega | decide +kernel) only [push_cast, ↓capI, br2_true, br2_false, frk_tt, frk_tf, frk_f, frkD_tt, frkD_tf, frkD_f, pk2_true, pk2_false, imp_true, seval, Nat.reduceLeDiff, Nat.reduceEqDiff, reduceCtorEq, ↓reduceIte, cfg0, st_E, os_E, st_H, os_H, lenT3, getT3, Nat.mul_one]
    refine endK.ret ?_ (by first | rfl | simp [bel_slE, bel_Es, Top.belT, Top.bel_slH, st_E]); simp [evRes, getT, retV, Tryz.f3]
  have hl2 : ¬ (80 : Int) < (l.length : Int) := by omega
  have h6 := Top.pc6 t hf hp l (by omega)
  have h7 := Top.pc7 t hf hp l (by omega)
  have h9 := fun i : Int => Top.pc9 t hf hp l (by omega) i
  have h10 := fun i : Int => Top.pc10 t hf hp l (by omega) i
  have hlen : ∀ i : Int, (Top.hopsEv t l i).length ≤ 4000000000 := by
    intro i
    unfold Top.hopsEv
    split
    · split
      · simp
      · have hrun : ∀ (l : List Ev) (r : Top.Rn) (j : Nat), r.inv t j → ∃ k, k ≤ j + l.length ∧ (Top.runG r l).inv t k := by
          intro l
          induction l with
          | nil => intro r j h; exact ⟨j, by simp, h⟩
          | cons e l ih =>
            intro r j h
            rw [Top.runG]
            split
            · rename_i h0
              obtain ⟨k, h1, h2⟩ := ih _ _ (Top.inv_step h h0)
              exact ⟨k, by simp only [List.length_cons]; omega, h2⟩
            · exact ⟨j, by simp, h⟩
        obtain ⟨k, h1, h2⟩ := hrun l _ 0 (Top.inv0 t)
        have := h2.hops i.toNat
        omega
    · simp
  have h8 : ∀ i : Int, PC Tryz.prog 8 [Top.slH (Top.hopsEv t l i), Top.slH (Top.hopsEv t l i)] (.bool true) := fun i => by
    have := Top.pc8 (Top.hopsEv t l i) (Top.hopsEv t l i) (hlen i) (hlen i)
    rw [decide_eq_true rfl] at this
    exact this
  generalize Top.checkEv t l = c at h6 h7
  obtain ⟨a, e⟩ := c
  refine PC.walk tok mixed cfg0 Tryz.func3 rfl Tryz.call3 (by simp [bel_slE, bel_Es, Top.belT, Top.bel_slH, st_E]) (by first | rfl | simp [bel_slE, bel_Es, Top.belT, Top.bel_slH, st_E]) ?_; simp (maxSteps := 2000000) -implicitDefEqProofs +contextual (disch := first | assumption | omega | decide +kernel) only [push_cast, ↓capI, br2_true, br2_false, frk_tt, frk_tf, frk_f, frkD_tt, frkD_tf, frkD_f, pk2_true, pk2_false, imp_true, seval, Nat.reduceLeDiff, Nat.reduceEqDiff, reduceCtorEq, ↓reduceIte, cfg0, st_E, os_E, st_H, os_H, lenT3, getT3, Nat.mul_one, Tryz.ntmps3]
  refine callO.pc h4 ?_
  simp (maxSteps := 2000000) -implicitDefEqProofs +contextual (disch := first | assumption | omega | decide +kernel) only [push_cast, ↓capI, br2_true, br2_false, frk_tt, frk_tf, frk_f, frkD_tt, frkD_tf, frkD_f, pk2_true, pk2_false, imp_true, seval, Nat.reduceLeDiff, Nat.reduceEqDiff, reduceCtorEq, ↓reduceIte, cfg0, st_E, os_E, st_H, os_H, lenT3, getT3, Nat.mul_one, hln, hl2]
  refine callO.pc h6 ?_
  simp (maxSteps := 2000000) -implicitDefEqProofs +contextual (disch := first | assumption | omega | decide +kernel) only [push_cast, ↓capI, br2_true, br2_false, frk_tt, frk_tf, frk_f, frkD_tt, frkD_tf, frkD_f, pk2_true, pk2_false, imp_true, seval, Nat.reduceLeDiff, Nat.reduceEqDiff, reduceCtorEq, ↓reduceIte, cfg0, st_E, os_E, st_H, os_H, lenT3, getT3, Nat.mul_one, Top.encII]
  refine callO.pc h7 ?_
  simp (maxSteps := 2000000) -implicitDefEqProofs +contextual (disch := first | assumption | omega | decide +kernel) only [push_cast, ↓capI, br2_true, br2_false, frk_tt, frk_tf, frk_f, frkD_tt, frkD_tf, frkD_f, pk2_true, pk2_false, imp_true, seval, Nat.reduceLeDiff, Nat.reduceEqDiff, reduceCtorEq, ↓reduceIte, cfg0, st_E, os_E, st_H, os_H, lenT3, getT3, Nat.mul_one, Top.encII]
  refine callG.pc1 (h9 id) ?_
  simp (maxSteps := 2000000) -implicitDefEqProofs +contextual (disch := first | assumption | omega | decide +kernel) only [push_cast, ↓capI, br2_true, br2_false, frk_tt, frk_tf, frk_f, frkD_tt, frkD_tf, frkD_f, pk2_true, pk2_false, imp_true, seval, Nat.reduceLeDiff, Nat.reduceEqDiff, reduceCtorEq, ↓reduceIte, cfg0, st_E, os_E, st_H, os_H, lenT3, getT3, Nat.mul_one]
  refine callG.pc1 (h10 id) ?_
  simp (maxSteps := 2000000) -implicitDefEqProofs +contextual (disch := first | assumption | omega | decide +kernel) only [push_cast, ↓capI, br2_true, br2_false, frk_tt, frk_tf, frk_f, frkD_tt, frkD_tf, frkD_f, pk2_true, pk2_false, imp_true, seval, Nat.reduceLeDiff, Nat.reduceEqDiff, reduceCtorEq, ↓reduceIte, cfg0, st_E, os_E, st_H, os_H, lenT3, getT3, Nat.mul_one]
  refine callG.pc1 (h8 id) ?_
  simp (maxSteps := 2000000) -implicitDefEqProofs +contextual (disch := first | assumption | omega | decide +kernel) only [push_cast, ↓capI, br2_true, br2_false, frk_tt, frk_tf, frk_f, frkD_tt, frkD_tf, frkD_f, pk2_true, pk2_false, imp_true, seval, Nat.reduceLeDiff, Nat.reduceEqDiff, reduceCtorEq, ↓reduceIte, cfg0, st_E, os_E, st_H, os_H, lenT3, getT3, Nat.mul_one]
  refine T.lp tok mixed cfg0 (fun (i : Nat) => dd 1 (kp 1 (dd 1 (kp 1 (dd 7 (sv (.int .i64 i) (dd 56 (nl)))))))) (fun H0 (i : Nat) => H0) (fun (i : Nat) => i ≤ 4) (fun (i : Nat) => 4 - i) (0) ?_ ?_ ?_
  · exact Nat.zero_le _
  · exact Gn.canon (J := _) (by first | rfl | (simp [List.append_nil]; done) | (simp [List.append_nil]; rfl)) (by simp [wk, putT, kp, dd, sv, nl]) (by simp [List.length_append]) (by simp [bel_slE, bel_Es, Top.belT, Top.bel_slH, st_E, kp, dd, sv, nl]) (by simp [bel_slE, bel_Es, Top.belT, Top.bel_slH, st_E])
  intro i hi
  by_cases hlt : i < 4
  · simp (maxSteps := 2000000) -implicitDefEqProofs +contextual (disch := first | assumption | omega | decide +kernel) only [push_cast, ↓capI, br2_true, br2_false, frk_tt, frk_tf, frk_f, frkD_tt, frkD_tf, frkD_f, pk2_true, pk2_false, imp_true, seval, Nat.reduceLeDiff, Nat.reduceEqDiff, reduceCtorEq, ↓reduceIte, cfg0, st_E, os_E, st_H, os_H, lenT3, getT3, Nat.mul_one]
    refine callG.pc1 (h9 i) ?_
    simp (maxSteps := 2000000) -implicitDefEqProofs +contextual (disch := first | assumption | omega | decide +kernel) only [push_cast, ↓capI, br2_true, br2_false, frk_tt, frk_tf, frk_f, frkD_tt, frkD_tf, frkD_f, pk2_true, pk2_false, imp_true, seval, Nat.reduceLeDiff, Nat.reduceEqDiff, reduceCtorEq, ↓reduceIte, cfg0, st_E, os_E, st_H, os_H, lenT3, getT3, Nat.mul_one]
    refine callG.pc1 (h10 i) ?_
    simp (maxSteps := 2000000) -implicitDefEqProofs +contextual (disch := first | assumption | omega | decide +kernel) only [push_cast, ↓capI, br2_true, br2_false, frk_tt, frk_tf, frk_f, frkD_tt, frkD_tf, frkD_f, pk2_true, pk2_false, imp_true, seval, Nat.reduceLeDiff, Nat.reduceEqDiff, reduceCtorEq, ↓reduceIte, cfg0, st_E, os_E, st_H, os_H, lenT3, getT3, Nat.mul_one]
    refine callG.pc1 (h8 i) ?_
    simp (maxSteps := 2000000) -implicitDefEqProofs +contextual (disch := first | assumption | omega | decide +kernel) only [push_cast, ↓capI, br2_true, br2_false, frk_tt, frk_tf, frk_f, frkD_tt, frkD_tf, frkD_f, pk2_true, pk2_false, imp_true, seval, Nat.reduceLeDiff, Nat.reduceEqDiff, reduceCtorEq, ↓reduceIte, cfg0, st_E, os_E, st_H, os_H, lenT3, getT3, Nat.mul_one]
    refine ⟨i + 1, hlt, by (try simp only); omega, ?_⟩; exact Gn.canon (by first | rfl | (simp [List.append_nil]; rfl)) (by simp [wk]) (by simp [List.length_append]) (by simp [bel_slE, bel_Es, Top.belT, Top.bel_slH, st_E]) (by simp [bel_slE, bel_Es, Top.belT, Top.bel_slH, st_E])
  · have hie : i = 4 := by omega
    subst hie
    simp (maxSteps := 2000000) -implicitDefEqProofs +contextual (disch := first | assumption | omega | decide +kernel) only [push_cast, ↓capI, br2_true, br2_false, frk_tt, frk_tf, frk_f, frkD_tt, frkD_tf, frkD_f, pk2_true, pk2_false, imp_true, seval, Nat.reduceLeDiff, Nat.reduceEqDiff, reduceCtorEq, ↓reduceIte, cfg0, st_E, os_E, st_H, os_H, lenT3, getT3, Nat.mul_one]
    refine callO.pc awake ?_
    simp (maxSteps := 2000000) -implicitDefEqProofs +contextual (disch := first | assumption | omega | decide +kernel) only [push_cast, ↓capI, br2_true, br2_false, frk_tt, frk_tf, frk_f, frkD_tt, frkD_tf, frkD_f, pk2_true, pk2_false, imp_true, seval, Nat.reduceLeDiff, Nat.reduceEqDiff, reduceCtorEq, ↓reduceIte, cfg0, st_E, os_E, st_H, os_H, lenT3, getT3, Nat.mul_one]
    refine endK.ret ?_ (by first | rfl | simp [bel_slE, bel_Es, Top.belT, Top.bel_slH, st_E]); simp [evRes, getT, retV, Tryz.f3]
theorem law3 (xs : List V) (h : TypA tt 8 [26, 27, 3] xs) : PC Tryz.prog 3 xs (.bool true) := by
  obtain ⟨v, vs, cs, rfl, rfl, h1, h⟩ := typA_cons h
  obtain ⟨v, vs, cs2, rfl, rfl, h2, h⟩ := typA_cons h
  obtain ⟨v, vs, cs3, rfl, rfl, h3, h⟩ := typA_cons h
  obtain rfl := typA_nil h
  obtain ⟨t, ht⟩ := typ_T (m := 3) h1
  obtain ⟨l, hl, _⟩ := typ_slE h2
  obtain ⟨n, hn⟩ := typ_J h3
  refine PC.lax ?_
  rw [laxs, laxs, laxs, laxs, ht, hl, hn]
  exact pc3 t l n
end Go.Proofs.YtafongdfnpnneaaGreatDoor

