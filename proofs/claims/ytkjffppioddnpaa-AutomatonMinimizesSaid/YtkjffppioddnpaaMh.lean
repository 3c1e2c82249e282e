/-
  Joined by a program from the texts L6.
-/
import Derived.Test.YtkjffppioddnpaaMd
import Derived.Test.YtkjffppioddnpaaMf
import Derived.Test.YtkjffppioddnpaaMg
/- Chapter 42: minimization. -/
set_option maxRecDepth 100000
set_option maxHeartbeats 4000000
set_option linter.all false
namespace Go.Proofs.Ytkjffppioddnpaa
open Go.Vm

theorem pc11z : PC Try.prog 11 [zTb, zTb] (.bool true) := by
  refine PC.lax ?_
  have := pc11 (a := ⟨[], []⟩) (b := ⟨[], []⟩) (by decide) (by decide) (fun r hr => by simp at hr)
  rw [decide_eq_true rfl] at this
  exact this
theorem pc11s {n m : Nat} {t : Tb} (ht : okT n m t) : PC Try.prog 11 [.agg (encT t), .agg (encT t)] (.bool true) := by
  have h1 := ht.rows
  have h2 := ht.accs
  have h3 := ht.big
  have h4 := ht.cols
  have := pc11 (a := t) (b := t) (by omega) (by omega) (fun r hr => by rw [ht.row r hr]; omega)
  rwa [decide_eq_true rfl] at this
theorem min_same (t : Tb) : minRV t = minV t := by
  rw [minRV, minV]
  by_cases hc : chkT t = 0
  · rw [if_pos hc, if_pos hc]
    obtain ⟨ht, h64⟩ := okT_of hc
    have := (cntS_rng t).2.2
    rw [parO_eq, if_neg (by omega)]
    rfl
  · rw [if_neg hc, if_neg hc]
theorem pc6 (t : Tb) {l : List Int} (hl : l.length ≤ maxLen) : PC Try.prog 6 [.agg (encT t), slI l] (.bool true) := by
  have h14 := pc14 t
  have h18 := pc18 t
  have h19 := pc19 t
  have h20 := pc20 t
  have h21 := pc21 t
  rw [min_same] at h19
  cases hs : smT t with
  | false =>
    rw [hs] at h14
    obtain ⟨next, acc⟩ := t
    refine PC.walk tok mixed cfg0 Try.func6 rfl Try.call6 (by simp [belAll_append, bel_ints, bel_bools, bel_rows, bel_slI, bel_slR, bel_slB, bel_encT, bel_pthV]) (by first | rfl | simp [belAll_append, bel_ints, bel_bools, bel_rows, bel_slI, bel_slR, bel_slB, bel_encT, bel_pthV]) ?_; simp (maxSteps := 2000000) -implicitDefEqProofs +contextual (disch := first | assumption | omega | decide +kernel) only [push_cast, ↓capI, br2_true, br2_false, frk_tt, frk_tf, frk_f, frkD_tt, frkD_tf, frkD_f, pk2_true, pk2_false, imp_true, seval, Nat.reduceLeDiff, Nat.reduceEqDiff, reduceCtorEq, ↓reduceIte, cfg0, slI, slR, slB, encT, ones_ints, ones_bools, getV_map, getV_mapO, List.length_map, Nat.mul_one, Try.ntmps6]
    refine callO.pc h14 ?_
    simp (maxSteps := 2000000) -implicitDefEqProofs +contextual (disch := first | assumption | omega | decide +kernel) only [push_cast, ↓capI, br2_true, br2_false, frk_tt, frk_tf, frk_f, frkD_tt, frkD_tf, frkD_f, pk2_true, pk2_false, imp_true, seval, Nat.reduceLeDiff, Nat.reduceEqDiff, reduceCtorEq, ↓reduceIte, cfg0, slI, slR, slB, encT, ones_ints, ones_bools, getV_map, getV_mapO, List.length_map, Nat.mul_one]
    refine callO.pc pc8 ?_
    simp (maxSteps := 2000000) -implicitDefEqProofs +contextual (disch := first | assumption | omega | decide +kernel) only [push_cast, ↓capI, br2_true, br2_false, frk_tt, frk_tf, frk_f, frkD_tt, frkD_tf, frkD_f, pk2_true, pk2_false, imp_true, seval, Nat.reduceLeDiff, Nat.reduceEqDiff, reduceCtorEq, ↓reduceIte, cfg0, slI, slR, slB, encT, ones_ints, ones_bools, getV_map, getV_mapO, List.length_map, Nat.mul_one]
    refine endK.ret ?_ (by first | rfl | simp [belAll_append, bel_ints, bel_bools, bel_rows, bel_slI, bel_slR, bel_slB, bel_encT, bel_pthV]); simp [evRes, getT, retV, Try.f6]
  | true =>
  rw [hs] at h14
  by_cases h60 : 60 < l.length
  · obtain ⟨next, acc⟩ := t
    refine PC.walk tok mixed cfg0 Try.func6 rfl Try.call6 (by simp [belAll_append, bel_ints, bel_bools, bel_rows, bel_slI, bel_slR, bel_slB, bel_encT, bel_pthV]) (by first | rfl | simp [belAll_append, bel_ints, bel_bools, bel_rows, bel_slI, bel_slR, bel_slB, bel_encT, bel_pthV]) ?_; simp (maxSteps := 2000000) -implicitDefEqProofs +contextual (disch := first | assumption | omega | decide +kernel) only [push_cast, ↓capI, br2_true, br2_false, frk_tt, frk_tf, frk_f, frkD_tt, frkD_tf, frkD_f, pk2_true, pk2_false, imp_true, seval, Nat.reduceLeDiff, Nat.reduceEqDiff, reduceCtorEq, ↓reduceIte, cfg0, slI, slR, slB, encT, ones_ints, ones_bools, getV_map, getV_mapO, List.length_map, Nat.mul_one, Try.ntmps6]
    refine callO.pc h14 ?_
    simp (maxSteps := 2000000) -implicitDefEqProofs +contextual (disch := first | assumption | omega | decide +kernel) only [push_cast, ↓capI, br2_true, br2_false, frk_tt, frk_tf, frk_f, frkD_tt, frkD_tf, frkD_f, pk2_true, pk2_false, imp_true, seval, Nat.reduceLeDiff, Nat.reduceEqDiff, reduceCtorEq, ↓reduceIte, cfg0, slI, slR, slB, encT, ones_ints, ones_bools, getV_map, getV_mapO, List.length_map, Nat.mul_one, h60]
    refine callO.pc pc8 ?_
    simp (maxSteps := 2000000) -implicitDefEqProofs +contextual (disch := first | assumption | omega | decide +kernel) only [push_cast, ↓capI, br2_true, br2_false, frk_tt, frk_tf, frk_f, frkD_tt, frkD_tf, frkD_f, pk2_true, pk2_false, imp_true, seval, Nat.reduceLeDiff, Nat.reduceEqDiff, reduceCtorEq, ↓reduceIte, cfg0, slI, slR, slB, encT, ones_ints, ones_bools, getV_map, getV_mapO, List.length_map, Nat.mul_one]
    refine endK.ret ?_ (by first | rfl | simp [belAll_append, bel_ints, bel_bools, bel_rows, bel_slI, bel_slR, bel_slB, bel_encT, bel_pthV]); simp [evRes, getT, retV, Try.f6]
  have h12 := pc12 t (l := l) (by omega)
  have h22 := pc22 t (l := l) (by omega)
  by_cases hc : chkT t = 0
  · obtain ⟨ht, h64⟩ := okT_of hc
    obtain ⟨hm, hmn⟩ := minS_ok ht
    have hm64 : (minS t).next.length ≤ 64 := by omega
    have hcm := chkT_of hm hm64
    have h18m := pc18 (minS t)
    have h12m := pc12 (minS t) (l := l) (by omega)
    have hacc : accA (minS t) l = accA t l := by rw [accA_La hcm, accA_La hc]; exact minS_lang ht l
    rw [minV, if_pos hc] at h18 h19
    rw [minV, if_pos hcm, minS_min ht] at h18m
    rw [hacc] at h12m
    rw [hc] at h20 h21
    have h11 := pc11s hm
    generalize accA t l = av at h12 h22 h12m
    generalize minS t = u at h18 h19 h18m h12m h11 hmn
    clear hacc ht hm hm64 hcm hs
    obtain ⟨next, acc⟩ := t
    obtain ⟨n2, a2⟩ := u
    simp only at hmn
    refine PC.walk tok mixed cfg0 Try.func6 rfl Try.call6 (by simp [belAll_append, bel_ints, bel_bools, bel_rows, bel_slI, bel_slR, bel_slB, bel_encT, bel_pthV]) (by first | rfl | simp [belAll_append, bel_ints, bel_bools, bel_rows, bel_slI, bel_slR, bel_slB, bel_encT, bel_pthV]) ?_; simp (maxSteps := 2000000) -implicitDefEqProofs +contextual (disch := first | assumption | omega | decide +kernel) only [push_cast, ↓capI, br2_true, br2_false, frk_tt, frk_tf, frk_f, frkD_tt, frkD_tf, frkD_f, pk2_true, pk2_false, imp_true, seval, Nat.reduceLeDiff, Nat.reduceEqDiff, reduceCtorEq, ↓reduceIte, cfg0, slI, slR, slB, encT, ones_ints, ones_bools, getV_map, getV_mapO, List.length_map, Nat.mul_one, Try.ntmps6]
    refine callO.pc h14 ?_
    simp (maxSteps := 2000000) -implicitDefEqProofs +contextual (disch := first | assumption | omega | decide +kernel) only [push_cast, ↓capI, br2_true, br2_false, frk_tt, frk_tf, frk_f, frkD_tt, frkD_tf, frkD_f, pk2_true, pk2_false, imp_true, seval, Nat.reduceLeDiff, Nat.reduceEqDiff, reduceCtorEq, ↓reduceIte, cfg0, slI, slR, slB, encT, ones_ints, ones_bools, getV_map, getV_mapO, List.length_map, Nat.mul_one, h60]
    refine callO.pc h18 ?_
    simp (maxSteps := 2000000) -implicitDefEqProofs +contextual (disch := first | assumption | omega | decide +kernel) only [push_cast, ↓capI, br2_true, br2_false, frk_tt, frk_tf, frk_f, frkD_tt, frkD_tf, frkD_f, pk2_true, pk2_false, imp_true, seval, Nat.reduceLeDiff, Nat.reduceEqDiff, reduceCtorEq, ↓reduceIte, cfg0, slI, slR, slB, encT, ones_ints, ones_bools, getV_map, getV_mapO, List.length_map, Nat.mul_one]
    refine callO.pc h19 ?_
    simp (maxSteps := 2000000) -implicitDefEqProofs +contextual (disch := first | assumption | omega | decide +kernel) only [push_cast, ↓capI, br2_true, br2_false, frk_tt, frk_tf, frk_f, frkD_tt, frkD_tf, frkD_f, pk2_true, pk2_false, imp_true, seval, Nat.reduceLeDiff, Nat.reduceEqDiff, reduceCtorEq, ↓reduceIte, cfg0, slI, slR, slB, encT, ones_ints, ones_bools, getV_map, getV_mapO, List.length_map, Nat.mul_one]
    refine callG.pc1 h20 ?_
    simp (maxSteps := 2000000) -implicitDefEqProofs +contextual (disch := first | assumption | omega | decide +kernel) only [push_cast, ↓capI, br2_true, br2_false, frk_tt, frk_tf, frk_f, frkD_tt, frkD_tf, frkD_f, pk2_true, pk2_false, imp_true, seval, Nat.reduceLeDiff, Nat.reduceEqDiff, reduceCtorEq, ↓reduceIte, cfg0, slI, slR, slB, encT, ones_ints, ones_bools, getV_map, getV_mapO, List.length_map, Nat.mul_one]
    refine callG.pc1 h21 ?_
    simp (maxSteps := 2000000) -implicitDefEqProofs +contextual (disch := first | assumption | omega | decide +kernel) only [push_cast, ↓capI, br2_true, br2_false, frk_tt, frk_tf, frk_f, frkD_tt, frkD_tf, frkD_f, pk2_true, pk2_false, imp_true, seval, Nat.reduceLeDiff, Nat.reduceEqDiff, reduceCtorEq, ↓reduceIte, cfg0, slI, slR, slB, encT, ones_ints, ones_bools, getV_map, getV_mapO, List.length_map, Nat.mul_one]
    refine callG.pc1 h11 ?_
    simp (maxSteps := 2000000) -implicitDefEqProofs +contextual (disch := first | assumption | omega | decide +kernel) only [push_cast, ↓capI, br2_true, br2_false, frk_tt, frk_tf, frk_f, frkD_tt, frkD_tf, frkD_f, pk2_true, pk2_false, imp_true, seval, Nat.reduceLeDiff, Nat.reduceEqDiff, reduceCtorEq, ↓reduceIte, cfg0, slI, slR, slB, encT, ones_ints, ones_bools, getV_map, getV_mapO, List.length_map, Nat.mul_one]
    refine callG.pc1 h12 ?_
    simp (maxSteps := 2000000) -implicitDefEqProofs +contextual (disch := first | assumption | omega | decide +kernel) only [push_cast, ↓capI, br2_true, br2_false, frk_tt, frk_tf, frk_f, frkD_tt, frkD_tf, frkD_f, pk2_true, pk2_false, imp_true, seval, Nat.reduceLeDiff, Nat.reduceEqDiff, reduceCtorEq, ↓reduceIte, cfg0, slI, slR, slB, encT, ones_ints, ones_bools, getV_map, getV_mapO, List.length_map, Nat.mul_one]
    refine callG.pc1 h22 ?_
    simp (maxSteps := 2000000) -implicitDefEqProofs +contextual (disch := first | assumption | omega | decide +kernel) only [push_cast, ↓capI, br2_true, br2_false, frk_tt, frk_tf, frk_f, frkD_tt, frkD_tf, frkD_f, pk2_true, pk2_false, imp_true, seval, Nat.reduceLeDiff, Nat.reduceEqDiff, reduceCtorEq, ↓reduceIte, cfg0, slI, slR, slB, encT, ones_ints, ones_bools, getV_map, getV_mapO, List.length_map, Nat.mul_one]
    refine callO.pc h18m ?_
    simp (maxSteps := 2000000) -implicitDefEqProofs +contextual (disch := first | assumption | omega | decide +kernel) only [push_cast, ↓capI, br2_true, br2_false, frk_tt, frk_tf, frk_f, frkD_tt, frkD_tf, frkD_f, pk2_true, pk2_false, imp_true, seval, Nat.reduceLeDiff, Nat.reduceEqDiff, reduceCtorEq, ↓reduceIte, cfg0, slI, slR, slB, encT, ones_ints, ones_bools, getV_map, getV_mapO, List.length_map, Nat.mul_one]
    refine callG.pc1 h11 ?_
    simp (maxSteps := 2000000) -implicitDefEqProofs +contextual (disch := first | assumption | omega | decide +kernel) only [push_cast, ↓capI, br2_true, br2_false, frk_tt, frk_tf, frk_f, frkD_tt, frkD_tf, frkD_f, pk2_true, pk2_false, imp_true, seval, Nat.reduceLeDiff, Nat.reduceEqDiff, reduceCtorEq, ↓reduceIte, cfg0, slI, slR, slB, encT, ones_ints, ones_bools, getV_map, getV_mapO, List.length_map, Nat.mul_one]
    refine callG.pc1 h12m ?_
    simp (maxSteps := 2000000) -implicitDefEqProofs +contextual (disch := first | assumption | omega | decide +kernel) only [push_cast, ↓capI, br2_true, br2_false, frk_tt, frk_tf, frk_f, frkD_tt, frkD_tf, frkD_f, pk2_true, pk2_false, imp_true, seval, Nat.reduceLeDiff, Nat.reduceEqDiff, reduceCtorEq, ↓reduceIte, cfg0, slI, slR, slB, encT, ones_ints, ones_bools, getV_map, getV_mapO, List.length_map, Nat.mul_one]
    refine callG.pc1 h12 ?_
    simp (maxSteps := 2000000) -implicitDefEqProofs +contextual (disch := first | assumption | omega | decide +kernel) only [push_cast, ↓capI, br2_true, br2_false, frk_tt, frk_tf, frk_f, frkD_tt, frkD_tf, frkD_f, pk2_true, pk2_false, imp_true, seval, Nat.reduceLeDiff, Nat.reduceEqDiff, reduceCtorEq, ↓reduceIte, cfg0, slI, slR, slB, encT, ones_ints, ones_bools, getV_map, getV_mapO, List.length_map, Nat.mul_one, hmn]
    refine callG.pc1 pc8 ?_
    simp (maxSteps := 2000000) -implicitDefEqProofs +contextual (disch := first | assumption | omega | decide +kernel) only [push_cast, ↓capI, br2_true, br2_false, frk_tt, frk_tf, frk_f, frkD_tt, frkD_tf, frkD_f, pk2_true, pk2_false, imp_true, seval, Nat.reduceLeDiff, Nat.reduceEqDiff, reduceCtorEq, ↓reduceIte, cfg0, slI, slR, slB, encT, ones_ints, ones_bools, getV_map, getV_mapO, List.length_map, Nat.mul_one]
    refine endK.ret ?_ (by first | rfl | simp [belAll_append, bel_ints, bel_bools, bel_rows, bel_slI, bel_slR, bel_slB, bel_encT, bel_pthV]); simp [evRes, getT, retV, Try.f6]
  · rw [minV, if_neg hc] at h18 h19
    have h11 := pc11z
    generalize accA t l = av at h12 h22
    generalize hcc : chkT t = e at h18 h19 h20 h21 hc
    clear hs hcc
    obtain ⟨next, acc⟩ := t
    refine PC.walk tok mixed cfg0 Try.func6 rfl Try.call6 (by simp [belAll_append, bel_ints, bel_bools, bel_rows, bel_slI, bel_slR, bel_slB, bel_encT, bel_pthV]) (by first | rfl | simp [belAll_append, bel_ints, bel_bools, bel_rows, bel_slI, bel_slR, bel_slB, bel_encT, bel_pthV]) ?_; simp (maxSteps := 2000000) -implicitDefEqProofs +contextual (disch := first | assumption | omega | decide +kernel) only [push_cast, ↓capI, br2_true, br2_false, frk_tt, frk_tf, frk_f, frkD_tt, frkD_tf, frkD_f, pk2_true, pk2_false, imp_true, seval, Nat.reduceLeDiff, Nat.reduceEqDiff, reduceCtorEq, ↓reduceIte, cfg0, slI, slR, slB, encT, ones_ints, ones_bools, getV_map, getV_mapO, List.length_map, Nat.mul_one, Try.ntmps6]
    refine callO.pc h14 ?_
    simp (maxSteps := 2000000) -implicitDefEqProofs +contextual (disch := first | assumption | omega | decide +kernel) only [push_cast, ↓capI, br2_true, br2_false, frk_tt, frk_tf, frk_f, frkD_tt, frkD_tf, frkD_f, pk2_true, pk2_false, imp_true, seval, Nat.reduceLeDiff, Nat.reduceEqDiff, reduceCtorEq, ↓reduceIte, cfg0, slI, slR, slB, encT, ones_ints, ones_bools, getV_map, getV_mapO, List.length_map, Nat.mul_one, h60]
    refine callO.pc h18 ?_
    simp (maxSteps := 2000000) -implicitDefEqProofs +contextual (disch := first | assumption | omega | decide +kernel) only [push_cast, ↓capI, br2_true, br2_false, frk_tt, frk_tf, frk_f, frkD_tt, frkD_tf, frkD_f, pk2_true, pk2_false, imp_true, seval, Nat.reduceLeDiff, Nat.reduceEqDiff, reduceCtorEq, ↓reduceIte, cfg0, slI, slR, slB, encT, ones_ints, ones_bools, getV_map, getV_mapO, List.length_map, Nat.mul_one, zTb]
    refine callO.pc h19 ?_
    simp (maxSteps := 2000000) -implicitDefEqProofs +contextual (disch := first | assumption | omega | decide +kernel) only [push_cast, ↓capI, br2_true, br2_false, frk_tt, frk_tf, frk_f, frkD_tt, frkD_tf, frkD_f, pk2_true, pk2_false, imp_true, seval, Nat.reduceLeDiff, Nat.reduceEqDiff, reduceCtorEq, ↓reduceIte, cfg0, slI, slR, slB, encT, ones_ints, ones_bools, getV_map, getV_mapO, List.length_map, Nat.mul_one, zTb]
    refine callG.pc1 h20 ?_
    simp (maxSteps := 2000000) -implicitDefEqProofs +contextual (disch := first | assumption | omega | decide +kernel) only [push_cast, ↓capI, br2_true, br2_false, frk_tt, frk_tf, frk_f, frkD_tt, frkD_tf, frkD_f, pk2_true, pk2_false, imp_true, seval, Nat.reduceLeDiff, Nat.reduceEqDiff, reduceCtorEq, ↓reduceIte, cfg0, slI, slR, slB, encT, ones_ints, ones_bools, getV_map, getV_mapO, List.length_map, Nat.mul_one]
    refine callG.pc1 h21 ?_
    simp (maxSteps := 2000000) -implicitDefEqProofs +contextual (disch := first | assumption | omega | decide +kernel) only [push_cast, ↓capI, br2_true, br2_false, frk_tt, frk_tf, frk_f, frkD_tt, frkD_tf, frkD_f, pk2_true, pk2_false, imp_true, seval, Nat.reduceLeDiff, Nat.reduceEqDiff, reduceCtorEq, ↓reduceIte, cfg0, slI, slR, slB, encT, ones_ints, ones_bools, getV_map, getV_mapO, List.length_map, Nat.mul_one]
    refine callG.pc1 h11 ?_
    simp (maxSteps := 2000000) -implicitDefEqProofs +contextual (disch := first | assumption | omega | decide +kernel) only [push_cast, ↓capI, br2_true, br2_false, frk_tt, frk_tf, frk_f, frkD_tt, frkD_tf, frkD_f, pk2_true, pk2_false, imp_true, seval, Nat.reduceLeDiff, Nat.reduceEqDiff, reduceCtorEq, ↓reduceIte, cfg0, slI, slR, slB, encT, ones_ints, ones_bools, getV_map, getV_mapO, List.length_map, Nat.mul_one]
    refine callG.pc1 h12 ?_
    simp (maxSteps := 2000000) -implicitDefEqProofs +contextual (disch := first | assumption | omega | decide +kernel) only [push_cast, ↓capI, br2_true, br2_false, frk_tt, frk_tf, frk_f, frkD_tt, frkD_tf, frkD_f, pk2_true, pk2_false, imp_true, seval, Nat.reduceLeDiff, Nat.reduceEqDiff, reduceCtorEq, ↓reduceIte, cfg0, slI, slR, slB, encT, ones_ints, ones_bools, getV_map, getV_mapO, List.length_map, Nat.mul_one]
    refine callG.pc1 h22 ?_
    simp (maxSteps := 2000000) -implicitDefEqProofs +contextual (disch := first | assumption | omega | decide +kernel) only [push_cast, ↓capI, br2_true, br2_false, frk_tt, frk_tf, frk_f, frkD_tt, frkD_tf, frkD_f, pk2_true, pk2_false, imp_true, seval, Nat.reduceLeDiff, Nat.reduceEqDiff, reduceCtorEq, ↓reduceIte, cfg0, slI, slR, slB, encT, ones_ints, ones_bools, getV_map, getV_mapO, List.length_map, Nat.mul_one, hc]
    refine callO.pc pc8 ?_
    simp (maxSteps := 2000000) -implicitDefEqProofs +contextual (disch := first | assumption | omega | decide +kernel) only [push_cast, ↓capI, br2_true, br2_false, frk_tt, frk_tf, frk_f, frkD_tt, frkD_tf, frkD_f, pk2_true, pk2_false, imp_true, seval, Nat.reduceLeDiff, Nat.reduceEqDiff, reduceCtorEq, ↓reduceIte, cfg0, slI, slR, slB, encT, ones_ints, ones_bools, getV_map, getV_mapO, List.length_map, Nat.mul_one]
    refine endK.ret ?_ (by first | rfl | simp [belAll_append, bel_ints, bel_bools, bel_rows, bel_slI, bel_slR, bel_slB, bel_encT, bel_pthV]); simp [evRes, getT, retV, Try.f6]
theorem law6 (xs : List V) (h : TypA tt 8 [27, 33] xs) : PC Try.prog 6 xs (.bool true) := by
  obtain ⟨v1, vs, cs, rfl, rfl, h1, h⟩ := typA_cons h
  obtain ⟨v2, vs, cs2, rfl, rfl, h2, h⟩ := typA_cons h
  obtain rfl := typA_nil h
  obtain ⟨a, ha, _⟩ := typ_T (m := 4) h1
  obtain ⟨b, hb, hbl⟩ := typ_slI (m := 6) h2
  refine PC.lax ?_
  rw [laxs, laxs, laxs, ha, hb]
  exact pc6 a hbl
end Go.Proofs.Ytkjffppioddnpaa

