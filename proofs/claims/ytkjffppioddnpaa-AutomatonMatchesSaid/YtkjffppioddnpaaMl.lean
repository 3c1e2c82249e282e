/-
  Joined by a program from the texts L4.
-/
import Derived.Test.YtkjffppioddnpaaMd
import Derived.Test.YtkjffppioddnpaaMj
import Derived.Test.YtkjffppioddnpaaMk
/- Chapter 42: an automaton accepts what its expression matches. -/
set_option maxRecDepth 100000
set_option maxHeartbeats 4000000
set_option linter.all false
namespace Go.Proofs.Ytkjffppioddnpaa
open Go.Vm

theorem okP_mono {sw : Int} (h : sw ≤ 1000000000) : ∀ p : Pr, okP sw p → okP 1000000000 p
  | .leaf x, hp => by
    refine ⟨hp.1, ?_⟩
    have h2 := hp.2
    unfold chk1 at h2 ⊢
    split at h2
    · cases h2
    · rename_i h3
      rw [if_neg h3]
      split at h2
      · cases h2
      · rename_i h4
        rw [if_neg]
        rintro ⟨h5, h6⟩
        refine h4 ⟨h5, ?_⟩
        unfold badN at h6 ⊢
        omega
  | .un x p, hp => ⟨hp.1, okP_mono h p hp.2⟩
  | .bin x p q, hp => ⟨hp.1, okP_mono h p hp.2.1, okP_mono h q hp.2.2⟩
theorem bld_lang {t : Tb} {m : Nat} {p : Pr} (hm : m ≤ 16) (hm1 : 0 < m) (hp : okP m p) (hl : (flat p).length ≤ 24) (ht : t = minS (detT (nxP p) m)) {w : List Int} :
    La t 0 w = true ↔ ltrs m w ∧ Mt p w := by
  have hsz := siz_nx (m : Int) p hp
  have hD := cls_of (x := nxP p) (by omega)
  have hT := (detT_ok hD (x := nxP p) (by simp) (m := m) hm hm1).1
  rw [ht, minS_lang hT w, detT_La hD (by simp) hm hm1, MN_nx m p w hp]
theorem pc4 {r : List Nd} {sw : Int} {l : List Int} : PC Try.prog 4 [slN r, .int .i64 sw, slI l] (.bool true) := by
  by_cases h1 : 60 < r.length
  · refine PC.walk tok mixed cfg0 Try.func4 rfl Try.call4 (by simp [belAll_append, bel_ints, bel_bools, bel_rows, bel_slI, bel_slR, bel_slB, bel_encT, belN, bel_Ns, bel_slN]) (by first | rfl | simp [belAll_append, bel_ints, bel_bools, bel_rows, bel_slI, bel_slR, bel_slB, bel_encT, belN, bel_Ns, bel_slN]) ?_; simp (maxSteps := 2000000) -implicitDefEqProofs +contextual (disch := first | assumption | omega | decide +kernel) only [push_cast, ↓capI, br2_true, br2_false, frk_tt, frk_tf, frk_f, frkD_tt, frkD_tf, frkD_f, pk2_true, pk2_false, imp_true, seval, Nat.reduceLeDiff, Nat.reduceEqDiff, reduceCtorEq, ↓reduceIte, cfg0, slI, slR, slB, encT, ones_ints, ones_bools, getV_map, getV_mapO, List.length_map, Nat.mul_one, slN, Try.ntmps4]
    (try simp (maxSteps := 2000000) -implicitDefEqProofs +contextual (disch := first | assumption | omega | decide +kernel) only [push_cast, ↓capI, br2_true, br2_false, frk_tt, frk_tf, frk_f, frkD_tt, frkD_tf, frkD_f, pk2_true, pk2_false, imp_true, seval, Nat.reduceLeDiff, Nat.reduceEqDiff, reduceCtorEq, ↓reduceIte, cfg0, slI, slR, slB, encT, ones_ints, ones_bools, getV_map, getV_mapO, List.length_map, Nat.mul_one, slN, h1])
    refine callO.pc pc8 ?_
    simp (maxSteps := 2000000) -implicitDefEqProofs +contextual (disch := first | assumption | omega | decide +kernel) only [push_cast, ↓capI, br2_true, br2_false, frk_tt, frk_tf, frk_f, frkD_tt, frkD_tf, frkD_f, pk2_true, pk2_false, imp_true, seval, Nat.reduceLeDiff, Nat.reduceEqDiff, reduceCtorEq, ↓reduceIte, cfg0, slI, slR, slB, encT, ones_ints, ones_bools, getV_map, getV_mapO, List.length_map, Nat.mul_one, slN]
    refine endK.ret ?_ (by first | rfl | simp [belAll_append, bel_ints, bel_bools, bel_rows, bel_slI, bel_slR, bel_slB, bel_encT, belN, bel_Ns, bel_slN]); simp [evRes, getT, retV, Try.f4]
  by_cases h2 : 30 < l.length
  · refine PC.walk tok mixed cfg0 Try.func4 rfl Try.call4 (by simp [belAll_append, bel_ints, bel_bools, bel_rows, bel_slI, bel_slR, bel_slB, bel_encT, belN, bel_Ns, bel_slN]) (by first | rfl | simp [belAll_append, bel_ints, bel_bools, bel_rows, bel_slI, bel_slR, bel_slB, bel_encT, belN, bel_Ns, bel_slN]) ?_; simp (maxSteps := 2000000) -implicitDefEqProofs +contextual (disch := first | assumption | omega | decide +kernel) only [push_cast, ↓capI, br2_true, br2_false, frk_tt, frk_tf, frk_f, frkD_tt, frkD_tf, frkD_f, pk2_true, pk2_false, imp_true, seval, Nat.reduceLeDiff, Nat.reduceEqDiff, reduceCtorEq, ↓reduceIte, cfg0, slI, slR, slB, encT, ones_ints, ones_bools, getV_map, getV_mapO, List.length_map, Nat.mul_one, slN, Try.ntmps4]
    (try simp (maxSteps := 2000000) -implicitDefEqProofs +contextual (disch := first | assumption | omega | decide +kernel) only [push_cast, ↓capI, br2_true, br2_false, frk_tt, frk_tf, frk_f, frkD_tt, frkD_tf, frkD_f, pk2_true, pk2_false, imp_true, seval, Nat.reduceLeDiff, Nat.reduceEqDiff, reduceCtorEq, ↓reduceIte, cfg0, slI, slR, slB, encT, ones_ints, ones_bools, getV_map, getV_mapO, List.length_map, Nat.mul_one, slN, h1, h2])
    refine callO.pc pc8 ?_
    simp (maxSteps := 2000000) -implicitDefEqProofs +contextual (disch := first | assumption | omega | decide +kernel) only [push_cast, ↓capI, br2_true, br2_false, frk_tt, frk_tf, frk_f, frkD_tt, frkD_tf, frkD_f, pk2_true, pk2_false, imp_true, seval, Nat.reduceLeDiff, Nat.reduceEqDiff, reduceCtorEq, ↓reduceIte, cfg0, slI, slR, slB, encT, ones_ints, ones_bools, getV_map, getV_mapO, List.length_map, Nat.mul_one, slN]
    refine endK.ret ?_ (by first | rfl | simp [belAll_append, bel_ints, bel_bools, bel_rows, bel_slI, bel_slR, bel_slB, bel_encT, belN, bel_Ns, bel_slN]); simp [evRes, getT, retV, Try.f4]
  rcases bldS (r := r) (sw := sw) (by omega) with ⟨e, he, h⟩ | ⟨t, m, p, hsw, ht, h64, hmt, hp, hr, h24, hdt, h⟩
  · refine PC.walk tok mixed cfg0 Try.func4 rfl Try.call4 (by simp [belAll_append, bel_ints, bel_bools, bel_rows, bel_slI, bel_slR, bel_slB, bel_encT, belN, bel_Ns, bel_slN]) (by first | rfl | simp [belAll_append, bel_ints, bel_bools, bel_rows, bel_slI, bel_slR, bel_slB, bel_encT, belN, bel_Ns, bel_slN]) ?_; simp (maxSteps := 2000000) -implicitDefEqProofs +contextual (disch := first | assumption | omega | decide +kernel) only [push_cast, ↓capI, br2_true, br2_false, frk_tt, frk_tf, frk_f, frkD_tt, frkD_tf, frkD_f, pk2_true, pk2_false, imp_true, seval, Nat.reduceLeDiff, Nat.reduceEqDiff, reduceCtorEq, ↓reduceIte, cfg0, slI, slR, slB, encT, ones_ints, ones_bools, getV_map, getV_mapO, List.length_map, Nat.mul_one, slN, Try.ntmps4]
    (try simp (maxSteps := 2000000) -implicitDefEqProofs +contextual (disch := first | assumption | omega | decide +kernel) only [push_cast, ↓capI, br2_true, br2_false, frk_tt, frk_tf, frk_f, frkD_tt, frkD_tf, frkD_f, pk2_true, pk2_false, imp_true, seval, Nat.reduceLeDiff, Nat.reduceEqDiff, reduceCtorEq, ↓reduceIte, cfg0, slI, slR, slB, encT, ones_ints, ones_bools, getV_map, getV_mapO, List.length_map, Nat.mul_one, slN, h1, h2])
    refine callO.pc h ?_
    simp (maxSteps := 2000000) -implicitDefEqProofs +contextual (disch := first | assumption | omega | decide +kernel) only [push_cast, ↓capI, br2_true, br2_false, frk_tt, frk_tf, frk_f, frkD_tt, frkD_tf, frkD_f, pk2_true, pk2_false, imp_true, seval, Nat.reduceLeDiff, Nat.reduceEqDiff, reduceCtorEq, ↓reduceIte, cfg0, slI, slR, slB, encT, ones_ints, ones_bools, getV_map, getV_mapO, List.length_map, Nat.mul_one, slN, zTb, he]
    refine callO.pc pc8 ?_
    simp (maxSteps := 2000000) -implicitDefEqProofs +contextual (disch := first | assumption | omega | decide +kernel) only [push_cast, ↓capI, br2_true, br2_false, frk_tt, frk_tf, frk_f, frkD_tt, frkD_tf, frkD_f, pk2_true, pk2_false, imp_true, seval, Nat.reduceLeDiff, Nat.reduceEqDiff, reduceCtorEq, ↓reduceIte, cfg0, slI, slR, slB, encT, ones_ints, ones_bools, getV_map, getV_mapO, List.length_map, Nat.mul_one, slN]
    refine endK.ret ?_ (by first | rfl | simp [belAll_append, bel_ints, bel_bools, bel_rows, bel_slI, bel_slR, bel_slB, bel_encT, belN, bel_Ns, bel_slN]); simp [evRes, getT, retV, Try.f4]
  · subst hsw
    have hm := ht.cols
    have hm1 := ht.col1
    have hc := chkT_of ht h64
    have h12 := pc12 t (l := l) (by omega)
    have h13 := pc13 r l (by omega) (by omega)
    have hlang := bld_lang hm hm1 hp h24 hdt (w := l)
    have hok := okP_mono (by omega) p hp
    have hmtl := mtL_iff (l := l) hok (tree_checkP hok h24)
    rw [← hr] at hmtl
    rw [accA_La hc] at h12
    generalize La t 0 l = av at h12 hlang
    generalize mtL r l = bv at h13 hmtl
    rw [← hmtl] at hlang
    clear hmtl hok hdt h24 hr hp hmt hc ht h64
    obtain ⟨na, ca⟩ := t
    refine PC.walk tok mixed cfg0 Try.func4 rfl Try.call4 (by simp [belAll_append, bel_ints, bel_bools, bel_rows, bel_slI, bel_slR, bel_slB, bel_encT, belN, bel_Ns, bel_slN]) (by first | rfl | simp [belAll_append, bel_ints, bel_bools, bel_rows, bel_slI, bel_slR, bel_slB, bel_encT, belN, bel_Ns, bel_slN]) ?_; simp (maxSteps := 2000000) -implicitDefEqProofs +contextual (disch := first | assumption | omega | decide +kernel) only [push_cast, ↓capI, br2_true, br2_false, frk_tt, frk_tf, frk_f, frkD_tt, frkD_tf, frkD_f, pk2_true, pk2_false, imp_true, seval, Nat.reduceLeDiff, Nat.reduceEqDiff, reduceCtorEq, ↓reduceIte, cfg0, slI, slR, slB, encT, ones_ints, ones_bools, getV_map, getV_mapO, List.length_map, Nat.mul_one, slN, Try.ntmps4]
    (try simp (maxSteps := 2000000) -implicitDefEqProofs +contextual (disch := first | assumption | omega | decide +kernel) only [push_cast, ↓capI, br2_true, br2_false, frk_tt, frk_tf, frk_f, frkD_tt, frkD_tf, frkD_f, pk2_true, pk2_false, imp_true, seval, Nat.reduceLeDiff, Nat.reduceEqDiff, reduceCtorEq, ↓reduceIte, cfg0, slI, slR, slB, encT, ones_ints, ones_bools, getV_map, getV_mapO, List.length_map, Nat.mul_one, slN, h1, h2])
    refine callO.pc h ?_
    simp (maxSteps := 2000000) -implicitDefEqProofs +contextual (disch := first | assumption | omega | decide +kernel) only [push_cast, ↓capI, br2_true, br2_false, frk_tt, frk_tf, frk_f, frkD_tt, frkD_tf, frkD_f, pk2_true, pk2_false, imp_true, seval, Nat.reduceLeDiff, Nat.reduceEqDiff, reduceCtorEq, ↓reduceIte, cfg0, slI, slR, slB, encT, ones_ints, ones_bools, getV_map, getV_mapO, List.length_map, Nat.mul_one, slN]
    refine T.lp tok mixed cfg0 (fun ((i : Nat)) => kp 3 (dd 4 (kp 1 (dd 1 (sv (.int .i64 (i : Int)) (dd 66 (nl))))))) (fun H0 ((i : Nat)) => H0) (fun ((i : Nat)) => i ≤ l.length ∧ ∀ c ∈ l.take i, 0 ≤ c ∧ c < (m : Int)) (fun ((i : Nat)) => l.length - i) (0) ?_ ?_ ?_
    · exact ⟨Nat.zero_le _, fun c hc => by simp at hc⟩
    · exact Gn.canon (J := _) (by first | rfl | (simp [List.append_nil, encT, slR, slB, slI]; done) | (simp [List.append_nil, encT, slR, slB, slI]; rfl)) (by simp [wk, slN, putT, kp, dd, sv, nl]) (by simp [List.length_append]) (by simp [belAll_append, bel_ints, bel_bools, bel_rows, bel_slI, bel_slR, bel_slB, bel_encT, belN, bel_Ns, bel_slN, kp, dd, sv, nl]) (by simp [belAll_append, bel_ints, bel_bools, bel_rows, bel_slI, bel_slR, bel_slB, bel_encT, belN, bel_Ns, bel_slN])
    · intro i hi
      obtain ⟨hi, hall⟩ := hi
      by_cases hlt : i < l.length
      · have hno : ¬ (0 ≤ l[i] ∧ l[i] < (m : Int)) → av = false := fun hn => by
          cases av with
          | false => rfl
          | true => exact absurd ((hlang.1 rfl).1 l[i] (List.getElem_mem hlt)) hn
        by_cases hn : l[i] < 0
        · have hav := hno (by omega)
          subst hav
          simp (maxSteps := 2000000) -implicitDefEqProofs +contextual (disch := first | assumption | omega | decide +kernel) only [push_cast, ↓capI, br2_true, br2_false, frk_tt, frk_tf, frk_f, frkD_tt, frkD_tf, frkD_f, pk2_true, pk2_false, imp_true, seval, Nat.reduceLeDiff, Nat.reduceEqDiff, reduceCtorEq, ↓reduceIte, cfg0, slI, slR, slB, encT, ones_ints, ones_bools, getV_map, getV_mapO, List.length_map, Nat.mul_one, slN, hlt, hn]
          refine callO.pc h12 ?_
          simp (maxSteps := 2000000) -implicitDefEqProofs +contextual (disch := first | assumption | omega | decide +kernel) only [push_cast, ↓capI, br2_true, br2_false, frk_tt, frk_tf, frk_f, frkD_tt, frkD_tf, frkD_f, pk2_true, pk2_false, imp_true, seval, Nat.reduceLeDiff, Nat.reduceEqDiff, reduceCtorEq, ↓reduceIte, cfg0, slI, slR, slB, encT, ones_ints, ones_bools, getV_map, getV_mapO, List.length_map, Nat.mul_one, slN]
          refine callO.pc pc8 ?_
          simp (maxSteps := 2000000) -implicitDefEqProofs +contextual (disch := first | assumption | omega | decide +kernel) only [push_cast, ↓capI, br2_true, br2_false, frk_tt, frk_tf, frk_f, frkD_tt, frkD_tf, frkD_f, pk2_true, pk2_false, imp_true, seval, Nat.reduceLeDiff, Nat.reduceEqDiff, reduceCtorEq, ↓reduceIte, cfg0, slI, slR, slB, encT, ones_ints, ones_bools, getV_map, getV_mapO, List.length_map, Nat.mul_one, slN]
          refine endK.ret ?_ (by first | rfl | simp [belAll_append, bel_ints, bel_bools, bel_rows, bel_slI, bel_slR, bel_slB, bel_encT, belN, bel_Ns, bel_slN]); simp [evRes, getT, retV, Try.f4]
        · by_cases hb : (m : Int) ≤ l[i]
          · have hav := hno (by omega)
            subst hav
            simp (maxSteps := 2000000) -implicitDefEqProofs +contextual (disch := first | assumption | omega | decide +kernel) only [push_cast, ↓capI, br2_true, br2_false, frk_tt, frk_tf, frk_f, frkD_tt, frkD_tf, frkD_f, pk2_true, pk2_false, imp_true, seval, Nat.reduceLeDiff, Nat.reduceEqDiff, reduceCtorEq, ↓reduceIte, cfg0, slI, slR, slB, encT, ones_ints, ones_bools, getV_map, getV_mapO, List.length_map, Nat.mul_one, slN, hlt, hn, hb]
            refine callO.pc h12 ?_
            simp (maxSteps := 2000000) -implicitDefEqProofs +contextual (disch := first | assumption | omega | decide +kernel) only [push_cast, ↓capI, br2_true, br2_false, frk_tt, frk_tf, frk_f, frkD_tt, frkD_tf, frkD_f, pk2_true, pk2_false, imp_true, seval, Nat.reduceLeDiff, Nat.reduceEqDiff, reduceCtorEq, ↓reduceIte, cfg0, slI, slR, slB, encT, ones_ints, ones_bools, getV_map, getV_mapO, List.length_map, Nat.mul_one, slN]
            refine callO.pc pc8 ?_
            simp (maxSteps := 2000000) -implicitDefEqProofs +contextual (disch := first | assumption | omega | decide +kernel) only [push_cast, ↓capI, br2_true, br2_false, frk_tt, frk_tf, frk_f, frkD_tt, frkD_tf, frkD_f, pk2_true, pk2_false, imp_true, seval, Nat.reduceLeDiff, Nat.reduceEqDiff, reduceCtorEq, ↓reduceIte, cfg0, slI, slR, slB, encT, ones_ints, ones_bools, getV_map, getV_mapO, List.length_map, Nat.mul_one, slN]
            refine endK.ret ?_ (by first | rfl | simp [belAll_append, bel_ints, bel_bools, bel_rows, bel_slI, bel_slR, bel_slB, bel_encT, belN, bel_Ns, bel_slN]); simp [evRes, getT, retV, Try.f4]
          · simp (maxSteps := 2000000) -implicitDefEqProofs +contextual (disch := first | assumption | omega | decide +kernel) only [push_cast, ↓capI, br2_true, br2_false, frk_tt, frk_tf, frk_f, frkD_tt, frkD_tf, frkD_f, pk2_true, pk2_false, imp_true, seval, Nat.reduceLeDiff, Nat.reduceEqDiff, reduceCtorEq, ↓reduceIte, cfg0, slI, slR, slB, encT, ones_ints, ones_bools, getV_map, getV_mapO, List.length_map, Nat.mul_one, slN, hlt, hn, hb]
            refine ⟨(i + 1), ⟨by omega, fun c hc => by
              rw [List.take_succ_eq_append_getElem hlt] at hc
              rcases List.mem_append.1 hc with hc | hc
              · exact hall c hc
              · rw [List.mem_singleton] at hc
                omega⟩, by (try simp only); omega, ?_⟩; exact Gn.canon (by first | rfl | (simp [List.append_nil, encT, slR, slB, slI]; rfl)) (by simp [wk, slN]) (by simp [List.length_append]) (by simp [belAll_append, bel_ints, bel_bools, bel_rows, bel_slI, bel_slR, bel_slB, bel_encT, belN, bel_Ns, bel_slN]) (by simp [belAll_append, bel_ints, bel_bools, bel_rows, bel_slI, bel_slR, bel_slB, bel_encT, belN, bel_Ns, bel_slN])
      · rw [List.take_of_length_le (by omega)] at hall
        have hav : av = bv := by
          cases av with
          | true => exact ((hlang.1 rfl).2).symm
          | false =>
            cases bv with
            | false => rfl
            | true => exact hlang.2 ⟨hall, rfl⟩
        subst hav
        simp (maxSteps := 2000000) -implicitDefEqProofs +contextual (disch := first | assumption | omega | decide +kernel) only [push_cast, ↓capI, br2_true, br2_false, frk_tt, frk_tf, frk_f, frkD_tt, frkD_tf, frkD_f, pk2_true, pk2_false, imp_true, seval, Nat.reduceLeDiff, Nat.reduceEqDiff, reduceCtorEq, ↓reduceIte, cfg0, slI, slR, slB, encT, ones_ints, ones_bools, getV_map, getV_mapO, List.length_map, Nat.mul_one, slN, hlt]
        refine callO.pc h12 ?_
        simp (maxSteps := 2000000) -implicitDefEqProofs +contextual (disch := first | assumption | omega | decide +kernel) only [push_cast, ↓capI, br2_true, br2_false, frk_tt, frk_tf, frk_f, frkD_tt, frkD_tf, frkD_f, pk2_true, pk2_false, imp_true, seval, Nat.reduceLeDiff, Nat.reduceEqDiff, reduceCtorEq, ↓reduceIte, cfg0, slI, slR, slB, encT, ones_ints, ones_bools, getV_map, getV_mapO, List.length_map, Nat.mul_one, slN]
        refine callO.pc h13 ?_
        simp (maxSteps := 2000000) -implicitDefEqProofs +contextual (disch := first | assumption | omega | decide +kernel) only [push_cast, ↓capI, br2_true, br2_false, frk_tt, frk_tf, frk_f, frkD_tt, frkD_tf, frkD_f, pk2_true, pk2_false, imp_true, seval, Nat.reduceLeDiff, Nat.reduceEqDiff, reduceCtorEq, ↓reduceIte, cfg0, slI, slR, slB, encT, ones_ints, ones_bools, getV_map, getV_mapO, List.length_map, Nat.mul_one, slN]
        refine callO.pc pc8 ?_
        simp (maxSteps := 2000000) -implicitDefEqProofs +contextual (disch := first | assumption | omega | decide +kernel) only [push_cast, ↓capI, br2_true, br2_false, frk_tt, frk_tf, frk_f, frkD_tt, frkD_tf, frkD_f, pk2_true, pk2_false, imp_true, seval, Nat.reduceLeDiff, Nat.reduceEqDiff, reduceCtorEq, ↓reduceIte, cfg0, slI, slR, slB, encT, ones_ints, ones_bools, getV_map, getV_mapO, List.length_map, Nat.mul_one, slN]
        refine endK.ret ?_ (by first | rfl | simp [belAll_append, bel_ints, bel_bools, bel_rows, bel_slI, bel_slR, bel_slB, bel_encT, belN, bel_Ns, bel_slN]); simp [evRes, getT, retV, Try.f4]
theorem law4 (xs : List V) (h : TypA tt 8 [22, 3, 33] xs) : PC Try.prog 4 xs (.bool true) := by
  obtain ⟨v1, vs, cs, rfl, rfl, h1, h⟩ := typA_cons h
  obtain ⟨v2, vs, cs2, rfl, rfl, h2, h⟩ := typA_cons h
  obtain ⟨v3, vs, cs3, rfl, rfl, h3, h⟩ := typA_cons h
  obtain rfl := typA_nil h
  obtain ⟨a, ha⟩ := typ_slN (m := 5) h1
  obtain ⟨x, hx⟩ := typ_J (m := 7) h2
  obtain ⟨b, hb, _⟩ := typ_slI (m := 6) h3
  refine PC.lax ?_
  rw [laxs, laxs, laxs, laxs, ha, hx, hb]
  exact pc4
end Go.Proofs.Ytkjffppioddnpaa

