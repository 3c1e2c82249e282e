/-
  Chapter 40: the document's Check.
-/
import Derived.Test.YtpjbeoilmmhinaaCheck
set_option maxRecDepth 100000
set_option linter.all false
namespace Go.Proofs.Ytpjbeoilmmhinaa
open Go.Vm

theorem pc12 (t : Tp) (hf : t.fit) : PC Try.prog 12 [.agg (encT t)] (.int .i64 (chk t)) := by
  refine PC.walk tok mixed cfg0 Try.func12 rfl Try.call12 (by simp [belAll, V.bel, belT, belP]) rfl ?_
  have hfp := hf.ports
  have hfl := hf.links
  have hfh := hf.hosts
  simp (config := { maxSteps := 2000000 }) -implicitDefEqProofs +contextual (disch := first | assumption | omega | decide +kernel) only [push_cast, ↓capI, br2_true, br2_false, frk_tt, frk_tf, frk_f, frkD_tt, frkD_tf, frkD_f, pk2_true, pk2_false, imp_true, Nat.reduceAdd, Nat.reduceSub, Nat.reduceMul, Nat.reduceLeDiff, Nat.reduceLT, reduceCtorEq, ↓reduceIte, Nat.reduceEqDiff, Nat.reduceSub, Nat.reduceMul, Int.reduceNeg, Int.reduceLT, Int.reduceLE, Int.reduceAdd, Int.reduceSub, Int.reduceMul, Int.reduceEq, Int.reduceToNat, Nat.reduceDiv, Nat.reduceMod, Nat.reduceBEq, Nat.reduceBNe, reduceCtorEq, tt_26, tt_32, tt_22, tt_23, tt_24, tt_3, tt_4, tt_42, tt_29, encT, encP, encL, slI, slP, slL, cfg0, get_flat_part lenP, get_flat_part lenL, get_flat_drop lenL, len_flat lenP, len_flat lenL, eqP, getI_nat, Try.ntmps12]
  repeat' (first | intro _ | refine And.intro ?_ ?_)
  all_goals try (refine endK.ret ?_ rfl; simp only [evRes, getT, retV, Try.f12, chk, *, ↓reduceIte]; done)
  have hc : chk t = chk1 t := by simp only [chk, *, ↓reduceIte]
  rw [hc]
  refine T.rounds tok mixed cfg0 (fun j : Nat => ⟨(.dead :: .ptr 0 0 0 :: .int .i64 0 :: .int .i64 j :: .dead :: .dead :: .dead :: .dead :: .dead :: .dead :: .dead :: .dead :: .dead :: .dead :: .dead :: .dead :: .dead :: .dead :: .dead :: .dead :: .dead :: .dead :: .dead :: .dead :: .dead :: .dead :: .dead :: .dead :: .dead :: .dead :: .dead :: .dead :: .dead :: .dead :: .dead :: .dead :: .dead :: .dead :: .dead :: .dead :: .dead :: .dead :: .dead :: .dead :: .dead :: .dead :: .dead :: .dead :: .dead :: .dead :: .dead :: .dead :: .dead :: .dead :: .dead :: .dead :: .dead :: .dead :: .dead :: .dead :: .dead :: .dead :: .dead :: .dead :: .dead :: .dead :: .dead :: .dead :: .dead :: .dead :: .dead :: .dead :: .dead :: .dead :: .dead :: .dead :: .dead :: .dead :: .dead :: .dead :: .dead :: .dead :: .dead :: .dead :: .dead :: .dead :: .dead :: .dead :: .dead :: .dead :: .dead :: .dead :: .dead :: .dead :: .dead :: .dead :: .dead :: .dead :: .dead :: .dead :: .dead :: .dead :: .dead :: .dead :: .dead :: .dead :: .dead :: .dead :: .dead :: []), [.cells 0 (encT t)]⟩)
    (fun j => (t.ports.drop j).any badN = t.ports.any badN) (fun j => t.ports.length - j) 0 ?_ rfl ?_
  · exact Gn.canon (J := []) rfl (by simp [wk, slI]) (by simp) (by simp [belAll, V.bel, belObs, Ob.bel, belT, belP, bel_slI, bel_slL, bel_slP, bel_ints, bel_Ps, bel_Ls]) (by simp [belAll, V.bel, belObs, Ob.bel, belT, belP, bel_slI, bel_slL, bel_slP, bel_ints, bel_Ps, bel_Ls])
  intro j hj
  simp (config := { maxSteps := 2000000 }) -implicitDefEqProofs +contextual (disch := first | assumption | omega | decide +kernel) only [push_cast, ↓capI, br2_true, br2_false, frk_tt, frk_tf, frk_f, frkD_tt, frkD_tf, frkD_f, pk2_true, pk2_false, imp_true, Nat.reduceAdd, Nat.reduceSub, Nat.reduceMul, Nat.reduceLeDiff, Nat.reduceLT, reduceCtorEq, ↓reduceIte, Nat.reduceEqDiff, Nat.reduceSub, Nat.reduceMul, Int.reduceNeg, Int.reduceLT, Int.reduceLE, Int.reduceAdd, Int.reduceSub, Int.reduceMul, Int.reduceEq, Int.reduceToNat, Nat.reduceDiv, Nat.reduceMod, Nat.reduceBEq, Nat.reduceBNe, reduceCtorEq, tt_26, tt_32, tt_22, tt_23, tt_24, tt_3, tt_4, tt_42, tt_29, encT, encP, encL, slI, slP, slL, cfg0, get_flat_part lenP, get_flat_part lenL, get_flat_drop lenL, len_flat lenP, len_flat lenL, eqP, getI_nat]
  refine ⟨fun hlt => ?_, fun hge => ?_⟩
  · have hx := any_cons hlt hj
    repeat' (first | intro _ | refine And.intro ?_ ?_)
    all_goals first
      | (refine endK.ret ?_ rfl
         have := hx.1 (by simp [badN, *])
         simp [evRes, getT, retV, Try.f12, chk1, this]
         done)
      | (refine ⟨j + 1, hx.2 (by simp [badN, *]), by simp only; omega, ?_⟩
         refine Gn.canon (J := []) rfl ?_ (by simp) (by simp [belAll, V.bel, belObs, Ob.bel, belT, belP, bel_slI, bel_slL, bel_slP, bel_ints, bel_Ps, bel_Ls]) (by simp [belAll, V.bel, belObs, Ob.bel, belT, belP, bel_slI, bel_slL, bel_slP, bel_ints, bel_Ps, bel_Ls])
         skip
         simp [wk, slI])
  have h1 := any_end hge hj
  clear hge hj
  refine callO.pc (pc30 t hf) ?_
  simp (config := { maxSteps := 2000000 }) -implicitDefEqProofs +contextual (disch := first | assumption | omega | decide +kernel) only [push_cast, ↓capI, br2_true, br2_false, frk_tt, frk_tf, frk_f, frkD_tt, frkD_tf, frkD_f, pk2_true, pk2_false, imp_true, Nat.reduceAdd, Nat.reduceSub, Nat.reduceMul, Nat.reduceLeDiff, Nat.reduceLT, reduceCtorEq, ↓reduceIte, Nat.reduceEqDiff, Nat.reduceSub, Nat.reduceMul, Int.reduceNeg, Int.reduceLT, Int.reduceLE, Int.reduceAdd, Int.reduceSub, Int.reduceMul, Int.reduceEq, Int.reduceToNat, Nat.reduceDiv, Nat.reduceMod, Nat.reduceBEq, Nat.reduceBNe, reduceCtorEq, tt_26, tt_32, tt_22, tt_23, tt_24, tt_3, tt_4, tt_42, tt_29, encT, encP, encL, slI, slP, slL, cfg0, get_flat_part lenP, get_flat_part lenL, get_flat_drop lenL, len_flat lenP, len_flat lenL, eqP, getI_nat]
  refine T.rounds tok mixed cfg0 (fun j : Nat => ⟨(.dead :: .ptr 0 0 0 :: .int .i64 0 :: .dead :: slP (ends t) :: .int .i64 j :: .dead :: .dead :: .dead :: .dead :: .dead :: .dead :: .dead :: .dead :: .dead :: .dead :: .dead :: .dead :: .dead :: .dead :: .dead :: .dead :: .dead :: .dead :: .dead :: .dead :: .dead :: .dead :: .dead :: .dead :: .dead :: .dead :: .dead :: .dead :: .dead :: .dead :: .dead :: .dead :: .dead :: .dead :: .dead :: .dead :: .dead :: .dead :: .dead :: .dead :: .dead :: .dead :: .dead :: .dead :: .dead :: .dead :: .dead :: .dead :: .dead :: .dead :: .dead :: .dead :: .dead :: .dead :: .dead :: .dead :: .dead :: .dead :: .dead :: .dead :: .dead :: .dead :: .dead :: .dead :: .dead :: .dead :: .dead :: .dead :: .dead :: .dead :: .dead :: .dead :: .dead :: .dead :: .dead :: .dead :: .dead :: .dead :: .dead :: .dead :: .dead :: .dead :: .dead :: .dead :: .dead :: .dead :: .dead :: .dead :: .dead :: .dead :: .dead :: .dead :: .dead :: .dead :: .dead :: .dead :: .dead :: .dead :: .dead :: .dead :: .dead :: .dead :: .dead :: []), [.cells 0 (encT t)]⟩)
    (fun j => ((ends t).drop j).any (fun a => !has t a) = (ends t).any (fun a => !has t a)) (fun j => (ends t).length - j) 0 ?_ rfl ?_
  · exact Gn.canon (J := []) rfl (by simp [wk, slP]) (by simp) (by simp [belAll, V.bel, belObs, Ob.bel, belT, belP, bel_slI, bel_slL, bel_slP, bel_ints, bel_Ps, bel_Ls]) (by simp [belAll, V.bel, belObs, Ob.bel, belT, belP, bel_slI, bel_slL, bel_slP, bel_ints, bel_Ps, bel_Ls])
  have hle : (ends t).length ≤ 20000000000 := by simp only [ends, List.length_append, endsOf_length]; omega
  intro j hj
  simp (config := { maxSteps := 2000000 }) -implicitDefEqProofs +contextual (disch := first | assumption | omega | decide +kernel) only [push_cast, ↓capI, br2_true, br2_false, frk_tt, frk_tf, frk_f, frkD_tt, frkD_tf, frkD_f, pk2_true, pk2_false, imp_true, Nat.reduceAdd, Nat.reduceSub, Nat.reduceMul, Nat.reduceLeDiff, Nat.reduceLT, reduceCtorEq, ↓reduceIte, Nat.reduceEqDiff, Nat.reduceSub, Nat.reduceMul, Int.reduceNeg, Int.reduceLT, Int.reduceLE, Int.reduceAdd, Int.reduceSub, Int.reduceMul, Int.reduceEq, Int.reduceToNat, Nat.reduceDiv, Nat.reduceMod, Nat.reduceBEq, Nat.reduceBNe, reduceCtorEq, tt_26, tt_32, tt_22, tt_23, tt_24, tt_3, tt_4, tt_42, tt_29, encT, encP, encL, slI, slP, slL, cfg0, get_flat_part lenP, get_flat_part lenL, get_flat_drop lenL, len_flat lenP, len_flat lenL, eqP, getI_nat]
  refine ⟨fun hlt => ?_, fun hge => ?_⟩
  · have hx := any_cons hlt hj
    skip
    refine callG.pc1 (pc31 t (ends t)[j]) ?_
    simp (config := { maxSteps := 2000000 }) -implicitDefEqProofs +contextual (disch := first | assumption | omega | decide +kernel) only [push_cast, ↓capI, br2_true, br2_false, frk_tt, frk_tf, frk_f, frkD_tt, frkD_tf, frkD_f, pk2_true, pk2_false, imp_true, Nat.reduceAdd, Nat.reduceSub, Nat.reduceMul, Nat.reduceLeDiff, Nat.reduceLT, reduceCtorEq, ↓reduceIte, Nat.reduceEqDiff, Nat.reduceSub, Nat.reduceMul, Int.reduceNeg, Int.reduceLT, Int.reduceLE, Int.reduceAdd, Int.reduceSub, Int.reduceMul, Int.reduceEq, Int.reduceToNat, Nat.reduceDiv, Nat.reduceMod, Nat.reduceBEq, Nat.reduceBNe, reduceCtorEq, tt_26, tt_32, tt_22, tt_23, tt_24, tt_3, tt_4, tt_42, tt_29, encT, encP, encL, slI, slP, slL, cfg0, get_flat_part lenP, get_flat_part lenL, get_flat_drop lenL, len_flat lenP, len_flat lenL, eqP, getI_nat]
    refine ⟨fun hh => ?_, fun hh => ?_⟩
    · refine endK.ret ?_ rfl
      have := hx.1 (by simp [hh])
      simp [evRes, getT, retV, Try.f12, chk1, h1, this]
    · refine ⟨j + 1, hx.2 (by simp [hh]), by simp only; omega, ?_⟩
      refine Gn.canon (J := []) rfl ?_ (by simp) (by simp [belAll, V.bel, belObs, Ob.bel, belT, belP, bel_slI, bel_slL, bel_slP, bel_ints, bel_Ps, bel_Ls]) (by simp [belAll, V.bel, belObs, Ob.bel, belT, belP, bel_slI, bel_slL, bel_slP, bel_ints, bel_Ps, bel_Ls])
      skip
      simp [wk, slP]
  have h2 := any_end hge hj
  clear hge hj
  refine T.rounds tok mixed cfg0 (fun i : Nat => ⟨(.dead :: .ptr 0 0 0 :: .int .i64 0 :: .dead :: slP (ends t) :: .dead :: .int .i64 i :: .dead :: .dead :: .dead :: .dead :: .dead :: .dead :: .dead :: .dead :: .dead :: .dead :: .dead :: .dead :: .dead :: .dead :: .dead :: .dead :: .dead :: .dead :: .dead :: .dead :: .dead :: .dead :: .dead :: .dead :: .dead :: .dead :: .dead :: .dead :: .dead :: .dead :: .dead :: .dead :: .dead :: .dead :: .dead :: .dead :: .dead :: .dead :: .dead :: .dead :: .dead :: .dead :: .dead :: .dead :: .dead :: .dead :: .dead :: .dead :: .dead :: .dead :: .dead :: .dead :: .dead :: .dead :: .dead :: .dead :: .dead :: .dead :: .dead :: .dead :: .dead :: .dead :: .dead :: .dead :: .dead :: .dead :: .dead :: .dead :: .dead :: .dead :: .dead :: .dead :: .dead :: .dead :: .dead :: .dead :: .dead :: .dead :: .dead :: .dead :: .dead :: .dead :: .dead :: .dead :: .dead :: .dead :: .dead :: .dead :: .dead :: .dead :: .dead :: .dead :: .dead :: .dead :: .dead :: .dead :: .dead :: .dead :: .dead :: .dead :: .dead :: .dead :: []), [.cells 0 (encT t)]⟩)
    (fun i => dup ((ends t).take i) ((ends t).drop i) = dup [] (ends t)) (fun i => (ends t).length - i) 0 ?_ rfl ?_
  · exact Gn.canon (J := []) rfl (by simp [wk, slP]) (by simp) (by simp [belAll, V.bel, belObs, Ob.bel, belT, belP, bel_slI, bel_slL, bel_slP, bel_ints, bel_Ps, bel_Ls]) (by simp [belAll, V.bel, belObs, Ob.bel, belT, belP, bel_slI, bel_slL, bel_slP, bel_ints, bel_Ps, bel_Ls])
  intro i hi
  simp (config := { maxSteps := 2000000 }) -implicitDefEqProofs +contextual (disch := first | assumption | omega | decide +kernel) only [push_cast, ↓capI, br2_true, br2_false, frk_tt, frk_tf, frk_f, frkD_tt, frkD_tf, frkD_f, pk2_true, pk2_false, imp_true, Nat.reduceAdd, Nat.reduceSub, Nat.reduceMul, Nat.reduceLeDiff, Nat.reduceLT, reduceCtorEq, ↓reduceIte, Nat.reduceEqDiff, Nat.reduceSub, Nat.reduceMul, Int.reduceNeg, Int.reduceLT, Int.reduceLE, Int.reduceAdd, Int.reduceSub, Int.reduceMul, Int.reduceEq, Int.reduceToNat, Nat.reduceDiv, Nat.reduceMod, Nat.reduceBEq, Nat.reduceBNe, reduceCtorEq, tt_26, tt_32, tt_22, tt_23, tt_24, tt_3, tt_4, tt_42, tt_29, encT, encP, encL, slI, slP, slL, cfg0, get_flat_part lenP, get_flat_part lenL, get_flat_drop lenL, len_flat lenP, len_flat lenL, eqP, getI_nat]
  refine ⟨fun hlt => ?_, fun hge => ?_⟩
  · rw [drop_cons hlt, dup] at hi
    obtain ⟨pre, hpre⟩ : ∃ pre, pre = (ends t).take i := ⟨_, rfl⟩
    have hpl : pre.length = i := by rw [hpre, List.length_take]; omega
    rw [← hpre] at hi
    refine T.rounds tok mixed cfg0 (fun k : Nat => ⟨(.dead :: .ptr 0 0 0 :: .int .i64 0 :: .dead :: slP (ends t) :: .dead :: .int .i64 i :: .int .i64 k :: .dead :: .dead :: .dead :: .dead :: .dead :: .dead :: .dead :: .dead :: .dead :: .dead :: .dead :: .dead :: .dead :: .dead :: .dead :: .dead :: .dead :: .dead :: .dead :: .dead :: .dead :: .dead :: .dead :: .dead :: .dead :: .dead :: .dead :: .dead :: .dead :: .dead :: .dead :: .dead :: .dead :: .dead :: .dead :: .dead :: .dead :: .dead :: .dead :: .dead :: .dead :: .dead :: .dead :: .dead :: .dead :: .dead :: .dead :: .dead :: .dead :: .dead :: .dead :: .dead :: .dead :: .dead :: .dead :: .dead :: .dead :: .dead :: .dead :: .dead :: .dead :: .dead :: .dead :: .dead :: .dead :: .dead :: .dead :: .dead :: .dead :: .dead :: .dead :: .dead :: .dead :: .dead :: .dead :: .dead :: .dead :: .dead :: .dead :: .dead :: .dead :: .dead :: .dead :: .dead :: .dead :: .dead :: .dead :: .dead :: .dead :: .dead :: .dead :: .dead :: .dead :: .dead :: .dead :: .dead :: .dead :: .dead :: .dead :: .dead :: .dead :: []), [.cells 0 (encT t)]⟩)
      (fun k => k ≤ i ∧ (pre.drop k).any (fun b => decide ((ends t)[i] = b)) = pre.any (fun b => decide ((ends t)[i] = b))) (fun k => i - k) 0 ?_ ⟨Nat.zero_le _, rfl⟩ ?_
    · exact Gn.canon (J := []) rfl (by simp [wk, slP]) (by simp) (by simp [belAll, V.bel, belObs, Ob.bel, belT, belP, bel_slI, bel_slL, bel_slP, bel_ints, bel_Ps, bel_Ls]) (by simp [belAll, V.bel, belObs, Ob.bel, belT, belP, bel_slI, bel_slL, bel_slP, bel_ints, bel_Ps, bel_Ls])
    intro k hk
    have hk0 := hk.1
    have hk1 := hk.2
    clear hk
    by_cases hki : k < i
    · have hke : k < (ends t).length := by omega
      simp (config := { maxSteps := 2000000 }) -implicitDefEqProofs +contextual (disch := first | assumption | omega | decide +kernel) only [push_cast, ↓capI, br2_true, br2_false, frk_tt, frk_tf, frk_f, frkD_tt, frkD_tf, frkD_f, pk2_true, pk2_false, imp_true, Nat.reduceAdd, Nat.reduceSub, Nat.reduceMul, Nat.reduceLeDiff, Nat.reduceLT, reduceCtorEq, ↓reduceIte, Nat.reduceEqDiff, Nat.reduceSub, Nat.reduceMul, Int.reduceNeg, Int.reduceLT, Int.reduceLE, Int.reduceAdd, Int.reduceSub, Int.reduceMul, Int.reduceEq, Int.reduceToNat, Nat.reduceDiv, Nat.reduceMod, Nat.reduceBEq, Nat.reduceBNe, reduceCtorEq, tt_26, tt_32, tt_22, tt_23, tt_24, tt_3, tt_4, tt_42, tt_29, encT, encP, encL, slI, slP, slL, cfg0, get_flat_part lenP, get_flat_part lenL, get_flat_drop lenL, len_flat lenP, len_flat lenL, eqP, getI_nat, hki, hke, hlt]
      have hkp : k < pre.length := by omega
      have hpk : pre[k] = (ends t)[k] := by simp [hpre]
      have hx := any_cons hkp hk1
      rw [hpk] at hx
      refine ⟨fun he => ?_, fun he => ?_⟩
      · refine endK.ret ?_ rfl
        have h3 := hx.1 (by simp [he])
        rw [h3] at hi
        simp [evRes, getT, retV, Try.f12, chk1, h1, h2, ← hi]
      · refine ⟨k + 1, ⟨hki, hx.2 (by simp [he])⟩, by simp only; omega, ?_⟩
        refine Gn.canon (J := []) rfl ?_ (by simp) (by simp [belAll, V.bel, belObs, Ob.bel, belT, belP, bel_slI, bel_slL, bel_slP, bel_ints, bel_Ps, bel_Ls]) (by simp [belAll, V.bel, belObs, Ob.bel, belT, belP, bel_slI, bel_slL, bel_slP, bel_ints, bel_Ps, bel_Ls])
        skip
        simp [wk, slP]
    · simp (config := { maxSteps := 2000000 }) -implicitDefEqProofs +contextual (disch := first | assumption | omega | decide +kernel) only [push_cast, ↓capI, br2_true, br2_false, frk_tt, frk_tf, frk_f, frkD_tt, frkD_tf, frkD_f, pk2_true, pk2_false, imp_true, Nat.reduceAdd, Nat.reduceSub, Nat.reduceMul, Nat.reduceLeDiff, Nat.reduceLT, reduceCtorEq, ↓reduceIte, Nat.reduceEqDiff, Nat.reduceSub, Nat.reduceMul, Int.reduceNeg, Int.reduceLT, Int.reduceLE, Int.reduceAdd, Int.reduceSub, Int.reduceMul, Int.reduceEq, Int.reduceToNat, Nat.reduceDiv, Nat.reduceMod, Nat.reduceBEq, Nat.reduceBNe, reduceCtorEq, tt_26, tt_32, tt_22, tt_23, tt_24, tt_3, tt_4, tt_42, tt_29, encT, encP, encL, slI, slP, slL, cfg0, get_flat_part lenP, get_flat_part lenL, get_flat_drop lenL, len_flat lenP, len_flat lenL, eqP, getI_nat, hki]
      have h3 := any_end (by omega : ¬ k < pre.length) hk1
      rw [h3, Bool.false_or] at hi
      refine ⟨i + 1, ?_, by simp only; omega, ?_⟩
      · show dup ((ends t).take (i + 1)) ((ends t).drop (i + 1)) = _
        rw [List.take_add_one, List.getElem?_eq_getElem hlt, ← hpre]
        exact hi
      · refine Gn.canon (J := []) rfl ?_ (by simp) (by simp [belAll, V.bel, belObs, Ob.bel, belT, belP, bel_slI, bel_slL, bel_slP, bel_ints, bel_Ps, bel_Ls]) (by simp [belAll, V.bel, belObs, Ob.bel, belT, belP, bel_slI, bel_slL, bel_slP, bel_ints, bel_Ps, bel_Ls])
        skip
        simp [wk, slP]
  have h3 : dup [] (ends t) = false := by rw [List.drop_of_length_le (by omega)] at hi; exact hi.symm
  clear hge hi
  refine T.rounds tok mixed cfg0 (fun j : Nat => ⟨(.dead :: .ptr 0 0 0 :: .int .i64 0 :: .dead :: .dead :: .dead :: .dead :: .dead :: .int .i64 j :: .dead :: .dead :: .dead :: .dead :: .dead :: .dead :: .dead :: .dead :: .dead :: .dead :: .dead :: .dead :: .dead :: .dead :: .dead :: .dead :: .dead :: .dead :: .dead :: .dead :: .dead :: .dead :: .dead :: .dead :: .dead :: .dead :: .dead :: .dead :: .dead :: .dead :: .dead :: .dead :: .dead :: .dead :: .dead :: .dead :: .dead :: .dead :: .dead :: .dead :: .dead :: .dead :: .dead :: .dead :: .dead :: .dead :: .dead :: .dead :: .dead :: .dead :: .dead :: .dead :: .dead :: .dead :: .dead :: .dead :: .dead :: .dead :: .dead :: .dead :: .dead :: .dead :: .dead :: .dead :: .dead :: .dead :: .dead :: .dead :: .dead :: .dead :: .dead :: .dead :: .dead :: .dead :: .dead :: .dead :: .dead :: .dead :: .dead :: .dead :: .dead :: .dead :: .dead :: .dead :: .dead :: .dead :: .dead :: .dead :: .dead :: .dead :: .dead :: .dead :: .dead :: .dead :: .dead :: .dead :: .dead :: .dead :: .dead :: .dead :: []), [.cells 0 (encT t)]⟩)
    (fun j => (t.links.drop j).any (fun l => decide (l.a.1 = l.b.1)) = t.links.any (fun l => decide (l.a.1 = l.b.1))) (fun j => t.links.length - j) 0 ?_ rfl ?_
  · exact Gn.canon (J := []) rfl (by simp [wk, slL]) (by simp) (by simp [belAll, V.bel, belObs, Ob.bel, belT, belP, bel_slI, bel_slL, bel_slP, bel_ints, bel_Ps, bel_Ls]) (by simp [belAll, V.bel, belObs, Ob.bel, belT, belP, bel_slI, bel_slL, bel_slP, bel_ints, bel_Ps, bel_Ls])
  intro j hj
  simp (config := { maxSteps := 2000000 }) -implicitDefEqProofs +contextual (disch := first | assumption | omega | decide +kernel) only [push_cast, ↓capI, br2_true, br2_false, frk_tt, frk_tf, frk_f, frkD_tt, frkD_tf, frkD_f, pk2_true, pk2_false, imp_true, Nat.reduceAdd, Nat.reduceSub, Nat.reduceMul, Nat.reduceLeDiff, Nat.reduceLT, reduceCtorEq, ↓reduceIte, Nat.reduceEqDiff, Nat.reduceSub, Nat.reduceMul, Int.reduceNeg, Int.reduceLT, Int.reduceLE, Int.reduceAdd, Int.reduceSub, Int.reduceMul, Int.reduceEq, Int.reduceToNat, Nat.reduceDiv, Nat.reduceMod, Nat.reduceBEq, Nat.reduceBNe, reduceCtorEq, tt_26, tt_32, tt_22, tt_23, tt_24, tt_3, tt_4, tt_42, tt_29, encT, encP, encL, slI, slP, slL, cfg0, get_flat_part lenP, get_flat_part lenL, get_flat_drop lenL, len_flat lenP, len_flat lenL, eqP, getI_nat]
  refine ⟨fun hlt => ?_, fun hge => ?_⟩
  · have hx := any_cons hlt hj
    refine ⟨fun he => ?_, fun he => ?_⟩
    · refine endK.ret ?_ rfl
      have h4 := hx.1 (by simp [he])
      simp [evRes, getT, retV, Try.f12, chk1, h1, h2, h3, h4]
    · refine ⟨j + 1, hx.2 (by simp [he]), by simp only; omega, ?_⟩
      refine Gn.canon (J := []) rfl ?_ (by simp) (by simp [belAll, V.bel, belObs, Ob.bel, belT, belP, bel_slI, bel_slL, bel_slP, bel_ints, bel_Ps, bel_Ls]) (by simp [belAll, V.bel, belObs, Ob.bel, belT, belP, bel_slI, bel_slL, bel_slP, bel_ints, bel_Ps, bel_Ls])
      skip
      simp [wk, slL]
  · refine endK.ret ?_ rfl
    simp [evRes, getT, retV, Try.f12, chk1, h1, h2, h3, any_end hge hj]
end Go.Proofs.Ytpjbeoilmmhinaa
