/-
  Chapter 40: the port at the other end.
-/
import Derived.Test.YtpjbeoilmmhinaaCheck2
import Derived.Test.YtpjbeoilmmhinaaUse
set_option maxRecDepth 100000
set_option linter.all false
namespace Go.Proofs.Ytpjbeoilmmhinaa
open Go.Vm

def peer (t : Tp) (p : Int × Int) : (Int × Int) × Int :=
  if chk t ≠ 0 then ((0, 0), chk t) else
  match linkAt t p with
  | (_, false) => ((0, 0), 8)
  | (i, true) =>
    let l := t.links.getD i.toNat default
    if l.dn then ((0, 0), 20) else if l.a = p then (l.b, 0) else (l.a, 0)
def encPE (r : (Int × Int) × Int) : V := .tup [.agg (encP r.1), .int .i64 r.2]

theorem firstAt_is {α : Type} {f : α → Bool} : ∀ {l : List α} {j : Nat}, firstAt f l j = (0, false) ∨ ∃ k, k < l.length ∧ firstAt f l j = (((j + k : Nat) : Int), true)
  | [], j => .inl rfl
  | x :: l, j => by
    unfold firstAt
    split
    · exact .inr ⟨0, by simp, rfl⟩
    · rcases @firstAt_is α f l (j + 1) with h | ⟨k, h1, h2⟩
      · exact .inl h
      · exact .inr ⟨k + 1, by simpa using h1, by rw [h2, show j + 1 + k = j + (k + 1) by omega]⟩
theorem linkAt_is (t : Tp) (p : Int × Int) : linkAt t p = (0, false) ∨ ∃ k : Nat, k < t.links.length ∧ linkAt t p = ((k : Int), true) := by
  have := @firstAt_is _ (fun l => decide (l.a = p) || decide (l.b = p)) t.links 0
  simpa [linkAt] using this

theorem pc14 (t : Tp) (p : Int × Int) (hf : t.fit) : PC Try.prog 14 [.agg (encT t), .agg (encP p)] (encPE (peer t p)) := by
  refine PC.walk tok mixed cfg0 Try.func14 rfl Try.call14 (by simp [belAll, V.bel, belT, belP]) rfl ?_
  simp (config := { maxSteps := 2000000 }) -implicitDefEqProofs +contextual (disch := first | assumption | omega | decide +kernel) only [push_cast, ↓capI, br2_true, br2_false, frk_tt, frk_tf, frk_f, frkD_tt, frkD_tf, frkD_f, pk2_true, pk2_false, imp_true, Nat.reduceAdd, Nat.reduceSub, Nat.reduceMul, Nat.reduceLeDiff, Nat.reduceLT, reduceCtorEq, ↓reduceIte, Nat.reduceEqDiff, Nat.reduceSub, Nat.reduceMul, Int.reduceNeg, Int.reduceLT, Int.reduceLE, Int.reduceAdd, Int.reduceSub, Int.reduceMul, Int.reduceEq, Int.reduceToNat, Nat.reduceDiv, Nat.reduceMod, Nat.reduceBEq, Nat.reduceBNe, reduceCtorEq, tt_26, tt_32, tt_22, tt_23, tt_24, tt_3, tt_4, tt_42, tt_29, encT, encP, encL, slI, slP, slL, cfg0, get_flat_part lenP, get_flat_part lenL, get_flat_drop lenL, len_flat lenP, len_flat lenL, eqP, getI_nat, Try.ntmps14]
  refine callO.pc (pc12 t hf) ?_
  simp (config := { maxSteps := 2000000 }) -implicitDefEqProofs +contextual (disch := first | assumption | omega | decide +kernel) only [push_cast, ↓capI, br2_true, br2_false, frk_tt, frk_tf, frk_f, frkD_tt, frkD_tf, frkD_f, pk2_true, pk2_false, imp_true, Nat.reduceAdd, Nat.reduceSub, Nat.reduceMul, Nat.reduceLeDiff, Nat.reduceLT, reduceCtorEq, ↓reduceIte, Nat.reduceEqDiff, Nat.reduceSub, Nat.reduceMul, Int.reduceNeg, Int.reduceLT, Int.reduceLE, Int.reduceAdd, Int.reduceSub, Int.reduceMul, Int.reduceEq, Int.reduceToNat, Nat.reduceDiv, Nat.reduceMod, Nat.reduceBEq, Nat.reduceBNe, reduceCtorEq, tt_26, tt_32, tt_22, tt_23, tt_24, tt_3, tt_4, tt_42, tt_29, encT, encP, encL, slI, slP, slL, cfg0, get_flat_part lenP, get_flat_part lenL, get_flat_drop lenL, len_flat lenP, len_flat lenL, eqP, getI_nat]
  refine callO.pc (pc18 t p hf) ?_
  rcases linkAt_is t p with hl | ⟨k, hk, hl⟩
  · simp (config := { maxSteps := 2000000 }) -implicitDefEqProofs +contextual (disch := first | assumption | omega | decide +kernel) only [push_cast, ↓capI, br2_true, br2_false, frk_tt, frk_tf, frk_f, frkD_tt, frkD_tf, frkD_f, pk2_true, pk2_false, imp_true, Nat.reduceAdd, Nat.reduceSub, Nat.reduceMul, Nat.reduceLeDiff, Nat.reduceLT, reduceCtorEq, ↓reduceIte, Nat.reduceEqDiff, Nat.reduceSub, Nat.reduceMul, Int.reduceNeg, Int.reduceLT, Int.reduceLE, Int.reduceAdd, Int.reduceSub, Int.reduceMul, Int.reduceEq, Int.reduceToNat, Nat.reduceDiv, Nat.reduceMod, Nat.reduceBEq, Nat.reduceBNe, reduceCtorEq, tt_26, tt_32, tt_22, tt_23, tt_24, tt_3, tt_4, tt_42, tt_29, encT, encP, encL, slI, slP, slL, cfg0, get_flat_part lenP, get_flat_part lenL, get_flat_drop lenL, len_flat lenP, len_flat lenL, eqP, getI_nat, encIB, hl]
    repeat' (first | intro _ | refine And.intro ?_ ?_)
    all_goals
      refine endK.ret ?_ rfl
      simp (config := { maxSteps := 2000000 }) -implicitDefEqProofs +contextual (disch := first | assumption | omega | decide +kernel) only [push_cast, ↓capI, br2_true, br2_false, frk_tt, frk_tf, frk_f, frkD_tt, frkD_tf, frkD_f, pk2_true, pk2_false, imp_true, Nat.reduceAdd, Nat.reduceSub, Nat.reduceMul, Nat.reduceLeDiff, Nat.reduceLT, reduceCtorEq, ↓reduceIte, Nat.reduceEqDiff, Nat.reduceSub, Nat.reduceMul, Int.reduceNeg, Int.reduceLT, Int.reduceLE, Int.reduceAdd, Int.reduceSub, Int.reduceMul, Int.reduceEq, Int.reduceToNat, Nat.reduceDiv, Nat.reduceMod, Nat.reduceBEq, Nat.reduceBNe, reduceCtorEq, tt_26, tt_32, tt_22, tt_23, tt_24, tt_3, tt_4, tt_42, tt_29, encT, encP, encL, slI, slP, slL, cfg0, get_flat_part lenP, get_flat_part lenL, get_flat_drop lenL, len_flat lenP, len_flat lenL, eqP, getI_nat, evRes, retV, Try.f14]
      simp [peer, encPE, encP, hl, *]
  · simp (config := { maxSteps := 2000000 }) -implicitDefEqProofs +contextual (disch := first | assumption | omega | decide +kernel) only [push_cast, ↓capI, br2_true, br2_false, frk_tt, frk_tf, frk_f, frkD_tt, frkD_tf, frkD_f, pk2_true, pk2_false, imp_true, Nat.reduceAdd, Nat.reduceSub, Nat.reduceMul, Nat.reduceLeDiff, Nat.reduceLT, reduceCtorEq, ↓reduceIte, Nat.reduceEqDiff, Nat.reduceSub, Nat.reduceMul, Int.reduceNeg, Int.reduceLT, Int.reduceLE, Int.reduceAdd, Int.reduceSub, Int.reduceMul, Int.reduceEq, Int.reduceToNat, Nat.reduceDiv, Nat.reduceMod, Nat.reduceBEq, Nat.reduceBNe, reduceCtorEq, tt_26, tt_32, tt_22, tt_23, tt_24, tt_3, tt_4, tt_42, tt_29, encT, encP, encL, slI, slP, slL, cfg0, get_flat_part lenP, get_flat_part lenL, get_flat_drop lenL, len_flat lenP, len_flat lenL, eqP, getI_nat, encIB, hl, hk]
    have hg : t.links.getD k default = t.links[k] := by rw [List.getD_eq_getElem?_getD, List.getElem?_eq_getElem hk]; rfl
    repeat' (first | intro _ | refine And.intro ?_ ?_)
    all_goals first
      | (refine endK.ret ?_ rfl
         simp (config := { maxSteps := 2000000 }) -implicitDefEqProofs +contextual (disch := first | assumption | omega | decide +kernel) only [push_cast, ↓capI, br2_true, br2_false, frk_tt, frk_tf, frk_f, frkD_tt, frkD_tf, frkD_f, pk2_true, pk2_false, imp_true, Nat.reduceAdd, Nat.reduceSub, Nat.reduceMul, Nat.reduceLeDiff, Nat.reduceLT, reduceCtorEq, ↓reduceIte, Nat.reduceEqDiff, Nat.reduceSub, Nat.reduceMul, Int.reduceNeg, Int.reduceLT, Int.reduceLE, Int.reduceAdd, Int.reduceSub, Int.reduceMul, Int.reduceEq, Int.reduceToNat, Nat.reduceDiv, Nat.reduceMod, Nat.reduceBEq, Nat.reduceBNe, reduceCtorEq, tt_26, tt_32, tt_22, tt_23, tt_24, tt_3, tt_4, tt_42, tt_29, encT, encP, encL, slI, slP, slL, cfg0, get_flat_part lenP, get_flat_part lenL, get_flat_drop lenL, len_flat lenP, len_flat lenL, eqP, getI_nat, evRes, retV, Try.f14]
         simp [peer, encPE, encP, hl, hg, *]
         done)
      | kernel_rfl
      | skip

theorem pc13 (t : Tp) (p : Int × Int) (hf : t.fit) : PC Try.prog 13 [.agg (encT t), .agg (encP p)] (encPE (peer t p)) := by
  refine PC.walk tok mixed cfg0 Try.func13 rfl Try.call13 (by simp [belAll, V.bel, belT, belP]) rfl ?_
  simp (config := { maxSteps := 2000000 }) -implicitDefEqProofs +contextual (disch := first | assumption | omega | decide +kernel) only [push_cast, ↓capI, br2_true, br2_false, frk_tt, frk_tf, frk_f, frkD_tt, frkD_tf, frkD_f, pk2_true, pk2_false, imp_true, Nat.reduceAdd, Nat.reduceSub, Nat.reduceMul, Nat.reduceLeDiff, Nat.reduceLT, reduceCtorEq, ↓reduceIte, Nat.reduceEqDiff, Nat.reduceSub, Nat.reduceMul, Int.reduceNeg, Int.reduceLT, Int.reduceLE, Int.reduceAdd, Int.reduceSub, Int.reduceMul, Int.reduceEq, Int.reduceToNat, Nat.reduceDiv, Nat.reduceMod, Nat.reduceBEq, Nat.reduceBNe, reduceCtorEq, tt_26, tt_32, tt_22, tt_23, tt_24, tt_3, tt_4, tt_42, tt_29, encT, encP, encL, slI, slP, slL, cfg0, get_flat_part lenP, get_flat_part lenL, get_flat_drop lenL, len_flat lenP, len_flat lenL, eqP, getI_nat, Try.ntmps13]
  refine callO.pc (pc11 t hf) ?_
  simp (config := { maxSteps := 2000000 }) -implicitDefEqProofs +contextual (disch := first | assumption | omega | decide +kernel) only [push_cast, ↓capI, br2_true, br2_false, frk_tt, frk_tf, frk_f, frkD_tt, frkD_tf, frkD_f, pk2_true, pk2_false, imp_true, Nat.reduceAdd, Nat.reduceSub, Nat.reduceMul, Nat.reduceLeDiff, Nat.reduceLT, reduceCtorEq, ↓reduceIte, Nat.reduceEqDiff, Nat.reduceSub, Nat.reduceMul, Int.reduceNeg, Int.reduceLT, Int.reduceLE, Int.reduceAdd, Int.reduceSub, Int.reduceMul, Int.reduceEq, Int.reduceToNat, Nat.reduceDiv, Nat.reduceMod, Nat.reduceBEq, Nat.reduceBNe, reduceCtorEq, tt_26, tt_32, tt_22, tt_23, tt_24, tt_3, tt_4, tt_42, tt_29, encT, encP, encL, slI, slP, slL, cfg0, get_flat_part lenP, get_flat_part lenL, get_flat_drop lenL, len_flat lenP, len_flat lenL, eqP, getI_nat]
  refine ⟨fun h0 => ?_, fun h0 => ?_⟩
  · refine endK.ret ?_ rfl
    simp (config := { maxSteps := 2000000 }) -implicitDefEqProofs +contextual (disch := first | assumption | omega | decide +kernel) only [push_cast, ↓capI, br2_true, br2_false, frk_tt, frk_tf, frk_f, frkD_tt, frkD_tf, frkD_f, pk2_true, pk2_false, imp_true, Nat.reduceAdd, Nat.reduceSub, Nat.reduceMul, Nat.reduceLeDiff, Nat.reduceLT, reduceCtorEq, ↓reduceIte, Nat.reduceEqDiff, Nat.reduceSub, Nat.reduceMul, Int.reduceNeg, Int.reduceLT, Int.reduceLE, Int.reduceAdd, Int.reduceSub, Int.reduceMul, Int.reduceEq, Int.reduceToNat, Nat.reduceDiv, Nat.reduceMod, Nat.reduceBEq, Nat.reduceBNe, reduceCtorEq, tt_26, tt_32, tt_22, tt_23, tt_24, tt_3, tt_4, tt_42, tt_29, encT, encP, encL, slI, slP, slL, cfg0, get_flat_part lenP, get_flat_part lenL, get_flat_drop lenL, len_flat lenP, len_flat lenL, eqP, getI_nat, evRes, retV, Try.f13]
    simp [peer, encPE, encP, h0]
  refine callO.pc (pc32 t p hf) ?_
  rcases linkAt_is t p with hl | ⟨k, hk, hl⟩
  · have hu : (useOf t p).1 ≠ 1 := by unfold useOf; rw [hl]; simp only [Bool.false_eq_true, if_false]; split <;> simp
    simp (config := { maxSteps := 2000000 }) -implicitDefEqProofs +contextual (disch := first | assumption | omega | decide +kernel) only [push_cast, ↓capI, br2_true, br2_false, frk_tt, frk_tf, frk_f, frkD_tt, frkD_tf, frkD_f, pk2_true, pk2_false, imp_true, Nat.reduceAdd, Nat.reduceSub, Nat.reduceMul, Nat.reduceLeDiff, Nat.reduceLT, reduceCtorEq, ↓reduceIte, Nat.reduceEqDiff, Nat.reduceSub, Nat.reduceMul, Int.reduceNeg, Int.reduceLT, Int.reduceLE, Int.reduceAdd, Int.reduceSub, Int.reduceMul, Int.reduceEq, Int.reduceToNat, Nat.reduceDiv, Nat.reduceMod, Nat.reduceBEq, Nat.reduceBNe, reduceCtorEq, tt_26, tt_32, tt_22, tt_23, tt_24, tt_3, tt_4, tt_42, tt_29, encT, encP, encL, slI, slP, slL, cfg0, get_flat_part lenP, get_flat_part lenL, get_flat_drop lenL, len_flat lenP, len_flat lenL, eqP, getI_nat, encII, hu]
    refine endK.ret ?_ rfl
    simp (config := { maxSteps := 2000000 }) -implicitDefEqProofs +contextual (disch := first | assumption | omega | decide +kernel) only [push_cast, ↓capI, br2_true, br2_false, frk_tt, frk_tf, frk_f, frkD_tt, frkD_tf, frkD_f, pk2_true, pk2_false, imp_true, Nat.reduceAdd, Nat.reduceSub, Nat.reduceMul, Nat.reduceLeDiff, Nat.reduceLT, reduceCtorEq, ↓reduceIte, Nat.reduceEqDiff, Nat.reduceSub, Nat.reduceMul, Int.reduceNeg, Int.reduceLT, Int.reduceLE, Int.reduceAdd, Int.reduceSub, Int.reduceMul, Int.reduceEq, Int.reduceToNat, Nat.reduceDiv, Nat.reduceMod, Nat.reduceBEq, Nat.reduceBNe, reduceCtorEq, tt_26, tt_32, tt_22, tt_23, tt_24, tt_3, tt_4, tt_42, tt_29, encT, encP, encL, slI, slP, slL, cfg0, get_flat_part lenP, get_flat_part lenL, get_flat_drop lenL, len_flat lenP, len_flat lenL, eqP, getI_nat, evRes, retV, Try.f13]
    simp [peer, encPE, encP, h0, hl]
  · have hu : useOf t p = (1, (k : Int)) := by simp [useOf, hl]
    simp (config := { maxSteps := 2000000 }) -implicitDefEqProofs +contextual (disch := first | assumption | omega | decide +kernel) only [push_cast, ↓capI, br2_true, br2_false, frk_tt, frk_tf, frk_f, frkD_tt, frkD_tf, frkD_f, pk2_true, pk2_false, imp_true, Nat.reduceAdd, Nat.reduceSub, Nat.reduceMul, Nat.reduceLeDiff, Nat.reduceLT, reduceCtorEq, ↓reduceIte, Nat.reduceEqDiff, Nat.reduceSub, Nat.reduceMul, Int.reduceNeg, Int.reduceLT, Int.reduceLE, Int.reduceAdd, Int.reduceSub, Int.reduceMul, Int.reduceEq, Int.reduceToNat, Nat.reduceDiv, Nat.reduceMod, Nat.reduceBEq, Nat.reduceBNe, reduceCtorEq, tt_26, tt_32, tt_22, tt_23, tt_24, tt_3, tt_4, tt_42, tt_29, encT, encP, encL, slI, slP, slL, cfg0, get_flat_part lenP, get_flat_part lenL, get_flat_drop lenL, len_flat lenP, len_flat lenL, eqP, getI_nat, encII, hu, hk]
    have hg : t.links.getD k default = t.links[k] := by rw [List.getD_eq_getElem?_getD, List.getElem?_eq_getElem hk]; rfl
    repeat' (first | intro _ | refine And.intro ?_ ?_)
    all_goals first
      | (refine endK.ret ?_ rfl
         simp (config := { maxSteps := 2000000 }) -implicitDefEqProofs +contextual (disch := first | assumption | omega | decide +kernel) only [push_cast, ↓capI, br2_true, br2_false, frk_tt, frk_tf, frk_f, frkD_tt, frkD_tf, frkD_f, pk2_true, pk2_false, imp_true, Nat.reduceAdd, Nat.reduceSub, Nat.reduceMul, Nat.reduceLeDiff, Nat.reduceLT, reduceCtorEq, ↓reduceIte, Nat.reduceEqDiff, Nat.reduceSub, Nat.reduceMul, Int.reduceNeg, Int.reduceLT, Int.reduceLE, Int.reduceAdd, Int.reduceSub, Int.reduceMul, Int.reduceEq, Int.reduceToNat, Nat.reduceDiv, Nat.reduceMod, Nat.reduceBEq, Nat.reduceBNe, reduceCtorEq, tt_26, tt_32, tt_22, tt_23, tt_24, tt_3, tt_4, tt_42, tt_29, encT, encP, encL, slI, slP, slL, cfg0, get_flat_part lenP, get_flat_part lenL, get_flat_drop lenL, len_flat lenP, len_flat lenL, eqP, getI_nat, evRes, retV, Try.f13]
         simp [peer, encPE, encP, hl, hg, *]
         done)
      | kernel_rfl
      | trace_state
end Go.Proofs.Ytpjbeoilmmhinaa
