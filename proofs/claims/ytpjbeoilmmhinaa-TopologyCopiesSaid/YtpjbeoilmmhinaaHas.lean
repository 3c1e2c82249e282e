/-
  Chapter 40: whether a port exists.
-/
import Derived.Test.YtpjbeoilmmhinaaBase
set_option maxRecDepth 100000
set_option linter.all false
namespace Go.Proofs.Ytpjbeoilmmhinaa
open Go.Vm

theorem pc29 (t : Tp) (p : Int × Int) : PC Try.prog 29 [.agg (encT t), .agg (encP p)] (.bool (has t p)) := by
  refine PC.walk tok mixed cfg0 Try.func29 rfl Try.call29 (by simp [belAll, V.bel, belT, belP]) rfl ?_
  simp (config := { maxSteps := 2000000 }) -implicitDefEqProofs +contextual (disch := first | assumption | omega | decide +kernel) only [push_cast, ↓capI, br2_true, br2_false, frk_tt, frk_tf, frk_f, frkD_tt, frkD_tf, frkD_f, pk2_true, pk2_false, imp_true, Nat.reduceAdd, Nat.reduceSub, Nat.reduceMul, Nat.reduceLeDiff, Nat.reduceLT, reduceCtorEq, ↓reduceIte, Nat.reduceEqDiff, Nat.reduceSub, Nat.reduceMul, Int.reduceNeg, Int.reduceLT, Int.reduceLE, Int.reduceAdd, Int.reduceSub, Int.reduceMul, Int.reduceEq, Int.reduceToNat, Nat.reduceDiv, Nat.reduceMod, Nat.reduceBEq, Nat.reduceBNe, reduceCtorEq, tt_26, tt_32, tt_22, tt_23, tt_24, tt_3, tt_4, tt_42, encT, encP, encL, slI, slP, slL, cfg0, Try.ntmps29, getI_int]
  repeat' (first | intro _ | refine And.intro ?_ ?_)
  all_goals
    refine endK.ret ?_ rfl
    simp only [evRes, getT, retV, Try.f29]
    simp [has, *]
theorem pc31 (t : Tp) (p : Int × Int) : PC Try.prog 31 [.agg (encT t), .agg (encP p)] (.bool (has t p)) := by
  refine PC.walk tok mixed cfg0 Try.func31 rfl Try.call31 (by simp [belAll, V.bel, belT, belP]) rfl ?_
  simp (config := { maxSteps := 2000000 }) -implicitDefEqProofs +contextual (disch := first | assumption | omega | decide +kernel) only [push_cast, ↓capI, br2_true, br2_false, frk_tt, frk_tf, frk_f, frkD_tt, frkD_tf, frkD_f, pk2_true, pk2_false, imp_true, Nat.reduceAdd, Nat.reduceSub, Nat.reduceMul, Nat.reduceLeDiff, Nat.reduceLT, reduceCtorEq, ↓reduceIte, Nat.reduceEqDiff, Nat.reduceSub, Nat.reduceMul, Int.reduceNeg, Int.reduceLT, Int.reduceLE, Int.reduceAdd, Int.reduceSub, Int.reduceMul, Int.reduceEq, Int.reduceToNat, Nat.reduceDiv, Nat.reduceMod, Nat.reduceBEq, Nat.reduceBNe, reduceCtorEq, tt_26, tt_32, tt_22, tt_23, tt_24, tt_3, tt_4, tt_42, encT, encP, encL, slI, slP, slL, cfg0, Try.ntmps31, getI_int]
  repeat' (first | intro _ | refine And.intro ?_ ?_)
  all_goals
    refine endK.ret ?_ rfl
    simp only [evRes, getT, retV, Try.f31]
    simp [has, *]
end Go.Proofs.Ytpjbeoilmmhinaa
