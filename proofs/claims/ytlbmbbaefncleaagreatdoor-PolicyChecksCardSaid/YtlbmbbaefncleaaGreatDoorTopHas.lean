/-
  Chapter 40: whether a port exists.
-/
import Derived.Test.YtlbmbbaefncleaaGreatDoorTopBase
set_option maxRecDepth 100000
set_option linter.all false
namespace Go.Proofs.YtlbmbbaefncleaaGreatDoor.Top
open Go.Vm
attribute [local push_cast] encT encP encL slI slP slL cfg0
theorem pc90 (t : Tp) (p : Int × Int) : PC Tryz.prog 90 [.agg (encT t), .agg (encP p)] (.bool (has t p)) := by
 refine PC.walk tok mixed cfg0 Tryz.func90 rfl Tryz.call90 (by simp [belAll, V.bel, belT, belP]) rfl ?_
 simp (maxSteps := 2000000) -implicitDefEqProofs +contextual (disch := first | assumption | omega | decide +kernel) only [push_cast, ↓capI, seval, Nat.reduceLeDiff, Nat.reduceEqDiff, reduceCtorEq, ↓reduceIte, Tryz.ntmps90, getI_int]
 repeat' (first | intro _ | refine And.intro ?_ ?_)
 all_goals
  refine endK.ret ?_ rfl
  simp only [evRes, getT, retV, Tryz.f90]
  simp [has, *]
theorem pc94 (t : Tp) (p : Int × Int) : PC Tryz.prog 94 [.agg (encT t), .agg (encP p)] (.bool (has t p)) := by
 refine PC.walk tok mixed cfg0 Tryz.func94 rfl Tryz.call94 (by simp [belAll, V.bel, belT, belP]) rfl ?_
 simp (maxSteps := 2000000) -implicitDefEqProofs +contextual (disch := first | assumption | omega | decide +kernel) only [push_cast, ↓capI, seval, Nat.reduceLeDiff, Nat.reduceEqDiff, reduceCtorEq, ↓reduceIte, Tryz.ntmps94, getI_int]
 repeat' (first | intro _ | refine And.intro ?_ ?_)
 all_goals
  refine endK.ret ?_ rfl
  simp only [evRes, getT, retV, Tryz.f94]
  simp [has, *]
end Go.Proofs.YtlbmbbaefncleaaGreatDoor.Top
