/-
  Chapter 40: what a port is used for; whether a topology is small.
-/
import Derived.Test.YtlbmbbaefncleaaGreatDoorTopAt
set_option maxRecDepth 100000
set_option linter.all false
namespace Go.Proofs.YtlbmbbaefncleaaGreatDoor.Top
open Go.Vm
def small (t : Tp) : Bool := decide ((t.ports.length : Int) ≤ 20) && (decide ((t.links.length : Int) ≤ 40) && decide ((t.hosts.length : Int) ≤ 20))
theorem small_fit {t : Tp} (h : small t = true) : t.fit := by
 simp only [small, Bool.and_eq_true, decide_eq_true_eq] at h
 exact ⟨by omega, by omega, by omega⟩
attribute [local push_cast] encT encP encL slI slP slL cfg0 gfp_lenP gfp_lenL gfd_lenL lfl_lenP lfl_lenL eqP
theorem pc16 (t : Tp) : PC Tryz.prog 16 [.agg (encT t)] (.bool (small t)) := by
 refine PC.walk tok mixed cfg0 Tryz.func16 rfl Tryz.call16 (by simp [belAll, V.bel, belT, belP]) rfl ?_
 refine vms1 Tryz.ntmps16 ?_
 repeat' (first | intro _ | refine And.intro ?_ ?_)
 all_goals
  refine endK.ret ?_ rfl
  simp only [evRes, getT, retV, Tryz.f16]
  simp [small, *]
def useOf (t : Tp) (p : Int × Int) : Int × Int := if (linkAt t p).2 then (1, (linkAt t p).1) else if (hostAt t p).2 then (2, (hostAt t p).1) else (0, 0)
def encII (r : Int × Int) : V := .tup [.int .i64 r.1, .int .i64 r.2]
theorem pc147 (t : Tp) (p : Int × Int) (hf : t.fit) : PC Tryz.prog 147 [.agg (encT t), .agg (encP p)] (encII (useOf t p)) := by
 refine PC.walk tok mixed cfg0 Tryz.func147 rfl Tryz.call147 (by simp [belAll, V.bel, belT, belP]) rfl ?_
 refine vms1 Tryz.ntmps147 ?_
 refine callO.pc (pc176 t p hf) ?_
 simp (maxSteps := 2000000) -implicitDefEqProofs +contextual (disch := first | assumption | omega | decide +kernel) only [push_cast, ↓capI, seval, Nat.reduceLeDiff, Nat.reduceEqDiff, reduceCtorEq, ↓reduceIte, encIB]
 refine ⟨fun h => ?_, fun h => callO.pc (pc177 t p hf) ?_⟩
 ·refine endK.ret ?_ rfl
  simp [evRes, getT, retV, Tryz.f147, useOf, encII, h]
 simp (maxSteps := 2000000) -implicitDefEqProofs +contextual (disch := first | assumption | omega | decide +kernel) only [push_cast, ↓capI, seval, Nat.reduceLeDiff, Nat.reduceEqDiff, reduceCtorEq, ↓reduceIte, encIB]
 repeat' (first | intro _ | refine And.intro ?_ ?_)
 all_goals
  refine endK.ret ?_ rfl
  simp [evRes, getT, retV, Tryz.f147, useOf, encII, *]
end Go.Proofs.YtlbmbbaefncleaaGreatDoor.Top
