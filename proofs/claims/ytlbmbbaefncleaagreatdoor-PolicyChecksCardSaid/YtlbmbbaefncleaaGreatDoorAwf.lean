/-
  Chapter 45: the examples hold.
-/
import Derived.Test.YtlbmbbaefncleaaGreatDoorAw
import Derived.Test.YtlbmbbaefncleaaGreatDoorBf
set_option maxRecDepth 100000
set_option maxHeartbeats 4000000
set_option linter.all false
namespace Go.Proofs.YtlbmbbaefncleaaGreatDoor
open Go.Vm
attribute [local push_cast] cfg0
theorem pc34 (n : Int) : PC Tryz.prog 34 [.int .i64 n] (.bool (hostB n)) := by
 refine PC.walk tok mixed cfg0 Tryz.func34 rfl Tryz.call34 (by simp [belAll, V.bel, belObs, Ob.bel]) (by first | rfl | simp [belAll, V.bel, belObs, Ob.bel]) ?_; refine vms1 Tryz.ntmps34 ?_
 refine ⟨fun h1 => ?_, fun h1 => ?_⟩
 ·refine endK.ret ?_ (by first | rfl | simp [belAll, V.bel, belObs, Ob.bel]); simp [evRes, getT, retV, Tryz.f34,  hostB, h1]
 ·refine endK.ret ?_ (by first | rfl | simp [belAll, V.bel, belObs, Ob.bel]); simp [evRes, getT, retV, Tryz.f34,  hostB, h1]
def rg0 : Rg := ⟨0, 1, qPred, pPair, [116, 114, 117, 101], [46, 42], 0, 0⟩
theorem pc35z : PC Tryz.prog 35 [qPred] (.tup [.str [116, 114, 117, 101], .int .i64 0]) :=
 PC.run Tryz.prog tt MT tbl CF (fun _ _ _ => none) 1000 ZF ZC hMT (fun _ _ _ _ _ h => by cases h) tok mixed' 30 rfl rfl (by kernel_rfl)
theorem pc36z : PC Tryz.prog 36 [pPair] (.tup [.str [46, 42], .int .i64 0]) :=
 PC.run Tryz.prog tt MT tbl CF (fun _ _ _ => none) 1000 ZF ZC hMT (fun _ _ _ _ _ h => by cases h) tok mixed' 30 rfl rfl (by kernel_rfl)
theorem pc10 : PC Tryz.prog 10 [] (.bool true) := by
 refine awk ?_
 have := pc11 [rg0] (by decide) (fun r hr => by simp at hr; subst hr; exact ⟨by decide, by decide⟩) rfl (fun r hr => by simp at hr; subst hr; exact ⟨rfl, rfl⟩) pc34 (fun r hr _ => by simp at hr; subst hr; exact pc35z) (fun r hr _ _ => by simp at hr; subst hr; exact pc36z)
 have e : fmtG [rg0] = ([114, 117, 108, 101, 32, 48, 32, 49, 10, 116, 114, 117, 101, 10, 46, 42, 10], 0) := by decide +kernel
 rw [e] at this
 exact this
end Go.Proofs.YtlbmbbaefncleaaGreatDoor
