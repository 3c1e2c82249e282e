/-
  Chapter 45: what all texts of this chapter begin with.
-/
import Derived.Test.YtlbmbbaefncleaaGreatDoorTypes
import Derived.Test.YtlbmbbaefncleaaGreatDoorVm4
import Derived.Test.YtlbmbbaefncleaaGreatDoorVm6
set_option maxRecDepth 100000
set_option linter.all false
namespace Go.Proofs.YtlbmbbaefncleaaGreatDoor
open Go.Vm
theorem mixed : Tryz.prog.follows .mixedOrders = true := by kernel_rfl
def cfg0 : Cfg := { lv := [], ef := [], ord := [], em := [] }
theorem ibeq_dec {a b : Int} : (a == b) = decide (a = b) := by rw [Bool.eq_iff_iff, beq_iff_eq, decide_eq_true_eq]
end Go.Proofs.YtlbmbbaefncleaaGreatDoor
