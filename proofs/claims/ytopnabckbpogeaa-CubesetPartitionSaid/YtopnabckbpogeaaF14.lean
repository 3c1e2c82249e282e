/-
  Proved: for every input the law CubesetPartition answers true and leaves its arguments as they were (the difference and the intersection part the first set).
  Conditions: none beyond those of the given statement CubesetPartitionSaid.
-/
import Derived.Test.YtopnabckbpogeaaL14
set_option linter.all false
set_option maxRecDepth 100000
set_option maxHeartbeats 4000000
namespace Go.Proofs.Ytopnabckbpogeaa
open Go.Vm Go.ChangeShapes Go.WideShapes Go.ChangeAt Go.RowKit
theorem lifted14 (os : Os) (started : os.Started) (H : Type) (enc : TypeId × Value → H) :
    ReturnsInHanded {} Try.checked os 14 .any (Rows.cubesetPartitionSpec.pre6 enc Try.prog Try.f14 Rows.cubesetPartitionRow.domain false) (Rows.cubesetPartitionSpec.post enc Try.prog Try.f14 false true false false) :=
  law_lifted (C := Try.checked) (m := 8) (tb := 4) (s := Rows.cubesetPartitionSpec) tok own started (by kernel_rfl) Try.func14
    (ChangeSpec.witness6 (enc := enc) (C := Try.checked) false ⟨#[], #[.slice none 0 0, .slice none 0 0, .int .u8 0], []⟩ 8 (by kernel_rfl) (by kernel_rfl) (by kernel_rfl) (by kernel_rfl))
    laidOut rfl (by kernel_rfl) (by kernel_rfl) rfl (by kernel_rfl) (fun ds hl => spec_three rfl ds hl) law14
theorem cubesetPartition_holds : Rows.CubesetPartitionSaid :=
  OpenClaim.holds_of_wide 14 Try.f14 rfl rfl rfl rfl rfl rfl rfl ⟨rfl, rfl, rfl, rfl, rfl⟩ rfl rfl rfl rfl rfl (by kernel_rfl) Try.func14 (by kernel_rfl)
    (of_decide_eq_true (by kernel_rfl)) (by unfold Func.isWrapper; first | (rw [if_pos (by decide +kernel)]; kernel_rfl) | (rw [if_neg (by decide +kernel)]; exact ⟨rfl, rfl⟩))
    (fun os started H enc _ => lifted14 os started H enc)
end Go.Proofs.Ytopnabckbpogeaa
