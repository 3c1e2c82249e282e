/-
  Proved: for every input the law CubesetComplements answers true and leaves its arguments as they were (the complement is apart from the set, both counts add up, and complementing twice restores the set).
  Conditions: none beyond those of the given statement CubesetComplementsSaid.
-/
import Derived.Test.YtopnabckbpogeaaL15
set_option linter.all false
set_option maxRecDepth 100000
set_option maxHeartbeats 4000000
namespace Go.Proofs.Ytopnabckbpogeaa
open Go.Vm Go.ChangeShapes Go.WideShapes Go.ChangeAt Go.RowKit
theorem lifted15 (os : Os) (started : os.Started) (H : Type) (enc : TypeId × Value → H) :
    ReturnsInHanded {} Try.checked os 15 .any (Rows.cubesetComplementsSpec.pre6 enc Try.prog Try.f15 Rows.cubesetComplementsRow.domain false) (Rows.cubesetComplementsSpec.post enc Try.prog Try.f15 false true false false) :=
  law_lifted (C := Try.checked) (m := 8) (tb := 4) (s := Rows.cubesetComplementsSpec) tok own started (by kernel_rfl) Try.func15
    (ChangeSpec.witness6 (enc := enc) (C := Try.checked) false ⟨#[], #[.slice none 0 0, .int .u8 0], []⟩ 8 (by kernel_rfl) (by kernel_rfl) (by kernel_rfl) (by kernel_rfl))
    laidOut rfl (by kernel_rfl) (by kernel_rfl) rfl (by kernel_rfl) (fun ds hl => spec_two rfl ds hl) law15
theorem cubesetComplements_holds : Rows.CubesetComplementsSaid :=
  OpenClaim.holds_of_wide 15 Try.f15 rfl rfl rfl rfl rfl rfl rfl ⟨rfl, rfl, rfl, rfl, rfl⟩ rfl rfl rfl rfl rfl (by kernel_rfl) Try.func15 (by kernel_rfl)
    (of_decide_eq_true (by kernel_rfl)) (by unfold Func.isWrapper; first | (rw [if_pos (by decide +kernel)]; kernel_rfl) | (rw [if_neg (by decide +kernel)]; exact ⟨rfl, rfl⟩))
    (fun os started H enc _ => lifted15 os started H enc)
end Go.Proofs.Ytopnabckbpogeaa
