/-
  Proved: for every input the law CubesetSimplifies answers true and leaves its arguments as they were (a simplified list is an antichain, simplifying twice changes nothing, and it is a subsequence).
  Conditions: none beyond those of the given statement CubesetSimplifiesSaid.
-/
import Derived.Test.YtopnabckbpogeaaL8
set_option linter.all false
set_option maxRecDepth 100000
set_option maxHeartbeats 4000000
namespace Go.Proofs.Ytopnabckbpogeaa
open Go.Vm Go.ChangeShapes Go.WideShapes Go.ChangeAt Go.RowKit
theorem lifted8 (os : Os) (started : os.Started) (H : Type) (enc : TypeId × Value → H) :
    ReturnsInHanded {} Try.checked os 8 .any (Rows.cubesetSimplifiesSpec.pre6 enc Try.prog Try.f8 Rows.cubesetSimplifiesRow.domain false) (Rows.cubesetSimplifiesSpec.post enc Try.prog Try.f8 false true false false) :=
  law_lifted (C := Try.checked) (m := 8) (tb := 4) (s := Rows.cubesetSimplifiesSpec) tok own started (by kernel_rfl) Try.func8
    (ChangeSpec.witness6 (enc := enc) (C := Try.checked) false ⟨#[], #[.slice none 0 0], []⟩ 8 (by kernel_rfl) (by kernel_rfl) (by kernel_rfl) (by kernel_rfl))
    laidOut rfl (by kernel_rfl) (by kernel_rfl) rfl (by kernel_rfl) (fun ds hl => spec_one rfl ds hl) law8
theorem cubesetSimplifies_holds : Rows.CubesetSimplifiesSaid :=
  OpenClaim.holds_of_wide 8 Try.f8 rfl rfl rfl rfl rfl rfl rfl ⟨rfl, rfl, rfl, rfl, rfl⟩ rfl rfl rfl rfl rfl (by kernel_rfl) Try.func8 (by kernel_rfl)
    (of_decide_eq_true (by kernel_rfl)) (by unfold Func.isWrapper; first | (rw [if_pos (by decide +kernel)]; kernel_rfl) | (rw [if_neg (by decide +kernel)]; exact ⟨rfl, rfl⟩))
    (fun os started H enc _ => lifted8 os started H enc)
end Go.Proofs.Ytopnabckbpogeaa
