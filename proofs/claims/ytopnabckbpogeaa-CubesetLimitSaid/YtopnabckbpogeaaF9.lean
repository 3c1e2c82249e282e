/-
  Proved: for every input the law CubesetLimit answers true and leaves its arguments as they were (a union of single numbers succeeds up to the limit and fails beyond).
  Conditions: none beyond those of the given statement CubesetLimitSaid.
-/
import Derived.Test.YtopnabckbpogeaaL9
set_option linter.all false
set_option maxRecDepth 100000
set_option maxHeartbeats 4000000
namespace Go.Proofs.Ytopnabckbpogeaa
open Go.Vm Go.ChangeShapes Go.WideShapes Go.ChangeAt Go.RowKit
theorem lifted9 (os : Os) (started : os.Started) (H : Type) (enc : TypeId × Value → H) :
    ReturnsInHanded {} Try.checked os 9 .any (Rows.cubesetLimitSpec.pre6 enc Try.prog Try.f9 Rows.cubesetLimitRow.domain false) (Rows.cubesetLimitSpec.post enc Try.prog Try.f9 false true false false) :=
  law_lifted (C := Try.checked) (m := 8) (tb := 4) (s := Rows.cubesetLimitSpec) tok own started (by kernel_rfl) Try.func9
    (ChangeSpec.witness6 (enc := enc) (C := Try.checked) false ⟨#[], #[.int .u8 0, .int .u32 0], []⟩ 8 (by kernel_rfl) (by kernel_rfl) (by kernel_rfl) (by kernel_rfl))
    laidOut rfl (by kernel_rfl) (by kernel_rfl) rfl (by kernel_rfl) (fun ds hl => spec_two rfl ds hl) law9
theorem cubesetLimit_holds : Rows.CubesetLimitSaid :=
  OpenClaim.holds_of_wide 9 Try.f9 rfl rfl rfl rfl rfl rfl rfl ⟨rfl, rfl, rfl, rfl, rfl⟩ rfl rfl rfl rfl rfl (by kernel_rfl) Try.func9 (by kernel_rfl)
    (of_decide_eq_true (by kernel_rfl)) (by unfold Func.isWrapper; first | (rw [if_pos (by decide +kernel)]; kernel_rfl) | (rw [if_neg (by decide +kernel)]; exact ⟨rfl, rfl⟩))
    (fun os started H enc _ => lifted9 os started H enc)
end Go.Proofs.Ytopnabckbpogeaa
