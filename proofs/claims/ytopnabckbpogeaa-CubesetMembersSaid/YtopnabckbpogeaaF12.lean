/-
  Proved: for every input the law CubesetMembers answers true and leaves its arguments as they were (membership in unions, intersections, differences, complements and simplified lists).
  Conditions: none beyond those of the given statement CubesetMembersSaid.
-/
import Derived.Test.YtopnabckbpogeaaL12
set_option linter.all false
set_option maxRecDepth 100000
set_option maxHeartbeats 4000000
namespace Go.Proofs.Ytopnabckbpogeaa
open Go.Vm Go.ChangeShapes Go.WideShapes Go.ChangeAt Go.RowKit
theorem lifted12 (os : Os) (started : os.Started) (H : Type) (enc : TypeId × Value → H) :
    ReturnsInHanded {} Try.checked os 12 .any (Rows.cubesetMembersSpec.pre6 enc Try.prog Try.f12 Rows.cubesetMembersRow.domain false) (Rows.cubesetMembersSpec.post enc Try.prog Try.f12 false true false false) :=
  law_lifted (C := Try.checked) (m := 8) (tb := 4) (s := Rows.cubesetMembersSpec) tok own started (by kernel_rfl) Try.func12
    (ChangeSpec.witness6 (enc := enc) (C := Try.checked) false ⟨#[], #[.slice none 0 0, .slice none 0 0, .agg #[.int .u8 0, .slice none 0 0]], []⟩ 8 (by kernel_rfl) (by kernel_rfl) (by kernel_rfl) (by kernel_rfl))
    laidOut rfl (by kernel_rfl) (by kernel_rfl) rfl (by kernel_rfl) (fun ds hl => spec_three rfl ds hl) law12
theorem cubesetMembers_holds : Rows.CubesetMembersSaid :=
  OpenClaim.holds_of_wide 12 Try.f12 rfl rfl rfl rfl rfl rfl rfl ⟨rfl, rfl, rfl, rfl, rfl⟩ rfl rfl rfl rfl rfl (by kernel_rfl) Try.func12 (by kernel_rfl)
    (of_decide_eq_true (by kernel_rfl)) (by unfold Func.isWrapper; first | (rw [if_pos (by decide +kernel)]; kernel_rfl) | (rw [if_neg (by decide +kernel)]; exact ⟨rfl, rfl⟩))
    (fun os started H enc _ => lifted12 os started H enc)
end Go.Proofs.Ytopnabckbpogeaa
