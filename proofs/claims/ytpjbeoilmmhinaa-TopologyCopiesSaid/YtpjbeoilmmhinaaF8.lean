/-
  Proved: for every input the law TopologyCopies answers true and leaves its arguments as they were (changing copies leaves the argument as it was; setting a link and setting it back restores the topology).
  Conditions: none beyond those of the given statement TopologyCopiesSaid.
-/
import Derived.Test.YtpjbeoilmmhinaaL8
set_option linter.all false
set_option maxRecDepth 100000
set_option maxHeartbeats 4000000
namespace Go.Proofs.Ytpjbeoilmmhinaa
open Go.Vm Go.ChangeShapes Go.WideShapes Go.ChangeAt Go.RowKit
theorem lifted8 (os : Os) (started : os.Started) (H : Type) (enc : TypeId × Value → H) :
    ReturnsInHanded {} Try.checked os 8 .any (Rows.topologyCopiesSpec.pre6 enc Try.prog Try.f8 Rows.topologyCopiesRow.domain false) (Rows.topologyCopiesSpec.post enc Try.prog Try.f8 false true false false) :=
  law_lifted (C := Try.checked) (m := 8) (tb := 4) (s := Rows.topologyCopiesSpec) tok own started (by kernel_rfl) Try.func8
    (ChangeSpec.witness6 (enc := enc) (C := Try.checked) false ⟨#[], #[.agg #[.slice none 0 0, .slice none 0 0, .slice none 0 0], .int .i64 0], []⟩ 8 (by kernel_rfl) (by kernel_rfl) (by kernel_rfl) (by kernel_rfl))
    laidOut rfl (by kernel_rfl) (by kernel_rfl) rfl (by kernel_rfl) (fun ds hl => spec_two rfl ds hl) law8
theorem topologyCopies_holds : Rows.TopologyCopiesSaid :=
  OpenClaim.holds_of_wide 8 Try.f8 rfl rfl rfl rfl rfl rfl rfl ⟨rfl, rfl, rfl, rfl, rfl⟩ rfl rfl rfl rfl rfl (by kernel_rfl) Try.func8 (by kernel_rfl)
    (of_decide_eq_true (by kernel_rfl)) (by unfold Func.isWrapper; first | (rw [if_pos (by decide +kernel)]; kernel_rfl) | (rw [if_neg (by decide +kernel)]; exact ⟨rfl, rfl⟩))
    (fun os started H enc _ => lifted8 os started H enc)
end Go.Proofs.Ytpjbeoilmmhinaa
