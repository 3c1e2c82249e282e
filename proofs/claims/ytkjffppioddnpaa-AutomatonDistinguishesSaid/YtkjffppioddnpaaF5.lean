/-
  Joined by a program from the texts F5.
-/
import Derived.Test.YtkjffppioddnpaaMe
/- Proved: for every input the law AutomatonDistinguishes answers true and leaves its arguments as they were (the list that distinguishes two automata is that of the definition, and exactly one of them accepts it).
  Conditions: none beyond those of the given statement AutomatonDistinguishesSaid. -/
set_option linter.all false
set_option maxRecDepth 100000
set_option maxHeartbeats 4000000
namespace Go.Proofs.Ytkjffppioddnpaa
open Go.Vm Go.ChangeShapes Go.WideShapes Go.ChangeAt Go.RowKit
theorem lifted5 (os : Os) (started : os.Started) (H : Type) (enc : TypeId × Value → H) :
    ReturnsInHanded {} Try.checked os 5 .any (Rows.automatonDistinguishesSpec.pre6 enc Try.prog Try.f5 Rows.automatonDistinguishesRow.domain false) (Rows.automatonDistinguishesSpec.post enc Try.prog Try.f5 false true false false) :=
  law_lifted (C := Try.checked) (m := 8) (tb := 4) (s := Rows.automatonDistinguishesSpec) tok own started (by kernel_rfl) Try.func5
    (ChangeSpec.witness6 (enc := enc) (C := Try.checked) false ⟨#[], #[.agg #[.slice none 0 0, .slice none 0 0], .agg #[.slice none 0 0, .slice none 0 0]], []⟩ 8 (by kernel_rfl) (by kernel_rfl) (by kernel_rfl) (by kernel_rfl))
    laidOut rfl (by kernel_rfl) (by kernel_rfl) rfl (by kernel_rfl) (fun ds hl => spec_two rfl ds hl) (fun _ => rfl) law5
theorem automatonDistinguishes_holds : Rows.AutomatonDistinguishesSaid :=
  OpenClaim.holds_of_wide 5 Try.f5 rfl rfl rfl rfl rfl rfl rfl ⟨rfl, rfl, rfl, rfl, rfl⟩ rfl rfl rfl rfl rfl (by kernel_rfl) Try.func5 (by kernel_rfl)
    (of_decide_eq_true (by kernel_rfl)) (by unfold Func.isWrapper; first | (rw [if_pos (by decide +kernel)]; kernel_rfl) | (rw [if_neg (by decide +kernel)]; exact ⟨rfl, rfl⟩))
    (fun os started H enc _ => lifted5 os started H enc)
end Go.Proofs.Ytkjffppioddnpaa

