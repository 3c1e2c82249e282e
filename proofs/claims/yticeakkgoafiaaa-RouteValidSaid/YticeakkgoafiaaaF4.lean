/-
  Joined by a program from the texts F4.
-/
import Derived.Test.YticeakkgoafiaaaMk
/- Joined by a program from the texts F4. -/
/- Joined by a program from the texts F4. -/
/- Proved: for every input the law RouteValid answers true and leaves its arguments as they were (Valid and Switches answer as defined).
  Conditions: none beyond those of the given statement RouteValidSaid. -/
set_option linter.all false
set_option maxRecDepth 100000
set_option maxHeartbeats 4000000
namespace Go.Proofs.Yticeakkgoafiaaa
open Go.Vm Go.ChangeShapes Go.WideShapes Go.ChangeAt Go.RowKit
theorem lifted4 (os : Os) (started : os.Started) (H : Type) (enc : TypeId × Value → H) :
  ReturnsInHanded {} Try.checked os 4 .any (Rows.routeValidSpec.pre6 enc Try.prog Try.f4 Rows.routeValidRow.domain false) (Rows.routeValidSpec.post enc Try.prog Try.f4 false true false false) :=
 law_lifted (C := Try.checked) (m := 8) (tb := 4) (s := Rows.routeValidSpec) tok own started (by kernel_rfl) Try.func4
  (ChangeSpec.witness6 (enc := enc) (C := Try.checked) false ⟨#[], #[.agg #[.slice none 0 0, .slice none 0 0, .slice none 0 0], .agg #[.int .i64 0, .int .i64 0, .slice none 0 0], .slice none 0 0], []⟩ 8 (by kernel_rfl) (by kernel_rfl) (by kernel_rfl) (by kernel_rfl))
  laidOut rfl (by kernel_rfl) (by kernel_rfl) rfl (by kernel_rfl) (fun ds hl => spec_three rfl ds hl) (fun _ => rfl) law4
theorem routeValid_holds : Rows.RouteValidSaid :=
 OpenClaim.holds_of_wide 4 Try.f4 rfl rfl rfl rfl rfl rfl rfl ⟨rfl, rfl, rfl, rfl, rfl⟩ rfl rfl rfl rfl rfl (by kernel_rfl) Try.func4 (by kernel_rfl)
  (of_decide_eq_true (by kernel_rfl)) (by unfold Func.isWrapper; first | (rw [if_pos (by decide +kernel)]; kernel_rfl) | (rw [if_neg (by decide +kernel)]; exact ⟨rfl, rfl⟩))
  (fun os started H enc _ => lifted4 os started H enc)
end Go.Proofs.Yticeakkgoafiaaa

