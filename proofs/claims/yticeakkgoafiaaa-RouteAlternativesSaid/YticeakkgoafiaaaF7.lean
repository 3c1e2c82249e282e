/-
  Joined by a program from the texts F7.
-/
import Derived.Test.YticeakkgoafiaaaMo
/- Proved: for every input the law RouteAlternatives answers true and leaves its arguments as they were (the route for an alternative of two expressions is the better one of the routes for both).
  Conditions: none beyond those of the given statement RouteAlternativesSaid. -/
set_option linter.all false
set_option maxRecDepth 100000
set_option maxHeartbeats 4000000
namespace Go.Proofs.Yticeakkgoafiaaa
open Go.Vm Go.ChangeShapes Go.WideShapes Go.ChangeAt Go.RowKit
theorem lifted7 (os : Os) (started : os.Started) (H : Type) (enc : TypeId × Value → H) :
    ReturnsInHanded {} Try.checked os 7 .any (Rows.routeAlternativesSpec.pre6 enc Try.prog Try.f7 Rows.routeAlternativesRow.domain false) (Rows.routeAlternativesSpec.post enc Try.prog Try.f7 false true false false) :=
  law_lifted (C := Try.checked) (m := 8) (tb := 4) (s := Rows.routeAlternativesSpec) tok own started (by kernel_rfl) Try.func7
    (ChangeSpec.witness6 (enc := enc) (C := Try.checked) false ⟨#[], #[.agg #[.slice none 0 0, .slice none 0 0, .slice none 0 0], .agg #[.int .i64 0, .int .i64 0, .slice none 0 0], .slice none 0 0], []⟩ 8 (by kernel_rfl) (by kernel_rfl) (by kernel_rfl) (by kernel_rfl))
    laidOut rfl (by kernel_rfl) (by kernel_rfl) rfl (by kernel_rfl) (fun ds hl => spec_three rfl ds hl) (fun _ => rfl) law7
theorem routeAlternatives_holds : Rows.RouteAlternativesSaid :=
  OpenClaim.holds_of_wide 7 Try.f7 rfl rfl rfl rfl rfl rfl rfl ⟨rfl, rfl, rfl, rfl, rfl⟩ rfl rfl rfl rfl rfl (by kernel_rfl) Try.func7 (by kernel_rfl)
    (of_decide_eq_true (by kernel_rfl)) (by unfold Func.isWrapper; first | (rw [if_pos (by decide +kernel)]; kernel_rfl) | (rw [if_neg (by decide +kernel)]; exact ⟨rfl, rfl⟩))
    (fun os started H enc _ => lifted7 os started H enc)
end Go.Proofs.Yticeakkgoafiaaa

