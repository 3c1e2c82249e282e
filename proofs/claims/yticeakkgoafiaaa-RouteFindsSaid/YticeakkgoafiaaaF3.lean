/-
  Joined by a program from the texts F3.
-/
import Derived.Test.YticeakkgoafiaaaMj
/- Joined by a program from the texts F3. -/
/- Joined by a program from the texts F3. -/
/- Proved: for every input the law RouteFinds answers true and leaves its arguments as they were (Find answers the route, or the error, of the definition).
  Conditions: none beyond those of the given statement RouteFindsSaid. -/
set_option linter.all false
set_option maxRecDepth 100000
set_option maxHeartbeats 4000000
namespace Go.Proofs.Yticeakkgoafiaaa
open Go.Vm Go.ChangeShapes Go.WideShapes Go.ChangeAt Go.RowKit
theorem lifted3 (os : Os) (started : os.Started) (H : Type) (enc : TypeId × Value → H) :
  ReturnsInHanded {} Try.checked os 3 .any (Rows.routeFindsSpec.pre6 enc Try.prog Try.f3 Rows.routeFindsRow.domain false) (Rows.routeFindsSpec.post enc Try.prog Try.f3 false true false false) :=
 law_lifted (C := Try.checked) (m := 8) (tb := 4) (s := Rows.routeFindsSpec) tok own started (by kernel_rfl) Try.func3
  (ChangeSpec.witness6 (enc := enc) (C := Try.checked) false ⟨#[], #[.agg #[.slice none 0 0, .slice none 0 0, .slice none 0 0], .agg #[.int .i64 0, .int .i64 0, .slice none 0 0]], []⟩ 8 (by kernel_rfl) (by kernel_rfl) (by kernel_rfl) (by kernel_rfl))
  laidOut rfl (by kernel_rfl) (by kernel_rfl) rfl (by kernel_rfl) (fun ds hl => spec_two rfl ds hl) (fun _ => rfl) law3
theorem routeFinds_holds : Rows.RouteFindsSaid :=
 OpenClaim.holds_of_wide 3 Try.f3 rfl rfl rfl rfl rfl rfl rfl ⟨rfl, rfl, rfl, rfl, rfl⟩ rfl rfl rfl rfl rfl (by kernel_rfl) Try.func3 (by kernel_rfl)
  (of_decide_eq_true (by kernel_rfl)) (by unfold Func.isWrapper; first | (rw [if_pos (by decide +kernel)]; kernel_rfl) | (rw [if_neg (by decide +kernel)]; exact ⟨rfl, rfl⟩))
  (fun os started H enc _ => lifted3 os started H enc)
end Go.Proofs.Yticeakkgoafiaaa

