/-
  Joined by a program from the texts F5.
-/
import Derived.Test.YticeakkgoafiaaaMm
/- Joined by a program from the texts F5. -/
/- Joined by a program from the texts F5. -/
/- Proved: for every input the law RouteOptimal answers true and leaves its arguments as they were (the route that Find answers is valid, and no valid list of hops is better).
  Conditions: none beyond those of the given statement RouteOptimalSaid. -/
set_option linter.all false
set_option maxRecDepth 100000
set_option maxHeartbeats 4000000
namespace Go.Proofs.Yticeakkgoafiaaa
open Go.Vm Go.ChangeShapes Go.WideShapes Go.ChangeAt Go.RowKit
theorem lifted5 (os : Os) (started : os.Started) (H : Type) (enc : TypeId × Value → H) :
  ReturnsInHanded {} Try.checked os 5 .any (Rows.routeOptimalSpec.pre6 enc Try.prog Try.f5 Rows.routeOptimalRow.domain false) (Rows.routeOptimalSpec.post enc Try.prog Try.f5 false true false false) :=
 law_lifted (C := Try.checked) (m := 8) (tb := 4) (s := Rows.routeOptimalSpec) tok own started (by kernel_rfl) Try.func5
  (ChangeSpec.witness6 (enc := enc) (C := Try.checked) false ⟨#[], #[.agg #[.slice none 0 0, .slice none 0 0, .slice none 0 0], .agg #[.int .i64 0, .int .i64 0, .slice none 0 0], .slice none 0 0], []⟩ 8 (by kernel_rfl) (by kernel_rfl) (by kernel_rfl) (by kernel_rfl))
  laidOut rfl (by kernel_rfl) (by kernel_rfl) rfl (by kernel_rfl) (fun ds hl => spec_three rfl ds hl) (fun _ => rfl) law5
theorem routeOptimal_holds : Rows.RouteOptimalSaid :=
 OpenClaim.holds_of_wide 5 Try.f5 rfl rfl rfl rfl rfl rfl rfl ⟨rfl, rfl, rfl, rfl, rfl⟩ rfl rfl rfl rfl rfl (by kernel_rfl) Try.func5 (by kernel_rfl)
  (of_decide_eq_true (by kernel_rfl)) (by unfold Func.isWrapper; first | (rw [if_pos (by decide +kernel)]; kernel_rfl) | (rw [if_neg (by decide +kernel)]; exact ⟨rfl, rfl⟩))
  (fun os started H enc _ => lifted5 os started H enc)
end Go.Proofs.Yticeakkgoafiaaa

