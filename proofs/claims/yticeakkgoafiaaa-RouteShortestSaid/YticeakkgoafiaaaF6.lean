/-
  Joined by a program from the texts F6.
-/
import Derived.Test.YticeakkgoafiaaaMn
/- Proved: for every input the law RouteShortest answers true and leaves its arguments as they were (without a constraint the number of hops is the distance of the switches plus 1, and routes exist in both directions or in none).
  Conditions: none beyond those of the given statement RouteShortestSaid. -/
set_option linter.all false
set_option maxRecDepth 100000
set_option maxHeartbeats 4000000
namespace Go.Proofs.Yticeakkgoafiaaa
open Go.Vm Go.ChangeShapes Go.WideShapes Go.ChangeAt Go.RowKit
theorem lifted6 (os : Os) (started : os.Started) (H : Type) (enc : TypeId × Value → H) :
    ReturnsInHanded {} Try.checked os 6 .any (Rows.routeShortestSpec.pre6 enc Try.prog Try.f6 Rows.routeShortestRow.domain false) (Rows.routeShortestSpec.post enc Try.prog Try.f6 false true false false) :=
  law_lifted (C := Try.checked) (m := 8) (tb := 4) (s := Rows.routeShortestSpec) tok own started (by kernel_rfl) Try.func6
    (ChangeSpec.witness6 (enc := enc) (C := Try.checked) false ⟨#[], #[.agg #[.slice none 0 0, .slice none 0 0, .slice none 0 0], .int .i64 0, .int .i64 0], []⟩ 8 (by kernel_rfl) (by kernel_rfl) (by kernel_rfl) (by kernel_rfl))
    laidOut rfl (by kernel_rfl) (by kernel_rfl) rfl (by kernel_rfl) (fun ds hl => spec_three rfl ds hl) (fun _ => rfl) law6
theorem routeShortest_holds : Rows.RouteShortestSaid :=
  OpenClaim.holds_of_wide 6 Try.f6 rfl rfl rfl rfl rfl rfl rfl ⟨rfl, rfl, rfl, rfl, rfl⟩ rfl rfl rfl rfl rfl (by kernel_rfl) Try.func6 (by kernel_rfl)
    (of_decide_eq_true (by kernel_rfl)) (by unfold Func.isWrapper; first | (rw [if_pos (by decide +kernel)]; kernel_rfl) | (rw [if_neg (by decide +kernel)]; exact ⟨rfl, rfl⟩))
    (fun os started H enc _ => lifted6 os started H enc)
end Go.Proofs.Yticeakkgoafiaaa

