/-
  Joined by a program from the texts Alg.
-/
import Derived.Test.YtginpkchjeooeaaDoorMe
/- Chapter 41: alternatives, concatenations and repetitions in lists. -/
set_option maxRecDepth 100000
set_option maxHeartbeats 4000000
set_option linter.all false
namespace Go.Proofs.YtginpkchjeooeaaDoor
open Go.Vm Go.ChangeShapes Go.WideShapes Go.ChangeAt Go.RowKit

theorem mt_of {P : Pr} {w : List Int} (hp : okP 1000000000 P) (hl : (flat P).length ≤ 24) : mtL (flat P) w = true ↔ Mt P w := mtL_iff hp (tree_checkP hp hl)
theorem jn_flat {o : Int} {p q : Pr} : jn o (flat p) (flat q) = flat (.bin (op0 o) p q) := rfl
theorem st_flat {p : Pr} : op0 6 :: flat p = flat (.un (op0 6) p) := rfl
theorem bin_len {o : Int} {p q : Pr} : (flat (.bin (op0 o) p q)).length = (flat p).length + (flat q).length + 1 := by rw [flat, List.length_cons, List.length_append]
theorem un_len {p : Pr} : (flat (.un (op0 6) p)).length = (flat p).length + 1 := by rw [flat, List.length_cons]
theorem Mt_alt {p q : Pr} {w : List Int} : Mt (.bin (op0 5) p q) w ↔ Mt p w ∨ Mt q w := by rw [Mt, if_pos (show (op0 5).op = 5 from rfl)]
theorem Mt_cat {p q : Pr} {w : List Int} : Mt (.bin (op0 4) p q) w ↔ ∃ u v, w = u ++ v ∧ Mt p u ∧ Mt q v := by rw [Mt, if_neg (show ¬ (op0 4).op = 5 by decide)]
theorem Mt_star {p : Pr} {w : List Int} : Mt (.un (op0 6) p) w ↔ Star (Mt p) w := by rw [Mt]
end Go.Proofs.YtginpkchjeooeaaDoor

