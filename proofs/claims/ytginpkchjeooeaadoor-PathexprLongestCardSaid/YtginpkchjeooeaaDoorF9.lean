/-
  Joined by a program from the texts F9.
-/
import Derived.Test.YtginpkchjeooeaaDoorL9
import Derived.Test.YtginpkchjeooeaaDoorMe
import Derived.Test.YtginpkchjeooeaaDoorTie
import Derived.Test.YtginpkchjeooeaaDoorCards
import Derived.SevenTiedAt
/- Proved: for every input the law PathexprLongest answers true and leaves its arguments as they were (no list longer than MaxLen is matched).
  Conditions: the listed package-level variables of Go's library hold what the program's text lays; the card ties this to the text. -/
set_option linter.unusedSimpArgs false
set_option maxRecDepth 100000
set_option maxHeartbeats 4000000
namespace Go.Proofs.YtginpkchjeooeaaDoor
open Go Go.Vm Go.ChangeShapes Go.WideShapes Go.ChangeAt Go.RowKit
theorem lifted9 (os : Os) (started : os.Started) (H : Type) (enc : TypeId × Value → H) :
    ReturnsInHanded {} Tryd.checked os 9 .any (fun w args => (Rows.pathexprLongestSpec.pre enc Tryd.prog Tryd.f9 [] false w args ∧ laidMetH Tryd.prog LL w) ∧ sizedMet enc Tryd.prog Tryd.f9 (OpenSpec.ofChange Rows.pathexprLongestSpec) false w args)
      (Rows.pathexprLongestSpec.post enc Tryd.prog Tryd.f9 false true false false) :=
  law_lifted_laid (C := Tryd.checked) (m := 8) (tb := 4) (s := Rows.pathexprLongestSpec) (X := fun w _ => laidMetH Tryd.prog LL w) tok (fun _ _ _ hh h => h.of_heap hh) own started (by kernel_rfl) Tryd.func9
    (ChangeSpec.witness_shaped (enc := enc) (C := Tryd.checked) (os := os) (X := fun w _ => laidMetH Tryd.prog LL w) false (laidWorld os) #[.slice none 0 0, .slice none 0 0] 8 rfl (World.shaped_of_RefB (by kernel_rfl) (by kernel_rfl)) (by kernel_rfl) (by kernel_rfl) (by kernel_rfl) (door_met os _))
    laidOut rfl (by kernel_rfl) (by kernel_rfl) rfl (by kernel_rfl) (fun ds hl => spec_two rfl ds hl) (fun W _ h => gt_of_laid h) law9
theorem pathexprLongest_row : Rows.PathexprLongestSaid :=
  OpenClaim.holds_of_wide 9 Tryd.f9 rfl rfl rfl rfl rfl rfl rfl ⟨rfl, rfl, rfl, rfl, rfl⟩ rfl rfl rfl rfl rfl (by kernel_rfl) Tryd.func9 (by kernel_rfl)
    (of_decide_eq_true (by kernel_rfl)) (by unfold Func.isWrapper; first | (rw [if_pos (by decide +kernel)]; kernel_rfl) | (rw [if_neg (by decide +kernel)]; exact ⟨rfl, rfl⟩))
    (fun os started H enc _ => lifted9 os started H enc)
theorem pathexprLongest_holds : Rows.PathexprLongestCardSaid :=
  Claim7.holds_tied_plain_at .later [] [.data, .data, .data, .data, .pinned] true (true, "787bce4c5da3f25171555230573b6c8688d0a5aaffba06bf631d88fccb983818") true
    pathexprLongest_row (fun _ h => by cases h) (by kernel_rfl) (fun _ h => by cases h) pathexprLongest_row_tie rfl ⟨rfl, rfl⟩ (by kernel_rfl) rfl
    (fun f fn hf hfn => by
      obtain rfl : f = 9 := Option.some.inj ((show Tryd.prog.funcNamed "patchbay/patchbaylaw41.PathexprLongest" = some 9 by kernel_rfl).symm.trans hf) |>.symm
      obtain rfl : fn = Tryd.f9 := (Option.some.inj (Tryd.func9.symm.trans hfn)).symm
      refine ⟨by kernel_rfl, fun j t ht => ?_⟩
      have h : (Tryd.f9.params.toList.all fun t => !Tryd.prog.wantsStandIn t) = true := by kernel_rfl
      have h2 := List.all_eq_true.1 h t (List.mem_of_getElem? (by rw [Array.getElem?_toList]; exact ht))
      show Tryd.prog.wantsStandIn t = false
      cases hw : Tryd.prog.wantsStandIn t
      · rfl
      · rw [hw] at h2; cases h2)
    (by kernel_rfl)
#print axioms pathexprLongest_holds
end Go.Proofs.YtginpkchjeooeaaDoor

