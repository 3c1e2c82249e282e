/-
  Joined by a program from the texts F5.
-/
import Derived.Test.YtllfdnbnkncnhaaDoorMe
import Derived.Test.YtllfdnbnkncnhaaDoorTie
import Derived.Test.YtllfdnbnkncnhaaDoorCards
import Derived.SevenTiedAt
/- Proved: for every input the law PredicateMeans answers true and leaves its arguments as they were (a flow satisfies a predicate exactly if its space contains the flow).
  Conditions: the listed package-level variables of Go's library hold what the program's text lays; the card ties this to the text. -/
set_option linter.unusedSimpArgs false
set_option maxRecDepth 100000
set_option maxHeartbeats 4000000
namespace Go.Proofs.YtllfdnbnkncnhaaDoor
open Go Go.Vm Go.ChangeShapes Go.WideShapes Go.ChangeAt Go.RowKit
theorem lifted5 (os : Os) (started : os.Started) (H : Type) (enc : TypeId × Value → H) :
    ReturnsInHanded {} Tryd.checked os 5 .any (fun w args => (Rows.predicateMeansSpec.pre enc Tryd.prog Tryd.f5 [] false w args ∧ laidMetH Tryd.prog LL w) ∧ sizedMet enc Tryd.prog Tryd.f5 (OpenSpec.ofChange Rows.predicateMeansSpec) false w args)
      (Rows.predicateMeansSpec.post enc Tryd.prog Tryd.f5 false true false false) :=
  law_lifted_laid (C := Tryd.checked) (m := 8) (tb := 4) (s := Rows.predicateMeansSpec) (X := fun w _ => laidMetH Tryd.prog LL w) tok (fun _ _ _ hh h => h.of_heap hh) own started (by kernel_rfl) Tryd.func5
    (ChangeSpec.witness_shaped (enc := enc) (C := Tryd.checked) (os := os) (X := fun w _ => laidMetH Tryd.prog LL w) false (laidWorld os) #[.slice none 0 0, .agg #[.int .u8 0, .int .u8 0, .int .u8 0]] 8 rfl (World.shaped_of_RefB (by kernel_rfl) (by kernel_rfl)) (by kernel_rfl) (by kernel_rfl) (by kernel_rfl) (door_met os _))
    laidOut rfl (by kernel_rfl) (by kernel_rfl) rfl (by kernel_rfl) (fun ds hl => spec_two rfl ds hl) (fun W _ h => gt_of_laid h) law5
theorem predicateMeans_row : Rows.PredicateMeansSaid :=
  OpenClaim.holds_of_wide 5 Tryd.f5 rfl rfl rfl rfl rfl rfl rfl ⟨rfl, rfl, rfl, rfl, rfl⟩ rfl rfl rfl rfl rfl (by kernel_rfl) Tryd.func5 (by kernel_rfl)
    (of_decide_eq_true (by kernel_rfl)) (by unfold Func.isWrapper; first | (rw [if_pos (by decide +kernel)]; kernel_rfl) | (rw [if_neg (by decide +kernel)]; exact ⟨rfl, rfl⟩))
    (fun os started H enc _ => lifted5 os started H enc)
theorem predicateMeans_holds : Rows.PredicateMeansCardSaid :=
  Claim7.holds_tied_plain_at .later [] [.data, .data, .data, .data, .pinned] true (true, "f67d73a65911fee6e4bae5891e5ff81ef419100570b89e973f95de45d03a360a") false
    predicateMeans_row (fun _ h => by cases h) (by kernel_rfl) (fun _ h => by cases h) predicateMeans_row_tie rfl ⟨rfl, rfl⟩ (by kernel_rfl) rfl
    (fun f fn hf hfn => by
      obtain rfl : f = 5 := Option.some.inj ((show Tryd.prog.funcNamed "patchbay/patchbaylaw44.PredicateMeans" = some 5 by kernel_rfl).symm.trans hf) |>.symm
      obtain rfl : fn = Tryd.f5 := (Option.some.inj (Tryd.func5.symm.trans hfn)).symm
      refine ⟨by kernel_rfl, fun j t ht => ?_⟩
      have h : (Tryd.f5.params.toList.all fun t => !Tryd.prog.wantsStandIn t) = true := by kernel_rfl
      have h2 := List.all_eq_true.1 h t (List.mem_of_getElem? (by rw [Array.getElem?_toList]; exact ht))
      show Tryd.prog.wantsStandIn t = false
      cases hw : Tryd.prog.wantsStandIn t
      · rfl
      · rw [hw] at h2; cases h2)
    (by kernel_rfl)
#print axioms predicateMeans_holds
end Go.Proofs.YtllfdnbnkncnhaaDoor

