/-
  Joined by a program from the texts F4.
-/
import Derived.Test.YtafongdfnpnneaaDoorMe
import Derived.Test.YtafongdfnpnneaaDoorTie
import Derived.Test.YtafongdfnpnneaaDoorCards
import Derived.SevenTiedAt
/- Joined by a program from the texts F4. -/
/- Proved: for every input the law EventlogParses answers true and leaves its arguments as they were (a text is read as the events, or with the line and error, of the definition; an accepted text is the text of its events).
  Conditions: the listed package-level variables of Go's library hold what the program's text lays; the card ties this to the text. -/
set_option linter.all false
set_option maxRecDepth 100000
set_option maxHeartbeats 4000000
namespace Go.Proofs.YtafongdfnpnneaaDoor
open Go Go.Vm Go.ChangeShapes Go.WideShapes Go.ChangeAt Go.RowKit
theorem lifted4 (os : Os) (started : os.Started) (H : Type) (enc : TypeId × Value → H) :
    ReturnsInHanded {} Tryd.checked os 4 .any (fun w args => (Rows.eventlogParsesSpec.pre enc Tryd.prog Tryd.f4 [] false w args ∧ laidMetH Tryd.prog LL w) ∧ sizedMet enc Tryd.prog Tryd.f4 (OpenSpec.ofChange Rows.eventlogParsesSpec) false w args)
      (Rows.eventlogParsesSpec.post enc Tryd.prog Tryd.f4 false true false false) :=
  law_lifted_laid (C := Tryd.checked) (m := 8) (tb := 4) (s := Rows.eventlogParsesSpec) (X := fun w _ => laidMetH Tryd.prog LL w) tok (fun _ _ _ hh h => h.of_heap hh) own started (by kernel_rfl) Tryd.func4
    (ChangeSpec.witness_shaped (enc := enc) (C := Tryd.checked) (os := os) (X := fun w _ => laidMetH Tryd.prog LL w) false (laidWorld os) #[.string ⟨#[]⟩] 8 rfl (World.shaped_of_RefB (by kernel_rfl) (by kernel_rfl)) (by kernel_rfl) (by kernel_rfl) (by kernel_rfl) (door_met os _))
    laidOut rfl (by kernel_rfl) (by kernel_rfl) rfl (by kernel_rfl) (fun ds hl => spec_one rfl ds hl) (fun W _ h => gt_of_laid h) law4
theorem eventlogParses_row : Rows.EventlogParsesSaid :=
  OpenClaim.holds_of_wide 4 Tryd.f4 rfl rfl rfl rfl rfl rfl rfl ⟨rfl, rfl, rfl, rfl, rfl⟩ rfl rfl rfl rfl rfl (by kernel_rfl) Tryd.func4 (by kernel_rfl)
    (of_decide_eq_true (by kernel_rfl)) (by unfold Func.isWrapper; first | (rw [if_pos (by decide +kernel)]; kernel_rfl) | (rw [if_neg (by decide +kernel)]; exact ⟨rfl, rfl⟩))
    (fun os started H enc _ => lifted4 os started H enc)
theorem eventlogParses_holds : Rows.EventlogParsesCardSaid :=
  Claim7.holds_tied_plain_at .later [] [.data, .data, .data, .data, .pinned] true (true, "92c9f880c0815d247ddd7d98a28802604ff9a5d60f8dd2bfffbc4631154cf03a") true
    eventlogParses_row (fun _ h => by cases h) (by kernel_rfl) (fun _ h => by cases h) eventlogParses_row_tie rfl ⟨rfl, rfl⟩ (by kernel_rfl) rfl
    (fun f fn hf hfn => by
      obtain rfl : f = 4 := Option.some.inj ((show Tryd.prog.funcNamed "patchbay/patchbaylaw53.EventlogParses" = some 4 by kernel_rfl).symm.trans hf) |>.symm
      obtain rfl : fn = Tryd.f4 := (Option.some.inj (Tryd.func4.symm.trans hfn)).symm
      refine ⟨by kernel_rfl, fun j t ht => ?_⟩
      have h : (Tryd.f4.params.toList.all fun t => !Tryd.prog.wantsStandIn t) = true := by kernel_rfl
      have h2 := List.all_eq_true.1 h t (List.mem_of_getElem? (by rw [Array.getElem?_toList]; exact ht))
      show Tryd.prog.wantsStandIn t = false
      cases hw : Tryd.prog.wantsStandIn t
      · rfl
      · rw [hw] at h2; cases h2)
    (by kernel_rfl)
#print axioms eventlogParses_holds
end Go.Proofs.YtafongdfnpnneaaDoor

