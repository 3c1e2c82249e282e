/-
  Joined by a program from the texts F6.
-/
import Derived.Test.YtafongdfnpnneaaDoorMg
import Derived.Test.YtafongdfnpnneaaDoorMe
import Derived.Test.YtafongdfnpnneaaDoorTie
import Derived.Test.YtafongdfnpnneaaDoorCards
import Derived.SevenTiedAt
/- Joined by a program from the texts F6. -/
/- Proved: for every input the law EventlogLinks answers true and leaves its arguments as they were (consecutive hops of a packet are connected by links, the first one starts at a host).
  Conditions: the listed package-level variables of Go's library hold what the program's text lays; the card ties this to the text. -/
set_option linter.all false
set_option maxRecDepth 100000
set_option maxHeartbeats 4000000
namespace Go.Proofs.YtafongdfnpnneaaDoor
open Go Go.Vm Go.ChangeShapes Go.WideShapes Go.ChangeAt Go.RowKit
theorem lifted6 (os : Os) (started : os.Started) (H : Type) (enc : TypeId × Value → H) :
    ReturnsInHanded {} Tryd.checked os 6 .any (fun w args => (Rows.eventlogLinksSpec.pre enc Tryd.prog Tryd.f6 [] false w args ∧ laidMetH Tryd.prog LL w) ∧ sizedMet enc Tryd.prog Tryd.f6 (OpenSpec.ofChange Rows.eventlogLinksSpec) false w args)
      (Rows.eventlogLinksSpec.post enc Tryd.prog Tryd.f6 false true false false) :=
  law_lifted_laid (C := Tryd.checked) (m := 8) (tb := 4) (s := Rows.eventlogLinksSpec) (X := fun w _ => laidMetH Tryd.prog LL w) tok (fun _ _ _ hh h => h.of_heap hh) own started (by kernel_rfl) Tryd.func6
    (ChangeSpec.witness_shaped (enc := enc) (C := Tryd.checked) (os := os) (X := fun w _ => laidMetH Tryd.prog LL w) false (laidWorld os) #[.agg #[.slice none 0 0, .slice none 0 0, .slice none 0 0], .slice none 0 0, .int .i64 0] 8 rfl (World.shaped_of_RefB (by kernel_rfl) (by kernel_rfl)) (by kernel_rfl) (by kernel_rfl) (by kernel_rfl) (door_met os _))
    laidOut rfl (by kernel_rfl) (by kernel_rfl) rfl (by kernel_rfl) (fun ds hl => spec_three rfl ds hl) (fun W _ h => gt_of_laid h) law6
theorem eventlogLinks_row : Rows.EventlogLinksSaid :=
  OpenClaim.holds_of_wide 6 Tryd.f6 rfl rfl rfl rfl rfl rfl rfl ⟨rfl, rfl, rfl, rfl, rfl⟩ rfl rfl rfl rfl rfl (by kernel_rfl) Tryd.func6 (by kernel_rfl)
    (of_decide_eq_true (by kernel_rfl)) (by unfold Func.isWrapper; first | (rw [if_pos (by decide +kernel)]; kernel_rfl) | (rw [if_neg (by decide +kernel)]; exact ⟨rfl, rfl⟩))
    (fun os started H enc _ => lifted6 os started H enc)
theorem eventlogLinks_holds : Rows.EventlogLinksCardSaid :=
  Claim7.holds_tied_plain_at .later [] [.data, .data, .data, .data, .pinned] true (true, "92c9f880c0815d247ddd7d98a28802604ff9a5d60f8dd2bfffbc4631154cf03a") true
    eventlogLinks_row (fun _ h => by cases h) (by kernel_rfl) (fun _ h => by cases h) eventlogLinks_row_tie rfl ⟨rfl, rfl⟩ (by kernel_rfl) rfl
    (fun f fn hf hfn => by
      obtain rfl : f = 6 := Option.some.inj ((show Tryd.prog.funcNamed "patchbay/patchbaylaw53.EventlogLinks" = some 6 by kernel_rfl).symm.trans hf) |>.symm
      obtain rfl : fn = Tryd.f6 := (Option.some.inj (Tryd.func6.symm.trans hfn)).symm
      refine ⟨by kernel_rfl, fun j t ht => ?_⟩
      have h : (Tryd.f6.params.toList.all fun t => !Tryd.prog.wantsStandIn t) = true := by kernel_rfl
      have h2 := List.all_eq_true.1 h t (List.mem_of_getElem? (by rw [Array.getElem?_toList]; exact ht))
      show Tryd.prog.wantsStandIn t = false
      cases hw : Tryd.prog.wantsStandIn t
      · rfl
      · rw [hw] at h2; cases h2)
    (by kernel_rfl)
#print axioms eventlogLinks_holds
end Go.Proofs.YtafongdfnpnneaaDoor

