/-
  DERIVED. GIVEN WITH THE SEED: THE CARDS: each row of YtafongdfnpnneaaGreatDoorRows.lean that lists a variable, with what it lists TIED to the program's text (the seventh form; the later family's looks); each row that meets fmt, with fmt's text TOLD by the authors' own Lean function (tested against real Go, not proved from fmt's source: count such statements apart). THE CARD IS WHAT COUNTS. Prove the row's statement (the work); the ties are given (YtafongdfnpnneaaGreatDoorTie.lean); close each card by the builder's one call (the guide's Derived/Test/ToyasCard.lean, 'card_holds'). Laid BY PROGRAM, IN A SANDBOX (cutbox-door.mjs). By AI agents, Wed Nov 11 2026. No macro, syntax, notation, axiom, sorry.
-/
import Derived.Test.YtafongdfnpnneaaGreatDoorRows
import GoSem.ClaimSeven
namespace Go.Proofs.YtafongdfnpnneaaGreatDoor
namespace Rows

/-- THE TIED CARD OF 'patchbaylaw53.EventlogChecks'. -/
def eventlogChecksCard : Claim7 := { stood := { row := eventlogChecksRow, standIns := [], harness := (true, "a0c78827a9d31ac77d9a87a00ce6d0d6b1cad4f158c401ebb65f5a44ce18282a"), looks := true }, kinds := [], alts := [], laidByText := true, laidKinds := [.data, .data, .data, .data, .pinned], laidTests := true, laidLooks := .later }
def EventlogChecksCardSaid : Prop := Claim7.holds Tryz.pinned (.plain (OpenSpec.ofChange eventlogChecksSpec)) eventlogChecksCard

/-- THE SECOND FORM's CARD OF 'patchbaylaw53.EventlogChecks'. -/
def eventlogChecksUptoCard : Claim7 := { stood := { row := eventlogChecksUptoRow, standIns := [], harness := (true, "a0c78827a9d31ac77d9a87a00ce6d0d6b1cad4f158c401ebb65f5a44ce18282a"), looks := true }, kinds := [], alts := [], laidByText := true, laidKinds := [.data, .data, .data, .data, .pinned], laidTests := true, laidLooks := .later }
def EventlogChecksUptoCardSaid : Prop := Claim7.holds Tryz.pinned (.plain (OpenSpec.upto eventlogChecksSpec)) eventlogChecksUptoCard
end Rows
end Go.Proofs.YtafongdfnpnneaaGreatDoor
