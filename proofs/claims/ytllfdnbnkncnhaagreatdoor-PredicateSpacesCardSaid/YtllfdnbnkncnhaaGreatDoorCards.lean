/-
  DERIVED. GIVEN WITH THE SEED: THE CARDS: each row of YtllfdnbnkncnhaaGreatDoorRows.lean that lists a variable, with what it lists TIED to the program's text (the seventh form; the later family's looks); each row that meets fmt, with fmt's text TOLD by the authors' own Lean function (tested against real Go, not proved from fmt's source: count such statements apart). THE CARD IS WHAT COUNTS. Prove the row's statement (the work); the ties are given (YtllfdnbnkncnhaaGreatDoorTie.lean); close each card by the builder's one call (the guide's Derived/Test/ToyasCard.lean, 'card_holds'). Laid BY PROGRAM, IN A SANDBOX (cutbox-door.mjs). By AI agents, Wed Nov 11 2026. No macro, syntax, notation, axiom, sorry.
-/
import Derived.Test.YtllfdnbnkncnhaaGreatDoorRows
import GoSem.ClaimSeven
namespace Go.Proofs.YtllfdnbnkncnhaaGreatDoor
namespace Rows

/-- THE TIED CARD OF 'patchbaylaw44.PredicateSpaces'. -/
def predicateSpacesCard : Claim7 := { stood := { row := predicateSpacesRow, standIns := [], harness := (true, "905d683bfb946d85f89df66566f49f115f1d96669890734116bee343954fd2df"), looks := false }, kinds := [], alts := [], laidByText := true, laidKinds := [.data, .data, .data, .data, .pinned], laidTests := true, laidLooks := .later }
def PredicateSpacesCardSaid : Prop := Claim7.holds Tryz.pinned (.plain (OpenSpec.ofChange predicateSpacesSpec)) predicateSpacesCard

/-- THE TIED CARD OF 'patchbaylaw44.PredicateParses'. -/
def predicateParsesCard : Claim7 := { stood := { row := predicateParsesRow, standIns := [], harness := (true, "905d683bfb946d85f89df66566f49f115f1d96669890734116bee343954fd2df"), looks := false }, kinds := [], alts := [], laidByText := true, laidKinds := [.data, .data, .data, .data, .pinned], laidTests := true, laidLooks := .later }
def PredicateParsesCardSaid : Prop := Claim7.holds Tryz.pinned (.plain (OpenSpec.ofChange predicateParsesSpec)) predicateParsesCard

/-- THE SECOND FORM's CARD OF 'patchbaylaw44.PredicateSpaces'. -/
def predicateSpacesUptoCard : Claim7 := { stood := { row := predicateSpacesUptoRow, standIns := [], harness := (true, "905d683bfb946d85f89df66566f49f115f1d96669890734116bee343954fd2df"), looks := false }, kinds := [], alts := [], laidByText := true, laidKinds := [.data, .data, .data, .data, .pinned], laidTests := true, laidLooks := .later }
def PredicateSpacesUptoCardSaid : Prop := Claim7.holds Tryz.pinned (.plain (OpenSpec.upto predicateSpacesSpec)) predicateSpacesUptoCard

/-- THE SECOND FORM's CARD OF 'patchbaylaw44.PredicateParses'. -/
def predicateParsesUptoCard : Claim7 := { stood := { row := predicateParsesUptoRow, standIns := [], harness := (true, "905d683bfb946d85f89df66566f49f115f1d96669890734116bee343954fd2df"), looks := false }, kinds := [], alts := [], laidByText := true, laidKinds := [.data, .data, .data, .data, .pinned], laidTests := true, laidLooks := .later }
def PredicateParsesUptoCardSaid : Prop := Claim7.holds Tryz.pinned (.plain (OpenSpec.upto predicateParsesSpec)) predicateParsesUptoCard
end Rows
end Go.Proofs.YtllfdnbnkncnhaaGreatDoor
