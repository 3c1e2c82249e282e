/-
  DERIVED. GIVEN WITH THE SEED: THE CARDS: each row of YtllfdnbnkncnhaaDoorRows.lean that lists a variable, with what it lists TIED to the program's text (the seventh form; the later family's looks); each row that meets fmt, with fmt's text TOLD by the authors' own Lean function (tested against real Go, not proved from fmt's source: count such statements apart). THE CARD IS WHAT COUNTS. Prove the row's statement (the work); the ties are given (YtllfdnbnkncnhaaDoorTie.lean); close each card by the builder's one call (the guide's Derived/Test/ToyasCard.lean, 'card_holds'). Laid BY PROGRAM, IN A SANDBOX (cutbox-door.mjs). By AI agents, Wed Nov 11 2026. No macro, syntax, notation, axiom, sorry.
-/
import Derived.Test.YtllfdnbnkncnhaaDoorRows
import GoSem.ClaimSeven
namespace Go.Proofs.YtllfdnbnkncnhaaDoor
namespace Rows

/-- THE TIED CARD OF 'patchbaylaw44.PredicateChecks'. -/
def predicateChecksCard : Claim7 := { stood := { row := predicateChecksRow, standIns := [], harness := (true, "f67d73a65911fee6e4bae5891e5ff81ef419100570b89e973f95de45d03a360a"), looks := false }, kinds := [], alts := [], laidByText := true, laidKinds := [.data, .data, .data, .data, .pinned], laidTests := true, laidLooks := .later }
def PredicateChecksCardSaid : Prop := Claim7.holds Tryd.pinned (.plain (OpenSpec.ofChange predicateChecksSpec)) predicateChecksCard

/-- THE TIED CARD OF 'patchbaylaw44.PredicateFlows'. -/
def predicateFlowsCard : Claim7 := { stood := { row := predicateFlowsRow, standIns := [], harness := (true, "f67d73a65911fee6e4bae5891e5ff81ef419100570b89e973f95de45d03a360a"), looks := false }, kinds := [], alts := [], laidByText := true, laidKinds := [.data, .data, .data, .data, .pinned], laidTests := true, laidLooks := .later }
def PredicateFlowsCardSaid : Prop := Claim7.holds Tryd.pinned (.plain (OpenSpec.ofChange predicateFlowsSpec)) predicateFlowsCard

/-- THE TIED CARD OF 'patchbaylaw44.PredicateMeans'. -/
def predicateMeansCard : Claim7 := { stood := { row := predicateMeansRow, standIns := [], harness := (true, "f67d73a65911fee6e4bae5891e5ff81ef419100570b89e973f95de45d03a360a"), looks := false }, kinds := [], alts := [], laidByText := true, laidKinds := [.data, .data, .data, .data, .pinned], laidTests := true, laidLooks := .later }
def PredicateMeansCardSaid : Prop := Claim7.holds Tryd.pinned (.plain (OpenSpec.ofChange predicateMeansSpec)) predicateMeansCard

/-- THE TIED CARD OF 'patchbaylaw44.PredicateFormats'. -/
def predicateFormatsCard : Claim7 := { stood := { row := predicateFormatsRow, standIns := [], harness := (true, "f67d73a65911fee6e4bae5891e5ff81ef419100570b89e973f95de45d03a360a"), looks := false }, kinds := [], alts := [], laidByText := true, laidKinds := [.data, .data, .data, .data, .pinned], laidTests := true, laidLooks := .later }
def PredicateFormatsCardSaid : Prop := Claim7.holds Tryd.pinned (.plain (OpenSpec.ofChange predicateFormatsSpec)) predicateFormatsCard

/-- THE TIED CARD OF 'patchbaylaw44.PredicateFromSpace'. -/
def predicateFromSpaceCard : Claim7 := { stood := { row := predicateFromSpaceRow, standIns := [], harness := (true, "f67d73a65911fee6e4bae5891e5ff81ef419100570b89e973f95de45d03a360a"), looks := false }, kinds := [], alts := [], laidByText := true, laidKinds := [.data, .data, .data, .data, .pinned], laidTests := true, laidLooks := .later }
def PredicateFromSpaceCardSaid : Prop := Claim7.holds Tryd.pinned (.plain (OpenSpec.ofChange predicateFromSpaceSpec)) predicateFromSpaceCard

/-- THE SECOND FORM's CARD OF 'patchbaylaw44.PredicateChecks'. -/
def predicateChecksUptoCard : Claim7 := { stood := { row := predicateChecksUptoRow, standIns := [], harness := (true, "f67d73a65911fee6e4bae5891e5ff81ef419100570b89e973f95de45d03a360a"), looks := false }, kinds := [], alts := [], laidByText := true, laidKinds := [.data, .data, .data, .data, .pinned], laidTests := true, laidLooks := .later }
def PredicateChecksUptoCardSaid : Prop := Claim7.holds Tryd.pinned (.plain (OpenSpec.upto predicateChecksSpec)) predicateChecksUptoCard

/-- THE SECOND FORM's CARD OF 'patchbaylaw44.PredicateFlows'. -/
def predicateFlowsUptoCard : Claim7 := { stood := { row := predicateFlowsUptoRow, standIns := [], harness := (true, "f67d73a65911fee6e4bae5891e5ff81ef419100570b89e973f95de45d03a360a"), looks := false }, kinds := [], alts := [], laidByText := true, laidKinds := [.data, .data, .data, .data, .pinned], laidTests := true, laidLooks := .later }
def PredicateFlowsUptoCardSaid : Prop := Claim7.holds Tryd.pinned (.plain (OpenSpec.upto predicateFlowsSpec)) predicateFlowsUptoCard

/-- THE SECOND FORM's CARD OF 'patchbaylaw44.PredicateMeans'. -/
def predicateMeansUptoCard : Claim7 := { stood := { row := predicateMeansUptoRow, standIns := [], harness := (true, "f67d73a65911fee6e4bae5891e5ff81ef419100570b89e973f95de45d03a360a"), looks := false }, kinds := [], alts := [], laidByText := true, laidKinds := [.data, .data, .data, .data, .pinned], laidTests := true, laidLooks := .later }
def PredicateMeansUptoCardSaid : Prop := Claim7.holds Tryd.pinned (.plain (OpenSpec.upto predicateMeansSpec)) predicateMeansUptoCard

/-- THE SECOND FORM's CARD OF 'patchbaylaw44.PredicateFormats'. -/
def predicateFormatsUptoCard : Claim7 := { stood := { row := predicateFormatsUptoRow, standIns := [], harness := (true, "f67d73a65911fee6e4bae5891e5ff81ef419100570b89e973f95de45d03a360a"), looks := false }, kinds := [], alts := [], laidByText := true, laidKinds := [.data, .data, .data, .data, .pinned], laidTests := true, laidLooks := .later }
def PredicateFormatsUptoCardSaid : Prop := Claim7.holds Tryd.pinned (.plain (OpenSpec.upto predicateFormatsSpec)) predicateFormatsUptoCard

/-- THE SECOND FORM's CARD OF 'patchbaylaw44.PredicateFromSpace'. -/
def predicateFromSpaceUptoCard : Claim7 := { stood := { row := predicateFromSpaceUptoRow, standIns := [], harness := (true, "f67d73a65911fee6e4bae5891e5ff81ef419100570b89e973f95de45d03a360a"), looks := false }, kinds := [], alts := [], laidByText := true, laidKinds := [.data, .data, .data, .data, .pinned], laidTests := true, laidLooks := .later }
def PredicateFromSpaceUptoCardSaid : Prop := Claim7.holds Tryd.pinned (.plain (OpenSpec.upto predicateFromSpaceSpec)) predicateFromSpaceUptoCard
end Rows
end Go.Proofs.YtllfdnbnkncnhaaDoor
