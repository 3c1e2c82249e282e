/-
  DERIVED. GIVEN WITH THE SEED: THE CARDS: each row of YtafongdfnpnneaaDoorRows.lean that lists a variable, with what it lists TIED to the program's text (the seventh form; the later family's looks); each row that meets fmt, with fmt's text TOLD by the authors' own Lean function (tested against real Go, not proved from fmt's source: count such statements apart). THE CARD IS WHAT COUNTS. Prove the row's statement (the work); the ties are given (YtafongdfnpnneaaDoorTie.lean); close each card by the builder's one call (the guide's Derived/Test/ToyasCard.lean, 'card_holds'). Laid BY PROGRAM, IN A SANDBOX (cutbox-door.mjs). By AI agents, Wed Nov 11 2026. No macro, syntax, notation, axiom, sorry.
-/
import Derived.Test.YtafongdfnpnneaaDoorRows
import GoSem.ClaimSeven
namespace Go.Proofs.YtafongdfnpnneaaDoor
namespace Rows

/-- THE TIED CARD OF 'patchbaylaw53.EventlogFormats'. -/
def eventlogFormatsCard : Claim7 := { stood := { row := eventlogFormatsRow, standIns := [], harness := (true, "92c9f880c0815d247ddd7d98a28802604ff9a5d60f8dd2bfffbc4631154cf03a"), looks := true }, kinds := [], alts := [], laidByText := true, laidKinds := [.data, .data, .data, .data, .pinned], laidTests := true, laidLooks := .later }
def EventlogFormatsCardSaid : Prop := Claim7.holds Tryd.pinned (.plain (OpenSpec.ofChange eventlogFormatsSpec)) eventlogFormatsCard

/-- THE TIED CARD OF 'patchbaylaw53.EventlogParses'. -/
def eventlogParsesCard : Claim7 := { stood := { row := eventlogParsesRow, standIns := [], harness := (true, "92c9f880c0815d247ddd7d98a28802604ff9a5d60f8dd2bfffbc4631154cf03a"), looks := true }, kinds := [], alts := [], laidByText := true, laidKinds := [.data, .data, .data, .data, .pinned], laidTests := true, laidLooks := .later }
def EventlogParsesCardSaid : Prop := Claim7.holds Tryd.pinned (.plain (OpenSpec.ofChange eventlogParsesSpec)) eventlogParsesCard

/-- THE TIED CARD OF 'patchbaylaw53.EventlogPrefixes'. -/
def eventlogPrefixesCard : Claim7 := { stood := { row := eventlogPrefixesRow, standIns := [], harness := (true, "92c9f880c0815d247ddd7d98a28802604ff9a5d60f8dd2bfffbc4631154cf03a"), looks := true }, kinds := [], alts := [], laidByText := true, laidKinds := [.data, .data, .data, .data, .pinned], laidTests := true, laidLooks := .later }
def EventlogPrefixesCardSaid : Prop := Claim7.holds Tryd.pinned (.plain (OpenSpec.ofChange eventlogPrefixesSpec)) eventlogPrefixesCard

/-- THE TIED CARD OF 'patchbaylaw53.EventlogLinks'. -/
def eventlogLinksCard : Claim7 := { stood := { row := eventlogLinksRow, standIns := [], harness := (true, "92c9f880c0815d247ddd7d98a28802604ff9a5d60f8dd2bfffbc4631154cf03a"), looks := true }, kinds := [], alts := [], laidByText := true, laidKinds := [.data, .data, .data, .data, .pinned], laidTests := true, laidLooks := .later }
def EventlogLinksCardSaid : Prop := Claim7.holds Tryd.pinned (.plain (OpenSpec.ofChange eventlogLinksSpec)) eventlogLinksCard

/-- THE SECOND FORM's CARD OF 'patchbaylaw53.EventlogFormats'. -/
def eventlogFormatsUptoCard : Claim7 := { stood := { row := eventlogFormatsUptoRow, standIns := [], harness := (true, "92c9f880c0815d247ddd7d98a28802604ff9a5d60f8dd2bfffbc4631154cf03a"), looks := true }, kinds := [], alts := [], laidByText := true, laidKinds := [.data, .data, .data, .data, .pinned], laidTests := true, laidLooks := .later }
def EventlogFormatsUptoCardSaid : Prop := Claim7.holds Tryd.pinned (.plain (OpenSpec.upto eventlogFormatsSpec)) eventlogFormatsUptoCard

/-- THE SECOND FORM's CARD OF 'patchbaylaw53.EventlogParses'. -/
def eventlogParsesUptoCard : Claim7 := { stood := { row := eventlogParsesUptoRow, standIns := [], harness := (true, "92c9f880c0815d247ddd7d98a28802604ff9a5d60f8dd2bfffbc4631154cf03a"), looks := true }, kinds := [], alts := [], laidByText := true, laidKinds := [.data, .data, .data, .data, .pinned], laidTests := true, laidLooks := .later }
def EventlogParsesUptoCardSaid : Prop := Claim7.holds Tryd.pinned (.plain (OpenSpec.upto eventlogParsesSpec)) eventlogParsesUptoCard

/-- THE SECOND FORM's CARD OF 'patchbaylaw53.EventlogPrefixes'. -/
def eventlogPrefixesUptoCard : Claim7 := { stood := { row := eventlogPrefixesUptoRow, standIns := [], harness := (true, "92c9f880c0815d247ddd7d98a28802604ff9a5d60f8dd2bfffbc4631154cf03a"), looks := true }, kinds := [], alts := [], laidByText := true, laidKinds := [.data, .data, .data, .data, .pinned], laidTests := true, laidLooks := .later }
def EventlogPrefixesUptoCardSaid : Prop := Claim7.holds Tryd.pinned (.plain (OpenSpec.upto eventlogPrefixesSpec)) eventlogPrefixesUptoCard

/-- THE SECOND FORM's CARD OF 'patchbaylaw53.EventlogLinks'. -/
def eventlogLinksUptoCard : Claim7 := { stood := { row := eventlogLinksUptoRow, standIns := [], harness := (true, "92c9f880c0815d247ddd7d98a28802604ff9a5d60f8dd2bfffbc4631154cf03a"), looks := true }, kinds := [], alts := [], laidByText := true, laidKinds := [.data, .data, .data, .data, .pinned], laidTests := true, laidLooks := .later }
def EventlogLinksUptoCardSaid : Prop := Claim7.holds Tryd.pinned (.plain (OpenSpec.upto eventlogLinksSpec)) eventlogLinksUptoCard
end Rows
end Go.Proofs.YtafongdfnpnneaaDoor
