/-
  DERIVED. GIVEN WITH THE SEED: THE CARDS: each row of YtginpkchjeooeaaDoorRows.lean that lists a variable, with what it lists TIED to the program's text (the seventh form; the later family's looks); each row that meets fmt, with fmt's text TOLD by the authors' own Lean function (tested against real Go, not proved from fmt's source: count such statements apart). THE CARD IS WHAT COUNTS. Prove the row's statement (the work); the ties are given (YtginpkchjeooeaaDoorTie.lean); close each card by the builder's one call (the guide's Derived/Test/ToyasCard.lean, 'card_holds'). Laid BY PROGRAM, IN A SANDBOX (cutbox-door.mjs). By AI agents, Wed Nov 11 2026. No macro, syntax, notation, axiom, sorry.
-/
import Derived.Test.YtginpkchjeooeaaDoorRows
import GoSem.ClaimSeven
namespace Go.Proofs.YtginpkchjeooeaaDoor
namespace Rows

/-- THE TIED CARD OF 'patchbaylaw41.PathexprChecks'. -/
def pathexprChecksCard : Claim7 := { stood := { row := pathexprChecksRow, standIns := [], harness := (true, "787bce4c5da3f25171555230573b6c8688d0a5aaffba06bf631d88fccb983818"), looks := true }, kinds := [], alts := [], laidByText := true, laidKinds := [.data, .data, .data, .data, .pinned], laidTests := true, laidLooks := .later }
def PathexprChecksCardSaid : Prop := Claim7.holds Tryd.pinned (.plain (OpenSpec.ofChange pathexprChecksSpec)) pathexprChecksCard

/-- THE TIED CARD OF 'patchbaylaw41.PathexprMatches'. -/
def pathexprMatchesCard : Claim7 := { stood := { row := pathexprMatchesRow, standIns := [], harness := (true, "787bce4c5da3f25171555230573b6c8688d0a5aaffba06bf631d88fccb983818"), looks := true }, kinds := [], alts := [], laidByText := true, laidKinds := [.data, .data, .data, .data, .pinned], laidTests := true, laidLooks := .later }
def PathexprMatchesCardSaid : Prop := Claim7.holds Tryd.pinned (.plain (OpenSpec.ofChange pathexprMatchesSpec)) pathexprMatchesCard

/-- THE TIED CARD OF 'patchbaylaw41.PathexprFormats'. -/
def pathexprFormatsCard : Claim7 := { stood := { row := pathexprFormatsRow, standIns := [], harness := (true, "787bce4c5da3f25171555230573b6c8688d0a5aaffba06bf631d88fccb983818"), looks := true }, kinds := [], alts := [], laidByText := true, laidKinds := [.data, .data, .data, .data, .pinned], laidTests := true, laidLooks := .later }
def PathexprFormatsCardSaid : Prop := Claim7.holds Tryd.pinned (.plain (OpenSpec.ofChange pathexprFormatsSpec)) pathexprFormatsCard

/-- THE TIED CARD OF 'patchbaylaw41.PathexprParses'. -/
def pathexprParsesCard : Claim7 := { stood := { row := pathexprParsesRow, standIns := [], harness := (true, "787bce4c5da3f25171555230573b6c8688d0a5aaffba06bf631d88fccb983818"), looks := true }, kinds := [], alts := [], laidByText := true, laidKinds := [.data, .data, .data, .data, .pinned], laidTests := true, laidLooks := .later }
def PathexprParsesCardSaid : Prop := Claim7.holds Tryd.pinned (.plain (OpenSpec.ofChange pathexprParsesSpec)) pathexprParsesCard

/-- THE TIED CARD OF 'patchbaylaw41.PathexprAlgebra'. -/
def pathexprAlgebraCard : Claim7 := { stood := { row := pathexprAlgebraRow, standIns := [], harness := (true, "787bce4c5da3f25171555230573b6c8688d0a5aaffba06bf631d88fccb983818"), looks := true }, kinds := [], alts := [], laidByText := true, laidKinds := [.data, .data, .data, .data, .pinned], laidTests := true, laidLooks := .later }
def PathexprAlgebraCardSaid : Prop := Claim7.holds Tryd.pinned (.plain (OpenSpec.ofChange pathexprAlgebraSpec)) pathexprAlgebraCard

/-- THE TIED CARD OF 'patchbaylaw41.PathexprSplits'. -/
def pathexprSplitsCard : Claim7 := { stood := { row := pathexprSplitsRow, standIns := [], harness := (true, "787bce4c5da3f25171555230573b6c8688d0a5aaffba06bf631d88fccb983818"), looks := true }, kinds := [], alts := [], laidByText := true, laidKinds := [.data, .data, .data, .data, .pinned], laidTests := true, laidLooks := .later }
def PathexprSplitsCardSaid : Prop := Claim7.holds Tryd.pinned (.plain (OpenSpec.ofChange pathexprSplitsSpec)) pathexprSplitsCard

/-- THE TIED CARD OF 'patchbaylaw41.PathexprLongest'. -/
def pathexprLongestCard : Claim7 := { stood := { row := pathexprLongestRow, standIns := [], harness := (true, "787bce4c5da3f25171555230573b6c8688d0a5aaffba06bf631d88fccb983818"), looks := true }, kinds := [], alts := [], laidByText := true, laidKinds := [.data, .data, .data, .data, .pinned], laidTests := true, laidLooks := .later }
def PathexprLongestCardSaid : Prop := Claim7.holds Tryd.pinned (.plain (OpenSpec.ofChange pathexprLongestSpec)) pathexprLongestCard

/-- THE SECOND FORM's CARD OF 'patchbaylaw41.PathexprChecks'. -/
def pathexprChecksUptoCard : Claim7 := { stood := { row := pathexprChecksUptoRow, standIns := [], harness := (true, "787bce4c5da3f25171555230573b6c8688d0a5aaffba06bf631d88fccb983818"), looks := true }, kinds := [], alts := [], laidByText := true, laidKinds := [.data, .data, .data, .data, .pinned], laidTests := true, laidLooks := .later }
def PathexprChecksUptoCardSaid : Prop := Claim7.holds Tryd.pinned (.plain (OpenSpec.upto pathexprChecksSpec)) pathexprChecksUptoCard

/-- THE SECOND FORM's CARD OF 'patchbaylaw41.PathexprMatches'. -/
def pathexprMatchesUptoCard : Claim7 := { stood := { row := pathexprMatchesUptoRow, standIns := [], harness := (true, "787bce4c5da3f25171555230573b6c8688d0a5aaffba06bf631d88fccb983818"), looks := true }, kinds := [], alts := [], laidByText := true, laidKinds := [.data, .data, .data, .data, .pinned], laidTests := true, laidLooks := .later }
def PathexprMatchesUptoCardSaid : Prop := Claim7.holds Tryd.pinned (.plain (OpenSpec.upto pathexprMatchesSpec)) pathexprMatchesUptoCard

/-- THE SECOND FORM's CARD OF 'patchbaylaw41.PathexprFormats'. -/
def pathexprFormatsUptoCard : Claim7 := { stood := { row := pathexprFormatsUptoRow, standIns := [], harness := (true, "787bce4c5da3f25171555230573b6c8688d0a5aaffba06bf631d88fccb983818"), looks := true }, kinds := [], alts := [], laidByText := true, laidKinds := [.data, .data, .data, .data, .pinned], laidTests := true, laidLooks := .later }
def PathexprFormatsUptoCardSaid : Prop := Claim7.holds Tryd.pinned (.plain (OpenSpec.upto pathexprFormatsSpec)) pathexprFormatsUptoCard

/-- THE SECOND FORM's CARD OF 'patchbaylaw41.PathexprParses'. -/
def pathexprParsesUptoCard : Claim7 := { stood := { row := pathexprParsesUptoRow, standIns := [], harness := (true, "787bce4c5da3f25171555230573b6c8688d0a5aaffba06bf631d88fccb983818"), looks := true }, kinds := [], alts := [], laidByText := true, laidKinds := [.data, .data, .data, .data, .pinned], laidTests := true, laidLooks := .later }
def PathexprParsesUptoCardSaid : Prop := Claim7.holds Tryd.pinned (.plain (OpenSpec.upto pathexprParsesSpec)) pathexprParsesUptoCard

/-- THE SECOND FORM's CARD OF 'patchbaylaw41.PathexprAlgebra'. -/
def pathexprAlgebraUptoCard : Claim7 := { stood := { row := pathexprAlgebraUptoRow, standIns := [], harness := (true, "787bce4c5da3f25171555230573b6c8688d0a5aaffba06bf631d88fccb983818"), looks := true }, kinds := [], alts := [], laidByText := true, laidKinds := [.data, .data, .data, .data, .pinned], laidTests := true, laidLooks := .later }
def PathexprAlgebraUptoCardSaid : Prop := Claim7.holds Tryd.pinned (.plain (OpenSpec.upto pathexprAlgebraSpec)) pathexprAlgebraUptoCard

/-- THE SECOND FORM's CARD OF 'patchbaylaw41.PathexprSplits'. -/
def pathexprSplitsUptoCard : Claim7 := { stood := { row := pathexprSplitsUptoRow, standIns := [], harness := (true, "787bce4c5da3f25171555230573b6c8688d0a5aaffba06bf631d88fccb983818"), looks := true }, kinds := [], alts := [], laidByText := true, laidKinds := [.data, .data, .data, .data, .pinned], laidTests := true, laidLooks := .later }
def PathexprSplitsUptoCardSaid : Prop := Claim7.holds Tryd.pinned (.plain (OpenSpec.upto pathexprSplitsSpec)) pathexprSplitsUptoCard

/-- THE SECOND FORM's CARD OF 'patchbaylaw41.PathexprLongest'. -/
def pathexprLongestUptoCard : Claim7 := { stood := { row := pathexprLongestUptoRow, standIns := [], harness := (true, "787bce4c5da3f25171555230573b6c8688d0a5aaffba06bf631d88fccb983818"), looks := true }, kinds := [], alts := [], laidByText := true, laidKinds := [.data, .data, .data, .data, .pinned], laidTests := true, laidLooks := .later }
def PathexprLongestUptoCardSaid : Prop := Claim7.holds Tryd.pinned (.plain (OpenSpec.upto pathexprLongestSpec)) pathexprLongestUptoCard
end Rows
end Go.Proofs.YtginpkchjeooeaaDoor
