/-
  DERIVED. GIVEN WITH THE SEED: THE CARDS: each row of YtlbmbbaefncleaaGreatDoorRows.lean that lists a variable, with what it lists TIED to the program's text (the seventh form; the later family's looks); each row that meets fmt, with fmt's text TOLD by the authors' own Lean function (tested against real Go, not proved from fmt's source: count such statements apart). THE CARD IS WHAT COUNTS. Prove the row's statement (the work); the ties are given (YtlbmbbaefncleaaGreatDoorTie.lean); close each card by the builder's one call (the guide's Derived/Test/ToyasCard.lean, 'card_holds'). Laid BY PROGRAM, IN A SANDBOX (cutbox-door.mjs). By AI agents, Wed Nov 11 2026. No macro, syntax, notation, axiom, sorry.
-/
import Derived.Test.YtlbmbbaefncleaaGreatDoorRows
import GoSem.ClaimSeven
namespace Go.Proofs.YtlbmbbaefncleaaGreatDoor
namespace Rows

/-- THE TIED CARD OF 'patchbaylaw45.PolicyFormats'. -/
def policyFormatsCard : Claim7 := { stood := { row := policyFormatsRow, standIns := [], harness := (true, "d0a0a58778dab988d95a6c5c0a0b4ebd1465d642ec25d97789a6e6bc9072d241"), looks := true }, kinds := [], alts := [], laidByText := true, laidKinds := [.data, .data, .data, .data, .pinned], laidTests := true, laidLooks := .later }
def PolicyFormatsCardSaid : Prop := Claim7.holds Tryz.pinned (.plain (OpenSpec.ofChange policyFormatsSpec)) policyFormatsCard

/-- THE TIED CARD OF 'patchbaylaw45.PolicyParses'. -/
def policyParsesCard : Claim7 := { stood := { row := policyParsesRow, standIns := [], harness := (true, "d0a0a58778dab988d95a6c5c0a0b4ebd1465d642ec25d97789a6e6bc9072d241"), looks := true }, kinds := [], alts := [], laidByText := true, laidKinds := [.data, .data, .data, .data, .pinned], laidTests := true, laidLooks := .later }
def PolicyParsesCardSaid : Prop := Claim7.holds Tryz.pinned (.plain (OpenSpec.ofChange policyParsesSpec)) policyParsesCard

/-- THE TIED CARD OF 'patchbaylaw45.PolicyChecks'. -/
def policyChecksCard : Claim7 := { stood := { row := policyChecksRow, standIns := [], harness := (true, "d0a0a58778dab988d95a6c5c0a0b4ebd1465d642ec25d97789a6e6bc9072d241"), looks := true }, kinds := [], alts := [], laidByText := true, laidKinds := [.data, .data, .data], laidTests := true, laidLooks := .later }
def PolicyChecksCardSaid : Prop := Claim7.holds Tryz.pinned (.plain (OpenSpec.ofChange policyChecksSpec)) policyChecksCard

/-- THE TIED CARD OF 'patchbaylaw45.PolicyRoutes'. -/
def policyRoutesCard : Claim7 := { stood := { row := policyRoutesRow, standIns := [], harness := (true, "d0a0a58778dab988d95a6c5c0a0b4ebd1465d642ec25d97789a6e6bc9072d241"), looks := true }, kinds := [], alts := [], laidByText := true, laidKinds := [.data, .data, .data], laidTests := true, laidLooks := .later }
def PolicyRoutesCardSaid : Prop := Claim7.holds Tryz.pinned (.plain (OpenSpec.ofChange policyRoutesSpec)) policyRoutesCard

/-- THE TIED CARD OF 'patchbaylaw45.PolicyOverrides'. -/
def policyOverridesCard : Claim7 := { stood := { row := policyOverridesRow, standIns := [], harness := (true, "d0a0a58778dab988d95a6c5c0a0b4ebd1465d642ec25d97789a6e6bc9072d241"), looks := true }, kinds := [], alts := [], laidByText := true, laidKinds := [.data, .data, .data], laidTests := true, laidLooks := .later }
def PolicyOverridesCardSaid : Prop := Claim7.holds Tryz.pinned (.plain (OpenSpec.ofChange policyOverridesSpec)) policyOverridesCard

/-- THE TIED CARD OF 'patchbaylaw45.PolicyRestricts'. -/
def policyRestrictsCard : Claim7 := { stood := { row := policyRestrictsRow, standIns := [], harness := (true, "d0a0a58778dab988d95a6c5c0a0b4ebd1465d642ec25d97789a6e6bc9072d241"), looks := true }, kinds := [], alts := [], laidByText := true, laidKinds := [.data, .data, .data], laidTests := true, laidLooks := .later }
def PolicyRestrictsCardSaid : Prop := Claim7.holds Tryz.pinned (.plain (OpenSpec.ofChange policyRestrictsSpec)) policyRestrictsCard

/-- THE SECOND FORM's CARD OF 'patchbaylaw45.PolicyFormats'. -/
def policyFormatsUptoCard : Claim7 := { stood := { row := policyFormatsUptoRow, standIns := [], harness := (true, "d0a0a58778dab988d95a6c5c0a0b4ebd1465d642ec25d97789a6e6bc9072d241"), looks := true }, kinds := [], alts := [], laidByText := true, laidKinds := [.data, .data, .data, .data, .pinned], laidTests := true, laidLooks := .later }
def PolicyFormatsUptoCardSaid : Prop := Claim7.holds Tryz.pinned (.plain (OpenSpec.upto policyFormatsSpec)) policyFormatsUptoCard

/-- THE SECOND FORM's CARD OF 'patchbaylaw45.PolicyParses'. -/
def policyParsesUptoCard : Claim7 := { stood := { row := policyParsesUptoRow, standIns := [], harness := (true, "d0a0a58778dab988d95a6c5c0a0b4ebd1465d642ec25d97789a6e6bc9072d241"), looks := true }, kinds := [], alts := [], laidByText := true, laidKinds := [.data, .data, .data, .data, .pinned], laidTests := true, laidLooks := .later }
def PolicyParsesUptoCardSaid : Prop := Claim7.holds Tryz.pinned (.plain (OpenSpec.upto policyParsesSpec)) policyParsesUptoCard

/-- THE SECOND FORM's CARD OF 'patchbaylaw45.PolicyChecks'. -/
def policyChecksUptoCard : Claim7 := { stood := { row := policyChecksUptoRow, standIns := [], harness := (true, "d0a0a58778dab988d95a6c5c0a0b4ebd1465d642ec25d97789a6e6bc9072d241"), looks := true }, kinds := [], alts := [], laidByText := true, laidKinds := [.data, .data, .data], laidTests := true, laidLooks := .later }
def PolicyChecksUptoCardSaid : Prop := Claim7.holds Tryz.pinned (.plain (OpenSpec.upto policyChecksSpec)) policyChecksUptoCard

/-- THE SECOND FORM's CARD OF 'patchbaylaw45.PolicyRoutes'. -/
def policyRoutesUptoCard : Claim7 := { stood := { row := policyRoutesUptoRow, standIns := [], harness := (true, "d0a0a58778dab988d95a6c5c0a0b4ebd1465d642ec25d97789a6e6bc9072d241"), looks := true }, kinds := [], alts := [], laidByText := true, laidKinds := [.data, .data, .data], laidTests := true, laidLooks := .later }
def PolicyRoutesUptoCardSaid : Prop := Claim7.holds Tryz.pinned (.plain (OpenSpec.upto policyRoutesSpec)) policyRoutesUptoCard

/-- THE SECOND FORM's CARD OF 'patchbaylaw45.PolicyOverrides'. -/
def policyOverridesUptoCard : Claim7 := { stood := { row := policyOverridesUptoRow, standIns := [], harness := (true, "d0a0a58778dab988d95a6c5c0a0b4ebd1465d642ec25d97789a6e6bc9072d241"), looks := true }, kinds := [], alts := [], laidByText := true, laidKinds := [.data, .data, .data], laidTests := true, laidLooks := .later }
def PolicyOverridesUptoCardSaid : Prop := Claim7.holds Tryz.pinned (.plain (OpenSpec.upto policyOverridesSpec)) policyOverridesUptoCard

/-- THE SECOND FORM's CARD OF 'patchbaylaw45.PolicyRestricts'. -/
def policyRestrictsUptoCard : Claim7 := { stood := { row := policyRestrictsUptoRow, standIns := [], harness := (true, "d0a0a58778dab988d95a6c5c0a0b4ebd1465d642ec25d97789a6e6bc9072d241"), looks := true }, kinds := [], alts := [], laidByText := true, laidKinds := [.data, .data, .data], laidTests := true, laidLooks := .later }
def PolicyRestrictsUptoCardSaid : Prop := Claim7.holds Tryz.pinned (.plain (OpenSpec.upto policyRestrictsSpec)) policyRestrictsUptoCard
end Rows
end Go.Proofs.YtlbmbbaefncleaaGreatDoor
