/-
  No cell of these rows narrows 'for every input' (looked for: loops, veiled, ifaces, maps, wideKeys, modest, calm, conditions, laid).
  DERIVED. THE GIVEN ROWS OF THIS SEAT. 5 by the template 'for every input the law returns true; each argument reads behind the call as it read before'; 0 by the template 'total and deterministic' (their statements: YtkjffppioddnpaaTotals.lean).
  GIVEN WITH THE SEED: the statements are not yours to turn. If you find one false, say at which input.
  Laid BY PROGRAM, IN A SANDBOX (cutbox-rows.mjs): the forced cells as the released guide's own fill.sh prints them over the translation 45ace2f037adf92f… (all of the seat's roots in one cut). By AI agents, Wed Nov 11 2026. No macro, syntax, notation, axiom, sorry.
-/
import Derived.Test.YtkjffppioddnpaaChecked
import GoSem.Claim
import GoSem.ClaimJoined
import GoSem.ClaimMapViews
import Derived.JoinedTies
import Derived.KernelRfl
namespace Go.Proofs.Ytkjffppioddnpaa
/- THE CELL 'sum', in the pinned program and in every row, IS THE sha256 OF THE DUMP (.gsa) THAT YtkjffppioddnpaaProg.lean LOADS. Nothing in Lean hashes anything: it is a label: what it is worth is what the hold of that sum in a sandbox is worth. -/
noncomputable def Try.pinned : Pinned := { name := "ytkjffppioddnpaa", sum := "45ace2f037adf92f9899eb5939385c9c04820371ce456df0280e8940bf4f7766", checked := Try.checked }
namespace Rows
def none {H : Type} : Left H := { results := [], args := [] }

/-- 'patchbaylaw42.AutomatonBuilds': WHATEVER THE INPUT: true; the input reads as it did. -/
def automatonBuildsSpec : ChangeSpec := { name := "automatonBuilds", fn := fun _ => fun
  | [d1, d2] => { results := [.lit (.bool true)], args := [d1, d2] }
  | _ => none }
def automatonBuildsRow : OpenClaim := { program := "ytkjffppioddnpaa", sum := "45ace2f037adf92f9899eb5939385c9c04820371ce456df0280e8940bf4f7766", func := "patchbay/patchbaylaw42.AutomatonBuilds", spec := "automatonBuilds", unfollowed := true, recurses := true, plainKeys := false, apart := false }
def AutomatonBuildsSaid : Prop := automatonBuildsRow.holds Try.pinned (OpenSpec.ofChange automatonBuildsSpec)

/-- ITS FALSE NEIGHBOUR: 'it returns false'. Refute it at one input. -/
def automatonBuildsWrong : ChangeSpec := { name := "automatonBuilds", fn := fun _ => fun
  | [d1, d2] => { results := [.lit (.bool false)], args := [d1, d2] }
  | _ => none }
def AutomatonBuildsWrongFalsely : Prop := automatonBuildsRow.holds Try.pinned (OpenSpec.ofChange automatonBuildsWrong)

/-- 'patchbaylaw42.AutomatonMatches': WHATEVER THE INPUT: true; the input reads as it did. -/
def automatonMatchesSpec : ChangeSpec := { name := "automatonMatches", fn := fun _ => fun
  | [d1, d2, d3] => { results := [.lit (.bool true)], args := [d1, d2, d3] }
  | _ => none }
def automatonMatchesRow : OpenClaim := { program := "ytkjffppioddnpaa", sum := "45ace2f037adf92f9899eb5939385c9c04820371ce456df0280e8940bf4f7766", func := "patchbay/patchbaylaw42.AutomatonMatches", spec := "automatonMatches", unfollowed := true, recurses := true, plainKeys := false, apart := false }
def AutomatonMatchesSaid : Prop := automatonMatchesRow.holds Try.pinned (OpenSpec.ofChange automatonMatchesSpec)

/-- ITS FALSE NEIGHBOUR: 'it returns false'. Refute it at one input. -/
def automatonMatchesWrong : ChangeSpec := { name := "automatonMatches", fn := fun _ => fun
  | [d1, d2, d3] => { results := [.lit (.bool false)], args := [d1, d2, d3] }
  | _ => none }
def AutomatonMatchesWrongFalsely : Prop := automatonMatchesRow.holds Try.pinned (OpenSpec.ofChange automatonMatchesWrong)

/-- 'patchbaylaw42.AutomatonDistinguishes': WHATEVER THE INPUT: true; the input reads as it did. -/
def automatonDistinguishesSpec : ChangeSpec := { name := "automatonDistinguishes", fn := fun _ => fun
  | [d1, d2] => { results := [.lit (.bool true)], args := [d1, d2] }
  | _ => none }
def automatonDistinguishesRow : OpenClaim := { program := "ytkjffppioddnpaa", sum := "45ace2f037adf92f9899eb5939385c9c04820371ce456df0280e8940bf4f7766", func := "patchbay/patchbaylaw42.AutomatonDistinguishes", spec := "automatonDistinguishes", unfollowed := true, recurses := true, plainKeys := false, apart := false }
def AutomatonDistinguishesSaid : Prop := automatonDistinguishesRow.holds Try.pinned (OpenSpec.ofChange automatonDistinguishesSpec)

/-- ITS FALSE NEIGHBOUR: 'it returns false'. Refute it at one input. -/
def automatonDistinguishesWrong : ChangeSpec := { name := "automatonDistinguishes", fn := fun _ => fun
  | [d1, d2] => { results := [.lit (.bool false)], args := [d1, d2] }
  | _ => none }
def AutomatonDistinguishesWrongFalsely : Prop := automatonDistinguishesRow.holds Try.pinned (OpenSpec.ofChange automatonDistinguishesWrong)

/-- 'patchbaylaw42.AutomatonMinimizes': WHATEVER THE INPUT: true; the input reads as it did. -/
def automatonMinimizesSpec : ChangeSpec := { name := "automatonMinimizes", fn := fun _ => fun
  | [d1, d2] => { results := [.lit (.bool true)], args := [d1, d2] }
  | _ => none }
def automatonMinimizesRow : OpenClaim := { program := "ytkjffppioddnpaa", sum := "45ace2f037adf92f9899eb5939385c9c04820371ce456df0280e8940bf4f7766", func := "patchbay/patchbaylaw42.AutomatonMinimizes", spec := "automatonMinimizes", unfollowed := true, recurses := true, plainKeys := false, apart := false }
def AutomatonMinimizesSaid : Prop := automatonMinimizesRow.holds Try.pinned (OpenSpec.ofChange automatonMinimizesSpec)

/-- ITS FALSE NEIGHBOUR: 'it returns false'. Refute it at one input. -/
def automatonMinimizesWrong : ChangeSpec := { name := "automatonMinimizes", fn := fun _ => fun
  | [d1, d2] => { results := [.lit (.bool false)], args := [d1, d2] }
  | _ => none }
def AutomatonMinimizesWrongFalsely : Prop := automatonMinimizesRow.holds Try.pinned (OpenSpec.ofChange automatonMinimizesWrong)

/-- 'patchbaylaw42.AutomatonCanonical': WHATEVER THE INPUT: true; the input reads as it did. -/
def automatonCanonicalSpec : ChangeSpec := { name := "automatonCanonical", fn := fun _ => fun
  | [d1, d2, d3] => { results := [.lit (.bool true)], args := [d1, d2, d3] }
  | _ => none }
def automatonCanonicalRow : OpenClaim := { program := "ytkjffppioddnpaa", sum := "45ace2f037adf92f9899eb5939385c9c04820371ce456df0280e8940bf4f7766", func := "patchbay/patchbaylaw42.AutomatonCanonical", spec := "automatonCanonical", unfollowed := true, recurses := true, plainKeys := false, apart := false }
def AutomatonCanonicalSaid : Prop := automatonCanonicalRow.holds Try.pinned (OpenSpec.ofChange automatonCanonicalSpec)

/-- ITS FALSE NEIGHBOUR: 'it returns false'. Refute it at one input. -/
def automatonCanonicalWrong : ChangeSpec := { name := "automatonCanonical", fn := fun _ => fun
  | [d1, d2, d3] => { results := [.lit (.bool false)], args := [d1, d2, d3] }
  | _ => none }
def AutomatonCanonicalWrongFalsely : Prop := automatonCanonicalRow.holds Try.pinned (OpenSpec.ofChange automatonCanonicalWrong)

/- THE SECOND FORM. 'bulk': how many values and letters a reading holds, each counted each time it is reached (what is shared counts as often as it is met; a slice's spare places count too). A statement '..UptoSaid' is the law's where the arguments, and the package variables that the reading takes, are together of bulk at most 1048576: NARROWER than '..Said'. Prove '..Said' where nothing that the law and all that it calls make is longer than what came in: it says more and counts as full. Else prove '..UptoSaid'. A law counts once. -/
mutual
def uptoBulk {H : Type} : DataW H → Nat
  | .lit (.string bytes) => bytes.length + 1
  | .lit _ => 1
  | .nil => 1
  | .ptr d => uptoBulk d + 1
  | .slice elems spare => uptoBulkAll elems + uptoBulkAll spare + 1
  | .agg parts => uptoBulkAll parts + 1
  | .iface _ d => uptoBulk d + 1
  | .map entries => uptoBulkEntries entries + 1
  | .held _ => 1
def uptoBulkAll {H : Type} : List (DataW H) → Nat
  | [] => 0
  | d :: r => uptoBulk d + uptoBulkAll r
def uptoBulkEntries {H : Type} : List (Lit × DataW H) → Nat
  | [] => 0
  | x :: r => uptoBulkEntry x + uptoBulkEntries r
def uptoBulkEntry {H : Type} : Lit × DataW H → Nat
  | (.string bytes, d) => bytes.length + uptoBulk d + 1
  | (_, d) => uptoBulk d + 1
 end
def uptoSmall : (H : Type) → List (DataW H) → Bool := fun _ ds => decide (uptoBulkAll ds ≤ 1048576)
def OpenSpec.upto (s : _root_.Go.ChangeSpec) : _root_.Go.OpenSpec := { _root_.Go.OpenSpec.ofChange s with cond := some uptoSmall }

/-- 'patchbaylaw42.AutomatonBuilds', WHERE WHAT IT READS IS OF BULK AT MOST 1048576: true; the input reads as it did. -/
def automatonBuildsUptoRow : OpenClaim := { program := "ytkjffppioddnpaa", sum := "45ace2f037adf92f9899eb5939385c9c04820371ce456df0280e8940bf4f7766", func := "patchbay/patchbaylaw42.AutomatonBuilds", spec := "automatonBuilds", unfollowed := true, recurses := true, plainKeys := false, apart := false, narrowed := true }
def AutomatonBuildsUptoSaid : Prop := automatonBuildsUptoRow.holds Try.pinned (OpenSpec.upto automatonBuildsSpec)

/-- 'patchbaylaw42.AutomatonMatches', WHERE WHAT IT READS IS OF BULK AT MOST 1048576: true; the input reads as it did. -/
def automatonMatchesUptoRow : OpenClaim := { program := "ytkjffppioddnpaa", sum := "45ace2f037adf92f9899eb5939385c9c04820371ce456df0280e8940bf4f7766", func := "patchbay/patchbaylaw42.AutomatonMatches", spec := "automatonMatches", unfollowed := true, recurses := true, plainKeys := false, apart := false, narrowed := true }
def AutomatonMatchesUptoSaid : Prop := automatonMatchesUptoRow.holds Try.pinned (OpenSpec.upto automatonMatchesSpec)

/-- 'patchbaylaw42.AutomatonDistinguishes', WHERE WHAT IT READS IS OF BULK AT MOST 1048576: true; the input reads as it did. -/
def automatonDistinguishesUptoRow : OpenClaim := { program := "ytkjffppioddnpaa", sum := "45ace2f037adf92f9899eb5939385c9c04820371ce456df0280e8940bf4f7766", func := "patchbay/patchbaylaw42.AutomatonDistinguishes", spec := "automatonDistinguishes", unfollowed := true, recurses := true, plainKeys := false, apart := false, narrowed := true }
def AutomatonDistinguishesUptoSaid : Prop := automatonDistinguishesUptoRow.holds Try.pinned (OpenSpec.upto automatonDistinguishesSpec)

/-- 'patchbaylaw42.AutomatonMinimizes', WHERE WHAT IT READS IS OF BULK AT MOST 1048576: true; the input reads as it did. -/
def automatonMinimizesUptoRow : OpenClaim := { program := "ytkjffppioddnpaa", sum := "45ace2f037adf92f9899eb5939385c9c04820371ce456df0280e8940bf4f7766", func := "patchbay/patchbaylaw42.AutomatonMinimizes", spec := "automatonMinimizes", unfollowed := true, recurses := true, plainKeys := false, apart := false, narrowed := true }
def AutomatonMinimizesUptoSaid : Prop := automatonMinimizesUptoRow.holds Try.pinned (OpenSpec.upto automatonMinimizesSpec)

/-- 'patchbaylaw42.AutomatonCanonical', WHERE WHAT IT READS IS OF BULK AT MOST 1048576: true; the input reads as it did. -/
def automatonCanonicalUptoRow : OpenClaim := { program := "ytkjffppioddnpaa", sum := "45ace2f037adf92f9899eb5939385c9c04820371ce456df0280e8940bf4f7766", func := "patchbay/patchbaylaw42.AutomatonCanonical", spec := "automatonCanonical", unfollowed := true, recurses := true, plainKeys := false, apart := false, narrowed := true }
def AutomatonCanonicalUptoSaid : Prop := automatonCanonicalUptoRow.holds Try.pinned (OpenSpec.upto automatonCanonicalSpec)

end Rows
end Go.Proofs.Ytkjffppioddnpaa
