/-
  No cell of these rows narrows 'for every input' (looked for: loops, veiled, ifaces, maps, wideKeys, modest, calm, conditions, laid).
  DERIVED. THE GIVEN ROWS OF THIS SEAT. 5 by the template 'for every input the law returns true; each argument reads behind the call as it read before'; 0 by the template 'total and deterministic' (their statements: YticeakkgoafiaaaTotals.lean).
  GIVEN WITH THE SEED: the statements are not yours to turn. If you find one false, say at which input.
  Laid BY PROGRAM, IN A SANDBOX (cutbox-rows.mjs): the forced cells as the released guide's own fill.sh prints them over the translation 49054acdaec9eeeb… (all of the seat's roots in one cut). By AI agents, Wed Nov 11 2026. No macro, syntax, notation, axiom, sorry.
-/
import Derived.Test.YticeakkgoafiaaaChecked
import GoSem.Claim
import GoSem.ClaimJoined
import GoSem.ClaimMapViews
import Derived.JoinedTies
import Derived.KernelRfl
namespace Go.Proofs.Yticeakkgoafiaaa
/- THE CELL 'sum', in the pinned program and in every row, IS THE sha256 OF THE DUMP (.gsa) THAT YticeakkgoafiaaaProg.lean LOADS. Nothing in Lean hashes anything: it is a label: what it is worth is what the hold of that sum in a sandbox is worth. -/
noncomputable def Try.pinned : Pinned := { name := "yticeakkgoafiaaa", sum := "49054acdaec9eeeba305ccf771354d20142b3d22380101f347f83bc0af3477db", checked := Try.checked }
namespace Rows
def none {H : Type} : Left H := { results := [], args := [] }

/-- 'patchbaylaw43.RouteFinds': WHATEVER THE INPUT: true; the input reads as it did. -/
def routeFindsSpec : ChangeSpec := { name := "routeFinds", fn := fun _ => fun
  | [d1, d2] => { results := [.lit (.bool true)], args := [d1, d2] }
  | _ => none }
def routeFindsRow : OpenClaim := { program := "yticeakkgoafiaaa", sum := "49054acdaec9eeeba305ccf771354d20142b3d22380101f347f83bc0af3477db", func := "patchbay/patchbaylaw43.RouteFinds", spec := "routeFinds", unfollowed := true, recurses := true, plainKeys := false, apart := false }
def RouteFindsSaid : Prop := routeFindsRow.holds Try.pinned (OpenSpec.ofChange routeFindsSpec)

/-- ITS FALSE NEIGHBOUR: 'it returns false'. Refute it at one input. -/
def routeFindsWrong : ChangeSpec := { name := "routeFinds", fn := fun _ => fun
  | [d1, d2] => { results := [.lit (.bool false)], args := [d1, d2] }
  | _ => none }
def RouteFindsWrongFalsely : Prop := routeFindsRow.holds Try.pinned (OpenSpec.ofChange routeFindsWrong)

/-- 'patchbaylaw43.RouteValid': WHATEVER THE INPUT: true; the input reads as it did. -/
def routeValidSpec : ChangeSpec := { name := "routeValid", fn := fun _ => fun
  | [d1, d2, d3] => { results := [.lit (.bool true)], args := [d1, d2, d3] }
  | _ => none }
def routeValidRow : OpenClaim := { program := "yticeakkgoafiaaa", sum := "49054acdaec9eeeba305ccf771354d20142b3d22380101f347f83bc0af3477db", func := "patchbay/patchbaylaw43.RouteValid", spec := "routeValid", unfollowed := true, recurses := true, plainKeys := false, apart := false }
def RouteValidSaid : Prop := routeValidRow.holds Try.pinned (OpenSpec.ofChange routeValidSpec)

/-- ITS FALSE NEIGHBOUR: 'it returns false'. Refute it at one input. -/
def routeValidWrong : ChangeSpec := { name := "routeValid", fn := fun _ => fun
  | [d1, d2, d3] => { results := [.lit (.bool false)], args := [d1, d2, d3] }
  | _ => none }
def RouteValidWrongFalsely : Prop := routeValidRow.holds Try.pinned (OpenSpec.ofChange routeValidWrong)

/-- 'patchbaylaw43.RouteOptimal': WHATEVER THE INPUT: true; the input reads as it did. -/
def routeOptimalSpec : ChangeSpec := { name := "routeOptimal", fn := fun _ => fun
  | [d1, d2, d3] => { results := [.lit (.bool true)], args := [d1, d2, d3] }
  | _ => none }
def routeOptimalRow : OpenClaim := { program := "yticeakkgoafiaaa", sum := "49054acdaec9eeeba305ccf771354d20142b3d22380101f347f83bc0af3477db", func := "patchbay/patchbaylaw43.RouteOptimal", spec := "routeOptimal", unfollowed := true, recurses := true, plainKeys := false, apart := false }
def RouteOptimalSaid : Prop := routeOptimalRow.holds Try.pinned (OpenSpec.ofChange routeOptimalSpec)

/-- ITS FALSE NEIGHBOUR: 'it returns false'. Refute it at one input. -/
def routeOptimalWrong : ChangeSpec := { name := "routeOptimal", fn := fun _ => fun
  | [d1, d2, d3] => { results := [.lit (.bool false)], args := [d1, d2, d3] }
  | _ => none }
def RouteOptimalWrongFalsely : Prop := routeOptimalRow.holds Try.pinned (OpenSpec.ofChange routeOptimalWrong)

/-- 'patchbaylaw43.RouteShortest': WHATEVER THE INPUT: true; the input reads as it did. -/
def routeShortestSpec : ChangeSpec := { name := "routeShortest", fn := fun _ => fun
  | [d1, d2, d3] => { results := [.lit (.bool true)], args := [d1, d2, d3] }
  | _ => none }
def routeShortestRow : OpenClaim := { program := "yticeakkgoafiaaa", sum := "49054acdaec9eeeba305ccf771354d20142b3d22380101f347f83bc0af3477db", func := "patchbay/patchbaylaw43.RouteShortest", spec := "routeShortest", unfollowed := true, recurses := true, plainKeys := false, apart := false }
def RouteShortestSaid : Prop := routeShortestRow.holds Try.pinned (OpenSpec.ofChange routeShortestSpec)

/-- ITS FALSE NEIGHBOUR: 'it returns false'. Refute it at one input. -/
def routeShortestWrong : ChangeSpec := { name := "routeShortest", fn := fun _ => fun
  | [d1, d2, d3] => { results := [.lit (.bool false)], args := [d1, d2, d3] }
  | _ => none }
def RouteShortestWrongFalsely : Prop := routeShortestRow.holds Try.pinned (OpenSpec.ofChange routeShortestWrong)

/-- 'patchbaylaw43.RouteAlternatives': WHATEVER THE INPUT: true; the input reads as it did. -/
def routeAlternativesSpec : ChangeSpec := { name := "routeAlternatives", fn := fun _ => fun
  | [d1, d2, d3] => { results := [.lit (.bool true)], args := [d1, d2, d3] }
  | _ => none }
def routeAlternativesRow : OpenClaim := { program := "yticeakkgoafiaaa", sum := "49054acdaec9eeeba305ccf771354d20142b3d22380101f347f83bc0af3477db", func := "patchbay/patchbaylaw43.RouteAlternatives", spec := "routeAlternatives", unfollowed := true, recurses := true, plainKeys := false, apart := false }
def RouteAlternativesSaid : Prop := routeAlternativesRow.holds Try.pinned (OpenSpec.ofChange routeAlternativesSpec)

/-- ITS FALSE NEIGHBOUR: 'it returns false'. Refute it at one input. -/
def routeAlternativesWrong : ChangeSpec := { name := "routeAlternatives", fn := fun _ => fun
  | [d1, d2, d3] => { results := [.lit (.bool false)], args := [d1, d2, d3] }
  | _ => none }
def RouteAlternativesWrongFalsely : Prop := routeAlternativesRow.holds Try.pinned (OpenSpec.ofChange routeAlternativesWrong)

/- THE SECOND FORM. 'bulk': how many values and letters a reading holds, each counted each time it is reached (what is shared counts as often as it is met; a slice's spare places count too). A statement '..UptoSaid' is the law's where the arguments, and the package variables that the reading takes, are together of bulk at most 1048576: NARROWER than '..Said'. Prove '..Said' where nothing that the law and all that it calls make is longer than what came in: it says more and counts as full. Else prove '..UptoSaid'. A law counts once. -/
mutual
def uptoBulk {H : Type} : DataW H → Nat
  | .lit (.string bytes) => bytes.length + 1
  | .lit _ => 1
  | .nil => 1
  | .ptr d => uptoBulk d + 1
  | .slice elems spare => uptoBulkAll elems + uptoBulkAll spare + 1
  | .agg parts => uptoBulkAll parts + 1
  | .iface _ d => uptoBulk d + 1
  | .map entries => uptoBulkEntries entries + 1
  | .held _ => 1
def uptoBulkAll {H : Type} : List (DataW H) → Nat
  | [] => 0
  | d :: r => uptoBulk d + uptoBulkAll r
def uptoBulkEntries {H : Type} : List (Lit × DataW H) → Nat
  | [] => 0
  | x :: r => uptoBulkEntry x + uptoBulkEntries r
def uptoBulkEntry {H : Type} : Lit × DataW H → Nat
  | (.string bytes, d) => bytes.length + uptoBulk d + 1
  | (_, d) => uptoBulk d + 1
 end
def uptoSmall : (H : Type) → List (DataW H) → Bool := fun _ ds => decide (uptoBulkAll ds ≤ 1048576)
def OpenSpec.upto (s : _root_.Go.ChangeSpec) : _root_.Go.OpenSpec := { _root_.Go.OpenSpec.ofChange s with cond := some uptoSmall }

/-- 'patchbaylaw43.RouteFinds', WHERE WHAT IT READS IS OF BULK AT MOST 1048576: true; the input reads as it did. -/
def routeFindsUptoRow : OpenClaim := { program := "yticeakkgoafiaaa", sum := "49054acdaec9eeeba305ccf771354d20142b3d22380101f347f83bc0af3477db", func := "patchbay/patchbaylaw43.RouteFinds", spec := "routeFinds", unfollowed := true, recurses := true, plainKeys := false, apart := false, narrowed := true }
def RouteFindsUptoSaid : Prop := routeFindsUptoRow.holds Try.pinned (OpenSpec.upto routeFindsSpec)

/-- 'patchbaylaw43.RouteValid', WHERE WHAT IT READS IS OF BULK AT MOST 1048576: true; the input reads as it did. -/
def routeValidUptoRow : OpenClaim := { program := "yticeakkgoafiaaa", sum := "49054acdaec9eeeba305ccf771354d20142b3d22380101f347f83bc0af3477db", func := "patchbay/patchbaylaw43.RouteValid", spec := "routeValid", unfollowed := true, recurses := true, plainKeys := false, apart := false, narrowed := true }
def RouteValidUptoSaid : Prop := routeValidUptoRow.holds Try.pinned (OpenSpec.upto routeValidSpec)

/-- 'patchbaylaw43.RouteOptimal', WHERE WHAT IT READS IS OF BULK AT MOST 1048576: true; the input reads as it did. -/
def routeOptimalUptoRow : OpenClaim := { program := "yticeakkgoafiaaa", sum := "49054acdaec9eeeba305ccf771354d20142b3d22380101f347f83bc0af3477db", func := "patchbay/patchbaylaw43.RouteOptimal", spec := "routeOptimal", unfollowed := true, recurses := true, plainKeys := false, apart := false, narrowed := true }
def RouteOptimalUptoSaid : Prop := routeOptimalUptoRow.holds Try.pinned (OpenSpec.upto routeOptimalSpec)

/-- 'patchbaylaw43.RouteShortest', WHERE WHAT IT READS IS OF BULK AT MOST 1048576: true; the input reads as it did. -/
def routeShortestUptoRow : OpenClaim := { program := "yticeakkgoafiaaa", sum := "49054acdaec9eeeba305ccf771354d20142b3d22380101f347f83bc0af3477db", func := "patchbay/patchbaylaw43.RouteShortest", spec := "routeShortest", unfollowed := true, recurses := true, plainKeys := false, apart := false, narrowed := true }
def RouteShortestUptoSaid : Prop := routeShortestUptoRow.holds Try.pinned (OpenSpec.upto routeShortestSpec)

/-- 'patchbaylaw43.RouteAlternatives', WHERE WHAT IT READS IS OF BULK AT MOST 1048576: true; the input reads as it did. -/
def routeAlternativesUptoRow : OpenClaim := { program := "yticeakkgoafiaaa", sum := "49054acdaec9eeeba305ccf771354d20142b3d22380101f347f83bc0af3477db", func := "patchbay/patchbaylaw43.RouteAlternatives", spec := "routeAlternatives", unfollowed := true, recurses := true, plainKeys := false, apart := false, narrowed := true }
def RouteAlternativesUptoSaid : Prop := routeAlternativesUptoRow.holds Try.pinned (OpenSpec.upto routeAlternativesSpec)

end Rows
end Go.Proofs.Yticeakkgoafiaaa
