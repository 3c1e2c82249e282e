/-
  No cell of these rows narrows 'for every input' (looked for: loops, veiled, ifaces, maps, wideKeys, modest, calm, conditions, laid).
  DERIVED. THE GIVEN ROWS OF THIS SEAT. 6 by the template 'for every input the law returns true; each argument reads behind the call as it read before'; 0 by the template 'total and deterministic' (their statements: YtpjbeoilmmhinaaTotals.lean).
  GIVEN WITH THE SEED: the statements are not yours to turn. If you find one false, say at which input.
  Laid BY PROGRAM, IN A SANDBOX (cutbox-rows.mjs): the forced cells as the released guide's own fill.sh prints them over the translation b5368eda27ca5dbc… (all of the seat's roots in one cut). By AI agents, Wed Nov 11 2026. No macro, syntax, notation, axiom, sorry.
-/
import Derived.Test.YtpjbeoilmmhinaaChecked
import GoSem.Claim
import GoSem.ClaimJoined
import GoSem.ClaimMapViews
import Derived.JoinedTies
import Derived.KernelRfl
namespace Go.Proofs.Ytpjbeoilmmhinaa
/- THE CELL 'sum', in the pinned program and in every row, IS THE sha256 OF THE DUMP (.gsa) THAT YtpjbeoilmmhinaaProg.lean LOADS. Nothing in Lean hashes anything: it is a label: what it is worth is what the hold of that sum in a sandbox is worth. -/
noncomputable def Try.pinned : Pinned := { name := "ytpjbeoilmmhinaa", sum := "b5368eda27ca5dbc1b30c4237ba79d2cb46954ee706a70e5db05b04d2444e6e1", checked := Try.checked }
namespace Rows
def none {H : Type} : Left H := { results := [], args := [] }

/-- 'patchbaylaw40.TopologyChecks': WHATEVER THE INPUT: true; the input reads as it did. -/
def topologyChecksSpec : ChangeSpec := { name := "topologyChecks", fn := fun _ => fun
  | [d] => { results := [.lit (.bool true)], args := [d] }
  | _ => none }
def topologyChecksRow : OpenClaim := { program := "ytpjbeoilmmhinaa", sum := "b5368eda27ca5dbc1b30c4237ba79d2cb46954ee706a70e5db05b04d2444e6e1", func := "patchbay/patchbaylaw40.TopologyChecks", spec := "topologyChecks", apart := false }
def TopologyChecksSaid : Prop := topologyChecksRow.holds Try.pinned (OpenSpec.ofChange topologyChecksSpec)

/-- ITS FALSE NEIGHBOUR: 'it returns false'. Refute it at one input. -/
def topologyChecksWrong : ChangeSpec := { name := "topologyChecks", fn := fun _ => fun
  | [d] => { results := [.lit (.bool false)], args := [d] }
  | _ => none }
def TopologyChecksWrongFalsely : Prop := topologyChecksRow.holds Try.pinned (OpenSpec.ofChange topologyChecksWrong)

/-- 'patchbaylaw40.TopologyQueries': WHATEVER THE INPUT: true; the input reads as it did. -/
def topologyQueriesSpec : ChangeSpec := { name := "topologyQueries", fn := fun _ => fun
  | [d1, d2] => { results := [.lit (.bool true)], args := [d1, d2] }
  | _ => none }
def topologyQueriesRow : OpenClaim := { program := "ytpjbeoilmmhinaa", sum := "b5368eda27ca5dbc1b30c4237ba79d2cb46954ee706a70e5db05b04d2444e6e1", func := "patchbay/patchbaylaw40.TopologyQueries", spec := "topologyQueries", apart := false }
def TopologyQueriesSaid : Prop := topologyQueriesRow.holds Try.pinned (OpenSpec.ofChange topologyQueriesSpec)

/-- ITS FALSE NEIGHBOUR: 'it returns false'. Refute it at one input. -/
def topologyQueriesWrong : ChangeSpec := { name := "topologyQueries", fn := fun _ => fun
  | [d1, d2] => { results := [.lit (.bool false)], args := [d1, d2] }
  | _ => none }
def TopologyQueriesWrongFalsely : Prop := topologyQueriesRow.holds Try.pinned (OpenSpec.ofChange topologyQueriesWrong)

/-- 'patchbaylaw40.TopologyNeighbors': WHATEVER THE INPUT: true; the input reads as it did. -/
def topologyNeighborsSpec : ChangeSpec := { name := "topologyNeighbors", fn := fun _ => fun
  | [d] => { results := [.lit (.bool true)], args := [d] }
  | _ => none }
def topologyNeighborsRow : OpenClaim := { program := "ytpjbeoilmmhinaa", sum := "b5368eda27ca5dbc1b30c4237ba79d2cb46954ee706a70e5db05b04d2444e6e1", func := "patchbay/patchbaylaw40.TopologyNeighbors", spec := "topologyNeighbors", apart := false }
def TopologyNeighborsSaid : Prop := topologyNeighborsRow.holds Try.pinned (OpenSpec.ofChange topologyNeighborsSpec)

/-- ITS FALSE NEIGHBOUR: 'it returns false'. Refute it at one input. -/
def topologyNeighborsWrong : ChangeSpec := { name := "topologyNeighbors", fn := fun _ => fun
  | [d] => { results := [.lit (.bool false)], args := [d] }
  | _ => none }
def TopologyNeighborsWrongFalsely : Prop := topologyNeighborsRow.holds Try.pinned (OpenSpec.ofChange topologyNeighborsWrong)

/-- 'patchbaylaw40.TopologySymmetric': WHATEVER THE INPUT: true; the input reads as it did. -/
def topologySymmetricSpec : ChangeSpec := { name := "topologySymmetric", fn := fun _ => fun
  | [d] => { results := [.lit (.bool true)], args := [d] }
  | _ => none }
def topologySymmetricRow : OpenClaim := { program := "ytpjbeoilmmhinaa", sum := "b5368eda27ca5dbc1b30c4237ba79d2cb46954ee706a70e5db05b04d2444e6e1", func := "patchbay/patchbaylaw40.TopologySymmetric", spec := "topologySymmetric", apart := false }
def TopologySymmetricSaid : Prop := topologySymmetricRow.holds Try.pinned (OpenSpec.ofChange topologySymmetricSpec)

/-- ITS FALSE NEIGHBOUR: 'it returns false'. Refute it at one input. -/
def topologySymmetricWrong : ChangeSpec := { name := "topologySymmetric", fn := fun _ => fun
  | [d] => { results := [.lit (.bool false)], args := [d] }
  | _ => none }
def TopologySymmetricWrongFalsely : Prop := topologySymmetricRow.holds Try.pinned (OpenSpec.ofChange topologySymmetricWrong)

/-- 'patchbaylaw40.TopologySets': WHATEVER THE INPUT: true; the input reads as it did. -/
def topologySetsSpec : ChangeSpec := { name := "topologySets", fn := fun _ => fun
  | [d1, d2, d3] => { results := [.lit (.bool true)], args := [d1, d2, d3] }
  | _ => none }
def topologySetsRow : OpenClaim := { program := "ytpjbeoilmmhinaa", sum := "b5368eda27ca5dbc1b30c4237ba79d2cb46954ee706a70e5db05b04d2444e6e1", func := "patchbay/patchbaylaw40.TopologySets", spec := "topologySets", apart := false }
def TopologySetsSaid : Prop := topologySetsRow.holds Try.pinned (OpenSpec.ofChange topologySetsSpec)

/-- ITS FALSE NEIGHBOUR: 'it returns false'. Refute it at one input. -/
def topologySetsWrong : ChangeSpec := { name := "topologySets", fn := fun _ => fun
  | [d1, d2, d3] => { results := [.lit (.bool false)], args := [d1, d2, d3] }
  | _ => none }
def TopologySetsWrongFalsely : Prop := topologySetsRow.holds Try.pinned (OpenSpec.ofChange topologySetsWrong)

/-- 'patchbaylaw40.TopologyCopies': WHATEVER THE INPUT: true; the input reads as it did. -/
def topologyCopiesSpec : ChangeSpec := { name := "topologyCopies", fn := fun _ => fun
  | [d1, d2] => { results := [.lit (.bool true)], args := [d1, d2] }
  | _ => none }
def topologyCopiesRow : OpenClaim := { program := "ytpjbeoilmmhinaa", sum := "b5368eda27ca5dbc1b30c4237ba79d2cb46954ee706a70e5db05b04d2444e6e1", func := "patchbay/patchbaylaw40.TopologyCopies", spec := "topologyCopies", apart := false }
def TopologyCopiesSaid : Prop := topologyCopiesRow.holds Try.pinned (OpenSpec.ofChange topologyCopiesSpec)

/-- ITS FALSE NEIGHBOUR: 'it returns false'. Refute it at one input. -/
def topologyCopiesWrong : ChangeSpec := { name := "topologyCopies", fn := fun _ => fun
  | [d1, d2] => { results := [.lit (.bool false)], args := [d1, d2] }
  | _ => none }
def TopologyCopiesWrongFalsely : Prop := topologyCopiesRow.holds Try.pinned (OpenSpec.ofChange topologyCopiesWrong)

/- THE SECOND FORM. 'bulk': how many values and letters a reading holds, each counted each time it is reached (what is shared counts as often as it is met; a slice's spare places count too). A statement '..UptoSaid' is the law's where the arguments, and the package variables that the reading takes, are together of bulk at most 1048576: NARROWER than '..Said'. Prove '..Said' where nothing that the law and all that it calls make is longer than what came in: it says more and counts as full. Else prove '..UptoSaid'. A law counts once. -/
mutual
def uptoBulk {H : Type} : DataW H → Nat
  | .lit (.string bytes) => bytes.length + 1
  | .lit _ => 1
  | .nil => 1
  | .ptr d => uptoBulk d + 1
  | .slice elems spare => uptoBulkAll elems + uptoBulkAll spare + 1
  | .agg parts => uptoBulkAll parts + 1
  | .iface _ d => uptoBulk d + 1
  | .map entries => uptoBulkEntries entries + 1
  | .held _ => 1
def uptoBulkAll {H : Type} : List (DataW H) → Nat
  | [] => 0
  | d :: r => uptoBulk d + uptoBulkAll r
def uptoBulkEntries {H : Type} : List (Lit × DataW H) → Nat
  | [] => 0
  | x :: r => uptoBulkEntry x + uptoBulkEntries r
def uptoBulkEntry {H : Type} : Lit × DataW H → Nat
  | (.string bytes, d) => bytes.length + uptoBulk d + 1
  | (_, d) => uptoBulk d + 1
 end
def uptoSmall : (H : Type) → List (DataW H) → Bool := fun _ ds => decide (uptoBulkAll ds ≤ 1048576)
def OpenSpec.upto (s : _root_.Go.ChangeSpec) : _root_.Go.OpenSpec := { _root_.Go.OpenSpec.ofChange s with cond := some uptoSmall }

/-- 'patchbaylaw40.TopologyChecks', WHERE WHAT IT READS IS OF BULK AT MOST 1048576: true; the input reads as it did. -/
def topologyChecksUptoRow : OpenClaim := { program := "ytpjbeoilmmhinaa", sum := "b5368eda27ca5dbc1b30c4237ba79d2cb46954ee706a70e5db05b04d2444e6e1", func := "patchbay/patchbaylaw40.TopologyChecks", spec := "topologyChecks", apart := false, narrowed := true }
def TopologyChecksUptoSaid : Prop := topologyChecksUptoRow.holds Try.pinned (OpenSpec.upto topologyChecksSpec)

/-- 'patchbaylaw40.TopologyQueries', WHERE WHAT IT READS IS OF BULK AT MOST 1048576: true; the input reads as it did. -/
def topologyQueriesUptoRow : OpenClaim := { program := "ytpjbeoilmmhinaa", sum := "b5368eda27ca5dbc1b30c4237ba79d2cb46954ee706a70e5db05b04d2444e6e1", func := "patchbay/patchbaylaw40.TopologyQueries", spec := "topologyQueries", apart := false, narrowed := true }
def TopologyQueriesUptoSaid : Prop := topologyQueriesUptoRow.holds Try.pinned (OpenSpec.upto topologyQueriesSpec)

/-- 'patchbaylaw40.TopologyNeighbors', WHERE WHAT IT READS IS OF BULK AT MOST 1048576: true; the input reads as it did. -/
def topologyNeighborsUptoRow : OpenClaim := { program := "ytpjbeoilmmhinaa", sum := "b5368eda27ca5dbc1b30c4237ba79d2cb46954ee706a70e5db05b04d2444e6e1", func := "patchbay/patchbaylaw40.TopologyNeighbors", spec := "topologyNeighbors", apart := false, narrowed := true }
def TopologyNeighborsUptoSaid : Prop := topologyNeighborsUptoRow.holds Try.pinned (OpenSpec.upto topologyNeighborsSpec)

/-- 'patchbaylaw40.TopologySymmetric', WHERE WHAT IT READS IS OF BULK AT MOST 1048576: true; the input reads as it did. -/
def topologySymmetricUptoRow : OpenClaim := { program := "ytpjbeoilmmhinaa", sum := "b5368eda27ca5dbc1b30c4237ba79d2cb46954ee706a70e5db05b04d2444e6e1", func := "patchbay/patchbaylaw40.TopologySymmetric", spec := "topologySymmetric", apart := false, narrowed := true }
def TopologySymmetricUptoSaid : Prop := topologySymmetricUptoRow.holds Try.pinned (OpenSpec.upto topologySymmetricSpec)

/-- 'patchbaylaw40.TopologySets', WHERE WHAT IT READS IS OF BULK AT MOST 1048576: true; the input reads as it did. -/
def topologySetsUptoRow : OpenClaim := { program := "ytpjbeoilmmhinaa", sum := "b5368eda27ca5dbc1b30c4237ba79d2cb46954ee706a70e5db05b04d2444e6e1", func := "patchbay/patchbaylaw40.TopologySets", spec := "topologySets", apart := false, narrowed := true }
def TopologySetsUptoSaid : Prop := topologySetsUptoRow.holds Try.pinned (OpenSpec.upto topologySetsSpec)

/-- 'patchbaylaw40.TopologyCopies', WHERE WHAT IT READS IS OF BULK AT MOST 1048576: true; the input reads as it did. -/
def topologyCopiesUptoRow : OpenClaim := { program := "ytpjbeoilmmhinaa", sum := "b5368eda27ca5dbc1b30c4237ba79d2cb46954ee706a70e5db05b04d2444e6e1", func := "patchbay/patchbaylaw40.TopologyCopies", spec := "topologyCopies", apart := false, narrowed := true }
def TopologyCopiesUptoSaid : Prop := topologyCopiesUptoRow.holds Try.pinned (OpenSpec.upto topologyCopiesSpec)

end Rows
end Go.Proofs.Ytpjbeoilmmhinaa
