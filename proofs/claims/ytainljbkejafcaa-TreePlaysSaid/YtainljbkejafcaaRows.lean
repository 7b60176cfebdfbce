/-
  No cell of these rows narrows 'for every input' (looked for: loops, veiled, ifaces, maps, wideKeys, modest, calm, conditions, laid).
  DERIVED. THE GIVEN ROWS OF THIS SEAT. 16 by the template 'for every input the law returns true; each argument reads behind the call as it read before'; 0 by the template 'total and deterministic' (their statements: YtainljbkejafcaaTotals.lean).
  GIVEN WITH THE SEED: the statements are not yours to turn. If you find one false, say at which input.
  Laid BY PROGRAM, IN A SANDBOX (cutbox-rows.mjs): the forced cells as the released guide's own fill.sh prints them over the translation 55be3ba56011cb72… (all of the seat's roots in one cut). By AI agents, Wed Nov 11 2026. No macro, syntax, notation, axiom, sorry.
-/
import Derived.Test.YtainljbkejafcaaChecked
import GoSem.Claim
import GoSem.ClaimJoined
import GoSem.ClaimMapViews
import Derived.JoinedTies
import Derived.KernelRfl
namespace Go.Proofs.Ytainljbkejafcaa
/- THE CELL 'sum', in the pinned program and in every row, IS THE sha256 OF THE DUMP (.gsa) THAT YtainljbkejafcaaProg.lean LOADS. Nothing in Lean hashes anything: it is a label: what it is worth is what the hold of that sum in a sandbox is worth. -/
noncomputable def Try.pinned : Pinned := { name := "ytainljbkejafcaa", sum := "55be3ba56011cb722a246fb4cc6fde9d047c6899a5d8aa4bcb8d681e43fa4017", checked := Try.checked }
namespace Rows
def none {H : Type} : Left H := { results := [], args := [] }

/-- 'erewhilelaw24.NodeOrder': WHATEVER THE INPUT: true; the input reads as it did. -/
def nodeOrderSpec : ChangeSpec := { name := "nodeOrder", fn := fun _ => fun
  | [d1, d2, d3] => { results := [.lit (.bool true)], args := [d1, d2, d3] }
  | _ => none }
def nodeOrderRow : OpenClaim := { program := "ytainljbkejafcaa", sum := "55be3ba56011cb722a246fb4cc6fde9d047c6899a5d8aa4bcb8d681e43fa4017", func := "erewhile/erewhilelaw24.NodeOrder", spec := "nodeOrder", inPlace := ["slices.overlaps[erewhile/api.Spot]", "slices.overlaps[uint64]"], unfollowed := true, recurses := true, apart := false }
def NodeOrderSaid : Prop := nodeOrderRow.holds Try.pinned (OpenSpec.ofChange nodeOrderSpec)

/-- ITS FALSE NEIGHBOUR: 'it returns false'. Refute it at one input. -/
def nodeOrderWrong : ChangeSpec := { name := "nodeOrder", fn := fun _ => fun
  | [d1, d2, d3] => { results := [.lit (.bool false)], args := [d1, d2, d3] }
  | _ => none }
def NodeOrderWrongFalsely : Prop := nodeOrderRow.holds Try.pinned (OpenSpec.ofChange nodeOrderWrong)

/-- 'erewhilelaw24.NodeLeaves': WHATEVER THE INPUT: true; the input reads as it did. -/
def nodeLeavesSpec : ChangeSpec := { name := "nodeLeaves", fn := fun _ => fun
  | [d1, d2] => { results := [.lit (.bool true)], args := [d1, d2] }
  | _ => none }
def nodeLeavesRow : OpenClaim := { program := "ytainljbkejafcaa", sum := "55be3ba56011cb722a246fb4cc6fde9d047c6899a5d8aa4bcb8d681e43fa4017", func := "erewhile/erewhilelaw24.NodeLeaves", spec := "nodeLeaves", inPlace := ["slices.overlaps[erewhile/api.Spot]", "slices.overlaps[uint64]"], unfollowed := true, recurses := true, apart := false }
def NodeLeavesSaid : Prop := nodeLeavesRow.holds Try.pinned (OpenSpec.ofChange nodeLeavesSpec)

/-- ITS FALSE NEIGHBOUR: 'it returns false'. Refute it at one input. -/
def nodeLeavesWrong : ChangeSpec := { name := "nodeLeaves", fn := fun _ => fun
  | [d1, d2] => { results := [.lit (.bool false)], args := [d1, d2] }
  | _ => none }
def NodeLeavesWrongFalsely : Prop := nodeLeavesRow.holds Try.pinned (OpenSpec.ofChange nodeLeavesWrong)

/-- 'erewhilelaw24.NodePlays': WHATEVER THE INPUT: true; the input reads as it did. -/
def nodePlaysSpec : ChangeSpec := { name := "nodePlays", fn := fun _ => fun
  | [d] => { results := [.lit (.bool true)], args := [d] }
  | _ => none }
def nodePlaysRow : OpenClaim := { program := "ytainljbkejafcaa", sum := "55be3ba56011cb722a246fb4cc6fde9d047c6899a5d8aa4bcb8d681e43fa4017", func := "erewhile/erewhilelaw24.NodePlays", spec := "nodePlays", inPlace := ["slices.overlaps[erewhile/api.Spot]", "slices.overlaps[uint64]"], unfollowed := true, recurses := true, apart := false }
def NodePlaysSaid : Prop := nodePlaysRow.holds Try.pinned (OpenSpec.ofChange nodePlaysSpec)

/-- ITS FALSE NEIGHBOUR: 'it returns false'. Refute it at one input. -/
def nodePlaysWrong : ChangeSpec := { name := "nodePlays", fn := fun _ => fun
  | [d] => { results := [.lit (.bool false)], args := [d] }
  | _ => none }
def NodePlaysWrongFalsely : Prop := nodePlaysRow.holds Try.pinned (OpenSpec.ofChange nodePlaysWrong)

/-- 'erewhilelaw24.NodeStays': WHATEVER THE INPUT: true; the input reads as it did. -/
def nodeStaysSpec : ChangeSpec := { name := "nodeStays", fn := fun _ => fun
  | [d1, d2] => { results := [.lit (.bool true)], args := [d1, d2] }
  | _ => none }
def nodeStaysRow : OpenClaim := { program := "ytainljbkejafcaa", sum := "55be3ba56011cb722a246fb4cc6fde9d047c6899a5d8aa4bcb8d681e43fa4017", func := "erewhile/erewhilelaw24.NodeStays", spec := "nodeStays", inPlace := ["slices.overlaps[erewhile/api.Spot]", "slices.overlaps[uint64]"], unfollowed := true, recurses := true, apart := false }
def NodeStaysSaid : Prop := nodeStaysRow.holds Try.pinned (OpenSpec.ofChange nodeStaysSpec)

/-- ITS FALSE NEIGHBOUR: 'it returns false'. Refute it at one input. -/
def nodeStaysWrong : ChangeSpec := { name := "nodeStays", fn := fun _ => fun
  | [d1, d2] => { results := [.lit (.bool false)], args := [d1, d2] }
  | _ => none }
def NodeStaysWrongFalsely : Prop := nodeStaysRow.holds Try.pinned (OpenSpec.ofChange nodeStaysWrong)

/-- 'erewhilelaw24.NodeFinds': WHATEVER THE INPUT: true; the input reads as it did. -/
def nodeFindsSpec : ChangeSpec := { name := "nodeFinds", fn := fun _ => fun
  | [d1, d2] => { results := [.lit (.bool true)], args := [d1, d2] }
  | _ => none }
def nodeFindsRow : OpenClaim := { program := "ytainljbkejafcaa", sum := "55be3ba56011cb722a246fb4cc6fde9d047c6899a5d8aa4bcb8d681e43fa4017", func := "erewhile/erewhilelaw24.NodeFinds", spec := "nodeFinds", inPlace := ["slices.overlaps[erewhile/api.Spot]", "slices.overlaps[uint64]"], unfollowed := true, recurses := true, apart := false }
def NodeFindsSaid : Prop := nodeFindsRow.holds Try.pinned (OpenSpec.ofChange nodeFindsSpec)

/-- ITS FALSE NEIGHBOUR: 'it returns false'. Refute it at one input. -/
def nodeFindsWrong : ChangeSpec := { name := "nodeFinds", fn := fun _ => fun
  | [d1, d2] => { results := [.lit (.bool false)], args := [d1, d2] }
  | _ => none }
def NodeFindsWrongFalsely : Prop := nodeFindsRow.holds Try.pinned (OpenSpec.ofChange nodeFindsWrong)

/-- 'erewhilelaw24.NodeRight': WHATEVER THE INPUT: true; the input reads as it did. -/
def nodeRightSpec : ChangeSpec := { name := "nodeRight", fn := fun _ => fun
  | [d1, d2, d3] => { results := [.lit (.bool true)], args := [d1, d2, d3] }
  | _ => none }
def nodeRightRow : OpenClaim := { program := "ytainljbkejafcaa", sum := "55be3ba56011cb722a246fb4cc6fde9d047c6899a5d8aa4bcb8d681e43fa4017", func := "erewhile/erewhilelaw24.NodeRight", spec := "nodeRight", inPlace := ["slices.overlaps[erewhile/api.Spot]", "slices.overlaps[uint64]"], unfollowed := true, recurses := true, apart := false }
def NodeRightSaid : Prop := nodeRightRow.holds Try.pinned (OpenSpec.ofChange nodeRightSpec)

/-- ITS FALSE NEIGHBOUR: 'it returns false'. Refute it at one input. -/
def nodeRightWrong : ChangeSpec := { name := "nodeRight", fn := fun _ => fun
  | [d1, d2, d3] => { results := [.lit (.bool false)], args := [d1, d2, d3] }
  | _ => none }
def NodeRightWrongFalsely : Prop := nodeRightRow.holds Try.pinned (OpenSpec.ofChange nodeRightWrong)

/-- 'erewhilelaw24.NodeTwo': WHATEVER THE INPUT: true; the input reads as it did. -/
def nodeTwoSpec : ChangeSpec := { name := "nodeTwo", fn := fun _ => fun
  | [d1, d2, d3] => { results := [.lit (.bool true)], args := [d1, d2, d3] }
  | _ => none }
def nodeTwoRow : OpenClaim := { program := "ytainljbkejafcaa", sum := "55be3ba56011cb722a246fb4cc6fde9d047c6899a5d8aa4bcb8d681e43fa4017", func := "erewhile/erewhilelaw24.NodeTwo", spec := "nodeTwo", inPlace := ["slices.overlaps[erewhile/api.Spot]", "slices.overlaps[uint64]"], unfollowed := true, recurses := true, apart := false }
def NodeTwoSaid : Prop := nodeTwoRow.holds Try.pinned (OpenSpec.ofChange nodeTwoSpec)

/-- ITS FALSE NEIGHBOUR: 'it returns false'. Refute it at one input. -/
def nodeTwoWrong : ChangeSpec := { name := "nodeTwo", fn := fun _ => fun
  | [d1, d2, d3] => { results := [.lit (.bool false)], args := [d1, d2, d3] }
  | _ => none }
def NodeTwoWrongFalsely : Prop := nodeTwoRow.holds Try.pinned (OpenSpec.ofChange nodeTwoWrong)

/-- 'erewhilelaw24.NodeEmpties': WHATEVER THE INPUT: true; the input reads as it did. -/
def nodeEmptiesSpec : ChangeSpec := { name := "nodeEmpties", fn := fun _ => fun
  | [d1, d2] => { results := [.lit (.bool true)], args := [d1, d2] }
  | _ => none }
def nodeEmptiesRow : OpenClaim := { program := "ytainljbkejafcaa", sum := "55be3ba56011cb722a246fb4cc6fde9d047c6899a5d8aa4bcb8d681e43fa4017", func := "erewhile/erewhilelaw24.NodeEmpties", spec := "nodeEmpties", inPlace := ["slices.overlaps[erewhile/api.Spot]", "slices.overlaps[uint64]"], unfollowed := true, recurses := true, apart := false }
def NodeEmptiesSaid : Prop := nodeEmptiesRow.holds Try.pinned (OpenSpec.ofChange nodeEmptiesSpec)

/-- ITS FALSE NEIGHBOUR: 'it returns false'. Refute it at one input. -/
def nodeEmptiesWrong : ChangeSpec := { name := "nodeEmpties", fn := fun _ => fun
  | [d1, d2] => { results := [.lit (.bool false)], args := [d1, d2] }
  | _ => none }
def NodeEmptiesWrongFalsely : Prop := nodeEmptiesRow.holds Try.pinned (OpenSpec.ofChange nodeEmptiesWrong)

/-- 'erewhilelaw24.NodeMany': WHATEVER THE INPUT: true; the input reads as it did. -/
def nodeManySpec : ChangeSpec := { name := "nodeMany", fn := fun _ => fun
  | [d] => { results := [.lit (.bool true)], args := [d] }
  | _ => none }
def nodeManyRow : OpenClaim := { program := "ytainljbkejafcaa", sum := "55be3ba56011cb722a246fb4cc6fde9d047c6899a5d8aa4bcb8d681e43fa4017", func := "erewhile/erewhilelaw24.NodeMany", spec := "nodeMany", inPlace := ["slices.overlaps[erewhile/api.Spot]", "slices.overlaps[uint64]"], unfollowed := true, recurses := true, apart := false }
def NodeManySaid : Prop := nodeManyRow.holds Try.pinned (OpenSpec.ofChange nodeManySpec)

/-- ITS FALSE NEIGHBOUR: 'it returns false'. Refute it at one input. -/
def nodeManyWrong : ChangeSpec := { name := "nodeMany", fn := fun _ => fun
  | [d] => { results := [.lit (.bool false)], args := [d] }
  | _ => none }
def NodeManyWrongFalsely : Prop := nodeManyRow.holds Try.pinned (OpenSpec.ofChange nodeManyWrong)

/-- 'erewhilelaw25.TreeLeaves': WHATEVER THE INPUT: true; the input reads as it did. -/
def treeLeavesSpec : ChangeSpec := { name := "treeLeaves", fn := fun _ => fun
  | [d] => { results := [.lit (.bool true)], args := [d] }
  | _ => none }
def treeLeavesRow : OpenClaim := { program := "ytainljbkejafcaa", sum := "55be3ba56011cb722a246fb4cc6fde9d047c6899a5d8aa4bcb8d681e43fa4017", func := "erewhile/erewhilelaw25.TreeLeaves", spec := "treeLeaves", inPlace := ["slices.overlaps[erewhile/api.Spot]", "slices.overlaps[uint64]"], unfollowed := true, recurses := true, apart := false }
def TreeLeavesSaid : Prop := treeLeavesRow.holds Try.pinned (OpenSpec.ofChange treeLeavesSpec)

/-- ITS FALSE NEIGHBOUR: 'it returns false'. Refute it at one input. -/
def treeLeavesWrong : ChangeSpec := { name := "treeLeaves", fn := fun _ => fun
  | [d] => { results := [.lit (.bool false)], args := [d] }
  | _ => none }
def TreeLeavesWrongFalsely : Prop := treeLeavesRow.holds Try.pinned (OpenSpec.ofChange treeLeavesWrong)

/-- 'erewhilelaw25.TreePlays': WHATEVER THE INPUT: true; the input reads as it did. -/
def treePlaysSpec : ChangeSpec := { name := "treePlays", fn := fun _ => fun
  | [d1, d2] => { results := [.lit (.bool true)], args := [d1, d2] }
  | _ => none }
def treePlaysRow : OpenClaim := { program := "ytainljbkejafcaa", sum := "55be3ba56011cb722a246fb4cc6fde9d047c6899a5d8aa4bcb8d681e43fa4017", func := "erewhile/erewhilelaw25.TreePlays", spec := "treePlays", inPlace := ["slices.overlaps[erewhile/api.Spot]", "slices.overlaps[uint64]"], unfollowed := true, recurses := true, apart := false }
def TreePlaysSaid : Prop := treePlaysRow.holds Try.pinned (OpenSpec.ofChange treePlaysSpec)

/-- ITS FALSE NEIGHBOUR: 'it returns false'. Refute it at one input. -/
def treePlaysWrong : ChangeSpec := { name := "treePlays", fn := fun _ => fun
  | [d1, d2] => { results := [.lit (.bool false)], args := [d1, d2] }
  | _ => none }
def TreePlaysWrongFalsely : Prop := treePlaysRow.holds Try.pinned (OpenSpec.ofChange treePlaysWrong)

/-- 'erewhilelaw25.TreeRanges': WHATEVER THE INPUT: true; the input reads as it did. -/
def treeRangesSpec : ChangeSpec := { name := "treeRanges", fn := fun _ => fun
  | [d1, d2, d3, d4] => { results := [.lit (.bool true)], args := [d1, d2, d3, d4] }
  | _ => none }
def treeRangesRow : OpenClaim := { program := "ytainljbkejafcaa", sum := "55be3ba56011cb722a246fb4cc6fde9d047c6899a5d8aa4bcb8d681e43fa4017", func := "erewhile/erewhilelaw25.TreeRanges", spec := "treeRanges", inPlace := ["slices.overlaps[erewhile/api.Spot]", "slices.overlaps[uint64]"], unfollowed := true, recurses := true, apart := false }
def TreeRangesSaid : Prop := treeRangesRow.holds Try.pinned (OpenSpec.ofChange treeRangesSpec)

/-- ITS FALSE NEIGHBOUR: 'it returns false'. Refute it at one input. -/
def treeRangesWrong : ChangeSpec := { name := "treeRanges", fn := fun _ => fun
  | [d1, d2, d3, d4] => { results := [.lit (.bool false)], args := [d1, d2, d3, d4] }
  | _ => none }
def TreeRangesWrongFalsely : Prop := treeRangesRow.holds Try.pinned (OpenSpec.ofChange treeRangesWrong)

/-- 'erewhilelaw25.TreeTurned': WHATEVER THE INPUT: true; the input reads as it did. -/
def treeTurnedSpec : ChangeSpec := { name := "treeTurned", fn := fun _ => fun
  | [d1, d2, d3] => { results := [.lit (.bool true)], args := [d1, d2, d3] }
  | _ => none }
def treeTurnedRow : OpenClaim := { program := "ytainljbkejafcaa", sum := "55be3ba56011cb722a246fb4cc6fde9d047c6899a5d8aa4bcb8d681e43fa4017", func := "erewhile/erewhilelaw25.TreeTurned", spec := "treeTurned", inPlace := ["slices.overlaps[erewhile/api.Spot]", "slices.overlaps[uint64]"], unfollowed := true, recurses := true, apart := false }
def TreeTurnedSaid : Prop := treeTurnedRow.holds Try.pinned (OpenSpec.ofChange treeTurnedSpec)

/-- ITS FALSE NEIGHBOUR: 'it returns false'. Refute it at one input. -/
def treeTurnedWrong : ChangeSpec := { name := "treeTurned", fn := fun _ => fun
  | [d1, d2, d3] => { results := [.lit (.bool false)], args := [d1, d2, d3] }
  | _ => none }
def TreeTurnedWrongFalsely : Prop := treeTurnedRow.holds Try.pinned (OpenSpec.ofChange treeTurnedWrong)

/-- 'erewhilelaw25.TreeEnds': WHATEVER THE INPUT: true; the input reads as it did. -/
def treeEndsSpec : ChangeSpec := { name := "treeEnds", fn := fun _ => fun
  | [d1, d2] => { results := [.lit (.bool true)], args := [d1, d2] }
  | _ => none }
def treeEndsRow : OpenClaim := { program := "ytainljbkejafcaa", sum := "55be3ba56011cb722a246fb4cc6fde9d047c6899a5d8aa4bcb8d681e43fa4017", func := "erewhile/erewhilelaw25.TreeEnds", spec := "treeEnds", inPlace := ["slices.overlaps[erewhile/api.Spot]", "slices.overlaps[uint64]"], unfollowed := true, recurses := true, apart := false }
def TreeEndsSaid : Prop := treeEndsRow.holds Try.pinned (OpenSpec.ofChange treeEndsSpec)

/-- ITS FALSE NEIGHBOUR: 'it returns false'. Refute it at one input. -/
def treeEndsWrong : ChangeSpec := { name := "treeEnds", fn := fun _ => fun
  | [d1, d2] => { results := [.lit (.bool false)], args := [d1, d2] }
  | _ => none }
def TreeEndsWrongFalsely : Prop := treeEndsRow.holds Try.pinned (OpenSpec.ofChange treeEndsWrong)

/-- 'erewhilelaw25.TreeNone': WHATEVER THE INPUT: true; the input reads as it did. -/
def treeNoneSpec : ChangeSpec := { name := "treeNone", fn := fun _ => fun
  | [d1, d2] => { results := [.lit (.bool true)], args := [d1, d2] }
  | _ => none }
def treeNoneRow : OpenClaim := { program := "ytainljbkejafcaa", sum := "55be3ba56011cb722a246fb4cc6fde9d047c6899a5d8aa4bcb8d681e43fa4017", func := "erewhile/erewhilelaw25.TreeNone", spec := "treeNone", inPlace := ["slices.overlaps[erewhile/api.Spot]", "slices.overlaps[uint64]"], unfollowed := true, recurses := true, apart := false }
def TreeNoneSaid : Prop := treeNoneRow.holds Try.pinned (OpenSpec.ofChange treeNoneSpec)

/-- ITS FALSE NEIGHBOUR: 'it returns false'. Refute it at one input. -/
def treeNoneWrong : ChangeSpec := { name := "treeNone", fn := fun _ => fun
  | [d1, d2] => { results := [.lit (.bool false)], args := [d1, d2] }
  | _ => none }
def TreeNoneWrongFalsely : Prop := treeNoneRow.holds Try.pinned (OpenSpec.ofChange treeNoneWrong)

/-- 'erewhilelaw25.TreeHigh': WHATEVER THE INPUT: true; the input reads as it did. -/
def treeHighSpec : ChangeSpec := { name := "treeHigh", fn := fun _ => fun
  | [d1, d2] => { results := [.lit (.bool true)], args := [d1, d2] }
  | _ => none }
def treeHighRow : OpenClaim := { program := "ytainljbkejafcaa", sum := "55be3ba56011cb722a246fb4cc6fde9d047c6899a5d8aa4bcb8d681e43fa4017", func := "erewhile/erewhilelaw25.TreeHigh", spec := "treeHigh", inPlace := ["slices.overlaps[erewhile/api.Spot]", "slices.overlaps[uint64]"], unfollowed := true, recurses := true, apart := false }
def TreeHighSaid : Prop := treeHighRow.holds Try.pinned (OpenSpec.ofChange treeHighSpec)

/-- ITS FALSE NEIGHBOUR: 'it returns false'. Refute it at one input. -/
def treeHighWrong : ChangeSpec := { name := "treeHigh", fn := fun _ => fun
  | [d1, d2] => { results := [.lit (.bool false)], args := [d1, d2] }
  | _ => none }
def TreeHighWrongFalsely : Prop := treeHighRow.holds Try.pinned (OpenSpec.ofChange treeHighWrong)

/- THE SECOND FORM. 'bulk': how many values and letters a reading holds, each counted each time it is reached (what is shared counts as often as it is met; a slice's spare places count too). A statement '..UptoSaid' is the law's where the arguments, and the package variables that the reading takes, are together of bulk at most 1048576: NARROWER than '..Said'. Prove '..Said' where nothing that the law and all that it calls make is longer than what came in: it says more and counts as full. Else prove '..UptoSaid'. A law counts once. -/
mutual
def uptoBulk {H : Type} : DataW H → Nat
  | .lit (.string bytes) => bytes.length + 1
  | .lit _ => 1
  | .nil => 1
  | .ptr d => uptoBulk d + 1
  | .slice elems spare => uptoBulkAll elems + uptoBulkAll spare + 1
  | .agg parts => uptoBulkAll parts + 1
  | .iface _ d => uptoBulk d + 1
  | .map entries => uptoBulkEntries entries + 1
  | .held _ => 1
def uptoBulkAll {H : Type} : List (DataW H) → Nat
  | [] => 0
  | d :: r => uptoBulk d + uptoBulkAll r
def uptoBulkEntries {H : Type} : List (Lit × DataW H) → Nat
  | [] => 0
  | x :: r => uptoBulkEntry x + uptoBulkEntries r
def uptoBulkEntry {H : Type} : Lit × DataW H → Nat
  | (.string bytes, d) => bytes.length + uptoBulk d + 1
  | (_, d) => uptoBulk d + 1
 end
def uptoSmall : (H : Type) → List (DataW H) → Bool := fun _ ds => decide (uptoBulkAll ds ≤ 1048576)
def OpenSpec.upto (s : _root_.Go.ChangeSpec) : _root_.Go.OpenSpec := { _root_.Go.OpenSpec.ofChange s with cond := some uptoSmall }

/-- 'erewhilelaw24.NodeOrder', WHERE WHAT IT READS IS OF BULK AT MOST 1048576: true; the input reads as it did. -/
def nodeOrderUptoRow : OpenClaim := { program := "ytainljbkejafcaa", sum := "55be3ba56011cb722a246fb4cc6fde9d047c6899a5d8aa4bcb8d681e43fa4017", func := "erewhile/erewhilelaw24.NodeOrder", spec := "nodeOrder", inPlace := ["slices.overlaps[erewhile/api.Spot]", "slices.overlaps[uint64]"], unfollowed := true, recurses := true, apart := false, narrowed := true }
def NodeOrderUptoSaid : Prop := nodeOrderUptoRow.holds Try.pinned (OpenSpec.upto nodeOrderSpec)

/-- 'erewhilelaw24.NodeLeaves', WHERE WHAT IT READS IS OF BULK AT MOST 1048576: true; the input reads as it did. -/
def nodeLeavesUptoRow : OpenClaim := { program := "ytainljbkejafcaa", sum := "55be3ba56011cb722a246fb4cc6fde9d047c6899a5d8aa4bcb8d681e43fa4017", func := "erewhile/erewhilelaw24.NodeLeaves", spec := "nodeLeaves", inPlace := ["slices.overlaps[erewhile/api.Spot]", "slices.overlaps[uint64]"], unfollowed := true, recurses := true, apart := false, narrowed := true }
def NodeLeavesUptoSaid : Prop := nodeLeavesUptoRow.holds Try.pinned (OpenSpec.upto nodeLeavesSpec)

/-- 'erewhilelaw24.NodePlays', WHERE WHAT IT READS IS OF BULK AT MOST 1048576: true; the input reads as it did. -/
def nodePlaysUptoRow : OpenClaim := { program := "ytainljbkejafcaa", sum := "55be3ba56011cb722a246fb4cc6fde9d047c6899a5d8aa4bcb8d681e43fa4017", func := "erewhile/erewhilelaw24.NodePlays", spec := "nodePlays", inPlace := ["slices.overlaps[erewhile/api.Spot]", "slices.overlaps[uint64]"], unfollowed := true, recurses := true, apart := false, narrowed := true }
def NodePlaysUptoSaid : Prop := nodePlaysUptoRow.holds Try.pinned (OpenSpec.upto nodePlaysSpec)

/-- 'erewhilelaw24.NodeStays', WHERE WHAT IT READS IS OF BULK AT MOST 1048576: true; the input reads as it did. -/
def nodeStaysUptoRow : OpenClaim := { program := "ytainljbkejafcaa", sum := "55be3ba56011cb722a246fb4cc6fde9d047c6899a5d8aa4bcb8d681e43fa4017", func := "erewhile/erewhilelaw24.NodeStays", spec := "nodeStays", inPlace := ["slices.overlaps[erewhile/api.Spot]", "slices.overlaps[uint64]"], unfollowed := true, recurses := true, apart := false, narrowed := true }
def NodeStaysUptoSaid : Prop := nodeStaysUptoRow.holds Try.pinned (OpenSpec.upto nodeStaysSpec)

/-- 'erewhilelaw24.NodeFinds', WHERE WHAT IT READS IS OF BULK AT MOST 1048576: true; the input reads as it did. -/
def nodeFindsUptoRow : OpenClaim := { program := "ytainljbkejafcaa", sum := "55be3ba56011cb722a246fb4cc6fde9d047c6899a5d8aa4bcb8d681e43fa4017", func := "erewhile/erewhilelaw24.NodeFinds", spec := "nodeFinds", inPlace := ["slices.overlaps[erewhile/api.Spot]", "slices.overlaps[uint64]"], unfollowed := true, recurses := true, apart := false, narrowed := true }
def NodeFindsUptoSaid : Prop := nodeFindsUptoRow.holds Try.pinned (OpenSpec.upto nodeFindsSpec)

/-- 'erewhilelaw24.NodeRight', WHERE WHAT IT READS IS OF BULK AT MOST 1048576: true; the input reads as it did. -/
def nodeRightUptoRow : OpenClaim := { program := "ytainljbkejafcaa", sum := "55be3ba56011cb722a246fb4cc6fde9d047c6899a5d8aa4bcb8d681e43fa4017", func := "erewhile/erewhilelaw24.NodeRight", spec := "nodeRight", inPlace := ["slices.overlaps[erewhile/api.Spot]", "slices.overlaps[uint64]"], unfollowed := true, recurses := true, apart := false, narrowed := true }
def NodeRightUptoSaid : Prop := nodeRightUptoRow.holds Try.pinned (OpenSpec.upto nodeRightSpec)

/-- 'erewhilelaw24.NodeTwo', WHERE WHAT IT READS IS OF BULK AT MOST 1048576: true; the input reads as it did. -/
def nodeTwoUptoRow : OpenClaim := { program := "ytainljbkejafcaa", sum := "55be3ba56011cb722a246fb4cc6fde9d047c6899a5d8aa4bcb8d681e43fa4017", func := "erewhile/erewhilelaw24.NodeTwo", spec := "nodeTwo", inPlace := ["slices.overlaps[erewhile/api.Spot]", "slices.overlaps[uint64]"], unfollowed := true, recurses := true, apart := false, narrowed := true }
def NodeTwoUptoSaid : Prop := nodeTwoUptoRow.holds Try.pinned (OpenSpec.upto nodeTwoSpec)

/-- 'erewhilelaw24.NodeEmpties', WHERE WHAT IT READS IS OF BULK AT MOST 1048576: true; the input reads as it did. -/
def nodeEmptiesUptoRow : OpenClaim := { program := "ytainljbkejafcaa", sum := "55be3ba56011cb722a246fb4cc6fde9d047c6899a5d8aa4bcb8d681e43fa4017", func := "erewhile/erewhilelaw24.NodeEmpties", spec := "nodeEmpties", inPlace := ["slices.overlaps[erewhile/api.Spot]", "slices.overlaps[uint64]"], unfollowed := true, recurses := true, apart := false, narrowed := true }
def NodeEmptiesUptoSaid : Prop := nodeEmptiesUptoRow.holds Try.pinned (OpenSpec.upto nodeEmptiesSpec)

/-- 'erewhilelaw24.NodeMany', WHERE WHAT IT READS IS OF BULK AT MOST 1048576: true; the input reads as it did. -/
def nodeManyUptoRow : OpenClaim := { program := "ytainljbkejafcaa", sum := "55be3ba56011cb722a246fb4cc6fde9d047c6899a5d8aa4bcb8d681e43fa4017", func := "erewhile/erewhilelaw24.NodeMany", spec := "nodeMany", inPlace := ["slices.overlaps[erewhile/api.Spot]", "slices.overlaps[uint64]"], unfollowed := true, recurses := true, apart := false, narrowed := true }
def NodeManyUptoSaid : Prop := nodeManyUptoRow.holds Try.pinned (OpenSpec.upto nodeManySpec)

/-- 'erewhilelaw25.TreeLeaves', WHERE WHAT IT READS IS OF BULK AT MOST 1048576: true; the input reads as it did. -/
def treeLeavesUptoRow : OpenClaim := { program := "ytainljbkejafcaa", sum := "55be3ba56011cb722a246fb4cc6fde9d047c6899a5d8aa4bcb8d681e43fa4017", func := "erewhile/erewhilelaw25.TreeLeaves", spec := "treeLeaves", inPlace := ["slices.overlaps[erewhile/api.Spot]", "slices.overlaps[uint64]"], unfollowed := true, recurses := true, apart := false, narrowed := true }
def TreeLeavesUptoSaid : Prop := treeLeavesUptoRow.holds Try.pinned (OpenSpec.upto treeLeavesSpec)

/-- 'erewhilelaw25.TreePlays', WHERE WHAT IT READS IS OF BULK AT MOST 1048576: true; the input reads as it did. -/
def treePlaysUptoRow : OpenClaim := { program := "ytainljbkejafcaa", sum := "55be3ba56011cb722a246fb4cc6fde9d047c6899a5d8aa4bcb8d681e43fa4017", func := "erewhile/erewhilelaw25.TreePlays", spec := "treePlays", inPlace := ["slices.overlaps[erewhile/api.Spot]", "slices.overlaps[uint64]"], unfollowed := true, recurses := true, apart := false, narrowed := true }
def TreePlaysUptoSaid : Prop := treePlaysUptoRow.holds Try.pinned (OpenSpec.upto treePlaysSpec)

/-- 'erewhilelaw25.TreeRanges', WHERE WHAT IT READS IS OF BULK AT MOST 1048576: true; the input reads as it did. -/
def treeRangesUptoRow : OpenClaim := { program := "ytainljbkejafcaa", sum := "55be3ba56011cb722a246fb4cc6fde9d047c6899a5d8aa4bcb8d681e43fa4017", func := "erewhile/erewhilelaw25.TreeRanges", spec := "treeRanges", inPlace := ["slices.overlaps[erewhile/api.Spot]", "slices.overlaps[uint64]"], unfollowed := true, recurses := true, apart := false, narrowed := true }
def TreeRangesUptoSaid : Prop := treeRangesUptoRow.holds Try.pinned (OpenSpec.upto treeRangesSpec)

/-- 'erewhilelaw25.TreeTurned', WHERE WHAT IT READS IS OF BULK AT MOST 1048576: true; the input reads as it did. -/
def treeTurnedUptoRow : OpenClaim := { program := "ytainljbkejafcaa", sum := "55be3ba56011cb722a246fb4cc6fde9d047c6899a5d8aa4bcb8d681e43fa4017", func := "erewhile/erewhilelaw25.TreeTurned", spec := "treeTurned", inPlace := ["slices.overlaps[erewhile/api.Spot]", "slices.overlaps[uint64]"], unfollowed := true, recurses := true, apart := false, narrowed := true }
def TreeTurnedUptoSaid : Prop := treeTurnedUptoRow.holds Try.pinned (OpenSpec.upto treeTurnedSpec)

/-- 'erewhilelaw25.TreeEnds', WHERE WHAT IT READS IS OF BULK AT MOST 1048576: true; the input reads as it did. -/
def treeEndsUptoRow : OpenClaim := { program := "ytainljbkejafcaa", sum := "55be3ba56011cb722a246fb4cc6fde9d047c6899a5d8aa4bcb8d681e43fa4017", func := "erewhile/erewhilelaw25.TreeEnds", spec := "treeEnds", inPlace := ["slices.overlaps[erewhile/api.Spot]", "slices.overlaps[uint64]"], unfollowed := true, recurses := true, apart := false, narrowed := true }
def TreeEndsUptoSaid : Prop := treeEndsUptoRow.holds Try.pinned (OpenSpec.upto treeEndsSpec)

/-- 'erewhilelaw25.TreeNone', WHERE WHAT IT READS IS OF BULK AT MOST 1048576: true; the input reads as it did. -/
def treeNoneUptoRow : OpenClaim := { program := "ytainljbkejafcaa", sum := "55be3ba56011cb722a246fb4cc6fde9d047c6899a5d8aa4bcb8d681e43fa4017", func := "erewhile/erewhilelaw25.TreeNone", spec := "treeNone", inPlace := ["slices.overlaps[erewhile/api.Spot]", "slices.overlaps[uint64]"], unfollowed := true, recurses := true, apart := false, narrowed := true }
def TreeNoneUptoSaid : Prop := treeNoneUptoRow.holds Try.pinned (OpenSpec.upto treeNoneSpec)

/-- 'erewhilelaw25.TreeHigh', WHERE WHAT IT READS IS OF BULK AT MOST 1048576: true; the input reads as it did. -/
def treeHighUptoRow : OpenClaim := { program := "ytainljbkejafcaa", sum := "55be3ba56011cb722a246fb4cc6fde9d047c6899a5d8aa4bcb8d681e43fa4017", func := "erewhile/erewhilelaw25.TreeHigh", spec := "treeHigh", inPlace := ["slices.overlaps[erewhile/api.Spot]", "slices.overlaps[uint64]"], unfollowed := true, recurses := true, apart := false, narrowed := true }
def TreeHighUptoSaid : Prop := treeHighUptoRow.holds Try.pinned (OpenSpec.upto treeHighSpec)

end Rows
end Go.Proofs.Ytainljbkejafcaa
