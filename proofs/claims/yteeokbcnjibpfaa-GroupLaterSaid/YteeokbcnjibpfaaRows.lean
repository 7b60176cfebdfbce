/-
  No cell of these rows narrows 'for every input' (looked for: loops, veiled, ifaces, maps, wideKeys, modest, calm, conditions, laid).
  DERIVED. THE GIVEN ROWS OF THIS SEAT. 8 by the template 'for every input the law returns true; each argument reads behind the call as it read before'; 0 by the template 'total and deterministic' (their statements: YteeokbcnjibpfaaTotals.lean).
  GIVEN WITH THE SEED: the statements are not yours to turn. If you find one false, say at which input.
  Laid BY PROGRAM, IN A SANDBOX (cutbox-rows.mjs): the forced cells as the released guide's own fill.sh prints them over the translation 3c579b88da9000c0… (all of the seat's roots in one cut). By AI agents, Wed Nov 11 2026. No macro, syntax, notation, axiom, sorry.
-/
import Derived.Test.YteeokbcnjibpfaaChecked
import GoSem.Claim
import GoSem.ClaimJoined
import GoSem.ClaimMapViews
import Derived.JoinedTies
import Derived.KernelRfl
namespace Go.Proofs.Yteeokbcnjibpfaa
/- THE CELL 'sum', in the pinned program and in every row, IS THE sha256 OF THE DUMP (.gsa) THAT YteeokbcnjibpfaaProg.lean LOADS. Nothing in Lean hashes anything: it is a label: what it is worth is what the hold of that sum in a sandbox is worth. -/
noncomputable def Try.pinned : Pinned := { name := "yteeokbcnjibpfaa", sum := "3c579b88da9000c0ea4dccc11214707470f5e1acd2e34265a6a497ad849f1001", checked := Try.checked }
namespace Rows
def none {H : Type} : Left H := { results := [], args := [] }

/-- 'erewhilelaw44.GroupWhole': WHATEVER THE INPUT: true; the input reads as it did. -/
def groupWholeSpec : ChangeSpec := { name := "groupWhole", fn := fun _ => fun
  | [d1, d2, d3] => { results := [.lit (.bool true)], args := [d1, d2, d3] }
  | _ => none }
def groupWholeRow : OpenClaim := { program := "yteeokbcnjibpfaa", sum := "3c579b88da9000c0ea4dccc11214707470f5e1acd2e34265a6a497ad849f1001", func := "erewhile/erewhilelaw44.GroupWhole", spec := "groupWhole", unfollowed := true, recurses := true, apart := false }
def GroupWholeSaid : Prop := groupWholeRow.holds Try.pinned (OpenSpec.ofChange groupWholeSpec)

/-- ITS FALSE NEIGHBOUR: 'it returns false'. Refute it at one input. -/
def groupWholeWrong : ChangeSpec := { name := "groupWhole", fn := fun _ => fun
  | [d1, d2, d3] => { results := [.lit (.bool false)], args := [d1, d2, d3] }
  | _ => none }
def GroupWholeWrongFalsely : Prop := groupWholeRow.holds Try.pinned (OpenSpec.ofChange groupWholeWrong)

/-- 'erewhilelaw44.GroupWithin': WHATEVER THE INPUT: true; the input reads as it did. -/
def groupWithinSpec : ChangeSpec := { name := "groupWithin", fn := fun _ => fun
  | [d1, d2, d3, d4] => { results := [.lit (.bool true)], args := [d1, d2, d3, d4] }
  | _ => none }
def groupWithinRow : OpenClaim := { program := "yteeokbcnjibpfaa", sum := "3c579b88da9000c0ea4dccc11214707470f5e1acd2e34265a6a497ad849f1001", func := "erewhile/erewhilelaw44.GroupWithin", spec := "groupWithin", unfollowed := true, recurses := true, apart := false }
def GroupWithinSaid : Prop := groupWithinRow.holds Try.pinned (OpenSpec.ofChange groupWithinSpec)

/-- ITS FALSE NEIGHBOUR: 'it returns false'. Refute it at one input. -/
def groupWithinWrong : ChangeSpec := { name := "groupWithin", fn := fun _ => fun
  | [d1, d2, d3, d4] => { results := [.lit (.bool false)], args := [d1, d2, d3, d4] }
  | _ => none }
def GroupWithinWrongFalsely : Prop := groupWithinRow.holds Try.pinned (OpenSpec.ofChange groupWithinWrong)

/-- 'erewhilelaw44.GroupHolds': WHATEVER THE INPUT: true; the input reads as it did. -/
def groupHoldsSpec : ChangeSpec := { name := "groupHolds", fn := fun _ => fun
  | [d1, d2] => { results := [.lit (.bool true)], args := [d1, d2] }
  | _ => none }
def groupHoldsRow : OpenClaim := { program := "yteeokbcnjibpfaa", sum := "3c579b88da9000c0ea4dccc11214707470f5e1acd2e34265a6a497ad849f1001", func := "erewhile/erewhilelaw44.GroupHolds", spec := "groupHolds", unfollowed := true, recurses := true, apart := false }
def GroupHoldsSaid : Prop := groupHoldsRow.holds Try.pinned (OpenSpec.ofChange groupHoldsSpec)

/-- ITS FALSE NEIGHBOUR: 'it returns false'. Refute it at one input. -/
def groupHoldsWrong : ChangeSpec := { name := "groupHolds", fn := fun _ => fun
  | [d1, d2] => { results := [.lit (.bool false)], args := [d1, d2] }
  | _ => none }
def GroupHoldsWrongFalsely : Prop := groupHoldsRow.holds Try.pinned (OpenSpec.ofChange groupHoldsWrong)

/-- 'erewhilelaw44.GroupCuts': WHATEVER THE INPUT: true; the input reads as it did. -/
def groupCutsSpec : ChangeSpec := { name := "groupCuts", fn := fun _ => fun
  | [d1, d2, d3] => { results := [.lit (.bool true)], args := [d1, d2, d3] }
  | _ => none }
def groupCutsRow : OpenClaim := { program := "yteeokbcnjibpfaa", sum := "3c579b88da9000c0ea4dccc11214707470f5e1acd2e34265a6a497ad849f1001", func := "erewhile/erewhilelaw44.GroupCuts", spec := "groupCuts", unfollowed := true, recurses := true, apart := false }
def GroupCutsSaid : Prop := groupCutsRow.holds Try.pinned (OpenSpec.ofChange groupCutsSpec)

/-- ITS FALSE NEIGHBOUR: 'it returns false'. Refute it at one input. -/
def groupCutsWrong : ChangeSpec := { name := "groupCuts", fn := fun _ => fun
  | [d1, d2, d3] => { results := [.lit (.bool false)], args := [d1, d2, d3] }
  | _ => none }
def GroupCutsWrongFalsely : Prop := groupCutsRow.holds Try.pinned (OpenSpec.ofChange groupCutsWrong)

/-- 'erewhilelaw44.GroupPlays': WHATEVER THE INPUT: true; the input reads as it did. -/
def groupPlaysSpec : ChangeSpec := { name := "groupPlays", fn := fun _ => fun
  | [d1, d2] => { results := [.lit (.bool true)], args := [d1, d2] }
  | _ => none }
def groupPlaysRow : OpenClaim := { program := "yteeokbcnjibpfaa", sum := "3c579b88da9000c0ea4dccc11214707470f5e1acd2e34265a6a497ad849f1001", func := "erewhile/erewhilelaw44.GroupPlays", spec := "groupPlays", unfollowed := true, recurses := true, apart := false }
def GroupPlaysSaid : Prop := groupPlaysRow.holds Try.pinned (OpenSpec.ofChange groupPlaysSpec)

/-- ITS FALSE NEIGHBOUR: 'it returns false'. Refute it at one input. -/
def groupPlaysWrong : ChangeSpec := { name := "groupPlays", fn := fun _ => fun
  | [d1, d2] => { results := [.lit (.bool false)], args := [d1, d2] }
  | _ => none }
def GroupPlaysWrongFalsely : Prop := groupPlaysRow.holds Try.pinned (OpenSpec.ofChange groupPlaysWrong)

/-- 'erewhilelaw44.GroupVols': WHATEVER THE INPUT: true; the input reads as it did. -/
def groupVolsSpec : ChangeSpec := { name := "groupVols", fn := fun _ => fun
  | [d1, d2, d3, d4] => { results := [.lit (.bool true)], args := [d1, d2, d3, d4] }
  | _ => none }
def groupVolsRow : OpenClaim := { program := "yteeokbcnjibpfaa", sum := "3c579b88da9000c0ea4dccc11214707470f5e1acd2e34265a6a497ad849f1001", func := "erewhile/erewhilelaw44.GroupVols", spec := "groupVols", unfollowed := true, recurses := true, apart := false }
def GroupVolsSaid : Prop := groupVolsRow.holds Try.pinned (OpenSpec.ofChange groupVolsSpec)

/-- ITS FALSE NEIGHBOUR: 'it returns false'. Refute it at one input. -/
def groupVolsWrong : ChangeSpec := { name := "groupVols", fn := fun _ => fun
  | [d1, d2, d3, d4] => { results := [.lit (.bool false)], args := [d1, d2, d3, d4] }
  | _ => none }
def GroupVolsWrongFalsely : Prop := groupVolsRow.holds Try.pinned (OpenSpec.ofChange groupVolsWrong)

/-- 'erewhilelaw44.GroupBarriers': WHATEVER THE INPUT: true; the input reads as it did. -/
def groupBarriersSpec : ChangeSpec := { name := "groupBarriers", fn := fun _ => fun
  | [d1, d2, d3] => { results := [.lit (.bool true)], args := [d1, d2, d3] }
  | _ => none }
def groupBarriersRow : OpenClaim := { program := "yteeokbcnjibpfaa", sum := "3c579b88da9000c0ea4dccc11214707470f5e1acd2e34265a6a497ad849f1001", func := "erewhile/erewhilelaw44.GroupBarriers", spec := "groupBarriers", unfollowed := true, recurses := true, apart := false }
def GroupBarriersSaid : Prop := groupBarriersRow.holds Try.pinned (OpenSpec.ofChange groupBarriersSpec)

/-- ITS FALSE NEIGHBOUR: 'it returns false'. Refute it at one input. -/
def groupBarriersWrong : ChangeSpec := { name := "groupBarriers", fn := fun _ => fun
  | [d1, d2, d3] => { results := [.lit (.bool false)], args := [d1, d2, d3] }
  | _ => none }
def GroupBarriersWrongFalsely : Prop := groupBarriersRow.holds Try.pinned (OpenSpec.ofChange groupBarriersWrong)

/-- 'erewhilelaw44.GroupLater': WHATEVER THE INPUT: true; the input reads as it did. -/
def groupLaterSpec : ChangeSpec := { name := "groupLater", fn := fun _ => fun
  | [d1, d2, d3, d4] => { results := [.lit (.bool true)], args := [d1, d2, d3, d4] }
  | _ => none }
def groupLaterRow : OpenClaim := { program := "yteeokbcnjibpfaa", sum := "3c579b88da9000c0ea4dccc11214707470f5e1acd2e34265a6a497ad849f1001", func := "erewhile/erewhilelaw44.GroupLater", spec := "groupLater", unfollowed := true, recurses := true, apart := false }
def GroupLaterSaid : Prop := groupLaterRow.holds Try.pinned (OpenSpec.ofChange groupLaterSpec)

/-- ITS FALSE NEIGHBOUR: 'it returns false'. Refute it at one input. -/
def groupLaterWrong : ChangeSpec := { name := "groupLater", fn := fun _ => fun
  | [d1, d2, d3, d4] => { results := [.lit (.bool false)], args := [d1, d2, d3, d4] }
  | _ => none }
def GroupLaterWrongFalsely : Prop := groupLaterRow.holds Try.pinned (OpenSpec.ofChange groupLaterWrong)

/- THE SECOND FORM. 'bulk': how many values and letters a reading holds, each counted each time it is reached (what is shared counts as often as it is met; a slice's spare places count too). A statement '..UptoSaid' is the law's where the arguments, and the package variables that the reading takes, are together of bulk at most 1048576: NARROWER than '..Said'. Prove '..Said' where nothing that the law and all that it calls make is longer than what came in: it says more and counts as full. Else prove '..UptoSaid'. A law counts once. -/
mutual
def uptoBulk {H : Type} : DataW H → Nat
  | .lit (.string bytes) => bytes.length + 1
  | .lit _ => 1
  | .nil => 1
  | .ptr d => uptoBulk d + 1
  | .slice elems spare => uptoBulkAll elems + uptoBulkAll spare + 1
  | .agg parts => uptoBulkAll parts + 1
  | .iface _ d => uptoBulk d + 1
  | .map entries => uptoBulkEntries entries + 1
  | .held _ => 1
def uptoBulkAll {H : Type} : List (DataW H) → Nat
  | [] => 0
  | d :: r => uptoBulk d + uptoBulkAll r
def uptoBulkEntries {H : Type} : List (Lit × DataW H) → Nat
  | [] => 0
  | x :: r => uptoBulkEntry x + uptoBulkEntries r
def uptoBulkEntry {H : Type} : Lit × DataW H → Nat
  | (.string bytes, d) => bytes.length + uptoBulk d + 1
  | (_, d) => uptoBulk d + 1
 end
def uptoSmall : (H : Type) → List (DataW H) → Bool := fun _ ds => decide (uptoBulkAll ds ≤ 1048576)
def OpenSpec.upto (s : _root_.Go.ChangeSpec) : _root_.Go.OpenSpec := { _root_.Go.OpenSpec.ofChange s with cond := some uptoSmall }

/-- 'erewhilelaw44.GroupWhole', WHERE WHAT IT READS IS OF BULK AT MOST 1048576: true; the input reads as it did. -/
def groupWholeUptoRow : OpenClaim := { program := "yteeokbcnjibpfaa", sum := "3c579b88da9000c0ea4dccc11214707470f5e1acd2e34265a6a497ad849f1001", func := "erewhile/erewhilelaw44.GroupWhole", spec := "groupWhole", unfollowed := true, recurses := true, apart := false, narrowed := true }
def GroupWholeUptoSaid : Prop := groupWholeUptoRow.holds Try.pinned (OpenSpec.upto groupWholeSpec)

/-- 'erewhilelaw44.GroupWithin', WHERE WHAT IT READS IS OF BULK AT MOST 1048576: true; the input reads as it did. -/
def groupWithinUptoRow : OpenClaim := { program := "yteeokbcnjibpfaa", sum := "3c579b88da9000c0ea4dccc11214707470f5e1acd2e34265a6a497ad849f1001", func := "erewhile/erewhilelaw44.GroupWithin", spec := "groupWithin", unfollowed := true, recurses := true, apart := false, narrowed := true }
def GroupWithinUptoSaid : Prop := groupWithinUptoRow.holds Try.pinned (OpenSpec.upto groupWithinSpec)

/-- 'erewhilelaw44.GroupHolds', WHERE WHAT IT READS IS OF BULK AT MOST 1048576: true; the input reads as it did. -/
def groupHoldsUptoRow : OpenClaim := { program := "yteeokbcnjibpfaa", sum := "3c579b88da9000c0ea4dccc11214707470f5e1acd2e34265a6a497ad849f1001", func := "erewhile/erewhilelaw44.GroupHolds", spec := "groupHolds", unfollowed := true, recurses := true, apart := false, narrowed := true }
def GroupHoldsUptoSaid : Prop := groupHoldsUptoRow.holds Try.pinned (OpenSpec.upto groupHoldsSpec)

/-- 'erewhilelaw44.GroupCuts', WHERE WHAT IT READS IS OF BULK AT MOST 1048576: true; the input reads as it did. -/
def groupCutsUptoRow : OpenClaim := { program := "yteeokbcnjibpfaa", sum := "3c579b88da9000c0ea4dccc11214707470f5e1acd2e34265a6a497ad849f1001", func := "erewhile/erewhilelaw44.GroupCuts", spec := "groupCuts", unfollowed := true, recurses := true, apart := false, narrowed := true }
def GroupCutsUptoSaid : Prop := groupCutsUptoRow.holds Try.pinned (OpenSpec.upto groupCutsSpec)

/-- 'erewhilelaw44.GroupPlays', WHERE WHAT IT READS IS OF BULK AT MOST 1048576: true; the input reads as it did. -/
def groupPlaysUptoRow : OpenClaim := { program := "yteeokbcnjibpfaa", sum := "3c579b88da9000c0ea4dccc11214707470f5e1acd2e34265a6a497ad849f1001", func := "erewhile/erewhilelaw44.GroupPlays", spec := "groupPlays", unfollowed := true, recurses := true, apart := false, narrowed := true }
def GroupPlaysUptoSaid : Prop := groupPlaysUptoRow.holds Try.pinned (OpenSpec.upto groupPlaysSpec)

/-- 'erewhilelaw44.GroupVols', WHERE WHAT IT READS IS OF BULK AT MOST 1048576: true; the input reads as it did. -/
def groupVolsUptoRow : OpenClaim := { program := "yteeokbcnjibpfaa", sum := "3c579b88da9000c0ea4dccc11214707470f5e1acd2e34265a6a497ad849f1001", func := "erewhile/erewhilelaw44.GroupVols", spec := "groupVols", unfollowed := true, recurses := true, apart := false, narrowed := true }
def GroupVolsUptoSaid : Prop := groupVolsUptoRow.holds Try.pinned (OpenSpec.upto groupVolsSpec)

/-- 'erewhilelaw44.GroupBarriers', WHERE WHAT IT READS IS OF BULK AT MOST 1048576: true; the input reads as it did. -/
def groupBarriersUptoRow : OpenClaim := { program := "yteeokbcnjibpfaa", sum := "3c579b88da9000c0ea4dccc11214707470f5e1acd2e34265a6a497ad849f1001", func := "erewhile/erewhilelaw44.GroupBarriers", spec := "groupBarriers", unfollowed := true, recurses := true, apart := false, narrowed := true }
def GroupBarriersUptoSaid : Prop := groupBarriersUptoRow.holds Try.pinned (OpenSpec.upto groupBarriersSpec)

/-- 'erewhilelaw44.GroupLater', WHERE WHAT IT READS IS OF BULK AT MOST 1048576: true; the input reads as it did. -/
def groupLaterUptoRow : OpenClaim := { program := "yteeokbcnjibpfaa", sum := "3c579b88da9000c0ea4dccc11214707470f5e1acd2e34265a6a497ad849f1001", func := "erewhile/erewhilelaw44.GroupLater", spec := "groupLater", unfollowed := true, recurses := true, apart := false, narrowed := true }
def GroupLaterUptoSaid : Prop := groupLaterUptoRow.holds Try.pinned (OpenSpec.upto groupLaterSpec)

end Rows
end Go.Proofs.Yteeokbcnjibpfaa
