/-
  No cell of these rows narrows 'for every input' (looked for: loops, veiled, ifaces, maps, wideKeys, modest, calm, conditions, laid).
  DERIVED. THE GIVEN ROWS OF THIS SEAT. 8 by the template 'for every input the law returns true; each argument reads behind the call as it read before'; 0 by the template 'total and deterministic' (their statements: YtlackkhkaceblaaTotals.lean).
  GIVEN WITH THE SEED: the statements are not yours to turn. If you find one false, say at which input.
  Laid BY PROGRAM, IN A SANDBOX (cutbox-rows.mjs): the forced cells as the released guide's own fill.sh prints them over the translation a686b7b73e04721a… (all of the seat's roots in one cut). By AI agents, Wed Nov 11 2026. No macro, syntax, notation, axiom, sorry.
-/
import Derived.Test.YtlackkhkaceblaaChecked
import GoSem.Claim
import GoSem.ClaimJoined
import GoSem.ClaimMapViews
import Derived.JoinedTies
import Derived.KernelRfl
namespace Go.Proofs.Ytlackkhkaceblaa
/- THE CELL 'sum', in the pinned program and in every row, IS THE sha256 OF THE DUMP (.gsa) THAT YtlackkhkaceblaaProg.lean LOADS. Nothing in Lean hashes anything: it is a label: what it is worth is what the hold of that sum in a sandbox is worth. -/
noncomputable def Try.pinned : Pinned := { name := "ytlackkhkaceblaa", sum := "a686b7b73e04721a8df398d0fbc57cba7c9fba2f7f558604377aeb84e55f3b4d", checked := Try.checked }
namespace Rows
def none {H : Type} : Left H := { results := [], args := [] }

/-- 'erewhilelaw26.AsofSpans': WHATEVER THE INPUT: true; the input reads as it did. -/
def asofSpansSpec : ChangeSpec := { name := "asofSpans", fn := fun _ => fun
  | [d1, d2, d3, d4] => { results := [.lit (.bool true)], args := [d1, d2, d3, d4] }
  | _ => none }
def asofSpansRow : OpenClaim := { program := "ytlackkhkaceblaa", sum := "a686b7b73e04721a8df398d0fbc57cba7c9fba2f7f558604377aeb84e55f3b4d", func := "erewhile/erewhilelaw26.AsofSpans", spec := "asofSpans", inPlace := ["slices.overlaps[erewhile/api.Spot]", "slices.overlaps[uint64]"], unfollowed := true, recurses := true, apart := false }
def AsofSpansSaid : Prop := asofSpansRow.holds Try.pinned (OpenSpec.ofChange asofSpansSpec)

/-- ITS FALSE NEIGHBOUR: 'it returns false'. Refute it at one input. -/
def asofSpansWrong : ChangeSpec := { name := "asofSpans", fn := fun _ => fun
  | [d1, d2, d3, d4] => { results := [.lit (.bool false)], args := [d1, d2, d3, d4] }
  | _ => none }
def AsofSpansWrongFalsely : Prop := asofSpansRow.holds Try.pinned (OpenSpec.ofChange asofSpansWrong)

/-- 'erewhilelaw26.AsofOther': WHATEVER THE INPUT: true; the input reads as it did. -/
def asofOtherSpec : ChangeSpec := { name := "asofOther", fn := fun _ => fun
  | [d1, d2, d3, d4, d5] => { results := [.lit (.bool true)], args := [d1, d2, d3, d4, d5] }
  | _ => none }
def asofOtherRow : OpenClaim := { program := "ytlackkhkaceblaa", sum := "a686b7b73e04721a8df398d0fbc57cba7c9fba2f7f558604377aeb84e55f3b4d", func := "erewhile/erewhilelaw26.AsofOther", spec := "asofOther", inPlace := ["slices.overlaps[erewhile/api.Spot]", "slices.overlaps[uint64]"], unfollowed := true, recurses := true, apart := false }
def AsofOtherSaid : Prop := asofOtherRow.holds Try.pinned (OpenSpec.ofChange asofOtherSpec)

/-- ITS FALSE NEIGHBOUR: 'it returns false'. Refute it at one input. -/
def asofOtherWrong : ChangeSpec := { name := "asofOther", fn := fun _ => fun
  | [d1, d2, d3, d4, d5] => { results := [.lit (.bool false)], args := [d1, d2, d3, d4, d5] }
  | _ => none }
def AsofOtherWrongFalsely : Prop := asofOtherRow.holds Try.pinned (OpenSpec.ofChange asofOtherWrong)

/-- 'erewhilelaw26.AsofDrops': WHATEVER THE INPUT: true; the input reads as it did. -/
def asofDropsSpec : ChangeSpec := { name := "asofDrops", fn := fun _ => fun
  | [d1, d2, d3] => { results := [.lit (.bool true)], args := [d1, d2, d3] }
  | _ => none }
def asofDropsRow : OpenClaim := { program := "ytlackkhkaceblaa", sum := "a686b7b73e04721a8df398d0fbc57cba7c9fba2f7f558604377aeb84e55f3b4d", func := "erewhile/erewhilelaw26.AsofDrops", spec := "asofDrops", inPlace := ["slices.overlaps[erewhile/api.Spot]", "slices.overlaps[uint64]"], unfollowed := true, recurses := true, apart := false }
def AsofDropsSaid : Prop := asofDropsRow.holds Try.pinned (OpenSpec.ofChange asofDropsSpec)

/-- ITS FALSE NEIGHBOUR: 'it returns false'. Refute it at one input. -/
def asofDropsWrong : ChangeSpec := { name := "asofDrops", fn := fun _ => fun
  | [d1, d2, d3] => { results := [.lit (.bool false)], args := [d1, d2, d3] }
  | _ => none }
def AsofDropsWrongFalsely : Prop := asofDropsRow.holds Try.pinned (OpenSpec.ofChange asofDropsWrong)

/-- 'erewhilelaw26.AsofRange': WHATEVER THE INPUT: true; the input reads as it did. -/
def asofRangeSpec : ChangeSpec := { name := "asofRange", fn := fun _ => fun
  | [d1, d2] => { results := [.lit (.bool true)], args := [d1, d2] }
  | _ => none }
def asofRangeRow : OpenClaim := { program := "ytlackkhkaceblaa", sum := "a686b7b73e04721a8df398d0fbc57cba7c9fba2f7f558604377aeb84e55f3b4d", func := "erewhile/erewhilelaw26.AsofRange", spec := "asofRange", inPlace := ["slices.overlaps[erewhile/api.Spot]", "slices.overlaps[uint64]"], unfollowed := true, recurses := true, apart := false }
def AsofRangeSaid : Prop := asofRangeRow.holds Try.pinned (OpenSpec.ofChange asofRangeSpec)

/-- ITS FALSE NEIGHBOUR: 'it returns false'. Refute it at one input. -/
def asofRangeWrong : ChangeSpec := { name := "asofRange", fn := fun _ => fun
  | [d1, d2] => { results := [.lit (.bool false)], args := [d1, d2] }
  | _ => none }
def AsofRangeWrongFalsely : Prop := asofRangeRow.holds Try.pinned (OpenSpec.ofChange asofRangeWrong)

/-- 'erewhilelaw26.AsofPlays': WHATEVER THE INPUT: true; the input reads as it did. -/
def asofPlaysSpec : ChangeSpec := { name := "asofPlays", fn := fun _ => fun
  | [d1, d2, d3] => { results := [.lit (.bool true)], args := [d1, d2, d3] }
  | _ => none }
def asofPlaysRow : OpenClaim := { program := "ytlackkhkaceblaa", sum := "a686b7b73e04721a8df398d0fbc57cba7c9fba2f7f558604377aeb84e55f3b4d", func := "erewhile/erewhilelaw26.AsofPlays", spec := "asofPlays", inPlace := ["slices.overlaps[erewhile/api.Spot]", "slices.overlaps[uint64]"], unfollowed := true, recurses := true, apart := false }
def AsofPlaysSaid : Prop := asofPlaysRow.holds Try.pinned (OpenSpec.ofChange asofPlaysSpec)

/-- ITS FALSE NEIGHBOUR: 'it returns false'. Refute it at one input. -/
def asofPlaysWrong : ChangeSpec := { name := "asofPlays", fn := fun _ => fun
  | [d1, d2, d3] => { results := [.lit (.bool false)], args := [d1, d2, d3] }
  | _ => none }
def AsofPlaysWrongFalsely : Prop := asofPlaysRow.holds Try.pinned (OpenSpec.ofChange asofPlaysWrong)

/-- 'erewhilelaw26.AsofTree': WHATEVER THE INPUT: true; the input reads as it did. -/
def asofTreeSpec : ChangeSpec := { name := "asofTree", fn := fun _ => fun
  | [d1, d2, d3] => { results := [.lit (.bool true)], args := [d1, d2, d3] }
  | _ => none }
def asofTreeRow : OpenClaim := { program := "ytlackkhkaceblaa", sum := "a686b7b73e04721a8df398d0fbc57cba7c9fba2f7f558604377aeb84e55f3b4d", func := "erewhile/erewhilelaw26.AsofTree", spec := "asofTree", inPlace := ["slices.overlaps[erewhile/api.Spot]", "slices.overlaps[uint64]"], unfollowed := true, recurses := true, apart := false }
def AsofTreeSaid : Prop := asofTreeRow.holds Try.pinned (OpenSpec.ofChange asofTreeSpec)

/-- ITS FALSE NEIGHBOUR: 'it returns false'. Refute it at one input. -/
def asofTreeWrong : ChangeSpec := { name := "asofTree", fn := fun _ => fun
  | [d1, d2, d3] => { results := [.lit (.bool false)], args := [d1, d2, d3] }
  | _ => none }
def AsofTreeWrongFalsely : Prop := asofTreeRow.holds Try.pinned (OpenSpec.ofChange asofTreeWrong)

/-- 'erewhilelaw26.AsofPast': WHATEVER THE INPUT: true; the input reads as it did. -/
def asofPastSpec : ChangeSpec := { name := "asofPast", fn := fun _ => fun
  | [d1, d2, d3, d4] => { results := [.lit (.bool true)], args := [d1, d2, d3, d4] }
  | _ => none }
def asofPastRow : OpenClaim := { program := "ytlackkhkaceblaa", sum := "a686b7b73e04721a8df398d0fbc57cba7c9fba2f7f558604377aeb84e55f3b4d", func := "erewhile/erewhilelaw26.AsofPast", spec := "asofPast", inPlace := ["slices.overlaps[erewhile/api.Spot]", "slices.overlaps[uint64]"], unfollowed := true, recurses := true, apart := false }
def AsofPastSaid : Prop := asofPastRow.holds Try.pinned (OpenSpec.ofChange asofPastSpec)

/-- ITS FALSE NEIGHBOUR: 'it returns false'. Refute it at one input. -/
def asofPastWrong : ChangeSpec := { name := "asofPast", fn := fun _ => fun
  | [d1, d2, d3, d4] => { results := [.lit (.bool false)], args := [d1, d2, d3, d4] }
  | _ => none }
def AsofPastWrongFalsely : Prop := asofPastRow.holds Try.pinned (OpenSpec.ofChange asofPastWrong)

/-- 'erewhilelaw26.AsofNone': WHATEVER THE INPUT: true; the input reads as it did. -/
def asofNoneSpec : ChangeSpec := { name := "asofNone", fn := fun _ => fun
  | [d1, d2] => { results := [.lit (.bool true)], args := [d1, d2] }
  | _ => none }
def asofNoneRow : OpenClaim := { program := "ytlackkhkaceblaa", sum := "a686b7b73e04721a8df398d0fbc57cba7c9fba2f7f558604377aeb84e55f3b4d", func := "erewhile/erewhilelaw26.AsofNone", spec := "asofNone", inPlace := ["slices.overlaps[erewhile/api.Spot]", "slices.overlaps[uint64]"], unfollowed := true, recurses := true, apart := false }
def AsofNoneSaid : Prop := asofNoneRow.holds Try.pinned (OpenSpec.ofChange asofNoneSpec)

/-- ITS FALSE NEIGHBOUR: 'it returns false'. Refute it at one input. -/
def asofNoneWrong : ChangeSpec := { name := "asofNone", fn := fun _ => fun
  | [d1, d2] => { results := [.lit (.bool false)], args := [d1, d2] }
  | _ => none }
def AsofNoneWrongFalsely : Prop := asofNoneRow.holds Try.pinned (OpenSpec.ofChange asofNoneWrong)

/- THE SECOND FORM. 'bulk': how many values and letters a reading holds, each counted each time it is reached (what is shared counts as often as it is met; a slice's spare places count too). A statement '..UptoSaid' is the law's where the arguments, and the package variables that the reading takes, are together of bulk at most 1048576: NARROWER than '..Said'. Prove '..Said' where nothing that the law and all that it calls make is longer than what came in: it says more and counts as full. Else prove '..UptoSaid'. A law counts once. -/
mutual
def uptoBulk {H : Type} : DataW H → Nat
  | .lit (.string bytes) => bytes.length + 1
  | .lit _ => 1
  | .nil => 1
  | .ptr d => uptoBulk d + 1
  | .slice elems spare => uptoBulkAll elems + uptoBulkAll spare + 1
  | .agg parts => uptoBulkAll parts + 1
  | .iface _ d => uptoBulk d + 1
  | .map entries => uptoBulkEntries entries + 1
  | .held _ => 1
def uptoBulkAll {H : Type} : List (DataW H) → Nat
  | [] => 0
  | d :: r => uptoBulk d + uptoBulkAll r
def uptoBulkEntries {H : Type} : List (Lit × DataW H) → Nat
  | [] => 0
  | x :: r => uptoBulkEntry x + uptoBulkEntries r
def uptoBulkEntry {H : Type} : Lit × DataW H → Nat
  | (.string bytes, d) => bytes.length + uptoBulk d + 1
  | (_, d) => uptoBulk d + 1
 end
def uptoSmall : (H : Type) → List (DataW H) → Bool := fun _ ds => decide (uptoBulkAll ds ≤ 1048576)
def OpenSpec.upto (s : _root_.Go.ChangeSpec) : _root_.Go.OpenSpec := { _root_.Go.OpenSpec.ofChange s with cond := some uptoSmall }

/-- 'erewhilelaw26.AsofSpans', WHERE WHAT IT READS IS OF BULK AT MOST 1048576: true; the input reads as it did. -/
def asofSpansUptoRow : OpenClaim := { program := "ytlackkhkaceblaa", sum := "a686b7b73e04721a8df398d0fbc57cba7c9fba2f7f558604377aeb84e55f3b4d", func := "erewhile/erewhilelaw26.AsofSpans", spec := "asofSpans", inPlace := ["slices.overlaps[erewhile/api.Spot]", "slices.overlaps[uint64]"], unfollowed := true, recurses := true, apart := false, narrowed := true }
def AsofSpansUptoSaid : Prop := asofSpansUptoRow.holds Try.pinned (OpenSpec.upto asofSpansSpec)

/-- 'erewhilelaw26.AsofOther', WHERE WHAT IT READS IS OF BULK AT MOST 1048576: true; the input reads as it did. -/
def asofOtherUptoRow : OpenClaim := { program := "ytlackkhkaceblaa", sum := "a686b7b73e04721a8df398d0fbc57cba7c9fba2f7f558604377aeb84e55f3b4d", func := "erewhile/erewhilelaw26.AsofOther", spec := "asofOther", inPlace := ["slices.overlaps[erewhile/api.Spot]", "slices.overlaps[uint64]"], unfollowed := true, recurses := true, apart := false, narrowed := true }
def AsofOtherUptoSaid : Prop := asofOtherUptoRow.holds Try.pinned (OpenSpec.upto asofOtherSpec)

/-- 'erewhilelaw26.AsofDrops', WHERE WHAT IT READS IS OF BULK AT MOST 1048576: true; the input reads as it did. -/
def asofDropsUptoRow : OpenClaim := { program := "ytlackkhkaceblaa", sum := "a686b7b73e04721a8df398d0fbc57cba7c9fba2f7f558604377aeb84e55f3b4d", func := "erewhile/erewhilelaw26.AsofDrops", spec := "asofDrops", inPlace := ["slices.overlaps[erewhile/api.Spot]", "slices.overlaps[uint64]"], unfollowed := true, recurses := true, apart := false, narrowed := true }
def AsofDropsUptoSaid : Prop := asofDropsUptoRow.holds Try.pinned (OpenSpec.upto asofDropsSpec)

/-- 'erewhilelaw26.AsofRange', WHERE WHAT IT READS IS OF BULK AT MOST 1048576: true; the input reads as it did. -/
def asofRangeUptoRow : OpenClaim := { program := "ytlackkhkaceblaa", sum := "a686b7b73e04721a8df398d0fbc57cba7c9fba2f7f558604377aeb84e55f3b4d", func := "erewhile/erewhilelaw26.AsofRange", spec := "asofRange", inPlace := ["slices.overlaps[erewhile/api.Spot]", "slices.overlaps[uint64]"], unfollowed := true, recurses := true, apart := false, narrowed := true }
def AsofRangeUptoSaid : Prop := asofRangeUptoRow.holds Try.pinned (OpenSpec.upto asofRangeSpec)

/-- 'erewhilelaw26.AsofPlays', WHERE WHAT IT READS IS OF BULK AT MOST 1048576: true; the input reads as it did. -/
def asofPlaysUptoRow : OpenClaim := { program := "ytlackkhkaceblaa", sum := "a686b7b73e04721a8df398d0fbc57cba7c9fba2f7f558604377aeb84e55f3b4d", func := "erewhile/erewhilelaw26.AsofPlays", spec := "asofPlays", inPlace := ["slices.overlaps[erewhile/api.Spot]", "slices.overlaps[uint64]"], unfollowed := true, recurses := true, apart := false, narrowed := true }
def AsofPlaysUptoSaid : Prop := asofPlaysUptoRow.holds Try.pinned (OpenSpec.upto asofPlaysSpec)

/-- 'erewhilelaw26.AsofTree', WHERE WHAT IT READS IS OF BULK AT MOST 1048576: true; the input reads as it did. -/
def asofTreeUptoRow : OpenClaim := { program := "ytlackkhkaceblaa", sum := "a686b7b73e04721a8df398d0fbc57cba7c9fba2f7f558604377aeb84e55f3b4d", func := "erewhile/erewhilelaw26.AsofTree", spec := "asofTree", inPlace := ["slices.overlaps[erewhile/api.Spot]", "slices.overlaps[uint64]"], unfollowed := true, recurses := true, apart := false, narrowed := true }
def AsofTreeUptoSaid : Prop := asofTreeUptoRow.holds Try.pinned (OpenSpec.upto asofTreeSpec)

/-- 'erewhilelaw26.AsofPast', WHERE WHAT IT READS IS OF BULK AT MOST 1048576: true; the input reads as it did. -/
def asofPastUptoRow : OpenClaim := { program := "ytlackkhkaceblaa", sum := "a686b7b73e04721a8df398d0fbc57cba7c9fba2f7f558604377aeb84e55f3b4d", func := "erewhile/erewhilelaw26.AsofPast", spec := "asofPast", inPlace := ["slices.overlaps[erewhile/api.Spot]", "slices.overlaps[uint64]"], unfollowed := true, recurses := true, apart := false, narrowed := true }
def AsofPastUptoSaid : Prop := asofPastUptoRow.holds Try.pinned (OpenSpec.upto asofPastSpec)

/-- 'erewhilelaw26.AsofNone', WHERE WHAT IT READS IS OF BULK AT MOST 1048576: true; the input reads as it did. -/
def asofNoneUptoRow : OpenClaim := { program := "ytlackkhkaceblaa", sum := "a686b7b73e04721a8df398d0fbc57cba7c9fba2f7f558604377aeb84e55f3b4d", func := "erewhile/erewhilelaw26.AsofNone", spec := "asofNone", inPlace := ["slices.overlaps[erewhile/api.Spot]", "slices.overlaps[uint64]"], unfollowed := true, recurses := true, apart := false, narrowed := true }
def AsofNoneUptoSaid : Prop := asofNoneUptoRow.holds Try.pinned (OpenSpec.upto asofNoneSpec)

end Rows
end Go.Proofs.Ytlackkhkaceblaa
