/-
  No cell of these rows narrows 'for every input' (looked for: loops, veiled, ifaces, maps, wideKeys, modest, calm, conditions, laid).
  DERIVED. THE GIVEN ROWS OF THIS SEAT. 9 by the template 'for every input the law returns true; each argument reads behind the call as it read before'; 0 by the template 'total and deterministic' (their statements: YtpmcohpffbhknaaTotals.lean).
  GIVEN WITH THE SEED: the statements are not yours to turn. If you find one false, say at which input.
  Laid BY PROGRAM, IN A SANDBOX (cutbox-rows.mjs): the forced cells as the released guide's own fill.sh prints them over the translation 16924868e9209463… (all of the seat's roots in one cut). By AI agents, Wed Nov 11 2026. No macro, syntax, notation, axiom, sorry.
-/
import Derived.Test.YtpmcohpffbhknaaChecked
import GoSem.Claim
import GoSem.ClaimJoined
import GoSem.ClaimMapViews
import Derived.JoinedTies
import Derived.KernelRfl
namespace Go.Proofs.Ytpmcohpffbhknaa
/- THE CELL 'sum', in the pinned program and in every row, IS THE sha256 OF THE DUMP (.gsa) THAT YtpmcohpffbhknaaProg.lean LOADS. Nothing in Lean hashes anything: it is a label: what it is worth is what the hold of that sum in a sandbox is worth. -/
noncomputable def Try.pinned : Pinned := { name := "ytpmcohpffbhknaa", sum := "16924868e9209463b9003005a4ada03b9bd71a920ef5be1a280c463ffb905fc4", checked := Try.checked }
namespace Rows
def none {H : Type} : Left H := { results := [], args := [] }

/-- 'erewhilelaw14.SegmentNext': WHATEVER THE INPUT: true; the input reads as it did. -/
def segmentNextSpec : ChangeSpec := { name := "segmentNext", fn := fun _ => fun
  | [d1, d2, d3] => { results := [.lit (.bool true)], args := [d1, d2, d3] }
  | _ => none }
def segmentNextRow : OpenClaim := { program := "ytpmcohpffbhknaa", sum := "16924868e9209463b9003005a4ada03b9bd71a920ef5be1a280c463ffb905fc4", func := "erewhile/erewhilelaw14.SegmentNext", spec := "segmentNext", apart := false }
def SegmentNextSaid : Prop := segmentNextRow.holds Try.pinned (OpenSpec.ofChange segmentNextSpec)

/-- ITS FALSE NEIGHBOUR: 'it returns false'. Refute it at one input. -/
def segmentNextWrong : ChangeSpec := { name := "segmentNext", fn := fun _ => fun
  | [d1, d2, d3] => { results := [.lit (.bool false)], args := [d1, d2, d3] }
  | _ => none }
def SegmentNextWrongFalsely : Prop := segmentNextRow.holds Try.pinned (OpenSpec.ofChange segmentNextWrong)

/-- 'erewhilelaw14.SegmentMost': WHATEVER THE INPUT: true; the input reads as it did. -/
def segmentMostSpec : ChangeSpec := { name := "segmentMost", fn := fun _ => fun
  | [d] => { results := [.lit (.bool true)], args := [d] }
  | _ => none }
def segmentMostRow : OpenClaim := { program := "ytpmcohpffbhknaa", sum := "16924868e9209463b9003005a4ada03b9bd71a920ef5be1a280c463ffb905fc4", func := "erewhile/erewhilelaw14.SegmentMost", spec := "segmentMost", apart := false }
def SegmentMostSaid : Prop := segmentMostRow.holds Try.pinned (OpenSpec.ofChange segmentMostSpec)

/-- ITS FALSE NEIGHBOUR: 'it returns false'. Refute it at one input. -/
def segmentMostWrong : ChangeSpec := { name := "segmentMost", fn := fun _ => fun
  | [d] => { results := [.lit (.bool false)], args := [d] }
  | _ => none }
def SegmentMostWrongFalsely : Prop := segmentMostRow.holds Try.pinned (OpenSpec.ofChange segmentMostWrong)

/-- 'erewhilelaw14.SegmentApart': WHATEVER THE INPUT: true; the input reads as it did. -/
def segmentApartSpec : ChangeSpec := { name := "segmentApart", fn := fun _ => fun
  | [d1, d2, d3] => { results := [.lit (.bool true)], args := [d1, d2, d3] }
  | _ => none }
def segmentApartRow : OpenClaim := { program := "ytpmcohpffbhknaa", sum := "16924868e9209463b9003005a4ada03b9bd71a920ef5be1a280c463ffb905fc4", func := "erewhile/erewhilelaw14.SegmentApart", spec := "segmentApart", apart := false }
def SegmentApartSaid : Prop := segmentApartRow.holds Try.pinned (OpenSpec.ofChange segmentApartSpec)

/-- ITS FALSE NEIGHBOUR: 'it returns false'. Refute it at one input. -/
def segmentApartWrong : ChangeSpec := { name := "segmentApart", fn := fun _ => fun
  | [d1, d2, d3] => { results := [.lit (.bool false)], args := [d1, d2, d3] }
  | _ => none }
def SegmentApartWrongFalsely : Prop := segmentApartRow.holds Try.pinned (OpenSpec.ofChange segmentApartWrong)

/-- 'erewhilelaw14.SegmentGrows': WHATEVER THE INPUT: true; the input reads as it did. -/
def segmentGrowsSpec : ChangeSpec := { name := "segmentGrows", fn := fun _ => fun
  | [d1, d2, d3, d4] => { results := [.lit (.bool true)], args := [d1, d2, d3, d4] }
  | _ => none }
def segmentGrowsRow : OpenClaim := { program := "ytpmcohpffbhknaa", sum := "16924868e9209463b9003005a4ada03b9bd71a920ef5be1a280c463ffb905fc4", func := "erewhile/erewhilelaw14.SegmentGrows", spec := "segmentGrows", apart := false }
def SegmentGrowsSaid : Prop := segmentGrowsRow.holds Try.pinned (OpenSpec.ofChange segmentGrowsSpec)

/-- ITS FALSE NEIGHBOUR: 'it returns false'. Refute it at one input. -/
def segmentGrowsWrong : ChangeSpec := { name := "segmentGrows", fn := fun _ => fun
  | [d1, d2, d3, d4] => { results := [.lit (.bool false)], args := [d1, d2, d3, d4] }
  | _ => none }
def SegmentGrowsWrongFalsely : Prop := segmentGrowsRow.holds Try.pinned (OpenSpec.ofChange segmentGrowsWrong)

/-- 'erewhilelaw14.SegmentHolds': WHATEVER THE INPUT: true; the input reads as it did. -/
def segmentHoldsSpec : ChangeSpec := { name := "segmentHolds", fn := fun _ => fun
  | [d] => { results := [.lit (.bool true)], args := [d] }
  | _ => none }
def segmentHoldsRow : OpenClaim := { program := "ytpmcohpffbhknaa", sum := "16924868e9209463b9003005a4ada03b9bd71a920ef5be1a280c463ffb905fc4", func := "erewhile/erewhilelaw14.SegmentHolds", spec := "segmentHolds", apart := false }
def SegmentHoldsSaid : Prop := segmentHoldsRow.holds Try.pinned (OpenSpec.ofChange segmentHoldsSpec)

/-- ITS FALSE NEIGHBOUR: 'it returns false'. Refute it at one input. -/
def segmentHoldsWrong : ChangeSpec := { name := "segmentHolds", fn := fun _ => fun
  | [d] => { results := [.lit (.bool false)], args := [d] }
  | _ => none }
def SegmentHoldsWrongFalsely : Prop := segmentHoldsRow.holds Try.pinned (OpenSpec.ofChange segmentHoldsWrong)

/-- 'erewhilelaw14.SegmentMay': WHATEVER THE INPUT: true; the input reads as it did. -/
def segmentMaySpec : ChangeSpec := { name := "segmentMay", fn := fun _ => fun
  | [d1, d2, d3] => { results := [.lit (.bool true)], args := [d1, d2, d3] }
  | _ => none }
def segmentMayRow : OpenClaim := { program := "ytpmcohpffbhknaa", sum := "16924868e9209463b9003005a4ada03b9bd71a920ef5be1a280c463ffb905fc4", func := "erewhile/erewhilelaw14.SegmentMay", spec := "segmentMay", apart := false }
def SegmentMaySaid : Prop := segmentMayRow.holds Try.pinned (OpenSpec.ofChange segmentMaySpec)

/-- ITS FALSE NEIGHBOUR: 'it returns false'. Refute it at one input. -/
def segmentMayWrong : ChangeSpec := { name := "segmentMay", fn := fun _ => fun
  | [d1, d2, d3] => { results := [.lit (.bool false)], args := [d1, d2, d3] }
  | _ => none }
def SegmentMayWrongFalsely : Prop := segmentMayRow.holds Try.pinned (OpenSpec.ofChange segmentMayWrong)

/-- 'erewhilelaw14.SegmentLies': WHATEVER THE INPUT: true; the input reads as it did. -/
def segmentLiesSpec : ChangeSpec := { name := "segmentLies", fn := fun _ => fun
  | [d1, d2, d3] => { results := [.lit (.bool true)], args := [d1, d2, d3] }
  | _ => none }
def segmentLiesRow : OpenClaim := { program := "ytpmcohpffbhknaa", sum := "16924868e9209463b9003005a4ada03b9bd71a920ef5be1a280c463ffb905fc4", func := "erewhile/erewhilelaw14.SegmentLies", spec := "segmentLies", apart := false }
def SegmentLiesSaid : Prop := segmentLiesRow.holds Try.pinned (OpenSpec.ofChange segmentLiesSpec)

/-- ITS FALSE NEIGHBOUR: 'it returns false'. Refute it at one input. -/
def segmentLiesWrong : ChangeSpec := { name := "segmentLies", fn := fun _ => fun
  | [d1, d2, d3] => { results := [.lit (.bool false)], args := [d1, d2, d3] }
  | _ => none }
def SegmentLiesWrongFalsely : Prop := segmentLiesRow.holds Try.pinned (OpenSpec.ofChange segmentLiesWrong)

/-- 'erewhilelaw14.SegmentBack': WHATEVER THE INPUT: true; the input reads as it did. -/
def segmentBackSpec : ChangeSpec := { name := "segmentBack", fn := fun _ => fun
  | [d1, d2, d3] => { results := [.lit (.bool true)], args := [d1, d2, d3] }
  | _ => none }
def segmentBackRow : OpenClaim := { program := "ytpmcohpffbhknaa", sum := "16924868e9209463b9003005a4ada03b9bd71a920ef5be1a280c463ffb905fc4", func := "erewhile/erewhilelaw14.SegmentBack", spec := "segmentBack", apart := false }
def SegmentBackSaid : Prop := segmentBackRow.holds Try.pinned (OpenSpec.ofChange segmentBackSpec)

/-- ITS FALSE NEIGHBOUR: 'it returns false'. Refute it at one input. -/
def segmentBackWrong : ChangeSpec := { name := "segmentBack", fn := fun _ => fun
  | [d1, d2, d3] => { results := [.lit (.bool false)], args := [d1, d2, d3] }
  | _ => none }
def SegmentBackWrongFalsely : Prop := segmentBackRow.holds Try.pinned (OpenSpec.ofChange segmentBackWrong)

/-- 'erewhilelaw14.SegmentFull': WHATEVER THE INPUT: true; the input reads as it did. -/
def segmentFullSpec : ChangeSpec := { name := "segmentFull", fn := fun _ => fun
  | [d] => { results := [.lit (.bool true)], args := [d] }
  | _ => none }
def segmentFullRow : OpenClaim := { program := "ytpmcohpffbhknaa", sum := "16924868e9209463b9003005a4ada03b9bd71a920ef5be1a280c463ffb905fc4", func := "erewhile/erewhilelaw14.SegmentFull", spec := "segmentFull", apart := false }
def SegmentFullSaid : Prop := segmentFullRow.holds Try.pinned (OpenSpec.ofChange segmentFullSpec)

/-- ITS FALSE NEIGHBOUR: 'it returns false'. Refute it at one input. -/
def segmentFullWrong : ChangeSpec := { name := "segmentFull", fn := fun _ => fun
  | [d] => { results := [.lit (.bool false)], args := [d] }
  | _ => none }
def SegmentFullWrongFalsely : Prop := segmentFullRow.holds Try.pinned (OpenSpec.ofChange segmentFullWrong)

/- THE SECOND FORM. 'bulk': how many values and letters a reading holds, each counted each time it is reached (what is shared counts as often as it is met; a slice's spare places count too). A statement '..UptoSaid' is the law's where the arguments, and the package variables that the reading takes, are together of bulk at most 1048576: NARROWER than '..Said'. Prove '..Said' where nothing that the law and all that it calls make is longer than what came in: it says more and counts as full. Else prove '..UptoSaid'. A law counts once. -/
mutual
def uptoBulk {H : Type} : DataW H → Nat
  | .lit (.string bytes) => bytes.length + 1
  | .lit _ => 1
  | .nil => 1
  | .ptr d => uptoBulk d + 1
  | .slice elems spare => uptoBulkAll elems + uptoBulkAll spare + 1
  | .agg parts => uptoBulkAll parts + 1
  | .iface _ d => uptoBulk d + 1
  | .map entries => uptoBulkEntries entries + 1
  | .held _ => 1
def uptoBulkAll {H : Type} : List (DataW H) → Nat
  | [] => 0
  | d :: r => uptoBulk d + uptoBulkAll r
def uptoBulkEntries {H : Type} : List (Lit × DataW H) → Nat
  | [] => 0
  | x :: r => uptoBulkEntry x + uptoBulkEntries r
def uptoBulkEntry {H : Type} : Lit × DataW H → Nat
  | (.string bytes, d) => bytes.length + uptoBulk d + 1
  | (_, d) => uptoBulk d + 1
 end
def uptoSmall : (H : Type) → List (DataW H) → Bool := fun _ ds => decide (uptoBulkAll ds ≤ 1048576)
def OpenSpec.upto (s : _root_.Go.ChangeSpec) : _root_.Go.OpenSpec := { _root_.Go.OpenSpec.ofChange s with cond := some uptoSmall }

/-- 'erewhilelaw14.SegmentNext', WHERE WHAT IT READS IS OF BULK AT MOST 1048576: true; the input reads as it did. -/
def segmentNextUptoRow : OpenClaim := { program := "ytpmcohpffbhknaa", sum := "16924868e9209463b9003005a4ada03b9bd71a920ef5be1a280c463ffb905fc4", func := "erewhile/erewhilelaw14.SegmentNext", spec := "segmentNext", apart := false, narrowed := true }
def SegmentNextUptoSaid : Prop := segmentNextUptoRow.holds Try.pinned (OpenSpec.upto segmentNextSpec)

/-- 'erewhilelaw14.SegmentMost', WHERE WHAT IT READS IS OF BULK AT MOST 1048576: true; the input reads as it did. -/
def segmentMostUptoRow : OpenClaim := { program := "ytpmcohpffbhknaa", sum := "16924868e9209463b9003005a4ada03b9bd71a920ef5be1a280c463ffb905fc4", func := "erewhile/erewhilelaw14.SegmentMost", spec := "segmentMost", apart := false, narrowed := true }
def SegmentMostUptoSaid : Prop := segmentMostUptoRow.holds Try.pinned (OpenSpec.upto segmentMostSpec)

/-- 'erewhilelaw14.SegmentApart', WHERE WHAT IT READS IS OF BULK AT MOST 1048576: true; the input reads as it did. -/
def segmentApartUptoRow : OpenClaim := { program := "ytpmcohpffbhknaa", sum := "16924868e9209463b9003005a4ada03b9bd71a920ef5be1a280c463ffb905fc4", func := "erewhile/erewhilelaw14.SegmentApart", spec := "segmentApart", apart := false, narrowed := true }
def SegmentApartUptoSaid : Prop := segmentApartUptoRow.holds Try.pinned (OpenSpec.upto segmentApartSpec)

/-- 'erewhilelaw14.SegmentGrows', WHERE WHAT IT READS IS OF BULK AT MOST 1048576: true; the input reads as it did. -/
def segmentGrowsUptoRow : OpenClaim := { program := "ytpmcohpffbhknaa", sum := "16924868e9209463b9003005a4ada03b9bd71a920ef5be1a280c463ffb905fc4", func := "erewhile/erewhilelaw14.SegmentGrows", spec := "segmentGrows", apart := false, narrowed := true }
def SegmentGrowsUptoSaid : Prop := segmentGrowsUptoRow.holds Try.pinned (OpenSpec.upto segmentGrowsSpec)

/-- 'erewhilelaw14.SegmentHolds', WHERE WHAT IT READS IS OF BULK AT MOST 1048576: true; the input reads as it did. -/
def segmentHoldsUptoRow : OpenClaim := { program := "ytpmcohpffbhknaa", sum := "16924868e9209463b9003005a4ada03b9bd71a920ef5be1a280c463ffb905fc4", func := "erewhile/erewhilelaw14.SegmentHolds", spec := "segmentHolds", apart := false, narrowed := true }
def SegmentHoldsUptoSaid : Prop := segmentHoldsUptoRow.holds Try.pinned (OpenSpec.upto segmentHoldsSpec)

/-- 'erewhilelaw14.SegmentMay', WHERE WHAT IT READS IS OF BULK AT MOST 1048576: true; the input reads as it did. -/
def segmentMayUptoRow : OpenClaim := { program := "ytpmcohpffbhknaa", sum := "16924868e9209463b9003005a4ada03b9bd71a920ef5be1a280c463ffb905fc4", func := "erewhile/erewhilelaw14.SegmentMay", spec := "segmentMay", apart := false, narrowed := true }
def SegmentMayUptoSaid : Prop := segmentMayUptoRow.holds Try.pinned (OpenSpec.upto segmentMaySpec)

/-- 'erewhilelaw14.SegmentLies', WHERE WHAT IT READS IS OF BULK AT MOST 1048576: true; the input reads as it did. -/
def segmentLiesUptoRow : OpenClaim := { program := "ytpmcohpffbhknaa", sum := "16924868e9209463b9003005a4ada03b9bd71a920ef5be1a280c463ffb905fc4", func := "erewhile/erewhilelaw14.SegmentLies", spec := "segmentLies", apart := false, narrowed := true }
def SegmentLiesUptoSaid : Prop := segmentLiesUptoRow.holds Try.pinned (OpenSpec.upto segmentLiesSpec)

/-- 'erewhilelaw14.SegmentBack', WHERE WHAT IT READS IS OF BULK AT MOST 1048576: true; the input reads as it did. -/
def segmentBackUptoRow : OpenClaim := { program := "ytpmcohpffbhknaa", sum := "16924868e9209463b9003005a4ada03b9bd71a920ef5be1a280c463ffb905fc4", func := "erewhile/erewhilelaw14.SegmentBack", spec := "segmentBack", apart := false, narrowed := true }
def SegmentBackUptoSaid : Prop := segmentBackUptoRow.holds Try.pinned (OpenSpec.upto segmentBackSpec)

/-- 'erewhilelaw14.SegmentFull', WHERE WHAT IT READS IS OF BULK AT MOST 1048576: true; the input reads as it did. -/
def segmentFullUptoRow : OpenClaim := { program := "ytpmcohpffbhknaa", sum := "16924868e9209463b9003005a4ada03b9bd71a920ef5be1a280c463ffb905fc4", func := "erewhile/erewhilelaw14.SegmentFull", spec := "segmentFull", apart := false, narrowed := true }
def SegmentFullUptoSaid : Prop := segmentFullUptoRow.holds Try.pinned (OpenSpec.upto segmentFullSpec)

end Rows
end Go.Proofs.Ytpmcohpffbhknaa
