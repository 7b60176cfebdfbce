/-
  No cell of these rows narrows 'for every input' (looked for: loops, veiled, ifaces, maps, wideKeys, modest, calm, conditions, laid).
  DERIVED. THE GIVEN ROWS OF THIS SEAT. 8 by the template 'for every input the law returns true; each argument reads behind the call as it read before'; 0 by the template 'total and deterministic' (their statements: YtcflobbgnicncaaTotals.lean).
  GIVEN WITH THE SEED: the statements are not yours to turn. If you find one false, say at which input.
  Laid BY PROGRAM, IN A SANDBOX (cutbox-rows.mjs): the forced cells as the released guide's own fill.sh prints them over the translation a4e7bcd2e276056a… (all of the seat's roots in one cut). By AI agents, Wed Nov 11 2026. No macro, syntax, notation, axiom, sorry.
-/
import Derived.Test.YtcflobbgnicncaaChecked
import GoSem.Claim
import GoSem.ClaimJoined
import GoSem.ClaimMapViews
import Derived.JoinedTies
import Derived.KernelRfl
namespace Go.Proofs.Ytcflobbgnicncaa
/- THE CELL 'sum', in the pinned program and in every row, IS THE sha256 OF THE DUMP (.gsa) THAT YtcflobbgnicncaaProg.lean LOADS. Nothing in Lean hashes anything: it is a label: what it is worth is what the hold of that sum in a sandbox is worth. -/
noncomputable def Try.pinned : Pinned := { name := "ytcflobbgnicncaa", sum := "a4e7bcd2e276056a1b35471b4687f3890e8d7cebaf6623d3f63f141ce7722265", checked := Try.checked }
namespace Rows
def none {H : Type} : Left H := { results := [], args := [] }

/-- 'erewhilelaw19.LedgerPlays': WHATEVER THE INPUT: true; the input reads as it did. -/
def ledgerPlaysSpec : ChangeSpec := { name := "ledgerPlays", fn := fun _ => fun
  | [d1, d2, d3] => { results := [.lit (.bool true)], args := [d1, d2, d3] }
  | _ => none }
def ledgerPlaysRow : OpenClaim := { program := "ytcflobbgnicncaa", sum := "a4e7bcd2e276056a1b35471b4687f3890e8d7cebaf6623d3f63f141ce7722265", func := "erewhile/erewhilelaw19.LedgerPlays", spec := "ledgerPlays", apart := false }
def LedgerPlaysSaid : Prop := ledgerPlaysRow.holds Try.pinned (OpenSpec.ofChange ledgerPlaysSpec)

/-- ITS FALSE NEIGHBOUR: 'it returns false'. Refute it at one input. -/
def ledgerPlaysWrong : ChangeSpec := { name := "ledgerPlays", fn := fun _ => fun
  | [d1, d2, d3] => { results := [.lit (.bool false)], args := [d1, d2, d3] }
  | _ => none }
def LedgerPlaysWrongFalsely : Prop := ledgerPlaysRow.holds Try.pinned (OpenSpec.ofChange ledgerPlaysWrong)

/-- 'erewhilelaw19.LedgerBack': WHATEVER THE INPUT: true; the input reads as it did. -/
def ledgerBackSpec : ChangeSpec := { name := "ledgerBack", fn := fun _ => fun
  | [d1, d2, d3, d4] => { results := [.lit (.bool true)], args := [d1, d2, d3, d4] }
  | _ => none }
def ledgerBackRow : OpenClaim := { program := "ytcflobbgnicncaa", sum := "a4e7bcd2e276056a1b35471b4687f3890e8d7cebaf6623d3f63f141ce7722265", func := "erewhile/erewhilelaw19.LedgerBack", spec := "ledgerBack", apart := false }
def LedgerBackSaid : Prop := ledgerBackRow.holds Try.pinned (OpenSpec.ofChange ledgerBackSpec)

/-- ITS FALSE NEIGHBOUR: 'it returns false'. Refute it at one input. -/
def ledgerBackWrong : ChangeSpec := { name := "ledgerBack", fn := fun _ => fun
  | [d1, d2, d3, d4] => { results := [.lit (.bool false)], args := [d1, d2, d3, d4] }
  | _ => none }
def LedgerBackWrongFalsely : Prop := ledgerBackRow.holds Try.pinned (OpenSpec.ofChange ledgerBackWrong)

/-- 'erewhilelaw19.LedgerParts': WHATEVER THE INPUT: true; the input reads as it did. -/
def ledgerPartsSpec : ChangeSpec := { name := "ledgerParts", fn := fun _ => fun
  | [d1, d2, d3, d4] => { results := [.lit (.bool true)], args := [d1, d2, d3, d4] }
  | _ => none }
def ledgerPartsRow : OpenClaim := { program := "ytcflobbgnicncaa", sum := "a4e7bcd2e276056a1b35471b4687f3890e8d7cebaf6623d3f63f141ce7722265", func := "erewhile/erewhilelaw19.LedgerParts", spec := "ledgerParts", apart := false }
def LedgerPartsSaid : Prop := ledgerPartsRow.holds Try.pinned (OpenSpec.ofChange ledgerPartsSpec)

/-- ITS FALSE NEIGHBOUR: 'it returns false'. Refute it at one input. -/
def ledgerPartsWrong : ChangeSpec := { name := "ledgerParts", fn := fun _ => fun
  | [d1, d2, d3, d4] => { results := [.lit (.bool false)], args := [d1, d2, d3, d4] }
  | _ => none }
def LedgerPartsWrongFalsely : Prop := ledgerPartsRow.holds Try.pinned (OpenSpec.ofChange ledgerPartsWrong)

/-- 'erewhilelaw19.LedgerFull': WHATEVER THE INPUT: true; the input reads as it did. -/
def ledgerFullSpec : ChangeSpec := { name := "ledgerFull", fn := fun _ => fun
  | [d1, d2] => { results := [.lit (.bool true)], args := [d1, d2] }
  | _ => none }
def ledgerFullRow : OpenClaim := { program := "ytcflobbgnicncaa", sum := "a4e7bcd2e276056a1b35471b4687f3890e8d7cebaf6623d3f63f141ce7722265", func := "erewhile/erewhilelaw19.LedgerFull", spec := "ledgerFull", apart := false }
def LedgerFullSaid : Prop := ledgerFullRow.holds Try.pinned (OpenSpec.ofChange ledgerFullSpec)

/-- ITS FALSE NEIGHBOUR: 'it returns false'. Refute it at one input. -/
def ledgerFullWrong : ChangeSpec := { name := "ledgerFull", fn := fun _ => fun
  | [d1, d2] => { results := [.lit (.bool false)], args := [d1, d2] }
  | _ => none }
def LedgerFullWrongFalsely : Prop := ledgerFullRow.holds Try.pinned (OpenSpec.ofChange ledgerFullWrong)

/-- 'erewhilelaw19.LedgerNone': WHATEVER THE INPUT: true; the input reads as it did. -/
def ledgerNoneSpec : ChangeSpec := { name := "ledgerNone", fn := fun _ => fun
  | [d] => { results := [.lit (.bool true)], args := [d] }
  | _ => none }
def ledgerNoneRow : OpenClaim := { program := "ytcflobbgnicncaa", sum := "a4e7bcd2e276056a1b35471b4687f3890e8d7cebaf6623d3f63f141ce7722265", func := "erewhile/erewhilelaw19.LedgerNone", spec := "ledgerNone", apart := false }
def LedgerNoneSaid : Prop := ledgerNoneRow.holds Try.pinned (OpenSpec.ofChange ledgerNoneSpec)

/-- ITS FALSE NEIGHBOUR: 'it returns false'. Refute it at one input. -/
def ledgerNoneWrong : ChangeSpec := { name := "ledgerNone", fn := fun _ => fun
  | [d] => { results := [.lit (.bool false)], args := [d] }
  | _ => none }
def LedgerNoneWrongFalsely : Prop := ledgerNoneRow.holds Try.pinned (OpenSpec.ofChange ledgerNoneWrong)

/-- 'erewhilelaw19.LedgerTwo': WHATEVER THE INPUT: true; the input reads as it did. -/
def ledgerTwoSpec : ChangeSpec := { name := "ledgerTwo", fn := fun _ => fun
  | [d1, d2, d3, d4] => { results := [.lit (.bool true)], args := [d1, d2, d3, d4] }
  | _ => none }
def ledgerTwoRow : OpenClaim := { program := "ytcflobbgnicncaa", sum := "a4e7bcd2e276056a1b35471b4687f3890e8d7cebaf6623d3f63f141ce7722265", func := "erewhile/erewhilelaw19.LedgerTwo", spec := "ledgerTwo", apart := false }
def LedgerTwoSaid : Prop := ledgerTwoRow.holds Try.pinned (OpenSpec.ofChange ledgerTwoSpec)

/-- ITS FALSE NEIGHBOUR: 'it returns false'. Refute it at one input. -/
def ledgerTwoWrong : ChangeSpec := { name := "ledgerTwo", fn := fun _ => fun
  | [d1, d2, d3, d4] => { results := [.lit (.bool false)], args := [d1, d2, d3, d4] }
  | _ => none }
def LedgerTwoWrongFalsely : Prop := ledgerTwoRow.holds Try.pinned (OpenSpec.ofChange ledgerTwoWrong)

/-- 'erewhilelaw19.LedgerOrder': WHATEVER THE INPUT: true; the input reads as it did. -/
def ledgerOrderSpec : ChangeSpec := { name := "ledgerOrder", fn := fun _ => fun
  | [d1, d2, d3, d4] => { results := [.lit (.bool true)], args := [d1, d2, d3, d4] }
  | _ => none }
def ledgerOrderRow : OpenClaim := { program := "ytcflobbgnicncaa", sum := "a4e7bcd2e276056a1b35471b4687f3890e8d7cebaf6623d3f63f141ce7722265", func := "erewhile/erewhilelaw19.LedgerOrder", spec := "ledgerOrder", apart := false }
def LedgerOrderSaid : Prop := ledgerOrderRow.holds Try.pinned (OpenSpec.ofChange ledgerOrderSpec)

/-- ITS FALSE NEIGHBOUR: 'it returns false'. Refute it at one input. -/
def ledgerOrderWrong : ChangeSpec := { name := "ledgerOrder", fn := fun _ => fun
  | [d1, d2, d3, d4] => { results := [.lit (.bool false)], args := [d1, d2, d3, d4] }
  | _ => none }
def LedgerOrderWrongFalsely : Prop := ledgerOrderRow.holds Try.pinned (OpenSpec.ofChange ledgerOrderWrong)

/-- 'erewhilelaw19.LedgerMap': WHATEVER THE INPUT: true; the input reads as it did. -/
def ledgerMapSpec : ChangeSpec := { name := "ledgerMap", fn := fun _ => fun
  | [d1, d2, d3] => { results := [.lit (.bool true)], args := [d1, d2, d3] }
  | _ => none }
def ledgerMapRow : OpenClaim := { program := "ytcflobbgnicncaa", sum := "a4e7bcd2e276056a1b35471b4687f3890e8d7cebaf6623d3f63f141ce7722265", func := "erewhile/erewhilelaw19.LedgerMap", spec := "ledgerMap", apart := false }
def LedgerMapSaid : Prop := ledgerMapRow.holds Try.pinned (OpenSpec.ofChange ledgerMapSpec)

/-- ITS FALSE NEIGHBOUR: 'it returns false'. Refute it at one input. -/
def ledgerMapWrong : ChangeSpec := { name := "ledgerMap", fn := fun _ => fun
  | [d1, d2, d3] => { results := [.lit (.bool false)], args := [d1, d2, d3] }
  | _ => none }
def LedgerMapWrongFalsely : Prop := ledgerMapRow.holds Try.pinned (OpenSpec.ofChange ledgerMapWrong)

/- THE SECOND FORM. 'bulk': how many values and letters a reading holds, each counted each time it is reached (what is shared counts as often as it is met; a slice's spare places count too). A statement '..UptoSaid' is the law's where the arguments, and the package variables that the reading takes, are together of bulk at most 1048576: NARROWER than '..Said'. Prove '..Said' where nothing that the law and all that it calls make is longer than what came in: it says more and counts as full. Else prove '..UptoSaid'. A law counts once. -/
mutual
def uptoBulk {H : Type} : DataW H → Nat
  | .lit (.string bytes) => bytes.length + 1
  | .lit _ => 1
  | .nil => 1
  | .ptr d => uptoBulk d + 1
  | .slice elems spare => uptoBulkAll elems + uptoBulkAll spare + 1
  | .agg parts => uptoBulkAll parts + 1
  | .iface _ d => uptoBulk d + 1
  | .map entries => uptoBulkEntries entries + 1
  | .held _ => 1
def uptoBulkAll {H : Type} : List (DataW H) → Nat
  | [] => 0
  | d :: r => uptoBulk d + uptoBulkAll r
def uptoBulkEntries {H : Type} : List (Lit × DataW H) → Nat
  | [] => 0
  | x :: r => uptoBulkEntry x + uptoBulkEntries r
def uptoBulkEntry {H : Type} : Lit × DataW H → Nat
  | (.string bytes, d) => bytes.length + uptoBulk d + 1
  | (_, d) => uptoBulk d + 1
 end
def uptoSmall : (H : Type) → List (DataW H) → Bool := fun _ ds => decide (uptoBulkAll ds ≤ 1048576)
def OpenSpec.upto (s : _root_.Go.ChangeSpec) : _root_.Go.OpenSpec := { _root_.Go.OpenSpec.ofChange s with cond := some uptoSmall }

/-- 'erewhilelaw19.LedgerPlays', WHERE WHAT IT READS IS OF BULK AT MOST 1048576: true; the input reads as it did. -/
def ledgerPlaysUptoRow : OpenClaim := { program := "ytcflobbgnicncaa", sum := "a4e7bcd2e276056a1b35471b4687f3890e8d7cebaf6623d3f63f141ce7722265", func := "erewhile/erewhilelaw19.LedgerPlays", spec := "ledgerPlays", apart := false, narrowed := true }
def LedgerPlaysUptoSaid : Prop := ledgerPlaysUptoRow.holds Try.pinned (OpenSpec.upto ledgerPlaysSpec)

/-- 'erewhilelaw19.LedgerBack', WHERE WHAT IT READS IS OF BULK AT MOST 1048576: true; the input reads as it did. -/
def ledgerBackUptoRow : OpenClaim := { program := "ytcflobbgnicncaa", sum := "a4e7bcd2e276056a1b35471b4687f3890e8d7cebaf6623d3f63f141ce7722265", func := "erewhile/erewhilelaw19.LedgerBack", spec := "ledgerBack", apart := false, narrowed := true }
def LedgerBackUptoSaid : Prop := ledgerBackUptoRow.holds Try.pinned (OpenSpec.upto ledgerBackSpec)

/-- 'erewhilelaw19.LedgerParts', WHERE WHAT IT READS IS OF BULK AT MOST 1048576: true; the input reads as it did. -/
def ledgerPartsUptoRow : OpenClaim := { program := "ytcflobbgnicncaa", sum := "a4e7bcd2e276056a1b35471b4687f3890e8d7cebaf6623d3f63f141ce7722265", func := "erewhile/erewhilelaw19.LedgerParts", spec := "ledgerParts", apart := false, narrowed := true }
def LedgerPartsUptoSaid : Prop := ledgerPartsUptoRow.holds Try.pinned (OpenSpec.upto ledgerPartsSpec)

/-- 'erewhilelaw19.LedgerFull', WHERE WHAT IT READS IS OF BULK AT MOST 1048576: true; the input reads as it did. -/
def ledgerFullUptoRow : OpenClaim := { program := "ytcflobbgnicncaa", sum := "a4e7bcd2e276056a1b35471b4687f3890e8d7cebaf6623d3f63f141ce7722265", func := "erewhile/erewhilelaw19.LedgerFull", spec := "ledgerFull", apart := false, narrowed := true }
def LedgerFullUptoSaid : Prop := ledgerFullUptoRow.holds Try.pinned (OpenSpec.upto ledgerFullSpec)

/-- 'erewhilelaw19.LedgerNone', WHERE WHAT IT READS IS OF BULK AT MOST 1048576: true; the input reads as it did. -/
def ledgerNoneUptoRow : OpenClaim := { program := "ytcflobbgnicncaa", sum := "a4e7bcd2e276056a1b35471b4687f3890e8d7cebaf6623d3f63f141ce7722265", func := "erewhile/erewhilelaw19.LedgerNone", spec := "ledgerNone", apart := false, narrowed := true }
def LedgerNoneUptoSaid : Prop := ledgerNoneUptoRow.holds Try.pinned (OpenSpec.upto ledgerNoneSpec)

/-- 'erewhilelaw19.LedgerTwo', WHERE WHAT IT READS IS OF BULK AT MOST 1048576: true; the input reads as it did. -/
def ledgerTwoUptoRow : OpenClaim := { program := "ytcflobbgnicncaa", sum := "a4e7bcd2e276056a1b35471b4687f3890e8d7cebaf6623d3f63f141ce7722265", func := "erewhile/erewhilelaw19.LedgerTwo", spec := "ledgerTwo", apart := false, narrowed := true }
def LedgerTwoUptoSaid : Prop := ledgerTwoUptoRow.holds Try.pinned (OpenSpec.upto ledgerTwoSpec)

/-- 'erewhilelaw19.LedgerOrder', WHERE WHAT IT READS IS OF BULK AT MOST 1048576: true; the input reads as it did. -/
def ledgerOrderUptoRow : OpenClaim := { program := "ytcflobbgnicncaa", sum := "a4e7bcd2e276056a1b35471b4687f3890e8d7cebaf6623d3f63f141ce7722265", func := "erewhile/erewhilelaw19.LedgerOrder", spec := "ledgerOrder", apart := false, narrowed := true }
def LedgerOrderUptoSaid : Prop := ledgerOrderUptoRow.holds Try.pinned (OpenSpec.upto ledgerOrderSpec)

/-- 'erewhilelaw19.LedgerMap', WHERE WHAT IT READS IS OF BULK AT MOST 1048576: true; the input reads as it did. -/
def ledgerMapUptoRow : OpenClaim := { program := "ytcflobbgnicncaa", sum := "a4e7bcd2e276056a1b35471b4687f3890e8d7cebaf6623d3f63f141ce7722265", func := "erewhile/erewhilelaw19.LedgerMap", spec := "ledgerMap", apart := false, narrowed := true }
def LedgerMapUptoSaid : Prop := ledgerMapUptoRow.holds Try.pinned (OpenSpec.upto ledgerMapSpec)

end Rows
end Go.Proofs.Ytcflobbgnicncaa
