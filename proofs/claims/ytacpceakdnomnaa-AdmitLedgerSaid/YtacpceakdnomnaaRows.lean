/-
  No cell of these rows narrows 'for every input' (looked for: loops, veiled, ifaces, maps, wideKeys, modest, calm, conditions, laid).
  DERIVED. THE GIVEN ROWS OF THIS SEAT. 9 by the template 'for every input the law returns true; each argument reads behind the call as it read before'; 0 by the template 'total and deterministic' (their statements: YtacpceakdnomnaaTotals.lean).
  GIVEN WITH THE SEED: the statements are not yours to turn. If you find one false, say at which input.
  Laid BY PROGRAM, IN A SANDBOX (cutbox-rows.mjs): the forced cells as the released guide's own fill.sh prints them over the translation e3c900031f6aafd3… (all of the seat's roots in one cut). By AI agents, Wed Nov 11 2026. No macro, syntax, notation, axiom, sorry.
-/
import Derived.Test.YtacpceakdnomnaaChecked
import GoSem.Claim
import GoSem.ClaimJoined
import GoSem.ClaimMapViews
import Derived.JoinedTies
import Derived.KernelRfl
namespace Go.Proofs.Ytacpceakdnomnaa
/- THE CELL 'sum', in the pinned program and in every row, IS THE sha256 OF THE DUMP (.gsa) THAT YtacpceakdnomnaaProg.lean LOADS. Nothing in Lean hashes anything: it is a label: what it is worth is what the hold of that sum in a sandbox is worth. -/
noncomputable def Try.pinned : Pinned := { name := "ytacpceakdnomnaa", sum := "e3c900031f6aafd36c54235219df6a86c05b84b2eb6561ec1fcb228e90ef74d7", checked := Try.checked }
namespace Rows
def none {H : Type} : Left H := { results := [], args := [] }

/-- 'erewhilelaw20.AdmitNow': WHATEVER THE INPUT: true; the input reads as it did. -/
def admitNowSpec : ChangeSpec := { name := "admitNow", fn := fun _ => fun
  | [d1, d2] => { results := [.lit (.bool true)], args := [d1, d2] }
  | _ => none }
def admitNowRow : OpenClaim := { program := "ytacpceakdnomnaa", sum := "e3c900031f6aafd36c54235219df6a86c05b84b2eb6561ec1fcb228e90ef74d7", func := "erewhile/erewhilelaw20.AdmitNow", spec := "admitNow", apart := false }
def AdmitNowSaid : Prop := admitNowRow.holds Try.pinned (OpenSpec.ofChange admitNowSpec)

/-- ITS FALSE NEIGHBOUR: 'it returns false'. Refute it at one input. -/
def admitNowWrong : ChangeSpec := { name := "admitNow", fn := fun _ => fun
  | [d1, d2] => { results := [.lit (.bool false)], args := [d1, d2] }
  | _ => none }
def AdmitNowWrongFalsely : Prop := admitNowRow.holds Try.pinned (OpenSpec.ofChange admitNowWrong)

/-- 'erewhilelaw20.AdmitWhen': WHATEVER THE INPUT: true; the input reads as it did. -/
def admitWhenSpec : ChangeSpec := { name := "admitWhen", fn := fun _ => fun
  | [d1, d2, d3, d4] => { results := [.lit (.bool true)], args := [d1, d2, d3, d4] }
  | _ => none }
def admitWhenRow : OpenClaim := { program := "ytacpceakdnomnaa", sum := "e3c900031f6aafd36c54235219df6a86c05b84b2eb6561ec1fcb228e90ef74d7", func := "erewhile/erewhilelaw20.AdmitWhen", spec := "admitWhen", apart := false }
def AdmitWhenSaid : Prop := admitWhenRow.holds Try.pinned (OpenSpec.ofChange admitWhenSpec)

/-- ITS FALSE NEIGHBOUR: 'it returns false'. Refute it at one input. -/
def admitWhenWrong : ChangeSpec := { name := "admitWhen", fn := fun _ => fun
  | [d1, d2, d3, d4] => { results := [.lit (.bool false)], args := [d1, d2, d3, d4] }
  | _ => none }
def AdmitWhenWrongFalsely : Prop := admitWhenRow.holds Try.pinned (OpenSpec.ofChange admitWhenWrong)

/-- 'erewhilelaw20.AdmitPlan': WHATEVER THE INPUT: true; the input reads as it did. -/
def admitPlanSpec : ChangeSpec := { name := "admitPlan", fn := fun _ => fun
  | [d1, d2, d3] => { results := [.lit (.bool true)], args := [d1, d2, d3] }
  | _ => none }
def admitPlanRow : OpenClaim := { program := "ytacpceakdnomnaa", sum := "e3c900031f6aafd36c54235219df6a86c05b84b2eb6561ec1fcb228e90ef74d7", func := "erewhile/erewhilelaw20.AdmitPlan", spec := "admitPlan", apart := false }
def AdmitPlanSaid : Prop := admitPlanRow.holds Try.pinned (OpenSpec.ofChange admitPlanSpec)

/-- ITS FALSE NEIGHBOUR: 'it returns false'. Refute it at one input. -/
def admitPlanWrong : ChangeSpec := { name := "admitPlan", fn := fun _ => fun
  | [d1, d2, d3] => { results := [.lit (.bool false)], args := [d1, d2, d3] }
  | _ => none }
def AdmitPlanWrongFalsely : Prop := admitPlanRow.holds Try.pinned (OpenSpec.ofChange admitPlanWrong)

/-- 'erewhilelaw20.AdmitLess': WHATEVER THE INPUT: true; the input reads as it did. -/
def admitLessSpec : ChangeSpec := { name := "admitLess", fn := fun _ => fun
  | [d1, d2, d3, d4, d5] => { results := [.lit (.bool true)], args := [d1, d2, d3, d4, d5] }
  | _ => none }
def admitLessRow : OpenClaim := { program := "ytacpceakdnomnaa", sum := "e3c900031f6aafd36c54235219df6a86c05b84b2eb6561ec1fcb228e90ef74d7", func := "erewhile/erewhilelaw20.AdmitLess", spec := "admitLess", apart := false }
def AdmitLessSaid : Prop := admitLessRow.holds Try.pinned (OpenSpec.ofChange admitLessSpec)

/-- ITS FALSE NEIGHBOUR: 'it returns false'. Refute it at one input. -/
def admitLessWrong : ChangeSpec := { name := "admitLess", fn := fun _ => fun
  | [d1, d2, d3, d4, d5] => { results := [.lit (.bool false)], args := [d1, d2, d3, d4, d5] }
  | _ => none }
def AdmitLessWrongFalsely : Prop := admitLessRow.holds Try.pinned (OpenSpec.ofChange admitLessWrong)

/-- 'erewhilelaw20.AdmitKept': WHATEVER THE INPUT: true; the input reads as it did. -/
def admitKeptSpec : ChangeSpec := { name := "admitKept", fn := fun _ => fun
  | [d1, d2, d3, d4, d5, d6] => { results := [.lit (.bool true)], args := [d1, d2, d3, d4, d5, d6] }
  | _ => none }
def admitKeptRow : OpenClaim := { program := "ytacpceakdnomnaa", sum := "e3c900031f6aafd36c54235219df6a86c05b84b2eb6561ec1fcb228e90ef74d7", func := "erewhile/erewhilelaw20.AdmitKept", spec := "admitKept", apart := false }
def AdmitKeptSaid : Prop := admitKeptRow.holds Try.pinned (OpenSpec.ofChange admitKeptSpec)

/-- ITS FALSE NEIGHBOUR: 'it returns false'. Refute it at one input. -/
def admitKeptWrong : ChangeSpec := { name := "admitKept", fn := fun _ => fun
  | [d1, d2, d3, d4, d5, d6] => { results := [.lit (.bool false)], args := [d1, d2, d3, d4, d5, d6] }
  | _ => none }
def AdmitKeptWrongFalsely : Prop := admitKeptRow.holds Try.pinned (OpenSpec.ofChange admitKeptWrong)

/-- 'erewhilelaw20.AdmitRows': WHATEVER THE INPUT: true; the input reads as it did. -/
def admitRowsSpec : ChangeSpec := { name := "admitRows", fn := fun _ => fun
  | [d1, d2, d3] => { results := [.lit (.bool true)], args := [d1, d2, d3] }
  | _ => none }
def admitRowsRow : OpenClaim := { program := "ytacpceakdnomnaa", sum := "e3c900031f6aafd36c54235219df6a86c05b84b2eb6561ec1fcb228e90ef74d7", func := "erewhile/erewhilelaw20.AdmitRows", spec := "admitRows", apart := false }
def AdmitRowsSaid : Prop := admitRowsRow.holds Try.pinned (OpenSpec.ofChange admitRowsSpec)

/-- ITS FALSE NEIGHBOUR: 'it returns false'. Refute it at one input. -/
def admitRowsWrong : ChangeSpec := { name := "admitRows", fn := fun _ => fun
  | [d1, d2, d3] => { results := [.lit (.bool false)], args := [d1, d2, d3] }
  | _ => none }
def AdmitRowsWrongFalsely : Prop := admitRowsRow.holds Try.pinned (OpenSpec.ofChange admitRowsWrong)

/-- 'erewhilelaw20.AdmitFar': WHATEVER THE INPUT: true; the input reads as it did. -/
def admitFarSpec : ChangeSpec := { name := "admitFar", fn := fun _ => fun
  | [d1, d2] => { results := [.lit (.bool true)], args := [d1, d2] }
  | _ => none }
def admitFarRow : OpenClaim := { program := "ytacpceakdnomnaa", sum := "e3c900031f6aafd36c54235219df6a86c05b84b2eb6561ec1fcb228e90ef74d7", func := "erewhile/erewhilelaw20.AdmitFar", spec := "admitFar", apart := false }
def AdmitFarSaid : Prop := admitFarRow.holds Try.pinned (OpenSpec.ofChange admitFarSpec)

/-- ITS FALSE NEIGHBOUR: 'it returns false'. Refute it at one input. -/
def admitFarWrong : ChangeSpec := { name := "admitFar", fn := fun _ => fun
  | [d1, d2] => { results := [.lit (.bool false)], args := [d1, d2] }
  | _ => none }
def AdmitFarWrongFalsely : Prop := admitFarRow.holds Try.pinned (OpenSpec.ofChange admitFarWrong)

/-- 'erewhilelaw20.AdmitPlans': WHATEVER THE INPUT: true; the input reads as it did. -/
def admitPlansSpec : ChangeSpec := { name := "admitPlans", fn := fun _ => fun
  | [d1, d2] => { results := [.lit (.bool true)], args := [d1, d2] }
  | _ => none }
def admitPlansRow : OpenClaim := { program := "ytacpceakdnomnaa", sum := "e3c900031f6aafd36c54235219df6a86c05b84b2eb6561ec1fcb228e90ef74d7", func := "erewhile/erewhilelaw20.AdmitPlans", spec := "admitPlans", apart := false }
def AdmitPlansSaid : Prop := admitPlansRow.holds Try.pinned (OpenSpec.ofChange admitPlansSpec)

/-- ITS FALSE NEIGHBOUR: 'it returns false'. Refute it at one input. -/
def admitPlansWrong : ChangeSpec := { name := "admitPlans", fn := fun _ => fun
  | [d1, d2] => { results := [.lit (.bool false)], args := [d1, d2] }
  | _ => none }
def AdmitPlansWrongFalsely : Prop := admitPlansRow.holds Try.pinned (OpenSpec.ofChange admitPlansWrong)

/-- 'erewhilelaw20.AdmitLedger': WHATEVER THE INPUT: true; the input reads as it did. -/
def admitLedgerSpec : ChangeSpec := { name := "admitLedger", fn := fun _ => fun
  | [d1, d2, d3, d4] => { results := [.lit (.bool true)], args := [d1, d2, d3, d4] }
  | _ => none }
def admitLedgerRow : OpenClaim := { program := "ytacpceakdnomnaa", sum := "e3c900031f6aafd36c54235219df6a86c05b84b2eb6561ec1fcb228e90ef74d7", func := "erewhile/erewhilelaw20.AdmitLedger", spec := "admitLedger", apart := false }
def AdmitLedgerSaid : Prop := admitLedgerRow.holds Try.pinned (OpenSpec.ofChange admitLedgerSpec)

/-- ITS FALSE NEIGHBOUR: 'it returns false'. Refute it at one input. -/
def admitLedgerWrong : ChangeSpec := { name := "admitLedger", fn := fun _ => fun
  | [d1, d2, d3, d4] => { results := [.lit (.bool false)], args := [d1, d2, d3, d4] }
  | _ => none }
def AdmitLedgerWrongFalsely : Prop := admitLedgerRow.holds Try.pinned (OpenSpec.ofChange admitLedgerWrong)

/- THE SECOND FORM. 'bulk': how many values and letters a reading holds, each counted each time it is reached (what is shared counts as often as it is met; a slice's spare places count too). A statement '..UptoSaid' is the law's where the arguments, and the package variables that the reading takes, are together of bulk at most 1048576: NARROWER than '..Said'. Prove '..Said' where nothing that the law and all that it calls make is longer than what came in: it says more and counts as full. Else prove '..UptoSaid'. A law counts once. -/
mutual
def uptoBulk {H : Type} : DataW H → Nat
  | .lit (.string bytes) => bytes.length + 1
  | .lit _ => 1
  | .nil => 1
  | .ptr d => uptoBulk d + 1
  | .slice elems spare => uptoBulkAll elems + uptoBulkAll spare + 1
  | .agg parts => uptoBulkAll parts + 1
  | .iface _ d => uptoBulk d + 1
  | .map entries => uptoBulkEntries entries + 1
  | .held _ => 1
def uptoBulkAll {H : Type} : List (DataW H) → Nat
  | [] => 0
  | d :: r => uptoBulk d + uptoBulkAll r
def uptoBulkEntries {H : Type} : List (Lit × DataW H) → Nat
  | [] => 0
  | x :: r => uptoBulkEntry x + uptoBulkEntries r
def uptoBulkEntry {H : Type} : Lit × DataW H → Nat
  | (.string bytes, d) => bytes.length + uptoBulk d + 1
  | (_, d) => uptoBulk d + 1
 end
def uptoSmall : (H : Type) → List (DataW H) → Bool := fun _ ds => decide (uptoBulkAll ds ≤ 1048576)
def OpenSpec.upto (s : _root_.Go.ChangeSpec) : _root_.Go.OpenSpec := { _root_.Go.OpenSpec.ofChange s with cond := some uptoSmall }

/-- 'erewhilelaw20.AdmitNow', WHERE WHAT IT READS IS OF BULK AT MOST 1048576: true; the input reads as it did. -/
def admitNowUptoRow : OpenClaim := { program := "ytacpceakdnomnaa", sum := "e3c900031f6aafd36c54235219df6a86c05b84b2eb6561ec1fcb228e90ef74d7", func := "erewhile/erewhilelaw20.AdmitNow", spec := "admitNow", apart := false, narrowed := true }
def AdmitNowUptoSaid : Prop := admitNowUptoRow.holds Try.pinned (OpenSpec.upto admitNowSpec)

/-- 'erewhilelaw20.AdmitWhen', WHERE WHAT IT READS IS OF BULK AT MOST 1048576: true; the input reads as it did. -/
def admitWhenUptoRow : OpenClaim := { program := "ytacpceakdnomnaa", sum := "e3c900031f6aafd36c54235219df6a86c05b84b2eb6561ec1fcb228e90ef74d7", func := "erewhile/erewhilelaw20.AdmitWhen", spec := "admitWhen", apart := false, narrowed := true }
def AdmitWhenUptoSaid : Prop := admitWhenUptoRow.holds Try.pinned (OpenSpec.upto admitWhenSpec)

/-- 'erewhilelaw20.AdmitPlan', WHERE WHAT IT READS IS OF BULK AT MOST 1048576: true; the input reads as it did. -/
def admitPlanUptoRow : OpenClaim := { program := "ytacpceakdnomnaa", sum := "e3c900031f6aafd36c54235219df6a86c05b84b2eb6561ec1fcb228e90ef74d7", func := "erewhile/erewhilelaw20.AdmitPlan", spec := "admitPlan", apart := false, narrowed := true }
def AdmitPlanUptoSaid : Prop := admitPlanUptoRow.holds Try.pinned (OpenSpec.upto admitPlanSpec)

/-- 'erewhilelaw20.AdmitLess', WHERE WHAT IT READS IS OF BULK AT MOST 1048576: true; the input reads as it did. -/
def admitLessUptoRow : OpenClaim := { program := "ytacpceakdnomnaa", sum := "e3c900031f6aafd36c54235219df6a86c05b84b2eb6561ec1fcb228e90ef74d7", func := "erewhile/erewhilelaw20.AdmitLess", spec := "admitLess", apart := false, narrowed := true }
def AdmitLessUptoSaid : Prop := admitLessUptoRow.holds Try.pinned (OpenSpec.upto admitLessSpec)

/-- 'erewhilelaw20.AdmitKept', WHERE WHAT IT READS IS OF BULK AT MOST 1048576: true; the input reads as it did. -/
def admitKeptUptoRow : OpenClaim := { program := "ytacpceakdnomnaa", sum := "e3c900031f6aafd36c54235219df6a86c05b84b2eb6561ec1fcb228e90ef74d7", func := "erewhile/erewhilelaw20.AdmitKept", spec := "admitKept", apart := false, narrowed := true }
def AdmitKeptUptoSaid : Prop := admitKeptUptoRow.holds Try.pinned (OpenSpec.upto admitKeptSpec)

/-- 'erewhilelaw20.AdmitRows', WHERE WHAT IT READS IS OF BULK AT MOST 1048576: true; the input reads as it did. -/
def admitRowsUptoRow : OpenClaim := { program := "ytacpceakdnomnaa", sum := "e3c900031f6aafd36c54235219df6a86c05b84b2eb6561ec1fcb228e90ef74d7", func := "erewhile/erewhilelaw20.AdmitRows", spec := "admitRows", apart := false, narrowed := true }
def AdmitRowsUptoSaid : Prop := admitRowsUptoRow.holds Try.pinned (OpenSpec.upto admitRowsSpec)

/-- 'erewhilelaw20.AdmitFar', WHERE WHAT IT READS IS OF BULK AT MOST 1048576: true; the input reads as it did. -/
def admitFarUptoRow : OpenClaim := { program := "ytacpceakdnomnaa", sum := "e3c900031f6aafd36c54235219df6a86c05b84b2eb6561ec1fcb228e90ef74d7", func := "erewhile/erewhilelaw20.AdmitFar", spec := "admitFar", apart := false, narrowed := true }
def AdmitFarUptoSaid : Prop := admitFarUptoRow.holds Try.pinned (OpenSpec.upto admitFarSpec)

/-- 'erewhilelaw20.AdmitPlans', WHERE WHAT IT READS IS OF BULK AT MOST 1048576: true; the input reads as it did. -/
def admitPlansUptoRow : OpenClaim := { program := "ytacpceakdnomnaa", sum := "e3c900031f6aafd36c54235219df6a86c05b84b2eb6561ec1fcb228e90ef74d7", func := "erewhile/erewhilelaw20.AdmitPlans", spec := "admitPlans", apart := false, narrowed := true }
def AdmitPlansUptoSaid : Prop := admitPlansUptoRow.holds Try.pinned (OpenSpec.upto admitPlansSpec)

/-- 'erewhilelaw20.AdmitLedger', WHERE WHAT IT READS IS OF BULK AT MOST 1048576: true; the input reads as it did. -/
def admitLedgerUptoRow : OpenClaim := { program := "ytacpceakdnomnaa", sum := "e3c900031f6aafd36c54235219df6a86c05b84b2eb6561ec1fcb228e90ef74d7", func := "erewhile/erewhilelaw20.AdmitLedger", spec := "admitLedger", apart := false, narrowed := true }
def AdmitLedgerUptoSaid : Prop := admitLedgerUptoRow.holds Try.pinned (OpenSpec.upto admitLedgerSpec)

end Rows
end Go.Proofs.Ytacpceakdnomnaa
