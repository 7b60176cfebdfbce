/- NRef: joined by merge.py. -/
import Derived.Test.YtlackkhkaceblaaNRow
import Derived.Test.YtlackkhkaceblaaNEq
/- The document's list: where a spot stands. -/
namespace Go.Proofs.Ytlackkhkaceblaa.N
open Go.RowKit
set_option linter.unusedVariables false
set_option linter.unusedSimpArgs false
def RFindRel (W : World) (k : Sp) (l : List Sp) (i : Value) (wr : World) : Prop := ∃ n : Nat, i = .int .i64 n ∧ n ≤ l.length ∧ Below W.heap.size W wr ∧ (findL k l).1 = n + (findL k (l.drop n)).1 ∧ (findL k l).2 = (findL k (l.drop n)).2
theorem findL_stop {k x : Sp} (h : lt x k = false) : ordS x k ≥ 0 := by unfold lt at h; simp at h; omega
theorem findL_go {k x : Sp} (h : lt x k = true) : ¬ ordS x k ≥ 0 := by unfold lt at h; simp at h; omega
end Go.Proofs.Ytlackkhkaceblaa.N
