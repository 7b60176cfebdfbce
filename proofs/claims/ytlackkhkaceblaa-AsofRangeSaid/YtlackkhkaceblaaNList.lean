/- NList: joined by merge.py. -/
import Derived.Test.YtlackkhkaceblaaNApp
/- The document's list in memory. -/
namespace Go.Proofs.Ytlackkhkaceblaa.N
open Go.RowKit
set_option linter.unusedVariables false
set_option linter.unusedSimpArgs false
/-- A row that the walk owns is nil, or lies at the beginning of a block. -/
theorem row_form {w : World} {B n k : Nat} {T : TypeId} {v : Value} {xs : List Value} (h : w.ownsRow B T k v n xs) : (v = .slice none 0 0 ∧ n = 0) ∨ ∃ g c, v = .slice (some ⟨g, 0, none⟩) n c ∧ n ≤ c ∧ c ≤ 9223372036854775807 ∧ B ≤ g := by
  rcases h.2 with h2 | ⟨g, cap, cur, e, hg, _, hle, hcm, _⟩
  · exact .inl h2
  · exact .inr ⟨g, cap, e, hle, by simpa [maxLen] using hcm, hg⟩
theorem below_grown {B : Nat} {w w' : World} {row : Option Nat} (h : Below B w w') (hB : w.heap.size = B) : w.grownBy w' row := ⟨h.os, h.tape, h.output, h.size, fun i hi _ => h.block i (by omega)⟩
theorem set_off {X : World} {L o q : Nat} (u : Value) (h : q ≠ L) : (X.setCell ⟨L, o, none⟩ u).heap[q]? = X.heap[q]? := by
  simp only [World.setCell, Array.getElem?_modify]
  rw [if_neg (fun e => h e.symm)]
theorem grown_set {w X : World} {L o : Nat} (h : w.grownBy X (some L)) (u : Value) : w.grownBy (X.setCell ⟨L, o, none⟩ u) (some L) :=
  ⟨h.os, h.tape, h.output, by have := h.size; simpa [World.setCell] using this, fun i hi hne => (set_off u (fun e => hne (by rw [e]))).trans (h.block i hi hne)⟩
end Go.Proofs.Ytlackkhkaceblaa.N
