/- The document's list in memory. -/
import Derived.Test.YtainljbkejafcaaNApp
namespace Go.Proofs.Ytainljbkejafcaa.N
open Go.RowKit
set_option linter.unusedVariables false
set_option linter.unusedSimpArgs false
structure ListAt (w : World) (L B : Nat) (ks : List Sp) (vs : List Int) (kv vv : Value) : Prop where
  hp : w.heap[L]? = some (.cells #[kv, vv] 34 (0, 0))
  keys : w.ownsRow B 26 4 kv ks.length (sps ks)
  vals : w.ownsRow B 24 1 vv vs.length (u64s vs)
  len : vs.length = ks.length
  base : L < B
  apart : ∀ q, kv.ownBlock = some q → vv.ownBlock ≠ some q
def RPut (w : World) (L B : Nat) (ks : List Sp) (vs : List Int) (e : Ending) (w' : World) : Prop := ∃ kv vv, e = .returned (.tuple #[]) ∧ ListAt w' L B ks vs kv vv ∧ w.grownBy w' (some L)
theorem ListAt.lt {w : World} {L B : Nat} {ks : List Sp} {vs : List Int} {kv vv : Value} (h : ListAt w L B ks vs kv vv) : L < w.heap.size := (Array.getElem?_eq_some_iff.1 h.hp).1
/-- A list stays where its blocks stay. -/
theorem ListAt.stay {w w' : World} {L B : Nat} {ks : List Sp} {vs : List Int} {kv vv : Value} (h : ListAt w L B ks vs kv vv) (hb : ∀ q, q < w.heap.size → w'.heap[q]? = w.heap[q]?) : ListAt w' L B ks vs kv vv :=
  ⟨(hb L h.lt).trans h.hp, own_stay h.keys (fun q hq => hb q (own_lt h.keys q hq)), own_stay h.vals (fun q hq => hb q (own_lt h.vals q hq)), h.len, h.base, h.apart⟩
theorem ListAt.below {w w' : World} {L B : Nat} {ks : List Sp} {vs : List Int} {kv vv : Value} (h : ListAt w L B ks vs kv vv) (hb : Below w.heap.size w w') : ListAt w' L B ks vs kv vv := h.stay (fun q hq => hb.block q hq)
/-- A row that the walk owns is nil, or lies at the beginning of a block. -/
theorem row_form {w : World} {B n k : Nat} {T : TypeId} {v : Value} {xs : List Value} (h : w.ownsRow B T k v n xs) : (v = .slice none 0 0 ∧ n = 0) ∨ ∃ g c, v = .slice (some ⟨g, 0, none⟩) n c ∧ n ≤ c ∧ c ≤ 9223372036854775807 ∧ B ≤ g := by
  rcases h.2 with h2 | ⟨g, cap, cur, e, hg, _, hle, hcm, _⟩
  · exact .inl h2
  · exact .inr ⟨g, cap, e, hle, by simpa [maxLen] using hcm, hg⟩
theorem below_grown {B : Nat} {w w' : World} {row : Option Nat} (h : Below B w w') (hB : w.heap.size = B) : w.grownBy w' row := ⟨h.os, h.tape, h.output, h.size, fun i hi _ => h.block i (by omega)⟩
theorem set_off {X : World} {L o q : Nat} (u : Value) (h : q ≠ L) : (X.setCell ⟨L, o, none⟩ u).heap[q]? = X.heap[q]? := by
  simp only [World.setCell, Array.getElem?_modify]
  rw [if_neg (fun e => h e.symm)]
theorem grown_set {w X : World} {L o : Nat} (h : w.grownBy X (some L)) (u : Value) : w.grownBy (X.setCell ⟨L, o, none⟩ u) (some L) :=
  ⟨h.os, h.tape, h.output, by have := h.size; simpa [World.setCell] using this, fun i hi hne => (set_off u (fun e => hne (by rw [e]))).trans (h.block i hi hne)⟩
end Go.Proofs.Ytainljbkejafcaa.N
