/- TItems: joined by merge.py. -/
import Derived.Test.YtlackkhkaceblaaTPure
import Derived.Test.YtlackkhkaceblaaNApp
/- The document's lists of items in memory. -/
namespace Go.Proofs.Ytlackkhkaceblaa.N
open Go.BigFrame Go.RowKit Go.Proofs.YtlackkhkaceblaaW.PrintMore Go.Proofs.YtlackkhkaceblaaW.PrintWords
set_option linter.unusedVariables false
set_option linter.unusedSimpArgs false
def ItemAt (w : World) (b o : Nat) (x : Ent) : Prop := w.cell? ⟨b, o, none⟩ = some (.int .i64 x.1.br) ∧ w.cell? ⟨b, o + 1, none⟩ = some (.int .i64 x.1.vol) ∧ w.cell? ⟨b, o + 2, none⟩ = some (.int .i64 x.1.blk) ∧ w.cell? ⟨b, o + 3, none⟩ = some (.int .u64 x.1.num) ∧ w.cell? ⟨b, o + 4, none⟩ = some (.int .u64 x.2)
def ItemsAt (w : World) (A : Option Addr) (l : List Ent) : Prop := 0 < l.length → ∃ b off, A = some ⟨b, off, none⟩ ∧ b < w.heap.size ∧ ∀ j (h : j < l.length), ItemAt w b (off + j * 5) l[j]
theorem ItemAt.below {B : Nat} {w w' : World} {b o : Nat} {x : Ent} (h : ItemAt w b o x) (hb : Below B w w') (hlt : b < B) : ItemAt w' b o x := ⟨bel_cell hb hlt h.1, bel_cell hb hlt h.2.1, bel_cell hb hlt h.2.2.1, bel_cell hb hlt h.2.2.2.1, bel_cell hb hlt h.2.2.2.2⟩
theorem ItemsAt.below {w w' : World} {A : Option Addr} {l : List Ent} (h : ItemsAt w A l) (hb : Below w.heap.size w w') : ItemsAt w' A l := fun hl => by
  obtain ⟨b, off, e, hlt, hc⟩ := h hl
  have := hb.size
  exact ⟨b, off, e, by omega, fun j hj => (hc j hj).below hb hlt⟩
def itV (x : Ent) : List Value := [.int .i64 x.1.br, .int .i64 x.1.vol, .int .i64 x.1.blk, .int .u64 x.1.num, .int .u64 x.2]
def its (l : List Ent) : List Value := l.flatMap itV
theorem its_len (l : List Ent) : (its l).length = l.length * 5 := by
  induction l with
  | nil => rfl
  | cons x t ih => simp only [its, List.flatMap_cons, List.length_append, List.length_cons] at ih ⊢; rw [ih]; simp [itV]; omega
theorem its_app (a b : List Ent) : its (a ++ b) = its a ++ its b := by simp [its]
theorem its_get {l : List Ent} {j : Nat} (h : j < l.length) (i : Nat) (hi : i < 5) : (its l)[j * 5 + i]? = (itV l[j])[i]? := by
  induction l generalizing j with
  | nil => simp at h
  | cons x t ih =>
    simp only [its, List.flatMap_cons]
    cases j with
    | zero => rw [Nat.zero_mul, Nat.zero_add, List.getElem?_append_left (by simp [itV]; omega)]; rfl
    | succ j =>
      rw [List.getElem?_append_right (by simp [itV]; omega)]
      have e : (j + 1) * 5 + i - (itV x).length = j * 5 + i := by simp [itV]; omega
      rw [e]
      simp only [List.getElem_cons_succ]
      exact ih (by simpa using h)
end Go.Proofs.Ytlackkhkaceblaa.N
