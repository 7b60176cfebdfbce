/- TBase: joined by merge.py. -/
import Derived.Test.YtlackkhkaceblaaNG
import Derived.Test.YtlackkhkaceblaaNCls
/- Trees in memory: the root and the number; New, Root, Len; how high a node is. -/
namespace Go.Proofs.Ytlackkhkaceblaa.N
open Go.BigFrame Go.RowKit Go.Proofs.YtlackkhkaceblaaW.PrintMore Go.Proofs.YtlackkhkaceblaaW.PrintWords
set_option linter.unusedVariables false
set_option linter.unusedSimpArgs false
/-- A tree that has l: none, or a block with the root and the number. -/
def TreeAt (w : World) (p : Option Addr) (l : List Ent) : Prop := (p = none ∧ l = []) ∨ ∃ b r, p = some ⟨b, 0, none⟩ ∧ Blk w b #[.pointer r, .int .i64 l.length] 80 ∧ RootAt w r l
theorem TreeAt.below {w w' : World} {p : Option Addr} {l : List Ent} (h : TreeAt w p l) (hb : Below w.heap.size w w') : TreeAt w' p l := by
  rcases h with h | ⟨b, r, e, h1, h2⟩
  · exact .inl h
  · exact .inr ⟨b, r, e, h1.below hb h1.lt, h2.below hb⟩
/-- A block for a tree. -/
theorem TreeAt.new {w : World} {r : Option Addr} {l : List Ent} (h : RootAt w r l) : TreeAt (w.alloc (.cells #[.pointer r, .int .i64 l.length] 80)) (some ⟨w.heap.size, 0, none⟩) l :=
  .inr ⟨_, r, rfl, Blk.new w _ _, h.below ((Below.refl _ _).alloc (Nat.le_refl _) _)⟩
theorem new_tree (w : World) : Calls Try.prog 30 #[] w fun e w' => ∃ b, e = .returned (.pointer (some ⟨b, 0, none⟩)) ∧ TreeAt w' (some ⟨b, 0, none⟩) [] ∧ Below w.heap.size w w' := by
  go_enter Try.func30, Try.ntmps30
  go_wp2_with fail
  go_ret
  exact ⟨_, rfl, TreeAt.new (l := []) (.inl ⟨rfl, rfl⟩), (Below.refl _ _).alloc (Nat.le_refl _) _⟩
theorem root_tree {w : World} {p : Option Addr} {l : List Ent} (h : TreeAt w p l) : ∃ r, RootAt w r l ∧ ∀ X, Below w.heap.size w X → Calls Try.prog 40 #[.pointer p] X fun e w' => e = .returned (.pointer r) ∧ X = w' := by
  rcases h with ⟨rfl, rfl⟩ | ⟨b, r, rfl, h1, h2⟩
  · refine ⟨none, .inl ⟨rfl, rfl⟩, fun X hX => ?_⟩
    go_enter Try.func40, Try.ntmps40
    go_wp2_with fail
    go_ret
    exact ⟨rfl, rfl⟩
  · refine ⟨r, h2, fun X hX => ?_⟩
    have c0 : X.cell? ⟨b, 0, none⟩ = some (.pointer r) := ((h1.below hX h1.lt).cell 0).trans rfl
    clear h1 h2 hX
    go_enter Try.func40, Try.ntmps40
    go_wp2_with fail
    go_ret
    exact ⟨rfl, rfl⟩
theorem len_tree {w : World} {p : Option Addr} {l : List Ent} (h : TreeAt w p l) : ∀ X, Below w.heap.size w X → Calls Try.prog 26 #[.pointer p] X fun e w' => e = .returned (.int .i64 l.length) ∧ X = w' := by
  rcases h with ⟨rfl, rfl⟩ | ⟨b, r, rfl, h1, h2⟩
  · intro X hX
    go_enter Try.func26, Try.ntmps26
    go_wp2_with fail
    go_ret
    exact ⟨rfl, rfl⟩
  · intro X hX
    have c1 : X.cell? ⟨b, 1, none⟩ = some (.int .i64 l.length) := ((h1.below hX h1.lt).cell 1).trans rfl
    clear h1 h2 hX
    generalize l.length = n at *
    go_enter Try.func26, Try.ntmps26
    go_wp2_with fail
    go_ret
    exact ⟨rfl, rfl⟩
/-- A node is of one height alone. -/
theorem nd_uniq {w : World} : ∀ {h h' q n n' : Nat} {m m' : List Ent}, Nd w h q m n → Nd w h' q m' n' → h = h'
  | 0, 0, _, _, _, _, _, _, _ => rfl
  | 0, h' + 1, q, n, n', m, m', a, b => by
    obtain ⟨_, A, ca, B, cb, hh⟩ := a
    obtain ⟨qs, ls, _, _, ⟨A', ca', C, cc, hi⟩, _⟩ := nd_succ.1 b
    have h1 := hh.hp
    rw [hi.hp] at h1
    have hp := hi.pos
    cases qs with
    | nil => simp at hp
    | cons x t => simp at h1
  | h + 1, 0, q, n, n', m, m', a, b => by
    obtain ⟨_, A, ca, B, cb, hh⟩ := b
    obtain ⟨qs, ls, _, _, ⟨A', ca', C, cc, hi⟩, _⟩ := nd_succ.1 a
    have h1 := hh.hp
    rw [hi.hp] at h1
    have hp := hi.pos
    cases qs with
    | nil => simp at hp
    | cons x t => simp at h1
  | h + 1, h' + 1, q, n, n', m, m', a, b => by
    obtain ⟨qs, ls, _, _, ⟨A, ca, C, cc, hi⟩, hk⟩ := nd_succ.1 a
    obtain ⟨qs', ls', _, _, ⟨A', ca', C', cc', hi'⟩, hk'⟩ := nd_succ.1 b
    have h1 := hi.hp
    rw [hi'.hp] at h1
    simp at h1
    obtain ⟨b1, o1, e1, _, f1⟩ := hi.kids hi.pos
    obtain ⟨b2, o2, e2, _, f2⟩ := hi'.kids hi'.pos
    have hC : C' = C := h1.2.1
    rw [hC, e1] at e2
    cases e2
    have g1 := f1 0 hi.pos
    have g2 := f2 0 hi'.pos
    rw [g1] at g2
    have hq : qs[0]'hi.pos = qs'[0]'hi'.pos := by simpa using g2
    have l1 := hi.len
    have l2 := hi'.len
    rw [List.length_map] at l1 l2
    obtain ⟨s, _, _, k1⟩ := hk.get 0 hi.pos (by have := hi.pos; omega)
    obtain ⟨s', _, _, k2⟩ := hk'.get 0 hi'.pos (by have := hi'.pos; omega)
    rw [← hq] at k2
    rw [nd_uniq k1 k2]
open Classical in
/-- How high the node is. -/
noncomputable def hOf (w : World) (v : Value) : Nat := if h : ∃ h q m n, v = .pointer (some ⟨q, 0, none⟩) ∧ Nd w h q m n then Classical.choose h else 0
theorem hOf_nd {w : World} {h q n : Nat} {m : List Ent} (hn : Nd w h q m n) : hOf w (.pointer (some ⟨q, 0, none⟩)) = h := by
  have hex : ∃ h q' m n, (Value.pointer (some ⟨q, 0, none⟩)) = .pointer (some ⟨q', 0, none⟩) ∧ Nd w h q' m n := ⟨h, q, m, n, rfl, hn⟩
  unfold hOf
  rw [dif_pos hex]
  obtain ⟨q', m', n', e, hn'⟩ := Classical.choose_spec hex
  cases e
  exact nd_uniq hn' hn
end Go.Proofs.Ytlackkhkaceblaa.N
