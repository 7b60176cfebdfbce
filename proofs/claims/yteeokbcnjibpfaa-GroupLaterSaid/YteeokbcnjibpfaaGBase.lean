/- How a group lies in memory: its block, the block of its volumes' slices, and each slice's own row. -/
import Derived.Test.YteeokbcnjibpfaaProg
import Derived.Tactics
import Derived.Tactics2
import Derived.WalkKit
import Derived.WalkSpells
import Derived.LoopTactic
import Derived.OwnWalk
import Derived.Laws.Pointers
import Derived.Laws.OwnMore
import Derived.Maps.AppendAt
import Derived.KernelRfl
import Derived.Below
import Derived.Lib.Hide
import Derived.IntWalk
import Derived.Deep.RegionHeld3
import Derived.Deep.QuietTactic
import Derived.BigQuiet
import Derived.Deep.RegionLaw
namespace Go.Proofs.Yteeokbcnjibpfaa.G
open Go.RowKit
set_option linter.unusedVariables false
set_option linter.unusedSimpArgs false
theorem infoU : (Try.prog.info? 23).map (fun i => (i.zero, i.size, i.bytes)) = some (some (.int .u64 0), 1, 8) := by kernel_rfl
def u64s (l : List Int) : List Value := l.map (Value.int .u64)
theorem u64s_len (l : List Int) : (u64s l).length = l.length := by simp [u64s]
theorem own_ge {w : World} {base n size : Nat} {e : TypeId} {v : Value} {xs : List Value} (h : w.ownsRow base e size v n xs) : ∀ q, v.ownBlock = some q → base ≤ q := fun q hq => by
  rcases h.2 with ⟨e, _⟩ | ⟨g, cap, cur, e, hg, _⟩
  · rw [e] at hq; cases hq
  · rw [e] at hq; simp only [Value.ownBlock, Option.some.injEq] at hq; omega
theorem own_lt {w : World} {base n size : Nat} {e : TypeId} {v : Value} {xs : List Value} (h : w.ownsRow base e size v n xs) : ∀ q, v.ownBlock = some q → q < w.heap.size := fun q hq => by
  rcases h.2 with ⟨e, _⟩ | ⟨g, cap, cur, e, hg, hh, _⟩
  · rw [e] at hq; cases hq
  · rw [e] at hq; simp only [Value.ownBlock, Option.some.injEq] at hq; subst hq; exact (Array.getElem?_eq_some_iff.1 hh).1
/-- A row stays owned where its block stays. -/
theorem own_stay {w w' : World} {base n size : Nat} {e : TypeId} {v : Value} {xs : List Value} (h : w.ownsRow base e size v n xs) (hb : ∀ q, v.ownBlock = some q → w'.heap[q]? = w.heap[q]?) : w'.ownsRow base e size v n xs := by
  refine ⟨h.1, ?_⟩
  rcases h.2 with h2 | ⟨g, cap, cur, e1, e2, e3, r⟩
  · exact .inl h2
  · exact .inr ⟨g, cap, cur, e1, e2, (hb g (by rw [e1]; rfl)).trans e3, r⟩
theorem set_at {w : World} {g o : Nat} {c : Array Value} {T : TypeId} {fr : Nat × Nat} {v : Value} (h : w.heap[g]? = some (.cells c T fr)) : (w.setCell ⟨g, o, none⟩ v).heap[g]? = some (.cells (c.setIfInBounds o v) T fr) := by
  simp only [World.setCell, Array.getElem?_modify, if_true]
  rw [h]
  rfl
structure Grp (w : World) (B g gv V : Nat) (R : Nat → Value) (L : Nat → List Int) (last : Int) : Prop where
  gb : B ≤ g
  gvb : B ≤ gv
  ne : g ≠ gv
  hg : w.heap[g]? = some (.cells #[.slice (some ⟨gv, 0, none⟩) V V, R V, .int .u64 last] 57 (0, 0))
  hv : w.heap[gv]? = some (.cells ((List.range V).map R).toArray 29 (0, 0))
  row : ∀ i, i ≤ V → w.ownsRow B 23 1 (R i) (L i).length (u64s (L i))
  dis : ∀ i j k, i ≤ V → j ≤ V → i ≠ j → (R i).ownBlock = some k → (R j).ownBlock ≠ some k
  fg : ∀ i, i ≤ V → (R i).ownBlock ≠ some g
  fv : ∀ i, i ≤ V → (R i).ownBlock ≠ some gv
section
variable {w w' : World} {B g gv V : Nat} {R : Nat → Value} {L : Nat → List Int} {last : Int}
theorem Grp.glt (h : Grp w B g gv V R L last) : g < w.heap.size := (Array.getElem?_eq_some_iff.1 h.hg).1
theorem Grp.gvlt (h : Grp w B g gv V R L last) : gv < w.heap.size := (Array.getElem?_eq_some_iff.1 h.hv).1
theorem Grp.c0 (h : Grp w B g gv V R L last) : w.cell? ⟨g, 0, none⟩ = some (.slice (some ⟨gv, 0, none⟩) V V) := by simp [World.cell?, h.hg]
theorem Grp.c1 (h : Grp w B g gv V R L last) : w.cell? ⟨g, 1, none⟩ = some (R V) := by simp [World.cell?, h.hg]
theorem Grp.c2 (h : Grp w B g gv V R L last) : w.cell? ⟨g, 2, none⟩ = some (.int .u64 last) := by simp [World.cell?, h.hg]
theorem Grp.fr (h : Grp w B g gv V R L last) (o : Nat) : w.frozen? ⟨g, o, none⟩ = false := by simp [World.frozen?, h.hg]
theorem Grp.frv (h : Grp w B g gv V R L last) (o : Nat) : w.frozen? ⟨gv, o, none⟩ = false := by simp [World.frozen?, h.hv]
theorem Grp.cv (h : Grp w B g gv V R L last) (i : Nat) (hi : i < V) : w.cell? ⟨gv, i, none⟩ = some (R i) := by simp [World.cell?, h.hv, hi]
/-- What is made beside it leaves it as it is. -/
theorem Grp.stay (h : Grp w B g gv V R L last) (hb : ∀ k, k < w.heap.size → w'.heap[k]? = w.heap[k]?) : Grp w' B g gv V R L last :=
  ⟨h.gb, h.gvb, h.ne, (hb g h.glt).trans h.hg, (hb gv h.gvlt).trans h.hv, fun i hi => own_stay (h.row i hi) (fun q hq => hb q (own_lt (h.row i hi) q hq)), h.dis, h.fg, h.fv⟩
theorem Grp.below (h : Grp w B g gv V R L last) (hb : Below w.heap.size w w') : Grp w' B g gv V R L last := h.stay hb.block
theorem Grp.drew (h : Grp w B g gv V R L last) : Grp w.drew B g gv V R L last := h.stay fun _ _ => rfl
end
/-- A row's value at number i alone. -/
def upd {α : Type} (R : Nat → α) (i : Nat) (v : α) : Nat → α := fun j => if j = i then v else R j
theorem upd_at {α : Type} (R : Nat → α) (i : Nat) (v : α) : upd R i v i = v := if_pos rfl
theorem upd_ne {α : Type} {R : Nat → α} {i j : Nat} {v : α} (h : j ≠ i) : upd R i v j = R j := if_neg h
/-- Nothing but the group's own blocks, and new ones, may have changed. -/
def Mine (B : Nat) (w w' : World) : Prop := Below B w w'
theorem map_upd (R : Nat → Value) (V i : Nat) (v : Value) (hi : i < V) : ((List.range V).map R).toArray.setIfInBounds i v = ((List.range V).map (upd R i v)).toArray := by
  apply Array.ext'
  simp only [Array.toList_setIfInBounds]
  apply List.ext_getElem
  · simp
  · intro j h1 h2
    simp only [List.getElem_set, List.getElem_map, List.getElem_range]
    by_cases c : i = j
    · subst c; rw [if_pos rfl, upd_at]
    · rw [if_neg c, upd_ne (fun e => c e.symm)]
section
variable {w w1 : World} {B g gv V : Nat} {R : Nat → Value} {L : Nat → List Int} {last : Int}
/-- A volume's row is longer by one: the append, and the two stores. -/
theorem Grp.wrote (h : Grp w B g gv V R L last) (i : Nat) (hi : i < V) (num : Int) (v' : Value) (o : Obj)
    (hgr : (w.alloc o).grownBy w1 (R i).ownBlock) (hown : w1.ownsRow B 23 1 v' ((L i).length + 1) (u64s (L i) ++ [.int .u64 num]))
    (hat : v'.ownBlock = (R i).ownBlock ∨ v'.ownBlock = some (w.alloc o).heap.size) :
    Grp ((w1.setCell ⟨gv, i, none⟩ v').setCell ⟨g, 2, none⟩ (.int .u64 num)) B g gv V (upd R i v') (upd L i (L i ++ [num])) num := by
  have hz : (w.alloc o).heap.size = w.heap.size + 1 := by simp
  have old : ∀ k, k < w.heap.size → some k ≠ (R i).ownBlock → w1.heap[k]? = w.heap[k]? := fun k hk hne => (hgr.block k (by omega) hne).trans (Below.heap_alloc w o k hk)
  have st : ∀ k, k ≠ gv → k ≠ g → ((w1.setCell ⟨gv, i, none⟩ v').setCell ⟨g, 2, none⟩ (.int .u64 num)).heap[k]? = w1.heap[k]? := fun k h1 h2 => by
    rw [Below.heap_setCell _ _ _ _ h2, Below.heap_setCell _ _ _ _ h1]
  have hg1 : w1.heap[g]? = w.heap[g]? := old g h.glt (fun e => h.fg i (by omega) e.symm)
  have hv1 : w1.heap[gv]? = w.heap[gv]? := old gv h.gvlt (fun e => h.fv i (by omega) e.symm)
  have hnew : ∀ k, v'.ownBlock = some k → (R i).ownBlock = some k ∨ k = w.heap.size + 1 := fun k hk => by
    rcases hat with e | e
    · exact .inl (e.symm.trans hk)
    · right; rw [hk] at e; simp at e; omega
  have hvg : v'.ownBlock ≠ some g := fun e => by rcases hnew g e with e | e; exact h.fg i (by omega) e; have := h.glt; omega
  have hvv : v'.ownBlock ≠ some gv := fun e => by rcases hnew gv e with e | e; exact h.fv i (by omega) e; have := h.gvlt; omega
  refine ⟨h.gb, h.gvb, h.ne, ?_, ?_, ?_, ?_, ?_, ?_⟩
  · rw [upd_ne (by omega)]
    exact set_at (((Below.heap_setCell w1 ⟨gv, i, none⟩ v' g h.ne).trans hg1).trans h.hg)
  · rw [Below.heap_setCell _ _ _ _ (by exact Ne.symm h.ne), set_at (hv1.trans h.hv), map_upd _ _ _ _ hi]
  · intro j hj
    by_cases c : j = i
    · subst c
      rw [upd_at, upd_at]
      have e : u64s (L j ++ [num]) = u64s (L j) ++ [.int .u64 num] := by simp [u64s]
      rw [e, List.length_append]
      exact own_stay hown (fun q hq => st q (fun e => hvv (e ▸ hq)) (fun e => hvg (e ▸ hq)))
    · rw [upd_ne c, upd_ne c]
      refine own_stay (h.row j hj) (fun q hq => ?_)
      rw [st q (fun e => h.fv j hj (e ▸ hq)) (fun e => h.fg j hj (e ▸ hq))]
      exact old q (own_lt (h.row j hj) q hq) (fun e => h.dis j i q hj (by omega) c hq e.symm)
  · intro a b k ha hb hne hk
    by_cases ca : a = i
    · subst ca
      rw [upd_at] at hk
      rw [upd_ne (Ne.symm hne)]
      rcases hnew k hk with e | e
      · exact h.dis a b k ha hb hne e
      · intro e2; have := own_lt (h.row b hb) k e2; omega
    · rw [upd_ne ca] at hk
      by_cases cb : b = i
      · subst cb
        rw [upd_at]
        intro e2
        rcases hnew k e2 with e | e
        · exact h.dis a b k ha hb hne hk e
        · have := own_lt (h.row a ha) k hk; omega
      · rw [upd_ne cb]; exact h.dis a b k ha hb hne hk
  · intro j hj
    by_cases c : j = i
    · subst c; rw [upd_at]; exact hvg
    · rw [upd_ne c]; exact h.fg j hj
  · intro j hj
    by_cases c : j = i
    · subst c; rw [upd_at]; exact hvv
    · rw [upd_ne c]; exact h.fv j hj
/-- The barriers' row is longer by one. -/
theorem Grp.barred (h : Grp w B g gv V R L last) (num : Int) (v' : Value) (o : Obj)
    (hgr : (w.alloc o).grownBy w1 (R V).ownBlock) (hown : w1.ownsRow B 23 1 v' ((L V).length + 1) (u64s (L V) ++ [.int .u64 num]))
    (hat : v'.ownBlock = (R V).ownBlock ∨ v'.ownBlock = some (w.alloc o).heap.size) :
    Grp ((w1.setCell ⟨g, 1, none⟩ v').setCell ⟨g, 2, none⟩ (.int .u64 num)) B g gv V (upd R V v') (upd L V (L V ++ [num])) num := by
  have hz : (w.alloc o).heap.size = w.heap.size + 1 := by simp
  have old : ∀ k, k < w.heap.size → some k ≠ (R V).ownBlock → w1.heap[k]? = w.heap[k]? := fun k hk hne => (hgr.block k (by omega) hne).trans (Below.heap_alloc w o k hk)
  have st : ∀ k, k ≠ g → ((w1.setCell ⟨g, 1, none⟩ v').setCell ⟨g, 2, none⟩ (.int .u64 num)).heap[k]? = w1.heap[k]? := fun k h2 => by
    rw [Below.heap_setCell _ _ _ _ h2, Below.heap_setCell _ _ _ _ h2]
  have hg1 : w1.heap[g]? = w.heap[g]? := old g h.glt (fun e => h.fg V (by omega) e.symm)
  have hv1 : w1.heap[gv]? = w.heap[gv]? := old gv h.gvlt (fun e => h.fv V (by omega) e.symm)
  have hnew : ∀ k, v'.ownBlock = some k → (R V).ownBlock = some k ∨ k = w.heap.size + 1 := fun k hk => by
    rcases hat with e | e
    · exact .inl (e.symm.trans hk)
    · right; rw [hk] at e; simp at e; omega
  have hvg : v'.ownBlock ≠ some g := fun e => by rcases hnew g e with e | e; exact h.fg V (by omega) e; have := h.glt; omega
  have hvv : v'.ownBlock ≠ some gv := fun e => by rcases hnew gv e with e | e; exact h.fv V (by omega) e; have := h.gvlt; omega
  refine ⟨h.gb, h.gvb, h.ne, ?_, ?_, ?_, ?_, ?_, ?_⟩
  · rw [upd_at]
    exact set_at (set_at (hg1.trans h.hg))
  · rw [st gv (Ne.symm h.ne), hv1, h.hv]
    have e : (List.range V).map R = (List.range V).map (upd R V v') := by
      apply List.map_congr_left
      intro j hj
      rw [List.mem_range] at hj
      rw [upd_ne (by omega)]
    rw [e]
  · intro j hj
    by_cases c : j = V
    · subst c
      rw [upd_at, upd_at]
      have e : u64s (L j ++ [num]) = u64s (L j) ++ [.int .u64 num] := by simp [u64s]
      rw [e, List.length_append]
      exact own_stay hown (fun q hq => st q (fun e => hvg (e ▸ hq)))
    · rw [upd_ne c, upd_ne c]
      refine own_stay (h.row j hj) (fun q hq => ?_)
      rw [st q (fun e => h.fg j hj (e ▸ hq))]
      exact old q (own_lt (h.row j hj) q hq) (fun e => h.dis j V q hj (by omega) c hq e.symm)
  · intro a b k ha hb hne hk
    by_cases ca : a = V
    · subst ca
      rw [upd_at] at hk
      rw [upd_ne (Ne.symm hne)]
      rcases hnew k hk with e | e
      · exact h.dis a b k ha hb hne e
      · intro e2; have := own_lt (h.row b hb) k e2; omega
    · rw [upd_ne ca] at hk
      by_cases cb : b = V
      · subst cb
        rw [upd_at]
        intro e2
        rcases hnew k e2 with e | e
        · exact h.dis a b k ha hb hne hk e
        · have := own_lt (h.row a ha) k hk; omega
      · rw [upd_ne cb]; exact h.dis a b k ha hb hne hk
  · intro j hj
    by_cases c : j = V
    · subst c; rw [upd_at]; exact hvg
    · rw [upd_ne c]; exact h.fg j hj
  · intro j hj
    by_cases c : j = V
    · subst c; rw [upd_at]; exact hvv
    · rw [upd_ne c]; exact h.fv j hj
theorem bel_wrote {w0 : World} (hB : Below B w0 w) (hz : B ≤ w.heap.size) {o : Obj} {row : Option Nat} (hgr : (w.alloc o).grownBy w1 row) (hr : ∀ k, row = some k → B ≤ k) {a b : Addr} (ha : B ≤ a.block) (hb : B ≤ b.block) (u v : Value) :
    Below B w0 ((w1.setCell a u).setCell b v) := (((hB.alloc hz o).grown hgr (by simp; omega) hr).setCell ha u).setCell hb v
end
end Go.Proofs.Yteeokbcnjibpfaa.G
