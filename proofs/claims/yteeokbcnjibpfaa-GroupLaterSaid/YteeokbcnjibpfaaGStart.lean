/- How each law begins: play behind awake; a cut in its box. -/
import Derived.Test.YteeokbcnjibpfaaGHolds
namespace Go.Proofs.Yteeokbcnjibpfaa.G
open Go.RowKit
set_option linter.unusedVariables false
set_option linter.unusedSimpArgs false
theorem evAt_lift {w w' : World} {A : Option Addr} {l : List (Int × Int)} (h : EvAt w w.heap.size A l) (hb : Below w.heap.size w w') : EvAt w' w'.heap.size A l := fun hl => by
  obtain ⟨b, off, e, hlt, hc⟩ := h hl
  have hz := hb.size
  exact ⟨b, off, e, by omega, fun j hj => ⟨(hb.cell (p := ⟨b, off + j * 2, none⟩) hlt).trans (hc j hj).1, (hb.cell (p := ⟨b, off + j * 2 + 1, none⟩) hlt).trans (hc j hj).2⟩⟩
def PlayLaw (w : World) (V : Nat) (l : List (Int × Int)) (e : Ending) (w' : World) : Prop := ∃ g gv x acc, acc = accs V l ∧ e = .returned (.tuple #[.pointer (some ⟨g, 0, none⟩), .pointer (some ⟨x, 0, none⟩), .int .i64 1]) ∧ At w' w.heap.size g gv x V acc acc ∧ Good V acc ∧ acc.length ≤ 40 ∧ Below w.heap.size w w'
theorem play_law (v : Int) (V : Nat) (A : Option Addr) (c : Nat) (l : List (Int × Int)) {w w1 : World} (hv : -9223372036854775808 ≤ v) (hv' : v ≤ 9223372036854775807) (hV : volsOf v = V) (hl : ¬ 40 < l.length) (hA : EvAt w w.heap.size A l) (hR : Ranged l) (hb : Below w.heap.size w w1) :
    Calls Try.prog 12 #[.int .i64 v, .slice A l.length c] w1 (PlayLaw w1 V l) := by
  refine (play_at v V A c l w1 hv hv' hV (by omega) (evAt_lift hA hb) hR).mono ?_
  rintro e w2 ⟨g, gv, x, rfl, h, hb2⟩
  exact ⟨g, gv, x, _, rfl, rfl, h, accs_good V l, by have := accs_len V l; omega, hb2⟩
/-- A cut in a box of the walk. -/
structure CutBox (w : World) (p : Nat) (m : Int) (c : Nat) (l : List Int) : Prop where
  c0 : w.cell? ⟨p, 0, none⟩ = some (.int .u64 m)
  c1 : w.cell? ⟨p, 1, none⟩ = some (.slice (some ⟨c, 0, none⟩) l.length l.length)
  f0 : w.frozen? ⟨p, 0, none⟩ = false
  f1 : w.frozen? ⟨p, 1, none⟩ = false
  lt : p < w.heap.size
  row : w.heap[c]? = some (.cells (u64s l).toArray 23 (0, 0))
  ne : c ≠ p
theorem CutBox.below {w w' : World} {p : Nat} {m : Int} {c : Nat} {l : List Int} (h : CutBox w p m c l) (hb : Below w.heap.size w w') : CutBox w' p m c l := by
  have hz := hb.size
  have h1 := h.lt
  exact ⟨(hb.cell (p := ⟨p, 0, none⟩) h1).trans h.c0, (hb.cell (p := ⟨p, 1, none⟩) h1).trans h.c1, (hb.frozen (p := ⟨p, 0, none⟩) h1).trans h.f0, (hb.frozen (p := ⟨p, 1, none⟩) h1).trans h.f1, by omega, (hb.block c (Array.getElem?_eq_some_iff.1 h.row).1).trans h.row, h.ne⟩
theorem CutBox.nums {w : World} {p : Nat} {m : Int} {c : Nat} {l : List Int} (h : CutBox w p m c l) : NumsAt w w.heap.size (some ⟨c, 0, none⟩) l := cutNums h.row
theorem CutBox.clt {w : World} {p : Nat} {m : Int} {c : Nat} {l : List Int} (h : CutBox w p m c l) : c < w.heap.size := (Array.getElem?_eq_some_iff.1 h.row).1
theorem CutBox.cell {w : World} {p : Nat} {m : Int} {c : Nat} {l : List Int} (h : CutBox w p m c l) (i : Nat) (hi : i < l.length) : w.cell? ⟨c, i, none⟩ = some (.int .u64 l[i]) := by simp [World.cell?, h.row, u64s, hi]
theorem cutBox_new {w w' : World} {m : Int} {c V : Nat} {l : List Int} (hV : l.length = V) (hh : w'.heap[c]? = some (.cells (u64s l).toArray 23 (0, 0))) (hb : Below w.heap.size w w') :
    CutBox (w'.alloc (.cells #[.int .u64 m, .slice (some ⟨c, 0, none⟩) V V] 31)) w'.heap.size m c l ∧ Below w.heap.size w (w'.alloc (.cells #[.int .u64 m, .slice (some ⟨c, 0, none⟩) V V] 31)) := by
  subst hV
  have lt := (Array.getElem?_eq_some_iff.1 hh).1
  have hn := heap_alloc_new w' (.cells #[.int .u64 m, .slice (some ⟨c, 0, none⟩) l.length l.length] 31)
  exact ⟨⟨by simp only [World.cell?, hn]; rfl, by simp only [World.cell?, hn]; rfl, by simp only [World.frozen?, hn]; rfl, by simp only [World.frozen?, hn]; rfl, by simp, by rw [Below.heap_alloc _ _ _ lt]; exact hh, by omega⟩, hb.alloc hb.size _⟩
theorem CutBox.cells {w : World} {p : Nat} {m : Int} {c V : Nat} {l : List Int} (h : CutBox w p m c l) (hl : l.length = V) : w.cell? ⟨p, 0, none⟩ = some (.int .u64 m) ∧ w.cell? ⟨p, 1, none⟩ = some (.slice (some ⟨c, 0, none⟩) V V) := by
  subst hl; exact ⟨h.c0, h.c1⟩
theorem within_box {w : World} {p p' : Nat} {m m' : Int} {c c' V : Nat} {l l' : List Int} (h : CutBox w p m c l) (h' : CutBox w p' m' c' l') (hl : l.length = V) (hl' : l'.length = V) (hV : V ≤ 8) :
    Calls Try.prog 14 #[.agg #[.int .u64 m, .slice (some ⟨c, 0, none⟩) V V], .agg #[.int .u64 m', .slice (some ⟨c', 0, none⟩) V V]] w (WithinPost w m m' l l') :=
  within_any (Below.refl _ _) m m' _ _ V V l l' hl hl' (by omega) (by omega) h.nums h'.nums
theorem cut_box {w : World} {B g gv V : Nat} {a : List (Int × Int)} (h : GAt w B g gv V a) (hG : Good V a) (ha : a.length ≤ 40) (m : Int) (hm : 0 < m) (hm2 : m ≤ 18446744073709551615) (hV : V ≤ 8) :
    Calls Try.prog 13 #[.pointer (some ⟨g, 0, none⟩), .int .u64 m] w fun e w' => ∃ c, e = .returned (.tuple #[.agg #[.int .u64 m, .slice (some ⟨c, 0, none⟩) V V], .bool true]) ∧
      CutBox (w'.alloc (.cells #[.int .u64 m, .slice (some ⟨c, 0, none⟩) V V] 31)) w'.heap.size m c (cutList m V a) ∧ Below w.heap.size w (w'.alloc (.cells #[.int .u64 m, .slice (some ⟨c, 0, none⟩) V V] 31)) ∧ w.heap.size ≤ c ∧ w.heap.size ≤ w'.heap.size := by
  refine (gat_cut h hG (by omega) m hm hm2 hV).mono ?_
  rintro e w' ⟨c, rfl, hc, hh, hb⟩
  obtain ⟨X, hX⟩ := cutBox_new (m := m) (cutList_len _ _ _) hh hb
  exact ⟨c, rfl, X, hX, hc, hb.size⟩
theorem lastUp_pos {V i : Nat} {a : List (Int × Int)} (h : Good V a) (m : Int) : 0 < cnt m (rowsOf V a i) ↔ 0 < lastUp m (rowsOf V a i) := by
  rcases lastUp_mem m (rowsOf V a i) with ⟨e, c⟩ | ⟨e, c⟩
  · omega
  · have := (rows_num h _ e).1; omega
theorem gat_before {w : World} {B g gv V : Nat} {a : List (Int × Int)} (h : GAt w B g gv V a) (hG : Good V a) (ha : a.length ≤ 40) (m : Int) :
    Calls Try.prog 15 #[.pointer (some ⟨g, 0, none⟩), .int .u64 m] w fun e w' => e = .returned (.tuple #[.int .u64 (lastUp m (rowsOf V a V)), .bool (decide (0 < lastUp m (rowsOf V a V)))]) ∧ Below w.heap.size w w' := by
  obtain ⟨R, h⟩ := h
  refine (before_at h m (rows_sorted hG V) (by have := rows_len V a V; omega)).mono ?_
  rintro e w' ⟨rfl, hb⟩
  refine ⟨?_, hb⟩
  simp only [lastUp_pos hG]
/-- The document's group alone. -/
def RAt (w : World) (x V : Nat) (a : List (Int × Int)) : Prop := ∃ B rv, RefG w B x V rv a
theorem At.r {w : World} {B g gv x V : Nat} {a b : List (Int × Int)} (h : At w B g gv x V a b) : RAt w x V b := by
  obtain ⟨R, rv, h⟩ := h; exact ⟨B, rv, h.ref⟩
theorem RAt.below {w w' : World} {x V : Nat} {a : List (Int × Int)} (h : RAt w x V a) (hb : Below w.heap.size w w') : RAt w' x V a := by
  obtain ⟨B, rv, h⟩ := h; exact ⟨B, rv, h.below hb⟩
theorem RAt.c0 {w : World} {x V : Nat} {a : List (Int × Int)} (h : RAt w x V a) : w.cell? ⟨x, 0, none⟩ = some (.int .i64 V) := by
  obtain ⟨B, rv, h⟩ := h; exact h.c0
/-- The events as they lie. -/
theorem RAt.evs {w : World} {x V : Nat} {a : List (Int × Int)} (h : RAt w x V a) : ∃ A k, w.cell? ⟨x, 1, none⟩ = some (.slice A a.length k) ∧ EvAt w w.heap.size A a := by
  obtain ⟨B, rv, h⟩ := h
  obtain ⟨A, k, rfl⟩ := h.slice
  refine ⟨A, k, h.c1, fun hl => ?_⟩
  obtain ⟨q, c, e, hq, hc⟩ := h.cells hl
  cases e
  exact ⟨q, 0, rfl, hq, fun j hj => by rw [Nat.zero_add]; exact hc j hj⟩
theorem rat_last {w : World} {x V : Nat} {a : List (Int × Int)} (h : RAt w x V a) (hG : Good V a) (ha : a.length ≤ 40) (i : Nat) (vol m : Int) (hi : key V i = vol) :
    Calls Try.prog 16 #[.pointer (some ⟨x, 0, none⟩), .int .i64 vol, .int .u64 m] w fun e w' => e = .returned (.int .u64 (lastUp m (rowsOf V a i))) ∧ w = w' := by
  obtain ⟨B, rv, h⟩ := h
  subst hi
  rw [← last_rows hG]
  exact last_at h (key V i) m (by omega)
end Go.Proofs.Yteeokbcnjibpfaa.G
