/- A slice of acts that came in, and what acts do to an account. -/
import Derived.Test.YtcflobbgnicncaaLNums
import Derived.Deep.Slices
import Derived.Deep.Fields
import Derived.ChangeSame
namespace Go.Proofs.Ytcflobbgnicncaa.L
open Go.ChangeShapes Go.WideShapes Go.Deep Go.RowKit
set_option linter.unusedVariables false
set_option linter.unusedSimpArgs false
section
variable {H : Type} {enc : TypeId × Value → H} {P : Program} {w : World} {base : Nat} {spare : Nat → Bool} {held : Bool}
/-- A slice of structs of two cells, a bool and a number. -/
theorem open_acts {t e b i : TypeId} {o0 o1 : Field} {fuel : Nat} {cs : List Value} {x : DataW H × List MemPlace} (ht : P.underlying t = some (.slice e)) (he : P.underlying e = some (.struct #[o0, o1]))
    (hone : oneCellFields P #[o0, o1] = true) (hC : P.cellsOf e = 2) (h0 : P.underlying o0.type = some .bool) (h1 : P.underlying o1.type = some (.int .i64)) (h : DataW.trod enc P w base spare held fuel t cs = some x) :
    cs = [.slice none 0 0] ∨
    ∃ (a : Addr) (len cap : Nat) (V : Nat → Bool) (N : Nat → Int), cs = [.slice (some a) len cap] ∧ len ≤ cap ∧ cap ≤ maxLen ∧
      ∀ j, j < len → w.cell? (a.add (j * 2)) = some (.bool (V j)) ∧ w.cell? (a.add (j * 2 + 1)) = some (.int .i64 (N j)) ∧ (Lit.int .i64 (N j)).wf = true := by
  rcases open_slice ht h with h0' | ⟨a, len, cap, m, n, D, Pl, hcs, hb, hl, hm, hmm, hx, hi⟩
  · exact .inl h0'.1
  · right
    have hml : len ≤ m := by rw [hmm]; split <;> omega
    have key : ∀ j, j < len → ∃ vn : Bool × Int, w.cell? (a.add (j * 2)) = some (.bool vn.1) ∧ w.cell? (a.add (j * 2 + 1)) = some (.int .i64 vn.2) ∧ (Lit.int .i64 vn.2).wf = true := fun j hj => by
      obtain ⟨cs', hc, ht'⟩ := hi j (by omega)
      rw [hC] at hc
      obtain ⟨ys, n', hn', hy, hlen, hyl, hf⟩ := DataW.trod_struct he ht'
      obtain ⟨_, hcl, hat⟩ := World.cells?_some hc
      obtain ⟨p0, k0⟩ := hone_of hone 0 o0 rfl
      obtain ⟨p1, k1⟩ := hone_of hone 1 o1 rfl
      match cs', hcl with
      | [c0, c1], _ =>
        have e0 := hf 0 o0 rfl
        have e1 := hf 1 o1 rfl
        rw [p0, k0] at e0
        rw [p1, k1] at e1
        simp at e0 e1
        obtain ⟨y0, r0⟩ : ∃ y, ys[0]? = some y := ⟨_, List.getElem?_eq_getElem (by rw [hyl]; simp)⟩
        obtain ⟨y1, r1⟩ : ∃ y, ys[1]? = some y := ⟨_, List.getElem?_eq_getElem (by rw [hyl]; simp)⟩
        rw [r0] at e0
        rw [r1] at e1
        obtain ⟨v, q0, _⟩ := DataW.trod_bool h0 e0
        obtain ⟨z, q1, _, wz⟩ := DataW.trod_int h1 e1
        simp at q0 q1
        subst q0 q1
        have a0 := hat 0 (by omega)
        have a1 := hat 1 (by omega)
        rw [Go.Deep.add_add] at a0 a1
        exact ⟨(v, z), by simpa using a0, by simpa using a1, wz⟩
    refine ⟨a, len, cap, fun j => if h : j < len then (Classical.choose (key j h)).1 else false, fun j => if h : j < len then (Classical.choose (key j h)).2 else 0, hcs, hl, hm, fun j hj => ?_⟩
    simp only [dif_pos hj]
    exact Classical.choose_spec (key j hj)
end
/-- The acts that came in, below 'base'. -/
def ActsAt (w : World) (base : Nat) (A : Option Addr) (l : List (Bool × Int)) : Prop :=
  0 < l.length → ∃ b off, A = some ⟨b, off, none⟩ ∧ b < base ∧ ∀ j (h : j < l.length), w.cell? ⟨b, off + j * 2, none⟩ = some (.bool l[j].1) ∧ w.cell? ⟨b, off + j * 2 + 1, none⟩ = some (.int .i64 l[j].2)
theorem ActsAt.below {w w' : World} {base : Nat} {A : Option Addr} {l : List (Bool × Int)} (h : ActsAt w base A l) (hb : Below base w w') : ActsAt w' base A l := fun hl => by
  obtain ⟨b, off, e, hlt, hc⟩ := h hl
  refine ⟨b, off, e, hlt, fun j hj => ⟨(hb.cell (p := ⟨b, _, none⟩) hlt).trans (hc j hj).1, (hb.cell (p := ⟨b, _, none⟩) hlt).trans (hc j hj).2⟩⟩
theorem actsAt_of {w : World} {cs : List Value} (h : cs = [.slice none 0 0] ∨
    ∃ (a : Addr) (len cap : Nat) (V : Nat → Bool) (N : Nat → Int), cs = [.slice (some a) len cap] ∧ len ≤ cap ∧ cap ≤ maxLen ∧
      ∀ j, j < len → w.cell? (a.add (j * 2)) = some (.bool (V j)) ∧ w.cell? (a.add (j * 2 + 1)) = some (.int .i64 (N j)) ∧ (Lit.int .i64 (N j)).wf = true) :
    ∃ (A : Option Addr) (cap : Nat) (l : List (Bool × Int)), cs = [.slice A l.length cap] ∧ l.length ≤ maxLen ∧ ActsAt w w.heap.size A l ∧ ∀ x ∈ l, -9223372036854775808 ≤ x.2 ∧ x.2 ≤ 9223372036854775807 := by
  rcases h with rfl | ⟨a, len, cap, V, N, rfl, h1, h2, hc⟩
  · exact ⟨none, 0, [], rfl, by simp, fun h => by simp at h, by simp⟩
  · refine ⟨some a, cap, (List.range len).map fun j => (V j, N j), by simp, by simp; omega, fun hl => ?_, fun x hx => ?_⟩
    · simp at hl
      obtain ⟨b, off, spot⟩ := a
      have hspot : spot = none := by simpa [Addr.add] using World.cell?_spot (hc 0 hl).1
      subst hspot
      have lt := World.block_lt_of_cell? w _ (hc 0 hl).1
      refine ⟨b, off, rfl, by simpa [Addr.add] using lt, fun j hj => ?_⟩
      simp at hj
      obtain ⟨c0, c1, _⟩ := hc j hj
      rw [Go.WideShapes.add_plain] at c0 c1
      simp only [List.getElem_map, List.getElem_range]
      exact ⟨c0, by rw [Nat.add_assoc]; exact c1⟩
    · simp at hx
      obtain ⟨j, hj, rfl⟩ := hx
      have := (hc j hj).2.2
      simp [Lit.wf, IntKind.min, IntKind.max, IntKind.bits, IntKind.signed] at this
      show -9223372036854775808 ≤ N j ∧ N j ≤ 9223372036854775807
      omega
/-- What is live behind some acts. -/
def stp (M live : Int) (x : Bool × Int) : Int := if x.1 then giveL live x.2 else takeL M live x.2
def run (M : Int) : Int → List (Bool × Int) → Int
  | live, [] => live
  | live, x :: xs => run M (stp M live x) xs
theorem run_snoc (M : Int) : ∀ (l : List (Bool × Int)) (live : Int) (x : Bool × Int), run M live (l ++ [x]) = stp M (run M live l) x
  | [], _, _ => rfl
  | a :: l, live, x => by simp only [List.cons_append, run]; exact run_snoc M l _ x
theorem stp_bd (M live : Int) (x : Bool × Int) (h0 : 0 ≤ live) (h1 : live ≤ M) : 0 ≤ stp M live x ∧ stp M live x ≤ M := by
  unfold stp giveL takeL
  split <;> (split <;> first | omega | (split <;> omega))
theorem run_bd (M : Int) : ∀ (l : List (Bool × Int)) (live : Int), 0 ≤ live → live ≤ M → 0 ≤ run M live l ∧ run M live l ≤ M
  | [], live, h0, h1 => ⟨h0, h1⟩
  | a :: l, live, h0, h1 => by
    simp only [run]
    have := stp_bd M live a h0 h1
    exact run_bd M l _ this.1 this.2
end Go.Proofs.Ytcflobbgnicncaa.L
