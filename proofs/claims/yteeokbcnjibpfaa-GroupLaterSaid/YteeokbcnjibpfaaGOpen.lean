/- A slice of events, and a slice of numbers, that came in. -/
import Derived.Test.YteeokbcnjibpfaaGAwake
import Derived.Deep.Slices
import Derived.Deep.Fields
import Derived.ChangeSame
namespace Go.Proofs.Yteeokbcnjibpfaa.G
open Go.ChangeShapes Go.WideShapes Go.Deep Go.RowKit
set_option linter.unusedVariables false
set_option linter.unusedSimpArgs false
section
variable {H : Type} {enc : TypeId × Value → H} {P : Program} {w : World} {base : Nat} {spare : Nat → Bool} {held : Bool}
/-- A slice of structs of two cells, two numbers. -/
theorem open_events {t e b i : TypeId} {o0 o1 : Field} {fuel : Nat} {cs : List Value} {x : DataW H × List MemPlace} (ht : P.underlying t = some (.slice e)) (he : P.underlying e = some (.struct #[o0, o1]))
    (hone : oneCellFields P #[o0, o1] = true) (hC : P.cellsOf e = 2) (h0 : P.underlying o0.type = some (.int .i64)) (h1 : P.underlying o1.type = some (.int .u64)) (h : DataW.trod enc P w base spare held fuel t cs = some x) :
    cs = [.slice none 0 0] ∨
    ∃ (a : Addr) (len cap : Nat) (V : Nat → Int) (N : Nat → Int), cs = [.slice (some a) len cap] ∧ len ≤ cap ∧ cap ≤ maxLen ∧
      ∀ j, j < len → w.cell? (a.add (j * 2)) = some (.int .i64 (V j)) ∧ w.cell? (a.add (j * 2 + 1)) = some (.int .u64 (N j)) ∧ (Lit.int .i64 (V j)).wf = true ∧ (Lit.int .u64 (N j)).wf = true := by
  rcases open_slice ht h with h0' | ⟨a, len, cap, m, n, D, Pl, hcs, hb, hl, hm, hmm, hx, hi⟩
  · exact .inl h0'.1
  · right
    have hml : len ≤ m := by rw [hmm]; split <;> omega
    have key : ∀ j, j < len → ∃ vn : Int × Int, w.cell? (a.add (j * 2)) = some (.int .i64 vn.1) ∧ w.cell? (a.add (j * 2 + 1)) = some (.int .u64 vn.2) ∧ (Lit.int .i64 vn.1).wf = true ∧ (Lit.int .u64 vn.2).wf = true := fun j hj => by
      obtain ⟨cs', hc, ht'⟩ := hi j (by omega)
      rw [hC] at hc
      obtain ⟨ys, n', hn', hy, hlen, hyl, hf⟩ := DataW.trod_struct he ht'
      obtain ⟨_, hcl, hat⟩ := World.cells?_some hc
      obtain ⟨p0, k0⟩ := hone_of hone 0 o0 rfl
      obtain ⟨p1, k1⟩ := hone_of hone 1 o1 rfl
      match cs', hcl with
      | [c0, c1], _ =>
        have e0 := hf 0 o0 rfl
        have e1 := hf 1 o1 rfl
        rw [p0, k0] at e0
        rw [p1, k1] at e1
        simp at e0 e1
        obtain ⟨y0, r0⟩ : ∃ y, ys[0]? = some y := ⟨_, List.getElem?_eq_getElem (by rw [hyl]; simp)⟩
        obtain ⟨y1, r1⟩ : ∃ y, ys[1]? = some y := ⟨_, List.getElem?_eq_getElem (by rw [hyl]; simp)⟩
        rw [r0] at e0
        rw [r1] at e1
        obtain ⟨v, q0, _, wv⟩ := DataW.trod_int h0 e0
        obtain ⟨z, q1, _, wz⟩ := DataW.trod_int h1 e1
        simp at q0 q1
        subst q0 q1
        have a0 := hat 0 (by omega)
        have a1 := hat 1 (by omega)
        rw [Go.Deep.add_add] at a0 a1
        exact ⟨(v, z), by simpa using a0, by simpa using a1, wv, wz⟩
    refine ⟨a, len, cap, fun j => if h : j < len then (Classical.choose (key j h)).1 else 0, fun j => if h : j < len then (Classical.choose (key j h)).2 else 0, hcs, hl, hm, fun j hj => ?_⟩
    simp only [dif_pos hj]
    exact Classical.choose_spec (key j hj)
end
theorem wf_i64 {n : Int} (h : (Lit.int .i64 n).wf = true) : -9223372036854775808 ≤ n ∧ n ≤ 9223372036854775807 := by
  simp [Lit.wf, IntKind.min, IntKind.max, IntKind.bits, IntKind.signed] at h
  omega
theorem wf_u64 {n : Int} (h : (Lit.int .u64 n).wf = true) : 0 ≤ n ∧ n ≤ 18446744073709551615 := by
  simp [Lit.wf, IntKind.min, IntKind.max, IntKind.bits, IntKind.signed] at h
  omega
theorem evAt_of {w : World} {cs : List Value} (h : cs = [.slice none 0 0] ∨
    ∃ (a : Addr) (len cap : Nat) (V : Nat → Int) (N : Nat → Int), cs = [.slice (some a) len cap] ∧ len ≤ cap ∧ cap ≤ maxLen ∧
      ∀ j, j < len → w.cell? (a.add (j * 2)) = some (.int .i64 (V j)) ∧ w.cell? (a.add (j * 2 + 1)) = some (.int .u64 (N j)) ∧ (Lit.int .i64 (V j)).wf = true ∧ (Lit.int .u64 (N j)).wf = true) :
    ∃ (A : Option Addr) (cap : Nat) (l : List (Int × Int)), cs = [.slice A l.length cap] ∧ l.length ≤ maxLen ∧ EvAt w w.heap.size A l ∧ Ranged l := by
  rcases h with rfl | ⟨a, len, cap, V, N, rfl, h1, h2, hc⟩
  · exact ⟨none, 0, [], rfl, by simp, fun h => by simp at h, fun i h => by simp at h⟩
  · refine ⟨some a, cap, (List.range len).map fun j => (V j, N j), by simp, by simp; omega, fun hl => ?_, fun i hi => ?_⟩
    · simp at hl
      obtain ⟨b, off, spot⟩ := a
      have hspot : spot = none := by simpa [Addr.add] using World.cell?_spot (hc 0 hl).1
      subst hspot
      have lt := World.block_lt_of_cell? w _ (hc 0 hl).1
      refine ⟨b, off, rfl, by simpa [Addr.add] using lt, fun j hj => ?_⟩
      simp at hj
      obtain ⟨c0, c1, _⟩ := hc j hj
      rw [Go.WideShapes.add_plain] at c0 c1
      simp only [List.getElem_map, List.getElem_range]
      exact ⟨c0, by rw [Nat.add_assoc]; exact c1⟩
    · simp only [List.getElem_map, List.getElem_range]
      simp at hi
      obtain ⟨_, _, q0, q1⟩ := hc i hi
      exact ⟨wf_i64 q0, wf_u64 q1⟩
/-- A slice of numbers that came in. -/
theorem numsAt_of {H : Type} {enc : TypeId × Value → H} {P : Program} {w : World} {base : Nat} {spare : Nat → Bool} {held : Bool} {t e : TypeId} {fuel : Nat} {cs : List Value} {x : DataW H × List MemPlace} (ht : P.underlying t = some (.slice e)) (he : P.underlying e = some (.int .u64)) (hc : P.cellsOf e = 1) (h : DataW.trod enc P w base spare held fuel t cs = some x) :
    ∃ (A : Option Addr) (cap : Nat) (l : List Int), cs = [.slice A l.length cap] ∧ l.length ≤ maxLen ∧ NumsAt w w.heap.size A l ∧ ∀ i (h : i < l.length), 0 ≤ l[i] ∧ l[i] ≤ 18446744073709551615 := by
  rcases open_ints ht he hc h with ⟨rfl, _⟩ | ⟨a, len, cap, zs, rfl, _, h1, h2, hz, _, hcell, hwz⟩
  · exact ⟨none, 0, [], rfl, by simp, fun h => by simp at h, fun i h => by simp at h⟩
  · have hzl : len ≤ zs.length := by rw [hz]; split <;> omega
    have e : (zs.take len).length = len := by simp; omega
    refine ⟨some a, cap, zs.take len, by rw [e], by rw [e]; omega, fun hl => ?_, fun i hi => ?_⟩
    · rw [e] at hl
      obtain ⟨b, off, spot⟩ := a
      have c0 := hcell 0 (by omega)
      have hspot : spot = none := by simpa [Addr.add] using World.cell?_spot c0
      subst hspot
      have lt := World.block_lt_of_cell? w _ c0
      refine ⟨b, off, rfl, by simpa [Addr.add] using lt, fun j hj => ?_⟩
      rw [e] at hj
      have := hcell j (by omega)
      rw [Go.WideShapes.add_plain] at this
      rw [this]
      simp [List.getD_eq_getElem?_getD, List.getElem?_eq_getElem (show j < zs.length by omega)]
    · rw [e] at hi
      rw [List.getElem_take]
      exact wf_u64 (hwz _ (List.getElem_mem _))
end Go.Proofs.Yteeokbcnjibpfaa.G
