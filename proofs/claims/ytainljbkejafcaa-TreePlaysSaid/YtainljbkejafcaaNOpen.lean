/- A spot, slices of spots, and of whatever has a fixed form, that came in. -/
import Derived.Test.YtainljbkejafcaaNLeaf
import Derived.Deep.Slices
import Derived.Deep.Fields
import Derived.Deep.Strs
import Derived.ChangeSame
import Derived.Lib.SmallJoins
namespace Go.Proofs.Ytainljbkejafcaa.N
open Go.ChangeShapes Go.WideShapes Go.Deep Go.RowKit Go.Joins
set_option linter.unusedVariables false
set_option linter.unusedSimpArgs false
theorem wf_i64 {n : Int} (h : (Lit.int .i64 n).wf = true) : -9223372036854775808 ≤ n ∧ n ≤ 9223372036854775807 := by
  simp [Lit.wf, IntKind.min, IntKind.max, IntKind.bits, IntKind.signed] at h
  omega
theorem wf_u64 {n : Int} (h : (Lit.int .u64 n).wf = true) : 0 ≤ n ∧ n ≤ 18446744073709551615 := by
  simp [Lit.wf, IntKind.min, IntKind.max, IntKind.bits, IntKind.signed] at h
  omega
section
variable {H : Type} {enc : TypeId × Value → H} {P : Program} {w : World} {base : Nat} {spare : Nat → Bool} {held : Bool}
theorem open_rows {α : Type} (E : α → List Value) (ok : α → Prop) (k : Nat) {t e : TypeId} {fuel : Nat} {cs : List Value} {x : DataW H × List MemPlace} (ht : P.underlying t = some (.slice e)) (hk : P.cellsOf e = k)
    (k0 : ∀ s, 0 < (E s).length)
    (hdec : ∀ fuel cs x, DataW.trod enc P w base spare held fuel e cs = some x → ∃ s, cs = E s ∧ ok s) (h : DataW.trod enc P w base spare held fuel t cs = some x) :
    ∃ (A : Option Addr) (cap : Nat) (l : List α), cs = [.slice A l.length cap] ∧ l.length ≤ cap ∧ cap ≤ maxLen ∧
      (0 < l.length → ∃ b off, A = some ⟨b, off, none⟩ ∧ b < w.heap.size ∧ ∀ j (h : j < l.length) i u, (E l[j])[i]? = some u → w.cell? ⟨b, off + j * k + i, none⟩ = some u) ∧ ∀ j (h : j < l.length), ok l[j] := by
  rcases open_slice ht h with h0' | ⟨a, len, cap, m, n, D, Pl, hcs, hb, hl, hm, hmm, hx, hi⟩
  · exact ⟨none, 0, [], h0'.1, Nat.le_refl _, Nat.zero_le _, fun h => absurd h (by simp), fun j h => absurd h (by simp)⟩
  · have hml : len ≤ m := by rw [hmm]; split <;> omega
    have key : ∀ j, j < len → ∃ s : α, ok s ∧ ∀ i u, (E s)[i]? = some u → w.cell? ((a.add (j * k)).add i) = some u := fun j hj => by
      obtain ⟨cs', hc, ht'⟩ := hi j (by omega)
      rw [hk] at hc
      obtain ⟨_, hcl, hat⟩ := World.cells?_some hc
      obtain ⟨s, rfl, hs⟩ := hdec _ _ _ ht'
      refine ⟨s, hs, fun i u hu => ?_⟩
      have hil := (List.getElem?_eq_some_iff.1 hu).1
      have := hat i (by omega)
      rw [this, hu]
    by_cases hz : len = 0
    · subst hz
      exact ⟨some a, cap, [], hcs, by simp, hm, fun h => absurd h (by simp), fun j h => absurd h (by simp)⟩
    · refine ⟨some a, cap, (List.range len).attach.map fun j => Classical.choose (key j.1 (List.mem_range.1 j.2)), by simpa using hcs, by simpa using hl, hm, fun _ => ?_, fun j h => ?_⟩
      · obtain ⟨b, off, spot⟩ := a
        obtain ⟨s0, _, h0⟩ := key 0 (by omega)
        have c0 := h0 0 _ (List.getElem?_eq_getElem (k0 s0))
        have hspot : spot = none := by simpa [Addr.add] using World.cell?_spot c0
        subst hspot
        have lt := World.block_lt_of_cell? w _ c0
        refine ⟨b, off, rfl, by simpa [Addr.add] using lt, fun j hj i u hu => ?_⟩
        simp only [List.getElem_map, List.getElem_attach, List.getElem_range] at hu
        have := (Classical.choose_spec (key j (by simpa using hj))).2 i u hu
        rw [Go.WideShapes.add_plain, Go.WideShapes.add_plain] at this
        exact this
      · simp only [List.getElem_map, List.getElem_attach, List.getElem_range]
        exact (Classical.choose_spec (key j (by simpa using h))).1
end
/-- What a spot's numbers are. -/
def Sp.ok (s : Sp) : Prop := (-9223372036854775808 ≤ s.br ∧ s.br ≤ 9223372036854775807) ∧ (-9223372036854775808 ≤ s.vol ∧ s.vol ≤ 9223372036854775807) ∧ (-9223372036854775808 ≤ s.blk ∧ s.blk ≤ 9223372036854775807) ∧ (0 ≤ s.num ∧ s.num ≤ 18446744073709551615)
section
variable {H : Type} {enc : TypeId × Value → H} {w : World} {base : Nat} {spare : Nat → Bool} {held : Bool}
theorem list4 {α : Type} {l : List α} (h : l.length = 4) : ∃ a b c d, l = [a, b, c, d] := by
  match l, h with
  | [a, b, c, d], _ => exact ⟨a, b, c, d, rfl⟩
set_option maxRecDepth 100000 in
theorem sp_of {fuel : Nat} {cs : List Value} {x : DataW H × List MemPlace} (h : DataW.trod enc Try.prog w base spare held fuel 26 cs = some x) : ∃ s : Sp, cs = s.cs ∧ s.ok := by
  obtain ⟨y0, y1, n, rfl, hl, h0, h1⟩ := trod_struct2 Try.underlying26 h
  have hc : Try.prog.cellsOf 26 = 4 := by kernel_rfl
  have hp : Try.prog.cellsOf 23 = 3 := by kernel_rfl
  have hi : Try.prog.cellsOf 3 = 1 := by kernel_rfl
  have hu : Try.prog.cellsOf 24 = 1 := by kernel_rfl
  rw [hc] at hl
  obtain ⟨c0, c1, c2, c3, rfl⟩ := list4 hl
  simp only [hp, hu] at h0 h1
  obtain ⟨z0, z1, z2, m, rfl, _, g0, g1, g2⟩ := trod_struct3 Try.underlying23 h0
  simp only [hi] at g0 g1 g2
  obtain ⟨n0, e0, _, w0⟩ := DataW.trod_int Try.underlying3 g0
  obtain ⟨n1, e1, _, w1⟩ := DataW.trod_int Try.underlying3 g1
  obtain ⟨n2, e2, _, w2⟩ := DataW.trod_int Try.underlying3 g2
  obtain ⟨n3, e3, _, w3⟩ := DataW.trod_int Try.underlying24 h1
  simp at e0 e1 e2 e3
  subst e0 e1 e2 e3
  exact ⟨⟨n0, n1, n2, n3⟩, rfl, wf_i64 w0, wf_i64 w1, wf_i64 w2, wf_u64 w3⟩
set_option maxRecDepth 100000 in
theorem open_spot {r : Reach} {b0 : Nat} {v : Value} {d : DataW H} {p : List MemPlace} (hv : Value.okWide Try.prog w r b0 26 v) (h : DataW.Trod enc Try.prog w base spare held 26 v d p) : ∃ s : Sp, v = s.v ∧ s.ok := by
  obtain ⟨cs, rfl, _⟩ := okWide_struct Try.underlying26 hv
  obtain ⟨fuel, hf⟩ := h
  obtain ⟨s, hs, ho⟩ := sp_of hf
  refine ⟨s, ?_, ho⟩
  have : cs.toList = s.cs := by simpa [Value.cells] using hs
  unfold Sp.v
  rw [← Array.toArray_toList (xs := cs), this]
  rfl
/-- A slice of spots that came in. -/
theorem open_spots {fuel : Nat} {cs : List Value} {x : DataW H × List MemPlace} (h : DataW.trod enc Try.prog w base spare held fuel 30 cs = some x) :
    ∃ (A : Option Addr) (cap : Nat) (l : List Sp), cs = [.slice A l.length cap] ∧ l.length ≤ cap ∧ cap ≤ maxLen ∧ SpotsAt w A l ∧ ∀ j (h : j < l.length), l[j].ok := by
  obtain ⟨A, cap, l, h1, h2, h3, h4, h5⟩ := open_rows Sp.cs Sp.ok 4 Try.underlying30 (by kernel_rfl) (fun s => by simp [Sp.cs]) (fun _ _ _ h => sp_of h) h
  refine ⟨A, cap, l, h1, h2, h3, fun hl => ?_, h5⟩
  obtain ⟨b, off, e, hlt, hc⟩ := h4 hl
  exact ⟨b, off, e, hlt, fun j hj => ⟨hc j hj 0 _ rfl, hc j hj 1 _ rfl, hc j hj 2 _ rfl, hc j hj 3 _ rfl⟩⟩
end
end Go.Proofs.Ytainljbkejafcaa.N
