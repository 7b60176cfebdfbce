/- Plain facts on needs that are taken one behind the other. -/
import Derived.Test.YtcflobbgnicncaaLShape
import Derived.OpenShut
namespace Go.Proofs.Ytcflobbgnicncaa.L
open Go.RowKit
set_option linter.unusedVariables false
set_option linter.unusedSimpArgs false
/-- A slice of numbers that came in: its cells lie below 'base'. -/
def IntsAt (k : IntKind) (w : World) (base : Nat) (A : Option Addr) (l : List Int) : Prop :=
  0 < l.length → ∃ b off, A = some ⟨b, off, none⟩ ∧ b < base ∧ ∀ j, j < l.length → w.cell? ⟨b, off + j, none⟩ = some (.int k (l.getD j 0))
theorem IntsAt.below {k : IntKind} {w w' : World} {base : Nat} {A : Option Addr} {l : List Int} (h : IntsAt k w base A l) (hb : Below base w w') : IntsAt k w' base A l := fun hl => by
  obtain ⟨b, off, e, hlt, hc⟩ := h hl
  exact ⟨b, off, e, hlt, fun j hj => (hb.cell (p := ⟨b, off + j, none⟩) hlt).trans (hc j hj)⟩
theorem intsAt_of {k : IntKind} {w : World} {a : Option Addr} {len cap : Nat} {zs : List Int} (h : (a = none ∧ len = 0 ∧ cap = 0 ∧ zs = []) ∨ ∃ x, a = some x ∧ len ≤ cap ∧ cap ≤ maxLen ∧ zs.length = cap ∧ (∀ i, i < zs.length → w.cell? (x.add i) = some (.int k (zs.getD i 0))) ∧ ∀ n ∈ zs, (Lit.int k n).wf = true) :
    ∃ l : List Int, len = l.length ∧ IntsAt k w w.heap.size a l ∧ l.length ≤ maxLen ∧ (∀ x ∈ l, (Lit.int k x).wf = true) := by
  rcases h with ⟨rfl, rfl, rfl, rfl⟩ | ⟨x, rfl, h1, h2, h3, h4, h5⟩
  · exact ⟨[], rfl, fun h => by simp at h, by simp, by simp⟩
  · refine ⟨zs.take len, by simp; omega, fun hl => ?_, by simp; omega, fun y hy => h5 y (List.mem_of_mem_take hy)⟩
    rw [List.length_take] at hl
    obtain ⟨b, off, e, hc⟩ := Go.ints_at h4 (by omega)
    subst e
    refine ⟨b, off, rfl, World.block_lt_of_cell? w _ (hc 0 (by omega)), fun j hj => ?_⟩
    rw [List.length_take] at hj
    rw [hc j (by omega)]
    simp only [List.getD_eq_getElem?_getD, List.getElem?_take]
    rw [if_pos (by omega)]
def sumL : List Int → Int
  | [] => 0
  | x :: xs => x + sumL xs
theorem sumL_append (l r : List Int) : sumL (l ++ r) = sumL l + sumL r := by
  induction l with
  | nil => simp [sumL]
  | cons a l ih => simp only [List.cons_append, sumL, ih]; omega
theorem sumL_bd (l : List Int) (h : ∀ x ∈ l, 0 ≤ x ∧ x ≤ 255) : 0 ≤ sumL l ∧ sumL l ≤ 255 * l.length := by
  induction l with
  | nil => simp [sumL]
  | cons a l ih =>
    have h1 := h a List.mem_cons_self
    have h2 := ih fun x hx => h x (List.mem_cons_of_mem _ hx)
    simp only [sumL, List.length_cons]; omega
/-- What is live behind some takings. -/
def tk (M : Int) : Int → List Int → Int
  | live, [] => live
  | live, x :: xs => tk M (if x ≤ M - live then live + x else live) xs
def al (M : Int) : Int → List Int → Bool
  | _, [] => true
  | live, x :: xs => decide (x ≤ M - live) && al M (if x ≤ M - live then live + x else live) xs
theorem tk_snoc (M : Int) : ∀ (l : List Int) (live x : Int), tk M live (l ++ [x]) = if x ≤ M - tk M live l then tk M live l + x else tk M live l
  | [], live, x => rfl
  | a :: l, live, x => by simp only [List.cons_append, tk]; exact tk_snoc M l _ x
theorem al_snoc (M : Int) : ∀ (l : List Int) (live x : Int), al M live (l ++ [x]) = (al M live l && decide (x ≤ M - tk M live l))
  | [], live, x => by simp only [List.nil_append, al, tk, Bool.true_and, Bool.and_true]; congr
  | a :: l, live, x => by simp only [List.cons_append, al, tk]; rw [al_snoc M l, Bool.and_assoc]; congr
theorem tk_bd (M : Int) : ∀ (l : List Int) (live : Int), (∀ x ∈ l, 0 ≤ x ∧ x ≤ 255) → 0 ≤ live → live ≤ M → 0 ≤ tk M live l ∧ tk M live l ≤ M
  | [], live, _, h0, h1 => ⟨h0, h1⟩
  | a :: l, live, h, h0, h1 => by
    have ha := h a List.mem_cons_self
    simp only [tk]
    split <;> exact tk_bd M l _ (fun x hx => h x (List.mem_cons_of_mem _ hx)) (by omega) (by omega)
theorem al_iff (M : Int) : ∀ (l : List Int) (live : Int), (∀ x ∈ l, 0 ≤ x ∧ x ≤ 255) → live ≤ M → (al M live l = true ↔ sumL l ≤ M - live) ∧ (al M live l = true → tk M live l = live + sumL l)
  | [], live, _, h1 => by simp only [al, tk, sumL, true_iff]; omega
  | a :: l, live, h, h1 => by
    have ha := h a List.mem_cons_self
    have hl := fun x hx => h x (List.mem_cons_of_mem _ hx)
    have hs := sumL_bd l hl
    simp only [al, tk, sumL]
    by_cases c : a ≤ M - live
    · rw [if_pos c]
      obtain ⟨i1, i2⟩ := al_iff M l (live + a) hl (by omega)
      simp only [c, decide_true, Bool.true_and]
      refine ⟨i1.trans (by omega), fun e => by rw [i2 e]; omega⟩
    · simp only [c, decide_false, Bool.false_and]
      refine ⟨by constructor <;> intro e <;> first | cases e | omega, fun e => by cases e⟩
/-- The needs, from number k on and round. -/
def rot (l : List Int) (k : Nat) : List Int := l.drop (k % l.length) ++ l.take (k % l.length)
theorem rot_len (l : List Int) (k : Nat) : (rot l k).length = l.length := by unfold rot; simp; omega
theorem rot_sum (l : List Int) (k : Nat) : sumL (rot l k) = sumL l := by
  unfold rot
  rw [sumL_append]
  have := sumL_append (l.take (k % l.length)) (l.drop (k % l.length))
  rw [List.take_append_drop] at this; omega
theorem rot_mem (l : List Int) (k : Nat) (x : Int) (h : x ∈ rot l k) : x ∈ l := by
  unfold rot at h
  rcases List.mem_append.1 h with h | h
  · exact List.mem_of_mem_drop h
  · exact List.mem_of_mem_take h
theorem rot_get (l : List Int) (k i : Nat) (hi : i < l.length) : (rot l k).getD i 0 = l.getD ((i + k) % l.length) 0 := by
  unfold rot
  have hk : k % l.length < l.length := Nat.mod_lt _ (by omega)
  have e : (i + k) % l.length = (i + k % l.length) % l.length := by rw [Nat.add_mod_mod]
  rw [e]
  generalize k % l.length = r at *
  simp only [List.getD_eq_getElem?_getD]
  by_cases c : i < l.length - r
  · rw [List.getElem?_append_left (by simp; omega), List.getElem?_drop, Nat.mod_eq_of_lt (by omega), Nat.add_comm]
  · rw [List.getElem?_append_right (by simp; omega), List.getElem?_take, List.length_drop]
    have e2 : (i + r) % l.length = i - (l.length - r) := by
      rw [show i + r = (i - (l.length - r)) + l.length by omega, Nat.add_mod_right, Nat.mod_eq_of_lt (by omega)]
    rw [e2, if_pos (by omega)]
theorem take_snoc (l : List Int) (i : Nat) (h : i < l.length) : l.take (i + 1) = l.take i ++ [l.getD i 0] := by
  rw [List.take_succ_eq_append_getElem h, List.getD_eq_getElem?_getD, List.getElem?_eq_getElem h]; rfl
theorem getD_mem (l : List Int) (i : Nat) (h : i < l.length) : l.getD i 0 ∈ l := by
  rw [List.getD_eq_getElem?_getD, List.getElem?_eq_getElem h]; exact List.getElem_mem h
theorem getD_at (l : List Int) (k : Nat) (h : k < l.length) : l.getD k 0 = l[k] := by
  rw [List.getD_eq_getElem?_getD, List.getElem?_eq_getElem h]; rfl
theorem takeL_at (l : List Int) (i : Nat) (h : i < l.length) : l.take (i + 1) = l.take i ++ [l[i]] := List.take_succ_eq_append_getElem h
/-- A cell of it, in the walk's own form. -/
theorem IntsAt.get {k : IntKind} {w : World} {base : Nat} {A : Option Addr} {l : List Int} (h : IntsAt k w base A l) (i : Nat) (hi : i < l.length) :
    ∃ b off, A = some ⟨b, off, none⟩ ∧ b < base ∧ w.cell? ⟨b, off + i, none⟩ = some (.int k l[i]) := by
  obtain ⟨b, off, e, hb, hc⟩ := h (by omega)
  exact ⟨b, off, e, hb, by rw [hc i hi, getD_at l i hi]⟩
end Go.Proofs.Ytcflobbgnicncaa.L
