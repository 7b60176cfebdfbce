/- A tree stays where a list changes; a tree is not high. -/
import Derived.Test.YtjeebbolnanmkaaNRPutH
import Derived.Test.YtjeebbolnanmkaaNGrow
namespace Go.Proofs.Ytjeebbolnanmkaa.N
open Go.RowKit Go.Proofs.YtjeebbolnanmkaaW.PrintMore Go.Proofs.YtjeebbolnanmkaaW.PrintWords
set_option linter.unusedVariables false
set_option linter.unusedSimpArgs false
/-- The block of a list. -/
def LBlock (w : World) (L : Nat) : Prop := ∃ a n c a' n' c', w.heap[L]? = some (.cells #[.slice a n c, .slice a' n' c'] 34 (0, 0))
theorem ListE.block {w : World} {L : Nat} {l : List Ent} (h : ListE w L l) : LBlock w L := by
  obtain ⟨kv, vv, h⟩ := h
  have hp := h.hp
  rcases row_form h.keys with ⟨e, _⟩ | ⟨g, c, e, _⟩ <;> rcases row_form h.vals with ⟨e', _⟩ | ⟨g', c', e', _⟩ <;> subst e e' <;> exact ⟨_, _, _, _, _, _, hp⟩
theorem cell_apart {w : World} {L b off : Nat} {v : Value} (hL : LBlock w L) (h : w.cell? ⟨b, off, none⟩ = some v) (hv : ∀ a n c, v ≠ .slice a n c) : b ≠ L := by
  rintro rfl
  obtain ⟨a, n, c, a', n', c', hp⟩ := hL
  simp only [World.cell?, hp] at h
  match off with
  | 0 => exact hv a n c (by simpa using h.symm)
  | 1 => exact hv a' n' c' (by simpa using h.symm)
  | k + 2 => simp at h
theorem node_apart {w : World} {L p : Nat} {x y z : Value} (hL : LBlock w L) (h : w.heap[p]? = some (.cells #[x, y, z] 39 (0, 0))) : p ≠ L := by
  rintro rfl
  obtain ⟨a, n, c, a', n', c', hp⟩ := hL
  rw [hp] at h
  simp at h
section
variable {w w' : World} {L : Nat} (hL : LBlock w L) (hg : w.grownBy w' (some L))
include hL hg
theorem cell_grown {b off : Nat} {v : Value} (hb : b < w.heap.size) (h : w.cell? ⟨b, off, none⟩ = some v) (hv : ∀ a n c, v ≠ .slice a n c) : w'.cell? ⟨b, off, none⟩ = some v :=
  (World.cell?_of_block (hg.block b hb (fun e => cell_apart hL h hv (by injection e)))).trans h
theorem SpotsAt.grownL {A : Option Addr} {l : List Sp} (h : SpotsAt w A l) : SpotsAt w' A l := fun hl => by
  obtain ⟨b, off, e, hlt, hc⟩ := h hl
  have hz := hg.size
  exact ⟨b, off, e, by omega, fun j hj => by
    obtain ⟨a0, a1, a2, a3⟩ := hc j hj
    exact ⟨cell_grown hL hg hlt a0 (fun _ _ _ e => by cases e), cell_grown hL hg hlt a1 (fun _ _ _ e => by cases e), cell_grown hL hg hlt a2 (fun _ _ _ e => by cases e), cell_grown hL hg hlt a3 (fun _ _ _ e => by cases e)⟩⟩
theorem ValsAt.grownL {A : Option Addr} {l : List Int} (h : ValsAt w A l) : ValsAt w' A l := fun hl => by
  obtain ⟨b, off, e, hlt, hc⟩ := h hl
  have hz := hg.size
  exact ⟨b, off, e, by omega, fun j hj => cell_grown hL hg hlt (hc j hj) (fun _ _ _ e => by cases e)⟩
theorem KidsAt.grownL {A : Option Addr} {l : List Nat} (h : KidsAt w A l) : KidsAt w' A l := fun hl => by
  obtain ⟨b, off, e, hlt, hc⟩ := h hl
  have hz := hg.size
  exact ⟨b, off, e, by omega, fun j hj => cell_grown hL hg hlt (hc j hj) (fun _ _ _ e => by cases e)⟩
theorem Leaf.grownL {p : Nat} {ks : List Sp} {vs : List Int} (h : Leaf w p ks vs) : Leaf w' p ks vs := by
  obtain ⟨A, ca, B, cb, h⟩ := h
  exact ⟨A, ca, B, cb, { h with hp := (hg.block p h.lt (fun e => node_apart hL h.hp (by injection e))).trans h.hp, keys := h.keys.grownL hL hg, vals := h.vals.grownL hL hg }⟩
theorem Inner.grownL {p : Nat} {ks : List Sp} {qs : List Nat} (h : Inner w p ks qs) : Inner w' p ks qs := by
  obtain ⟨A, ca, B, cb, h⟩ := h
  exact ⟨A, ca, B, cb, { h with hp := (hg.block p h.lt (fun e => node_apart hL h.hp (by injection e))).trans h.hp, keys := h.keys.grownL hL hg, kids := h.kids.grownL hL hg }⟩
theorem Nd.grownL : ∀ {h p n : Nat} {l : List Ent}, Nd w h p l n → Nd w' h p l n
  | 0, p, n, l, hn => ⟨hn.1, hn.2.grownL hL hg⟩
  | h + 1, p, n, l, hn => by
    obtain ⟨qs, ls, a, b, c, d⟩ := nd_succ.1 hn
    exact nd_succ.2 ⟨qs, ls, a, b, c.grownL hL hg, d.imp (fun q m hk => by obtain ⟨s, s1, s2, s3⟩ := hk; exact ⟨s, s1, s2, Nd.grownL s3⟩)⟩
theorem RootAt.grownL {r : Option Addr} {l : List Ent} (h : RootAt w r l) : RootAt w' r l := by
  rcases h with h | ⟨q, h, n, a, b, c⟩
  · exact .inl h
  · exact .inr ⟨q, h, n, a, b.grownL hL hg, c⟩
end
theorem all2_sum {w : World} {h : Nat} (ih : ∀ {p n : Nat} {l : List Ent}, Nd w h p l n → 0 < n → (0 < h → 2 ≤ n) → 2 ^ h ≤ l.length) : ∀ {qs : List Nat} {ls : List (List Ent)}, All2 (Kid w h 2) qs ls → ls.length * 2 ^ h ≤ ls.flatten.length
  | [], [], _ => by simp
  | q :: qs, l :: ls, hk => by
    obtain ⟨⟨s, s1, s2, s3⟩, ht⟩ := hk
    have a := ih s3 (by omega) (fun _ => s1)
    have b := all2_sum (fun {p n l} => @ih p n l) ht
    rw [List.flatten_cons, List.length_append, List.length_cons, Nat.succ_mul]
    omega
  | [], _ :: _, hk => hk.elim
  | _ :: _, [], hk => hk.elim
theorem Nd.high {w : World} : ∀ {h p n : Nat} {l : List Ent}, Nd w h p l n → 0 < n → (0 < h → 2 ≤ n) → 2 ^ h ≤ l.length
  | 0, p, n, l, hn, h0, _ => by have := hn.1; simp; omega
  | h + 1, p, n, l, hn, h0, h2 => by
    obtain ⟨qs, ls, a, b, c, d⟩ := nd_succ.1 hn
    have hs := all2_sum (fun {p n l} (x : Nd w h p l n) y z => Nd.high x y z) d
    have := d.length
    have h2' := h2 (by omega)
    have hm : 2 * 2 ^ h ≤ ls.length * 2 ^ h := Nat.mul_le_mul_right _ (by omega)
    rw [b, Nat.pow_succ]
    omega
end Go.Proofs.Ytjeebbolnanmkaa.N
