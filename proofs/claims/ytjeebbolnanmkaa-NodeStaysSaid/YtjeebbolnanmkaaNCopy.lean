/- A copy of a list: two rows and a block that come in any order. -/
import Derived.Test.YtjeebbolnanmkaaNSame
import Derived.Test.YtjeebbolnanmkaaNApp
namespace Go.Proofs.Ytjeebbolnanmkaa.N
open Go.RowKit Go.Proofs.YtjeebbolnanmkaaW.PrintMore Go.Proofs.YtjeebbolnanmkaaW.PrintWords
set_option linter.unusedVariables false
set_option linter.unusedSimpArgs false
section
variable {P : Program} {l : List Oper} {Q : Exit → Act → World → Prop} {md : Region.Mode} {S : World → Prop} {z : Nat}
/-- Three may come up. -/
theorem E_three {i j m : Nat} {o u x : Oper} {fuel : Nat} {listed : Array Bool} {a : Act} {w : World} (hi : l[i]? = some o) (hj : l[j]? = some u) (hm : l[m]? = some x) (hr : Region.ready md l.toArray listed = [i, j, m])
    (hw : Region.wanted o (yielded l.toArray a.tmps) = true) (hw' : Region.wanted u (yielded l.toArray a.tmps) = true) (hw2 : Region.wanted x (yielded l.toArray a.tmps) = true)
    (h : ∀ K' : Act → World → Prop, Shut (∀ a w, (i ≠ z → S w) → wpAnyE P md l.toArray Q S z fuel (listed.setIfInBounds i true) a w → K' a w) → Oper.wp P o a w K' Q)
    (h' : ∀ K' : Act → World → Prop, Shut (∀ a w, (j ≠ z → S w) → wpAnyE P md l.toArray Q S z fuel (listed.setIfInBounds j true) a w → K' a w) → Oper.wp P u a w K' Q)
    (h2 : ∀ K' : Act → World → Prop, Shut (∀ a w, (m ≠ z → S w) → wpAnyE P md l.toArray Q S z fuel (listed.setIfInBounds m true) a w → K' a w) → Oper.wp P x a w K' Q) : wpAnyE P md l.toArray Q S z (fuel + 1) listed a w :=
  ⟨fun h0 => absurd (hr ▸ h0) (by simp), fun k hk => by
    rw [hr] at hk
    rcases List.mem_cons.1 hk with rfl | hk
    · exact wpOp_step (by simpa using hi) (fun K' hK => by rw [if_pos hw]; exact h K' (fun a w hS hW => hK a w ⟨hS, hW⟩))
    · rcases List.mem_cons.1 hk with rfl | hk
      · exact wpOp_step (by simpa using hj) (fun K' hK => by rw [if_pos hw']; exact h' K' (fun a w hS hW => hK a w ⟨hS, hW⟩))
      · obtain rfl := List.mem_singleton.1 hk
        exact wpOp_step (by simpa using hm) (fun K' hK => by rw [if_pos hw2]; exact h2 K' (fun a w hS hW => hK a w ⟨hS, hW⟩))⟩
end
def KP (B : Nat) (X : World) : Option (Value × List Sp) → Prop
  | none => True
  | some (v, xs) => X.ownsRow B 26 4 v xs.length (sps xs)
def VP (B : Nat) (X : World) : Option (Value × List Int) → Prop
  | none => True
  | some (v, xs) => X.ownsRow B 24 1 v xs.length (u64s xs)
def PP (B : Nat) (X : World) : Option Nat → Prop
  | none => True
  | some p => B ≤ p ∧ X.heap[p]? = some (.cells #[.slice none 0 0, .slice none 0 0] 34 (0, 0))
def kB (k : Option (Value × List Sp)) : Option Nat := k.bind (·.1.ownBlock)
def vB (v : Option (Value × List Int)) : Option Nat := v.bind (·.1.ownBlock)
theorem KP.lt {B : Nat} {X : World} {k : Option (Value × List Sp)} (h : KP B X k) : ∀ q, kB k = some q → q < X.heap.size := fun q hq => by
  cases k with
  | none => cases hq
  | some k => exact own_lt h q hq
theorem VP.lt {B : Nat} {X : World} {v : Option (Value × List Int)} (h : VP B X v) : ∀ q, vB v = some q → q < X.heap.size := fun q hq => by
  cases v with
  | none => cases hq
  | some k => exact own_lt h q hq
theorem PP.lt {B : Nat} {X : World} {p : Option Nat} (h : PP B X p) : ∀ q, p = some q → q < X.heap.size := fun q hq => by
  subst hq
  exact (Array.getElem?_eq_some_iff.1 h.2).1
theorem KP.stay {B : Nat} {X Y : World} {k : Option (Value × List Sp)} (h : KP B X k) (hs : ∀ q, kB k = some q → Y.heap[q]? = X.heap[q]?) : KP B Y k := by
  cases k with
  | none => trivial
  | some k => exact own_stay h hs
theorem VP.stay {B : Nat} {X Y : World} {v : Option (Value × List Int)} (h : VP B X v) (hs : ∀ q, vB v = some q → Y.heap[q]? = X.heap[q]?) : VP B Y v := by
  cases v with
  | none => trivial
  | some k => exact own_stay h hs
theorem PP.stay {B : Nat} {X Y : World} {p : Option Nat} (h : PP B X p) (hs : ∀ q, p = some q → Y.heap[q]? = X.heap[q]?) : PP B Y p := by
  cases p with
  | none => trivial
  | some p => exact ⟨h.1, (hs p rfl).trans h.2⟩
structure Cp (W0 X : World) (k : Option (Value × List Sp)) (v : Option (Value × List Int)) (p : Option Nat) : Prop where
  b : Below W0.heap.size W0 X
  kp : KP W0.heap.size X k
  vp : VP W0.heap.size X v
  pp : PP W0.heap.size X p
  kv : ∀ q, kB k = some q → vB v ≠ some q
  kq : ∀ q, kB k = some q → p ≠ some q
  vq : ∀ q, vB v = some q → p ≠ some q
variable {W0 X Y : World} {k : Option (Value × List Sp)} {v : Option (Value × List Int)} {p : Option Nat}
theorem alloc_stay (X : World) (o : Obj) (q : Nat) (h : q < X.heap.size) : (X.alloc o).heap[q]? = X.heap[q]? := ((Below.refl X.heap.size X).alloc (Nat.le_refl _) o).block q h
theorem Cp.kNew (h : Cp W0 X none v p) : Cp W0 (X.alloc (.cells #[] 26)) (some (.slice (some ⟨X.heap.size, 0, none⟩) 0 0, [])) v p where
  b := h.b.alloc h.b.size _
  kp := own_base (empty_own X 26 4 (by decide)) h.b.size
  vp := h.vp.stay (fun q hq => alloc_stay X _ q (h.vp.lt q hq))
  pp := h.pp.stay (fun q hq => alloc_stay X _ q (h.pp.lt q hq))
  kv := fun q hq e => by
    have := h.vp.lt q e
    simp [kB, Value.ownBlock] at hq; omega
  kq := fun q hq e => by
    have := h.pp.lt q e
    simp [kB, Value.ownBlock] at hq; omega
  vq := h.vq
theorem Cp.vNew (h : Cp W0 X k none p) : Cp W0 (X.alloc (.cells #[] 24)) k (some (.slice (some ⟨X.heap.size, 0, none⟩) 0 0, [])) p where
  b := h.b.alloc h.b.size _
  kp := h.kp.stay (fun q hq => alloc_stay X _ q (h.kp.lt q hq))
  vp := own_base (empty_own X 24 1 (by decide)) h.b.size
  pp := h.pp.stay (fun q hq => alloc_stay X _ q (h.pp.lt q hq))
  kv := fun q hq e => by
    have := h.kp.lt q hq
    simp [vB, Value.ownBlock] at e; omega
  kq := h.kq
  vq := fun q hq e => by
    have := h.pp.lt q e
    simp [vB, Value.ownBlock] at hq; omega
theorem Cp.pNew (h : Cp W0 X k v none) : Cp W0 (X.alloc (.cells #[.slice none 0 0, .slice none 0 0] 34)) k v (some X.heap.size) where
  b := h.b.alloc h.b.size _
  kp := h.kp.stay (fun q hq => alloc_stay X _ q (h.kp.lt q hq))
  vp := h.vp.stay (fun q hq => alloc_stay X _ q (h.vp.lt q hq))
  pp := ⟨h.b.size, heap_alloc_new X _⟩
  kv := h.kv
  kq := fun q hq e => by
    have := h.kp.lt q hq
    simp at e; omega
  vq := fun q hq e => by
    have := h.vp.lt q hq
    simp at e; omega
theorem Cp.kApp {kv kv' : Value} {ks : List Sp} (h : Cp W0 X (some (kv, [])) v p) (ho : Y.ownsRow W0.heap.size 26 4 kv' ks.length (sps ks)) (hg : X.grownBy Y kv.ownBlock) (ha : kv'.ownBlock = kv.ownBlock ∨ kv'.ownBlock = some X.heap.size) (hb : Below W0.heap.size X Y) : Cp W0 Y (some (kv', ks)) v p where
  b := h.b.trans hb
  kp := ho
  vp := h.vp.stay (fun q hq => hg.block q (h.vp.lt q hq) (fun e => h.kv q e.symm hq))
  pp := h.pp.stay (fun q hq => hg.block q (h.pp.lt q hq) (fun e => h.kq q e.symm hq))
  kv := fun q hq e => by
    have hl := h.vp.lt q e
    rcases ha with ha | ha
    · exact h.kv q (ha.symm.trans hq) e
    · have := ha.symm.trans hq; simp at this; omega
  kq := fun q hq e => by
    have hl := h.pp.lt q e
    rcases ha with ha | ha
    · exact h.kq q (ha.symm.trans hq) e
    · have := ha.symm.trans hq; simp at this; omega
  vq := h.vq
theorem Cp.vApp {vv vv' : Value} {vs : List Int} (h : Cp W0 X k (some (vv, [])) p) (ho : Y.ownsRow W0.heap.size 24 1 vv' vs.length (u64s vs)) (hg : X.grownBy Y vv.ownBlock) (ha : vv'.ownBlock = vv.ownBlock ∨ vv'.ownBlock = some X.heap.size) (hb : Below W0.heap.size X Y) : Cp W0 Y k (some (vv', vs)) p where
  b := h.b.trans hb
  kp := h.kp.stay (fun q hq => hg.block q (h.kp.lt q hq) (fun e => h.kv q hq e.symm))
  vp := ho
  pp := h.pp.stay (fun q hq => hg.block q (h.pp.lt q hq) (fun e => h.vq q e.symm hq))
  kv := fun q hq e => by
    have hl := h.kp.lt q hq
    rcases ha with ha | ha
    · exact h.kv q hq (ha.symm.trans e)
    · have := ha.symm.trans e; simp at this; omega
  kq := h.kq
  vq := fun q hq e => by
    have hl := h.pp.lt q e
    rcases ha with ha | ha
    · exact h.vq q (ha.symm.trans hq) e
    · have := ha.symm.trans hq; simp at this; omega
/-- The block, and both rows stored in it. -/
theorem Cp.done {kv vv : Value} {L N : Nat} {l : List Ent} (h : Cp W0 X (some (kv, l.map (·.1))) (some (vv, l.map (·.2))) (some L)) :
    ListR ((X.setCell ⟨L, 0, none⟩ kv).setCell ⟨L, 1, none⟩ vv) L l ∧ Below W0.heap.size W0 ((X.setCell ⟨L, 0, none⟩ kv).setCell ⟨L, 1, none⟩ vv) := by
  have hs : ∀ q, q ≠ L → ((X.setCell ⟨L, 0, none⟩ kv).setCell ⟨L, 1, none⟩ vv).heap[q]? = X.heap[q]? := fun q hq => (set_off (o := 1) vv hq).trans (set_off (o := 0) kv hq)
  have hk : ((X.setCell ⟨L, 0, none⟩ kv).setCell ⟨L, 1, none⟩ vv).ownsRow W0.heap.size 26 4 kv (l.map (·.1)).length (sps (l.map (·.1))) := own_stay h.kp (fun q hq => hs q (fun e => h.kq q hq (by rw [e])))
  have hv : ((X.setCell ⟨L, 0, none⟩ kv).setCell ⟨L, 1, none⟩ vv).ownsRow W0.heap.size 24 1 vv (l.map (·.2)).length (u64s (l.map (·.2))) := own_stay h.vp (fun q hq => hs q (fun e => h.vq q hq (by rw [e])))
  have hp := set_at (o := 1) (v := vv) (set_at (o := 0) (v := kv) h.pp.2)
  obtain ⟨A, c, e, _, _, hS⟩ := spots_own hk
  obtain ⟨A', c', e', _, _, hV⟩ := vals_own hv
  rw [List.length_map] at e e'
  subst e e'
  refine ⟨⟨A, c, A', c', ?_, ?_, hS, hV⟩, h.b.trans ⟨rfl, rfl, rfl, by simp [World.setCell], fun q hq => hs q (by have := h.pp.1; omega)⟩⟩
  · simp only [World.cell?, hp]; rfl
  · simp only [World.cell?, hp]; rfl
theorem own_parts {w : World} {B : Nat} {T : TypeId} {k n : Nat} {v : Value} {xs : List Value} (h : w.ownsRow B T k v n xs) : ∃ A c, v = .slice A n c ∧ (A = none → n = 0 ∧ c = 0) := by
  rcases h.2 with ⟨rfl, e⟩ | ⟨g, cap, cur, rfl, _⟩
  · exact ⟨none, 0, by rw [e], fun _ => ⟨e, rfl⟩⟩
  · exact ⟨_, cap, rfl, fun e => by cases e⟩
/-- Both rows of a list, as a copy reads them. -/
theorem ListE.rows {w : World} {L N : Nat} {l : List Ent} (h : ListE w L l) (hN : l.length = N) : ∃ A c A' c', w.cell? ⟨L, 0, none⟩ = some (.slice A N c) ∧ w.cell? ⟨L, 1, none⟩ = some (.slice A' N c') ∧ SpotsAt w A (l.map (·.1)) ∧ ValsAt w A' (l.map (·.2)) ∧ (A = none → N = 0 ∧ c = 0) ∧ (A' = none → N = 0 ∧ c' = 0) := by
  obtain ⟨kv, vv, h⟩ := h
  obtain ⟨A, c, e, _, _, hs⟩ := spots_own h.keys
  obtain ⟨A', c', e', _, _, hv⟩ := vals_own h.vals
  obtain ⟨A1, c1, e1, n1⟩ := own_parts h.keys
  obtain ⟨A2, c2, e2, n2⟩ := own_parts h.vals
  rw [e] at e1
  rw [e'] at e2
  cases e1
  cases e2
  have hp := h.hp
  rw [List.length_map, hN] at e e' n1 n2
  exact ⟨A, c, A', c', by simp only [World.cell?, hp, e]; rfl, by simp only [World.cell?, hp, e']; rfl, hs, hv, n1, n2⟩
end Go.Proofs.Ytjeebbolnanmkaa.N
