/- Spots with values in their order: what a put and a taking away make of a list (plain Lean). -/
import Derived.Test.YtainljbkejafcaaNFindI
namespace Go.Proofs.Ytainljbkejafcaa.N
open Go.RowKit
set_option linter.unusedVariables false
set_option linter.unusedSimpArgs false
theorem lt_irr (a : Sp) : lt a a = false := by
  rw [← Bool.not_eq_true, lt_iff]; omega
theorem lt_asy {a b : Sp} (h : lt a b = true) : lt b a = false := by
  rw [lt_iff] at h
  rw [← Bool.not_eq_true, lt_iff]; omega
theorem lt_tra {a b c : Sp} (h : lt a b = true) (h2 : lt b c = true) : lt a c = true := by
  rw [lt_iff] at h h2 ⊢; omega
theorem lt_tot {a b : Sp} (h : lt a b = false) (h2 : lt b a = false) : a = b := by
  rw [← Bool.not_eq_true, lt_iff] at h h2
  obtain ⟨a0, a1, a2, a3⟩ := a
  obtain ⟨b0, b1, b2, b3⟩ := b
  simp only at h h2
  obtain rfl : a0 = b0 := by omega
  obtain rfl : a1 = b1 := by omega
  obtain rfl : a2 = b2 := by omega
  obtain rfl : a3 = b3 := by omega
  rfl
theorem lt_ne {a b : Sp} (h : lt a b = true) : a ≠ b := fun e => by rw [e, lt_irr] at h; cases h
theorem lt_ord {a b : Sp} : lt a b = true ↔ ordS a b < 0 := by unfold lt; rw [decide_eq_true_iff]
theorem lt_ordF {a b : Sp} : lt a b = false ↔ 0 ≤ ordS a b := by rw [← Bool.not_eq_true, lt_ord]; omega
theorem ord_pos {a b : Sp} : 0 < ordS a b ↔ lt b a = true := by
  constructor
  · intro h
    cases hb : lt b a with
    | true => rfl
    | false =>
      have h1 : lt a b = false := lt_ordF.2 (by omega)
      have := (ordS_zero a b).2 (lt_tot h1 hb)
      omega
  · intro h
    have h1 := lt_ordF.1 (lt_asy h)
    have h2 : ordS a b ≠ 0 := fun e => lt_ne h ((ordS_zero a b).1 e).symm
    omega
abbrev Ent := Sp × Int
/-- k has v. -/
def insE (k : Sp) (v : Int) : List Ent → List Ent
  | [] => [(k, v)]
  | x :: t => if lt x.1 k = true then x :: insE k v t else if x.1 = k then (k, v) :: t else (k, v) :: x :: t
/-- Without k. -/
def delE (k : Sp) : List Ent → List Ent
  | [] => []
  | x :: t => if lt x.1 k = true then x :: delE k t else if x.1 = k then t else x :: t
/-- Is k there (in a list in its order)? -/
def hasE (k : Sp) : List Ent → Bool
  | [] => false
  | x :: t => if lt x.1 k = true then hasE k t else decide (x.1 = k)
def Asc (l : List Ent) : Prop := l.Pairwise (fun a b => lt a.1 b.1 = true)
def hd (l : List Ent) : Sp := match l with
  | [] => sp0
  | x :: _ => x.1
theorem insE_front (k : Sp) (v : Int) : ∀ (a m : List Ent), (∀ x ∈ a, lt x.1 k = true) → insE k v (a ++ m) = a ++ insE k v m
  | [], m, _ => rfl
  | x :: a, m, h => by
    rw [List.cons_append, insE, if_pos (h x (by simp)), insE_front k v a m (fun y hy => h y (by simp [hy])), List.cons_append]
theorem delE_front (k : Sp) : ∀ (a m : List Ent), (∀ x ∈ a, lt x.1 k = true) → delE k (a ++ m) = a ++ delE k m
  | [], m, _ => rfl
  | x :: a, m, h => by
    rw [List.cons_append, delE, if_pos (h x (by simp)), delE_front k a m (fun y hy => h y (by simp [hy])), List.cons_append]
theorem hasE_front (k : Sp) : ∀ (a m : List Ent), (∀ x ∈ a, lt x.1 k = true) → hasE k (a ++ m) = hasE k m
  | [], m, _ => rfl
  | x :: a, m, h => by
    rw [List.cons_append, hasE, if_pos (h x (by simp)), hasE_front k a m (fun y hy => h y (by simp [hy]))]
theorem insE_back (k : Sp) (v : Int) : ∀ (m b : List Ent), (∀ x ∈ b, lt k x.1 = true) → insE k v (m ++ b) = insE k v m ++ b
  | [], [], _ => rfl
  | [], y :: t, h => by
    have hy := h y (by simp)
    rw [List.nil_append, show insE k v [] = [(k, v)] from rfl, insE, if_neg (by rw [lt_asy hy]; simp), if_neg (fun e => lt_ne hy e.symm)]
    rfl
  | x :: m, b, h => by
    rw [List.cons_append, insE, insE, insE_back k v m b h]
    split
    · rfl
    · split <;> rfl
theorem delE_back (k : Sp) : ∀ (m b : List Ent), (∀ x ∈ b, lt k x.1 = true) → delE k (m ++ b) = delE k m ++ b
  | [], [], _ => rfl
  | [], y :: t, h => by
    have hy := h y (by simp)
    rw [List.nil_append, show delE k [] = [] from rfl, delE, if_neg (by rw [lt_asy hy]; simp), if_neg (fun e => lt_ne hy e.symm)]
    rfl
  | x :: m, b, h => by
    rw [List.cons_append, delE, delE, delE_back k m b h]
    split
    · rfl
    · split <;> rfl
theorem hasE_back (k : Sp) : ∀ (m b : List Ent), (∀ x ∈ b, lt k x.1 = true) → hasE k (m ++ b) = hasE k m
  | [], [], _ => rfl
  | [], y :: t, h => by
    have hy := h y (by simp)
    rw [List.nil_append, show hasE k [] = false from rfl, hasE, if_neg (by rw [lt_asy hy]; simp), decide_eq_false (fun e => lt_ne hy e.symm)]
  | x :: m, b, h => by
    rw [List.cons_append, hasE, hasE, hasE_back k m b h]
theorem insE_mem {k : Sp} {v : Int} : ∀ {l : List Ent} {x : Ent}, x ∈ insE k v l → x = (k, v) ∨ x ∈ l
  | [], x, h => by simp [insE] at h; exact .inl h
  | y :: t, x, h => by
    rw [insE] at h
    split at h
    · rcases List.mem_cons.1 h with rfl | h
      · exact .inr (by simp)
      · exact (insE_mem h).imp_right (fun h => by simp [h])
    · split at h
      · rcases List.mem_cons.1 h with rfl | h
        · exact .inl rfl
        · exact .inr (by simp [h])
      · rcases List.mem_cons.1 h with rfl | h
        · exact .inl rfl
        · exact .inr h
theorem delE_mem {k : Sp} : ∀ {l : List Ent} {x : Ent}, x ∈ delE k l → x ∈ l
  | [], x, h => by simp [delE] at h
  | y :: t, x, h => by
    rw [delE] at h
    split at h
    · rcases List.mem_cons.1 h with rfl | h
      · simp
      · exact List.mem_cons_of_mem _ (delE_mem h)
    · split at h
      · exact List.mem_cons_of_mem _ h
      · exact h
theorem insE_asc {k : Sp} {v : Int} : ∀ {l : List Ent}, Asc l → Asc (insE k v l)
  | [], _ => by simp [insE, Asc]
  | y :: t, h => by
    unfold Asc at h ⊢
    rw [List.pairwise_cons] at h
    rw [insE]
    split
    · rename_i hy
      rw [List.pairwise_cons]
      refine ⟨fun x hx => ?_, insE_asc h.2⟩
      rcases insE_mem hx with rfl | hx
      · exact hy
      · exact h.1 x hx
    · rename_i hy
      split
      · rename_i e
        rw [List.pairwise_cons]
        exact ⟨fun x hx => by rw [← e]; exact h.1 x hx, h.2⟩
      · rename_i hne
        have hk : lt k y.1 = true := by
          cases hb : lt k y.1 with
          | true => rfl
          | false => exact absurd (lt_tot (by simpa using hy) hb) hne
        rw [List.pairwise_cons, List.pairwise_cons]
        refine ⟨fun x hx => ?_, h⟩
        rcases List.mem_cons.1 hx with rfl | hx
        · exact hk
        · exact lt_tra hk (h.1 x hx)
theorem delE_asc {k : Sp} : ∀ {l : List Ent}, Asc l → Asc (delE k l)
  | [], h => h
  | y :: t, h => by
    unfold Asc at h ⊢
    rw [List.pairwise_cons] at h
    rw [delE]
    split
    · rw [List.pairwise_cons]
      exact ⟨fun x hx => h.1 x (delE_mem hx), delE_asc h.2⟩
    · split
      · exact h.2
      · rw [List.pairwise_cons]; exact h
theorem insE_length {k : Sp} {v : Int} : ∀ {l : List Ent}, (insE k v l).length = if hasE k l = true then l.length else l.length + 1
  | [] => rfl
  | y :: t => by
    rw [insE, hasE]
    split
    · rw [List.length_cons, insE_length (l := t), List.length_cons]; split <;> rfl
    · split
      · rename_i e; rw [if_pos (by simpa using e)]; rfl
      · rename_i e; rw [if_neg (by simpa using e)]; rfl
theorem delE_length {k : Sp} : ∀ {l : List Ent}, (delE k l).length = if hasE k l = true then l.length - 1 else l.length
  | [] => rfl
  | y :: t => by
    rw [delE, hasE]
    split
    · rw [List.length_cons, delE_length (l := t), List.length_cons]
      split
      · rename_i h
        have : 0 < t.length := by cases t with
          | nil => simp [hasE] at h
          | cons a b => simp
        omega
      · rfl
    · split
      · rename_i e; rw [if_pos (by simpa using e)]; rfl
      · rename_i e; rw [if_neg (by simpa using e)]
theorem delE_none {k : Sp} : ∀ {l : List Ent}, hasE k l = false → delE k l = l
  | [], _ => rfl
  | y :: t, h => by
    rw [hasE] at h
    rw [delE]
    split
    · rename_i hy; rw [if_pos hy] at h; rw [delE_none h]
    · rename_i hy; rw [if_neg hy] at h; rw [if_neg (by simpa using h)]
theorem insE_ne (k : Sp) (v : Int) (l : List Ent) : insE k v l ≠ [] := by
  cases l with
  | nil => simp [insE]
  | cons y t => rw [insE]; split <;> (try split) <;> simp
theorem hasE_iff {k : Sp} : ∀ {l : List Ent}, Asc l → (hasE k l = true ↔ ∃ x ∈ l, x.1 = k)
  | [], _ => by simp [hasE]
  | y :: t, h => by
    unfold Asc at h
    rw [List.pairwise_cons] at h
    rw [hasE]
    split
    · rename_i hy
      rw [hasE_iff (l := t) h.2]
      constructor
      · rintro ⟨x, hx, e⟩; exact ⟨x, by simp [hx], e⟩
      · rintro ⟨x, hx, e⟩
        rcases List.mem_cons.1 hx with rfl | hx
        · exact absurd e (lt_ne hy)
        · exact ⟨x, hx, e⟩
    · rename_i hy
      rw [decide_eq_true_iff]
      constructor
      · intro e; exact ⟨y, by simp, e⟩
      · rintro ⟨x, hx, e⟩
        rcases List.mem_cons.1 hx with rfl | hx
        · exact e
        · have := h.1 x hx
          rw [e] at this
          exact absurd this hy
/-- A leaf's place of a spot, and what a put and a taking away make of the leaf. -/
theorem findL_le (k : Sp) : ∀ l : List Sp, (findL k l).1 ≤ l.length
  | [] => Nat.le_refl _
  | x :: t => by
    rw [findL]
    split
    · exact Nat.zero_le _
    · have := findL_le k t; simp; omega
theorem findL_lt (k : Sp) : ∀ l : List Sp, (findL k l).2 = true → (findL k l).1 < l.length
  | [], h => by cases h
  | x :: t, h => by
    rw [findL] at h ⊢
    split
    · simp
    · rename_i hx; rw [if_neg hx] at h; have := findL_lt k t h; simp; omega
theorem findL_has (k : Sp) : ∀ l : List Ent, (findL k (l.map (·.1))).2 = hasE k l
  | [] => rfl
  | x :: t => by
    rw [List.map_cons, findL, hasE]
    by_cases c : lt x.1 k = true
    · have h1 := lt_ord.1 c
      rw [if_neg (by omega), if_pos c]
      exact findL_has k t
    · have h1 := lt_ordF.1 (by simpa using c)
      rw [if_pos (by omega), if_neg c]
      by_cases e : x.1 = k
      · rw [decide_eq_true e]; simp [(ordS_zero _ _).2 e]
      · rw [decide_eq_false e]; simp [show ordS x.1 k ≠ 0 from fun h => e ((ordS_zero _ _).1 h)]
theorem insE_had (k : Sp) (v : Int) : ∀ l : List Ent, hasE k l = true → (insE k v l).map (·.1) = l.map (·.1) ∧ (insE k v l).map (·.2) = (l.map (·.2)).set (findL k (l.map (·.1))).1 v
  | [], h => by cases h
  | x :: t, h => by
    rw [hasE] at h
    rw [insE, List.map_cons, List.map_cons, findL]
    by_cases c : lt x.1 k = true
    · have h1 := lt_ord.1 c
      rw [if_pos c] at h
      obtain ⟨a, b⟩ := insE_had k v t h
      rw [if_pos c, if_neg (by omega), List.map_cons, List.map_cons, a, b]
      exact ⟨rfl, rfl⟩
    · have h1 := lt_ordF.1 (by simpa using c)
      rw [if_neg c] at h
      have e : x.1 = k := by simpa using h
      rw [if_neg c, if_pos e, if_pos (by omega)]
      exact ⟨by rw [List.map_cons, e], rfl⟩
theorem insE_new (k : Sp) (v : Int) : ∀ l : List Ent, hasE k l = false → (insE k v l).map (·.1) = (l.map (·.1)).take (findL k (l.map (·.1))).1 ++ [k] ++ (l.map (·.1)).drop (findL k (l.map (·.1))).1 ∧ (insE k v l).map (·.2) = (l.map (·.2)).take (findL k (l.map (·.1))).1 ++ [v] ++ (l.map (·.2)).drop (findL k (l.map (·.1))).1
  | [], h => ⟨rfl, rfl⟩
  | x :: t, h => by
    rw [hasE] at h
    rw [insE, List.map_cons, List.map_cons, findL]
    by_cases c : lt x.1 k = true
    · have h1 := lt_ord.1 c
      rw [if_pos c] at h
      obtain ⟨a, b⟩ := insE_new k v t h
      rw [if_pos c, if_neg (by omega), List.map_cons, List.map_cons, a, b]
      exact ⟨rfl, rfl⟩
    · have h1 := lt_ordF.1 (by simpa using c)
      rw [if_neg c] at h
      have e : x.1 ≠ k := by simpa using h
      rw [if_neg c, if_neg e, if_pos (by omega)]
      exact ⟨rfl, rfl⟩
theorem delE_had (k : Sp) : ∀ l : List Ent, hasE k l = true → (delE k l).map (·.1) = (l.map (·.1)).take (findL k (l.map (·.1))).1 ++ (l.map (·.1)).drop ((findL k (l.map (·.1))).1 + 1) ∧ (delE k l).map (·.2) = (l.map (·.2)).take (findL k (l.map (·.1))).1 ++ (l.map (·.2)).drop ((findL k (l.map (·.1))).1 + 1)
  | [], h => by cases h
  | x :: t, h => by
    rw [hasE] at h
    rw [delE, List.map_cons, List.map_cons, findL]
    by_cases c : lt x.1 k = true
    · have h1 := lt_ord.1 c
      rw [if_pos c] at h
      obtain ⟨a, b⟩ := delE_had k t h
      rw [if_pos c, if_neg (by omega), List.map_cons, List.map_cons, a, b]
      exact ⟨rfl, rfl⟩
    · have h1 := lt_ordF.1 (by simpa using c)
      rw [if_neg c] at h
      have e : x.1 = k := by simpa using h
      rw [if_neg c, if_pos e, if_pos (by omega)]
      exact ⟨rfl, rfl⟩
/-- Two lists, side by side. -/
def All2 {α β : Type} (R : α → β → Prop) : List α → List β → Prop
  | [], [] => True
  | a :: xs, b :: ys => R a b ∧ All2 R xs ys
  | _, _ => False
section
variable {α β : Type} {R S : α → β → Prop}
theorem All2.length : ∀ {xs : List α} {ys : List β}, All2 R xs ys → xs.length = ys.length
  | [], [], _ => rfl
  | a :: xs, b :: ys, h => by simp [All2.length h.2]
  | [], _ :: _, h => h.elim
  | _ :: _, [], h => h.elim
theorem All2.imp (f : ∀ a b, R a b → S a b) : ∀ {xs : List α} {ys : List β}, All2 R xs ys → All2 S xs ys
  | [], [], _ => trivial
  | a :: xs, b :: ys, h => ⟨f a b h.1, All2.imp f h.2⟩
  | [], _ :: _, h => h.elim
  | _ :: _, [], h => h.elim
theorem All2.append : ∀ {xs xs' : List α} {ys ys' : List β}, All2 R xs ys → All2 R xs' ys' → All2 R (xs ++ xs') (ys ++ ys')
  | [], _, [], _, _, h => h
  | a :: xs, _, b :: ys, _, h, h' => ⟨h.1, All2.append h.2 h'⟩
  | [], _, _ :: _, _, h, _ => h.elim
  | _ :: _, _, [], _, h, _ => h.elim
theorem All2.take : ∀ {xs : List α} {ys : List β} (n : Nat), All2 R xs ys → All2 R (xs.take n) (ys.take n)
  | _, _, 0, _ => by rw [List.take_zero, List.take_zero]; trivial
  | [], [], _ + 1, h => trivial
  | a :: xs, b :: ys, n + 1, h => ⟨h.1, All2.take n h.2⟩
  | [], _ :: _, _ + 1, h => h.elim
  | _ :: _, [], _ + 1, h => h.elim
theorem All2.drop : ∀ {xs : List α} {ys : List β} (n : Nat), All2 R xs ys → All2 R (xs.drop n) (ys.drop n)
  | _, _, 0, h => h
  | [], [], _ + 1, h => trivial
  | a :: xs, b :: ys, n + 1, h => All2.drop n h.2
  | [], _ :: _, _ + 1, h => h.elim
  | _ :: _, [], _ + 1, h => h.elim
theorem All2.get : ∀ {xs : List α} {ys : List β} (j : Nat) (ha : j < xs.length) (hb : j < ys.length), All2 R xs ys → R xs[j] ys[j]
  | a :: xs, b :: ys, 0, _, _, h => h.1
  | a :: xs, b :: ys, j + 1, ha, hb, h => All2.get j (by simpa using ha) (by simpa using hb) h.2
  | [], _, _, ha, _, _ => absurd ha (by simp)
  | _ :: _, [], _, _, hb, _ => absurd hb (by simp)
end
/-- A list cut at the kid that has a spot. -/
theorem cut_at {α : Type} {l : List α} {i : Nat} (h : i < l.length) : l = l.take i ++ [l[i]] ++ l.drop (i + 1) := by
  rw [List.append_assoc, List.singleton_append, ← List.drop_eq_getElem_cons h, List.take_append_drop]
theorem asc_app {a b : List Ent} (h : Asc (a ++ b)) : Asc a ∧ Asc b ∧ ∀ x ∈ a, ∀ y ∈ b, lt x.1 y.1 = true := by
  unfold Asc at h ⊢
  rw [List.pairwise_append] at h
  exact h
theorem hd_mem {l : List Ent} (h : l ≠ []) : ∃ x ∈ l, x.1 = hd l := by
  cases l with
  | nil => exact absurd rfl h
  | cons x t => exact ⟨x, by simp, rfl⟩
/-- All ahead of a kid, and all behind it, stand away from the spot that is sought there. -/
theorem way_sides {k : Sp} {ls : List (List Ent)} {i : Nat} {b : Bool} (ha : Asc ls.flatten) (hne : ∀ m ∈ ls, m ≠ []) (hF : FindI k (ls.map hd) i b) (hi : i < ls.length) :
    (∀ x ∈ (ls.take i).flatten, lt x.1 k = true) ∧ (∀ x ∈ (ls.drop (i + 1)).flatten, lt k x.1 = true) := by
  have hc := cut_at hi
  have h1 : ls.flatten = (ls.take i).flatten ++ ls[i] ++ (ls.drop (i + 1)).flatten := by
    conv => lhs; rw [hc]
    rw [List.flatten_append, List.flatten_append]; simp [List.flatten]
  rw [h1] at ha
  obtain ⟨ha1, ha2, ha3⟩ := asc_app ha
  obtain ⟨ha4, ha5, ha6⟩ := asc_app ha1
  obtain ⟨y, hy, hye⟩ := hd_mem (hne _ (List.getElem_mem hi))
  constructor
  · intro x hx
    have hxy := ha6 x hx y hy
    rcases hF with ⟨_, h2, _⟩ | ⟨rfl, _, _⟩
    · have h3 := (h2 (by simpa using hi)).1
      rw [List.getElem_map, ← hye] at h3
      by_cases e : y.1 = k
      · rw [← e]; exact hxy
      · have : ordS y.1 k ≠ 0 := fun h => e ((ordS_zero _ _).1 h)
        exact lt_tra hxy (lt_ord.2 (by omega))
    · simp at hx
  · intro x hx
    cases hd1 : ls.drop (i + 1) with
    | nil => rw [hd1] at hx; simp at hx
    | cons m t =>
      have hlen : i + 1 < ls.length := by
        have := congrArg List.length hd1
        rw [List.length_drop, List.length_cons] at this; omega
      have hm : m = ls[i + 1] := by
        rw [List.drop_eq_getElem_cons hlen] at hd1
        injection hd1 with e _
        exact e.symm
      have h3 : 0 < ordS (hd ls[i + 1]) k := by
        rcases hF with ⟨_, _, h2⟩ | ⟨rfl, _, h2⟩
        · have := h2 (i + 1) (by simpa using hlen) (by omega)
          rwa [List.getElem_map] at this
        · have := h2 (0 + 1) (by simpa using hlen)
          rwa [List.getElem_map] at this
      obtain ⟨z, hz, hze⟩ := hd_mem (hne _ (List.getElem_mem hlen))
      rw [← hze] at h3
      have hkz := ord_pos.1 h3
      rw [hd1, List.flatten_cons] at ha2 hx
      obtain ⟨hb1, _, hb3⟩ := asc_app ha2
      rcases List.mem_append.1 hx with hx | hx
      · -- in the next kid
        rw [← hm] at hz
        cases m with
        | nil => cases hz
        | cons m0 mt =>
          have hz0 : z.1 = m0.1 := by rw [hze, ← hm]; rfl
          rcases List.mem_cons.1 hx with rfl | hx
          · rw [← hz0]; exact hkz
          · unfold Asc at hb1
            rw [List.pairwise_cons] at hb1
            rw [hz0] at hkz
            exact lt_tra hkz (hb1.1 x hx)
      · rw [← hm] at hz
        exact lt_tra hkz (hb3 z hz x hx)
theorem flatten_cut {ls : List (List Ent)} {i : Nat} (hi : i < ls.length) : ls.flatten = (ls.take i).flatten ++ ls[i] ++ (ls.drop (i + 1)).flatten := by
  conv => lhs; rw [cut_at hi]
  rw [List.flatten_append, List.flatten_append]; simp [List.flatten]
theorem way_ins {k : Sp} {v : Int} {ls : List (List Ent)} {i : Nat} {b : Bool} (ha : Asc ls.flatten) (hne : ∀ m ∈ ls, m ≠ []) (hF : FindI k (ls.map hd) i b) (hi : i < ls.length) :
    insE k v ls.flatten = (ls.take i).flatten ++ insE k v ls[i] ++ (ls.drop (i + 1)).flatten := by
  obtain ⟨h1, h2⟩ := way_sides ha hne hF hi
  rw [flatten_cut hi, insE_back k v _ _ h2, insE_front k v _ _ h1]
theorem way_del {k : Sp} {ls : List (List Ent)} {i : Nat} {b : Bool} (ha : Asc ls.flatten) (hne : ∀ m ∈ ls, m ≠ []) (hF : FindI k (ls.map hd) i b) (hi : i < ls.length) :
    delE k ls.flatten = (ls.take i).flatten ++ delE k ls[i] ++ (ls.drop (i + 1)).flatten := by
  obtain ⟨h1, h2⟩ := way_sides ha hne hF hi
  rw [flatten_cut hi, delE_back k _ _ h2, delE_front k _ _ h1]
theorem way_has {k : Sp} {ls : List (List Ent)} {i : Nat} {b : Bool} (ha : Asc ls.flatten) (hne : ∀ m ∈ ls, m ≠ []) (hF : FindI k (ls.map hd) i b) (hi : i < ls.length) :
    hasE k ls.flatten = hasE k ls[i] := by
  obtain ⟨h1, h2⟩ := way_sides ha hne hF hi
  rw [flatten_cut hi, hasE_back k _ _ h2, hasE_front k _ _ h1]
theorem asc_kid {ls : List (List Ent)} {i : Nat} (ha : Asc ls.flatten) (hi : i < ls.length) : Asc ls[i] := by
  rw [flatten_cut hi] at ha
  exact (asc_app (asc_app ha).1).2.1
end Go.Proofs.Ytainljbkejafcaa.N
