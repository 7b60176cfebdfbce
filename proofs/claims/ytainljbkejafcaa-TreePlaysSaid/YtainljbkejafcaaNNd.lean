/- A node of any height in memory; Put on it. -/
import Derived.Test.YtainljbkejafcaaNPure
import Derived.Test.YtainljbkejafcaaNOver
import Derived.Test.YtainljbkejafcaaNPutL
namespace Go.Proofs.Ytainljbkejafcaa.N
open Go.RowKit Go.Proofs.YtainljbkejafcaaW.PrintMore Go.Proofs.YtainljbkejafcaaW.PrintWords
set_option linter.unusedVariables false
set_option linter.unusedSimpArgs false
/-- Node p, h nodes above its leaves, with n keys, has the spots l. -/
def Nd (w : World) : Nat → Nat → List Ent → Nat → Prop
  | 0, p, l, n => n = l.length ∧ Leaf w p (l.map (·.1)) (l.map (·.2))
  | h + 1, p, l, n => ∃ qs ls, n = qs.length ∧ l = ls.flatten ∧ Inner w p (ls.map hd) qs ∧ All2 (fun q m => ∃ s, 2 ≤ s ∧ s ≤ 4 ∧ Nd w h q m s) qs ls
/-- A kid has two keys at least, and four at most. -/
def Kid (w : World) (h lo : Nat) (q : Nat) (m : List Ent) : Prop := ∃ s, lo ≤ s ∧ s ≤ 4 ∧ Nd w h q m s
theorem nd_succ {w : World} {h p n : Nat} {l : List Ent} : Nd w (h + 1) p l n ↔ ∃ qs ls, n = qs.length ∧ l = ls.flatten ∧ Inner w p (ls.map hd) qs ∧ All2 (Kid w h 2) qs ls := Iff.rfl
theorem Nd.below {w w' : World} (hb : Below w.heap.size w w') : ∀ {h p n : Nat} {l : List Ent}, Nd w h p l n → Nd w' h p l n
  | 0, p, n, l, hn => ⟨hn.1, hn.2.below hb⟩
  | h + 1, p, n, l, hn => by
    obtain ⟨qs, ls, a, b, c, d⟩ := nd_succ.1 hn
    exact nd_succ.2 ⟨qs, ls, a, b, c.below hb, d.imp (fun q m hk => by obtain ⟨s, s1, s2, s3⟩ := hk; exact ⟨s, s1, s2, s3.below hb⟩)⟩
theorem Kid.below {w w' : World} (hb : Below w.heap.size w w') {h lo q : Nat} {m : List Ent} (hk : Kid w h lo q m) : Kid w' h lo q m := by
  obtain ⟨s, s1, s2, s3⟩ := hk; exact ⟨s, s1, s2, s3.below hb⟩
theorem Kid.less {w : World} {h lo lo' q : Nat} {m : List Ent} (hk : Kid w h lo q m) (hl : lo' ≤ lo) : Kid w h lo' q m := by
  obtain ⟨s, s1, s2, s3⟩ := hk; exact ⟨s, by omega, s2, s3⟩
theorem Nd.lt {w : World} : ∀ {h p n : Nat} {l : List Ent}, Nd w h p l n → p < w.heap.size
  | 0, p, n, l, hn => hn.2.lt
  | h + 1, p, n, l, hn => by
    obtain ⟨qs, ls, a, b, c, d⟩ := nd_succ.1 hn
    exact c.lt
theorem all2_mem {α β : Type} {R : α → β → Prop} : ∀ {xs : List α} {ys : List β}, All2 R xs ys → ∀ y ∈ ys, ∃ x ∈ xs, R x y
  | [], [], _, y, h => by cases h
  | a :: xs, b :: ys, h, y, hy => by
    rcases List.mem_cons.1 hy with rfl | hy
    · exact ⟨a, by simp, h.1⟩
    · obtain ⟨x, hx, r⟩ := all2_mem h.2 y hy
      exact ⟨x, by simp [hx], r⟩
  | [], _ :: _, h, _, _ => h.elim
  | _ :: _, [], h, _, _ => h.elim
theorem Nd.ne {w : World} : ∀ {h p n : Nat} {l : List Ent}, Nd w h p l n → 0 < n → l ≠ []
  | 0, p, n, l, hn, h0 => by
    intro e; rw [e] at hn; have := hn.1; simp at this; omega
  | h + 1, p, n, l, hn, h0 => by
    obtain ⟨qs, ls, a, b, c, d⟩ := nd_succ.1 hn
    have hl := d.length
    cases ls with
    | nil => rw [List.length_nil] at hl; omega
    | cons m t =>
      obtain ⟨x, _, s, s1, s2, s3⟩ := all2_mem d m (by simp)
      have hm := s3.ne (by omega)
      intro e
      rw [b, List.flatten_cons] at e
      exact hm (List.append_eq_nil_iff.1 e).1
theorem kids_ne {w : World} {h : Nat} {qs : List Nat} {ls : List (List Ent)} {lo : Nat} (h0 : 0 < lo) (d : All2 (Kid w h lo) qs ls) : ∀ m ∈ ls, m ≠ [] := fun m hm => by
  obtain ⟨x, _, s, s1, s2, s3⟩ := all2_mem d m hm
  exact s3.ne (by omega)
/-- A node's keys: as many as it has; the first is the first of all. -/
theorem Nd.keys {w : World} : ∀ {h p n : Nat} {l : List Ent}, Nd w h p l n → ∃ ks, KeysOf w p ks ∧ ks.length = n ∧ ∀ h0 : 0 < ks.length, ks[0] = hd l
  | 0, p, n, l, hn => by
    refine ⟨l.map (·.1), hn.2.keysOf, by rw [List.length_map, hn.1], fun h0 => ?_⟩
    cases l with
    | nil => simp at h0
    | cons x t => rfl
  | h + 1, p, n, l, hn => by
    obtain ⟨qs, ls, a, b, c, d⟩ := nd_succ.1 hn
    refine ⟨ls.map hd, c.keysOf, by rw [List.length_map, a, d.length], fun h0 => ?_⟩
    cases ls with
    | nil => simp at h0
    | cons m t =>
      have hm := kids_ne (by omega) d m (by simp)
      rw [b]
      cases m with
      | nil => exact absurd rfl hm
      | cons x u => rfl
theorem kids_heads {w : World} {h : Nat} {lo : Nat} (h0 : 0 < lo) {qs : List Nat} {ls : List (List Ent)} (d : All2 (Kid w h lo) qs ls) : Heads w qs (ls.map hd) :=
  ⟨by rw [List.length_map, d.length], fun j hj hj' => by
    obtain ⟨s, s1, s2, s3⟩ := d.get j hj (by simpa using hj')
    obtain ⟨ks, k1, k2, k3⟩ := s3.keys
    exact ⟨ks, k1, by omega, by omega, by rw [k3 (by omega), List.getElem_map]⟩⟩
/-- Concat of kids that are some: where they lie. -/
theorem cat_kids {w : World} (B cc : Nat) (ls : List (List Nat)) (hm : ls.length ≤ 4) (hl : ls.flatten.length ≤ 1000) (h0 : 0 < ls.flatten.length) (hB : B < w.heap.size)
    (hc : ∀ j (h : j < ls.length), ∃ A c, w.cell? ⟨B, j, none⟩ = some (.slice A (ls[j]).length c) ∧ KidsAt w A ls[j] ∧ (A = none → (ls[j]).length = 0 ∧ c = 0)) :
    Calls Try.prog 67 #[.slice (some ⟨B, 0, none⟩) ls.length cc] w fun e w' => ∃ b off c, e = .returned (.slice (some ⟨b, off, none⟩) ls.flatten.length c) ∧ b < w'.heap.size ∧ (∀ j (h : j < ls.flatten.length), w'.cell? ⟨b, off + j, none⟩ = some (.pointer (some ⟨ls.flatten[j], 0, none⟩))) ∧ ls.flatten.length ≤ c ∧ c ≤ maxLen ∧ Below w.heap.size w w' :=
  (concat_K B cc ls hm hl hB hc).mono fun e w' ⟨v, he, hown, hb⟩ => by
    obtain ⟨A, c, rfl, h1, h2, h3, _⟩ := kids_own hown
    obtain ⟨b, off, rfl, h4, h5⟩ := h3 h0
    exact ⟨b, off, c, he, h4, h5, h1, h2, hb⟩
/-- What a put, or a join, tells: nodes side by side. -/
def NdsPost (w : World) (h lo : Nat) (l : List Ent) (R : Nat → Prop) (e : Ending) (w' : World) : Prop := ∃ s ns ls, e = .returned (.slice (some ⟨s, 0, none⟩) ns.length ns.length) ∧ w.heap.size ≤ s ∧ s < w'.heap.size ∧ (∀ j (hj : j < ns.length), w'.cell? ⟨s, j, none⟩ = some (.pointer (some ⟨ns[j], 0, none⟩))) ∧ All2 (Kid w' h lo) ns ls ∧ ls.flatten = l ∧ R ns.length ∧ Below w.heap.size w w'
/-- kidHalves over kids. -/
theorem halves_nds {w : World} {b off c h : Nat} {qs : List Nat} {ls : List (List Ent)} (hb : b < w.heap.size) (hq : ∀ j (h : j < qs.length), w.cell? ⟨b, off + j, none⟩ = some (.pointer (some ⟨qs[j], 0, none⟩))) (hk : All2 (Kid w h 2) qs ls) (h0 : 0 < qs.length) (h8 : qs.length ≤ 8) (hc : qs.length ≤ c) (hcm : c ≤ maxLen) (lo : Nat) (hlo : lo ≤ 2) (hlq : lo ≤ qs.length) :
    Calls Try.prog 66 #[.slice (some ⟨b, off, none⟩) qs.length c] w (NdsPost w (h + 1) lo ls.flatten (fun m => m = 1 ∧ qs.length ≤ 4 ∨ m = 2 ∧ 4 < qs.length)) := by
  have hh := kids_heads (by omega) hk
  have hlen := hk.length
  by_cases h4 : qs.length ≤ 4
  · refine (kidHalves_one hb hq hh h0 h4 hc hcm).mono ?_
    rintro e w' ⟨s, p, rfl, hs, hs1, hs2, hI, hp, hbl⟩
    refine ⟨s, [p], [ls.flatten], rfl, hs1, hs2, fun j hj => ?_, ⟨⟨qs.length, hlq, h4, nd_succ.2 ⟨qs, ls, rfl, rfl, hI, hk.imp (fun q m hq => hq.below hbl)⟩⟩, trivial⟩, by simp, .inl ⟨rfl, h4⟩, hbl⟩
    obtain rfl : j = 0 := by simpa using hj
    exact hs
  · refine (kidHalves_two hb hq hh (by omega) (by omega) hc hcm).mono ?_
    rintro e w' ⟨s, p, q, rfl, hs, hs', hs1, hs2, hI, hJ, hp, hq', hbl⟩
    have hk' := hk.imp (S := Kid w' h 2) (fun q m hq => hq.below hbl)
    obtain ⟨x, hx⟩ : ∃ x, (qs.length + 1) / 2 = x := ⟨_, rfl⟩
    rw [hx] at hI hJ
    rw [← List.map_take] at hI
    rw [← List.map_drop] at hJ
    have t1 := hk'.take x
    have t2 := hk'.drop x
    refine ⟨s, [p, q], [(ls.take x).flatten, (ls.drop x).flatten], rfl, hs1, hs2, fun j hj => ?_, ⟨⟨x, by omega, by omega, nd_succ.2 ⟨_, _, by rw [List.length_take]; omega, rfl, hI, t1⟩⟩, ⟨qs.length - x, by omega, by omega, nd_succ.2 ⟨_, _, by rw [List.length_drop], rfl, hJ, t2⟩⟩, trivial⟩, by
      conv => rhs; rw [← List.take_append_drop x ls]
      rw [List.flatten_append]; simp [List.flatten], .inr ⟨rfl, by omega⟩, hbl⟩
    match j, hj with
    | 0, _ => exact hs
    | 1, _ => exact hs'
/-- What Put makes of a leaf. -/
theorem leaf_one {w : World} {l l' : List Ent} {ks : List Sp} {vs : List Int} {e : Ending} {w' : World} (hp : OnePost w ks vs e w') (h1 : l'.map (·.1) = ks) (h2 : l'.map (·.2) = vs) (lo : Nat) (hlo : lo ≤ l'.length) (h4 : l'.length ≤ 4) (R : Nat → Prop) (hR : R 1) : NdsPost w 0 lo l' R e w' := by
  obtain ⟨s, p, rfl, hs, hs1, hs2, hL, hp, hbl⟩ := hp
  refine ⟨s, [p], [l'], rfl, hs1, hs2, fun j hj => ?_, ⟨⟨l'.length, hlo, h4, rfl, by rw [h1, h2]; exact hL⟩, trivial⟩, by simp, hR, hbl⟩
  obtain rfl : j = 0 := by simpa using hj
  exact hs
theorem leaf_two {w : World} {l' : List Ent} {x : Nat} {ks : List Sp} {vs : List Int} {e : Ending} {w' : World} (hp : TwoPost w (ks.take x) (ks.drop x) (vs.take x) (vs.drop x) e w') (h1 : l'.map (·.1) = ks) (h2 : l'.map (·.2) = vs) (lo : Nat) (hx : lo ≤ x ∧ x ≤ 4) (hx2 : lo + x ≤ l'.length ∧ l'.length ≤ 4 + x) (R : Nat → Prop) (hR : R 2) : NdsPost w 0 lo l' R e w' := by
  obtain ⟨s, p, q, rfl, hs, hs', hs1, hs2, hL, hM, hp, hq, hbl⟩ := hp
  subst h1 h2
  refine ⟨s, [p, q], [l'.take x, l'.drop x], rfl, hs1, hs2, fun j hj => ?_, ⟨⟨x, hx.1, hx.2, by rw [List.length_take]; omega, by rw [List.map_take, List.map_take]; exact hL⟩, ⟨l'.length - x, by omega, by omega, by rw [List.length_drop], by rw [List.map_drop, List.map_drop]; exact hM⟩, trivial⟩, by simp, hR, hbl⟩
  match j, hj with
  | 0, _ => exact hs
  | 1, _ => exact hs'
/-- What Put tells: one node, or two where the node had four keys and the spot was not there. -/
def PutR (n : Nat) (had : Bool) (m : Nat) : Prop := m = 1 ∨ (m = 2 ∧ n = 4 ∧ had = false)
theorem put_leaf {w : World} {p n : Nat} {l : List Ent} (hn : Nd w 0 p l n) (h0 : 0 < n) (h4 : n ≤ 4) (k : Sp) (v : Int) :
    Calls Try.prog 33 #[.pointer (some ⟨p, 0, none⟩), k.v, .int .u64 v] w (NdsPost w 0 (min n 2) (insE k v l) (PutR n (hasE k l))) := by
  obtain ⟨rfl, hL⟩ := hn
  have hlen := insE_length (k := k) (v := v) (l := l)
  have hf : findL k (l.map (·.1)) = ((findL k (l.map (·.1))).1, hasE k l) := by rw [← findL_has]
  have kl : (l.map (·.1)).length = l.length := by simp
  cases hh : hasE k l with
  | true =>
    rw [hh] at hf
    rw [hh, if_pos rfl] at hlen
    obtain ⟨a, b⟩ := insE_had k v l hh
    refine (put_had hL (by omega) (by omega) (by simp) k v _ hf (findL_lt k _ (by rw [findL_has]; exact hh))).mono ?_
    intro e w' hp
    exact leaf_one (l := l) hp a b _ (by omega) (by omega) _ (.inl rfl)
  | false =>
    rw [hh] at hf
    rw [hh, if_neg (by simp)] at hlen
    obtain ⟨a, b⟩ := insE_new k v l hh
    refine (put_new hL (by omega) (by omega) (by simp) k v _ hf (findL_le k _)).mono ?_
    intro e w' hp
    unfold PutPost at hp
    rw [← a, List.length_map, hlen] at hp
    split at hp
    · rename_i h5
      rw [a] at hp
      exact leaf_one (l := l) hp a b _ (by omega) (by omega) _ (.inl rfl)
    · rename_i h5
      rw [a] at hp
      have hl4 : l.length = 4 := by omega
      rw [hl4, show (4 + 1 + 1) / 2 = 3 from rfl] at hp
      exact leaf_two (l' := insE k v l) hp a b _ (by omega) (by omega) _ (.inr ⟨rfl, hl4, rfl⟩)
theorem NdsPost.base {w w1 : World} {h lo : Nat} {l : List Ent} {R : Nat → Prop} {e : Ending} {w' : World} (hp : NdsPost w1 h lo l R e w') (hb : Below w.heap.size w w1) : NdsPost w h lo l R e w' := by
  obtain ⟨s, ns, ls, h1, h2, h3, h4, h5, h6, h7, h8⟩ := hp
  have := hb.size
  exact ⟨s, ns, ls, h1, by omega, h3, h4, h5, h6, h7, hb.trans (h8.mono hb.size)⟩
theorem NdsPost.imp {w : World} {h lo : Nat} {l : List Ent} {R R' : Nat → Prop} {e : Ending} {w' : World} (hp : NdsPost w h lo l R e w') (hR : ∀ m, R m → R' m) : NdsPost w h lo l R' e w' := by
  obtain ⟨s, ns, ls, h1, h2, h3, h4, h5, h6, h7, h8⟩ := hp
  exact ⟨s, ns, ls, h1, h2, h3, h4, h5, h6, hR _ h7, h8⟩
/-- What follows the concatenation of kids: kidHalves. -/
def CatPost (w : World) (R : Ending → World → Prop) (e : Ending) (w' : World) : Prop := ∃ b off c N, e = .returned (.slice (some ⟨b, off, none⟩) N c) ∧ Hid (Calls Try.prog 66 #[.slice (some ⟨b, off, none⟩) N c] w' (fun e w5 => ∃ x, e = .returned x ∧ R e w5 ∧ Below w'.heap.size w' w5)) ∧ Below w.heap.size w w'
theorem cat3 {w : World} {b off cc i h s n3 c3 c2 : Nat} {A3 : Option Addr} {qs ns : List Nat} {ls ms : List (List Ent)} (hb : b < w.heap.size) (hq : ∀ j (h : j < qs.length), w.cell? ⟨b, off + j, none⟩ = some (.pointer (some ⟨qs[j], 0, none⟩))) (hk : All2 (Kid w h 2) qs ls) (hi : i < qs.length) (h4 : qs.length ≤ 5)
    (hs : s < w.heap.size) (hn : ∀ j (hj : j < ns.length), w.cell? ⟨s, j, none⟩ = some (.pointer (some ⟨ns[j], 0, none⟩))) (hm : All2 (Kid w h 2) ns ms) (hn0 : 0 < ns.length) (hn2 : ns.length ≤ 2) (d : Nat) (hd : i < d) (hd2 : d ≤ qs.length)
    (hA : A3 = if cc = d then some ⟨b, off, none⟩ else some ⟨b, off + d, none⟩) (hcc : qs.length ≤ cc) (h3 : n3 = qs.length - d) :
    Calls Try.prog 67 #[.slice (some ⟨w.heap.size, 0, none⟩) 3 3] (w.alloc (.cells #[.slice (some ⟨b, off, none⟩) i cc, .slice (some ⟨s, 0, none⟩) ns.length c2, .slice A3 n3 c3] 37))
      (CatPost w (fun e w' => (NdsPost w (h + 1) 2 ((ls.take i).flatten ++ ms.flatten ++ (ls.drop d).flatten) (fun m => m = 1 ∧ i + ns.length + (qs.length - d) ≤ 4 ∨ m = 2 ∧ 4 < i + ns.length + (qs.length - d)) e w' ∨ i + ns.length + (qs.length - d) < 2))) := by
  have hbl : Below w.heap.size w (w.alloc (.cells #[.slice (some ⟨b, off, none⟩) i cc, .slice (some ⟨s, 0, none⟩) ns.length c2, .slice A3 n3 c3] 37)) := (Below.refl _ _).alloc (Nat.le_refl _) _
  have hnew := heap_alloc_new w (.cells #[.slice (some ⟨b, off, none⟩) i cc, .slice (some ⟨s, 0, none⟩) ns.length c2, .slice A3 n3 c3] 37)
  have hsz : w.heap.size < (w.alloc (.cells #[.slice (some ⟨b, off, none⟩) i cc, .slice (some ⟨s, 0, none⟩) ns.length c2, .slice A3 n3 c3] 37)).heap.size := by simp
  generalize w.alloc (.cells #[.slice (some ⟨b, off, none⟩) i cc, .slice (some ⟨s, 0, none⟩) ns.length c2, .slice A3 n3 c3] 37) = X at *
  have l1 : (qs.take i).length = i := by rw [List.length_take]; omega
  have l3 : (qs.drop d).length = qs.length - d := List.length_drop
  have hfl : [qs.take i, ns, qs.drop d].flatten = qs.take i ++ ns ++ qs.drop d := by simp
  have hlen : (qs.take i ++ ns ++ qs.drop d).length = i + ns.length + (qs.length - d) := by rw [List.length_append, List.length_append, l1, l3]
  subst h3
  refine (cat_kids w.heap.size 3 [qs.take i, ns, qs.drop d] (by simp) (by rw [hfl, hlen]; omega) (by rw [hfl, hlen]; omega) hsz ?_).mono ?_
  · intro j hj
    match j, hj with
    | 0, _ =>
      refine ⟨some ⟨b, off, none⟩, cc, by simp only [World.cell?, hnew]; rw [show ([qs.take i, ns, qs.drop d][0]).length = i from l1]; rfl, KidsAt.below (fun _ => ⟨b, off, rfl, hb, fun j hj => ?_⟩) hbl, fun e => by cases e⟩
      have hj' : j < (qs.take i).length := hj
      show w.cell? _ = some (.pointer (some ⟨(qs.take i)[j], 0, none⟩))
      rw [List.getElem_take]; exact hq j (by omega)
    | 1, _ =>
      refine ⟨some ⟨s, 0, none⟩, c2, by simp only [World.cell?, hnew]; rfl, KidsAt.below (fun _ => ⟨s, 0, rfl, hs, fun j hj => ?_⟩) hbl, fun e => by cases e⟩
      rw [Nat.zero_add]; exact hn j hj
    | 2, _ =>
      refine ⟨A3, c3, by simp only [World.cell?, hnew]; rw [show ([qs.take i, ns, qs.drop d][2]).length = qs.length - d from l3]; rfl, KidsAt.below (fun hl => ?_) hbl, fun e => by rw [hA] at e; split at e <;> cases e⟩
      have hl' : 0 < (qs.drop d).length := hl
      rw [l3] at hl'
      refine ⟨b, off + d, by rw [hA, if_neg (by omega)], hb, fun j hj => ?_⟩
      have hj' : j < (qs.drop d).length := hj
      show w.cell? _ = some (.pointer (some ⟨(qs.drop d)[j], 0, none⟩))
      rw [List.getElem_drop, Nat.add_assoc]; exact hq (d + j) (by omega)
  · rintro e w4 ⟨b4, o4, c4, rfl, hb4, hq4, hc4, hm4, hbl4⟩
    have hB : Below w.heap.size w w4 := hbl.trans (hbl4.mono (Nat.le_of_lt hsz))
    have hall : All2 (Kid w4 h 2) [qs.take i, ns, qs.drop d].flatten (ls.take i ++ ms ++ ls.drop d) := by
      rw [hfl]
      exact (((hk.take i).append hm).append (hk.drop d)).imp (fun q m hq => hq.below hB)
    have hQ : [qs.take i, ns, qs.drop d].flatten.length = i + ns.length + (qs.length - d) := by rw [hfl, hlen]
    generalize [qs.take i, ns, qs.drop d].flatten = Q at *
    refine ⟨b4, o4, c4, Q.length, rfl, ?_, hB⟩
    show Calls _ _ _ _ _
    by_cases h2 : 2 ≤ Q.length
    · refine (halves_nds hb4 hq4 hall (by omega) (by omega) hc4 hm4 2 (Nat.le_refl _) h2).mono fun e w' hp => ⟨_, hp.choose_spec.choose_spec.choose_spec.1, .inl ?_, hp.choose_spec.choose_spec.choose_spec.2.2.2.2.2.2.2⟩
      rw [← hQ]
      have := NdsPost.base hp hB
      rw [List.flatten_append, List.flatten_append] at this
      exact this
    · exact (halves_nds hb4 hq4 hall (by omega) (by omega) hc4 hm4 0 (by omega) (by omega)).mono fun e w' hp => ⟨_, hp.choose_spec.choose_spec.choose_spec.1, .inr (by omega), hp.choose_spec.choose_spec.choose_spec.2.2.2.2.2.2.2⟩
set_option maxHeartbeats 3200000 in
set_option maxRecDepth 100000 in
theorem put_inner {w : World} {h p n : Nat} {l : List Ent} (hn : Nd w (h + 1) p l n) (h2 : 2 ≤ n) (h4 : n ≤ 4) (ha : Asc l) (k : Sp) (v : Int)
    (ih : ∀ (X : World) (q m : Nat) (u : List Ent), Nd X h q u m → 2 ≤ m → m ≤ 4 → Asc u → Calls Try.prog 33 #[.pointer (some ⟨q, 0, none⟩), k.v, .int .u64 v] X (NdsPost X h 2 (insE k v u) (PutR m (hasE k u)))) :
    Calls Try.prog 33 #[.pointer (some ⟨p, 0, none⟩), k.v, .int .u64 v] w (NdsPost w (h + 1) 2 (insE k v l) (PutR n (hasE k l))) := by
  obtain ⟨qs, ls, rfl, rfl, hI, hk⟩ := nd_succ.1 hn
  have hlen := hk.length
  have hne := kids_ne (by omega) hk
  have HI := Lib.hid hI
  have HK := Lib.hid hk
  have HA := Lib.hid ha
  have HN := Lib.hid hne
  have IH := Lib.hid ih
  have HLen := Lib.hid hlen
  obtain ⟨A, ca, C, cc, hin⟩ := hI
  obtain ⟨b, off, rfl, hblt, hkc⟩ := hin.kids (by omega)
  have plt := hin.lt
  have hcc := hin.hcc
  have hcm := hin.hcn
  unfold maxLen at hcm
  have c2 := hin.c2
  have HKc := Lib.hid hkc
  clear hn hk ha hne ih hin hkc hlen
  unfold Sp.v at IH ⊢
  obtain ⟨N, hN⟩ : ∃ N, qs.length = N := ⟨_, rfl⟩
  have HNq := Lib.hid hN
  rw [hN] at h2 h4 hcc c2 ⊢
  clear hN
  go_enter Try.func33, Try.ntmps33
  go_wp2_with fail
  have hbw : Below w.heap.size w (w.alloc (.cells #[.int .i64 k.br, .int .i64 k.vol, .int .i64 k.blk, .int .u64 k.num] 26)) := (Below.refl _ _).alloc (Nat.le_refl _) _
  have hq := heap_alloc_new w (.cells #[.int .i64 k.br, .int .i64 k.vol, .int .i64 k.blk, .int .u64 k.num] 26)
  have hqz : w.heap.size < (w.alloc (.cells #[.int .i64 k.br, .int .i64 k.vol, .int .i64 k.blk, .int .u64 k.num] 26)).heap.size := by simp
  generalize w.alloc (.cells #[.int .i64 k.br, .int .i64 k.vol, .int .i64 k.blk, .int .u64 k.num] 26) = W at *
  refine (leaf_no (HI.out.below hbw)).mono ?_
  rintro e w1 ⟨rfl, rfl⟩
  obtain ⟨q, hqe⟩ : ∃ q, w.heap.size = q := ⟨_, rfl⟩
  have HQ := Lib.hid hqe
  rw [hqe] at hq hqz hblt plt hbw ⊢
  clear hqe
  have k0 : W.cell? ⟨q, 0, none⟩ = some (.int .i64 k.br) := by simp only [World.cell?, hq]; rfl
  have k1 : W.cell? ⟨q, 1, none⟩ = some (.int .i64 k.vol) := by simp only [World.cell?, hq]; rfl
  have k2 : W.cell? ⟨q, 2, none⟩ = some (.int .i64 k.blk) := by simp only [World.cell?, hq]; rfl
  have k3 : W.cell? ⟨q, 3, none⟩ = some (.int .u64 k.num) := by simp only [World.cell?, hq]; rfl
  go_wp2_with fail
  refine (way_at (HI.out.below (by rw [HQ.out]; exact hbw)) k (by have := HLen.out; have := HNq.out; simp; omega)).mono ?_
  rintro e w2 ⟨i, fb, rfl, hF, hil, hb2⟩
  rw [List.length_map, ← HLen.out, HNq.out] at hil
  obtain ⟨bc, bf⟩ := bcell hb2
  have s0 := (bc q 0 hqz).trans k0
  have s1 := (bc q 1 hqz).trans k1
  have s2 := (bc q 2 hqz).trans k2
  have s3 := (bc q 3 hqz).trans k3
  have hz2 := hb2.size
  have hbw2 : Below q w w2 := hbw.trans (hb2.mono (Nat.le_of_lt hqz))
  have sp := (hbw2.cell (p := ⟨p, 2, none⟩) plt).trans c2
  have sk := (hbw2.cell (p := ⟨b, off + i, none⟩) hblt).trans (HKc.out i (by rw [HNq.out]; exact hil))
  have hqz2 : q < w2.heap.size := by omega
  have hpz2 : p < w2.heap.size := by omega
  have hbz2 : b < w2.heap.size := by omega
  clear bc bf k0 k1 k2 k3 hq hbw hb2 c2
  have HF := Lib.hid hF
  have HB2 := Lib.hid hbw2
  clear hF hbw2
  have hiq : i < qs.length := by rw [HNq.out]; exact hil
  have HPutG : Hid (∀ (A3 : Option Addr) (n3 : Nat), A3 = (if cc = i + 1 then some (⟨b, off, none⟩ : Addr) else some ⟨b, off + (i + 1), none⟩) → n3 = N - (i + 1) → ∀ X, Below q w X → Calls Try.prog 33 #[.pointer (some ⟨qs[i], 0, none⟩), .agg #[.int .i64 k.br, .int .i64 k.vol, .int .i64 k.blk, .int .u64 k.num], .int .u64 v] X (fun e w3 => ∃ s nl : Nat, e = .returned (.slice (some ⟨s, 0, none⟩) nl nl) ∧ Below X.heap.size X w3 ∧ ∀ c3, Hid (Calls Try.prog 67 #[.slice (some ⟨w3.heap.size, 0, none⟩) 3 3] (w3.alloc (.cells #[.slice (some ⟨b, off, none⟩) i cc, .slice (some ⟨s, 0, none⟩) nl nl, .slice A3 n3 c3] 37)) (CatPost w3 (NdsPost w (h + 1) 2 (insE k v ls.flatten) (PutR N (hasE k ls.flatten))))))) := by
    show ∀ (A3 : Option Addr) (n3 : Nat), _
    intro A3 n3 hA3 hn3 X hX
    have hX' : Below w.heap.size w X := by rw [HQ.out]; exact hX
    have hil' : i < ls.length := by rw [← HLen.out]; exact hiq
    obtain ⟨sz, z1, z2, z3⟩ := HK.out.get i hiq hil'
    refine (IH.out X _ sz _ (z3.below hX') z1 z2 (asc_kid HA.out hil')).mono ?_
    rintro e w3 ⟨s, ns, ms, rfl, t1, t2, t3, t4, t5, t6, t7⟩
    refine ⟨s, ns.length, rfl, t7, fun c3 => ?_⟩
    have hW3 : Below w.heap.size w w3 := hX'.trans (t7.mono hX'.size)
    have hns : 0 < ns.length ∧ ns.length ≤ 2 := by rcases t6 with h | h <;> omega
    have hc3 := cat3 (w := w3) (b := b) (off := off) (cc := cc) (i := i) (h := h) (s := s) (n3 := n3) (c3 := c3) (c2 := ns.length) (A3 := A3) (qs := qs) (ns := ns) (ls := ls) (ms := ms)
      (by have := hW3.size; rw [HQ.out] at this; omega) (fun j hj => (hW3.cell (p := ⟨b, off + j, none⟩) (by rw [HQ.out]; exact hblt)).trans (HKc.out j hj)) (HK.out.imp (fun q m hq => hq.below hW3)) hiq (by rw [HNq.out]; omega) t2 t3 t4 hns.1 hns.2 (i + 1) (by omega) (by omega) hA3 (by rw [HNq.out]; exact hcc) (by rw [HNq.out]; exact hn3)
    show Calls _ _ _ _ _
    refine hc3.mono ?_
    rintro e w4 ⟨b4, o4, c4, N4, rfl, hn4, hb4⟩
    refine ⟨b4, o4, c4, N4, rfl, ?_, hb4⟩
    show Calls _ _ _ _ _
    refine hn4.out.mono ?_
    rintro e w5 ⟨x, hx, hp, hb5⟩
    refine ⟨x, hx, ?_, hb5⟩
    rcases hp with hp | hp
    · rw [way_ins HA.out HN.out HF.out hil', ← t5]
      refine NdsPost.imp (hp.base hW3) (fun m hm => ?_)
      rw [HNq.out] at hm
      rcases hm with ⟨hm, _⟩ | ⟨hm, hm2⟩
      · exact .inl hm
      · have h6 : ns.length = 2 ∧ sz = 4 ∧ hasE k ls[i] = false := by
          rcases t6 with h | h
          · omega
          · exact h
        exact .inr ⟨hm, by omega, by rw [way_has HA.out HN.out HF.out hil']; exact h6.2.2⟩
    · rw [HNq.out] at hp; omega
  generalize qs[i] = y at *
  have i1 : (0 : Int) ≤ (i : Int) := by omega
  have i2 : (i : Int) < (N : Int) := by omega
  have i3 : (i : Int) ≤ (N : Int) := by omega
  have i4 : (i : Int) ≤ (cc : Int) := by omega
  have i5 : (0 : Int) ≤ (i : Int) + 1 := by omega
  have i6 : (i : Int) + 1 ≤ (N : Int) := by omega
  have i7 : ((i : Int) + 1).toNat = i + 1 := by omega
  have w1 : IntKind.i64.wrap ((i : Int) + 1) = (i : Int) + 1 := by rw [IntKind.wrap_i64]; omega
  by_cases hcd : cc = i + 1
  · obtain rfl : N = i + 1 := by omega
    subst hcd
    have j1 : (i : Int) ≤ (i : Int) + 1 := by omega
    have j2 : (i : Int) < (i : Int) + 1 := by omega
    have HPut := Lib.hid (HPutG.out (some ⟨b, off, none⟩) 0 (by rw [if_pos rfl]) (by omega))
    clear HPutG
    go_wp2_with fail
    go_region_held3 (fun w' => w'.cell? ⟨p, 2, none⟩ = some (.slice (some ⟨b, off, none⟩) (i + 1) (i + 1)) ∧ w'.cell? ⟨b, off + i, none⟩ = some (.pointer (some ⟨y, 0, none⟩)) ∧ w'.cell? ⟨q, 0, none⟩ = some (.int .i64 k.br) ∧ w'.cell? ⟨q, 1, none⟩ = some (.int .i64 k.vol) ∧ w'.cell? ⟨q, 2, none⟩ = some (.int .i64 k.blk) ∧ w'.cell? ⟨q, 3, none⟩ = some (.int .u64 k.num)) (go_keep)
      (first
      | (go_at_call 33; refine (HPut.out _ ?_).mono ?_; (· exact HB2.out.trans (bel_drewN _ _ (n := 1))); rintro e w3 ⟨s, nl, rfl, hb3, hcat⟩; replace hb3 := bel_undrew hb3; obtain ⟨bc3, bf3⟩ := bcell hb3; have z3 := hb3.size; have hp3 := Nat.lt_of_lt_of_le hpz2 z3; have hbb3 := Nat.lt_of_lt_of_le hbz2 z3; have hq3 := Nat.lt_of_lt_of_le hqz2 z3)
      | (go_at_call 67; refine (hcat _).out.mono ?_; rintro e w4 ⟨b4, o4, c4, N4, rfl, hn4, hb4⟩; obtain ⟨bc4, bf4⟩ := bcell hb4; have z4 := hb4.size; have hp4 := Nat.lt_of_lt_of_le hp3 z4; have hbb4 := Nat.lt_of_lt_of_le hbb3 z4; have hq4 := Nat.lt_of_lt_of_le hq3 z4)
      | (go_at_call 66; refine hn4.out.mono ?_; rintro e w5 ⟨v5, rfl, hp5, hb5⟩; obtain ⟨bc5, bf5⟩ := bcell hb5; have z5 := hb5.size))
    go_wp2_with fail
    go_ret
    exact hp5
  · have HPut := Lib.hid (HPutG.out (some ⟨b, off + (i + 1), none⟩) (N - (i + 1)) (by rw [if_neg hcd]) rfl)
    clear HPutG
    go_wp2_with fail
    go_region_held3 (fun w' => w'.cell? ⟨p, 2, none⟩ = some (.slice (some ⟨b, off, none⟩) N cc) ∧ w'.cell? ⟨b, off + i, none⟩ = some (.pointer (some ⟨y, 0, none⟩)) ∧ w'.cell? ⟨q, 0, none⟩ = some (.int .i64 k.br) ∧ w'.cell? ⟨q, 1, none⟩ = some (.int .i64 k.vol) ∧ w'.cell? ⟨q, 2, none⟩ = some (.int .i64 k.blk) ∧ w'.cell? ⟨q, 3, none⟩ = some (.int .u64 k.num)) (go_keep)
      (first
      | (go_at_call 33; refine (HPut.out _ ?_).mono ?_; (· exact HB2.out.trans (bel_drewN _ _ (n := 1))); rintro e w3 ⟨s, nl, rfl, hb3, hcat⟩; replace hb3 := bel_undrew hb3; obtain ⟨bc3, bf3⟩ := bcell hb3; have z3 := hb3.size; have hp3 := Nat.lt_of_lt_of_le hpz2 z3; have hbb3 := Nat.lt_of_lt_of_le hbz2 z3; have hq3 := Nat.lt_of_lt_of_le hqz2 z3)
      | (go_at_call 67; refine (hcat _).out.mono ?_; rintro e w4 ⟨b4, o4, c4, N4, rfl, hn4, hb4⟩; obtain ⟨bc4, bf4⟩ := bcell hb4; have z4 := hb4.size; have hp4 := Nat.lt_of_lt_of_le hp3 z4; have hbb4 := Nat.lt_of_lt_of_le hbb3 z4; have hq4 := Nat.lt_of_lt_of_le hq3 z4)
      | (go_at_call 66; refine hn4.out.mono ?_; rintro e w5 ⟨v5, rfl, hp5, hb5⟩; obtain ⟨bc5, bf5⟩ := bcell hb5; have z5 := hb5.size))
    go_wp2_with fail
    go_ret
    exact hp5
end Go.Proofs.Ytainljbkejafcaa.N
