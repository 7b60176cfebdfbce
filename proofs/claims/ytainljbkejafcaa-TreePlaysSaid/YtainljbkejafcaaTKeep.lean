/- TKeep: joined by merge.py. -/
import Derived.Test.YtainljbkejafcaaTA
/- A tree stays where a block changes that holds no part of it; rows of pointers and of slices. -/
namespace Go.Proofs.Ytainljbkejafcaa.N
open Go.BigFrame Go.RowKit Go.Proofs.YtainljbkejafcaaW.PrintMore Go.Proofs.YtainljbkejafcaaW.PrintWords
set_option linter.unusedVariables false
set_option linter.unusedSimpArgs false
/-- A value that is no number and no pointer to a node. -/
def NotN (w : World) (v : Value) : Prop := (∃ a n c, v = .slice a n c) ∨ v = .pointer none ∨ ∃ q cs fz, v = .pointer (some ⟨q, 0, none⟩) ∧ w.heap[q]? = some (.cells cs 102 fz)
/-- A block that holds no part of a tree. -/
def PB (w : World) (L : Nat) : Prop := ∃ cs T fz, w.heap[L]? = some (.cells cs T fz) ∧ T ≠ 39 ∧ T ≠ 102 ∧ ∀ v ∈ cs.toList, NotN w v
def IsN (w : World) (q : Nat) : Prop := ∃ cs fz, w.heap[q]? = some (.cells cs 39 fz)
theorem notN_int {w : World} {k : IntKind} {i : Int} : ¬ NotN w (.int k i) := by
  rintro (⟨a, n, c, e⟩ | e | ⟨q, cs, fz, e, _⟩) <;> cases e
theorem notN_node {w : World} {q : Nat} (h : IsN w q) : ¬ NotN w (.pointer (some ⟨q, 0, none⟩)) := by
  obtain ⟨cs, fz, h⟩ := h
  rintro (⟨a, n, c, e⟩ | e | ⟨q', cs', fz', e, h'⟩)
  · cases e
  · cases e
  · injection e with e
    injection e with e
    injection e with e1
    subst e1
    rw [h] at h'
    injection h' with h'
    injection h' with h1 h2 h3
    exact absurd h2 (by decide)
theorem Nd.isN {w : World} : ∀ {h p n : Nat} {l : List Ent}, Nd w h p l n → IsN w p
  | 0, p, n, l, hn => by obtain ⟨_, A, ca, B, cb, h⟩ := hn; exact ⟨_, _, h.hp⟩
  | h + 1, p, n, l, hn => by obtain ⟨qs, ls, _, _, ⟨A, ca, B, cb, h⟩, _⟩ := nd_succ.1 hn; exact ⟨_, _, h.hp⟩
theorem all2_isN {w : World} {h lo : Nat} : ∀ {qs : List Nat} {ls : List (List Ent)}, All2 (Kid w h lo) qs ls → ∀ q ∈ qs, IsN w q
  | [], _, _, q, hq => by cases hq
  | a :: s, [], hh, q, hq => absurd hh (by simp [All2])
  | a :: s, b :: t, hh, q, hq => by
    rcases List.mem_cons.1 hq with rfl | hq
    · obtain ⟨_, _, _, hn⟩ := hh.1
      exact hn.isN
    · exact all2_isN hh.2 q hq
theorem cell_apartP {w : World} {L b off : Nat} {v : Value} (hL : PB w L) (h : w.cell? ⟨b, off, none⟩ = some v) (hv : ¬ NotN w v) : b ≠ L := by
  rintro rfl
  obtain ⟨cs, T, fz, hp, _, _, hc⟩ := hL
  simp only [World.cell?, hp] at h
  exact hv (hc v (Array.mem_toList_iff.2 (Array.mem_of_getElem? (by simpa using h))))
theorem node_apartP {w : World} {L p : Nat} (hL : PB w L) (h : IsN w p) : p ≠ L := by
  rintro rfl
  obtain ⟨cs, T, fz, hp, hT, _, hc⟩ := hL
  obtain ⟨cs', fz', h⟩ := h
  rw [hp] at h
  injection h with h
  injection h with _ h2
  exact hT h2
section
variable {w w' : World} {row : Option Nat} (hL : ∀ L, row = some L → PB w L) (hg : w.grownBy w' row)
include hL hg
theorem cell_grownP {b off : Nat} {v : Value} (hb : b < w.heap.size) (h : w.cell? ⟨b, off, none⟩ = some v) (hv : ¬ NotN w v) : w'.cell? ⟨b, off, none⟩ = some v :=
  (World.cell?_of_block (hg.block b hb (fun e => cell_apartP (hL b e.symm) h hv rfl))).trans h
theorem SpotsAt.grownP {A : Option Addr} {l : List Sp} (h : SpotsAt w A l) : SpotsAt w' A l := fun hl => by
  obtain ⟨b, off, e, hlt, hc⟩ := h hl
  have hz := hg.size
  exact ⟨b, off, e, by omega, fun j hj => by
    obtain ⟨a0, a1, a2, a3⟩ := hc j hj
    exact ⟨cell_grownP hL hg hlt a0 notN_int, cell_grownP hL hg hlt a1 notN_int, cell_grownP hL hg hlt a2 notN_int, cell_grownP hL hg hlt a3 notN_int⟩⟩
theorem ValsAt.grownP {A : Option Addr} {l : List Int} (h : ValsAt w A l) : ValsAt w' A l := fun hl => by
  obtain ⟨b, off, e, hlt, hc⟩ := h hl
  have hz := hg.size
  exact ⟨b, off, e, by omega, fun j hj => cell_grownP hL hg hlt (hc j hj) notN_int⟩
theorem KidsAt.grownP {A : Option Addr} {l : List Nat} (hN : ∀ q ∈ l, IsN w q) (h : KidsAt w A l) : KidsAt w' A l := fun hl => by
  obtain ⟨b, off, e, hlt, hc⟩ := h hl
  have hz := hg.size
  exact ⟨b, off, e, by omega, fun j hj => cell_grownP hL hg hlt (hc j hj) (notN_node (hN _ (List.getElem_mem hj)))⟩
theorem Leaf.grownP {p : Nat} {ks : List Sp} {vs : List Int} (h : Leaf w p ks vs) : Leaf w' p ks vs := by
  obtain ⟨A, ca, B, cb, h⟩ := h
  exact ⟨A, ca, B, cb, { h with hp := (hg.block p h.lt (fun e => node_apartP (hL p e.symm) ⟨_, _, h.hp⟩ rfl)).trans h.hp, keys := h.keys.grownP hL hg, vals := h.vals.grownP hL hg }⟩
theorem Inner.grownP {p : Nat} {ks : List Sp} {qs : List Nat} (hN : ∀ q ∈ qs, IsN w q) (h : Inner w p ks qs) : Inner w' p ks qs := by
  obtain ⟨A, ca, B, cb, h⟩ := h
  exact ⟨A, ca, B, cb, { h with hp := (hg.block p h.lt (fun e => node_apartP (hL p e.symm) ⟨_, _, h.hp⟩ rfl)).trans h.hp, keys := h.keys.grownP hL hg, kids := h.kids.grownP hL hg hN }⟩
theorem Nd.grownP : ∀ {h p n : Nat} {l : List Ent}, Nd w h p l n → Nd w' h p l n
  | 0, p, n, l, hn => ⟨hn.1, hn.2.grownP hL hg⟩
  | h + 1, p, n, l, hn => by
    obtain ⟨qs, ls, a, b, c, d⟩ := nd_succ.1 hn
    exact nd_succ.2 ⟨qs, ls, a, b, c.grownP hL hg (all2_isN d), d.imp (fun q m hk => by obtain ⟨s, s1, s2, s3⟩ := hk; exact ⟨s, s1, s2, Nd.grownP s3⟩)⟩
theorem RootAt.grownP {r : Option Addr} {l : List Ent} (h : RootAt w r l) : RootAt w' r l := by
  rcases h with h | ⟨q, h, n, a, b, c⟩
  · exact .inl h
  · exact .inr ⟨q, h, n, a, b.grownP hL hg, c⟩
theorem blk_grownP {b : Nat} {cs : Array Value} (h : Blk w b cs 102) : Blk w' b cs 102 := by
  refine (hg.block b h.lt (fun e => ?_)).trans h
  obtain ⟨cs', T, fz, hp, _, hT, _⟩ := hL b e.symm
  rw [show w.heap[b]? = _ from h] at hp
  injection hp with hp
  injection hp with _ h2
  exact hT h2.symm
theorem TreeAt.grownP {p : Option Addr} {l : List Ent} (h : TreeAt w p l) : TreeAt w' p l := by
  rcases h with h | ⟨b, r, e, h1, h2⟩
  · exact .inl h
  · exact .inr ⟨b, r, e, blk_grownP hL hg h1, h2.grownP hL hg⟩
theorem ItemsAt.grownP {A : Option Addr} {l : List Ent} (h : ItemsAt w A l) : ItemsAt w' A l := fun hl => by
  obtain ⟨b, off, e, hlt, hc⟩ := h hl
  have hz := hg.size
  exact ⟨b, off, e, by omega, fun j hj => by
    obtain ⟨a0, a1, a2, a3, a4⟩ := hc j hj
    exact ⟨cell_grownP hL hg hlt a0 notN_int, cell_grownP hL hg hlt a1 notN_int, cell_grownP hL hg hlt a2 notN_int, cell_grownP hL hg hlt a3 notN_int, cell_grownP hL hg hlt a4 notN_int⟩⟩
end
theorem TreeAt.notN {w : World} {p : Option Addr} {l : List Ent} (h : TreeAt w p l) : NotN w (.pointer p) := by
  rcases h with ⟨rfl, _⟩ | ⟨b, r, rfl, h1, _⟩
  · exact .inr (.inl rfl)
  · exact .inr (.inr ⟨b, _, _, rfl, h1⟩)
/-- An own row of one-cell elements whose free cells are z. -/
def RowZ (w : World) (B : Nat) (e : TypeId) (z v : Value) (n : Nat) (xs : List Value) : Prop :=
  w.ownsRow B e 1 v n xs ∧ ∀ g, v.ownBlock = some g → ∃ cur, w.heap[g]? = some (.cells cur e (0, 0)) ∧ ∀ u ∈ cur.toList.drop n, u = z
theorem RowZ.nil (w : World) (B : Nat) (e : TypeId) (z : Value) : RowZ w B e z (.slice none 0 0) 0 [] := ⟨World.ownsRow_nil _ _ _ _, fun g h => by cases h⟩
theorem RowZ.stay {w w' : World} {B n : Nat} {e : TypeId} {z v : Value} {xs : List Value} (h : RowZ w B e z v n xs) (hs : ∀ q, v.ownBlock = some q → w'.heap[q]? = w.heap[q]?) : RowZ w' B e z v n xs :=
  ⟨own_stay h.1 hs, fun g hg => by obtain ⟨cur, hc, hu⟩ := h.2 g hg; exact ⟨cur, (hs g hg).trans hc, hu⟩⟩
theorem RowZ.lt {w : World} {B n : Nat} {e : TypeId} {z v : Value} {xs : List Value} (h : RowZ w B e z v n xs) : ∀ q, v.ownBlock = some q → q < w.heap.size := fun q hq => own_lt h.1 q hq
theorem RowZ.below {w w' : World} {B n : Nat} {e : TypeId} {z v : Value} {xs : List Value} (h : RowZ w B e z v n xs) (hb : Below w.heap.size w w') : RowZ w' B e z v n xs := h.stay (fun q hq => hb.block q (h.lt q hq))
/-- What stands in the row is no part of a tree. -/
theorem RowZ.pb {w : World} {B n : Nat} {e : TypeId} {z v : Value} {xs : List Value} (h : RowZ w B e z v n xs) (hT : e ≠ 39) (hT2 : e ≠ 102) (hx : ∀ u ∈ xs, NotN w u) (hz : NotN w z) : ∀ L, v.ownBlock = some L → PB w L := fun L hL => by
  obtain ⟨cur, hc, hu⟩ := h.2 L hL
  refine ⟨cur, e, _, hc, hT, hT2, fun u hu' => ?_⟩
  rw [← List.take_append_drop n cur.toList] at hu'
  rcases List.mem_append.1 hu' with hm | hm
  · rcases h.1.2 with ⟨e1, _⟩ | ⟨g, cap, cur', e1, _, hh, _, _, _, h4⟩
    · subst e1; cases hL
    · subst e1
      simp only [Value.ownBlock, Option.some.injEq] at hL
      subst hL
      rw [hh] at hc
      injection hc with hc
      injection hc with hc
      subst hc
      rw [Nat.mul_one] at h4
      exact hx u (h4 ▸ hm)
  · rw [hu u hm]; exact hz
theorem zero_cells {z u : Value} (hz : z.cells = #[z]) {k : Nat} (h : u ∈ (Builtin.zeroCells z.cells k).toList) : u = z := by
  rw [hz] at h
  simp [Builtin.zeroCells] at h
  obtain ⟨a, _, h⟩ := h
  rw [← h]
  simp [Nat.mod_one]
section
variable {w : World} {B n : Nat} {t ty e : TypeId} {i : TypeInfo} {z v x : Value} {bytes : Nat} {xs : List Value}
/-- append of one. -/
theorem run_appZ (ht : Try.prog.underlying t = some (.slice e)) (hi : Try.prog.info? e = some i) (hz : i.zero = some z) (hs : i.size = 1) (hby : i.bytes = bytes) (hb8 : bytes ≤ 24) (hzc : z.cells = #[z]) (hx1 : x.oneCell' = true)
    (h : RowZ w B e z v n xs) (hB : B ≤ w.heap.size) (hn : n ≤ 1000) :
    ∃ A' c' w', (Builtin.append_ #[t, t] ty #[v, .slice (some ⟨w.heap.size, 0, none⟩) 1 1]).run Try.prog (w.alloc (.cells #[x] e)) = .ok (.slice A' (n + 1) c') w' ∧ RowZ w' B e z (.slice A' (n + 1) c') (n + 1) (xs ++ [x]) ∧ Below B w w' ∧ (w.alloc (.cells #[x] e)).grownBy w' v.ownBlock ∧
      ((Value.slice A' (n + 1) c').ownBlock = v.ownBlock ∨ (Value.slice A' (n + 1) c').ownBlock = some (w.heap.size + 1)) := by
  have ho : RowZ (w.alloc (.cells #[x] e)) B e z v n xs := h.stay (fun q hq => ((Below.refl w.heap.size w).alloc (Nat.le_refl _) _).block q (h.lt q hq))
  have hc := Blk.new w #[x] e
  have hnews : ∀ j u, [x][j]? = some u → (w.alloc (.cells #[x] e)).cell? ((⟨w.heap.size, 0, none⟩ : Addr).add j) = some u := cell_one_new w x e
  have h1 : ∀ u ∈ [x], u.oneCell' = true := fun u hu => by rw [List.mem_singleton.1 hu]; exact hx1
  obtain ⟨v', w', r1, r2, r3, _, r4⟩ := run_append_own_at (P := Try.prog) (w.alloc (.cells #[x] e)) B t ty e i z 1 bytes ht hi hz hs hby (by rw [hzc]; rfl) (by decide) v n xs ho.1 ⟨w.heap.size, 0, none⟩ 1 1 [x] rfl hnews h1 (by simp only [maxLen]; omega) (by have : (n + 1) * bytes ≤ 1001 * 24 := Nat.mul_le_mul (by omega) hb8; omega) (by rw [World.size_alloc]; omega)
  have hf : ∃ A' c', v' = .slice A' (n + 1) c' := by
    rcases r2.2 with ⟨rfl, e⟩ | ⟨g, cap, cur, rfl, _⟩
    · exact ⟨none, 0, by rw [e]⟩
    · exact ⟨_, cap, rfl⟩
  obtain ⟨A', c', rfl⟩ := hf
  rw [World.size_alloc] at r4
  refine ⟨A', c', w', r1, ⟨r2, fun g hg => ?_⟩, ((Below.refl B w).alloc hB _).grown r3 (by rw [World.size_alloc]; omega) (own_ge h.1), r3, r4⟩
  rcases ho.1.2 with ⟨rfl, rfl⟩ | ⟨g0, cap, cur, rfl, hbg, hg0, hnc, hcm, hcs, htake⟩
  · have hxs : xs = [] := List.eq_nil_of_length_eq_zero (by simpa using ho.1.1)
    subst hxs
    have hr := run_append_nil (P := Try.prog) (w.alloc (.cells #[x] e)) t ty e i z ht hi hz ⟨w.heap.size, 0, none⟩ 1 1 [x] (by rw [hs]; rfl) hnews (by omega) (by omega) (by omega)
    rw [r1] at hr
    injection hr with hr1 hr2
    rw [hr1] at hg
    simp only [Value.ownBlock, Option.some.injEq] at hg
    subst hg
    rw [hr2]
    refine ⟨_, heap_alloc_new (World.drew _) _, fun u hu => ?_⟩
    simp only [Array.toList_append, Nat.zero_add] at hu
    rw [List.drop_left' (by rfl)] at hu
    exact zero_cells hzc hu
  · by_cases hroom : n + 1 ≤ cap
    · have hr := run_append_room (P := Try.prog) (w.alloc (.cells #[x] e)) t ty e i ht hi g0 n cap cur hg0 ⟨w.heap.size, 0, none⟩ 1 1 [x] (by rw [hs]; rfl) hnews h1 hroom (by rw [hs, hcs]; simp; omega)
      rw [r1] at hr
      injection hr with hr1 hr2
      rw [hr1] at hg
      simp only [Value.ownBlock, Option.some.injEq] at hg
      subst hg
      rw [hr2]
      refine ⟨_, setRow_heap _ _ _ _ _ _ hg0, fun u hu => ?_⟩
      obtain ⟨cur2, hc2, hu2⟩ := ho.2 g0 rfl
      obtain rfl : cur = cur2 := (Obj.cells.inj (Option.some.inj (hg0.symm.trans hc2))).1
      simp only [hs, Nat.mul_one, List.length_singleton] at hu
      rw [List.drop_left' (by simp [Array.length_toList, hcs]; omega)] at hu
      refine hu2 u ?_
      rw [← List.drop_drop] at hu
      exact List.mem_of_mem_drop hu
    · have holds : ∀ j u, xs[j]? = some u → (w.alloc (.cells #[x] e)).cell? ((⟨g0, 0, none⟩ : Addr).add j) = some u := ho.1.cells (g := g0) rfl
      have hr := run_append_grow (P := Try.prog) (w.alloc (.cells #[x] e)) t ty e i z ht hi hz ⟨g0, 0, none⟩ n cap xs (by rw [hs]; exact ho.1.1) holds ⟨w.heap.size, 0, none⟩ 1 1 [x] (by rw [hs]; rfl) hnews (by omega) (by omega) (growslice_fits (by omega) (by rw [hby]; have : (n + 1) * bytes ≤ 1001 * 24 := Nat.mul_le_mul (by omega) hb8; omega))
      rw [r1] at hr
      injection hr with hr1 hr2
      rw [hr1] at hg
      simp only [Value.ownBlock, Option.some.injEq] at hg
      subst hg
      rw [hr2]
      refine ⟨_, heap_alloc_new (World.drew _) _, fun u hu => ?_⟩
      simp only [Array.toList_append] at hu
      rw [List.drop_left' (by have := ho.1.1; simp; omega)] at hu
      exact zero_cells hzc hu
end
end Go.Proofs.Ytainljbkejafcaa.N
