/- What NodeEmpties needs: which spots a list has, and a row whose spots are stored anew. -/
import Derived.Test.YtjeebbolnanmkaaNRight
import Derived.Test.YtjeebbolnanmkaaNList
namespace Go.Proofs.Ytjeebbolnanmkaa.N
open Go.BigFrame Go.RowKit Go.Proofs.YtjeebbolnanmkaaW.PrintMore Go.Proofs.YtjeebbolnanmkaaW.PrintWords
set_option linter.unusedVariables false
set_option linter.unusedSimpArgs false
theorem insE_self (k : Sp) (v : Int) : ∀ l : List Ent, (k, v) ∈ insE k v l
  | [] => by simp [insE]
  | x :: t => by
    rw [insE]
    split
    · exact List.mem_cons_of_mem _ (insE_self k v t)
    · split <;> simp
theorem insE_keep {k : Sp} {v : Int} : ∀ {l : List Ent} {y : Ent}, y ∈ l → y.1 ≠ k → y ∈ insE k v l
  | [], y, h, _ => by cases h
  | x :: t, y, h, hn => by
    rw [insE]
    rcases List.mem_cons.1 h with rfl | h
    · split
      · simp
      · simp [hn]
    · split
      · exact List.mem_cons_of_mem _ (insE_keep h hn)
      · split <;> simp [h]
theorem delE_keep {k : Sp} : ∀ {l : List Ent} {y : Ent}, y ∈ l → y.1 ≠ k → y ∈ delE k l
  | [], y, h, _ => by cases h
  | x :: t, y, h, hn => by
    rw [delE]
    rcases List.mem_cons.1 h with rfl | h
    · split
      · simp
      · simp [hn]
    · split
      · exact List.mem_cons_of_mem _ (delE_keep h hn)
      · split <;> simp [h]
theorem delE_ne {k : Sp} : ∀ {l : List Ent}, Asc l → ∀ y ∈ delE k l, y.1 ≠ k
  | [], _, y, h => by simp [delE] at h
  | x :: t, ha, y, h => by
    unfold Asc at ha
    rw [List.pairwise_cons] at ha
    rw [delE] at h
    split at h
    · rename_i hx
      rcases List.mem_cons.1 h with rfl | h
      · exact lt_ne hx
      · exact delE_ne (l := t) ha.2 y h
    · rename_i hx
      split at h
      · rename_i e
        exact fun e2 => lt_ne (ha.1 y h) (e.trans e2.symm)
      · rename_i e
        rcases List.mem_cons.1 h with rfl | h
        · exact e
        · intro e2
          have := ha.1 y h
          rw [e2] at this
          exact hx this
theorem hasE_ins {x k : Sp} {v : Int} {l : List Ent} (ha : Asc l) : hasE x (insE k v l) = true ↔ x = k ∨ hasE x l = true := by
  rw [hasE_iff (insE_asc ha), hasE_iff ha]
  constructor
  · rintro ⟨y, hy, e⟩
    rcases insE_mem hy with rfl | hy
    · exact .inl e.symm
    · exact .inr ⟨y, hy, e⟩
  · rintro (rfl | ⟨y, hy, e⟩)
    · exact ⟨_, insE_self _ v l, rfl⟩
    · by_cases hk : y.1 = k
      · exact ⟨_, insE_self k v l, by rw [← e, hk]⟩
      · exact ⟨y, insE_keep hy hk, e⟩
theorem hasE_del {x k : Sp} {l : List Ent} (ha : Asc l) : hasE x (delE k l) = true ↔ x ≠ k ∧ hasE x l = true := by
  rw [hasE_iff (delE_asc ha), hasE_iff ha]
  constructor
  · rintro ⟨y, hy, e⟩
    exact ⟨by rw [← e]; exact delE_ne ha y hy, y, delE_mem hy, e⟩
  · rintro ⟨hne, y, hy, e⟩
    exact ⟨y, delE_keep hy (by rw [e]; exact hne), e⟩
/-- The spots that were put, one behind the other. -/
def putsE (ls : List Sp) : Nat → List Ent
  | 0 => []
  | j + 1 => match ls[j]? with
    | some k => insE k j (putsE ls j)
    | none => putsE ls j
theorem putsE_succ {ls : List Sp} {j : Nat} (h : j < ls.length) : putsE ls (j + 1) = insE ls[j] j (putsE ls j) := by
  rw [putsE, List.getElem?_eq_getElem h]
theorem putsE_ok (ls : List Sp) : ∀ j, j ≤ ls.length → Asc (putsE ls j) ∧ (putsE ls j).length ≤ j ∧ ∀ x, hasE x (putsE ls j) = true ↔ x ∈ ls.take j
  | 0, _ => ⟨List.Pairwise.nil, Nat.le_refl _, fun x => by simp [putsE, hasE]⟩
  | j + 1, hj => by
    obtain ⟨a, b, c⟩ := putsE_ok ls j (by omega)
    rw [putsE_succ (by omega)]
    refine ⟨insE_asc a, by have := insE_length (k := ls[j]'(by omega)) (v := (j : Int)) (l := putsE ls j); split at this <;> omega, fun x => ?_⟩
    rw [hasE_ins a, c, List.take_succ_eq_append_getElem (by omega), List.mem_append, List.mem_singleton, or_comm]
/-- What is left behind the first i were taken away. -/
def LeftE (ls ms : List Sp) (i : Nat) (e : List Ent) : Prop := Asc e ∧ e.length ≤ ls.length ∧ ∀ x, hasE x e = true ↔ x ∈ ls ∧ x ∉ ms.take i
theorem left_first {ls ms : List Sp} {i : Nat} {e : List Ent} (h : LeftE ls ms i e) (hp : ms.Perm ls) (hi : i < ms.length) : hasE ms[i] e = decide (ms[i] ∉ ms.take i) := by
  rw [Bool.eq_iff_iff, decide_eq_true_iff, h.2.2]
  exact ⟨fun h => h.2, fun h => ⟨hp.mem_iff.1 (List.getElem_mem hi), h⟩⟩
theorem left_step {ls ms : List Sp} {i : Nat} {e : List Ent} (h : LeftE ls ms i e) (hi : i < ms.length) : LeftE ls ms (i + 1) (delE ms[i] e) := by
  obtain ⟨a, b, c⟩ := h
  refine ⟨delE_asc a, by rw [delE_length]; split <;> omega, fun x => ?_⟩
  rw [hasE_del a, c, List.take_succ_eq_append_getElem hi, List.mem_append, List.mem_singleton, not_or]
  exact ⟨fun ⟨p, q, r⟩ => ⟨q, r, p⟩, fun ⟨p, q, r⟩ => ⟨r, p, q⟩⟩
theorem left_none {ls ms : List Sp} {i : Nat} (h : LeftE ls ms i []) (hp : ms.Perm ls) (hi : i < ms.length) : ms[i] ∈ ms.take i := by
  have := left_first h hp hi
  simp [hasE] at this
  exact this
theorem left_end {ls ms : List Sp} {e : List Ent} (h : LeftE ls ms ms.length e) (hp : ms.Perm ls) : e = [] := by
  obtain ⟨a, b, c⟩ := h
  cases e with
  | nil => rfl
  | cons y t =>
    have := (c y.1).1 ((hasE_iff a).2 ⟨y, by simp, rfl⟩)
    rw [List.take_length, hp.mem_iff] at this
    exact absurd this.1 this.2
def SpIn (cur : Array Value) (o : Nat) (s : Sp) : Prop := cur[o]? = some (.int .i64 s.br) ∧ cur[o + 1]? = some (.int .i64 s.vol) ∧ cur[o + 2]? = some (.int .i64 s.blk) ∧ cur[o + 3]? = some (.int .u64 s.num)
def RowAt (w : World) (g : Nat) (ms : List Sp) : Prop := ∃ cur : Array Value, w.heap[g]? = some (.cells cur 26 (0, 0)) ∧ ∀ j (h : j < ms.length), SpIn cur (j * 4) ms[j]
theorem RowAt.lt {w : World} {g : Nat} {ms : List Sp} (h : RowAt w g ms) : g < w.heap.size := by
  obtain ⟨cur, hh, _⟩ := h; exact (Array.getElem?_eq_some_iff.1 hh).1
theorem RowAt.stay {w X : World} {g : Nat} {ms : List Sp} (h : RowAt w g ms) (hb : X.heap[g]? = w.heap[g]?) : RowAt X g ms := by
  obtain ⟨cur, hh, hc⟩ := h; exact ⟨cur, hb.trans hh, hc⟩
theorem RowAt.spot {w : World} {g : Nat} {ms : List Sp} (h : RowAt w g ms) (j : Nat) (hj : j < ms.length) : SpAt w g (j * 4) ms[j] := by
  obtain ⟨cur, hh, hc⟩ := h
  obtain ⟨a, b, c, d⟩ := hc j hj
  refine ⟨?_, ?_, ?_, ?_⟩ <;> simp only [World.cell?, hh] <;> assumption
theorem RowAt.frozen {w : World} {g : Nat} {ms : List Sp} (h : RowAt w g ms) (o : Nat) : w.frozen? ⟨g, o, none⟩ = false := by
  obtain ⟨cur, hh, hc⟩ := h
  simp only [World.frozen?, hh]; simp
theorem RowAt.put {w : World} {g : Nat} {ms : List Sp} (h : RowAt w g ms) (i : Nat) (hi : i < ms.length) (s : Sp) :
    RowAt ((((w.setCell ⟨g, i * 4, none⟩ (.int .i64 s.br)).setCell ⟨g, i * 4 + 1, none⟩ (.int .i64 s.vol)).setCell ⟨g, i * 4 + 2, none⟩ (.int .i64 s.blk)).setCell ⟨g, i * 4 + 3, none⟩ (.int .u64 s.num)) g (ms.set i s) := by
  obtain ⟨cur, hh, hc⟩ := h
  refine ⟨_, set_at (set_at (set_at (set_at hh))), fun j hj => ?_⟩
  rw [List.length_set] at hj
  obtain ⟨a, b, c, d⟩ := hc j hj
  have a' := (Array.getElem?_eq_some_iff.1 a).1
  have d' := (Array.getElem?_eq_some_iff.1 d).1
  by_cases hij : i = j
  · subst hij
    rw [List.getElem_set_self]
    refine ⟨?_, ?_, ?_, ?_⟩ <;> (simp only [Array.getElem?_setIfInBounds, Array.size_setIfInBounds]) <;> simp <;> omega
  · rw [List.getElem_set_ne hij]
    refine ⟨?_, ?_, ?_, ?_⟩ <;> (simp only [Array.getElem?_setIfInBounds, Array.size_setIfInBounds]) <;> (repeat rw [if_neg (by omega)]) <;> assumption
theorem own_row {w : World} {B : Nat} {v : Value} {ms : List Sp} (h : w.ownsRow B 26 4 v ms.length (sps ms)) (h0 : 0 < ms.length) : ∃ g c, v = .slice (some ⟨g, 0, none⟩) ms.length c ∧ B ≤ g ∧ RowAt w g ms ∧ ms.length ≤ c ∧ c ≤ maxLen := by
  have hge := own_ge h
  obtain ⟨A, c, e, h1, h2, hs⟩ := spots_own h
  rcases h.2 with ⟨rfl, e2⟩ | ⟨g, cap, cur, rfl, hg, hh, _⟩
  · omega
  · cases e
    obtain ⟨b, off, e3, hlt, hc⟩ := hs h0
    cases e3
    refine ⟨g, _, rfl, hg, ⟨cur, hh, fun j hj => ?_⟩, h1, h2⟩
    obtain ⟨a0, a1, a2, a3⟩ := hc j hj
    rw [Nat.zero_add] at a0 a1 a2 a3
    simp only [World.cell?, hh] at a0 a1 a2 a3
    exact ⟨a0, a1, a2, a3⟩
theorem app_S_run {w : World} (B : Nat) (v : Value) (n : Nat) (xs : List Sp) (hown : w.ownsRow B 26 4 v n (sps xs))
    (A : Option Addr) (m c : Nat) (ys : List Sp) (hy : ys.length = m) (hA : SpotsAt w A ys) (h0 : 0 < m) (r : Nat) (hr : n + m = r) (hb : r ≤ 1000000) (hB : B ≤ w.heap.size) (ty : TypeId) :
    ∃ v' w', (Builtin.append_ #[30, 30] ty #[v, .slice A m c]).run Try.prog w = .ok v' w' ∧ w'.ownsRow B 26 4 v' r (sps (xs ++ ys)) ∧ Below B w w' := by
  obtain ⟨i0, hi0, hz0, hz1, hz2⟩ := info_parts infoSp
  subst hy hr
  rw [sps_app]
  obtain ⟨b, off, rfl, hlt, hc⟩ := hA h0
  obtain ⟨v', w', r1, r2, r3, _, r4⟩ := run_append_own_at (P := Try.prog) w B 30 ty 26 i0 (.agg #[.int .i64 0, .int .i64 0, .int .i64 0, .int .u64 0]) 4 32 Try.underlying30 hi0 hz0 hz1 hz2 rfl (by decide) v n (sps xs) hown ⟨b, off, none⟩ ys.length c (sps ys) (by rw [sps_len]) (fun j u hj => spots_cells hc j u hj) (sps_one ys) (by simp only [maxLen]; omega) (by omega) hB
  exact ⟨v', w', r1, r2, (Below.refl B w).grown r3 hB (own_ge hown)⟩
theorem app_S_nil (w : World) (g : Nat) (A : Option Addr) (c : Nat) (ty : TypeId) : (Builtin.append_ #[30, 30] ty #[.slice (some ⟨g, 0, none⟩) 0 0, .slice A 0 c]).run Try.prog w = .ok (.slice (some ⟨g, 0, none⟩) 0 0) w := by
  obtain ⟨i0, hi0, hz0, hz1, hz2⟩ := info_parts infoSp
  cases A <;> simp [Builtin.append_, run_underlying Try.underlying30, sizeOf, typeInfo, hi0, Builtin.lenOf, Builtin.firstCells, storeCells, loadCells, loadCellsFrom]
theorem pair_new (w : World) (a b : Array Value) (T : TypeId) : Blk ((w.alloc (.cells a T)).alloc (.cells b T)).drew w.heap.size a T ∧ Blk ((w.alloc (.cells a T)).alloc (.cells b T)).drew (w.heap.size + 1) b T ∧ Below w.heap.size w ((w.alloc (.cells a T)).alloc (.cells b T)).drew := by
  have h2 := Blk.new (w.alloc (.cells a T)) b T
  rw [World.size_alloc] at h2
  exact ⟨(Blk.new w a T).alloc _, h2, (((Below.refl _ _).alloc (Nat.le_refl _) _).alloc (by rw [World.size_alloc]; exact Nat.le_succ _) _).trans (bel_drewN _ _ (n := 1))⟩
def BytesAt (w : World) (A : Option Addr) (n : Nat) (z : Nat → Nat) : Prop := ∀ j, j < n → ∃ x, A = some x ∧ w.cell? (x.add j) = some (.int .u8 (z j)) ∧ z j ≤ 255
theorem BytesAt.below {w X : World} {A : Option Addr} {n : Nat} {z : Nat → Nat} (h : BytesAt w A n z) (hb : Below w.heap.size w X) : BytesAt X A n z := fun j hj => by
  obtain ⟨x, e, hc, h2⟩ := h j hj
  exact ⟨x, e, (hb.cell (World.block_lt_of_cell? _ _ hc)).trans hc, h2⟩
end Go.Proofs.Ytjeebbolnanmkaa.N
