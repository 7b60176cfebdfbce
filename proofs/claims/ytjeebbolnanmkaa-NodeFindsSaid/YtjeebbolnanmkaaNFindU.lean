/- What NodeFinds needs of a way down, and of nodes that there are not. -/
import Derived.Test.YtjeebbolnanmkaaNPlay
import Derived.Test.YtjeebbolnanmkaaNAwake
import Derived.Test.YtjeebbolnanmkaaNCls
namespace Go.Proofs.Ytjeebbolnanmkaa.N
open Go.BigFrame Go.RowKit Go.Proofs.YtjeebbolnanmkaaW.PrintMore Go.Proofs.YtjeebbolnanmkaaW.PrintWords
set_option linter.unusedVariables false
set_option linter.unusedSimpArgs false
theorem ord_zero {a b : Sp} : ordS a b = 0 ↔ a = b := by
  constructor
  · intro h
    exact lt_tot (lt_ordF.2 (by omega)) (by rw [← Bool.not_eq_true, ← ord_pos]; omega)
  · rintro rfl
    have h1 := lt_ordF.1 (lt_irr a)
    have h2 : ¬ 0 < ordS a a := by rw [ord_pos, lt_irr]; decide
    omega
theorem way_facts {k : Sp} {ks : List Sp} {i : Nat} {b : Bool} (hF : FindI k ks i b) (h0 : 0 < ks.length) : ∃ hi : i < ks.length, b = decide (ks[i] = k) ∧ (lt k ks[i] = true → i = 0) ∧ ∀ h : i + 1 < ks.length, lt k ks[i + 1] = true := by
  rcases hF with ⟨hi, h1, h2⟩ | ⟨rfl, rfl, h2⟩
  · obtain ⟨a, rfl⟩ := h1 hi
    refine ⟨hi, ?_, fun h => ?_, fun h => ord_pos.1 (h2 (i + 1) h (by omega))⟩
    · rw [Bool.eq_iff_iff, beq_iff_eq, decide_eq_true_iff, ord_zero]
    · have := ord_pos.2 h; omega
  · refine ⟨h0, ?_, fun _ => rfl, fun h => ord_pos.1 (h2 1 h)⟩
    have := h2 0 h0
    symm
    rw [decide_eq_false_iff_not]
    intro e
    rw [ord_zero.2 e] at this
    omega
theorem findL_key (k : Sp) : ∀ (l : List Sp) (h : (findL k l).2 = true), ∃ hi : (findL k l).1 < l.length, l[(findL k l).1] = k
  | [], h => by simp [findL] at h
  | x :: t, h => by
    simp only [findL] at h ⊢
    split at h
    · rename_i hc
      simp only [hc, if_true] at h ⊢
      refine ⟨by simp, ?_⟩
      simp only [List.getElem_cons_zero]
      exact ord_zero.1 (by simpa using h)
    · rename_i hc
      simp only [hc, if_false] at h ⊢
      obtain ⟨hi, e⟩ := findL_key k t h
      exact ⟨by simpa using hi, by simpa using e⟩
theorem asc_uniq {l : List Ent} (ha : Asc l) {x y : Ent} (hx : x ∈ l) (hy : y ∈ l) (h : x.1 = y.1) : x = y := by
  induction l with
  | nil => cases hx
  | cons z t ih =>
    unfold Asc at ha
    obtain ⟨h1, h2⟩ := List.pairwise_cons.1 ha
    rcases List.mem_cons.1 hx with ex | hx2 <;> rcases List.mem_cons.1 hy with ey | hy2
    · rw [ex, ey]
    · have := h1 y hy2; rw [← ex, h, lt_irr] at this; cases this
    · have := h1 x hx2; rw [← ey, ← h, lt_irr] at this; cases this
    · exact ih h2 hx2 hy2
set_option maxHeartbeats 1600000 in
set_option maxRecDepth 100000 in
theorem find_nil (w : World) (k : Sp) : Calls Try.prog 16 #[.pointer none, .agg #[.int .i64 k.br, .int .i64 k.vol, .int .i64 k.blk, .int .u64 k.num]] w fun e w' => e = .returned (.tuple #[.int .i64 0, .bool false]) ∧ Below w.heap.size w w' := by
  go_enter Try.func16, Try.ntmps16
  go_wp2_with fail
  refine bodyPost_ret (v := .tuple #[.int .i64 0, .bool false]) (by rw [results_cell_cell rfl]; go_simp) rfl ?_
  exact ⟨rfl, (((Below.refl _ _).alloc (Nat.le_refl _) _).alloc (by simp) _).alloc (by simp; omega) _⟩
set_option maxHeartbeats 1600000 in
set_option maxRecDepth 100000 in
theorem least_nil (w : World) : Calls Try.prog 18 #[.pointer none] w fun e w' => e = .returned (.tuple #[.agg #[.int .i64 0, .int .i64 0, .int .i64 0, .int .u64 0], .bool false]) ∧ Below w.heap.size w w' := by
  go_enter Try.func18, Try.ntmps18
  go_wp2_with fail
  refine bodyPost_ret (v := .tuple #[.agg #[.int .i64 0, .int .i64 0, .int .i64 0, .int .u64 0], .bool false]) (by rw [results_ct rfl]; go_simp) rfl ?_
  exact ⟨rfl, by first | exact (((((Below.refl _ _).alloc (Nat.le_refl _) _).setCell (p := ⟨w.heap.size, 0, none⟩) (by simp) _).setCell (p := ⟨w.heap.size, 1, none⟩) (by simp) _).setCell (p := ⟨w.heap.size, 2, none⟩) (by simp) _).setCell (p := ⟨w.heap.size, 3, none⟩) (by simp) _ | exact (Below.refl _ _).alloc (Nat.le_refl _) _⟩
theorem rfind_l {w : World} {L : Nat} {l : List Ent} (h : ListE w L l) (k : Sp) (hl : l.length ≤ 1000) :
    Calls Try.prog 17 #[.pointer (some ⟨L, 0, none⟩), .agg #[.int .i64 k.br, .int .i64 k.vol, .int .i64 k.blk, .int .u64 k.num]] w fun e w' => e = .returned (.tuple #[.int .i64 (findL k (l.map (·.1))).1, .bool (hasE k l)]) ∧ Below w.heap.size w w' := by
  obtain ⟨kv, vv, h⟩ := h
  obtain ⟨A, c, e, _, _, hs⟩ := spots_own h.keys
  have hp := h.hp
  rw [e] at hp
  refine (rfind_at hp hs k (by rw [List.length_map]; omega)).mono fun e w' hq => ?_
  obtain ⟨a, b⟩ := hq
  rw [findL_has] at a
  exact ⟨a, b⟩
/-- What a kid on the way has: all that the node has at the spot. -/
theorem way_kid {k : Sp} {ls : List (List Ent)} {i : Nat} {b : Bool} (ha : Asc ls.flatten) (hne : ∀ m ∈ ls, m ≠ []) (hF : FindI k (ls.map hd) i b) (hi : i < ls.length) :
    hasE k ls[i] = hasE k ls.flatten ∧ Asc ls[i] ∧ (∀ x ∈ ls[i], x ∈ ls.flatten) ∧ ls[i].length ≤ ls.flatten.length := by
  refine ⟨(way_has ha hne hF hi).symm, asc_kid ha hi, fun x hx => List.mem_flatten.2 ⟨_, List.getElem_mem _, hx⟩, ?_⟩
  rw [flatten_cut hi, List.length_append, List.length_append]
  omega
end Go.Proofs.Ytjeebbolnanmkaa.N
