/- The walks of slices.Insert, at the end. -/
import Derived.Test.YtainljbkejafcaaNRow
namespace Go.Proofs.Ytainljbkejafcaa.N
open Go.RowKit
set_option linter.unusedVariables false
set_option linter.unusedSimpArgs false
theorem u64s_app (a b : List Int) : u64s (a ++ b) = u64s a ++ u64s b := by simp [u64s]
set_option maxHeartbeats 1600000 in
set_option maxRecDepth 100000 in
theorem insS_end {w : World} {B : Nat} (v : Value) (l : List Sp) (x : Sp) (nb : Nat) (hl : l.length ≤ 1000) (h : w.ownsRow B 26 4 v l.length (sps l)) (hn : w.heap[nb]? = some (.cells (sps [x]).toArray 26 (0, 0))) (hB : B ≤ w.heap.size) :
    Calls Try.prog 63 #[v, .int .i64 l.length, .slice (some ⟨nb, 0, none⟩) 1 1] w fun e w' => ∃ v', e = .returned v' ∧ w'.ownsRow B 26 4 v' (l.length + 1) (sps (l ++ [x])) ∧ w.grownBy w' v.ownBlock ∧ (v'.ownBlock = v.ownBlock ∨ v'.ownBlock = some w.heap.size) := by
  obtain ⟨i0, hi0, hz0, hz1, hz2⟩ := info_parts infoSp
  have fm : l.length + 1 ≤ maxLen := by simp only [maxLen]; omega
  have fb : (l.length + 1) * 32 ≤ 140737488355328 := by omega
  have H := Lib.hid h
  have HN : Hid (∀ j u, (sps [x])[j]? = some u → w.cell? ((⟨nb, 0, none⟩ : Addr).add j) = some u) := fun j u hj => by
    have ea : (⟨nb, 0, none⟩ : Addr).add j = ⟨nb, j, none⟩ := by
      unfold Addr.add
      split
      · subst_vars; rfl
      · simp
    rw [ea]
    simp only [World.cell?, hn]
    rw [List.getElem?_toArray]; exact hj
  have hcap : ∃ A c, v = .slice A l.length c ∧ l.length ≤ c ∧ c ≤ 9223372036854775807 ∧ (A = none → l.length = 0) := by
    rcases h.2 with ⟨rfl, e⟩ | ⟨g, cap, cur, rfl, hg, hh, hle, hcm, _⟩
    · exact ⟨none, 0, by rw [e], by omega, by omega, fun _ => e⟩
    · exact ⟨_, cap, rfl, hle, by unfold maxLen at hcm; omega, fun h => by cases h⟩
  obtain ⟨A, c, rfl, hc1, hc2, hc3⟩ := hcap
  have e1 : (0 : Int) ≤ (l.length : Int) := by omega
  clear h hn
  cases A with
  | none =>
    have h0 := hc3 rfl
    obtain rfl := List.eq_nil_of_length_eq_zero h0
    clear hc3 h0
    go_enter Try.func63, Try.ntmps63
    go_wp2_with (at_builtin; refine list_one rfl (.tmp 23) (.tmp 24) 30 rfl B 26 i0 (.agg #[.int .i64 0, .int .i64 0, .int .i64 0, .int .u64 0]) 4 32 Try.underlying30 hi0 hz0 hz1 hz2 rfl (by decide) _ _ _ (by rfl) H.out ⟨nb, 0, none⟩ 1 1 (sps [x]) (by rfl) (by rfl) HN.out (sps_one [x]) fm fb hB ?_; intro v1 w1 hown1 hgr1 hat1)
    go_ret
    exact ⟨_, rfl, by first | exact hown1 | (rw [sps_app]; exact hown1), hgr1, hat1⟩
  | some a =>
    clear hc3
    go_enter Try.func63, Try.ntmps63
    go_wp2_with (at_builtin; refine list_one rfl (.tmp 23) (.tmp 24) 30 rfl B 26 i0 (.agg #[.int .i64 0, .int .i64 0, .int .i64 0, .int .u64 0]) 4 32 Try.underlying30 hi0 hz0 hz1 hz2 rfl (by decide) _ _ _ (by rfl) H.out ⟨nb, 0, none⟩ 1 1 (sps [x]) (by rfl) (by rfl) HN.out (sps_one [x]) fm fb hB ?_; intro v1 w1 hown1 hgr1 hat1)
    all_goals (
      go_ret
      exact ⟨_, rfl, by rw [sps_app]; exact hown1, hgr1, hat1⟩)
set_option maxHeartbeats 1600000 in
set_option maxRecDepth 100000 in
theorem insU_end {w : World} {B : Nat} (v : Value) (l : List Int) (x : Int) (nb : Nat) (hl : l.length ≤ 1000) (h : w.ownsRow B 24 1 v l.length (u64s l)) (hn : w.heap[nb]? = some (.cells (u64s [x]).toArray 24 (0, 0))) (hB : B ≤ w.heap.size) :
    Calls Try.prog 64 #[v, .int .i64 l.length, .slice (some ⟨nb, 0, none⟩) 1 1] w fun e w' => ∃ v', e = .returned v' ∧ w'.ownsRow B 24 1 v' (l.length + 1) (u64s (l ++ [x])) ∧ w.grownBy w' v.ownBlock ∧ (v'.ownBlock = v.ownBlock ∨ v'.ownBlock = some w.heap.size) := by
  obtain ⟨i0, hi0, hz0, hz1, hz2⟩ := info_parts infoU
  have fm : l.length + 1 ≤ maxLen := by simp only [maxLen]; omega
  have fb : (l.length + 1) * 8 ≤ 140737488355328 := by omega
  have H := Lib.hid h
  have HN : Hid (∀ j u, (u64s [x])[j]? = some u → w.cell? ((⟨nb, 0, none⟩ : Addr).add j) = some u) := fun j u hj => by
    have ea : (⟨nb, 0, none⟩ : Addr).add j = ⟨nb, j, none⟩ := by
      unfold Addr.add
      split
      · subst_vars; rfl
      · simp
    rw [ea]
    simp only [World.cell?, hn]
    rw [List.getElem?_toArray]; exact hj
  have hcap : ∃ A c, v = .slice A l.length c ∧ l.length ≤ c ∧ c ≤ 9223372036854775807 ∧ (A = none → l.length = 0) := by
    rcases h.2 with ⟨rfl, e⟩ | ⟨g, cap, cur, rfl, hg, hh, hle, hcm, _⟩
    · exact ⟨none, 0, by rw [e], by omega, by omega, fun _ => e⟩
    · exact ⟨_, cap, rfl, hle, by unfold maxLen at hcm; omega, fun h => by cases h⟩
  obtain ⟨A, c, rfl, hc1, hc2, hc3⟩ := hcap
  have e1 : (0 : Int) ≤ (l.length : Int) := by omega
  clear h hn
  cases A with
  | none =>
    have h0 := hc3 rfl
    obtain rfl := List.eq_nil_of_length_eq_zero h0
    clear hc3 h0
    go_enter Try.func64, Try.ntmps64
    go_wp2_with (at_builtin; refine list_one rfl (.tmp 23) (.tmp 24) 32 rfl B 24 i0 (.int .u64 0) 1 8 Try.underlying32 hi0 hz0 hz1 hz2 rfl (by decide) _ _ _ (by rfl) H.out ⟨nb, 0, none⟩ 1 1 (u64s [x]) (by rfl) (by rfl) HN.out (u64s_one [x]) fm fb hB ?_; intro v1 w1 hown1 hgr1 hat1)
    go_ret
    exact ⟨_, rfl, by first | exact hown1 | (rw [u64s_app]; exact hown1), hgr1, hat1⟩
  | some a =>
    clear hc3
    go_enter Try.func64, Try.ntmps64
    go_wp2_with (at_builtin; refine list_one rfl (.tmp 23) (.tmp 24) 32 rfl B 24 i0 (.int .u64 0) 1 8 Try.underlying32 hi0 hz0 hz1 hz2 rfl (by decide) _ _ _ (by rfl) H.out ⟨nb, 0, none⟩ 1 1 (u64s [x]) (by rfl) (by rfl) HN.out (u64s_one [x]) fm fb hB ?_; intro v1 w1 hown1 hgr1 hat1)
    all_goals (
      go_ret
      exact ⟨_, rfl, by rw [u64s_app]; exact hown1, hgr1, hat1⟩)
end Go.Proofs.Ytainljbkejafcaa.N
