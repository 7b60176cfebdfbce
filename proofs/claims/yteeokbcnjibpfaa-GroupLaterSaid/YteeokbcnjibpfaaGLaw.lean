/- What the laws say of a group's accepted events. No program in sight. -/
import Derived.Test.YteeokbcnjibpfaaGOpen
namespace Go.Proofs.Yteeokbcnjibpfaa.G
open Go.RowKit
set_option linter.unusedVariables false
set_option linter.unusedSimpArgs false
theorem cnt_all {m : Int} : ∀ (l : List Int), (∀ x ∈ l, x ≤ m) → cnt m l = l.length
  | [], _ => rfl
  | x :: xs, h => by
    simp only [cnt, List.length_cons]
    rw [if_pos (h x (by simp)), cnt_all xs (fun y hy => h y (by simp [hy]))]
    omega
theorem cnt_snoc_no {m n : Int} (hn : ¬ n ≤ m) : ∀ (l : List Int), cnt m (l ++ [n]) = cnt m l
  | [] => by simp [cnt, hn]
  | x :: xs => by simp only [List.cons_append, cnt, cnt_snoc_no hn xs]
theorem lastUp_nil (m : Int) : lastUp m [] = 0 := by simp [lastUp, cnt]
theorem lastUp_snoc_yes {m n : Int} {l : List Int} (h : (l ++ [n]).Pairwise (· < ·)) (hn : n ≤ m) : lastUp m (l ++ [n]) = n := by
  have a : cnt m (l ++ [n]) = l.length + 1 := by
    rw [cnt_all]
    · simp
    · intro x hx
      rcases List.mem_append.mp hx with hx | hx
      · have := (List.pairwise_append.mp h).2.2 x hx n (by simp); omega
      · simp at hx; omega
  unfold lastUp
  rw [dif_pos (by omega)]
  simp [a]
theorem lastUp_snoc_no {m n : Int} {l : List Int} (hn : ¬ n ≤ m) : lastUp m (l ++ [n]) = lastUp m l := by
  have a := cnt_snoc_no hn l
  have b := cnt_le m l
  unfold lastUp
  by_cases c : 0 < cnt m l
  · rw [dif_pos (by omega), dif_pos c]
    simp only [a]
    rw [List.getElem_append_left]
  · rw [dif_neg (by omega), dif_neg c]
theorem lastAcc_snoc (v m : Int) (l : List (Int × Int)) (e : Int × Int) : lastAcc v m (l ++ [e]) = if e.1 = v ∧ e.2 ≤ m then e.2 else lastAcc v m l := by
  unfold lastAcc; rw [List.foldl_append]; rfl
theorem rows_snoc (V : Nat) (l : List (Int × Int)) (e : Int × Int) (i : Nat) : rowsOf V (l ++ [e]) i = if e.1 = key V i then rowsOf V l i ++ [e.2] else rowsOf V l i := by
  unfold rowsOf
  rw [List.filter_append, List.map_append]
  by_cases c : e.1 = key V i
  · simp [c]
  · simp [c]
/-- The document's last number is the row's. -/
theorem lastAcc_rows (V : Nat) (m : Int) (i : Nat) : ∀ (n : Nat) (a : List (Int × Int)), a.length = n → a.Pairwise (fun x y => x.2 < y.2) → lastAcc (key V i) m a = lastUp m (rowsOf V a i)
  | 0, a, hn, _ => by
    obtain rfl := List.eq_nil_of_length_eq_zero hn
    simp [lastAcc, rowsOf, lastUp_nil]
  | n + 1, a, hn, hp => by
    rcases List.eq_nil_or_concat a with rfl | ⟨l, e, rfl⟩
    · simp at hn
    · rw [List.concat_eq_append] at *
      have ih := lastAcc_rows V m i n l (by simpa using hn) (List.pairwise_append.mp hp).1
      have hs : (rowsOf V (l ++ [e]) i).Pairwise (· < ·) := by
        unfold rowsOf; rw [List.pairwise_map]; exact hp.filter _
      rw [lastAcc_snoc]
      rw [rows_snoc] at hs ⊢
      by_cases c : e.1 = key V i
      · rw [if_pos c] at hs ⊢
        by_cases d : e.2 ≤ m
        · rw [if_pos ⟨c, d⟩, lastUp_snoc_yes hs d]
        · rw [if_neg (by omega), lastUp_snoc_no d, ih]
      · rw [if_neg (by omega), if_neg c, ih]
theorem last_rows {V : Nat} {a : List (Int × Int)} (h : Good V a) (m : Int) (i : Nat) : lastAcc (key V i) m a = lastUp m (rowsOf V a i) := lastAcc_rows V m i a.length a rfl h.sorted
theorem key_lt {V i : Nat} (h : i < V) : key V i = i := if_neg (by omega)
theorem key_V (V : Nat) : key V V = -1 := if_pos rfl
theorem mem_rows {V i : Nat} {a : List (Int × Int)} {n : Int} : n ∈ rowsOf V a i ↔ (key V i, n) ∈ a := by
  unfold rowsOf
  simp only [List.mem_map, List.mem_filter, decide_eq_true_eq]
  constructor
  · rintro ⟨⟨x, y⟩, ⟨h1, h2⟩, h3⟩; simp at h2 h3; subst h2 h3; exact h1
  · intro h; exact ⟨_, ⟨h, rfl⟩, rfl⟩
/-- The last number up to a moment: it is in the list, or nothing is; nothing that is in the list up to the moment is above it. -/
theorem lastUp_le (m : Int) (l : List Int) (hm : 0 ≤ m) : lastUp m l ≤ m := by
  unfold lastUp
  by_cases c : 0 < cnt m l
  · rw [dif_pos c]; exact cnt_lo m l _ _ (by omega)
  · rw [dif_neg c]; exact hm
theorem lastUp_mem (m : Int) (l : List Int) : lastUp m l = 0 ∧ cnt m l = 0 ∨ lastUp m l ∈ l ∧ 0 < cnt m l := by
  unfold lastUp
  by_cases c : 0 < cnt m l
  · rw [dif_pos c]; exact .inr ⟨List.getElem_mem _, c⟩
  · rw [dif_neg c]; exact .inl ⟨rfl, by omega⟩
theorem lastUp_ge {m n : Int} {l : List Int} (h : l.Pairwise (· < ·)) (hn : n ∈ l) (hm : n ≤ m) : n ≤ lastUp m l ∧ 0 < cnt m l := by
  obtain ⟨j, hj, rfl⟩ := List.getElem_of_mem hn
  have c : j < cnt m l := by
    apply Nat.lt_of_not_le
    intro hc
    exact cnt_hi m l j hj h hc hm
  have hl := cnt_le m l
  refine ⟨?_, by omega⟩
  unfold lastUp
  rw [dif_pos (by omega)]
  by_cases e : j = cnt m l - 1
  · subst e; omega
  · have := List.pairwise_iff_getElem.mp h j (cnt m l - 1) hj (by omega) (by omega); omega
theorem lastUp_nonneg {m : Int} {l : List Int} (h : ∀ n ∈ l, 0 ≤ n) : 0 ≤ lastUp m l := by
  rcases lastUp_mem m l with ⟨a, _⟩ | ⟨a, _⟩
  · omega
  · exact h _ a
theorem rows_num {V i : Nat} {a : List (Int × Int)} (h : Good V a) : ∀ n ∈ rowsOf V a i, 1 ≤ n ∧ n ≤ 65535 := fun n hn => h.num _ (mem_rows.1 hn)
/-- The lasts rise as moments do. -/
theorem lastUp_mono {V i : Nat} {a : List (Int × Int)} (h : Good V a) {m m' : Int} (hm : m ≤ m') : lastUp m (rowsOf V a i) ≤ lastUp m' (rowsOf V a i) := by
  rcases lastUp_mem m (rowsOf V a i) with ⟨e, _⟩ | ⟨e, c⟩
  · rw [e]; exact lastUp_nonneg fun n hn => by have := rows_num h n hn; omega
  · refine (lastUp_ge (rows_sorted h i) e ?_).1
    have : lastUp m (rowsOf V a i) ≤ m := by
      unfold lastUp; rw [dif_pos c]; exact cnt_lo m _ _ _ (by omega)
    omega
theorem cutList_get (m : Int) (V : Nat) (a : List (Int × Int)) (j : Nat) (h : j < (cutList m V a).length) : (cutList m V a)[j] = lastUp m (rowsOf V a j) := by simp [cutList]
theorem cut_within {V : Nat} {a : List (Int × Int)} (h : Good V a) (m m' : Int) : WithinP m m' (cutList m V a) (cutList m' V a) ↔ m ≤ m' := by
  constructor
  · exact fun h => h.2.1
  · intro hm
    refine ⟨by rw [cutList_len, cutList_len], hm, fun j h1 h2 => ?_⟩
    rw [cutList_get, cutList_get]; exact lastUp_mono h hm
/-- What came later changes no cut. -/
theorem foldl_pre (V : Nat) : ∀ (l : List (Int × Int)) (a : List (Int × Int)), ∃ r, l.foldl (stepAcc V) a = a ++ r
  | [], a => ⟨[], by simp⟩
  | e :: es, a => by
    obtain ⟨r, hr⟩ := foldl_pre V es (stepAcc V a e)
    rw [List.foldl_cons, hr]
    unfold stepAcc
    split
    · exact ⟨e :: r, by simp⟩
    · exact ⟨r, rfl⟩
theorem cnt_app_no {m : Int} : ∀ (l r : List Int), (∀ n ∈ r, ¬ n ≤ m) → cnt m (l ++ r) = cnt m l
  | [], [], _ => rfl
  | [], x :: xs, h => by simp [cnt, h x (by simp)]
  | x :: xs, r, h => by simp only [List.cons_append, cnt, cnt_app_no xs r h]
theorem lastUp_app_no {m : Int} {l r : List Int} (h : ∀ n ∈ r, ¬ n ≤ m) : lastUp m (l ++ r) = lastUp m l := by
  have a := cnt_app_no l r h
  have b := cnt_le m l
  unfold lastUp
  by_cases c : 0 < cnt m l
  · rw [dif_pos (by omega), dif_pos c]
    simp only [a]
    rw [List.getElem_append_left]
  · rw [dif_neg (by omega), dif_neg c]
theorem rows_app (V : Nat) (a r : List (Int × Int)) (i : Nat) : rowsOf V (a ++ r) i = rowsOf V a i ++ rowsOf V r i := by
  unfold rowsOf; rw [List.filter_append, List.map_append]
theorem cut_later {V : Nat} {a r : List (Int × Int)} {m : Int} (h : Good V (a ++ r)) (hm : m ≤ lastN a) : cutList m V (a ++ r) = cutList m V a := by
  unfold cutList
  apply List.map_congr_left
  intro i _
  rw [rows_app]
  apply lastUp_app_no
  intro n hn
  have hn2 := mem_rows.1 hn
  rcases List.eq_nil_or_concat a with rfl | ⟨l, e, rfl⟩
  · have e0 : lastN ([] : List (Int × Int)) = 0 := rfl
    have := h.num _ (List.mem_append.mpr (.inr hn2)); simp at this; omega
  · rw [List.concat_eq_append] at *
    rw [lastN_app] at hm
    have := (List.pairwise_append.mp h.sorted).2.2 e (by simp) _ hn2
    simp at this; omega
theorem good_pre {V : Nat} {a r : List (Int × Int)} (h : Good V (a ++ r)) : Good V a := ⟨(List.pairwise_append.mp h.sorted).1, fun e he => h.num e (by simp [he]), fun e he => h.vol e (by simp [he])⟩
end Go.Proofs.Yteeokbcnjibpfaa.G
