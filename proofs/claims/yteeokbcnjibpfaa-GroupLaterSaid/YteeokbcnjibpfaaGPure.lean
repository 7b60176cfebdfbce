/- What became of a group: the accepted events, and their rows. No program in sight. -/
import Derived.Test.YteeokbcnjibpfaaGRef
namespace Go.Proofs.Yteeokbcnjibpfaa.G
open Go.RowKit
set_option linter.unusedVariables false
def slot (V : Nat) (vol : Int) : Nat := if vol = -1 then V else vol.toNat
def key (V i : Nat) : Int := if i = V then -1 else i
def rowsOf (V : Nat) (acc : List (Int × Int)) (i : Nat) : List Int := (acc.filter fun e => decide (e.1 = key V i)).map (·.2)
def lastN (acc : List (Int × Int)) : Int := match acc.getLast? with | some e => e.2 | none => 0
structure Good (V : Nat) (acc : List (Int × Int)) : Prop where
  sorted : acc.Pairwise (fun a b => a.2 < b.2)
  num : ∀ e ∈ acc, 1 ≤ e.2 ∧ e.2 ≤ 65535
  vol : ∀ e ∈ acc, -1 ≤ e.1 ∧ e.1 < V
theorem good_nil (V : Nat) : Good V [] := ⟨.nil, by simp, by simp⟩
theorem lastN_app (acc : List (Int × Int)) (e : Int × Int) : lastN (acc ++ [e]) = e.2 := by simp [lastN]
theorem sorted_last {V : Nat} {acc : List (Int × Int)} (h : Good V acc) (num : Int) (hn : 1 ≤ num) : (∀ i (h : i < acc.length), acc[i].2 < num) ↔ lastN acc < num := by
  rcases List.eq_nil_or_concat acc with rfl | ⟨l, e, rfl⟩
  · simp [lastN]; omega
  · rw [List.concat_eq_append] at *
    rw [lastN_app]
    constructor
    · intro hh
      have := hh l.length (by simp)
      simpa using this
    · intro hh i hi
      have hs := List.pairwise_append.mp h.sorted
      by_cases c : i < l.length
      · rw [List.getElem_append_left c]
        have := hs.2.2 l[i] (List.getElem_mem c) e (by simp)
        omega
      · have : i = l.length := by simp at hi; omega
        subst this
        simpa using hh
theorem good_add {V : Nat} {acc : List (Int × Int)} (h : Good V acc) (vol num : Int) (he : addE V acc vol num = 0) : Good V (acc ++ [(vol, num)]) := by
  unfold addE at he
  by_cases c : vol < -1 ∨ vol ≥ V ∨ num < 1 ∨ num > 65535
  · rw [if_pos c] at he; simp at he
  · rw [if_neg c] at he
    by_cases d : ∀ i (h : i < acc.length), acc[i].2 < num
    · refine ⟨List.pairwise_append.mpr ⟨h.sorted, by simp, fun a ha b hb => ?_⟩, fun e he' => ?_, fun e he' => ?_⟩
      · obtain ⟨i, hi, rfl⟩ := List.getElem_of_mem ha
        simp at hb; subst hb; exact d i hi
      · rcases List.mem_append.mp he' with hm | hm
        · exact h.num e hm
        · simp at hm; subst hm; simp; omega
      · rcases List.mem_append.mp he' with hm | hm
        · exact h.vol e hm
        · simp at hm; subst hm; simp; omega
    · rw [if_neg d] at he; simp at he
theorem rows_add (V : Nat) (acc : List (Int × Int)) (vol num : Int) (h0 : -1 ≤ vol) (h1 : vol < V) : rowsOf V (acc ++ [(vol, num)]) = upd (rowsOf V acc) (slot V vol) (rowsOf V acc (slot V vol) ++ [num]) := by
  funext i
  unfold rowsOf
  rw [List.filter_append, List.map_append]
  by_cases c : i = slot V vol
  · subst c
    rw [upd_at]
    have : vol = key V (slot V vol) := by
      unfold key slot
      by_cases d : vol = -1
      · simp [d]
      · rw [if_neg d, if_neg (by omega)]; omega
    simp [← this]
  · rw [upd_ne c]
    have : ¬ vol = key V i := by
      intro e
      apply c
      unfold key at e
      unfold slot
      by_cases d : i = V
      · rw [if_pos d] at e; rw [if_pos e]; exact d
      · rw [if_neg d] at e; rw [if_neg (by omega)]; omega
    simp [this]
theorem rows_len (V : Nat) (acc : List (Int × Int)) (i : Nat) : (rowsOf V acc i).length ≤ acc.length := by
  unfold rowsOf
  rw [List.length_map]
  exact List.length_filter_le _ _
theorem rows_sorted {V : Nat} {acc : List (Int × Int)} (h : Good V acc) (i : Nat) : (rowsOf V acc i).Pairwise (· < ·) := by
  unfold rowsOf
  rw [List.pairwise_map]
  exact h.sorted.filter _
def stepAcc (V : Nat) (acc : List (Int × Int)) (e : Int × Int) : List (Int × Int) := if addE V acc e.1 e.2 = 0 then acc ++ [e] else acc
def accs (V : Nat) (l : List (Int × Int)) : List (Int × Int) := l.foldl (stepAcc V) []
theorem accs_step (V : Nat) (l : List (Int × Int)) (i : Nat) (h : i < l.length) : accs V (l.take (i + 1)) = stepAcc V (accs V (l.take i)) l[i] := by
  unfold accs
  rw [List.take_succ_eq_append_getElem h, List.foldl_append]
  rfl
theorem stepAcc_len (V : Nat) (acc : List (Int × Int)) (e : Int × Int) : (stepAcc V acc e).length ≤ acc.length + 1 := by
  unfold stepAcc; split <;> simp
theorem stepAcc_good {V : Nat} {acc : List (Int × Int)} (h : Good V acc) (e : Int × Int) : Good V (stepAcc V acc e) := by
  unfold stepAcc
  split
  · exact good_add h e.1 e.2 (by assumption)
  · exact h
theorem foldl_good (V : Nat) : ∀ (l : List (Int × Int)) (acc : List (Int × Int)), Good V acc → Good V (l.foldl (stepAcc V) acc) ∧ (l.foldl (stepAcc V) acc).length ≤ acc.length + l.length
  | [], acc, h => ⟨h, by simp⟩
  | e :: es, acc, h => by
    obtain ⟨a, b⟩ := foldl_good V es (stepAcc V acc e) (stepAcc_good h e)
    refine ⟨a, Nat.le_trans b ?_⟩
    have := stepAcc_len V acc e
    simp; omega
theorem accs_good (V : Nat) (l : List (Int × Int)) : Good V (accs V l) := (foldl_good V l [] (good_nil V)).1
theorem accs_len (V : Nat) (l : List (Int × Int)) : (accs V l).length ≤ l.length := by have := (foldl_good V l [] (good_nil V)).2; rw [List.length_nil, Nat.zero_add] at this; exact this
/-- The document's answer and the group's are one. -/
theorem next_add {V : Nat} {acc : List (Int × Int)} (h : Good V acc) (vol num : Int) (c : -1 ≤ vol ∧ vol < V) : nextE (lastN acc) num = addE V acc vol num := by
  by_cases d : num < 1 ∨ num > 65535
  · have a : addE V acc vol num = 2 := if_pos (by omega)
    rw [a]; exact if_pos d
  · have a : addE V acc vol num = if ∀ i (h : i < acc.length), acc[i].2 < num then 0 else 15 := if_neg (by omega)
    have b : nextE (lastN acc) num = if num ≤ lastN acc then 15 else 0 := if_neg d
    rw [a, b]
    by_cases e : num ≤ lastN acc
    · rw [if_pos e, if_neg (fun hh => by have := (sorted_last h num (by omega)).1 hh; omega)]
    · rw [if_neg e, if_pos ((sorted_last h num (by omega)).2 (by omega))]
theorem wrote_add {V : Nat} {acc : List (Int × Int)} (h : Good V acc) (vol num : Int) (hv : 0 ≤ vol) : wroteE V (lastN acc) vol num = addE V acc vol num := by
  unfold wroteE
  by_cases c : vol < 0 ∨ vol ≥ V
  · rw [if_pos c]; exact (if_pos (by omega)).symm
  · rw [if_neg c]; exact next_add h vol num (by omega)
theorem barrier_add {V : Nat} {acc : List (Int × Int)} (h : Good V acc) (num : Int) : nextE (lastN acc) num = addE V acc (-1) num := next_add h (-1) num (by omega)
end Go.Proofs.Yteeokbcnjibpfaa.G
