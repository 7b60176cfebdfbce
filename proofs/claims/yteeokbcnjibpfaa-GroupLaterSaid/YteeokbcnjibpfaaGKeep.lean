/- A group's deeds beside a block that is none of its own; the contracts of a nil group; a cut at any moment. -/
import Derived.Test.YteeokbcnjibpfaaGBarriers
namespace Go.Proofs.Yteeokbcnjibpfaa.G
open Go.RowKit Go.Proofs.YteeokbcnjibpfaaW.PrintMore Go.Proofs.YteeokbcnjibpfaaW.PrintWords
set_option linter.unusedVariables false
set_option linter.unusedSimpArgs false
/-- A group behind its events, and a block that is none of it. -/
def GKeep (w : World) (B g gv V s : Nat) (a : List (Int × Int)) : Prop := ∃ R, Grp w B g gv V R (rowsOf V a) (lastN a) ∧ s < w.heap.size ∧ s ≠ g ∧ s ≠ gv ∧ ∀ i, i ≤ V → (R i).ownBlock ≠ some s
section
variable {w w' : World} {B g gv V s : Nat} {a : List (Int × Int)}
theorem GKeep.ga (h : GKeep w B g gv V s a) : GAt w B g gv V a := by obtain ⟨R, h, _⟩ := h; exact ⟨R, h⟩
theorem GKeep.drew (h : GKeep w B g gv V s a) : GKeep w.drew B g gv V s a := by obtain ⟨R, h, h2⟩ := h; exact ⟨R, h.drew, h2⟩
theorem gkeep_new (h : GAt w B g gv V a) (hb : Below w.heap.size w w') (h1 : w.heap.size ≤ s) (h2 : s < w'.heap.size) : GKeep w' B g gv V s a := by
  obtain ⟨R, h⟩ := h
  refine ⟨R, h.below hb, h2, fun e => ?_, fun e => ?_, fun i hi e => ?_⟩
  · have := h.glt; omega
  · have := h.gvlt; omega
  · have := own_lt (h.row i hi) s e; omega
def KeepPost (w : World) (B g gv V s : Nat) (a : List (Int × Int)) (e : Ending) (w' : World) : Prop := (∃ n, e = .returned (.int .i64 n)) ∧ GKeep w' B g gv V s a ∧ Below B w w' ∧ w'.heap[s]? = w.heap[s]?
theorem keep_wrote (h : GKeep w B g gv V s a) (hG : Good V a) (ha : a.length ≤ 1000) (vol num : Int) (hv1 : vol ≠ -1) (hv : -9223372036854775808 ≤ vol) (hv' : vol ≤ 9223372036854775807) (hV : V ≤ 8) (h0 : 0 ≤ num) (h1 : num ≤ 18446744073709551615) :
    Calls Try.prog 20 #[.pointer (some ⟨g, 0, none⟩), .int .i64 vol, .int .u64 num] w (KeepPost w B g gv V s (stepAcc V a (vol, num))) := by
  obtain ⟨R, hg, s1, s2, s3, s4⟩ := h
  by_cases hp : 0 ≤ vol
  · have e := wrote_add hG vol num hp
    by_cases c : addE V a vol num = 0
    · rw [stepAcc_yes c]
      obtain ⟨p1, p2, p3, p4⟩ := addE_parts c
      obtain ⟨i, rfl⟩ : ∃ i : Nat, vol = i := ⟨vol.toNat, by omega⟩
      have hs : slot V i = i := by unfold slot; rw [if_neg (by omega)]; omega
      have hL := rows_len V a i
      have hn : nextE (lastN a) num = 0 := by rw [next_add hG i num ⟨p1, p2⟩]; exact c
      refine (wrote_yes hg i (by omega) hV num h0 p4 (by omega) hn).mono ?_
      rintro e' w' ⟨rfl, v', hg2, hb, hf, hat⟩
      have keep := hf s s1 s3 s2 (s4 i (by omega))
      refine ⟨⟨_, rfl⟩, ⟨upd R i v', ?_, ?_, s2, s3, fun j hj => ?_⟩, hb, keep⟩
      · rw [rows_add V a i num p1 p2, hs, lastN_app]; exact hg2
      · have := (Array.getElem?_eq_some_iff.1 (keep.trans (Array.getElem?_eq_getElem s1))).1; exact this
      · by_cases cj : j = i
        · subst cj
          rw [upd_at]
          rcases hat with q | q
          · rw [q]; exact s4 j hj
          · rw [q]; intro q2; simp at q2; omega
        · rw [upd_ne cj]; exact s4 j hj
    · rw [stepAcc_no c]
      refine (wrote_no hg vol num hv hv' hV h0 h1 (by rw [e]; exact c)).mono ?_
      rintro e' w' ⟨rfl, rfl⟩
      exact ⟨⟨_, rfl⟩, ⟨R, hg, s1, s2, s3, s4⟩, Below.refl _ _, rfl⟩
  · have e : wroteE V (lastN a) vol num = 2 := if_pos (.inl (by omega))
    rw [stepAcc_no (by rw [addE_low V a vol num (by omega)]; decide)]
    refine (wrote_no hg vol num hv hv' hV h0 h1 (by rw [e]; decide)).mono ?_
    rintro e' w' ⟨rfl, rfl⟩
    exact ⟨⟨_, rfl⟩, ⟨R, hg, s1, s2, s3, s4⟩, Below.refl _ _, rfl⟩
theorem keep_barrier (h : GKeep w B g gv V s a) (hG : Good V a) (ha : a.length ≤ 1000) (num : Int) (h0 : 0 ≤ num) (h1 : num ≤ 18446744073709551615) :
    Calls Try.prog 21 #[.pointer (some ⟨g, 0, none⟩), .int .u64 num] w (KeepPost w B g gv V s (stepAcc V a (-1, num))) := by
  obtain ⟨R, hg, s1, s2, s3, s4⟩ := h
  have e := barrier_add hG num
  by_cases c : addE V a (-1) num = 0
  · rw [stepAcc_yes c]
    obtain ⟨p1, p2, p3, p4⟩ := addE_parts c
    have hs : slot V (-1) = V := by simp [slot]
    have hL := rows_len V a V
    refine (barrier_yes hg num h0 p4 (by omega) (by rw [e]; exact c)).mono ?_
    rintro e' w' ⟨rfl, v', hg2, hb, hf, hat⟩
    have keep := hf s s1 s2 (s4 V (Nat.le_refl V))
    refine ⟨⟨_, rfl⟩, ⟨upd R V v', ?_, ?_, s2, s3, fun j hj => ?_⟩, hb, keep⟩
    · rw [rows_add V a (-1) num p1 p2, hs, lastN_app]; exact hg2
    · have := (Array.getElem?_eq_some_iff.1 (keep.trans (Array.getElem?_eq_getElem s1))).1; exact this
    · by_cases cj : j = V
      · subst cj
        rw [upd_at]
        rcases hat with q | q
        · rw [q]; exact s4 j hj
        · rw [q]; intro q2; simp at q2; omega
      · rw [upd_ne cj]; exact s4 j hj
  · rw [stepAcc_no c]
    refine (barrier_no hg num h0 h1 (by rw [e]; exact c)).mono ?_
    rintro e' w' ⟨rfl, rfl⟩
    exact ⟨⟨_, rfl⟩, ⟨R, hg, s1, s2, s3, s4⟩, Below.refl _ _, rfl⟩
end
theorem wrote_none (w : World) (v n : Int) : Calls Try.prog 20 #[.pointer none, .int .i64 v, .int .u64 n] w fun e w' => e = .returned (.int .i64 1) ∧ w = w' := by
  go_enter Try.func20, Try.ntmps20
  go_wp2_with fail
  go_ret
  exact ⟨rfl, rfl⟩
theorem barrier_none (w : World) (n : Int) : Calls Try.prog 21 #[.pointer none, .int .u64 n] w fun e w' => e = .returned (.int .i64 1) ∧ w = w' := by
  go_enter Try.func21, Try.ntmps21
  go_wp2_with fail
  go_ret
  exact ⟨rfl, rfl⟩
/-- What a cut has at a moment, also at none. -/
def cutAny (m : Int) (V : Nat) (a : List (Int × Int)) : List Int := if m = 0 then [] else cutList m V a
/-- A slice of the walk's own: nil, or a block of its own. -/
def OwnNums (w : World) (B : Nat) (A : Option Addr) (k : Nat) (l : List Int) : Prop := w.ownsRow B 23 1 (.slice A l.length k) l.length (u64s l)
theorem cut_any {w : World} {B g gv V : Nat} {a : List (Int × Int)} (h : GAt w B g gv V a) (hG : Good V a) (ha : a.length ≤ 1000) (m : Int) (hm : 0 ≤ m) (hm2 : m ≤ 18446744073709551615) (hV : V ≤ 8) :
    Calls Try.prog 13 #[.pointer (some ⟨g, 0, none⟩), .int .u64 m] w fun e w' => ∃ A k, e = .returned (.tuple #[.agg #[.int .u64 m, .slice A (cutAny m V a).length k], .bool (decide (0 < m))]) ∧ OwnNums w' w.heap.size A k (cutAny m V a) ∧ Below w.heap.size w w' := by
  by_cases c : m = 0
  · subst c
    refine (cut_zero w).mono ?_
    rintro e w' ⟨rfl, hb⟩
    exact ⟨none, 0, rfl, ⟨rfl, .inl ⟨rfl, rfl⟩⟩, hb⟩
  · refine (gat_cut h hG ha m (by omega) hm2 hV).mono ?_
    rintro e w' ⟨q, rfl, hq, hh, hb⟩
    have e1 : cutAny m V a = cutList m V a := if_neg c
    have hl := cutList_len m V a
    refine ⟨some ⟨q, 0, none⟩, V, ?_, ?_, hb⟩
    · rw [e1, hl, show decide (0 < m) = true by simp; omega]
    · rw [e1]
      exact ⟨by simp [u64s], .inr ⟨q, V, _, rfl, hq, hh, by omega, by simp only [maxLen]; omega, by simp [u64s, hl], by simp only [Nat.mul_one]; exact List.take_of_length_le (by simp [u64s, hl])⟩⟩
end Go.Proofs.Yteeokbcnjibpfaa.G
