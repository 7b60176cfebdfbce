/- The walk of GroupVols. -/
import Derived.Test.YteeokbcnjibpfaaGBarriers
namespace Go.Proofs.Yteeokbcnjibpfaa.G
open Go.RowKit Go.Proofs.YteeokbcnjibpfaaW.PrintMore Go.Proofs.YteeokbcnjibpfaaW.PrintWords
set_option linter.unusedVariables false
set_option linter.unusedSimpArgs false
theorem wf_u8 {n : Int} (h : (Lit.int .u8 n).wf = true) : 0 ≤ n ∧ n ≤ 255 := by
  simp [Lit.wf, IntKind.min, IntKind.max, IntKind.bits, IntKind.signed] at h
  omega
/-- One volume's writes. -/
def only (r : Nat) (a : List (Int × Int)) : List (Int × Int) := a.filter fun e => decide (e.1 = r)
theorem only_good {V r : Nat} {a : List (Int × Int)} (h : Good V a) : Good V (only r a) :=
  ⟨h.sorted.filter _, fun e he => h.num e (List.mem_filter.mp he).1, fun e he => h.vol e (List.mem_filter.mp he).1⟩
theorem only_len (r : Nat) (a : List (Int × Int)) : (only r a).length ≤ a.length := List.length_filter_le _ _
theorem only_take (r : Nat) (a : List (Int × Int)) (n : Nat) (h : n < a.length) : only r (a.take (n + 1)) = if a[n].1 = r then only r (a.take n) ++ [(a[n].1, a[n].2)] else only r (a.take n) := by
  rw [List.take_succ_eq_append_getElem h]
  unfold only
  rw [List.filter_append]
  by_cases c : a[n].1 = r
  · rw [if_pos c]; simp [c]; rw [← c]
  · rw [if_neg c]; simp [c]
theorem rows_only_same {V r : Nat} (hr : r < V) (a : List (Int × Int)) : rowsOf V (only r a) r = rowsOf V a r := by
  unfold rowsOf only
  rw [List.filter_filter, key_lt hr]
  congr 1
  apply List.filter_congr
  intro e _
  simp
theorem rows_only_other {V r i : Nat} (hi : i ≠ r) (hr : r < V) (a : List (Int × Int)) : rowsOf V (only r a) i = [] := by
  unfold rowsOf only
  rw [List.filter_filter]
  rw [List.map_eq_nil_iff, List.filter_eq_nil_iff]
  intro e _
  simp only [Bool.and_eq_true, decide_eq_true_eq, not_and]
  intro h1 h2
  unfold key at h1
  by_cases c : i = V
  · rw [if_pos c] at h1; omega
  · rw [if_neg c] at h1; omega
theorem only_next {V r n : Nat} {a : List (Int × Int)} (h : Good V a) (hn : n < a.length) : nextE (lastN (only r (a.take n))) a[n].2 = 0 := by
  have hg : Good V (only r (a.take n)) := only_good (good_pre (r := a.drop n) (by rw [List.take_append_drop]; exact h))
  have h1 := h.num _ (List.getElem_mem hn)
  have h2 : lastN (only r (a.take n)) < a[n].2 := (sorted_last hg a[n].2 h1.1).1 (fun i hi => by
    have hm := (List.mem_filter.mp (List.getElem_mem hi)).1
    obtain ⟨j, hj, e⟩ := List.getElem_of_mem hm
    have hj2 : j < n := by simp at hj; omega
    rw [List.getElem_take] at e
    show ((only r (a.take n))[i]).2 < a[n].2
    have e2 : (only r (a.take n))[i] = a[j]'(by omega) := e.symm
    rw [e2]
    exact List.pairwise_iff_getElem.mp h.sorted j n (by omega) hn hj2)
  unfold nextE
  rw [if_neg (by omega), if_neg (by omega)]
theorem only_within {V r : Nat} {a : List (Int × Int)} (h : Good V a) (hr : r < V) (m : Int) : WithinP m m (cutList m V (only r a)) (cutList m V a) := by
  refine ⟨by rw [cutList_len, cutList_len], Int.le_refl _, fun j h1 h2 => ?_⟩
  rw [cutList_get, cutList_get]
  by_cases c : j = r
  · subst c; rw [rows_only_same hr]; exact Int.le_refl _
  · rw [rows_only_other c hr, lastUp_nil]
    exact lastUp_nonneg fun n hn => by have := rows_num h n hn; omega
def VolsRel (W : World) (hp hg V r : Nat) (acc : List (Int × Int)) (i : Value) (wr : World) : Prop := ∃ n : Nat, i = .int .i64 n ∧ n ≤ acc.length ∧ GAt wr W.heap.size hp hg V (only r (acc.take n)) ∧ Below W.heap.size W wr
set_option maxHeartbeats 3200000 in
set_option maxRecDepth 100000 in
theorem vols_ok (v : Int) (A : Option Addr) (k : Nat) (l : List (Int × Int)) (vol m : Int) (w : World) (hv : -9223372036854775808 ≤ v) (hv' : v ≤ 9223372036854775807) (s0 : 0 ≤ vol) (s1 : vol ≤ 255) (m0 : 0 ≤ m) (m1 : m ≤ 18446744073709551615) (hm : l.length ≤ maxLen) (hA : EvAt w w.heap.size A l) (hR : Ranged l) :
    Calls Try.prog 8 #[.int .i64 v, .slice A l.length k, .int .u8 vol, .int .u64 m] w fun e w' => e = .returned (.bool true) ∧ Below w.heap.size w w' := by
  have HA := Lib.hid hA
  have HR := Lib.hid hR
  simp only [maxLen] at hm
  clear hA hR
  go_enter Try.func8, Try.ntmps8
  go_wp2_with fail
  refine (awake_ok _).mono ?_
  rintro e w1 ⟨rfl, hb1⟩
  by_cases d1 : 40 < l.length
  · go_wp2_with fail
    go_ret
    exact ⟨rfl, hb1⟩
  go_wp2_with fail
  refine (play_law v _ A k l hv hv' rfl d1 HA.out HR.out hb1).mono ?_
  rintro e w2 ⟨g, gv, x, acc, -, rfl, hat, hG, hlen, hb2⟩
  have B2 := hb1.trans (hb2.mono hb1.size)
  have HG := Lib.hid hat.g
  have HX := Lib.hid hat.r
  have HO := Lib.hid hG
  have V8 := volsOf_le v
  generalize volsOf v = V at *
  clear hat hG hb1 hb2
  by_cases d2 : m = 0
  · subst d2
    go_wp2_with fail
    refine (cut_zero w2).mono ?_
    rintro e w3 ⟨rfl, hb3⟩
    unfold nilS
    have hX := hb3.alloc hb3.size (.cells #[.int .u64 0, .slice none 0 0] 31)
    have B3 := B2.trans (hX.mono B2.size)
    have HX3 := HX.out.below hb3
    have k3 := HX3.c0
    have k4 : x < w3.heap.size := World.block_lt_of_cell? w3 _ k3
    by_cases d3 : V = 0
    · subst d3
      go_wp2_with fail
      go_ret
      exact ⟨rfl, B3⟩
    · have D3 : ((V : Int) == 0) = false := by simp; omega
      go_wp2_with fail
      go_ret
      exact ⟨rfl, B3⟩
  have p1 : 0 < m := by omega
  clear d2
  go_wp2_with fail
  refine (cut_box HG.out HO.out hlen m (by omega) (by omega) V8).mono ?_
  rintro e w3 ⟨c3, rfl, X3, hX, -, -⟩
  have B3 := B2.trans (hX.mono B2.size)
  replace HX := Lib.hid (HX.out.below hX)
  obtain ⟨k1, k2⟩ := X3.cells (cutList_len _ _ _)
  have k3 := HX.out.c0
  obtain ⟨A1, c5, k5, hev⟩ := HX.out.evs
  have HE := Lib.hid hev
  clear hev
  by_cases d3 : V = 0
  · subst d3
    go_wp2_with fail
    go_ret
    exact ⟨rfl, B3⟩
  have D3 : ((V : Int) == 0) = false := by simp; omega
  go_wp2_with fail
  generalize w3.alloc (.cells #[.int .u64 m, .slice (some ⟨c3, 0, none⟩) V V] 31) = W3 at *
  generalize w3.heap.size = q3 at *
  clear hX
  obtain ⟨r, hr, hrV⟩ : ∃ r : Nat, vol % (V : Int) = r ∧ r < V := by
    have h1 := Int.emod_nonneg vol (show (V : Int) ≠ 0 by omega)
    have h2 := Int.emod_lt_of_pos vol (show (0 : Int) < (V : Int) by omega)
    exact ⟨(vol % (V : Int)).toNat, by omega, by omega⟩
  rw [hr]
  clear hr
  have hvV : volsOf (V : Int) = V := by unfold volsOf; rw [if_neg (by omega)]; split <;> omega
  refine (new_at (V : Int) V W3 hvV (by omega) (by omega)).mono ?_
  clear hvV
  rintro e w4 ⟨h, hgv, rfl, hh, hb4⟩
  have h0 := gat_new hh
  clear hh
  go_wp2_with fail
  go_loopw [16] (fun i wr => VolsRel W3 h hgv V r acc i wr) (fun i _ => (acc.length - intOf i).toNat)
  case atStart => exact ⟨0, rfl, by omega, by simpa [only] using h0, hb4⟩
  case round =>
    obtain ⟨n, rfl, hn, hgat, hb⟩ := hrel
    have HF := B3.trans (hb.mono B3.size)
    have HH := Lib.hid hgat
    obtain ⟨bc, bf⟩ := bcell hb
    have xlt : x < W3.heap.size := World.block_lt_of_cell? W3 _ k3
    have r3 := (bc x 0 xlt).trans k3
    have r5 := (bc x 1 xlt).trans k5
    clear bc bf hgat
    by_cases cc : n < acc.length
    · obtain ⟨q, off, rfl, hlt, hcs⟩ := HE.out (by omega)
      have y1 := (hb.cell (p := ⟨q, off + n * 2, none⟩) hlt).trans (hcs n cc).1
      have y2 := (hb.cell (p := ⟨q, off + n * 2 + 1, none⟩) hlt).trans (hcs n cc).2
      have e1 : (0 : Int) ≤ (n : Int) := by omega
      have e2 : (n : Int) < (acc.length : Int) := by omega
      have hnum := HO.out.num _ (List.getElem_mem cc)
      have hnx := Lib.hid (only_next (r := r) HO.out cc)
      have hst := Lib.hid (only_take r acc n cc)
      have hle := only_len r (acc.take n)
      have hle2 : (acc.take n).length ≤ 40 := by simp; omega
      clear hcs
      by_cases cv : acc[n].1 = r
      · rw [cv] at y1 hst
        rw [if_pos rfl] at hst
        generalize acc[n].2 = num at *
        clear cv
        have HW := Lib.hid (gat_wrote HH.out (by omega) r num (by omega) (by omega) V8 (by omega) (by omega) hnx.out)
        go_wp2_with (first | (go_at_call 20; refine HW.out.mono ?_; rintro e w5 ⟨rfl, hg5, hb5⟩))
        go_roundw
        case rel => exact ⟨n + 1, by simp, by omega, by rw [hst.out]; exact hg5, hb.trans hb5⟩
        case measure => simp [intOf]; omega
      · rw [if_neg cv] at hst
        generalize acc[n].1 = vl at *
        have CN : (vl == (r : Int)) = false := by simpa using cv
        clear cv
        go_wp2_with fail
        go_roundw
        case rel => exact ⟨n + 1, by simp, by omega, by rw [hst.out]; exact HH.out, hb⟩
        case measure => simp [intOf]; omega
    · obtain rfl : n = acc.length := by omega
      replace HH : Hid (GAt wr W3.heap.size h hgv V (only r acc)) := by have := HH.out; rw [List.take_length] at this; exact this
      have hle := only_len r acc
      go_wp2_with fail
      refine (cut_box HH.out (only_good HO.out) (by omega) m (by omega) (by omega) V8).mono ?_
      rintro e w6 ⟨c6, rfl, X6, hX, -, -⟩
      have hb7 := hb.trans (hX.mono hb.size)
      have B7 := B3.trans (hb7.mono B3.size)
      replace X3 := X3.below hb7
      replace HH := Lib.hid (HH.out.below hX)
      have xlt : x < W3.heap.size := World.block_lt_of_cell? W3 _ k3
      replace k3 := (hb7.cell (p := ⟨x, 0, none⟩) xlt).trans k3
      obtain ⟨k1, k2⟩ := X3.cells (cutList_len _ _ _)
      obtain ⟨k6, k7⟩ := X6.cells (cutList_len _ _ _)
      have x3 := X3.cell r (by rw [cutList_len]; exact hrV)
      have x6 := X6.cell r (by rw [cutList_len]; exact hrV)
      rw [cutList_get] at x3 x6
      rw [rows_only_same hrV] at x6
      have e3 : (0 : Int) ≤ (r : Int) := by omega
      have e4 : (r : Int) < (V : Int) := by omega
      generalize lastUp m (rowsOf V acc r) = tu at *
      go_wp2_with fail
      generalize w6.alloc (.cells #[.int .u64 m, .slice (some ⟨c6, 0, none⟩) V V] 31) = W6 at *
      generalize w6.heap.size = q6 at *
      clear hX r5 r3 hb7
      go_quiet (fail)
      go_wp2_with fail
      go_loopw [19] (fun i w' => IdxRel W6 V i w') (fun i _ => (V - intOf i).toNat)
      case atStart => exact ⟨0, rfl, by omega, bel_drewN _ _⟩
      case round =>
        obtain ⟨j, rfl, hj, hb2⟩ := hrel
        have HF2 := B7.trans (hb2.mono B7.size)
        replace X3 := X3.below hb2
        replace X6 := X6.below hb2
        replace HH := Lib.hid (HH.out.below hb2)
        have xlt : x < W6.heap.size := World.block_lt_of_cell? W6 _ k3
        replace k3 := (hb2.cell (p := ⟨x, 0, none⟩) xlt).trans k3
        replace k1 := (X3.cells (cutList_len _ _ _)).1
        replace k2 := (X3.cells (cutList_len _ _ _)).2
        replace k6 := (X6.cells (cutList_len _ _ _)).1
        replace k7 := (X6.cells (cutList_len _ _ _)).2
        clear x3 x6
        by_cases cj : j < V
        · by_cases cr : j = r
          · subst cr
            go_wp2_with fail
            go_roundw
            case rel => exact ⟨j + 1, by simp, by omega, hb2⟩
            case measure => simp [intOf]; omega
          · have CR : ((j : Int) == (r : Int)) = false := by simp; omega
            have x1 := X6.cell j (by rw [cutList_len]; exact cj)
            rw [cutList_get, rows_only_other cr hrV, lastUp_nil] at x1
            have f3 : (0 : Int) ≤ (j : Int) := by omega
            have f4 : (j : Int) < (V : Int) := by omega
            go_wp2_with fail
            go_roundw
            case rel => exact ⟨j + 1, by simp, by omega, hb2⟩
            case measure => simp [intOf]; omega
        · go_wp2_with fail
          refine (within_box X6 X3 (cutList_len _ _ _) (cutList_len _ _ _) V8).mono ?_
          rintro e w8 ⟨b, rfl, hw, hb8⟩
          obtain rfl : b = true := hw.2 (only_within HO.out hrV m)
          obtain ⟨R, hgrp⟩ := HH.out.below hb8
          have hnil : rowsOf V (only r acc) V = [] := rows_only_other (by omega) hrV acc
          have HC := Lib.hid (barriers_at hgrp (by rw [hnil]; simp))
          rw [hnil] at HC
          clear hgrp hw
          go_wp2_with fail
          refine HC.out.mono ?_
          rintro e w9 ⟨v9, rfl, hown9, hb9⟩
          obtain ⟨A9, c9, rfl, -, -⟩ := numsAt_own hown9
          have HFF := (HF2.trans (hb8.mono HF2.size))
          have HF9 := HFF.trans (hb9.mono HFF.size)
          go_wp2_with fail
          go_ret
          exact ⟨rfl, HF9⟩
end Go.Proofs.Yteeokbcnjibpfaa.G
