/- The walk of GroupWithin. -/
import Derived.Test.YteeokbcnjibpfaaGStart
namespace Go.Proofs.Yteeokbcnjibpfaa.G
open Go.RowKit Go.Proofs.YteeokbcnjibpfaaW.PrintMore Go.Proofs.YteeokbcnjibpfaaW.PrintWords
attribute [local go_sem] max2_int min2_int max_two min_two
set_option linter.unusedVariables false
set_option linter.unusedSimpArgs false
set_option maxHeartbeats 3200000 in
set_option maxRecDepth 100000 in
theorem withinlaw_ok (v : Int) (A : Option Addr) (k : Nat) (l : List (Int × Int)) (a b : Int) (w : World) (hv : -9223372036854775808 ≤ v) (hv' : v ≤ 9223372036854775807) (a0 : 0 ≤ a) (a1 : a ≤ 18446744073709551615) (b0 : 0 ≤ b) (b1 : b ≤ 18446744073709551615) (hm : l.length ≤ maxLen) (hA : EvAt w w.heap.size A l) (hR : Ranged l) :
    Calls Try.prog 4 #[.int .i64 v, .slice A l.length k, .int .u64 a, .int .u64 b] w fun e w' => e = .returned (.bool true) ∧ Below w.heap.size w w' := by
  have HA := Lib.hid hA
  have HR := Lib.hid hR
  simp only [maxLen] at hm
  clear hA hR
  go_enter Try.func4, Try.ntmps4
  go_wp2_with fail
  refine (awake_ok _).mono ?_
  rintro e w1 ⟨rfl, hb1⟩
  by_cases d1 : 40 < l.length
  · go_wp2_with fail
    go_ret
    exact ⟨rfl, hb1⟩
  by_cases d2 : a = 0
  · subst d2
    go_wp2_with fail
    go_ret
    exact ⟨rfl, hb1⟩
  have D2 : (a == 0) = false := by simpa using d2
  by_cases d3 : b = 0
  · subst d3
    go_wp2_with fail
    go_ret
    exact ⟨rfl, hb1⟩
  have D3 : (b == 0) = false := by simpa using d3
  have p1 : 0 < a := by omega
  have p2 : 0 < b := by omega
  clear d2 d3
  go_wp2_with fail
  refine (play_law v _ A k l hv hv' rfl d1 HA.out HR.out hb1).mono ?_
  rintro e w2 ⟨g, gv, x, acc, -, rfl, hat, hG, hlen, hb2⟩
  have B2 := hb1.trans (hb2.mono hb1.size)
  have HG := Lib.hid hat.g
  have HO := Lib.hid hG
  have V8 := volsOf_le v
  generalize volsOf v = V at *
  clear hat hG hb1 hb2
  go_wp2_with fail
  refine (cut_box HG.out HO.out hlen a (by omega) (by omega) V8).mono ?_
  rintro e w3 ⟨c3, rfl, X3, hX, -, -⟩
  go_wp2_with fail
  have B3 := B2.trans (hX.mono B2.size)
  replace HG := Lib.hid (HG.out.below hX)
  generalize w3.alloc (.cells #[.int .u64 a, .slice (some ⟨c3, 0, none⟩) V V] 31) = W3 at *
  generalize w3.heap.size = q3 at *
  clear hX
  refine (cut_box HG.out HO.out hlen b (by omega) (by omega) V8).mono ?_
  rintro e w4 ⟨c4, rfl, X4, hX, -, -⟩
  by_cases d : a ≤ b
  · go_wp2_with fail
    case' inr => obtain rfl : a = b := by omega
    case' inl => skip
    · rename_i h
      have B4 := B3.trans (hX.mono B3.size)
      replace HG := Lib.hid (HG.out.below hX)
      replace X3 := X3.below hX
      generalize w4.alloc (.cells #[.int .u64 b, .slice (some ⟨c4, 0, none⟩) V V] 31) = W4 at *
      generalize w4.heap.size = q4 at *
      clear hX
      refine (cut_box HG.out HO.out hlen b (by omega) (by omega) V8).mono ?_
      rintro e w5 ⟨c5, rfl, X5, hX, -, -⟩
      have L5 := hX.size
      obtain ⟨k1, k2⟩ := (X3.below hX).cells (cutList_len _ _ _)
      obtain ⟨k3, k4⟩ := (X4.below hX).cells (cutList_len _ _ _)
      obtain ⟨k5, k6⟩ := X5.cells (cutList_len _ _ _)
      clear L5
      go_wp2_with fail
      have B5 := B4.trans (hX.mono B4.size)
      replace HG := Lib.hid (HG.out.below hX)
      replace X3 := X3.below hX
      replace X4 := X4.below hX
      generalize w5.alloc (.cells #[.int .u64 b, .slice (some ⟨c5, 0, none⟩) V V] 31) = W5 at *
      generalize w5.heap.size = q5 at *
      clear hX
      clear k1 k2 k3 k4 k5 k6
      refine (within_box X3 X4 (cutList_len _ _ _) (cutList_len _ _ _) V8).mono ?_
      rintro e w6 ⟨b6, rfl, hw, hb⟩
      rw [cut_within HO.out] at hw
      obtain rfl : b6 = true := by exact hw.2 d
      clear hw
      replace X3 := X3.below hb
      replace X4 := X4.below hb
      replace X5 := X5.below hb
      have B6 := B5.trans (hb.mono B5.size)
      obtain ⟨k1, k2⟩ := X3.cells (cutList_len _ _ _)
      obtain ⟨k3, k4⟩ := X4.cells (cutList_len _ _ _)
      obtain ⟨k5, k6⟩ := X5.cells (cutList_len _ _ _)
      clear hb
      go_wp2_with fail
      clear k1 k2 k3 k4 k5 k6
      refine (within_box X3 X3 (cutList_len _ _ _) (cutList_len _ _ _) V8).mono ?_
      rintro e w7 ⟨b7, rfl, hw, hb⟩
      rw [cut_within HO.out] at hw
      obtain rfl : b7 = true := hw.2 (by omega)
      clear hw
      replace X3 := X3.below hb
      replace X4 := X4.below hb
      replace X5 := X5.below hb
      have B7 := B6.trans (hb.mono B6.size)
      obtain ⟨k1, k2⟩ := X3.cells (cutList_len _ _ _)
      obtain ⟨k3, k4⟩ := X4.cells (cutList_len _ _ _)
      obtain ⟨k5, k6⟩ := X5.cells (cutList_len _ _ _)
      clear hb
      go_wp2_with fail
      clear k1 k2 k3 k4 k5 k6
      refine (within_box X3 X5 (cutList_len _ _ _) (cutList_len _ _ _) V8).mono ?_
      rintro e w8 ⟨b8, rfl, hw, hb⟩
      rw [cut_within HO.out] at hw
      obtain rfl : b8 = true := hw.2 (by omega)
      clear hw
      replace X3 := X3.below hb
      replace X4 := X4.below hb
      replace X5 := X5.below hb
      have B8 := B7.trans (hb.mono B7.size)
      obtain ⟨k1, k2⟩ := X3.cells (cutList_len _ _ _)
      obtain ⟨k3, k4⟩ := X4.cells (cutList_len _ _ _)
      obtain ⟨k5, k6⟩ := X5.cells (cutList_len _ _ _)
      clear hb
      go_wp2_with fail
      clear k1 k2 k3 k4 k5 k6
      refine (within_box X4 X5 (cutList_len _ _ _) (cutList_len _ _ _) V8).mono ?_
      rintro e w9 ⟨b9, rfl, hw, hb⟩
      rw [cut_within HO.out] at hw
      obtain rfl : b9 = true := hw.2 (by omega)
      clear hw
      have B9 := B8.trans (hb.mono B8.size)
      go_wp2_with fail
      go_ret
      exact ⟨rfl, B9⟩
    · have B4 := B3.trans (hX.mono B3.size)
      replace HG := Lib.hid (HG.out.below hX)
      replace X3 := X3.below hX
      generalize w4.alloc (.cells #[.int .u64 a, .slice (some ⟨c4, 0, none⟩) V V] 31) = W4 at *
      generalize w4.heap.size = q4 at *
      clear hX
      refine (cut_box HG.out HO.out hlen a (by omega) (by omega) V8).mono ?_
      rintro e w5 ⟨c5, rfl, X5, hX, -, -⟩
      have L5 := hX.size
      obtain ⟨k1, k2⟩ := (X3.below hX).cells (cutList_len _ _ _)
      obtain ⟨k3, k4⟩ := (X4.below hX).cells (cutList_len _ _ _)
      obtain ⟨k5, k6⟩ := X5.cells (cutList_len _ _ _)
      clear L5
      go_wp2_with fail
      have B5 := B4.trans (hX.mono B4.size)
      replace HG := Lib.hid (HG.out.below hX)
      replace X3 := X3.below hX
      replace X4 := X4.below hX
      generalize w5.alloc (.cells #[.int .u64 a, .slice (some ⟨c5, 0, none⟩) V V] 31) = W5 at *
      generalize w5.heap.size = q5 at *
      clear hX
      clear k1 k2 k3 k4 k5 k6
      refine (within_box X3 X4 (cutList_len _ _ _) (cutList_len _ _ _) V8).mono ?_
      rintro e w6 ⟨b6, rfl, hw, hb⟩
      rw [cut_within HO.out] at hw
      obtain rfl : b6 = true := by exact hw.2 d
      clear hw
      replace X3 := X3.below hb
      replace X4 := X4.below hb
      replace X5 := X5.below hb
      have B6 := B5.trans (hb.mono B5.size)
      obtain ⟨k1, k2⟩ := X3.cells (cutList_len _ _ _)
      obtain ⟨k3, k4⟩ := X4.cells (cutList_len _ _ _)
      obtain ⟨k5, k6⟩ := X5.cells (cutList_len _ _ _)
      clear hb
      go_wp2_with fail
      clear k1 k2 k3 k4 k5 k6
      refine (within_box X3 X3 (cutList_len _ _ _) (cutList_len _ _ _) V8).mono ?_
      rintro e w7 ⟨b7, rfl, hw, hb⟩
      rw [cut_within HO.out] at hw
      obtain rfl : b7 = true := hw.2 (by omega)
      clear hw
      replace X3 := X3.below hb
      replace X4 := X4.below hb
      replace X5 := X5.below hb
      have B7 := B6.trans (hb.mono B6.size)
      obtain ⟨k1, k2⟩ := X3.cells (cutList_len _ _ _)
      obtain ⟨k3, k4⟩ := X4.cells (cutList_len _ _ _)
      obtain ⟨k5, k6⟩ := X5.cells (cutList_len _ _ _)
      clear hb
      go_wp2_with fail
      clear k1 k2 k3 k4 k5 k6
      refine (within_box X3 X5 (cutList_len _ _ _) (cutList_len _ _ _) V8).mono ?_
      rintro e w8 ⟨b8, rfl, hw, hb⟩
      rw [cut_within HO.out] at hw
      obtain rfl : b8 = true := hw.2 (by omega)
      clear hw
      replace X3 := X3.below hb
      replace X4 := X4.below hb
      replace X5 := X5.below hb
      have B8 := B7.trans (hb.mono B7.size)
      obtain ⟨k1, k2⟩ := X3.cells (cutList_len _ _ _)
      obtain ⟨k3, k4⟩ := X4.cells (cutList_len _ _ _)
      obtain ⟨k5, k6⟩ := X5.cells (cutList_len _ _ _)
      clear hb
      go_wp2_with fail
      clear k1 k2 k3 k4 k5 k6
      refine (within_box X4 X5 (cutList_len _ _ _) (cutList_len _ _ _) V8).mono ?_
      rintro e w9 ⟨b9, rfl, hw, hb⟩
      rw [cut_within HO.out] at hw
      obtain rfl : b9 = true := hw.2 (by omega)
      clear hw
      have B9 := B8.trans (hb.mono B8.size)
      go_wp2_with fail
      go_ret
      exact ⟨rfl, B9⟩
  · go_wp2_with fail
    have B4 := B3.trans (hX.mono B3.size)
    replace HG := Lib.hid (HG.out.below hX)
    replace X3 := X3.below hX
    generalize w4.alloc (.cells #[.int .u64 b, .slice (some ⟨c4, 0, none⟩) V V] 31) = W4 at *
    generalize w4.heap.size = q4 at *
    clear hX
    refine (cut_box HG.out HO.out hlen a (by omega) (by omega) V8).mono ?_
    rintro e w5 ⟨c5, rfl, X5, hX, -, -⟩
    have L5 := hX.size
    obtain ⟨k1, k2⟩ := (X3.below hX).cells (cutList_len _ _ _)
    obtain ⟨k3, k4⟩ := (X4.below hX).cells (cutList_len _ _ _)
    obtain ⟨k5, k6⟩ := X5.cells (cutList_len _ _ _)
    clear L5
    go_wp2_with fail
    have B5 := B4.trans (hX.mono B4.size)
    replace HG := Lib.hid (HG.out.below hX)
    replace X3 := X3.below hX
    replace X4 := X4.below hX
    generalize w5.alloc (.cells #[.int .u64 a, .slice (some ⟨c5, 0, none⟩) V V] 31) = W5 at *
    generalize w5.heap.size = q5 at *
    clear hX
    clear k1 k2 k3 k4 k5 k6
    refine (within_box X3 X4 (cutList_len _ _ _) (cutList_len _ _ _) V8).mono ?_
    rintro e w6 ⟨b6, rfl, hw, hb⟩
    rw [cut_within HO.out] at hw
    obtain rfl : b6 = false := by cases b6 with | false => rfl | true => exact absurd (hw.1 rfl) (by omega)
    have D5 : ¬ a ≤ b := by omega
    clear hw
    replace X3 := X3.below hb
    replace X4 := X4.below hb
    replace X5 := X5.below hb
    have B6 := B5.trans (hb.mono B5.size)
    obtain ⟨k1, k2⟩ := X3.cells (cutList_len _ _ _)
    obtain ⟨k3, k4⟩ := X4.cells (cutList_len _ _ _)
    obtain ⟨k5, k6⟩ := X5.cells (cutList_len _ _ _)
    clear hb
    go_wp2_with fail
    clear k1 k2 k3 k4 k5 k6
    refine (within_box X3 X3 (cutList_len _ _ _) (cutList_len _ _ _) V8).mono ?_
    rintro e w7 ⟨b7, rfl, hw, hb⟩
    rw [cut_within HO.out] at hw
    obtain rfl : b7 = true := hw.2 (by omega)
    clear hw
    replace X3 := X3.below hb
    replace X4 := X4.below hb
    replace X5 := X5.below hb
    have B7 := B6.trans (hb.mono B6.size)
    obtain ⟨k1, k2⟩ := X3.cells (cutList_len _ _ _)
    obtain ⟨k3, k4⟩ := X4.cells (cutList_len _ _ _)
    obtain ⟨k5, k6⟩ := X5.cells (cutList_len _ _ _)
    clear hb
    go_wp2_with fail
    clear k1 k2 k3 k4 k5 k6
    refine (within_box X3 X5 (cutList_len _ _ _) (cutList_len _ _ _) V8).mono ?_
    rintro e w8 ⟨b8, rfl, hw, hb⟩
    rw [cut_within HO.out] at hw
    obtain rfl : b8 = true := hw.2 (by omega)
    clear hw
    replace X3 := X3.below hb
    replace X4 := X4.below hb
    replace X5 := X5.below hb
    have B8 := B7.trans (hb.mono B7.size)
    obtain ⟨k1, k2⟩ := X3.cells (cutList_len _ _ _)
    obtain ⟨k3, k4⟩ := X4.cells (cutList_len _ _ _)
    obtain ⟨k5, k6⟩ := X5.cells (cutList_len _ _ _)
    clear hb
    go_wp2_with fail
    clear k1 k2 k3 k4 k5 k6
    refine (within_box X4 X5 (cutList_len _ _ _) (cutList_len _ _ _) V8).mono ?_
    rintro e w9 ⟨b9, rfl, hw, hb⟩
    rw [cut_within HO.out] at hw
    obtain rfl : b9 = true := hw.2 (by omega)
    clear hw
    have B9 := B8.trans (hb.mono B8.size)
    go_wp2_with fail
    go_ret
    exact ⟨by go_simp, B9⟩
end Go.Proofs.Yteeokbcnjibpfaa.G
