/- The walk of LedgerParts: it answers true, whatever the two bytes and the two numbers. -/
import Derived.Test.YtcflobbgnicncaaLShape
namespace Go.Proofs.Ytcflobbgnicncaa.L
open Go.RowKit
set_option linter.unusedVariables false
set_option linter.unusedSimpArgs false
theorem b3 {w w1 w2 : World} {B C : Nat} (h : Below B w w1) (k : Below C w1 w2) (hC : B ≤ C) : Below B w w2 := h.trans (k.mono hC)
set_option maxHeartbeats 400000 in
theorem parts_out (a b m n : Int) (w : World) (h : m < 0 ∨ n < 0 ∨ m > 1073741824 ∨ n > 1073741824) :
    Calls Try.prog 5 #[.int .u8 a, .int .u8 b, .int .i64 m, .int .i64 n] w fun e w' => e = .returned (.bool true) ∧ Below w.heap.size w w' := by
  have H := Lib.hid h
  clear h
  by_cases c1 : m < 0
  · go_enter Try.func5, Try.ntmps5
    go_wp2_with (first | (go_at_call 11; refine (awake_ok _).mono ?_; rintro e w1 ⟨rfl, hb1⟩))
    go_ret
    exact ⟨rfl, hb1⟩
  by_cases c2 : n < 0
  · go_enter Try.func5, Try.ntmps5
    go_wp2_with (first | (go_at_call 11; refine (awake_ok _).mono ?_; rintro e w1 ⟨rfl, hb1⟩))
    go_ret
    exact ⟨rfl, hb1⟩
  by_cases c3 : m > 1073741824
  · go_enter Try.func5, Try.ntmps5
    go_wp2_with (first | (go_at_call 11; refine (awake_ok _).mono ?_; rintro e w1 ⟨rfl, hb1⟩))
    go_ret
    exact ⟨rfl, hb1⟩
  have c4 : n > 1073741824 := by have := H.out; omega
  go_enter Try.func5, Try.ntmps5
  go_wp2_with (first | (go_at_call 11; refine (awake_ok _).mono ?_; rintro e w1 ⟨rfl, hb1⟩))
  go_ret
  exact ⟨rfl, hb1⟩
set_option maxHeartbeats 3200000 in
theorem parts_in (a b m n : Int) (w : World) (ha : 0 ≤ a) (ha' : a ≤ 255) (hb : 0 ≤ b) (hb' : b ≤ 255) (h0 : 0 ≤ m) (h1 : 0 ≤ n) (h2 : m ≤ 1073741824) (h3 : n ≤ 1073741824) :
    Calls Try.prog 5 #[.int .u8 a, .int .u8 b, .int .i64 m, .int .i64 n] w fun e w' => e = .returned (.bool true) ∧ Below w.heap.size w w' := by
  have hM := mostAt_bd a b
  by_cases c1 : m ≤ mostAt a b
  · by_cases c2 : n ≤ mostAt a b - m
    · go_enter Try.func5, Try.ntmps5
      go_wp2_with fail
      refine (awake_ok _).mono ?_
      rintro e w1 ⟨rfl, hb1⟩
      go_wp2_with fail
      refine (shape_any a b _ ha ha' hb hb').mono ?_
      rintro e w2 ⟨rfl, hb2⟩
      go_wp2_with fail
      refine (new_shape a b _).mono ?_
      rintro e w3 ⟨g, rfl, hg, H1, hb3⟩
      go_wp2_with fail
      refine (shape_any a b _ ha ha' hb hb').mono ?_
      rintro e w4 ⟨rfl, hb4⟩
      go_wp2_with fail
      refine (new_shape a b _).mono ?_
      rintro e w5 ⟨g', rfl, hg', H2, hb5⟩
      have s1 := hb1.size
      have s2 := hb2.size
      have s3 := hb3.size
      have s4 := hb4.size
      have s5 := hb5.size
      have hlt := H1.lt
      have hne : g < w4.heap.size := Nat.lt_of_lt_of_le hlt hb4.size
      have H1 := (H1.below hb4 hlt).below hb5 hne
      have B5 := b3 (b3 (b3 (b3 hb1 hb2 (by omega)) hb3 (by omega)) hb4 (by omega)) hb5 (by omega)
      have hgg : g' ≠ g := by omega
      go_wp2_with fail
      refine (take_yes H1 (by omega) (by omega) (by omega) (by omega) (by omega)).mono ?_
      rintro e w6 ⟨rfl, H1, o6⟩
      have H2 := H2.far o6 hgg
      go_wp2_with fail
      refine (take_yes H1 (by omega) (by omega) (by omega) (by omega) (by omega)).mono ?_
      rintro e w7 ⟨rfl, H1, o7⟩
      have H2 := H2.far o7 hgg
      go_wp2_with fail
      refine (fits_yes H2 (by omega) (by omega) (by omega) (by omega)).mono ?_
      rintro e w' ⟨rfl, rfl⟩
      go_wp2_with fail
      refine (take_yes H2 (by omega) (by omega) (by omega) (by omega) (by omega)).mono ?_
      rintro e w8 ⟨rfl, H2, o8⟩
      have H1 := H1.far o8 hgg.symm
      go_wp2_with fail
      refine (most_some _ _ _ _ H1).mono ?_
      rintro e w' ⟨rfl, rfl⟩
      go_wp2_with fail
      refine (live_at H1 (m + n) (by omega)).mono ?_
      rintro e w' ⟨rfl, rfl⟩
      go_wp2_with fail
      refine (live_at H2 (m + n) (by omega)).mono ?_
      rintro e w' ⟨rfl, rfl⟩
      go_wp2_with fail
      refine (room_at H1 (by omega) (by omega) (by omega) (mostAt a b - (m + n)) (by omega)).mono ?_
      rintro e w' ⟨rfl, rfl⟩
      go_wp2_with fail
      refine (room_at H2 (by omega) (by omega) (by omega) (mostAt a b - (m + n)) (by omega)).mono ?_
      rintro e w' ⟨rfl, rfl⟩
      go_wp2_with fail
      go_ret
      exact ⟨rfl, ((B5.trans (o6.below (by omega))).trans (o7.below (by omega))).trans (o8.below (by omega))⟩
    · go_enter Try.func5, Try.ntmps5
      go_wp2_with fail
      refine (awake_ok _).mono ?_
      rintro e w1 ⟨rfl, hb1⟩
      go_wp2_with fail
      refine (shape_any a b _ ha ha' hb hb').mono ?_
      rintro e w2 ⟨rfl, hb2⟩
      go_wp2_with fail
      refine (new_shape a b _).mono ?_
      rintro e w3 ⟨g, rfl, hg, H1, hb3⟩
      go_wp2_with fail
      refine (shape_any a b _ ha ha' hb hb').mono ?_
      rintro e w4 ⟨rfl, hb4⟩
      go_wp2_with fail
      refine (new_shape a b _).mono ?_
      rintro e w5 ⟨g', rfl, hg', H2, hb5⟩
      have s1 := hb1.size
      have s2 := hb2.size
      have s3 := hb3.size
      have s4 := hb4.size
      have s5 := hb5.size
      have hlt := H1.lt
      have hne : g < w4.heap.size := Nat.lt_of_lt_of_le hlt hb4.size
      have H1 := (H1.below hb4 hlt).below hb5 hne
      have B5 := b3 (b3 (b3 (b3 hb1 hb2 (by omega)) hb3 (by omega)) hb4 (by omega)) hb5 (by omega)
      have hgg : g' ≠ g := by omega
      go_wp2_with fail
      refine (take_yes H1 (by omega) (by omega) (by omega) (by omega) (by omega)).mono ?_
      rintro e w6 ⟨rfl, H1, o6⟩
      have H2 := H2.far o6 hgg
      go_wp2_with fail
      refine (take_no H1 (by omega) (by omega) (by omega) (by omega) (by omega)).mono ?_
      rintro e w7 ⟨rfl, H1, o7⟩
      have H2 := H2.far o7 hgg
      go_wp2_with fail
      refine (fits_not H2 (by omega) (by omega) (by omega) (by omega)).mono ?_
      rintro e w' ⟨rfl, rfl⟩
      go_wp2_with fail
      refine (take_no H2 (by omega) (by omega) (by omega) (by omega) (by omega)).mono ?_
      rintro e w8 ⟨rfl, H2, o8⟩
      have H1 := H1.far o8 hgg.symm
      go_wp2_with fail
      refine (most_some _ _ _ _ H1).mono ?_
      rintro e w' ⟨rfl, rfl⟩
      go_wp2_with fail
      go_ret
      exact ⟨rfl, ((B5.trans (o6.below (by omega))).trans (o7.below (by omega))).trans (o8.below (by omega))⟩
  · have d1 := decide_eq_false c1
    go_enter Try.func5, Try.ntmps5
    go_wp2_with fail
    refine (awake_ok _).mono ?_
    rintro e w1 ⟨rfl, hb1⟩
    go_wp2_with fail
    refine (shape_any a b _ ha ha' hb hb').mono ?_
    rintro e w2 ⟨rfl, hb2⟩
    go_wp2_with fail
    refine (new_shape a b _).mono ?_
    rintro e w3 ⟨g, rfl, hg, H1, hb3⟩
    go_wp2_with fail
    refine (shape_any a b _ ha ha' hb hb').mono ?_
    rintro e w4 ⟨rfl, hb4⟩
    go_wp2_with fail
    refine (new_shape a b _).mono ?_
    rintro e w5 ⟨g', rfl, hg', H2, hb5⟩
    have s1 := hb1.size
    have s2 := hb2.size
    have s3 := hb3.size
    have s4 := hb4.size
    have s5 := hb5.size
    have hlt := H1.lt
    have hne : g < w4.heap.size := Nat.lt_of_lt_of_le hlt hb4.size
    have H1 := (H1.below hb4 hlt).below hb5 hne
    have B5 := b3 (b3 (b3 (b3 hb1 hb2 (by omega)) hb3 (by omega)) hb4 (by omega)) hb5 (by omega)
    have hgg : g' ≠ g := by omega
    go_wp2_with fail
    refine (take_no H1 (by omega) (by omega) (by omega) (by omega) (by omega)).mono ?_
    rintro e w6 ⟨rfl, H1, o6⟩
    have H2 := H2.far o6 hgg
    go_wp2_with fail
    refine (fits_not H2 (by omega) (by omega) (by omega) (by omega)).mono ?_
    rintro e w' ⟨rfl, rfl⟩
    go_wp2_with fail
    refine (take_no H2 (by omega) (by omega) (by omega) (by omega) (by omega)).mono ?_
    rintro e w8 ⟨rfl, H2, o8⟩
    have H1 := H1.far o8 hgg.symm
    go_wp2_with fail
    refine (most_some _ _ _ _ H1).mono ?_
    rintro e w' ⟨rfl, rfl⟩
    go_wp2_with fail
    go_ret
    exact ⟨rfl, (B5.trans (o6.below (by omega))).trans (o8.below (by omega))⟩
theorem parts_ok (a b m n : Int) (w : World) (ha : 0 ≤ a) (ha' : a ≤ 255) (hb : 0 ≤ b) (hb' : b ≤ 255) :
    Calls Try.prog 5 #[.int .u8 a, .int .u8 b, .int .i64 m, .int .i64 n] w fun e w' => e = .returned (.bool true) ∧ Below w.heap.size w w' := by
  by_cases h : m < 0 ∨ n < 0 ∨ m > 1073741824 ∨ n > 1073741824
  · exact parts_out a b m n w h
  · exact parts_in a b m n w ha ha' hb hb' (by omega) (by omega) (by omega) (by omega)
end Go.Proofs.Ytcflobbgnicncaa.L
