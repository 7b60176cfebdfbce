/- The walk of LedgerTwo: it answers true, whatever the four bytes. -/
import Derived.Test.YtcflobbgnicncaaLShape
namespace Go.Proofs.Ytcflobbgnicncaa.L
open Go.RowKit
set_option linter.unusedVariables false
set_option linter.unusedSimpArgs false
set_option maxHeartbeats 1600000 in
theorem two_ok (a b m n : Int) (w : World) (ha : 0 ≤ a) (ha' : a ≤ 255) (hb : 0 ≤ b) (hb' : b ≤ 255) (hm : 0 ≤ m) (hm' : m ≤ 255) (hn : 0 ≤ n) (hn' : n ≤ 255) :
    Calls Try.prog 8 #[.int .u8 a, .int .u8 b, .int .u8 m, .int .u8 n] w fun e w' => e = .returned (.bool true) ∧ Below w.heap.size w w' := by
  have hM := mostAt_bd a b
  by_cases c1 : m ≤ mostAt a b <;> by_cases c2 : n ≤ mostAt a b
  all_goals
    first | have d1 := decide_eq_true c1 | have d1 := decide_eq_false c1
    first | have d2 := decide_eq_true c2 | have d2 := decide_eq_false c2
    go_enter Try.func8, Try.ntmps8
    go_wp2_with fail
    refine (awake_ok _).mono ?_
    rintro e w1 ⟨rfl, hb1⟩
    go_wp2_with fail
    refine (shape_any a b _ ha ha' hb hb').mono ?_
    rintro e w2 ⟨rfl, hb2⟩
    go_wp2_with fail
    refine (new_shape a b _).mono ?_
    rintro e w3 ⟨g, rfl, hg, H1, hb3⟩
    go_wp2_with fail
    refine (shape_any a b _ ha ha' hb hb').mono ?_
    rintro e w4 ⟨rfl, hb4⟩
    go_wp2_with fail
    refine (new_shape a b _).mono ?_
    rintro e w5 ⟨g', rfl, hg', H2, hb5⟩
    have hlt := H1.lt
    have hne : g < w4.heap.size := Nat.lt_of_lt_of_le hlt hb4.size
    have H1 := (H1.below hb4 hlt).below hb5 hne
    go_wp2_with fail
    first
      | refine (take_yes H1 (by omega) (by omega) (by omega) (by omega) (by omega)).mono ?_
      | refine (take_no H1 (by omega) (by omega) (by omega) (by omega) (by omega)).mono ?_
    rintro e w6 ⟨rfl, H3, o6⟩
    have hgg : g' ≠ g := by omega
    have H2 := H2.far o6 hgg
    go_wp2_with fail
    first
      | refine (take_yes H2 (by omega) (by omega) (by omega) (by omega) (by omega)).mono ?_
      | refine (take_no H2 (by omega) (by omega) (by omega) (by omega) (by omega)).mono ?_
    rintro e w7 ⟨rfl, H4, o7⟩
    have H3 := H3.far o7 hgg.symm
    go_wp2_with fail
    refine (most_some _ _ _ _ H3).mono ?_
    rintro e w' ⟨rfl, rfl⟩
    go_wp2_with fail
    refine (most_some _ _ _ _ H4).mono ?_
    rintro e w' ⟨rfl, rfl⟩
    go_wp2_with (first | (go_at_call 17; first | (refine (live_some _ _ _ _ H3).mono ?_; rintro e w' ⟨rfl, rfl⟩) | (refine (live_some _ _ _ _ H4).mono ?_; rintro e w' ⟨rfl, rfl⟩)))
    go_ret
    refine ⟨by first | rfl | (simp; omega), ?_⟩
    exact (((((hb1.trans (hb2.mono hb1.size)).trans (hb3.mono (by have := hb1.size; have := hb2.size; omega))).trans (hb4.mono (by have := hb1.size; have := hb2.size; have := hb3.size; omega))).trans (hb5.mono (by have := hb1.size; have := hb2.size; have := hb3.size; have := hb4.size; omega))).trans (o6.below (by have := hb1.size; have := hb2.size; omega))).trans (o7.below (by have := hb1.size; have := hb2.size; have := hb3.size; have := hb4.size; omega))
end Go.Proofs.Ytcflobbgnicncaa.L
