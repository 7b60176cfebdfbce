/- The walk of LedgerNone: it answers true, whatever the number. -/
import Derived.Test.YtcflobbgnicncaaLShape
namespace Go.Proofs.Ytcflobbgnicncaa.L
open Go.RowKit
set_option linter.unusedVariables false
set_option linter.unusedSimpArgs false
theorem give_neg {g : Nat} {m l n : Int} {w : World} (h : IsLed w g m l) (h0 : 0 ≤ l) (h1 : l ≤ m) (h2 : m ≤ 100000) (c : n < 0) :
    Calls Try.prog 16 #[.pointer (some ⟨g, 0, none⟩), .int .i64 n] w fun e w' => e = .returned (.int .i64 1) ∧ IsLed w' g m l ∧ Only g w w' :=
  take_at h h0 h1 h2 1 l (by unfold takeE; rw [if_pos c]) (by unfold takeL; rw [if_pos c])
set_option maxHeartbeats 1600000 in
theorem none_ok (n : Int) (w : World) : Calls Try.prog 7 #[.int .i64 n] w fun e w' => e = .returned (.bool true) ∧ Below w.heap.size w w' := by
  have cases3 : n < 0 ∨ n = 0 ∨ n > 0 := by omega
  rcases cases3 with c | c | c
  · have d : (n == 0) = false := by simp; omega
    go_enter Try.func7, Try.ntmps7
    go_wp2_with fail
    refine (awake_ok _).mono ?_
    rintro e w1 ⟨rfl, hb1⟩
    go_wp2_with fail
    refine (take_none _ _).mono ?_
    rintro e w' ⟨rfl, rfl⟩
    go_wp2_with fail
    refine (give_none _ _).mono ?_
    rintro e w' ⟨rfl, rfl⟩
    go_wp2_with fail
    refine (live_none _).mono ?_
    rintro e w' ⟨rfl, rfl⟩
    go_wp2_with fail
    refine (most_none _).mono ?_
    rintro e w' ⟨rfl, rfl⟩
    go_wp2_with fail
    refine (room_none _).mono ?_
    rintro e w' ⟨rfl, rfl⟩
    go_wp2_with fail
    refine (fits_none _ _).mono ?_
    rintro e w' ⟨rfl, rfl⟩
    go_wp2_with fail
    have Z : IsLed (w1.alloc (.cells #[.int .i64 0, .int .i64 0] 43)) w1.heap.size 0 0 := heap_alloc_new _ _
    have hB := hb1.alloc hb1.size (.cells #[.int .i64 0, .int .i64 0] 43)
    generalize w1.alloc (.cells #[.int .i64 0, .int .i64 0] 43) = w2 at *
    refine (give_neg Z (by omega) (by omega) (by omega) c).mono ?_
    rintro e w3 ⟨rfl, Z3, o3⟩
    go_wp2_with fail
    refine (fits_not Z3 (by omega) (by omega) (by omega) (by omega)).mono ?_
    rintro e w' ⟨rfl, rfl⟩
    go_wp2_with fail
    refine (most_some _ _ _ _ Z3).mono ?_
    rintro e w' ⟨rfl, rfl⟩
    go_wp2_with fail
    refine (live_at Z3 0 (by omega)).mono ?_
    rintro e w' ⟨rfl, rfl⟩
    go_wp2_with fail
    go_ret
    exact ⟨rfl, hB.trans (o3.below hb1.size)⟩
  · subst c
    go_enter Try.func7, Try.ntmps7
    go_wp2_with fail
    refine (awake_ok _).mono ?_
    rintro e w1 ⟨rfl, hb1⟩
    go_wp2_with fail
    refine (take_none _ _).mono ?_
    rintro e w' ⟨rfl, rfl⟩
    go_wp2_with fail
    refine (give_none _ _).mono ?_
    rintro e w' ⟨rfl, rfl⟩
    go_wp2_with fail
    refine (live_none _).mono ?_
    rintro e w' ⟨rfl, rfl⟩
    go_wp2_with fail
    refine (most_none _).mono ?_
    rintro e w' ⟨rfl, rfl⟩
    go_wp2_with fail
    refine (room_none _).mono ?_
    rintro e w' ⟨rfl, rfl⟩
    go_wp2_with fail
    refine (fits_none _ _).mono ?_
    rintro e w' ⟨rfl, rfl⟩
    go_wp2_with fail
    have Z : IsLed (w1.alloc (.cells #[.int .i64 0, .int .i64 0] 43)) w1.heap.size 0 0 := heap_alloc_new _ _
    have hB := hb1.alloc hb1.size (.cells #[.int .i64 0, .int .i64 0] 43)
    generalize w1.alloc (.cells #[.int .i64 0, .int .i64 0] 43) = w2 at *
    refine (take_yes Z (by omega) (by omega) (by omega) (by omega) (by omega)).mono ?_
    rintro e w3 ⟨rfl, Z3, o3⟩
    go_wp2_with fail
    refine (fits_yes Z3 (by omega) (by omega) (by omega) (by omega)).mono ?_
    rintro e w' ⟨rfl, rfl⟩
    go_wp2_with fail
    refine (most_some _ _ _ _ Z3).mono ?_
    rintro e w' ⟨rfl, rfl⟩
    go_wp2_with fail
    refine (live_at Z3 0 (by omega)).mono ?_
    rintro e w' ⟨rfl, rfl⟩
    go_wp2_with fail
    go_ret
    exact ⟨rfl, hB.trans (o3.below hb1.size)⟩
  · have d : (n == 0) = false := by simp; omega
    go_enter Try.func7, Try.ntmps7
    go_wp2_with fail
    refine (awake_ok _).mono ?_
    rintro e w1 ⟨rfl, hb1⟩
    go_wp2_with fail
    refine (take_none _ _).mono ?_
    rintro e w' ⟨rfl, rfl⟩
    go_wp2_with fail
    refine (give_none _ _).mono ?_
    rintro e w' ⟨rfl, rfl⟩
    go_wp2_with fail
    refine (live_none _).mono ?_
    rintro e w' ⟨rfl, rfl⟩
    go_wp2_with fail
    refine (most_none _).mono ?_
    rintro e w' ⟨rfl, rfl⟩
    go_wp2_with fail
    refine (room_none _).mono ?_
    rintro e w' ⟨rfl, rfl⟩
    go_wp2_with fail
    refine (fits_none _ _).mono ?_
    rintro e w' ⟨rfl, rfl⟩
    go_wp2_with fail
    have Z : IsLed (w1.alloc (.cells #[.int .i64 0, .int .i64 0] 43)) w1.heap.size 0 0 := heap_alloc_new _ _
    have hB := hb1.alloc hb1.size (.cells #[.int .i64 0, .int .i64 0] 43)
    generalize w1.alloc (.cells #[.int .i64 0, .int .i64 0] 43) = w2 at *
    refine (take_no Z (by omega) (by omega) (by omega) (by omega) (by omega)).mono ?_
    rintro e w3 ⟨rfl, Z3, o3⟩
    go_wp2_with fail
    refine (fits_not Z3 (by omega) (by omega) (by omega) (by omega)).mono ?_
    rintro e w' ⟨rfl, rfl⟩
    go_wp2_with fail
    refine (most_some _ _ _ _ Z3).mono ?_
    rintro e w' ⟨rfl, rfl⟩
    go_wp2_with fail
    refine (live_at Z3 0 (by omega)).mono ?_
    rintro e w' ⟨rfl, rfl⟩
    go_wp2_with fail
    go_ret
    exact ⟨rfl, hB.trans (o3.below hb1.size)⟩
end Go.Proofs.Ytcflobbgnicncaa.L
