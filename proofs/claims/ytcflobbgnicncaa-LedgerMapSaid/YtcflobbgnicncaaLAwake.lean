/- The walk of ledger's 'awake': it answers true. -/
import Derived.Test.YtcflobbgnicncaaLWalks
namespace Go.Proofs.Ytcflobbgnicncaa.L
open Go.RowKit Go.Proofs.Ytcflobbgnicncaa.PLedgerPlays
set_option linter.unusedVariables false
set_option linter.unusedSimpArgs false
theorem live_at {g : Nat} {m l : Int} {w : World} (h : IsLed w g m l) (r : Int) (hr : l = r) : Calls Try.prog 17 #[.pointer (some ⟨g, 0, none⟩)] w fun e w' => e = .returned (.int .i64 r) ∧ w = w' := by subst hr; exact live_some _ _ _ _ h
theorem room_at {g : Nat} {m l : Int} {w : World} (h : IsLed w g m l) (h0 : 0 ≤ l) (h1 : l ≤ m) (h2 : m ≤ 100000) (r : Int) (hr : m - l = r) : Calls Try.prog 19 #[.pointer (some ⟨g, 0, none⟩)] w fun e w' => e = .returned (.int .i64 r) ∧ w = w' := by subst hr; exact room_some _ _ _ _ h h0 h1 h2
theorem fits_at {g : Nat} {m l n : Int} {w : World} (h : IsLed w g m l) (h0 : 0 ≤ l) (h1 : l ≤ m) (h2 : m ≤ 100000) (r : Bool) (hr : (decide (0 ≤ n) && decide (n ≤ m - l)) = r) :
    Calls Try.prog 20 #[.pointer (some ⟨g, 0, none⟩), .int .i64 n] w fun e w' => e = .returned (.bool r) ∧ w = w' := by subst hr; exact fits_some _ _ _ _ _ h h0 h1 h2
theorem take_at {g : Nat} {m l n : Int} {w : World} (h : IsLed w g m l) (h0 : 0 ≤ l) (h1 : l ≤ m) (h2 : m ≤ 100000) (r l' : Int) (hr : takeE m l n = r) (hl : takeL m l n = l') :
    Calls Try.prog 16 #[.pointer (some ⟨g, 0, none⟩), .int .i64 n] w fun e w' => e = .returned (.int .i64 r) ∧ IsLed w' g m l' ∧ Only g w w' := by subst hr; subst hl; exact take_some _ _ _ _ _ h h0 h1 h2
theorem give_at {g : Nat} {m l n : Int} {w : World} (h : IsLed w g m l) (h0 : 0 ≤ l) (h1 : l ≤ m) (h2 : m ≤ 100000) (r l' : Int) (hr : giveE l n = r) (hl : giveL l n = l') :
    Calls Try.prog 15 #[.pointer (some ⟨g, 0, none⟩), .int .i64 n] w fun e w' => e = .returned (.int .i64 r) ∧ IsLed w' g m l' ∧ Only g w w' := by subst hr; subst hl; exact give_some _ _ _ _ _ h h0 h1 h2
theorem new_at (a b : Int) (w : World) (m : Int) (hm : mostOf a b = m) : Calls Try.prog 12 #[.agg #[.int .i64 a, .int .i64 b]] w fun e w' => ∃ g, e = .returned (.pointer (some ⟨g, 0, none⟩)) ∧ w.heap.size ≤ g ∧ IsLed w' g m 0 ∧ Below w.heap.size w w' := by subst hm; exact new_any a b w
set_option maxHeartbeats 800000 in
theorem awake_ok (w : World) : Calls Try.prog 11 #[] w fun e w' => e = .returned (.bool true) ∧ Below w.heap.size w w' := by
  go_enter Try.func11, Try.ntmps11
  go_wp2_with fail
  refine (new_at 4 3 _ 6 (by decide)).mono ?_
  rintro e w1 ⟨g, rfl, hg, H, hb1⟩
  go_wp2_with fail
  refine (most_some _ _ _ _ H).mono ?_
  rintro e w' ⟨rfl, rfl⟩
  go_wp2_with fail
  refine (take_at H (by omega) (by omega) (by omega) 0 4 (by decide) (by decide)).mono ?_
  rintro e w2 ⟨rfl, H2, o2⟩
  go_wp2_with fail
  refine (room_at H2 (by omega) (by omega) (by omega) 2 (by decide)).mono ?_
  rintro e w' ⟨rfl, rfl⟩
  go_wp2_with fail
  refine (take_at H2 (by omega) (by omega) (by omega) 6 4 (by decide) (by decide)).mono ?_
  rintro e w3 ⟨rfl, H3, o3⟩
  go_wp2_with fail
  refine (give_at H3 (by omega) (by omega) (by omega) 2 4 (by decide) (by decide)).mono ?_
  rintro e w4 ⟨rfl, H4, o4⟩
  go_wp2_with fail
  refine (live_at H4 4 rfl).mono ?_
  rintro e w' ⟨rfl, rfl⟩
  go_wp2_with fail
  refine (fits_at H4 (by omega) (by omega) (by omega) true (by decide)).mono ?_
  rintro e w' ⟨rfl, rfl⟩
  go_wp2_with fail
  refine (fits_at H4 (by omega) (by omega) (by omega) false (by decide)).mono ?_
  rintro e w' ⟨rfl, rfl⟩
  go_wp2_with fail
  go_ret
  exact ⟨rfl, ((hb1.trans (o2.below hg)).trans (o3.below hg)).trans (o4.below hg)⟩
end Go.Proofs.Ytcflobbgnicncaa.L
