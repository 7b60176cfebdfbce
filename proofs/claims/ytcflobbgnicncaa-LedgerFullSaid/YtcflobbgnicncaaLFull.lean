/- The walk of LedgerFull: it answers true, whatever the two bytes. -/
import Derived.Test.YtcflobbgnicncaaLShape
import Derived.IntWalk
namespace Go.Proofs.Ytcflobbgnicncaa.L
open Go.RowKit
set_option linter.unusedVariables false
set_option linter.unusedSimpArgs false
/-- The loop's head: n cells were taken. -/
def FullRel (B g : Nat) (M : Int) (w : World) (i : Value) (wr : World) : Prop := ∃ k : Nat, i = .int .i64 k ∧ (k : Int) ≤ M ∧ IsLed wr g M k ∧ Below B w wr
set_option maxHeartbeats 3200000 in
theorem full_at (a b M : Int) (w : World) (ha : 0 ≤ a) (ha' : a ≤ 255) (hb : 0 ≤ b) (hb' : b ≤ 255) (hM0 : 1 ≤ M) (hM1 : M ≤ 320) (hMe : Hid (mostAt a b = M)) :
    Calls Try.prog 6 #[.int .u8 a, .int .u8 b] w fun e w' => e = .returned (.bool true) ∧ Below w.heap.size w w' := by
  have f0 : ∀ (x y : Int) (w : World), (Instr.field 23 (.agg #[.int .i64 x, .int .i64 y]) 0).run Try.prog w = .ok (.int .i64 x) w := fun _ _ _ => rfl
  have f1 : ∀ (x y : Int) (w : World), (Instr.field 23 (.agg #[.int .i64 x, .int .i64 y]) 1).run Try.prog w = .ok (.int .i64 y) w := fun _ _ _ => rfl
  have g1 : 3 ≤ segsOf a := by unfold segsOf; omega
  have g2 : segsOf a ≤ 22 := by unfold segsOf; omega
  have g3 : 1 ≤ sizeOf' b := by unfold sizeOf'; omega
  have g4 : sizeOf' b ≤ 16 := by unfold sizeOf'; omega
  have hmul : Hid (IntKind.i64.wrap ((segsOf a - 2) * sizeOf' b) = M) := by
    have e := (mostAt_eq a b).symm.trans hMe.out
    show IntKind.i64.wrap ((segsOf a - 2) * sizeOf' b) = M
    rw [e]; exact IntWalk.i64_in _ (by omega)
  go_enter Try.func6, Try.ntmps6
  go_wp2_with fail
  refine (awake_ok _).mono ?_
  rintro e w1 ⟨rfl, hb1⟩
  go_wp2_with fail
  refine (shape_any a b _ ha ha' hb hb').mono ?_
  rintro e w2 ⟨rfl, hb2⟩
  go_wp2_with fail
  refine (new_shape a b _).mono ?_
  rintro e w3 ⟨g, rfl, hg, H1, hb3⟩
  have s1 := hb1.size
  have s2 := hb2.size
  have s3 := hb3.size
  have hgw : w.heap.size ≤ g := by omega
  have B3 : Below w.heap.size w w3 := (hb1.trans (hb2.mono (by omega))).trans (hb3.mono (by omega))
  clear hb1 hb2 hb3 s1 s2 s3 hg
  rw [hMe.out] at H1
  go_wp2_with fail
  go_loopw [6] (fun i wr => FullRel w.heap.size g M w i wr) (fun i _ => (M - intOf i).toNat)
  case atStart => exact ⟨0, rfl, by omega, H1, B3⟩
  case round =>
    obtain ⟨k, rfl, hk, H, hB⟩ := hrel
    by_cases c : (k : Int) < M
    · go_wp2_with fail
      refine (take_yes H (by omega) (by omega) (by omega) (by omega) (by omega)).mono ?_
      rintro e w4 ⟨rfl, H4, o4⟩
      go_wp2_with fail
      refine (live_at H4 (k + 1) (by omega)).mono ?_
      rintro e w' ⟨rfl, rfl⟩
      go_wp2_with fail
      refine (live_at H4 (k + 1) (by omega)).mono ?_
      rintro e w' ⟨rfl, rfl⟩
      go_wp2_with fail
      refine (room_at H4 (by omega) (by omega) (by omega) (M - (k + 1)) (by omega)).mono ?_
      rintro e w' ⟨rfl, rfl⟩
      go_wp2_with fail
      refine (most_some _ _ _ _ H4).mono ?_
      rintro e w' ⟨rfl, rfl⟩
      go_wp2_with fail
      go_roundw
      case rel => exact ⟨k + 1, by go_num, by omega, H4, hB.trans (o4.below hgw)⟩
      case measure => simp [intOf]; omega
    · obtain rfl : M = (k : Int) := by omega
      go_wp2_with fail
      refine (take_no H (by omega) (by omega) (by omega) (by omega) (by omega)).mono ?_
      rintro e w4 ⟨rfl, H4, o4⟩
      go_wp2_with fail
      refine (most_some _ _ _ _ H4).mono ?_
      rintro e w' ⟨rfl, rfl⟩
      go_wp2_with fail
      refine (room_at H4 (by omega) (by omega) (by omega) 0 (by omega)).mono ?_
      rintro e w' ⟨rfl, rfl⟩
      go_wp2_with fail
      refine (fits_not H4 (by omega) (by omega) (by omega) (by omega)).mono ?_
      rintro e w' ⟨rfl, rfl⟩
      go_wp2_with fail
      refine (fits_yes H4 (by omega) (by omega) (by omega) (by omega)).mono ?_
      rintro e w' ⟨rfl, rfl⟩
      go_wp2_with fail
      refine (take_yes H4 (by omega) (by omega) (by omega) (by omega) (by omega)).mono ?_
      rintro e w5 ⟨rfl, H5, o5⟩
      go_wp2_with fail
      refine (shape_any a b _ ha ha' hb hb').mono ?_
      rintro e w6 ⟨rfl, hb6⟩
      go_wp2_with fail
      refine (shape_any a b _ ha ha' hb hb').mono ?_
      rintro e w7 ⟨rfl, hb7⟩
      have hB4 := hB.trans (o4.below hgw)
      have hB5 := hB4.trans (o5.below hgw)
      have hB6 := hB5.trans (hb6.mono hB5.size)
      have hB7 := hB6.trans (hb7.mono hB6.size)
      have hm := hmul.out
      clear hmul hB4 hB5 hB6 hb6 hb7
      go_wp2_with fail
      go_ret
      exact ⟨rfl, hB7⟩
theorem full_ok (a b : Int) (w : World) (ha : 0 ≤ a) (ha' : a ≤ 255) (hb : 0 ≤ b) (hb' : b ≤ 255) :
    Calls Try.prog 6 #[.int .u8 a, .int .u8 b] w fun e w' => e = .returned (.bool true) ∧ Below w.heap.size w w' :=
  full_at a b (mostAt a b) w ha ha' hb hb' (mostAt_bd a b).1 (by have := (mostAt_bd a b).2; omega) rfl
end Go.Proofs.Ytcflobbgnicncaa.L
