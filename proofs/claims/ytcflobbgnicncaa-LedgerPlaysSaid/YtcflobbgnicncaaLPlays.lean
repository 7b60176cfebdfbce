/- The walk of LedgerPlays: it answers true, whatever the shape, the acts and the number asked for. -/
import Derived.Test.YtcflobbgnicncaaLActs
namespace Go.Proofs.Ytcflobbgnicncaa.L
open Go.RowKit Go.Proofs.Ytcflobbgnicncaa.PLedgerPlays
set_option linter.unusedVariables false
set_option linter.unusedSimpArgs false
def PlayRel (B g : Nat) (M : Int) (l : List (Bool × Int)) (w : World) (live i : Value) (wr : World) : Prop :=
  ∃ k : Nat, k ≤ l.length + 1 ∧ i = .int .i64 ((k : Int) - 1) ∧ live = .int .i64 (run M 0 (l.take (k - 1))) ∧ IsLed wr g M (run M 0 (l.take (k - 1))) ∧ Below B w wr
def PlayRel0 (B g : Nat) (l : List (Bool × Int)) (w : World) (live i : Value) (wr : World) : Prop :=
  ∃ k : Nat, k ≤ l.length + 1 ∧ i = .int .i64 ((k : Int) - 1) ∧ live = .int .i64 0 ∧ IsLed wr g 0 0 ∧ Below B w wr
set_option maxHeartbeats 6400000 in
set_option maxRecDepth 100000 in
theorem plays_at (a b M ask : Int) (A : Option Addr) (cap : Nat) (l : List (Bool × Int)) (w : World) (hM0 : 0 ≤ M) (hM1 : M ≤ 2048) (hMe : Hid (mostOf a b = M))
    (hl : l.length ≤ 100) (hA : Hid (ActsAt w w.heap.size A l)) :
    Calls Try.prog 3 #[.agg #[.int .i64 a, .int .i64 b], .slice A l.length cap, .int .i64 ask] w fun e w' => e = .returned (.bool true) ∧ Below w.heap.size w w' := by
  have hall : Hid ((segment_Check.f a b = some 0 ∧ segment_Shape_Most.f a b = some M) ∨ (segment_Check.f a b = some 2 ∧ M = 0)) := by
    have e := hMe.out
    by_cases c : okS a b
    · exact .inl ⟨check_yes c, (most_yes c).trans (congrArg some e)⟩
    · exact .inr ⟨check_no c, by rw [← e]; exact if_neg c⟩
  rcases hall.out with hy | hy
  all_goals
    have HY := Lib.hid hy
    clear hy hall
    go_enter Try.func3, Try.ntmps3
    go_wp2_with fail
    refine (awake_ok _).mono ?_
    rintro e w1 ⟨rfl, hb1⟩
    obtain ⟨hc1, hf1⟩ := bcell hb1
    have z1 : w.heap.size < w1.heap.size := by have := hb1.size; simp at this; omega
    go_wp2_with fail
    refine (new_at _ _ _ M hMe.out).mono ?_
    rintro e w2 ⟨g, rfl, hg, H1, hb2⟩
    obtain ⟨hc2, hf2⟩ := bcell hb2
    have z2 : w.heap.size < w2.heap.size := by have := hb2.size; omega
    go_wp2_with fail
  · refine (segment_Check.calls a b 0 _ HY.out.1).mono ?_
    rintro e w3 ⟨rfl, hb3⟩
    obtain ⟨hc3, hf3⟩ := bcell hb3
    have z3 : w.heap.size < w3.heap.size := by have := hb3.size; omega
    go_wp2_with fail
    refine (segment_Shape_Most.calls a b M _ HY.out.2).mono ?_
    rintro e w4 ⟨rfl, hb4⟩
    have s1 := hb1.size
    have s2 := hb2.size
    have s3 := hb3.size
    have s4 := hb4.size
    simp at s1
    have H4 := (H1.below hb3 H1.lt).below hb4 (by have := H1.lt; omega)
    have B4 : Below w.heap.size w w4 := (((((Below.refl _ _).alloc (Nat.le_refl _) _).trans (hb1.mono (by simp))).trans (hb2.mono (by omega))).trans (hb3.mono (by omega))).trans (hb4.mono (by omega))
    have hgw : w.heap.size ≤ g := by omega
    clear hc1 hf1 hc2 hf2 hc3 hf3 hb1 hb2 hb3 hb4 s1 s2 s3 s4 H1 hg
    go_wp2_with fail
    go_loopw [9, 10] (fun live i wr => PlayRel w.heap.size g M l w live i wr) (fun _ i _ => (l.length - intOf i).toNat)
    case atStart => exact ⟨0, by omega, rfl, rfl, H4, B4⟩
    case round =>
      obtain ⟨k, hk, rfl, rfl, H5, B5⟩ := hrel
      by_cases c : k < l.length + 1
      · rcases Nat.eq_zero_or_pos k with rfl | hk0
        · rw [show (((0 : Nat) : Int) - 1) = -1 by omega]
          simp only [Nat.zero_sub, List.take_zero, run] at H5 ⊢
          have cq : ask < 0 ∨ (0 ≤ ask ∧ ask ≤ M) ∨ (0 ≤ ask ∧ ¬ ask ≤ M) := by omega
          rcases cq with q | ⟨q, q2⟩ | ⟨q, q2⟩
          all_goals
            first | have dq := decide_eq_true q2 | have dq := decide_eq_false q2 | have dq := trivial
            go_wp2_with fail
            refine (live_at H5 (0) (by omega)).mono ?_
            rintro e w' ⟨rfl, rfl⟩
            go_wp2_with fail
            refine (most_some _ _ _ _ H5).mono ?_
            rintro e w' ⟨rfl, rfl⟩
            go_wp2_with fail
            refine (room_at H5 (by omega) (by omega) (by omega) (M) (by omega)).mono ?_
            rintro e w' ⟨rfl, rfl⟩
            go_wp2_with fail
            first | refine (fits_yes H5 (by omega) (by omega) (by omega) (by omega)).mono ?_ | refine (fits_not H5 (by omega) (by omega) (by omega) (by omega)).mono ?_
            rintro e w' ⟨rfl, rfl⟩
            go_wp2_with fail
            go_roundw
            case rel => exact ⟨1, by omega, by go_num, rfl, H5, B5⟩
            case measure => first | (simp [intOf]; done) | (simp [intOf]; omega)
        · obtain ⟨j, rfl⟩ : ∃ j, k = j + 1 := ⟨k - 1, by omega⟩
          have cj : j < l.length := by omega
          rw [show (((j + 1 : Nat) : Int) - 1) = (j : Int) by omega]
          simp only [Nat.add_sub_cancel] at H5 ⊢
          have hR := run_bd M (l.take j) 0 (by omega) (by omega)
          obtain ⟨bb, off, rfl, hbl, hc⟩ := (hA.out.below B5) (by omega)
          obtain ⟨hk1, hk2⟩ := hc j cj
          have E := Lib.hid (show l.take (j + 1) = l.take j ++ [l[j]] from List.take_succ_eq_append_getElem cj)
          have E2 := Lib.hid (run_snoc M (l.take j) 0 l[j])
          have E3 := Lib.hid (show stp M (run M 0 (l.take j)) l[j] = if l[j].1 then giveL (run M 0 (l.take j)) l[j].2 else takeL M (run M 0 (l.take j)) l[j].2 from rfl)
          clear hc c hk
          generalize l[j].2 = n at *
          generalize run M 0 (l.take j) = L at *
          cases ho : l[j].1
          · rw [ho] at hk1 E3
            clear ho
            simp only [Bool.false_eq_true, if_false] at E3
            have cs : n < 0 ∨ (0 ≤ n ∧ ¬ n ≤ M - L) ∨ (0 ≤ n ∧ n ≤ M - L) := by omega
            rcases cs with c1 | ⟨c0, c1⟩ | ⟨c0, c1⟩
            · have E4 : Hid (run M 0 (l.take (j + 1)) = L) := by
                show run M 0 (l.take (j + 1)) = L
                rw [E.out, E2.out, E3]; unfold takeL; rw [if_pos c1]
              clear E E2 E3
              go_wp2_with fail
              refine (take_at H5 (by omega) (by omega) (by omega) 1 L (by unfold takeE; rw [if_pos c1]) (by unfold takeL; rw [if_pos c1])).mono ?_
              rintro e w6 ⟨rfl, H7, o7⟩
              have cq : ask < 0 ∨ (0 ≤ ask ∧ ask ≤ M - (L)) ∨ (0 ≤ ask ∧ ¬ ask ≤ M - (L)) := by omega
              rcases cq with q | ⟨q, q2⟩ | ⟨q, q2⟩
              all_goals
                first | have dq := decide_eq_true q2 | have dq := decide_eq_false q2 | have dq := trivial
                go_wp2_with fail
                refine (live_at H7 (L) (by omega)).mono ?_
                rintro e w' ⟨rfl, rfl⟩
                go_wp2_with fail
                refine (most_some _ _ _ _ H7).mono ?_
                rintro e w' ⟨rfl, rfl⟩
                go_wp2_with fail
                refine (room_at H7 (by omega) (by omega) (by omega) (M - (L)) (by omega)).mono ?_
                rintro e w' ⟨rfl, rfl⟩
                go_wp2_with fail
                first | refine (fits_yes H7 (by omega) (by omega) (by omega) (by omega)).mono ?_ | refine (fits_not H7 (by omega) (by omega) (by omega) (by omega)).mono ?_
                rintro e w' ⟨rfl, rfl⟩
                go_wp2_with fail
                go_roundw
                case rel => exact ⟨j + 2, by omega, by go_num, by rw [show j + 2 - 1 = j + 1 from rfl, E4.out], by rw [show j + 2 - 1 = j + 1 from rfl, E4.out]; exact H7, B5.trans (o7.below hgw)⟩
                case measure => first | (simp [intOf]; done) | (simp [intOf]; omega)
            · have E4 : Hid (run M 0 (l.take (j + 1)) = L) := by
                show run M 0 (l.take (j + 1)) = L
                rw [E.out, E2.out, E3]; unfold takeL; rw [if_neg (by omega), if_pos (by omega)]
              clear E E2 E3
              go_wp2_with fail
              refine (take_no H5 (by omega) (by omega) (by omega) (by omega) (by omega)).mono ?_
              rintro e w6 ⟨rfl, H7, o7⟩
              have cq : ask < 0 ∨ (0 ≤ ask ∧ ask ≤ M - (L)) ∨ (0 ≤ ask ∧ ¬ ask ≤ M - (L)) := by omega
              rcases cq with q | ⟨q, q2⟩ | ⟨q, q2⟩
              all_goals
                first | have dq := decide_eq_true q2 | have dq := decide_eq_false q2 | have dq := trivial
                go_wp2_with fail
                refine (live_at H7 (L) (by omega)).mono ?_
                rintro e w' ⟨rfl, rfl⟩
                go_wp2_with fail
                refine (most_some _ _ _ _ H7).mono ?_
                rintro e w' ⟨rfl, rfl⟩
                go_wp2_with fail
                refine (room_at H7 (by omega) (by omega) (by omega) (M - (L)) (by omega)).mono ?_
                rintro e w' ⟨rfl, rfl⟩
                go_wp2_with fail
                first | refine (fits_yes H7 (by omega) (by omega) (by omega) (by omega)).mono ?_ | refine (fits_not H7 (by omega) (by omega) (by omega) (by omega)).mono ?_
                rintro e w' ⟨rfl, rfl⟩
                go_wp2_with fail
                go_roundw
                case rel => exact ⟨j + 2, by omega, by go_num, by rw [show j + 2 - 1 = j + 1 from rfl, E4.out], by rw [show j + 2 - 1 = j + 1 from rfl, E4.out]; exact H7, B5.trans (o7.below hgw)⟩
                case measure => first | (simp [intOf]; done) | (simp [intOf]; omega)
            · have E4 : Hid (run M 0 (l.take (j + 1)) = L + n) := by
                show run M 0 (l.take (j + 1)) = L + n
                rw [E.out, E2.out, E3]; unfold takeL; rw [if_neg (by omega), if_neg (by omega)]
              clear E E2 E3
              go_wp2_with fail
              refine (take_yes H5 (by omega) (by omega) (by omega) (by omega) (by omega)).mono ?_
              rintro e w6 ⟨rfl, H7, o7⟩
              have cq : ask < 0 ∨ (0 ≤ ask ∧ ask ≤ M - (L + n)) ∨ (0 ≤ ask ∧ ¬ ask ≤ M - (L + n)) := by omega
              rcases cq with q | ⟨q, q2⟩ | ⟨q, q2⟩
              all_goals
                first | have dq := decide_eq_true q2 | have dq := decide_eq_false q2 | have dq := trivial
                go_wp2_with fail
                refine (live_at H7 (L + n) (by omega)).mono ?_
                rintro e w' ⟨rfl, rfl⟩
                go_wp2_with fail
                refine (most_some _ _ _ _ H7).mono ?_
                rintro e w' ⟨rfl, rfl⟩
                go_wp2_with fail
                refine (room_at H7 (by omega) (by omega) (by omega) (M - (L + n)) (by omega)).mono ?_
                rintro e w' ⟨rfl, rfl⟩
                go_wp2_with fail
                first | refine (fits_yes H7 (by omega) (by omega) (by omega) (by omega)).mono ?_ | refine (fits_not H7 (by omega) (by omega) (by omega) (by omega)).mono ?_
                rintro e w' ⟨rfl, rfl⟩
                go_wp2_with fail
                go_roundw
                case rel => exact ⟨j + 2, by omega, by go_num, by rw [show j + 2 - 1 = j + 1 from rfl, E4.out], by rw [show j + 2 - 1 = j + 1 from rfl, E4.out]; exact H7, B5.trans (o7.below hgw)⟩
                case measure => first | (simp [intOf]; done) | (simp [intOf]; omega)
          · rw [ho] at hk1 E3
            clear ho
            simp only [if_true] at E3
            have cs : n < 0 ∨ (0 ≤ n ∧ ¬ n ≤ L) ∨ (0 ≤ n ∧ n ≤ L) := by omega
            rcases cs with c1 | ⟨c0, c1⟩ | ⟨c0, c1⟩
            · have E4 : Hid (run M 0 (l.take (j + 1)) = L) := by
                show run M 0 (l.take (j + 1)) = L
                rw [E.out, E2.out, E3]; unfold giveL; rw [if_pos c1]
              clear E E2 E3
              go_wp2_with fail
              refine (give_at H5 (by omega) (by omega) (by omega) 1 L (by unfold giveE; rw [if_pos c1]) (by unfold giveL; rw [if_pos c1])).mono ?_
              rintro e w6 ⟨rfl, H7, o7⟩
              have cq : ask < 0 ∨ (0 ≤ ask ∧ ask ≤ M - (L)) ∨ (0 ≤ ask ∧ ¬ ask ≤ M - (L)) := by omega
              rcases cq with q | ⟨q, q2⟩ | ⟨q, q2⟩
              all_goals
                first | have dq := decide_eq_true q2 | have dq := decide_eq_false q2 | have dq := trivial
                go_wp2_with fail
                refine (live_at H7 (L) (by omega)).mono ?_
                rintro e w' ⟨rfl, rfl⟩
                go_wp2_with fail
                refine (most_some _ _ _ _ H7).mono ?_
                rintro e w' ⟨rfl, rfl⟩
                go_wp2_with fail
                refine (room_at H7 (by omega) (by omega) (by omega) (M - (L)) (by omega)).mono ?_
                rintro e w' ⟨rfl, rfl⟩
                go_wp2_with fail
                first | refine (fits_yes H7 (by omega) (by omega) (by omega) (by omega)).mono ?_ | refine (fits_not H7 (by omega) (by omega) (by omega) (by omega)).mono ?_
                rintro e w' ⟨rfl, rfl⟩
                go_wp2_with fail
                go_roundw
                case rel => exact ⟨j + 2, by omega, by go_num, by rw [show j + 2 - 1 = j + 1 from rfl, E4.out], by rw [show j + 2 - 1 = j + 1 from rfl, E4.out]; exact H7, B5.trans (o7.below hgw)⟩
                case measure => first | (simp [intOf]; done) | (simp [intOf]; omega)
            · have E4 : Hid (run M 0 (l.take (j + 1)) = L) := by
                show run M 0 (l.take (j + 1)) = L
                rw [E.out, E2.out, E3]; unfold giveL; rw [if_neg (by omega), if_pos (by omega)]
              clear E E2 E3
              go_wp2_with fail
              refine (give_at H5 (by omega) (by omega) (by omega) 2 L (by unfold giveE; rw [if_neg (by omega), if_pos (by omega)]) (by unfold giveL; rw [if_neg (by omega), if_pos (by omega)])).mono ?_
              rintro e w6 ⟨rfl, H7, o7⟩
              have cq : ask < 0 ∨ (0 ≤ ask ∧ ask ≤ M - (L)) ∨ (0 ≤ ask ∧ ¬ ask ≤ M - (L)) := by omega
              rcases cq with q | ⟨q, q2⟩ | ⟨q, q2⟩
              all_goals
                first | have dq := decide_eq_true q2 | have dq := decide_eq_false q2 | have dq := trivial
                go_wp2_with fail
                refine (live_at H7 (L) (by omega)).mono ?_
                rintro e w' ⟨rfl, rfl⟩
                go_wp2_with fail
                refine (most_some _ _ _ _ H7).mono ?_
                rintro e w' ⟨rfl, rfl⟩
                go_wp2_with fail
                refine (room_at H7 (by omega) (by omega) (by omega) (M - (L)) (by omega)).mono ?_
                rintro e w' ⟨rfl, rfl⟩
                go_wp2_with fail
                first | refine (fits_yes H7 (by omega) (by omega) (by omega) (by omega)).mono ?_ | refine (fits_not H7 (by omega) (by omega) (by omega) (by omega)).mono ?_
                rintro e w' ⟨rfl, rfl⟩
                go_wp2_with fail
                go_roundw
                case rel => exact ⟨j + 2, by omega, by go_num, by rw [show j + 2 - 1 = j + 1 from rfl, E4.out], by rw [show j + 2 - 1 = j + 1 from rfl, E4.out]; exact H7, B5.trans (o7.below hgw)⟩
                case measure => first | (simp [intOf]; done) | (simp [intOf]; omega)
            · have E4 : Hid (run M 0 (l.take (j + 1)) = L - n) := by
                show run M 0 (l.take (j + 1)) = L - n
                rw [E.out, E2.out, E3]; unfold giveL; rw [if_neg (by omega), if_neg (by omega)]
              clear E E2 E3
              go_wp2_with fail
              refine (give_yes H5 (by omega) (by omega) (by omega) (by omega) (by omega)).mono ?_
              rintro e w6 ⟨rfl, H7, o7⟩
              have cq : ask < 0 ∨ (0 ≤ ask ∧ ask ≤ M - (L - n)) ∨ (0 ≤ ask ∧ ¬ ask ≤ M - (L - n)) := by omega
              rcases cq with q | ⟨q, q2⟩ | ⟨q, q2⟩
              all_goals
                first | have dq := decide_eq_true q2 | have dq := decide_eq_false q2 | have dq := trivial
                go_wp2_with fail
                refine (live_at H7 (L - n) (by omega)).mono ?_
                rintro e w' ⟨rfl, rfl⟩
                go_wp2_with fail
                refine (most_some _ _ _ _ H7).mono ?_
                rintro e w' ⟨rfl, rfl⟩
                go_wp2_with fail
                refine (room_at H7 (by omega) (by omega) (by omega) (M - (L - n)) (by omega)).mono ?_
                rintro e w' ⟨rfl, rfl⟩
                go_wp2_with fail
                first | refine (fits_yes H7 (by omega) (by omega) (by omega) (by omega)).mono ?_ | refine (fits_not H7 (by omega) (by omega) (by omega) (by omega)).mono ?_
                rintro e w' ⟨rfl, rfl⟩
                go_wp2_with fail
                go_roundw
                case rel => exact ⟨j + 2, by omega, by go_num, by rw [show j + 2 - 1 = j + 1 from rfl, E4.out], by rw [show j + 2 - 1 = j + 1 from rfl, E4.out]; exact H7, B5.trans (o7.below hgw)⟩
                case measure => first | (simp [intOf]; done) | (simp [intOf]; omega)
      · obtain rfl : k = l.length + 1 := by omega
        rw [show (((l.length + 1 : Nat) : Int) - 1) = (l.length : Int) by omega]
        go_wp2_with fail
        go_ret
        exact ⟨rfl, B5⟩
  · obtain rfl := HY.out.2
    refine (segment_Check.calls a b 2 _ HY.out.1).mono ?_
    rintro e w3 ⟨rfl, hb3⟩
    have s1 := hb1.size
    have s2 := hb2.size
    have s3 := hb3.size
    simp at s1
    have H4 := (H1.below hb3 H1.lt)
    have B4 : Below w.heap.size w w3 := ((((Below.refl _ _).alloc (Nat.le_refl _) _).trans (hb1.mono (by simp))).trans (hb2.mono (by omega))).trans (hb3.mono (by omega))
    have hgw : w.heap.size ≤ g := by omega
    clear hc1 hf1 hc2 hf2 hb1 hb2 hb3 s1 s2 s3 H1 hg
    go_wp2_with fail
    go_loopw [9, 10] (fun live i wr => PlayRel0 w.heap.size g l w live i wr) (fun _ i _ => (l.length - intOf i).toNat)
    case atStart => exact ⟨0, by omega, rfl, rfl, H4, B4⟩
    case round =>
      obtain ⟨k, hk, rfl, rfl, H5, B5⟩ := hrel
      by_cases c : k < l.length + 1
      · rcases Nat.eq_zero_or_pos k with rfl | hk0
        · rw [show (((0 : Nat) : Int) - 1) = -1 by omega]
          have cq : ask < 0 ∨ (0 ≤ ask ∧ ask ≤ 0) ∨ (0 ≤ ask ∧ ¬ ask ≤ 0) := by omega
          rcases cq with q | ⟨q, q2⟩ | ⟨q, q2⟩
          all_goals
            first | have dq := decide_eq_true q2 | have dq := decide_eq_false q2 | have dq := trivial
            go_wp2_with fail
            refine (live_at H5 (0) (by omega)).mono ?_
            rintro e w' ⟨rfl, rfl⟩
            go_wp2_with fail
            refine (most_some _ _ _ _ H5).mono ?_
            rintro e w' ⟨rfl, rfl⟩
            go_wp2_with fail
            refine (room_at H5 (by omega) (by omega) (by omega) (0) (by omega)).mono ?_
            rintro e w' ⟨rfl, rfl⟩
            go_wp2_with fail
            first | refine (fits_yes H5 (by omega) (by omega) (by omega) (by omega)).mono ?_ | refine (fits_not H5 (by omega) (by omega) (by omega) (by omega)).mono ?_
            rintro e w' ⟨rfl, rfl⟩
            go_wp2_with fail
            go_roundw
            case rel => exact ⟨1, by omega, by go_num, rfl, H5, B5⟩
            case measure => first | (simp [intOf]; done) | (simp [intOf]; omega)
        · obtain ⟨j, rfl⟩ : ∃ j, k = j + 1 := ⟨k - 1, by omega⟩
          have cj : j < l.length := by omega
          rw [show (((j + 1 : Nat) : Int) - 1) = (j : Int) by omega]
          obtain ⟨bb, off, rfl, hbl, hc⟩ := (hA.out.below B5) (by omega)
          obtain ⟨hk1, hk2⟩ := hc j cj
          clear hc c hk
          generalize l[j].2 = n at *
          cases ho : l[j].1
          · rw [ho] at hk1
            clear ho
            have cs : n < 0 ∨ 0 < n ∨ n = 0 := by omega
            rcases cs with c1 | c1 | rfl
            · go_wp2_with fail
              refine (take_at H5 (by omega) (by omega) (by omega) 1 0 (by unfold takeE; rw [if_pos c1]) (by unfold takeL; rw [if_pos c1])).mono ?_
              rintro e w6 ⟨rfl, H7, o7⟩
              have cq : ask < 0 ∨ (0 ≤ ask ∧ ask ≤ 0) ∨ (0 ≤ ask ∧ ¬ ask ≤ 0) := by omega
              rcases cq with q | ⟨q, q2⟩ | ⟨q, q2⟩
              all_goals
                first | have dq := decide_eq_true q2 | have dq := decide_eq_false q2 | have dq := trivial
                go_wp2_with fail
                refine (live_at H7 (0) (by omega)).mono ?_
                rintro e w' ⟨rfl, rfl⟩
                go_wp2_with fail
                refine (most_some _ _ _ _ H7).mono ?_
                rintro e w' ⟨rfl, rfl⟩
                go_wp2_with fail
                refine (room_at H7 (by omega) (by omega) (by omega) (0) (by omega)).mono ?_
                rintro e w' ⟨rfl, rfl⟩
                go_wp2_with fail
                first | refine (fits_yes H7 (by omega) (by omega) (by omega) (by omega)).mono ?_ | refine (fits_not H7 (by omega) (by omega) (by omega) (by omega)).mono ?_
                rintro e w' ⟨rfl, rfl⟩
                go_wp2_with fail
                go_roundw
                case rel => exact ⟨j + 2, by omega, by go_num, rfl, H7, B5.trans (o7.below hgw)⟩
                case measure => first | (simp [intOf]; done) | (simp [intOf]; omega)
            · go_wp2_with fail
              refine (take_at H5 (by omega) (by omega) (by omega) 6 0 (by unfold takeE; rw [if_neg (by omega), if_pos (by omega)]) (by unfold takeL; rw [if_neg (by omega), if_pos (by omega)])).mono ?_
              rintro e w6 ⟨rfl, H7, o7⟩
              have cq : ask < 0 ∨ (0 ≤ ask ∧ ask ≤ 0) ∨ (0 ≤ ask ∧ ¬ ask ≤ 0) := by omega
              rcases cq with q | ⟨q, q2⟩ | ⟨q, q2⟩
              all_goals
                first | have dq := decide_eq_true q2 | have dq := decide_eq_false q2 | have dq := trivial
                go_wp2_with fail
                refine (live_at H7 (0) (by omega)).mono ?_
                rintro e w' ⟨rfl, rfl⟩
                go_wp2_with fail
                refine (most_some _ _ _ _ H7).mono ?_
                rintro e w' ⟨rfl, rfl⟩
                go_wp2_with fail
                refine (room_at H7 (by omega) (by omega) (by omega) (0) (by omega)).mono ?_
                rintro e w' ⟨rfl, rfl⟩
                go_wp2_with fail
                first | refine (fits_yes H7 (by omega) (by omega) (by omega) (by omega)).mono ?_ | refine (fits_not H7 (by omega) (by omega) (by omega) (by omega)).mono ?_
                rintro e w' ⟨rfl, rfl⟩
                go_wp2_with fail
                go_roundw
                case rel => exact ⟨j + 2, by omega, by go_num, rfl, H7, B5.trans (o7.below hgw)⟩
                case measure => first | (simp [intOf]; done) | (simp [intOf]; omega)
            · go_wp2_with fail
              refine (take_at H5 (by omega) (by omega) (by omega) 0 0 (by unfold takeE; rw [if_neg (by omega), if_neg (by omega)]) (by unfold takeL; rw [if_neg (by omega), if_neg (by omega)]; rfl)).mono ?_
              rintro e w6 ⟨rfl, H7, o7⟩
              have cq : ask < 0 ∨ (0 ≤ ask ∧ ask ≤ 0) ∨ (0 ≤ ask ∧ ¬ ask ≤ 0) := by omega
              rcases cq with q | ⟨q, q2⟩ | ⟨q, q2⟩
              all_goals
                first | have dq := decide_eq_true q2 | have dq := decide_eq_false q2 | have dq := trivial
                go_wp2_with fail
                refine (live_at H7 (0) (by omega)).mono ?_
                rintro e w' ⟨rfl, rfl⟩
                go_wp2_with fail
                refine (most_some _ _ _ _ H7).mono ?_
                rintro e w' ⟨rfl, rfl⟩
                go_wp2_with fail
                refine (room_at H7 (by omega) (by omega) (by omega) (0) (by omega)).mono ?_
                rintro e w' ⟨rfl, rfl⟩
                go_wp2_with fail
                first | refine (fits_yes H7 (by omega) (by omega) (by omega) (by omega)).mono ?_ | refine (fits_not H7 (by omega) (by omega) (by omega) (by omega)).mono ?_
                rintro e w' ⟨rfl, rfl⟩
                go_wp2_with fail
                go_roundw
                case rel => exact ⟨j + 2, by omega, by go_num, rfl, H7, B5.trans (o7.below hgw)⟩
                case measure => first | (simp [intOf]; done) | (simp [intOf]; omega)
          · rw [ho] at hk1
            clear ho
            have cs : n < 0 ∨ 0 < n ∨ n = 0 := by omega
            rcases cs with c1 | c1 | rfl
            · go_wp2_with fail
              refine (give_at H5 (by omega) (by omega) (by omega) 1 0 (by unfold giveE; rw [if_pos c1]) (by unfold giveL; rw [if_pos c1])).mono ?_
              rintro e w6 ⟨rfl, H7, o7⟩
              have cq : ask < 0 ∨ (0 ≤ ask ∧ ask ≤ 0) ∨ (0 ≤ ask ∧ ¬ ask ≤ 0) := by omega
              rcases cq with q | ⟨q, q2⟩ | ⟨q, q2⟩
              all_goals
                first | have dq := decide_eq_true q2 | have dq := decide_eq_false q2 | have dq := trivial
                go_wp2_with fail
                refine (live_at H7 (0) (by omega)).mono ?_
                rintro e w' ⟨rfl, rfl⟩
                go_wp2_with fail
                refine (most_some _ _ _ _ H7).mono ?_
                rintro e w' ⟨rfl, rfl⟩
                go_wp2_with fail
                refine (room_at H7 (by omega) (by omega) (by omega) (0) (by omega)).mono ?_
                rintro e w' ⟨rfl, rfl⟩
                go_wp2_with fail
                first | refine (fits_yes H7 (by omega) (by omega) (by omega) (by omega)).mono ?_ | refine (fits_not H7 (by omega) (by omega) (by omega) (by omega)).mono ?_
                rintro e w' ⟨rfl, rfl⟩
                go_wp2_with fail
                go_roundw
                case rel => exact ⟨j + 2, by omega, by go_num, rfl, H7, B5.trans (o7.below hgw)⟩
                case measure => first | (simp [intOf]; done) | (simp [intOf]; omega)
            · go_wp2_with fail
              refine (give_at H5 (by omega) (by omega) (by omega) 2 0 (by unfold giveE; rw [if_neg (by omega), if_pos (by omega)]) (by unfold giveL; rw [if_neg (by omega), if_pos (by omega)])).mono ?_
              rintro e w6 ⟨rfl, H7, o7⟩
              have cq : ask < 0 ∨ (0 ≤ ask ∧ ask ≤ 0) ∨ (0 ≤ ask ∧ ¬ ask ≤ 0) := by omega
              rcases cq with q | ⟨q, q2⟩ | ⟨q, q2⟩
              all_goals
                first | have dq := decide_eq_true q2 | have dq := decide_eq_false q2 | have dq := trivial
                go_wp2_with fail
                refine (live_at H7 (0) (by omega)).mono ?_
                rintro e w' ⟨rfl, rfl⟩
                go_wp2_with fail
                refine (most_some _ _ _ _ H7).mono ?_
                rintro e w' ⟨rfl, rfl⟩
                go_wp2_with fail
                refine (room_at H7 (by omega) (by omega) (by omega) (0) (by omega)).mono ?_
                rintro e w' ⟨rfl, rfl⟩
                go_wp2_with fail
                first | refine (fits_yes H7 (by omega) (by omega) (by omega) (by omega)).mono ?_ | refine (fits_not H7 (by omega) (by omega) (by omega) (by omega)).mono ?_
                rintro e w' ⟨rfl, rfl⟩
                go_wp2_with fail
                go_roundw
                case rel => exact ⟨j + 2, by omega, by go_num, rfl, H7, B5.trans (o7.below hgw)⟩
                case measure => first | (simp [intOf]; done) | (simp [intOf]; omega)
            · go_wp2_with fail
              refine (give_at H5 (by omega) (by omega) (by omega) 0 0 (by unfold giveE; rw [if_neg (by omega), if_neg (by omega)]) (by unfold giveL; rw [if_neg (by omega), if_neg (by omega)]; rfl)).mono ?_
              rintro e w6 ⟨rfl, H7, o7⟩
              have cq : ask < 0 ∨ (0 ≤ ask ∧ ask ≤ 0) ∨ (0 ≤ ask ∧ ¬ ask ≤ 0) := by omega
              rcases cq with q | ⟨q, q2⟩ | ⟨q, q2⟩
              all_goals
                first | have dq := decide_eq_true q2 | have dq := decide_eq_false q2 | have dq := trivial
                go_wp2_with fail
                refine (live_at H7 (0) (by omega)).mono ?_
                rintro e w' ⟨rfl, rfl⟩
                go_wp2_with fail
                refine (most_some _ _ _ _ H7).mono ?_
                rintro e w' ⟨rfl, rfl⟩
                go_wp2_with fail
                refine (room_at H7 (by omega) (by omega) (by omega) (0) (by omega)).mono ?_
                rintro e w' ⟨rfl, rfl⟩
                go_wp2_with fail
                first | refine (fits_yes H7 (by omega) (by omega) (by omega) (by omega)).mono ?_ | refine (fits_not H7 (by omega) (by omega) (by omega) (by omega)).mono ?_
                rintro e w' ⟨rfl, rfl⟩
                go_wp2_with fail
                go_roundw
                case rel => exact ⟨j + 2, by omega, by go_num, rfl, H7, B5.trans (o7.below hgw)⟩
                case measure => first | (simp [intOf]; done) | (simp [intOf]; omega)
      · obtain rfl : k = l.length + 1 := by omega
        rw [show (((l.length + 1 : Nat) : Int) - 1) = (l.length : Int) by omega]
        go_wp2_with fail
        go_ret
        exact ⟨rfl, B5⟩
set_option maxHeartbeats 400000 in
theorem plays_long (a b ask : Int) (A : Option Addr) (n cap : Nat) (w : World) (hn : 100 < n) (hn' : n ≤ 9223372036854775807) :
    Calls Try.prog 3 #[.agg #[.int .i64 a, .int .i64 b], .slice A n cap, .int .i64 ask] w fun e w' => e = .returned (.bool true) ∧ Below w.heap.size w w' := by
  go_enter Try.func3, Try.ntmps3
  go_wp2_with fail
  refine (awake_ok _).mono ?_
  rintro e w1 ⟨rfl, hb1⟩
  go_wp2_with fail
  go_ret
  exact ⟨rfl, ((Below.refl _ _).alloc (Nat.le_refl _) _).trans (hb1.mono (by simp))⟩
theorem plays_ok (a b ask : Int) (A : Option Addr) (cap : Nat) (l : List (Bool × Int)) (w : World) (hm : l.length ≤ maxLen) (hA : ActsAt w w.heap.size A l) :
    Calls Try.prog 3 #[.agg #[.int .i64 a, .int .i64 b], .slice A l.length cap, .int .i64 ask] w fun e w' => e = .returned (.bool true) ∧ Below w.heap.size w w' := by
  by_cases c : l.length ≤ 100
  · exact plays_at a b (mostOf a b) ask A cap l w (mostOf_bd a b).1 (mostOf_bd a b).2 rfl c hA
  · exact plays_long a b ask A l.length cap w (by omega) (by unfold maxLen at hm; omega)
end Go.Proofs.Ytcflobbgnicncaa.L
