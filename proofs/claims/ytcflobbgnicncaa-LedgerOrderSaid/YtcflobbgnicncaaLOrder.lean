/- The walk of LedgerOrder: it answers true, whatever the bytes, for a slice of whatever length. -/
import Derived.Test.YtcflobbgnicncaaLNums
namespace Go.Proofs.Ytcflobbgnicncaa.L
open Go.RowKit
set_option linter.unusedVariables false
set_option linter.unusedSimpArgs false
def SumRel (l : List Int) (s i : Value) : Prop := ∃ k : Nat, k ≤ l.length ∧ i = .int .i64 k ∧ s = .int .i64 (sumL (l.take k))
def TakeRel (B g g' : Nat) (M : Int) (l : List Int) (L' : Int) (w : World) (al' i : Value) (wr : World) : Prop :=
  ∃ k : Nat, k ≤ l.length ∧ i = .int .i64 k ∧ al' = .bool (al M 0 (l.take k)) ∧ IsLed wr g M (tk M 0 (l.take k)) ∧ IsLed wr g' M L' ∧ Below B w wr
set_option maxHeartbeats 6400000 in
set_option maxRecDepth 100000 in
theorem order_at (a b M : Int) (t : Nat) (A : Option Addr) (cap : Nat) (l : List Int) (w : World) (ha : 0 ≤ a) (ha' : a ≤ 255) (hb : 0 ≤ b) (hb' : b ≤ 255) (ht' : t ≤ 255) (hM0 : 1 ≤ M) (hM1 : M ≤ 320) (hMe : Hid (mostAt a b = M))
    (hl : l.length ≤ 30) (hw : Hid (∀ x ∈ l, 0 ≤ x ∧ x ≤ 255)) (hA : Hid (IntsAt .u8 w w.heap.size A l)) :
    Calls Try.prog 9 #[.int .u8 a, .int .u8 b, .slice A l.length cap, .int .u8 t] w fun e w' => e = .returned (.bool true) ∧ Below w.heap.size w w' := by
  go_enter Try.func9, Try.ntmps9
  go_wp2_with fail
  refine (awake_ok _).mono ?_
  rintro e w1 ⟨rfl, hb1⟩
  go_wp2_with fail
  refine (shape_any a b _ ha ha' hb hb').mono ?_
  rintro e w2 ⟨rfl, hb2⟩
  go_wp2_with fail
  refine (new_shape a b _).mono ?_
  rintro e w3 ⟨g, rfl, hg, H1, hb3⟩
  go_wp2_with fail
  refine (shape_any a b _ ha ha' hb hb').mono ?_
  rintro e w4 ⟨rfl, hb4⟩
  go_wp2_with fail
  refine (new_shape a b _).mono ?_
  rintro e w5 ⟨g', rfl, hg', H2, hb5⟩
  have s1 := hb1.size
  have s2 := hb2.size
  have s3 := hb3.size
  have s4 := hb4.size
  have s5 := hb5.size
  have hlt := H1.lt
  have hne : g < w4.heap.size := Nat.lt_of_lt_of_le hlt hb4.size
  have H1 := (H1.below hb4 hlt).below hb5 hne
  have B5 : Below w.heap.size w w5 := (((hb1.trans (hb2.mono (by omega))).trans (hb3.mono (by omega))).trans (hb4.mono (by omega))).trans (hb5.mono (by omega))
  have hgg : g' ≠ g := by omega
  have hgw : w.heap.size ≤ g := by omega
  have hgw' : w.heap.size ≤ g' := by omega
  have hA5 := Lib.hid (hA.out.below B5)
  rw [hMe.out] at H1 H2
  clear hb1 hb2 hb3 hb4 hb5 s1 s2 s3 s4 s5 hne hlt hg hg'
  go_wp2_with fail
  go_loop [11, 33] (fun s i => SumRel l s i) (fun _ i => l.length - (intOf i).toNat)
  case atStart => exact ⟨0, by omega, rfl, rfl⟩
  case round =>
    obtain ⟨k, hk, rfl, rfl⟩ := hrel
    by_cases c : k < l.length
    · obtain ⟨bb, off, rfl, hbl, hck⟩ := hA5.out.get k c
      have hx := hw.out _ (List.getElem_mem c)
      have hs := sumL_bd (l.take k) (fun x hx => hw.out x (List.mem_of_mem_take hx))
      have htl : (l.take k).length ≤ 30 := by rw [List.length_take]; omega
      have E := Lib.hid (takeL_at l k c)
      go_wp2_with fail
      go_round
      case rel => exact ⟨k + 1, by omega, by go_num, by rw [E.out, sumL_append]; simp only [sumL, Int.add_zero]⟩
      case measure => simp [intOf]; omega
    · obtain rfl : k = l.length := by omega
      rw [List.take_length]
      clear c
      have hs := sumL_bd l hw.out
      go_wp2_with fail
      go_loopw [14, 44] (fun al' i wr => TakeRel w.heap.size g g' M l 0 w al' i wr) (fun _ i _ => l.length - (intOf i).toNat)
      case atStart => exact ⟨0, by omega, rfl, rfl, H1, H2, B5⟩
      case round =>
        obtain ⟨k, hk, rfl, rfl, H3, H4, B6⟩ := hrel
        by_cases c : k < l.length
        · obtain ⟨bb, off, rfl, hbl, hck⟩ := (hA.out.below B6).get k c
          have hx := hw.out _ (List.getElem_mem c)
          have hT := tk_bd M (l.take k) 0 (fun x hx => hw.out x (List.mem_of_mem_take hx)) (by omega) (by omega)
          have E := Lib.hid (takeL_at l k c)
          cases hal : al M 0 (l.take k)
          all_goals
            rcases Decidable.em (l[k] ≤ M - tk M 0 (l.take k)) with d | d
            all_goals
              have HAL := Lib.hid hal
              clear hal
              go_wp2_with fail
              first
                | refine (take_yes H3 (by omega) (by omega) (by omega) (by omega) (by omega)).mono ?_
                | refine (take_no H3 (by omega) (by omega) (by omega) (by omega) (by omega)).mono ?_
              rintro e w6 ⟨rfl, H5, o5⟩
              have H6 := H4.far o5 hgg
              go_wp2_with fail
              go_roundw
              case rel =>
                refine ⟨k + 1, by omega, by go_num, ?_, ?_, H6, B6.trans (o5.below hgw)⟩
                · rw [E.out, al_snoc, HAL.out]; simp [d]
                · rw [E.out, tk_snoc]; first | (rw [if_pos d]; exact H5) | (rw [if_neg (by omega)]; exact H5)
              case measure => simp [intOf]; omega
        · obtain rfl : k = l.length := by omega
          rw [List.take_length] at H3 ⊢
          clear c H1 H2 B5 hA5
          obtain ⟨i1, i2⟩ := al_iff M l 0 hw.out (by omega)
          have hT := tk_bd M l 0 hw.out (by omega) (by omega)
          cases hal : al M 0 l
          · have c1 : ¬ sumL l ≤ M := by intro c; rw [i1.2 (by omega)] at hal; cases hal
            have HAL := Lib.hid hal
            have HALR : Hid (al M 0 (rot l t) = false) := by
              have j := (al_iff M (rot l t) 0 (fun x hx => hw.out x (rot_mem l t x hx)) (by omega)).1
              rw [rot_sum] at j
              show al M 0 (rot l t) = false
              rw [Bool.eq_false_iff]; intro e; have := j.1 e; omega
            clear hal i1 i2
            have d1 := decide_eq_false c1
            go_wp2_with fail
            refine (most_some _ _ _ _ H3).mono ?_
            rintro e w' ⟨rfl, rfl⟩
            go_wp2_with fail
            go_loopw [16, 67] (fun al' i wr => TakeRel w.heap.size g' g M (rot l t) (tk M 0 l) w al' i wr) (fun _ i _ => l.length - (intOf i).toNat)
            case atStart => exact ⟨0, by omega, rfl, rfl, H4, H3, B6⟩
            case round =>
              obtain ⟨k, hk, rfl, rfl, H5, H6, B7⟩ := hrel
              rw [rot_len] at hk
              by_cases c : k < l.length
              · obtain ⟨bb, off, rfl, hbl, hck⟩ := (hA.out.below B7).get ((k + t) % l.length) (Nat.mod_lt _ (by omega))
                have hx := hw.out _ (List.getElem_mem (Nat.mod_lt (k + t) (by omega : 0 < l.length)))
                have p0 : (0 : Int) < (l.length : Int) := by omega
                have p1 : (0 : Int) ≤ ((k : Int) + (t : Int)) % (l.length : Int) := Int.emod_nonneg _ (by omega)
                have p2 : ((k : Int) + (t : Int)) % (l.length : Int) < (l.length : Int) := Int.emod_lt_of_pos _ p0
                have hT := tk_bd M ((rot l t).take k) 0 (fun x hx => hw.out x (rot_mem l t x (List.mem_of_mem_take hx))) (by omega) (by omega)
                have E : Hid ((rot l t).take (k + 1) = (rot l t).take k ++ [l[(k + t) % l.length]'(Nat.mod_lt _ (by omega))]) := by
                  have e := take_snoc (rot l t) k (by rw [rot_len]; omega)
                  rw [rot_get l t k c, getD_at l _ (Nat.mod_lt _ (by omega))] at e
                  exact e
                cases hal : al M 0 ((rot l t).take k)
                all_goals
                  rcases Decidable.em (l[(k + t) % l.length]'(Nat.mod_lt _ (by omega)) ≤ M - tk M 0 ((rot l t).take k)) with d | d
                  all_goals
                    have HALK := Lib.hid hal
                    clear hal
                    go_wp2_with fail
                    first
                      | refine (take_yes H5 (by omega) (by omega) (by omega) (by omega) (by omega)).mono ?_
                      | refine (take_no H5 (by omega) (by omega) (by omega) (by omega) (by omega)).mono ?_
                    rintro e w6 ⟨rfl, H7, o5⟩
                    have H8 := H6.far o5 hgg.symm
                    go_wp2_with fail
                    go_roundw
                    case rel =>
                      refine ⟨k + 1, by rw [rot_len]; omega, by go_num, ?_, ?_, H8, B7.trans (o5.below hgw')⟩
                      · rw [E.out, al_snoc, HALK.out]; simp [d]
                      · rw [E.out, tk_snoc]; first | (rw [if_pos d]; exact H7) | (rw [if_neg (by omega)]; exact H7)
                    case measure => simp [intOf]; omega
              · obtain rfl : k = l.length := by omega
                rw [List.take_of_length_le (by rw [rot_len]; omega)] at H5 ⊢
                rw [HALR.out]
                go_wp2_with fail
                go_ret
                exact ⟨rfl, B7⟩
          · have c1 : sumL l ≤ M := by have := i1.1 hal; omega
            have hTl := i2 hal
            have HAL := Lib.hid hal
            have HALR : Hid (al M 0 (rot l t) = true ∧ tk M 0 (rot l t) = sumL l) := by
              have j := al_iff M (rot l t) 0 (fun x hx => hw.out x (rot_mem l t x hx)) (by omega)
              rw [rot_sum] at j
              have e := j.1.2 (by omega)
              exact ⟨e, by rw [j.2 e]; omega⟩
            rw [hTl] at H3
            clear hal i1 i2 hTl hT
            have d1 := decide_eq_true c1
            go_wp2_with fail
            refine (most_some _ _ _ _ H3).mono ?_
            rintro e w' ⟨rfl, rfl⟩
            go_wp2_with fail
            go_loopw [16, 67] (fun al' i wr => TakeRel w.heap.size g' g M (rot l t) (0 + sumL l) w al' i wr) (fun _ i _ => l.length - (intOf i).toNat)
            case atStart => exact ⟨0, by omega, rfl, rfl, H4, H3, B6⟩
            case round =>
              obtain ⟨k, hk, rfl, rfl, H5, H6, B7⟩ := hrel
              rw [rot_len] at hk
              by_cases c : k < l.length
              · obtain ⟨bb, off, rfl, hbl, hck⟩ := (hA.out.below B7).get ((k + t) % l.length) (Nat.mod_lt _ (by omega))
                have hx := hw.out _ (List.getElem_mem (Nat.mod_lt (k + t) (by omega : 0 < l.length)))
                have p0 : (0 : Int) < (l.length : Int) := by omega
                have p1 : (0 : Int) ≤ ((k : Int) + (t : Int)) % (l.length : Int) := Int.emod_nonneg _ (by omega)
                have p2 : ((k : Int) + (t : Int)) % (l.length : Int) < (l.length : Int) := Int.emod_lt_of_pos _ p0
                have hT := tk_bd M ((rot l t).take k) 0 (fun x hx => hw.out x (rot_mem l t x (List.mem_of_mem_take hx))) (by omega) (by omega)
                have E : Hid ((rot l t).take (k + 1) = (rot l t).take k ++ [l[(k + t) % l.length]'(Nat.mod_lt _ (by omega))]) := by
                  have e := take_snoc (rot l t) k (by rw [rot_len]; omega)
                  rw [rot_get l t k c, getD_at l _ (Nat.mod_lt _ (by omega))] at e
                  exact e
                cases hal : al M 0 ((rot l t).take k)
                all_goals
                  rcases Decidable.em (l[(k + t) % l.length]'(Nat.mod_lt _ (by omega)) ≤ M - tk M 0 ((rot l t).take k)) with d | d
                  all_goals
                    have HALK := Lib.hid hal
                    clear hal
                    go_wp2_with fail
                    first
                      | refine (take_yes H5 (by omega) (by omega) (by omega) (by omega) (by omega)).mono ?_
                      | refine (take_no H5 (by omega) (by omega) (by omega) (by omega) (by omega)).mono ?_
                    rintro e w6 ⟨rfl, H7, o5⟩
                    have H8 := H6.far o5 hgg.symm
                    go_wp2_with fail
                    go_roundw
                    case rel =>
                      refine ⟨k + 1, by rw [rot_len]; omega, by go_num, ?_, ?_, H8, B7.trans (o5.below hgw')⟩
                      · rw [E.out, al_snoc, HALK.out]; simp [d]
                      · rw [E.out, tk_snoc]; first | (rw [if_pos d]; exact H7) | (rw [if_neg (by omega)]; exact H7)
                    case measure => simp [intOf]; omega
              · obtain rfl : k = l.length := by omega
                rw [List.take_of_length_le (by rw [rot_len]; omega)] at H5 ⊢
                rw [HALR.out.1]
                rw [HALR.out.2] at H5
                go_wp2_with fail
                refine (live_at H6 (sumL l) (by omega)).mono ?_
                rintro e w' ⟨rfl, rfl⟩
                go_wp2_with fail
                refine (live_at H5 (sumL l) (by omega)).mono ?_
                rintro e w' ⟨rfl, rfl⟩
                go_wp2_with fail
                refine (live_at H6 (sumL l) (by omega)).mono ?_
                rintro e w' ⟨rfl, rfl⟩
                go_wp2_with fail
                go_ret
                exact ⟨rfl, B7⟩
set_option maxHeartbeats 400000 in
theorem order_long (a b t : Int) (A : Option Addr) (n cap : Nat) (w : World) (hn : 30 < n) (hn' : n ≤ 9223372036854775807) :
    Calls Try.prog 9 #[.int .u8 a, .int .u8 b, .slice A n cap, .int .u8 t] w fun e w' => e = .returned (.bool true) ∧ Below w.heap.size w w' := by
  go_enter Try.func9, Try.ntmps9
  go_wp2_with fail
  refine (awake_ok _).mono ?_
  rintro e w1 ⟨rfl, hb1⟩
  go_wp2_with fail
  go_ret
  exact ⟨rfl, hb1⟩
theorem order_ok (a b t : Int) (A : Option Addr) (len cap : Nat) (zs : List Int) (w : World) (ha : 0 ≤ a) (ha' : a ≤ 255) (hb : 0 ≤ b) (hb' : b ≤ 255) (ht : 0 ≤ t) (ht' : t ≤ 255)
    (h : (A = none ∧ len = 0 ∧ cap = 0 ∧ zs = []) ∨ ∃ x, A = some x ∧ len ≤ cap ∧ cap ≤ maxLen ∧ zs.length = cap ∧ (∀ i, i < zs.length → w.cell? (x.add i) = some (.int .u8 (zs.getD i 0))) ∧ ∀ n ∈ zs, (Lit.int .u8 n).wf = true) :
    Calls Try.prog 9 #[.int .u8 a, .int .u8 b, .slice A len cap, .int .u8 t] w fun e w' => e = .returned (.bool true) ∧ Below w.heap.size w w' := by
  obtain ⟨l, rfl, hA, hm, hwf⟩ := intsAt_of h
  obtain ⟨n, rfl⟩ : ∃ n : Nat, t = n := ⟨t.toNat, by omega⟩
  by_cases c : l.length ≤ 30
  · exact order_at a b (mostAt a b) n A cap l w ha ha' hb hb' (by omega) (mostAt_bd a b).1 (by have := (mostAt_bd a b).2; omega) rfl c (fun x hx => wf8 (hwf x hx)) hA
  · exact order_long a b n A l.length cap w (by omega) (by unfold maxLen at hm; omega)
end Go.Proofs.Ytcflobbgnicncaa.L
