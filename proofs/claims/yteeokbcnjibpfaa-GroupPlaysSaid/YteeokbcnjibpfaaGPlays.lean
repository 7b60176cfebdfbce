/- The walk of GroupPlays. -/
import Derived.Test.YteeokbcnjibpfaaGStart
namespace Go.Proofs.Yteeokbcnjibpfaa.G
open Go.RowKit Go.Proofs.YteeokbcnjibpfaaW.PrintMore Go.Proofs.YteeokbcnjibpfaaW.PrintWords
set_option linter.unusedVariables false
set_option linter.unusedSimpArgs false
/-- The barriers among the first n events, in a row of the walk's own. -/
def PlaysRel (w : World) (V : Nat) (acc : List (Int × Int)) (want i : Value) (wr : World) : Prop := ∃ (n : Nat) (x : Value), i = .int .i64 n ∧ x = want ∧ n ≤ acc.length ∧ wr.ownsRow w.heap.size 23 1 x (rowsOf V (acc.take n) V).length (u64s (rowsOf V (acc.take n) V)) ∧ Below w.heap.size w wr
theorem rows_take {V : Nat} (acc : List (Int × Int)) (n : Nat) (h : n < acc.length) : rowsOf V (acc.take (n + 1)) V = if acc[n].1 = -1 then rowsOf V (acc.take n) V ++ [acc[n].2] else rowsOf V (acc.take n) V := by
  rw [List.take_succ_eq_append_getElem h, rows_snoc, key_V]
set_option maxHeartbeats 3200000 in
set_option maxRecDepth 100000 in
theorem plays_ok (v : Int) (A : Option Addr) (k : Nat) (l : List (Int × Int)) (w : World) (hv : -9223372036854775808 ≤ v) (hv' : v ≤ 9223372036854775807) (hm : l.length ≤ maxLen) (hA : EvAt w w.heap.size A l) (hR : Ranged l) :
    Calls Try.prog 7 #[.int .i64 v, .slice A l.length k] w fun e w' => e = .returned (.bool true) ∧ Below w.heap.size w w' := by
  have HA := Lib.hid hA
  have HR := Lib.hid hR
  simp only [maxLen] at hm
  clear hA hR
  obtain ⟨i0, hi0, hz0, hz1, hz2⟩ := info_parts infoU
  go_enter Try.func7, Try.ntmps7
  go_wp2_with fail
  refine (awake_ok _).mono ?_
  rintro e w1 ⟨rfl, hb1⟩
  by_cases d1 : 40 < l.length
  · go_wp2_with fail
    go_ret
    exact ⟨rfl, hb1⟩
  go_wp2_with fail
  refine (play_law v _ A k l hv hv' rfl d1 HA.out HR.out hb1).mono ?_
  rintro e w2 ⟨g, gv, x, acc, -, rfl, hat, hG, hlen, hb2⟩
  have B2 := hb1.trans (hb2.mono hb1.size)
  have HG := Lib.hid hat.g
  have HX := Lib.hid hat.r
  have HO := Lib.hid hG
  have V8 := volsOf_le v
  generalize volsOf v = V at *
  clear hat hG hb1 hb2
  go_wp2_with fail
  go_loopw [8, 9] (fun want i wr => PlaysRel w2 V acc want i wr) (fun _ i _ => (acc.length - intOf i).toNat)
  case atStart => exact ⟨0, _, rfl, rfl, by omega, by simp [rowsOf]; exact ⟨rfl, .inl ⟨rfl, rfl⟩⟩, Below.refl _ _⟩
  case round =>
    obtain ⟨n, want, rfl, rfl, hn, hown, hb⟩ := hrel
    have HF := B2.trans (hb.mono B2.size)
    replace HG := Lib.hid (HG.out.below hb)
    replace HX := Lib.hid (HX.out.below hb)
    obtain ⟨A1, k1, k2, hev⟩ := HX.out.evs
    have HE := Lib.hid hev
    have HW := Lib.hid hown
    have hrl := rows_len V (acc.take n) V
    have hrl2 : (acc.take n).length ≤ 40 := by simp; omega
    have fz : w2.heap.size ≤ wr.heap.size := hb.size
    have fm : (rowsOf V (acc.take n) V).length + 1 ≤ maxLen := by simp only [maxLen]; omega
    have fb : ((rowsOf V (acc.take n) V).length + 1) * 8 ≤ 140737488355328 := by omega
    clear hev hown
    by_cases cc : n < acc.length
    · obtain ⟨q, off, rfl, hlt, hcs⟩ := HE.out (by omega)
      obtain ⟨y1, y2⟩ := hcs n cc
      have e1 : (0 : Int) ≤ (n : Int) := by omega
      have e2 : (n : Int) < (acc.length : Int) := by omega
      have HS := Lib.hid (rows_take (V := V) acc n cc)
      clear hcs
      by_cases d : acc[n].1 = -1
      · rw [d] at y1
        have HD := Lib.hid d
        clear d
        generalize acc[n].2 = num at *
        go_wp2_with (at_builtin; refine list_one rfl (.tmp 40) (.tmp 49) 29 rfl w2.heap.size 23 i0 (.int .u64 0) 1 8 Try.underlying29 hi0 hz0 hz1 hz2 rfl (by decide) want _ _ (by rfl) (HW.out.alloc _) ⟨wr.heap.size, 0, none⟩ 1 1 [.int .u64 num] (by rfl) (by rfl) (World.news_of_block (cs := #[.int .u64 num]) (t := 23) (fr := (0, 0)) (heap_alloc_new wr _)) (by simp [Value.oneCell']) fm fb (by simp; omega) ?_; intro v1 w1 hown1 hgr1 hat1)
        go_roundw
        case rel =>
          refine ⟨n + 1, _, by simp, rfl, by omega, ?_, (hb.alloc fz _).grown hgr1 (by simp; omega) (own_ge HW.out)⟩
          rw [HS.out, if_pos HD.out, List.length_append]
          have e : ∀ L : List Int, u64s (L ++ [num]) = u64s L ++ [.int .u64 num] := by simp [u64s]
          rw [e]
          exact hown1
        case measure => simp [intOf]; omega
      · have D : (acc[n].1 == -1) = false := by simpa using d
        have HD := Lib.hid d
        clear d
        go_wp2_with fail
        go_roundw
        case rel => exact ⟨n + 1, _, by simp, rfl, by omega, by rw [HS.out, if_neg HD.out]; exact HW.out, hb⟩
        case measure => simp [intOf]; omega
    · obtain rfl : n = acc.length := by omega
      rw [List.take_length] at HW
      obtain ⟨A3, c3, rfl, -, hnums⟩ := numsAt_own HW.out
      have HN := Lib.hid hnums
      clear hnums
      have hL := rows_len V acc V
      obtain ⟨R, hgrp⟩ := HG.out
      have HC := Lib.hid (barriers_at hgrp (by omega))
      clear hgrp
      go_wp2_with fail
      refine HC.out.mono ?_
      rintro e w3 ⟨v3, rfl, hown3, hb3⟩
      obtain ⟨A4, c4, rfl, -, hn4⟩ := numsAt_own hown3
      have HS := Lib.hid (same_at (w := w3) A4 A3 c4 c3 (rowsOf V acc V) (rowsOf V acc V) (by omega) (by omega) hn4 ((HN.out.below hb3).lift hb3.size))
      clear hown3 hn4
      generalize (rowsOf V acc V).length = N at *
      go_wp2_with fail
      refine HS.out.mono ?_
      rintro e w4 ⟨rfl, q, rfl⟩
      rw [show sameN (rowsOf V acc V) (rowsOf V acc V) = 1 from if_pos rfl]
      go_wp2_with fail
      go_ret
      exact ⟨rfl, (HF.trans (hb3.mono HF.size)).trans (bel_drewN _ _)⟩
end Go.Proofs.Yteeokbcnjibpfaa.G
