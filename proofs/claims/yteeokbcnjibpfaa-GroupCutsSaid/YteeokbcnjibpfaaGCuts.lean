/- The walk of GroupCuts. -/
import Derived.Test.YteeokbcnjibpfaaGStart
namespace Go.Proofs.Yteeokbcnjibpfaa.G
open Go.RowKit Go.Proofs.YteeokbcnjibpfaaW.PrintMore Go.Proofs.YteeokbcnjibpfaaW.PrintWords
set_option linter.unusedVariables false
set_option linter.unusedSimpArgs false
theorem RAt.drew {w : World} {x V : Nat} {a : List (Int × Int)} (h : RAt w x V a) : RAt w.drew x V a := h.below (bel_drewN _ _ (n := 1))
def CutsRel (w : World) (V : Nat) (i : Value) (wr : World) : Prop := ∃ n : Nat, i = .int .i64 n ∧ n ≤ V ∧ Below w.heap.size w wr
set_option maxHeartbeats 3200000 in
set_option maxRecDepth 100000 in
theorem cuts_ok (v : Int) (A : Option Addr) (k : Nat) (l : List (Int × Int)) (m : Int) (w : World) (hv : -9223372036854775808 ≤ v) (hv' : v ≤ 9223372036854775807) (m0 : 0 ≤ m) (m1 : m ≤ 18446744073709551615) (hm : l.length ≤ maxLen) (hA : EvAt w w.heap.size A l) (hR : Ranged l) :
    Calls Try.prog 6 #[.int .i64 v, .slice A l.length k, .int .u64 m] w fun e w' => e = .returned (.bool true) ∧ Below w.heap.size w w' := by
  have HA := Lib.hid hA
  have HR := Lib.hid hR
  simp only [maxLen] at hm
  clear hA hR
  go_enter Try.func6, Try.ntmps6
  go_wp2_with fail
  refine (awake_ok _).mono ?_
  rintro e w1 ⟨rfl, hb1⟩
  by_cases d1 : 40 < l.length
  · go_wp2_with fail
    go_ret
    exact ⟨rfl, hb1⟩
  go_wp2_with fail
  refine (play_law v _ A k l hv hv' rfl d1 HA.out HR.out hb1).mono ?_
  rintro e w2 ⟨g, gv, x, acc, -, rfl, hat, hG, hlen, hb2⟩
  have B2 := hb1.trans (hb2.mono hb1.size)
  have HG := Lib.hid hat.g
  have HX := Lib.hid hat.r
  have HO := Lib.hid hG
  have V8 := volsOf_le v
  generalize volsOf v = V at *
  clear hat hG hb1 hb2
  by_cases d2 : m = 0
  · subst d2
    go_wp2_with fail
    obtain ⟨R, hgrp⟩ := HG.out
    refine (cut_zero w2).mono ?_
    clear hgrp
    rintro e w3 ⟨rfl, hb3⟩
    unfold nilS
    go_wp2_with fail
    have hX := hb3.alloc hb3.size (.cells #[.int .u64 0, .slice none 0 0] 31)
    have g0 := heap_alloc_new w3 (.cells #[.int .u64 0, .slice none 0 0] 31)
    have lt : w3.heap.size < (w3.alloc (.cells #[.int .u64 0, .slice none 0 0] 31)).heap.size := by simp
    generalize w3.alloc (.cells #[.int .u64 0, .slice none 0 0] 31) = W3 at *
    generalize w3.heap.size = q3 at *
    clear hb3
    have B3 := B2.trans (hX.mono B2.size)
    refine (gat_before (HG.out.below hX) HO.out hlen 0).mono ?_
    rintro e w4 ⟨rfl, hb4⟩
    have HX4 := Lib.hid ((HX.out.below hX).below hb4)
    go_wp2_with fail
    refine (rat_last HX4.out HO.out hlen V (-1) 0 (key_V V)).mono ?_
    rintro e w5 ⟨rfl, rfl⟩
    have B4 := B3.trans (hb4.mono B3.size)
    have g4 := (hb4.block _ lt).trans g0
    have c0 : w4.cell? ⟨q3, 0, none⟩ = some (.int .u64 0) := by simp only [World.cell?, g4]; rfl
    have c1 : w4.cell? ⟨q3, 1, none⟩ = some (.slice none 0 0) := by simp only [World.cell?, g4]; rfl
    generalize lastUp 0 (rowsOf V acc V) = n
    clear g0 g4 hX hb4
    go_wp2_with fail
    go_ret
    exact ⟨rfl, B4⟩
  have D2 : (m == 0) = false := by simpa using d2
  have p1 : 0 < m := by omega
  clear d2
  go_wp2_with fail
  refine (cut_box HG.out HO.out hlen m (by omega) (by omega) V8).mono ?_
  rintro e w3 ⟨c3, rfl, X3, hX, -, -⟩
  go_wp2_with fail
  have B3 := B2.trans (hX.mono B2.size)
  replace HG := Lib.hid (HG.out.below hX)
  replace HX := Lib.hid (HX.out.below hX)
  generalize w3.alloc (.cells #[.int .u64 m, .slice (some ⟨c3, 0, none⟩) V V] 31) = W3 at *
  generalize w3.heap.size = q3 at *
  clear hX
  refine (gat_before HG.out HO.out hlen m).mono ?_
  rintro e w4 ⟨rfl, hb4⟩
  replace HX := Lib.hid (HX.out.below hb4)
  replace X3 := X3.below hb4
  have B4 := B3.trans (hb4.mono B3.size)
  clear hb4
  go_wp2_with fail
  refine (rat_last HX.out HO.out hlen V (-1) m (key_V V)).mono ?_
  rintro e w5 ⟨rfl, rfl⟩
  obtain ⟨k1, k2⟩ := X3.cells (cutList_len _ _ _)
  have k3 := HX.out.c0
  have hn : 0 ≤ lastUp m (rowsOf V acc V) := lastUp_nonneg fun n hn => by have := rows_num HO.out n hn; omega
  generalize lastUp m (rowsOf V acc V) = n at *
  go_wp2_with fail
  go_quiet (fail)
  go_wp2_with fail
  go_loopw [15] (fun i wr => CutsRel w4 V i wr) (fun i _ => (V - intOf i).toNat)
  case atStart => exact ⟨0, rfl, by omega, bel_drewN _ _⟩
  case round =>
    obtain ⟨j, rfl, hj, hb⟩ := hrel
    have HF := B4.trans (hb.mono B4.size)
    replace HX := Lib.hid (HX.out.below hb)
    replace X3 := X3.below hb
    replace k3 := HX.out.c0
    replace k1 := (X3.cells (cutList_len _ _ _)).1
    replace k2 := (X3.cells (cutList_len _ _ _)).2
    by_cases cc : j < V
    · have x1 := X3.cell j (by rw [cutList_len]; exact cc)
      rw [cutList_get] at x1
      have e1 : (0 : Int) ≤ (j : Int) := by omega
      have e2 : (j : Int) < (V : Int) := by omega
      have L := rat_last HX.out.drew HO.out hlen j j m (key_lt cc)
      generalize lastUp m (rowsOf V acc j) = u at *
      have HL := Lib.hid L
      clear L
      go_wp2_with fail
      go_region_with (first | (go_at_call 16; refine HL.out.mono ?_; rintro e w5 ⟨rfl, rfl⟩))
      all_goals (go_wp2_with fail; go_roundw; (case rel => exact ⟨j + 1, by simp, by omega, hb.trans (bel_drewN _ _)⟩); (case measure => simp [intOf]; omega))
    · obtain rfl : j = V := by omega
      go_wp2_with fail
      go_ret
      exact ⟨rfl, HF⟩
end Go.Proofs.Yteeokbcnjibpfaa.G
