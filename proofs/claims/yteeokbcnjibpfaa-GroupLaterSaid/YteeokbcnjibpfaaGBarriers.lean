/- The walk of GroupBarriers. -/
import Derived.Test.YteeokbcnjibpfaaGStart
namespace Go.Proofs.Yteeokbcnjibpfaa.G
open Go.RowKit Go.Proofs.YteeokbcnjibpfaaW.PrintMore Go.Proofs.YteeokbcnjibpfaaW.PrintWords
set_option linter.unusedVariables false
set_option linter.unusedSimpArgs false
theorem num_inj {V : Nat} {a : List (Int × Int)} (h : Good V a) {u v n : Int} (h1 : (u, n) ∈ a) (h2 : (v, n) ∈ a) : u = v := by
  obtain ⟨i, hi, e1⟩ := List.getElem_of_mem h1
  obtain ⟨j, hj, e2⟩ := List.getElem_of_mem h2
  have p := List.pairwise_iff_getElem.mp h.sorted
  have q1 : a[i].2 = n := by rw [e1]
  have q2 : a[j].2 = n := by rw [e2]
  rcases Nat.lt_trichotomy i j with c | c | c
  · have := p i j hi hj c; omega
  · subst c; rw [e1] at e2; exact (Prod.mk.inj e2).1
  · have := p j i hj hi c; omega
theorem cut_under {V v : Nat} {a : List (Int × Int)} (h : Good V a) {b : Int} (hb : b ∈ rowsOf V a V) (hv : v < V) : lastUp b (rowsOf V a v) < b := by
  have b1 := (rows_num h b hb).1
  rcases lastUp_mem b (rowsOf V a v) with ⟨e, _⟩ | ⟨e, _⟩
  · omega
  · have hle := lastUp_le b (rowsOf V a v) (by omega)
    by_cases c : lastUp b (rowsOf V a v) = b
    · rw [c] at e
      have := num_inj h (mem_rows.1 e) (mem_rows.1 hb)
      rw [key_lt hv, key_V] at this
      omega
    · omega
def IdxRel (w : World) (N : Nat) (i : Value) (wr : World) : Prop := ∃ n : Nat, i = .int .i64 n ∧ n ≤ N ∧ Below w.heap.size w wr
def Idx1Rel (w : World) (N : Nat) (i : Value) (wr : World) : Prop := ∃ n : Nat, i = .int .i64 ((n : Int) + 1) ∧ n ≤ N ∧ Below w.heap.size w wr
set_option maxHeartbeats 3200000 in
set_option maxRecDepth 100000 in
theorem barriers_ok (v : Int) (A : Option Addr) (k : Nat) (l : List (Int × Int)) (m : Int) (w : World) (hv : -9223372036854775808 ≤ v) (hv' : v ≤ 9223372036854775807) (m0 : 0 ≤ m) (m1 : m ≤ 18446744073709551615) (hm : l.length ≤ maxLen) (hA : EvAt w w.heap.size A l) (hR : Ranged l) :
    Calls Try.prog 9 #[.int .i64 v, .slice A l.length k, .int .u64 m] w fun e w' => e = .returned (.bool true) ∧ Below w.heap.size w w' := by
  have HA := Lib.hid hA
  have HR := Lib.hid hR
  simp only [maxLen] at hm
  clear hA hR
  go_enter Try.func9, Try.ntmps9
  go_wp2_with fail
  refine (awake_ok _).mono ?_
  rintro e w1 ⟨rfl, hb1⟩
  by_cases d1 : 40 < l.length
  · go_wp2_with fail
    go_ret
    exact ⟨rfl, hb1⟩
  go_wp2_with fail
  refine (play_law v _ A k l hv hv' rfl d1 HA.out HR.out hb1).mono ?_
  rintro e w2 ⟨g, gv, x, acc, -, rfl, hat, hG, hlen, hb2⟩
  have B2 := hb1.trans (hb2.mono hb1.size)
  have HG := Lib.hid hat.g
  have HX := Lib.hid hat.r
  have HO := Lib.hid hG
  have V8 := volsOf_le v
  generalize volsOf v = V at *
  clear hat hG hb1 hb2
  have hL := rows_len V acc V
  obtain ⟨R, hgrp⟩ := HG.out
  have HC := Lib.hid (barriers_at hgrp (by omega))
  clear hgrp
  go_wp2_with fail
  refine HC.out.mono ?_
  rintro e w3 ⟨v3, rfl, hown3, hb3⟩
  clear HC
  obtain ⟨A4, c4, rfl, -, hn4⟩ := numsAt_own hown3
  have HN := Lib.hid hn4
  have B3 := B2.trans (hb3.mono B2.size)
  replace HG := Lib.hid (HG.out.below hb3)
  replace HX := Lib.hid (HX.out.below hb3)
  clear hn4 hown3 hb3
  obtain ⟨L, hLe⟩ : ∃ L, L = rowsOf V acc V := ⟨_, rfl⟩
  have HLe := Lib.hid hLe
  rw [← hLe] at HN hL ⊢
  have HQ : Hid (∀ j (h : j < L.length), 1 ≤ L[j] ∧ L[j] ≤ 65535) := fun j h => by subst hLe; exact rows_num HO.out _ (List.getElem_mem h)
  have HS : Hid (∀ j (h : j + 1 < L.length), L[j] < L[j + 1]) := fun j h => by subst hLe; exact List.pairwise_iff_getElem.mp (rows_sorted HO.out V) j (j + 1) (by omega) h (by omega)
  obtain ⟨N, hNe⟩ : ∃ N, N = L.length := ⟨_, rfl⟩
  have HNe := Lib.hid hNe
  rw [← hNe] at hL ⊢
  clear hLe hNe
  go_wp2_with fail
  go_loopw [11] (fun i wr => Idx1Rel w3 N i wr) (fun i _ => (N + 1 - intOf i).toNat)
  case atStart => exact ⟨0, rfl, by omega, Below.refl _ _⟩
  case round =>
    obtain ⟨j, rfl, hj, hb⟩ := hrel
    have HF := B3.trans (hb.mono B3.size)
    replace HG := Lib.hid (HG.out.below hb)
    replace HX := Lib.hid (HX.out.below hb)
    by_cases cc : j + 1 < N
    · have hl1 : j + 1 < L.length := by rw [← HNe.out]; exact cc
      obtain ⟨b, off, rfl, hlt, hcs⟩ := HN.out (by omega)
      have y1 := (hb.cell (p := ⟨b, off + j, none⟩) hlt).trans (hcs j (by omega))
      have y2 := (hb.cell (p := ⟨b, off + (j + 1), none⟩) hlt).trans (hcs (j + 1) hl1)
      have s1 := HS.out j hl1
      have e1 : (0 : Int) ≤ (j : Int) := by omega
      have e2 : (j : Int) < (N : Int) := by omega
      have e3 : (j : Int) + 1 < (N : Int) := by omega
      generalize L[j] = u1 at *
      generalize L[j + 1] = u2 at *
      clear hcs
      have S1 : (decide (u1 ≥ u2)) = false := by simp; omega
      go_wp2_with fail
      go_quiet (fail)
      go_wp2_with fail
      go_roundw
      case rel => exact ⟨j + 1, by simp, by omega, hb.trans (bel_drewN _ _)⟩
      case measure => simp [intOf]; omega
    · clear HS
      replace HN := Lib.hid ((HN.out.below hb).lift hb.size)
      have HB := Lib.hid (gat_before HG.out HO.out hlen m)
      rw [← HLe.out] at HB
      go_wp2_with fail
      refine HB.out.mono ?_
      rintro e w4 ⟨rfl, hb4⟩
      have B4 := HF.trans (hb4.mono HF.size)
      replace HG := Lib.hid (HG.out.below hb4)
      replace HX := Lib.hid (HX.out.below hb4)
      replace HN := Lib.hid ((HN.out.below hb4).lift hb4.size)
      have F1 : Hid (∀ j (h : j < L.length), L[j] ≤ m → 0 < lastUp m L ∧ L[j] ≤ lastUp m L) := fun j h hm => by
        have q := HQ.out j h
        have := (lastUp_ge (by rw [HLe.out]; exact rows_sorted HO.out V) (List.getElem_mem h) hm).1
        omega
      have F2 : Hid (0 < lastUp m L → lastUp m L ∈ rowsOf V acc V) := fun h => by
        rcases lastUp_mem m L with ⟨e, _⟩ | ⟨e, _⟩
        · omega
        · rw [← HLe.out]; exact e
      clear HQ hb hb4
      generalize lastUp m L = b at *
      by_cases ok : 0 < b
      · have F3 := rows_num HO.out b (F2.out ok)
        have OK : decide (0 < b) = true := by simpa using ok
        rw [OK]
        go_wp2_with fail
        go_loopw [14] (fun i wr => IdxRel w4 N i wr) (fun i _ => (N - intOf i).toNat)
        case atStart => exact ⟨0, rfl, by omega, Below.refl _ _⟩
        case round =>
          obtain ⟨j, rfl, hj, hb⟩ := hrel
          have HF := B4.trans (hb.mono B4.size)
          by_cases cc : j < N
          · have hl1 : j < L.length := by rw [← HNe.out]; exact cc
            obtain ⟨q, off, rfl, hlt, hcs⟩ := HN.out (by omega)
            have y1 := (hb.cell (p := ⟨q, off + j, none⟩) hlt).trans (hcs j (by omega))
            have f1 := F1.out j hl1
            have e1 : (0 : Int) ≤ (j : Int) := by omega
            have e2 : (j : Int) < (N : Int) := by omega
            generalize L[j] = u1 at *
            clear hcs
            by_cases cm : u1 ≤ m
            · have f2 := (f1 cm).2
              clear f1
              go_wp2_with fail
              go_roundw
              case rel => exact ⟨j + 1, by simp, by omega, hb⟩
              case measure => simp [intOf]; omega
            · clear f1
              go_wp2_with fail
              go_roundw
              case rel => exact ⟨j + 1, by simp, by omega, hb⟩
              case measure => simp [intOf]; omega
          · replace HG := Lib.hid (HG.out.below hb)
            replace HX := Lib.hid (HX.out.below hb)
            clear F1 HN hb
            go_wp2_with fail
            refine (cut_box HG.out HO.out hlen b (by omega) (by omega) V8).mono ?_
            rintro e w5 ⟨c5, rfl, X5, hX, -, -⟩
            have B5 := HF.trans (hX.mono HF.size)
            replace HX := Lib.hid (HX.out.below hX)
            obtain ⟨k1, k2⟩ := X5.cells (cutList_len _ _ _)
            have k3 := HX.out.c0
            obtain ⟨A1, k4, k5, hev⟩ := HX.out.evs
            have HE := Lib.hid hev
            clear hev
            go_wp2_with fail
            generalize w5.alloc (.cells #[.int .u64 b, .slice (some ⟨c5, 0, none⟩) V V] 31) = W5 at *
            generalize w5.heap.size = q5 at *
            clear hX
            go_quiet (fail)
            go_wp2_with fail
            go_loopw [17] (fun i wr => IdxRel W5 acc.length i wr) (fun i _ => (acc.length - intOf i).toNat)
            case atStart => exact ⟨0, rfl, by omega, bel_drewN _ _⟩
            case round =>
              obtain ⟨n, rfl, hn, hb⟩ := hrel
              have HF := B5.trans (hb.mono B5.size)
              replace X5 := X5.below hb
              obtain ⟨k1, k2⟩ := X5.cells (cutList_len _ _ _)
              obtain ⟨bc, bf⟩ := bcell hb
              have xlt : x < W5.heap.size := World.block_lt_of_cell? W5 _ k3
              have k3 := (bc x 0 xlt).trans k3
              have k4' := (bc x 1 xlt).trans k5
              clear bc bf
              by_cases cc : n < acc.length
              · obtain ⟨q, off, rfl, hlt, hcs⟩ := HE.out (by omega)
                have y1 := (hb.cell (p := ⟨q, off + n * 2, none⟩) hlt).trans (hcs n cc).1
                have y2 := (hb.cell (p := ⟨q, off + n * 2 + 1, none⟩) hlt).trans (hcs n cc).2
                have e1 : (0 : Int) ≤ (n : Int) := by omega
                have e2 : (n : Int) < (acc.length : Int) := by omega
                have hv := HO.out.vol _ (List.getElem_mem cc)
                have hmem : (acc[n].1, acc[n].2) ∈ acc := List.getElem_mem cc
                clear hcs
                generalize acc[n].1 = vol at *
                generalize acc[n].2 = num at *
                by_cases cv : 0 ≤ vol
                · obtain ⟨iv, rfl⟩ : ∃ iv : Nat, vol = iv := ⟨vol.toNat, by omega⟩
                  have hiv : iv < V := by omega
                  have x1 := X5.cell iv (by rw [cutList_len]; exact hiv)
                  rw [cutList_get] at x1
                  have hm2 : num ≤ b → num ≤ lastUp b (rowsOf V acc iv) := fun h => (lastUp_ge (rows_sorted HO.out iv) (mem_rows.2 (by rw [key_lt hiv]; exact hmem)) h).1
                  generalize lastUp b (rowsOf V acc iv) = u at *
                  have e3 : (0 : Int) ≤ (iv : Int) := by omega
                  have e4 : (iv : Int) < (V : Int) := by omega
                  clear hmem hv
                  by_cases cn : num < b
                  · have cu := hm2 (by omega)
                    clear hm2
                    go_wp2_with fail
                    go_quiet (fail)
                    go_wp2_with fail
                    go_roundw
                    case rel => exact ⟨n + 1, by simp, by omega, hb.trans (bel_drewN _ _)⟩
                    case measure => simp [intOf]; omega
                  · clear hm2
                    have CN : decide (num < b) = false := by simp; omega
                    go_wp2_with fail
                    go_quiet (fail)
                    go_wp2_with fail
                    go_roundw
                    case rel => exact ⟨n + 1, by simp, by omega, hb.trans (bel_drewN _ _)⟩
                    case measure => simp [intOf]; omega
                · clear hmem hv
                  have CN : decide (0 ≤ vol) = false := by simp; omega
                  go_wp2_with fail
                  go_quiet (fail)
                  go_wp2_with fail
                  go_roundw
                  case rel => exact ⟨n + 1, by simp, by omega, hb.trans (bel_drewN _ _)⟩
                  case measure => simp [intOf]; omega
              · have xlt2 : x < wr.heap.size := by have := hb.size; omega
                go_wp2_with fail
                go_loopw [19] (fun i w' => IdxRel wr V i w') (fun i _ => (V - intOf i).toNat)
                case atStart => exact ⟨0, rfl, by omega, Below.refl _ _⟩
                case round =>
                  obtain ⟨j, rfl, hj, hb2⟩ := hrel
                  have HF2 := HF.trans (hb2.mono HF.size)
                  obtain ⟨bc, bf⟩ := bcell hb2
                  have X6 := X5.below hb2
                  have r1 := (X6.cells (cutList_len _ _ _)).1
                  have r2 := (X6.cells (cutList_len _ _ _)).2
                  have r3 := (bc x 0 xlt2).trans k3
                  clear bc bf
                  by_cases cj : j < V
                  · have x1 := X6.cell j (by rw [cutList_len]; exact cj)
                    rw [cutList_get] at x1
                    have hu := cut_under HO.out (F2.out ok) cj
                    generalize lastUp b (rowsOf V acc j) = u at *
                    have e3 : (0 : Int) ≤ (j : Int) := by omega
                    have e4 : (j : Int) < (V : Int) := by omega
                    go_wp2_with fail
                    go_roundw
                    case rel => exact ⟨j + 1, by simp, by omega, hb2⟩
                    case measure => simp [intOf]; omega
                  · go_wp2_with fail
                    go_ret
                    exact ⟨rfl, HF2⟩
      · have OK : decide (0 < b) = false := by simpa using ok
        rw [OK]
        go_wp2_with fail
        go_loopw [14] (fun i wr => IdxRel w4 N i wr) (fun i _ => (N - intOf i).toNat)
        case atStart => exact ⟨0, rfl, by omega, Below.refl _ _⟩
        case round =>
          obtain ⟨j, rfl, hj, hb⟩ := hrel
          have HF := B4.trans (hb.mono B4.size)
          by_cases cc : j < N
          · have hl1 : j < L.length := by rw [← HNe.out]; exact cc
            obtain ⟨q, off, rfl, hlt, hcs⟩ := HN.out (by omega)
            have y1 := (hb.cell (p := ⟨q, off + j, none⟩) hlt).trans (hcs j (by omega))
            have f1 := F1.out j hl1
            have e1 : (0 : Int) ≤ (j : Int) := by omega
            have e2 : (j : Int) < (N : Int) := by omega
            generalize L[j] = u1 at *
            clear hcs
            have cm : ¬ u1 ≤ m := fun h => by have := (f1 h).1; omega
            clear f1
            go_wp2_with fail
            go_roundw
            case rel => exact ⟨j + 1, by simp, by omega, hb⟩
            case measure => simp [intOf]; omega
          · go_wp2_with fail
            go_ret
            exact ⟨rfl, HF⟩
end Go.Proofs.Yteeokbcnjibpfaa.G
