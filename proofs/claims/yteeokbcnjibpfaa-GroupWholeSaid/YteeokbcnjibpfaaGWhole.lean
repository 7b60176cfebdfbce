/- The walk of GroupWhole. -/
import Derived.Test.YteeokbcnjibpfaaGStart
namespace Go.Proofs.Yteeokbcnjibpfaa.G
open Go.RowKit Go.Proofs.YteeokbcnjibpfaaW.PrintMore Go.Proofs.YteeokbcnjibpfaaW.PrintWords
set_option linter.unusedVariables false
set_option linter.unusedSimpArgs false
def WhRel (w : World) (N : Nat) (i : Value) (wr : World) : Prop := ∃ n : Nat, i = .int .i64 n ∧ n ≤ N ∧ Below w.heap.size w wr
/-- A cut that has the later write has the elder one. -/
theorem whole_pure {V : Nat} {a : List (Int × Int)} (h : Good V a) (m : Int) (i k : Nat) (hi : i < a.length) (hk : k < a.length) (hik : i < k) (u v : Nat) (hu : a[i].1 = u) (hv : a[k].1 = v) (hul : u < V) (hvl : v < V) (hc : lastUp m (rowsOf V a v) ≥ a[k].2) (hm : 0 ≤ m) : a[i].2 ≤ lastUp m (rowsOf V a u) := by
  have h1 : a[k].2 ≤ m := by have := lastUp_le m (rowsOf V a v) hm; omega
  have h2 := List.pairwise_iff_getElem.mp h.sorted i k hi hk hik
  refine (lastUp_ge (rows_sorted h u) (mem_rows.2 ?_) (by omega)).1
  rw [key_lt hul, ← hu]
  exact List.getElem_mem hi
/-- Two events in boxes. -/
structure Pair (wr W : World) (p1 p2 : Nat) (a b c d : Int) : Prop where
  bel : Below wr.heap.size wr W
  x0 : W.cell? ⟨p1, 0, none⟩ = some (.int .i64 a)
  x1 : W.cell? ⟨p1, 1, none⟩ = some (.int .u64 b)
  y0 : W.cell? ⟨p2, 0, none⟩ = some (.int .i64 c)
  y1 : W.cell? ⟨p2, 1, none⟩ = some (.int .u64 d)
theorem pair_new (w : World) (a b c d : Int) : Pair w ((w.alloc (.cells #[.int .i64 a, .int .u64 b] 37)).alloc (.cells #[.int .i64 c, .int .u64 d] 37)).drew w.heap.size (w.heap.size + 1) a b c d := by
  have h1 := heap_alloc_new w (.cells #[.int .i64 a, .int .u64 b] 37)
  have h2 := heap_alloc_new (w.alloc (.cells #[.int .i64 a, .int .u64 b] 37)) (.cells #[.int .i64 c, .int .u64 d] 37)
  have h3 : ((w.alloc (.cells #[.int .i64 a, .int .u64 b] 37)).alloc (.cells #[.int .i64 c, .int .u64 d] 37)).drew.heap[w.heap.size]? = some (.cells #[.int .i64 a, .int .u64 b] 37) := (Below.heap_alloc _ _ _ (by simp)).trans h1
  have h4 : ((w.alloc (.cells #[.int .i64 a, .int .u64 b] 37)).alloc (.cells #[.int .i64 c, .int .u64 d] 37)).drew.heap[w.heap.size + 1]? = some (.cells #[.int .i64 c, .int .u64 d] 37) := by simp only [World.size_alloc] at h2; exact h2
  exact ⟨(((Below.refl _ _).alloc (Nat.le_refl _) _).alloc (by simp) _).trans (bel_drewN _ _ (n := 1)), by simp only [World.cell?, h3]; rfl, by simp only [World.cell?, h3]; rfl, by simp only [World.cell?, h4]; rfl, by simp only [World.cell?, h4]; rfl⟩
theorem Pair.swap {wr W : World} {p1 p2 : Nat} {a b c d : Int} (h : Pair wr W p1 p2 a b c d) : Pair wr W p2 p1 c d a b := ⟨h.bel, h.y0, h.y1, h.x0, h.x1⟩
set_option maxHeartbeats 3200000 in
set_option maxRecDepth 100000 in
theorem whole_ok (v : Int) (A : Option Addr) (k : Nat) (l : List (Int × Int)) (m : Int) (w : World) (hv : -9223372036854775808 ≤ v) (hv' : v ≤ 9223372036854775807) (m0 : 0 ≤ m) (m1 : m ≤ 18446744073709551615) (hm : l.length ≤ maxLen) (hA : EvAt w w.heap.size A l) (hR : Ranged l) :
    Calls Try.prog 3 #[.int .i64 v, .slice A l.length k, .int .u64 m] w fun e w' => e = .returned (.bool true) ∧ Below w.heap.size w w' := by
  have HA := Lib.hid hA
  have HR := Lib.hid hR
  simp only [maxLen] at hm
  clear hA hR
  go_enter Try.func3, Try.ntmps3
  go_wp2_with fail
  refine (awake_ok _).mono ?_
  rintro e w1 ⟨rfl, hb1⟩
  by_cases d1 : 40 < l.length
  · go_wp2_with fail
    go_ret
    exact ⟨rfl, hb1⟩
  go_wp2_with fail
  refine (play_law v _ A k l hv hv' rfl d1 HA.out HR.out hb1).mono ?_
  rintro e w2 ⟨g, gv, x, acc, -, rfl, hat, hG, hlen, hb2⟩
  have B2 := hb1.trans (hb2.mono hb1.size)
  have HG := Lib.hid hat.g
  have HX := Lib.hid hat.r
  have HO := Lib.hid hG
  have V8 := volsOf_le v
  generalize volsOf v = V at *
  clear hat hG hb1 hb2
  by_cases d2 : m = 0
  · subst d2
    go_wp2_with fail
    refine (cut_zero w2).mono ?_
    rintro e w3 ⟨rfl, hb3⟩
    unfold nilS
    have hX := hb3.alloc hb3.size (.cells #[.int .u64 0, .slice none 0 0] 31)
    have B3 := B2.trans (hX.mono B2.size)
    go_wp2_with fail
    generalize w3.alloc (.cells #[.int .u64 0, .slice none 0 0] 31) = W3 at *
    go_quiet (fail)
    go_wp2_with fail
    go_ret
    exact ⟨rfl, B3.trans (bel_drewN _ _)⟩
  have p1 : 0 < m := by omega
  clear d2
  go_wp2_with fail
  refine (cut_box HG.out HO.out hlen m (by omega) (by omega) V8).mono ?_
  rintro e w3 ⟨c3, rfl, X3, hX, -, -⟩
  have B3 := B2.trans (hX.mono B2.size)
  replace HX := Lib.hid (HX.out.below hX)
  obtain ⟨k1, k2⟩ := X3.cells (cutList_len _ _ _)
  have k3 := HX.out.c0
  obtain ⟨A1, c5, k5, hev⟩ := HX.out.evs
  have HE := Lib.hid hev
  clear hev
  go_wp2_with fail
  generalize w3.alloc (.cells #[.int .u64 m, .slice (some ⟨c3, 0, none⟩) V V] 31) = W3 at *
  generalize w3.heap.size = q3 at *
  clear hX
  go_quiet (fail)
  go_wp2_with fail
  go_loopw [12] (fun i wr => WhRel W3 acc.length i wr) (fun i _ => (acc.length - intOf i).toNat)
  case atStart => exact ⟨0, rfl, by omega, bel_drewN _ _⟩
  case round =>
    obtain ⟨i, rfl, hi, hb⟩ := hrel
    have HF := B3.trans (hb.mono B3.size)
    have xlt : x < W3.heap.size := World.block_lt_of_cell? W3 _ k3
    have r5 := (hb.cell (p := ⟨x, 1, none⟩) xlt).trans k5
    by_cases ci : i < acc.length
    · go_wp2_with fail
      go_loopw [13] (fun j w' => ∃ n : Nat, j = .int .i64 n ∧ i < n ∧ n ≤ acc.length ∧ Below W3.heap.size W3 w') (fun j _ => (acc.length - intOf j).toNat)
      case atStart => exact ⟨i + 1, by simp, by omega, by omega, hb⟩
      case round =>
        obtain ⟨j, rfl, hij, hj, hb2⟩ := hrel
        have r6 := (hb2.cell (p := ⟨x, 1, none⟩) xlt).trans k5
        have X4 := X3.below hb2
        obtain ⟨k1, k2⟩ := X4.cells (cutList_len _ _ _)
        by_cases cj : j < acc.length
        · obtain ⟨q, off, rfl, hlt, hcs⟩ := HE.out (by omega)
          have y1 := (hb2.cell (p := ⟨q, off + i * 2, none⟩) hlt).trans (hcs i ci).1
          have y2 := (hb2.cell (p := ⟨q, off + i * 2 + 1, none⟩) hlt).trans (hcs i ci).2
          have y3 := (hb2.cell (p := ⟨q, off + j * 2, none⟩) hlt).trans (hcs j cj).1
          have y4 := (hb2.cell (p := ⟨q, off + j * 2 + 1, none⟩) hlt).trans (hcs j cj).2
          have e1 : (0 : Int) ≤ (i : Int) := by omega
          have e2 : (i : Int) < (acc.length : Int) := by omega
          have e3 : (0 : Int) ≤ (j : Int) := by omega
          have e4 : (j : Int) < (acc.length : Int) := by omega
          have hvi := HO.out.vol _ (List.getElem_mem ci)
          have hvj := HO.out.vol _ (List.getElem_mem cj)
          have hP := Lib.hid (fun u v => whole_pure HO.out m i j ci cj hij u v)
          clear hcs
          generalize acc[i].1 = voli at *
          generalize acc[i].2 = numi at *
          generalize acc[j].1 = volj at *
          generalize acc[j].2 = numj at *
          have zq := X4.lt
          have zc := X4.clt
          have hq2 : q < wr.heap.size := Nat.lt_of_lt_of_le hlt hb2.size
          have hx2 : x < wr.heap.size := Nat.lt_of_lt_of_le xlt hb2.size
          have nq : q ≠ wr.heap.size := by omega
          have nx : x ≠ wr.heap.size := by omega
          have nq1 : q ≠ wr.heap.size + 1 := by omega
          have nx1 : x ≠ wr.heap.size + 1 := by omega
          clear hlt xlt
          go_wp2_with fail
          go_region_held3 (fun w' => w'.cell? ⟨x, 1, none⟩ = some (.slice (some ⟨q, off, none⟩) acc.length c5) ∧ w'.cell? ⟨q, off + i * 2, none⟩ = some (.int .i64 voli) ∧ w'.cell? ⟨q, off + i * 2 + 1, none⟩ = some (.int .u64 numi) ∧ w'.cell? ⟨q, off + j * 2, none⟩ = some (.int .i64 volj) ∧ w'.cell? ⟨q, off + j * 2 + 1, none⟩ = some (.int .u64 numj)) (go_keep) (fail)
          · rename_i hHeld
            clear hHeld nq nx nq1 nx1 hq2 hx2 zq zc
            have PP := pair_new wr voli numi volj numj
            generalize ((wr.alloc (.cells #[.int .i64 voli, .int .u64 numi] 37)).alloc (.cells #[.int .i64 volj, .int .u64 numj] 37)).drew = W at PP ⊢
            have PB := Lib.hid PP.bel
            have z0 := PP.x0
            have z1 := PP.x1
            have z2 := PP.y0
            have z3 := PP.y1
            clear PP
            replace X4 := X4.below PB.out
            replace k1 := (X4.cells (cutList_len _ _ _)).1
            replace k2 := (X4.cells (cutList_len _ _ _)).2
            replace hb2 := hb2.trans (PB.out.mono hb2.size)
            clear PB y1 y2 y3 y4 r5 r6
            have HB2 := Lib.hid hb2
            clear hb2
            by_cases ca : 0 ≤ voli
            · obtain ⟨u, rfl⟩ : ∃ u : Nat, voli = u := ⟨voli.toNat, by omega⟩
              have hu : u < V := by omega
              by_cases cb : 0 ≤ volj
              · obtain ⟨v', rfl⟩ : ∃ u : Nat, volj = u := ⟨volj.toNat, by omega⟩
                have hv3 : v' < V := by omega
                have g1 := X4.cell v' (by rw [cutList_len]; exact hv3)
                have g2 := X4.cell u (by rw [cutList_len]; exact hu)
                rw [cutList_get] at g1 g2
                have P := hP.out u v' rfl rfl hu hv3
                have f1 : (0 : Int) ≤ (u : Int) := by omega
                have f2 : (u : Int) < (V : Int) := by omega
                have f3 : (0 : Int) ≤ (v' : Int) := by omega
                have f4 : (v' : Int) < (V : Int) := by omega
                clear hP hvi hvj
                generalize lastUp m (rowsOf V acc u) = tu at *
                generalize lastUp m (rowsOf V acc v') = tv at *
                by_cases cn : numj ≤ tv
                · have P2 := P cn m0
                  have CN : decide (tu < numi) = false := by simp; omega
                  clear P
                  go_wp2_with fail
                  go_quiet (fail)
                  go_wp2_with fail
                  go_roundw
                  case rel => exact ⟨j + 1, by simp, by omega, by omega, HB2.out.trans (bel_drewN _ _)⟩
                  case measure => simp [intOf]; omega
                · have CN : decide (numj ≤ tv) = false := by simp; omega
                  clear P
                  go_wp2_with fail
                  go_quiet (fail)
                  go_wp2_with fail
                  go_roundw
                  case rel => exact ⟨j + 1, by simp, by omega, by omega, HB2.out.trans (bel_drewN _ _)⟩
                  case measure => simp [intOf]; omega
              · have CN : decide (0 ≤ volj) = false := by simp; omega
                clear hP hvi hvj
                go_wp2_with fail
                go_quiet (fail)
                go_wp2_with fail
                go_roundw
                case rel => exact ⟨j + 1, by simp, by omega, by omega, HB2.out.trans (bel_drewN _ _)⟩
                case measure => simp [intOf]; omega
            · have CN : decide (0 ≤ voli) = false := by simp; omega
              clear hP hvi hvj
              go_wp2_with fail
              go_quiet (fail)
              go_wp2_with fail
              go_roundw
              case rel => exact ⟨j + 1, by simp, by omega, by omega, HB2.out.trans (bel_drewN _ _)⟩
              case measure => simp [intOf]; omega
          · rename_i hHeld
            clear hHeld nq nx nq1 nx1 hq2 hx2 zq zc
            have PP := (pair_new wr volj numj voli numi).swap
            generalize ((wr.alloc (.cells #[.int .i64 volj, .int .u64 numj] 37)).alloc (.cells #[.int .i64 voli, .int .u64 numi] 37)).drew = W at PP ⊢
            have PB := Lib.hid PP.bel
            have z0 := PP.x0
            have z1 := PP.x1
            have z2 := PP.y0
            have z3 := PP.y1
            clear PP
            replace X4 := X4.below PB.out
            replace k1 := (X4.cells (cutList_len _ _ _)).1
            replace k2 := (X4.cells (cutList_len _ _ _)).2
            replace hb2 := hb2.trans (PB.out.mono hb2.size)
            clear PB y1 y2 y3 y4 r5 r6
            have HB2 := Lib.hid hb2
            clear hb2
            by_cases ca : 0 ≤ voli
            · obtain ⟨u, rfl⟩ : ∃ u : Nat, voli = u := ⟨voli.toNat, by omega⟩
              have hu : u < V := by omega
              by_cases cb : 0 ≤ volj
              · obtain ⟨v', rfl⟩ : ∃ u : Nat, volj = u := ⟨volj.toNat, by omega⟩
                have hv3 : v' < V := by omega
                have g1 := X4.cell v' (by rw [cutList_len]; exact hv3)
                have g2 := X4.cell u (by rw [cutList_len]; exact hu)
                rw [cutList_get] at g1 g2
                have P := hP.out u v' rfl rfl hu hv3
                have f1 : (0 : Int) ≤ (u : Int) := by omega
                have f2 : (u : Int) < (V : Int) := by omega
                have f3 : (0 : Int) ≤ (v' : Int) := by omega
                have f4 : (v' : Int) < (V : Int) := by omega
                clear hP hvi hvj
                generalize lastUp m (rowsOf V acc u) = tu at *
                generalize lastUp m (rowsOf V acc v') = tv at *
                by_cases cn : numj ≤ tv
                · have P2 := P cn m0
                  have CN : decide (tu < numi) = false := by simp; omega
                  clear P
                  go_wp2_with fail
                  go_quiet (fail)
                  go_wp2_with fail
                  go_roundw
                  case rel => exact ⟨j + 1, by simp, by omega, by omega, HB2.out.trans (bel_drewN _ _)⟩
                  case measure => simp [intOf]; omega
                · have CN : decide (numj ≤ tv) = false := by simp; omega
                  clear P
                  go_wp2_with fail
                  go_quiet (fail)
                  go_wp2_with fail
                  go_roundw
                  case rel => exact ⟨j + 1, by simp, by omega, by omega, HB2.out.trans (bel_drewN _ _)⟩
                  case measure => simp [intOf]; omega
              · have CN : decide (0 ≤ volj) = false := by simp; omega
                clear hP hvi hvj
                go_wp2_with fail
                go_quiet (fail)
                go_wp2_with fail
                go_roundw
                case rel => exact ⟨j + 1, by simp, by omega, by omega, HB2.out.trans (bel_drewN _ _)⟩
                case measure => simp [intOf]; omega
            · have CN : decide (0 ≤ voli) = false := by simp; omega
              clear hP hvi hvj
              go_wp2_with fail
              go_quiet (fail)
              go_wp2_with fail
              go_roundw
              case rel => exact ⟨j + 1, by simp, by omega, by omega, HB2.out.trans (bel_drewN _ _)⟩
              case measure => simp [intOf]; omega
        · go_wp2_with fail
          go_roundw
          case rel => exact ⟨i + 1, by simp, by omega, hb2⟩
          case measure => simp [intOf]; omega
    · go_wp2_with fail
      go_ret
      exact ⟨rfl, HF⟩
end Go.Proofs.Yteeokbcnjibpfaa.G
