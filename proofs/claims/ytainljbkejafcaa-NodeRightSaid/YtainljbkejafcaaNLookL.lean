/- look of a right leaf, and of a right inner node. -/
import Derived.Test.YtainljbkejafcaaNGrow
import Derived.Test.YtainljbkejafcaaNAwake
import Derived.Test.YtainljbkejafcaaNCls
import Derived.Test.YtainljbkejafcaaNEq
namespace Go.Proofs.Ytainljbkejafcaa.N
open Go.BigFrame Go.RowKit Go.Proofs.YtainljbkejafcaaW.PrintMore Go.Proofs.YtainljbkejafcaaW.PrintWords
set_option linter.unusedVariables false
set_option linter.unusedSimpArgs false
theorem getD_last {ks : List Sp} {j : Nat} (h : ks.length = j + 1) : (ks[ks.length - 1]?).getD sp0 = ks[j]'(by omega) := by
  have e : ks.length - 1 = j := by omega
  simp only [e]
  rw [List.getElem?_eq_getElem (by omega)]
  rfl
def LookX (w : World) (h : Nat) (s : Sp) (e : Ending) (w' : World) : Prop := e = .returned (.tuple #[.int .i64 h, .agg #[.int .i64 s.br, .int .i64 s.vol, .int .i64 s.blk, .int .u64 s.num], .bool true]) ∧ Below w.heap.size w w'
set_option maxHeartbeats 3200000 in
set_option maxRecDepth 100000 in
theorem look_leafN {w : World} {p : Nat} {ks : List Sp} {vs : List Int} (h : Leaf w p ks vs) (d0' : 0 < ks.length) (d4' : ks.length ≤ 4) (hv : vs.length = ks.length) (hr : Rising ks) (root : Bool) (hroot : rightN ks.length root = true) {lst : Sp} (hlst : (ks[ks.length - 1]?).getD sp0 = lst) :
    Calls Try.prog 58 #[.pointer (some ⟨p, 0, none⟩), .bool root] w (LookX w 1 lst) := by
  have HLf := Lib.hid h
  have HR := Lib.hid hr
  have HLst := Lib.hid hlst
  obtain ⟨A, ca, B, cb, hl⟩ := h
  have c0 := hl.c0
  have c1 := hl.c1
  have plt := hl.lt
  have hca := hl.hca
  have hcm := hl.hcm
  simp only [maxLen] at hcm
  rw [hv] at c1
  have hkeys := Lib.hid hl.keys
  obtain ⟨N, hN⟩ : ∃ N, ks.length = N := ⟨_, rfl⟩
  have HN := Lib.hid hN
  have HRoot := Lib.hid hroot
  rw [hN] at c0 c1 hca d0' d4' HRoot
  have d4 : ¬ 4 < N := by omega
  have d0 : ¬ N = 0 := by omega
  clear hl hv hr hN hlst hroot
  have hq := heap_alloc_new w (.cells #[.int .i64 0, .int .i64 0, .int .i64 0, .int .u64 0] 26)
  have hb0 := (Below.refl w.heap.size w).alloc (Nat.le_refl _) (.cells #[.int .i64 0, .int .i64 0, .int .i64 0, .int .u64 0] 26)
  have np : p ≠ w.heap.size := by omega
  have D0 : ((N : Int) == 0) = false := beq_eq_false_iff_ne.2 (by omega)
  obtain ⟨b, off, rfl, hlt, hcs⟩ := hkeys.out (by rw [HN.out]; omega)
  have HC : Hid (∀ j (h : j < N), SpAt w b (off + j * 4) (ks[j]'(by rw [HN.out]; exact h))) := fun j h => hcs j (by rw [HN.out]; exact h)
  have HR2 : Hid (∀ j (h : j + 1 < N), lt (ks[j]'(by rw [HN.out]; omega)) (ks[j + 1]'(by rw [HN.out]; exact h)) = true) := fun j h => HR.out j (by rw [HN.out]; exact h)
  have nb : b ≠ w.heap.size := by omega
  clear hcs hkeys HR
  have HB0 := Lib.hid hb0
  have HQ := Lib.hid hq
  clear hb0 hq
  go_enter Try.func58, Try.ntmps58
  go_wp2_with fail
  all_goals (
    go_loopw [38] (fun i wr => LookRel (w.alloc (.cells #[.int .i64 0, .int .i64 0, .int .i64 0, .int .u64 0] 26)) N i wr) (fun i _ => (N - intOf i).toNat)
    case atStart => exact ⟨0, rfl, by omega, Below.refl _ _⟩
    case round =>
      obtain ⟨j, rfl, hj, hbj⟩ := hrel
      have BJ := HB0.out.trans (hbj.mono HB0.out.size)
      have t0 := (BJ.cell (p := ⟨p, 0, none⟩) plt).trans c0
      have t1 := (BJ.cell (p := ⟨p, 1, none⟩) plt).trans c1
      have hbox := (hbj.block w.heap.size (by simp)).trans HQ.out
      have wsz : w.heap.size < wr.heap.size := (Array.getElem?_eq_some_iff.1 hbox).1
      by_cases cc : j + 1 < N
      · obtain ⟨s0, s1, s2, s3⟩ := (HC.out j (by omega)).below BJ hlt
        obtain ⟨r0, r1, r2, r3⟩ := (HC.out (j + 1) cc).below BJ hlt
        have hlt2 := HR2.out j cc
        have e1 : (0 : Int) ≤ (j : Int) := by omega
        have e2 : (j : Int) + 1 < (N : Int) := by omega
        have e3 : (j : Int) < (N : Int) := by omega
        have e4 : (0 : Int) ≤ (j : Int) + 1 := by omega
        have hw1 : IntKind.i64.wrap ((j : Int) + 1) = (j : Int) + 1 := by rw [IntKind.wrap_i64]; omega
        have hn1 : ((j : Int) + 1).toNat = j + 1 := by omega
        have zp : p < wr.heap.size := by omega
        have zb : b < wr.heap.size := by omega
        generalize ks[j]'(_) = x at *
        generalize ks[j + 1]'(_) = y at *
        have HBf := Lib.hid (fun W => before_at' x y W)
        first
        | (exfalso; omega)
        | (go_wp2_with fail
           go_region_held3 (fun w' => w'.cell? ⟨p, 0, none⟩ = some (.slice (some ⟨b, off, none⟩) N ca) ∧ w'.cell? ⟨b, off + j * 4, none⟩ = some (.int .i64 x.br) ∧ w'.cell? ⟨b, off + j * 4 + 1, none⟩ = some (.int .i64 x.vol) ∧ w'.cell? ⟨b, off + j * 4 + 2, none⟩ = some (.int .i64 x.blk) ∧ w'.cell? ⟨b, off + j * 4 + 3, none⟩ = some (.int .u64 x.num) ∧ w'.cell? ⟨b, off + (j + 1) * 4, none⟩ = some (.int .i64 y.br) ∧ w'.cell? ⟨b, off + (j + 1) * 4 + 1, none⟩ = some (.int .i64 y.vol) ∧ w'.cell? ⟨b, off + (j + 1) * 4 + 2, none⟩ = some (.int .i64 y.blk) ∧ w'.cell? ⟨b, off + (j + 1) * 4 + 3, none⟩ = some (.int .u64 y.num)) (go_keep)
             (first
             | (go_at_call 20; refine (HBf.out _).mono ?_; rintro e w5 ⟨rfl, hb5⟩; rw [hlt2]; replace hb5 := bel_undrew hb5; obtain ⟨bc5, bf5⟩ := bcell hb5))
           go_wp2_with fail
           go_roundw
           case rel => exact ⟨j + 1, by simp, by omega, hbj.trans (hb5.mono hbj.size)⟩
           case measure => simp [intOf]; omega)
      · obtain ⟨s0, s1, s2, s3⟩ := (HC.out j (by omega)).below BJ hlt
        obtain rfl : N = j + 1 := by omega
        have e1 : (0 : Int) ≤ (j : Int) := by omega
        have e3 : (j : Int) < (j : Int) + 1 := by omega
        have e4 : ((j + 1 : Nat) : Int) = (j : Int) + 1 := by omega
        have hw2 : IntKind.i64.wrap ((j : Int) + 1 - 1) = (j : Int) := by rw [IntKind.wrap_i64]; omega
        have hw3 : (j : Int) + 1 - 1 = (j : Int) := by omega
        have hw4 : IntKind.i64.wrap (j : Int) = (j : Int) := by rw [IntKind.wrap_i64]; omega
        have zp : p < wr.heap.size := by omega
        have zb : b < wr.heap.size := by omega
        have hxl : ks[j]'(by rw [HN.out]; omega) = lst := (getD_last HN.out).symm.trans HLst.out
        have HXL := Lib.hid hxl
        clear hxl
        generalize ks[j]'(_) = x at *
        have bx0 : wr.cell? ⟨w.heap.size, 0, none⟩ = some (.int .i64 0) := by simp only [World.cell?, hbox]; rfl
        have bx1 : wr.cell? ⟨w.heap.size, 1, none⟩ = some (.int .i64 0) := by simp only [World.cell?, hbox]; rfl
        have bx2 : wr.cell? ⟨w.heap.size, 2, none⟩ = some (.int .i64 0) := by simp only [World.cell?, hbox]; rfl
        have bx3 : wr.cell? ⟨w.heap.size, 3, none⟩ = some (.int .u64 0) := by simp only [World.cell?, hbox]; rfl
        have np' : w.heap.size ≠ p := by omega
        have nb' : w.heap.size ≠ b := by omega
        have fx : ∀ o, wr.frozen? ⟨w.heap.size, o, none⟩ = false := fun o => by simp only [World.frozen?, hbox]; simp
        go_wp2_with fail
        go_cut [5] (fun s5 wx => s5 = .pointer (some ⟨w.heap.size, 0, none⟩) ∧ Below w.heap.size w wx ∧ wx.heap[w.heap.size]? = some (.cells #[.int .i64 x.br, .int .i64 x.vol, .int .i64 x.blk, .int .u64 x.num] 26))
        case first =>
          go_region_held3 (fun w' => w'.cell? ⟨p, 0, none⟩ = some (.slice (some ⟨b, off, none⟩) (j + 1) ca) ∧ w'.cell? ⟨b, off + j * 4, none⟩ = some (.int .i64 x.br) ∧ w'.cell? ⟨b, off + j * 4 + 1, none⟩ = some (.int .i64 x.vol) ∧ w'.cell? ⟨b, off + j * 4 + 2, none⟩ = some (.int .i64 x.blk) ∧ w'.cell? ⟨b, off + j * 4 + 3, none⟩ = some (.int .u64 x.num)) (go_keep) (fail)
          go_wp2_with fail
          go_meet
          have f4 := set_at (o := 3) (v := .int .u64 x.num) (set_at (o := 2) (v := .int .i64 x.blk) (set_at (o := 1) (v := .int .i64 x.vol) (set_at (o := 0) (v := .int .i64 x.br) hbox)))
          exact ⟨rfl, ((((BJ.setCell (by simp) _).setCell (by simp) _).setCell (by simp) _).setCell (by simp) _).trans (bel_drewN _ _ (n := 1)), f4⟩
        case rest =>
          obtain ⟨rfl, hbw, hbx⟩ := hcut
          clear t0 t1 hbox bx0 bx1 bx2 bx3 fx s0 s1 s2 s3
          have t0 := (hbw.cell (p := ⟨p, 0, none⟩) plt).trans c0
          have t1 := (hbw.cell (p := ⟨p, 1, none⟩) plt).trans c1
          have bx0 : wc.cell? ⟨w.heap.size, 0, none⟩ = some (.int .i64 x.br) := by simp only [World.cell?, hbx]; rfl
          have bx1 : wc.cell? ⟨w.heap.size, 1, none⟩ = some (.int .i64 x.vol) := by simp only [World.cell?, hbx]; rfl
          have bx2 : wc.cell? ⟨w.heap.size, 2, none⟩ = some (.int .i64 x.blk) := by simp only [World.cell?, hbx]; rfl
          have bx3 : wc.cell? ⟨w.heap.size, 3, none⟩ = some (.int .u64 x.num) := by simp only [World.cell?, hbx]; rfl
          have fx : ∀ o, wc.frozen? ⟨w.heap.size, o, none⟩ = false := fun o => by simp only [World.frozen?, hbx]; simp
          go_wp2_with fail
          refine (leaf_yes (HLf.out.below hbw)).mono ?_
          rintro e w6 ⟨rfl, rfl⟩
          go_wp2_with fail
          have HB4 := ((((hbw.setCell (p := ⟨w.heap.size, 0, none⟩) (by simp) (.int .i64 x.br)).setCell (p := ⟨w.heap.size, 1, none⟩) (by simp) (.int .i64 x.vol)).setCell (p := ⟨w.heap.size, 2, none⟩) (by simp) (.int .i64 x.blk)).setCell (p := ⟨w.heap.size, 3, none⟩) (by simp) (.int .u64 x.num))
          have HB5 := HB4.trans (bel_drewN w.heap.size _ (n := 1))
          have hs : rightN (j + 1) false = decide ((j : Int) + 1 > 1) := by
            rw [Bool.eq_iff_iff]; simp only [rightN, Bool.and_eq_true, Bool.or_eq_true, decide_eq_true_eq, Bool.false_eq_true, false_or]; omega
          have hs2 : rightN (j + 1) true = true := by
            simp only [rightN, Bool.and_eq_true, Bool.or_eq_true, decide_eq_true_eq, true_or, and_true]; omega
          cases root
          · first
            | (go_region_held3 (fun w' => w'.cell? ⟨p, 0, none⟩ = some (.slice (some ⟨b, off, none⟩) (j + 1) ca) ∧ w'.cell? ⟨p, 1, none⟩ = some (.slice B (j + 1) cb) ∧ w'.cell? ⟨w.heap.size, 0, none⟩ = some (.int .i64 x.br) ∧ w'.cell? ⟨w.heap.size, 1, none⟩ = some (.int .i64 x.vol) ∧ w'.cell? ⟨w.heap.size, 2, none⟩ = some (.int .i64 x.blk) ∧ w'.cell? ⟨w.heap.size, 3, none⟩ = some (.int .u64 x.num)) (simp [*, World.cell?_alloc_some, World.cell?_setCell_far, World.cell?_setCell_same', cell_off]) (fail)
               go_wp2_with fail
               refine bodyPost_ret (v := .tuple #[.int .i64 1, .agg #[.int .i64 x.br, .int .i64 x.vol, .int .i64 x.blk, .int .u64 x.num], .bool (rightN (j + 1) false)]) (by rw [results_tct rfl, hs]; go_simp) rfl ?_
               exact ⟨by rw [HRoot.out, ← HXL.out]; rfl, HB5⟩)
            | fail
          · refine wp_region_held_drew (S := (fun w' => w'.cell? ⟨p, 0, none⟩ = some (.slice (some ⟨b, off, none⟩) (j + 1) ca) ∧ w'.cell? ⟨p, 1, none⟩ = some (.slice B (j + 1) cb) ∧ w'.cell? ⟨w.heap.size, 0, none⟩ = some (.int .i64 x.br) ∧ w'.cell? ⟨w.heap.size, 1, none⟩ = some (.int .i64 x.vol) ∧ w'.cell? ⟨w.heap.size, 2, none⟩ = some (.int .i64 x.blk) ∧ w'.cell? ⟨w.heap.size, 3, none⟩ = some (.int .u64 x.num))) (by kernel_rfl) (by (try dsimp only); simp [*, World.cell?_alloc_some, World.cell?_setCell_far, World.cell?_setCell_same', cell_off]) (fun hHeld => ?_)
            refine take_at (i := 0) (v := .agg #[.int .i64 x.br, .int .i64 x.vol, .int .i64 x.blk, .int .u64 x.num]) rfl (by kernel_rfl) (by kernel_rfl) (by kernel_rfl) (fun _ _ _ h => h) (Or.inl ⟨by rfl, by intro w' hSw; (try dsimp only at hSw); go_simp⟩) (by assumption) ?_
            try simp only [Act.put, List.setIfInBounds_toArray, List.set_cons_zero, List.set_cons_succ]
            refine take_at (i := 1) (v := .pointer (some ⟨p, 0, none⟩)) rfl (by kernel_rfl) (by kernel_rfl) (by kernel_rfl) (fun _ _ _ h => h) (Or.inl ⟨by rfl, by intro w' hSw; (try dsimp only at hSw); go_simp⟩) (by assumption) ?_
            try simp only [Act.put, List.setIfInBounds_toArray, List.set_cons_zero, List.set_cons_succ]
            refine take_at (i := 2) (v := .pointer (some ⟨p, 0, none⟩)) rfl (by kernel_rfl) (by kernel_rfl) (by kernel_rfl) (fun _ _ _ h => h) (Or.inl ⟨by rfl, by intro w' hSw; (try dsimp only at hSw); go_simp⟩) (by assumption) ?_
            try simp only [Act.put, List.setIfInBounds_toArray, List.set_cons_zero, List.set_cons_succ]
            refine take_at (i := 3) (v := .pointer (some ⟨p, 1, none⟩)) rfl (by kernel_rfl) (by kernel_rfl) (by kernel_rfl) (fun _ _ _ h => h) (Or.inl ⟨by rfl, by intro w' hSw; (try dsimp only at hSw); go_simp⟩) (by assumption) ?_
            try simp only [Act.put, List.setIfInBounds_toArray, List.set_cons_zero, List.set_cons_succ]
            refine take_at (i := 4) (v := .slice B (j + 1) cb) rfl (by kernel_rfl) (by kernel_rfl) (by kernel_rfl) (fun _ _ _ h => h) (Or.inl ⟨by rfl, by intro w' hSw; (try dsimp only at hSw); go_simp⟩) (by assumption) ?_
            try simp only [Act.put, List.setIfInBounds_toArray, List.set_cons_zero, List.set_cons_succ]
            refine take_at (i := 5) (v := .int .i64 ((j : Int) + 1)) rfl (by kernel_rfl) (by kernel_rfl) (by kernel_rfl) (fun _ _ _ h => h) (Or.inl ⟨by rfl, by intro w' hSw; (try dsimp only at hSw); go_simp⟩) (by assumption) ?_
            try simp only [Act.put, List.setIfInBounds_toArray, List.set_cons_zero, List.set_cons_succ]
            refine take_at (i := 6) (v := .pointer (some ⟨p, 0, none⟩)) rfl (by kernel_rfl) (by kernel_rfl) (by kernel_rfl) (fun _ _ _ h => h) (Or.inl ⟨by rfl, by intro w' hSw; (try dsimp only at hSw); go_simp⟩) (by assumption) ?_
            try simp only [Act.put, List.setIfInBounds_toArray, List.set_cons_zero, List.set_cons_succ]
            refine take_at (i := 7) (v := .pointer (some ⟨p, 0, none⟩)) rfl (by kernel_rfl) (by kernel_rfl) (by kernel_rfl) (fun _ _ _ h => h) (Or.inl ⟨by rfl, by intro w' hSw; (try dsimp only at hSw); go_simp⟩) (by assumption) ?_
            try simp only [Act.put, List.setIfInBounds_toArray, List.set_cons_zero, List.set_cons_succ]
            refine take_at (i := 8) (v := .pointer (some ⟨p, 0, none⟩)) rfl (by kernel_rfl) (by kernel_rfl) (by kernel_rfl) (fun _ _ _ h => h) (Or.inl ⟨by rfl, by intro w' hSw; (try dsimp only at hSw); go_simp⟩) (by assumption) ?_
            try simp only [Act.put, List.setIfInBounds_toArray, List.set_cons_zero, List.set_cons_succ]
            refine take_at (i := 9) (v := .slice (some ⟨b, off, none⟩) (j + 1) ca) rfl (by kernel_rfl) (by kernel_rfl) (by kernel_rfl) (fun _ _ _ h => h) (Or.inl ⟨by rfl, by intro w' hSw; (try dsimp only at hSw); go_simp⟩) (by assumption) ?_
            try simp only [Act.put, List.setIfInBounds_toArray, List.set_cons_zero, List.set_cons_succ]
            refine take_at (i := 10) (v := .int .i64 ((j : Int) + 1)) rfl (by kernel_rfl) (by kernel_rfl) (by kernel_rfl) (fun _ _ _ h => h) (Or.inl ⟨by rfl, by intro w' hSw; (try dsimp only at hSw); go_simp⟩) (by assumption) ?_
            try simp only [Act.put, List.setIfInBounds_toArray, List.set_cons_zero, List.set_cons_succ]
            refine take_at (i := 11) (v := .bool true) rfl (by kernel_rfl) (by kernel_rfl) (by kernel_rfl) (fun _ _ _ h => h) (Or.inl ⟨by rfl, by intro w' hSw; (try dsimp only at hSw); go_simp⟩) (by assumption) ?_
            try simp only [Act.put, List.setIfInBounds_toArray, List.set_cons_zero, List.set_cons_succ]
            refine take_at (i := 12) (v := .bool true) rfl (by kernel_rfl) (by kernel_rfl) (by kernel_rfl) (fun _ _ _ h => h) (Or.inl ⟨by rfl, by intro w' hSw; (try dsimp only at hSw); go_simp⟩) (by assumption) ?_
            try simp only [Act.put, List.setIfInBounds_toArray, List.set_cons_zero, List.set_cons_succ]
            refine take_at (i := 13) (v := .bool true) rfl (by kernel_rfl) (by kernel_rfl) (by kernel_rfl) (fun _ _ _ h => h) (Or.inl ⟨by rfl, by intro w' hSw; (try dsimp only at hSw); go_simp⟩) (by assumption) ?_
            try simp only [Act.put, List.setIfInBounds_toArray, List.set_cons_zero, List.set_cons_succ]
            refine take_at (i := 14) (v := .bool true) rfl (by kernel_rfl) (by kernel_rfl) (by kernel_rfl) (fun _ _ _ h => h) (Or.inl ⟨by rfl, by intro w' hSw; (try dsimp only at hSw); go_simp⟩) (by assumption) ?_
            try simp only [Act.put, List.setIfInBounds_toArray, List.set_cons_zero, List.set_cons_succ]
            refine take_at (i := 15) (v := undef) rfl (by kernel_rfl) (by kernel_rfl) (by kernel_rfl) (fun _ _ _ h => h) (Or.inr ⟨by rfl, rfl⟩) (by assumption) ?_
            try simp only [Act.put, List.setIfInBounds_toArray, List.set_cons_zero, List.set_cons_succ]
            refine take_at (i := 16) (v := undef) rfl (by kernel_rfl) (by kernel_rfl) (by kernel_rfl) (fun _ _ _ h => h) (Or.inr ⟨by rfl, rfl⟩) (by assumption) ?_
            try simp only [Act.put, List.setIfInBounds_toArray, List.set_cons_zero, List.set_cons_succ]
            refine take_at (i := 17) (v := undef) rfl (by kernel_rfl) (by kernel_rfl) (by kernel_rfl) (fun _ _ _ h => h) (Or.inr ⟨by rfl, rfl⟩) (by assumption) ?_
            try simp only [Act.put, List.setIfInBounds_toArray, List.set_cons_zero, List.set_cons_succ]
            refine take_at (i := 18) (v := undef) rfl (by kernel_rfl) (by kernel_rfl) (by kernel_rfl) (fun _ _ _ h => h) (Or.inr ⟨by rfl, rfl⟩) (by assumption) ?_
            try simp only [Act.put, List.setIfInBounds_toArray, List.set_cons_zero, List.set_cons_succ]
            refine take_at (i := 19) (v := undef) rfl (by kernel_rfl) (by kernel_rfl) (by kernel_rfl) (fun _ _ _ h => h) (Or.inr ⟨by rfl, rfl⟩) (by assumption) ?_
            try simp only [Act.put, List.setIfInBounds_toArray, List.set_cons_zero, List.set_cons_succ]
            refine take_at (i := 20) (v := undef) rfl (by kernel_rfl) (by kernel_rfl) (by kernel_rfl) (fun _ _ _ h => h) (Or.inr ⟨by rfl, rfl⟩) (by assumption) ?_
            try simp only [Act.put, List.setIfInBounds_toArray, List.set_cons_zero, List.set_cons_succ]
            refine take_at (i := 21) (v := .bool true) rfl (by kernel_rfl) (by kernel_rfl) (by kernel_rfl) (fun _ _ _ h => h) (Or.inl ⟨by rfl, by intro w' hSw; (try dsimp only at hSw); go_simp⟩) (by assumption) ?_
            try simp only [Act.put, List.setIfInBounds_toArray, List.set_cons_zero, List.set_cons_succ]
            refine take_at (i := 22) (v := .bool true) rfl (by kernel_rfl) (by kernel_rfl) (by kernel_rfl) (fun _ _ _ h => h) (Or.inl ⟨by rfl, by intro w' hSw; (try dsimp only at hSw); go_simp⟩) (by assumption) ?_
            try simp only [Act.put, List.setIfInBounds_toArray, List.set_cons_zero, List.set_cons_succ]
            refine take_at (i := 23) (v := .int .i64 1) rfl (by kernel_rfl) (by kernel_rfl) (by kernel_rfl) (fun _ _ _ h => h) (Or.inl ⟨by rfl, by intro w' hSw; (try dsimp only at hSw); go_simp⟩) (by assumption) ?_
            try simp only [Act.put, List.setIfInBounds_toArray, List.set_cons_zero, List.set_cons_succ]
            refine one_at (i := 24) rfl (by kernel_rfl) (by rfl) (fun K hK => ?_)
            go_simp
            refine hK.out _ _ (by simp [*, World.cell?_alloc_some, World.cell?_setCell_far, World.cell?_setCell_same', cell_off]) (fun hHeld => ?_)
            refine take_at (i := 25) (v := .bool true) rfl (by kernel_rfl) (by kernel_rfl) (by kernel_rfl) (fun _ _ _ h => h) (Or.inl ⟨by rfl, by intro w' hSw; (try dsimp only at hSw); go_simp⟩) (by assumption) ?_
            try simp only [Act.put, List.setIfInBounds_toArray, List.set_cons_zero, List.set_cons_succ]
            refine wpAnyH_done (by kernel_rfl) ?_ _
            try simp only [Act.put, List.setIfInBounds_toArray, List.set_cons_zero, List.set_cons_succ]
            clear hK K
            go_wp2_with fail
            refine bodyPost_ret (v := .tuple #[.int .i64 1, .agg #[.int .i64 x.br, .int .i64 x.vol, .int .i64 x.blk, .int .u64 x.num], .bool (rightN (j + 1) true)]) (by rw [results_tct rfl, hs2]; go_simp) rfl ?_
            exact ⟨by rw [HRoot.out, ← HXL.out]; rfl, HB5⟩)
end Go.Proofs.Ytainljbkejafcaa.N
