/- look of a node that is not right. -/
import Derived.Test.YtainljbkejafcaaNLookN
namespace Go.Proofs.Ytainljbkejafcaa.N
open Go.BigFrame Go.RowKit Go.Proofs.YtainljbkejafcaaW.PrintMore Go.Proofs.YtainljbkejafcaaW.PrintWords
set_option linter.unusedVariables false
set_option linter.unusedSimpArgs false
def LookF (w : World) (e : Ending) (w' : World) : Prop := (∃ (h : Int) (s : Sp), e = .returned (.tuple #[.int .i64 h, .agg #[.int .i64 s.br, .int .i64 s.vol, .int .i64 s.blk, .int .u64 s.num], .bool false])) ∧ Below w.heap.size w w'
/-- Any node in memory. -/
structure AnyAt (w : World) (p : Nat) (ks : List Sp) (V Q : Nat) (A : Option Addr) (ca : Nat) (B : Option Addr) (cb : Nat) (C : Option Addr) (cc : Nat) : Prop where
  c0 : w.cell? ⟨p, 0, none⟩ = some (.slice A ks.length ca)
  c1 : w.cell? ⟨p, 1, none⟩ = some (.slice B V cb)
  c2 : w.cell? ⟨p, 2, none⟩ = some (.slice C Q cc)
  keys : SpotsAt w A ks
  hca : ks.length ≤ ca
  hcm : ca ≤ maxLen
set_option maxHeartbeats 3200000 in
set_option maxRecDepth 100000 in
theorem leaf_any {w : World} {p Q cc : Nat} {C : Option Addr} (c2 : w.cell? ⟨p, 2, none⟩ = some (.slice C Q cc)) : Calls Try.prog 26 #[.pointer (some ⟨p, 0, none⟩)] w fun e w' => e = .returned (.bool (Q == 0)) ∧ w = w' := by
  go_enter Try.func26, Try.ntmps26
  by_cases h : Q = 0
  · subst h
    go_wp2_with fail
    go_ret
    exact ⟨rfl, rfl⟩
  · have h1 : (Q == 0) = false := by rw [beq_eq_false_iff_ne]; omega
    have h2 : ((Q : Int) == 0) = false := by rw [beq_eq_false_iff_ne]; omega
    rw [h1]
    go_wp2_with fail
    go_ret
    exact ⟨rfl, rfl⟩
set_option maxHeartbeats 3200000 in
set_option maxRecDepth 100000 in
theorem look_count {w : World} {p N ca : Nat} {A : Option Addr} (c0 : w.cell? ⟨p, 0, none⟩ = some (.slice A N ca)) (hb : N = 0 ∨ 4 < N) (root : Bool) :
    Calls Try.prog 58 #[.pointer (some ⟨p, 0, none⟩), .bool root] w (LookF w) := by
  have hb0 := (Below.refl w.heap.size w).alloc (Nat.le_refl _) (.cells #[.int .i64 0, .int .i64 0, .int .i64 0, .int .u64 0] 26)
  have plt := World.block_lt_of_cell? _ _ c0
  have np : p ≠ w.heap.size := by simp only at plt; omega
  rcases hb with d0 | d4
  · subst d0
    go_enter Try.func58, Try.ntmps58
    go_wp2_with fail
    go_region_with fail
    go_wp2_with fail
    refine bodyPost_ret (v := .tuple #[.int .i64 0, .agg #[.int .i64 0, .int .i64 0, .int .i64 0, .int .u64 0], .bool false]) (by rw [results_tct rfl]; go_simp) rfl ?_
    exact ⟨⟨0, zeroSp, rfl⟩, hb0.trans (bel_drewN _ _ (n := 1))⟩
  · have D0 : ((N : Int) == 0) = false := beq_eq_false_iff_ne.2 (by omega)
    go_enter Try.func58, Try.ntmps58
    go_wp2_with fail
    go_region_with fail
    go_wp2_with fail
    refine bodyPost_ret (v := .tuple #[.int .i64 0, .agg #[.int .i64 0, .int .i64 0, .int .i64 0, .int .u64 0], .bool false]) (by rw [results_tct rfl]; go_simp) rfl ?_
    exact ⟨⟨0, zeroSp, rfl⟩, hb0.trans (bel_drewN _ _ (n := 1))⟩
def OrdRel (j0 : Nat) (W : World) (n : Nat) (i : Value) (wr : World) : Prop := ∃ j : Nat, i = .int .i64 j ∧ j + 1 ≤ n ∧ j ≤ j0 ∧ Below W.heap.size W wr
set_option maxHeartbeats 3200000 in
set_option maxRecDepth 100000 in
/-- Its keys do not rise at j0. -/
theorem look_order {w : World} {p V Q ca cb cc : Nat} {ks : List Sp} {A B C : Option Addr} (h : AnyAt w p ks V Q A ca B cb C cc) (h1 : 1 ≤ ks.length) (h4 : ks.length ≤ 4) (j0 : Nat) (hj0 : j0 + 1 < ks.length) (hr : ∀ j (h : j < j0), lt (ks[j]'(by omega)) (ks[j + 1]'(by omega)) = true) (hbad : lt (ks[j0]'(by omega)) (ks[j0 + 1]'(by omega)) = false) (root : Bool) :
    Calls Try.prog 58 #[.pointer (some ⟨p, 0, none⟩), .bool root] w (LookF w) := by
  have HAny := Lib.hid h
  have HR := Lib.hid hr
  have c0 := h.c0
  have c1 := h.c1
  have c2 := h.c2
  have plt : p < w.heap.size := World.block_lt_of_cell? _ _ c0
  have hca := h.hca
  have hcm := h.hcm
  simp only [maxLen] at hcm
  have hkeys := Lib.hid h.keys
  obtain ⟨N, hN⟩ : ∃ N, ks.length = N := ⟨_, rfl⟩
  have HN := Lib.hid hN
  rw [hN] at c0 hca h1 h4
  have d4 : ¬ 4 < N := by omega
  have d0 : ¬ N = 0 := by omega
  have hj0' : j0 + 1 < N := by omega
  have HBad := Lib.hid hbad
  clear hr hN hbad h
  have hq := heap_alloc_new w (.cells #[.int .i64 0, .int .i64 0, .int .i64 0, .int .u64 0] 26)
  have hb0 := (Below.refl w.heap.size w).alloc (Nat.le_refl _) (.cells #[.int .i64 0, .int .i64 0, .int .i64 0, .int .u64 0] 26)
  have np : p ≠ w.heap.size := by omega
  have D0 : ((N : Int) == 0) = false := beq_eq_false_iff_ne.2 (by omega)
  obtain ⟨b, off, rfl, hlt, hcs⟩ := hkeys.out (by rw [HN.out]; omega)
  have HC : Hid (∀ j (h : j < N), SpAt w b (off + j * 4) (ks[j]'(by rw [HN.out]; exact h))) := fun j h => hcs j (by rw [HN.out]; exact h)
  have nb : b ≠ w.heap.size := by omega
  clear hcs hkeys
  have HB0 := Lib.hid hb0
  have HQ := Lib.hid hq
  clear hb0 hq
  go_enter Try.func58, Try.ntmps58
  go_wp2_with fail
  all_goals (
    go_loopw [38] (fun i wr => OrdRel j0 (w.alloc (.cells #[.int .i64 0, .int .i64 0, .int .i64 0, .int .u64 0] 26)) N i wr) (fun i _ => (N - intOf i).toNat)
    case atStart => exact ⟨0, rfl, by omega, by omega, Below.refl _ _⟩
    case round =>
      obtain ⟨j, rfl, hj, hjj, hbj⟩ := hrel
      have BJ := HB0.out.trans (hbj.mono HB0.out.size)
      have t0 := (BJ.cell (p := ⟨p, 0, none⟩) plt).trans c0
      have t1 := (BJ.cell (p := ⟨p, 1, none⟩) plt).trans c1
      have hbox := (hbj.block w.heap.size (by simp)).trans HQ.out
      have wsz : w.heap.size < wr.heap.size := (Array.getElem?_eq_some_iff.1 hbox).1
      have cc : j + 1 < N := by omega
      by_cases hjl : j < j0
      · skip
        obtain ⟨s0, s1, s2, s3⟩ := (HC.out j (by omega)).below BJ hlt
        obtain ⟨r0, r1, r2, r3⟩ := (HC.out (j + 1) cc).below BJ hlt
        have hlt2 := HR.out j hjl
        have e1 : (0 : Int) ≤ (j : Int) := by omega
        have e2 : (j : Int) + 1 < (N : Int) := by omega
        have e3 : (j : Int) < (N : Int) := by omega
        have e4 : (0 : Int) ≤ (j : Int) + 1 := by omega
        have hw1 : IntKind.i64.wrap ((j : Int) + 1) = (j : Int) + 1 := by rw [IntKind.wrap_i64]; omega
        have hn1 : ((j : Int) + 1).toNat = j + 1 := by omega
        have zp : p < wr.heap.size := by omega
        have zb : b < wr.heap.size := by omega
        generalize ks[j]'(_) = x at *
        generalize ks[j + 1]'(_) = y at *
        have HBf := Lib.hid (fun W => before_at' x y W)
        first
        | (exfalso; omega)
        | (go_wp2_with fail
           go_region_held3 (fun w' => w'.cell? ⟨p, 0, none⟩ = some (.slice (some ⟨b, off, none⟩) N ca) ∧ w'.cell? ⟨b, off + j * 4, none⟩ = some (.int .i64 x.br) ∧ w'.cell? ⟨b, off + j * 4 + 1, none⟩ = some (.int .i64 x.vol) ∧ w'.cell? ⟨b, off + j * 4 + 2, none⟩ = some (.int .i64 x.blk) ∧ w'.cell? ⟨b, off + j * 4 + 3, none⟩ = some (.int .u64 x.num) ∧ w'.cell? ⟨b, off + (j + 1) * 4, none⟩ = some (.int .i64 y.br) ∧ w'.cell? ⟨b, off + (j + 1) * 4 + 1, none⟩ = some (.int .i64 y.vol) ∧ w'.cell? ⟨b, off + (j + 1) * 4 + 2, none⟩ = some (.int .i64 y.blk) ∧ w'.cell? ⟨b, off + (j + 1) * 4 + 3, none⟩ = some (.int .u64 y.num)) (go_keep)
             (first
             | (go_at_call 20; refine (HBf.out _).mono ?_; rintro e w5 ⟨rfl, hb5⟩; rw [hlt2]; replace hb5 := bel_undrew hb5; obtain ⟨bc5, bf5⟩ := bcell hb5))
           go_wp2_with fail
           go_roundw
           case rel => exact ⟨j + 1, by simp, by omega, by omega, hbj.trans (hb5.mono hbj.size)⟩
           case measure => simp [intOf]; omega)
      · obtain rfl : j = j0 := by omega
        obtain ⟨s0, s1, s2, s3⟩ := (HC.out j (by omega)).below BJ hlt
        obtain ⟨r0, r1, r2, r3⟩ := (HC.out (j + 1) cc).below BJ hlt
        have hlt2 := HBad.out
        have e1 : (0 : Int) ≤ (j : Int) := by omega
        have e2 : (j : Int) + 1 < (N : Int) := by omega
        have e3 : (j : Int) < (N : Int) := by omega
        have e4 : (0 : Int) ≤ (j : Int) + 1 := by omega
        have hw1 : IntKind.i64.wrap ((j : Int) + 1) = (j : Int) + 1 := by rw [IntKind.wrap_i64]; omega
        have hn1 : ((j : Int) + 1).toNat = j + 1 := by omega
        have zp : p < wr.heap.size := by omega
        have zb : b < wr.heap.size := by omega
        generalize ks[j]'(_) = x at *
        generalize ks[j + 1]'(_) = y at *
        have HBf := Lib.hid (fun W => before_at' x y W)
        go_wp2_with fail
        go_region_held3 (fun w' => w'.cell? ⟨p, 0, none⟩ = some (.slice (some ⟨b, off, none⟩) N ca) ∧ w'.cell? ⟨b, off + j * 4, none⟩ = some (.int .i64 x.br) ∧ w'.cell? ⟨b, off + j * 4 + 1, none⟩ = some (.int .i64 x.vol) ∧ w'.cell? ⟨b, off + j * 4 + 2, none⟩ = some (.int .i64 x.blk) ∧ w'.cell? ⟨b, off + j * 4 + 3, none⟩ = some (.int .u64 x.num) ∧ w'.cell? ⟨b, off + (j + 1) * 4, none⟩ = some (.int .i64 y.br) ∧ w'.cell? ⟨b, off + (j + 1) * 4 + 1, none⟩ = some (.int .i64 y.vol) ∧ w'.cell? ⟨b, off + (j + 1) * 4 + 2, none⟩ = some (.int .i64 y.blk) ∧ w'.cell? ⟨b, off + (j + 1) * 4 + 3, none⟩ = some (.int .u64 y.num)) (go_keep)
          (first
             | (go_at_call 20; refine (HBf.out _).mono ?_; rintro e w5 ⟨rfl, hb5⟩; rw [hlt2]; replace hb5 := bel_undrew hb5; obtain ⟨bc5, bf5⟩ := bcell hb5))
        go_wp2_with fail
        have hbox5 := (hb5.block w.heap.size wsz).trans hbox
        have HB6 := Lib.hid (BJ.trans (hb5.mono BJ.size))
        clear hb5 bc5 bf5 s0 s1 s2 s3 r0 r1 r2 r3 t0 t1 hbox
        have b0 : w5.cell? ⟨w.heap.size, 0, none⟩ = some (.int .i64 0) := by simp only [World.cell?, hbox5]; rfl
        have b1 : w5.cell? ⟨w.heap.size, 1, none⟩ = some (.int .i64 0) := by simp only [World.cell?, hbox5]; rfl
        have b2 : w5.cell? ⟨w.heap.size, 2, none⟩ = some (.int .i64 0) := by simp only [World.cell?, hbox5]; rfl
        have b3 : w5.cell? ⟨w.heap.size, 3, none⟩ = some (.int .u64 0) := by simp only [World.cell?, hbox5]; rfl
        have fx : ∀ o, w5.frozen? ⟨w.heap.size, o, none⟩ = false := fun o => by simp only [World.frozen?, hbox5]; simp
        clear hbox5
        go_region_held3 (fun w' => w'.cell? ⟨w.heap.size, 0, none⟩ = some (.int .i64 0) ∧ w'.cell? ⟨w.heap.size, 1, none⟩ = some (.int .i64 0) ∧ w'.cell? ⟨w.heap.size, 2, none⟩ = some (.int .i64 0) ∧ w'.cell? ⟨w.heap.size, 3, none⟩ = some (.int .u64 0)) (simp [*, World.cell?_alloc_some, World.cell?_setCell_far, World.cell?_setCell_same', cell_off]) (fail)
        go_wp2_with fail
        refine bodyPost_ret (v := .tuple #[.int .i64 0, .agg #[.int .i64 0, .int .i64 0, .int .i64 0, .int .u64 0], .bool false]) (by rw [results_tct rfl]; go_simp) rfl ?_
        exact ⟨⟨0, zeroSp, rfl⟩, ((((HB6.out.setCell (by simp) _).setCell (by simp) _).setCell (by simp) _).setCell (by simp) _).trans (bel_drewN _ _ (n := 1))⟩
        )
set_option maxHeartbeats 25600000 in
set_option maxRecDepth 100000 in
/-- As many values, or kids, as no right node has. -/
theorem look_shape {w : World} {p V Q ca cb cc : Nat} {ks : List Sp} {A B C : Option Addr} (h : AnyAt w p ks V Q A ca B cb C cc) (h1 : 1 ≤ ks.length) (h4 : ks.length ≤ 4) (hr : Rising ks) (hbad : (Q = 0 ∧ V ≠ ks.length) ∨ Q = 1 ∨ (2 ≤ Q ∧ Q ≠ ks.length) ∨ (2 ≤ Q ∧ Q = ks.length ∧ 0 < V)) (root : Bool) :
    Calls Try.prog 58 #[.pointer (some ⟨p, 0, none⟩), .bool root] w (LookF w) := by
  have HAny := Lib.hid h
  have HR := Lib.hid hr
  have c0 := h.c0
  have c1 := h.c1
  have c2 := h.c2
  have plt : p < w.heap.size := World.block_lt_of_cell? _ _ c0
  have hca := h.hca
  have hcm := h.hcm
  simp only [maxLen] at hcm
  have hkeys := Lib.hid h.keys
  obtain ⟨N, hN⟩ : ∃ N, ks.length = N := ⟨_, rfl⟩
  have HN := Lib.hid hN
  rw [hN] at c0 hca h1 h4
  have d4 : ¬ 4 < N := by omega
  have d0 : ¬ N = 0 := by omega
  rw [hN] at hbad
  have HBad := Lib.hid hbad
  clear hr hN hbad h
  have hq := heap_alloc_new w (.cells #[.int .i64 0, .int .i64 0, .int .i64 0, .int .u64 0] 26)
  have hb0 := (Below.refl w.heap.size w).alloc (Nat.le_refl _) (.cells #[.int .i64 0, .int .i64 0, .int .i64 0, .int .u64 0] 26)
  have np : p ≠ w.heap.size := by omega
  have D0 : ((N : Int) == 0) = false := beq_eq_false_iff_ne.2 (by omega)
  obtain ⟨b, off, rfl, hlt, hcs⟩ := hkeys.out (by rw [HN.out]; omega)
  have HC : Hid (∀ j (h : j < N), SpAt w b (off + j * 4) (ks[j]'(by rw [HN.out]; exact h))) := fun j h => hcs j (by rw [HN.out]; exact h)
  have HR2 : Hid (∀ j (h : j + 1 < N), lt (ks[j]'(by rw [HN.out]; omega)) (ks[j + 1]'(by rw [HN.out]; exact h)) = true) := fun j h => HR.out j (by rw [HN.out]; exact h)
  have nb : b ≠ w.heap.size := by omega
  clear hcs hkeys HR
  have HB0 := Lib.hid hb0
  have HQ := Lib.hid hq
  clear hb0 hq
  go_enter Try.func58, Try.ntmps58
  go_wp2_with fail
  all_goals (
    go_loopw [38] (fun i wr => LookRel (w.alloc (.cells #[.int .i64 0, .int .i64 0, .int .i64 0, .int .u64 0] 26)) N i wr) (fun i _ => (N - intOf i).toNat)
    case atStart => exact ⟨0, rfl, by omega, Below.refl _ _⟩
    case round =>
      obtain ⟨j, rfl, hj, hbj⟩ := hrel
      have BJ := HB0.out.trans (hbj.mono HB0.out.size)
      have t0 := (BJ.cell (p := ⟨p, 0, none⟩) plt).trans c0
      have t1 := (BJ.cell (p := ⟨p, 1, none⟩) plt).trans c1
      have hbox := (hbj.block w.heap.size (by simp)).trans HQ.out
      have wsz : w.heap.size < wr.heap.size := (Array.getElem?_eq_some_iff.1 hbox).1
      by_cases cc : j + 1 < N
      · obtain ⟨s0, s1, s2, s3⟩ := (HC.out j (by omega)).below BJ hlt
        obtain ⟨r0, r1, r2, r3⟩ := (HC.out (j + 1) cc).below BJ hlt
        have hlt2 := HR2.out j cc
        have e1 : (0 : Int) ≤ (j : Int) := by omega
        have e2 : (j : Int) + 1 < (N : Int) := by omega
        have e3 : (j : Int) < (N : Int) := by omega
        have e4 : (0 : Int) ≤ (j : Int) + 1 := by omega
        have hw1 : IntKind.i64.wrap ((j : Int) + 1) = (j : Int) + 1 := by rw [IntKind.wrap_i64]; omega
        have hn1 : ((j : Int) + 1).toNat = j + 1 := by omega
        have zp : p < wr.heap.size := by omega
        have zb : b < wr.heap.size := by omega
        generalize ks[j]'(_) = x at *
        generalize ks[j + 1]'(_) = y at *
        have HBf := Lib.hid (fun W => before_at' x y W)
        first
        | (exfalso; omega)
        | (go_wp2_with fail
           go_region_held3 (fun w' => w'.cell? ⟨p, 0, none⟩ = some (.slice (some ⟨b, off, none⟩) N ca) ∧ w'.cell? ⟨b, off + j * 4, none⟩ = some (.int .i64 x.br) ∧ w'.cell? ⟨b, off + j * 4 + 1, none⟩ = some (.int .i64 x.vol) ∧ w'.cell? ⟨b, off + j * 4 + 2, none⟩ = some (.int .i64 x.blk) ∧ w'.cell? ⟨b, off + j * 4 + 3, none⟩ = some (.int .u64 x.num) ∧ w'.cell? ⟨b, off + (j + 1) * 4, none⟩ = some (.int .i64 y.br) ∧ w'.cell? ⟨b, off + (j + 1) * 4 + 1, none⟩ = some (.int .i64 y.vol) ∧ w'.cell? ⟨b, off + (j + 1) * 4 + 2, none⟩ = some (.int .i64 y.blk) ∧ w'.cell? ⟨b, off + (j + 1) * 4 + 3, none⟩ = some (.int .u64 y.num)) (go_keep)
             (first
             | (go_at_call 20; refine (HBf.out _).mono ?_; rintro e w5 ⟨rfl, hb5⟩; rw [hlt2]; replace hb5 := bel_undrew hb5; obtain ⟨bc5, bf5⟩ := bcell hb5))
           go_wp2_with fail
           go_roundw
           case rel => exact ⟨j + 1, by simp, by omega, hbj.trans (hb5.mono hbj.size)⟩
           case measure => simp [intOf]; omega)
      · obtain ⟨s0, s1, s2, s3⟩ := (HC.out j (by omega)).below BJ hlt
        obtain rfl : N = j + 1 := by omega
        have e1 : (0 : Int) ≤ (j : Int) := by omega
        have e3 : (j : Int) < (j : Int) + 1 := by omega
        have e4 : ((j + 1 : Nat) : Int) = (j : Int) + 1 := by omega
        have hw2 : IntKind.i64.wrap ((j : Int) + 1 - 1) = (j : Int) := by rw [IntKind.wrap_i64]; omega
        have hw3 : (j : Int) + 1 - 1 = (j : Int) := by omega
        have hw4 : IntKind.i64.wrap (j : Int) = (j : Int) := by rw [IntKind.wrap_i64]; omega
        have zp : p < wr.heap.size := by omega
        have zb : b < wr.heap.size := by omega
        generalize ks[j]'(_) = x at *
        have bx0 : wr.cell? ⟨w.heap.size, 0, none⟩ = some (.int .i64 0) := by simp only [World.cell?, hbox]; rfl
        have bx1 : wr.cell? ⟨w.heap.size, 1, none⟩ = some (.int .i64 0) := by simp only [World.cell?, hbox]; rfl
        have bx2 : wr.cell? ⟨w.heap.size, 2, none⟩ = some (.int .i64 0) := by simp only [World.cell?, hbox]; rfl
        have bx3 : wr.cell? ⟨w.heap.size, 3, none⟩ = some (.int .u64 0) := by simp only [World.cell?, hbox]; rfl
        have np' : w.heap.size ≠ p := by omega
        have nb' : w.heap.size ≠ b := by omega
        have fx : ∀ o, wr.frozen? ⟨w.heap.size, o, none⟩ = false := fun o => by simp only [World.frozen?, hbox]; simp
        go_wp2_with fail
        go_cut [5] (fun s5 wx => s5 = .pointer (some ⟨w.heap.size, 0, none⟩) ∧ Below w.heap.size w wx ∧ wx.heap[w.heap.size]? = some (.cells #[.int .i64 x.br, .int .i64 x.vol, .int .i64 x.blk, .int .u64 x.num] 26))
        case first =>
          go_region_held3 (fun w' => w'.cell? ⟨p, 0, none⟩ = some (.slice (some ⟨b, off, none⟩) (j + 1) ca) ∧ w'.cell? ⟨b, off + j * 4, none⟩ = some (.int .i64 x.br) ∧ w'.cell? ⟨b, off + j * 4 + 1, none⟩ = some (.int .i64 x.vol) ∧ w'.cell? ⟨b, off + j * 4 + 2, none⟩ = some (.int .i64 x.blk) ∧ w'.cell? ⟨b, off + j * 4 + 3, none⟩ = some (.int .u64 x.num)) (go_keep) (fail)
          go_wp2_with fail
          go_meet
          have f4 := set_at (o := 3) (v := .int .u64 x.num) (set_at (o := 2) (v := .int .i64 x.blk) (set_at (o := 1) (v := .int .i64 x.vol) (set_at (o := 0) (v := .int .i64 x.br) hbox)))
          exact ⟨rfl, ((((BJ.setCell (by simp) _).setCell (by simp) _).setCell (by simp) _).setCell (by simp) _).trans (bel_drewN _ _ (n := 1)), f4⟩
        case rest =>
          obtain ⟨rfl, hbw, hbx⟩ := hcut
          clear t0 t1 hbox bx0 bx1 bx2 bx3 fx s0 s1 s2 s3
          have t0 := (hbw.cell (p := ⟨p, 0, none⟩) plt).trans c0
          have t1 := (hbw.cell (p := ⟨p, 1, none⟩) plt).trans c1
          have bx0 : wc.cell? ⟨w.heap.size, 0, none⟩ = some (.int .i64 x.br) := by simp only [World.cell?, hbx]; rfl
          have bx1 : wc.cell? ⟨w.heap.size, 1, none⟩ = some (.int .i64 x.vol) := by simp only [World.cell?, hbx]; rfl
          have bx2 : wc.cell? ⟨w.heap.size, 2, none⟩ = some (.int .i64 x.blk) := by simp only [World.cell?, hbx]; rfl
          have bx3 : wc.cell? ⟨w.heap.size, 3, none⟩ = some (.int .u64 x.num) := by simp only [World.cell?, hbx]; rfl
          have fx : ∀ o, wc.frozen? ⟨w.heap.size, o, none⟩ = false := fun o => by simp only [World.frozen?, hbx]; simp
          have t2 := (hbw.cell (p := ⟨p, 2, none⟩) plt).trans c2
          have HX := Lib.hid hbx
          have HBW := Lib.hid hbw
          go_wp2_with fail
          refine (leaf_any t2).mono ?_
          rintro e w6 ⟨rfl, rfl⟩
          rcases HBad.out with ⟨rfl, hv⟩ | rfl | ⟨hq2, hqn⟩ | ⟨hq2, rfl, hv⟩
          · rw [show ((0 : Nat) == 0) = true by rfl]
            have e5 : ((V : Int) == (j : Int) + 1) = false := by rw [beq_eq_false_iff_ne]; omega
            have e6 : decide ((V : Int) = (j : Int) + 1) = false := by simp <;> omega
            have e7 : ¬ (V : Int) = (j : Int) + 1 := by omega
            clear hbx hbw
            go_wp2_with fail
            refine wp_region_held_drew (S := (fun w' => w'.cell? ⟨p, 0, none⟩ = some (.slice (some ⟨b, off, none⟩) (j + 1) ca) ∧ w'.cell? ⟨p, 1, none⟩ = some (.slice B V cb) ∧ w'.cell? ⟨w.heap.size, 0, none⟩ = some (.int .i64 x.br) ∧ w'.cell? ⟨w.heap.size, 1, none⟩ = some (.int .i64 x.vol) ∧ w'.cell? ⟨w.heap.size, 2, none⟩ = some (.int .i64 x.blk) ∧ w'.cell? ⟨w.heap.size, 3, none⟩ = some (.int .u64 x.num))) (by kernel_rfl) (by (try dsimp only); simp [*, World.cell?_alloc_some, World.cell?_setCell_far, World.cell?_setCell_same', cell_off]) (fun hHeld => ?_)
            refine take_at (i := 0) (v := ?_) rfl (by kernel_rfl) (by kernel_rfl) (by kernel_rfl) (fun _ _ _ h => h) (Or.inl ⟨by rfl, ?_⟩) (by assumption) ?_
            rotate_left
            · (intro w' hSw; (try dsimp only at hSw); go_simp <;> (with_reducible rfl))
            try simp only [Act.put, List.setIfInBounds_toArray, List.set_cons_zero, List.set_cons_succ]
            refine take_at (i := 1) (v := ?_) rfl (by kernel_rfl) (by kernel_rfl) (by kernel_rfl) (fun _ _ _ h => h) (Or.inl ⟨by rfl, ?_⟩) (by assumption) ?_
            rotate_left
            · (intro w' hSw; (try dsimp only at hSw); go_simp <;> (with_reducible rfl))
            try simp only [Act.put, List.setIfInBounds_toArray, List.set_cons_zero, List.set_cons_succ]
            refine take_at (i := 2) (v := ?_) rfl (by kernel_rfl) (by kernel_rfl) (by kernel_rfl) (fun _ _ _ h => h) (Or.inl ⟨by rfl, ?_⟩) (by assumption) ?_
            rotate_left
            · (intro w' hSw; (try dsimp only at hSw); go_simp <;> (with_reducible rfl))
            try simp only [Act.put, List.setIfInBounds_toArray, List.set_cons_zero, List.set_cons_succ]
            refine take_at (i := 3) (v := ?_) rfl (by kernel_rfl) (by kernel_rfl) (by kernel_rfl) (fun _ _ _ h => h) (Or.inl ⟨by rfl, ?_⟩) (by assumption) ?_
            rotate_left
            · (intro w' hSw; (try dsimp only at hSw); go_simp <;> (with_reducible rfl))
            try simp only [Act.put, List.setIfInBounds_toArray, List.set_cons_zero, List.set_cons_succ]
            refine take_at (i := 4) (v := ?_) rfl (by kernel_rfl) (by kernel_rfl) (by kernel_rfl) (fun _ _ _ h => h) (Or.inl ⟨by rfl, ?_⟩) (by assumption) ?_
            rotate_left
            · (intro w' hSw; (try dsimp only at hSw); go_simp <;> (with_reducible rfl))
            try simp only [Act.put, List.setIfInBounds_toArray, List.set_cons_zero, List.set_cons_succ]
            refine take_at (i := 5) (v := ?_) rfl (by kernel_rfl) (by kernel_rfl) (by kernel_rfl) (fun _ _ _ h => h) (Or.inl ⟨by rfl, ?_⟩) (by assumption) ?_
            rotate_left
            · (intro w' hSw; (try dsimp only at hSw); go_simp <;> (with_reducible rfl))
            try simp only [Act.put, List.setIfInBounds_toArray, List.set_cons_zero, List.set_cons_succ]
            refine take_at (i := 6) (v := ?_) rfl (by kernel_rfl) (by kernel_rfl) (by kernel_rfl) (fun _ _ _ h => h) (Or.inl ⟨by rfl, ?_⟩) (by assumption) ?_
            rotate_left
            · (intro w' hSw; (try dsimp only at hSw); go_simp <;> (with_reducible rfl))
            try simp only [Act.put, List.setIfInBounds_toArray, List.set_cons_zero, List.set_cons_succ]
            refine take_at (i := 7) (v := ?_) rfl (by kernel_rfl) (by kernel_rfl) (by kernel_rfl) (fun _ _ _ h => h) (Or.inl ⟨by rfl, ?_⟩) (by assumption) ?_
            rotate_left
            · (intro w' hSw; (try dsimp only at hSw); go_simp <;> (with_reducible rfl))
            try simp only [Act.put, List.setIfInBounds_toArray, List.set_cons_zero, List.set_cons_succ]
            refine take_at (i := 8) (v := ?_) rfl (by kernel_rfl) (by kernel_rfl) (by kernel_rfl) (fun _ _ _ h => h) (Or.inl ⟨by rfl, ?_⟩) (by assumption) ?_
            rotate_left
            · (intro w' hSw; (try dsimp only at hSw); go_simp <;> (with_reducible rfl))
            try simp only [Act.put, List.setIfInBounds_toArray, List.set_cons_zero, List.set_cons_succ]
            refine take_at (i := 9) (v := ?_) rfl (by kernel_rfl) (by kernel_rfl) (by kernel_rfl) (fun _ _ _ h => h) (Or.inl ⟨by rfl, ?_⟩) (by assumption) ?_
            rotate_left
            · (intro w' hSw; (try dsimp only at hSw); go_simp <;> (with_reducible rfl))
            try simp only [Act.put, List.setIfInBounds_toArray, List.set_cons_zero, List.set_cons_succ]
            refine take_at (i := 10) (v := ?_) rfl (by kernel_rfl) (by kernel_rfl) (by kernel_rfl) (fun _ _ _ h => h) (Or.inl ⟨by rfl, ?_⟩) (by assumption) ?_
            rotate_left
            · (intro w' hSw; (try dsimp only at hSw); go_simp <;> (with_reducible rfl))
            try simp only [Act.put, List.setIfInBounds_toArray, List.set_cons_zero, List.set_cons_succ]
            refine take_at (i := 11) (v := ?_) rfl (by kernel_rfl) (by kernel_rfl) (by kernel_rfl) (fun _ _ _ h => h) (Or.inl ⟨by rfl, ?_⟩) (by assumption) ?_
            rotate_left
            · (intro w' hSw; (try dsimp only at hSw); go_simp <;> (with_reducible rfl))
            try simp only [Act.put, List.setIfInBounds_toArray, List.set_cons_zero, List.set_cons_succ]
            refine take_at (i := 12) (v := ?_) rfl (by kernel_rfl) (by kernel_rfl) (by kernel_rfl) (fun _ _ _ h => h) (Or.inl ⟨by rfl, ?_⟩) (by assumption) ?_
            rotate_left
            · (intro w' hSw; (try dsimp only at hSw); go_simp <;> (with_reducible rfl))
            try simp only [Act.put, List.setIfInBounds_toArray, List.set_cons_zero, List.set_cons_succ]
            refine take_at (i := 13) (v := undef) rfl (by kernel_rfl) (by kernel_rfl) (by kernel_rfl) (fun _ _ _ h => h) (Or.inr ⟨by rfl, rfl⟩) (by assumption) ?_
            try simp only [Act.put, List.setIfInBounds_toArray, List.set_cons_zero, List.set_cons_succ]
            refine take_at (i := 14) (v := undef) rfl (by kernel_rfl) (by kernel_rfl) (by kernel_rfl) (fun _ _ _ h => h) (Or.inr ⟨by rfl, rfl⟩) (by assumption) ?_
            try simp only [Act.put, List.setIfInBounds_toArray, List.set_cons_zero, List.set_cons_succ]
            refine take_at (i := 15) (v := undef) rfl (by kernel_rfl) (by kernel_rfl) (by kernel_rfl) (fun _ _ _ h => h) (Or.inr ⟨by rfl, rfl⟩) (by assumption) ?_
            try simp only [Act.put, List.setIfInBounds_toArray, List.set_cons_zero, List.set_cons_succ]
            refine take_at (i := 16) (v := undef) rfl (by kernel_rfl) (by kernel_rfl) (by kernel_rfl) (fun _ _ _ h => h) (Or.inr ⟨by rfl, rfl⟩) (by assumption) ?_
            try simp only [Act.put, List.setIfInBounds_toArray, List.set_cons_zero, List.set_cons_succ]
            refine take_at (i := 17) (v := undef) rfl (by kernel_rfl) (by kernel_rfl) (by kernel_rfl) (fun _ _ _ h => h) (Or.inr ⟨by rfl, rfl⟩) (by assumption) ?_
            try simp only [Act.put, List.setIfInBounds_toArray, List.set_cons_zero, List.set_cons_succ]
            refine take_at (i := 18) (v := undef) rfl (by kernel_rfl) (by kernel_rfl) (by kernel_rfl) (fun _ _ _ h => h) (Or.inr ⟨by rfl, rfl⟩) (by assumption) ?_
            try simp only [Act.put, List.setIfInBounds_toArray, List.set_cons_zero, List.set_cons_succ]
            refine take_at (i := 19) (v := undef) rfl (by kernel_rfl) (by kernel_rfl) (by kernel_rfl) (fun _ _ _ h => h) (Or.inr ⟨by rfl, rfl⟩) (by assumption) ?_
            try simp only [Act.put, List.setIfInBounds_toArray, List.set_cons_zero, List.set_cons_succ]
            refine take_at (i := 20) (v := undef) rfl (by kernel_rfl) (by kernel_rfl) (by kernel_rfl) (fun _ _ _ h => h) (Or.inr ⟨by rfl, rfl⟩) (by assumption) ?_
            try simp only [Act.put, List.setIfInBounds_toArray, List.set_cons_zero, List.set_cons_succ]
            refine take_at (i := 21) (v := undef) rfl (by kernel_rfl) (by kernel_rfl) (by kernel_rfl) (fun _ _ _ h => h) (Or.inr ⟨by rfl, rfl⟩) (by assumption) ?_
            try simp only [Act.put, List.setIfInBounds_toArray, List.set_cons_zero, List.set_cons_succ]
            refine take_at (i := 22) (v := ?_) rfl (by kernel_rfl) (by kernel_rfl) (by kernel_rfl) (fun _ _ _ h => h) (Or.inl ⟨by rfl, ?_⟩) (by assumption) ?_
            rotate_left
            · (intro w' hSw; (try dsimp only at hSw); go_simp <;> (with_reducible rfl))
            try simp only [Act.put, List.setIfInBounds_toArray, List.set_cons_zero, List.set_cons_succ]
            refine take_at (i := 23) (v := ?_) rfl (by kernel_rfl) (by kernel_rfl) (by kernel_rfl) (fun _ _ _ h => h) (Or.inl ⟨by rfl, ?_⟩) (by assumption) ?_
            rotate_left
            · (intro w' hSw; (try dsimp only at hSw); go_simp <;> (with_reducible rfl))
            try simp only [Act.put, List.setIfInBounds_toArray, List.set_cons_zero, List.set_cons_succ]
            refine one_at (i := 24) rfl (by kernel_rfl) (by rfl) (fun K hK => ?_)
            go_simp
            refine hK.out _ _ (by simp [*, World.cell?_alloc_some, World.cell?_setCell_far, World.cell?_setCell_same', cell_off]) (fun hHeld => ?_)
            refine take_at (i := 25) (v := ?_) rfl (by kernel_rfl) (by kernel_rfl) (by kernel_rfl) (fun _ _ _ h => h) (Or.inl ⟨by rfl, ?_⟩) (by assumption) ?_
            rotate_left
            · (intro w' hSw; (try dsimp only at hSw); go_simp <;> (with_reducible rfl))
            try simp only [Act.put, List.setIfInBounds_toArray, List.set_cons_zero, List.set_cons_succ]
            refine wpAnyH_done (by kernel_rfl) ?_ _
            try simp only [Act.put, List.setIfInBounds_toArray, List.set_cons_zero, List.set_cons_succ]
            clear hK K
            go_wp2_with fail
            refine bodyPost_ret (v := .tuple #[.int .i64 1, .agg #[.int .i64 x.br, .int .i64 x.vol, .int .i64 x.blk, .int .u64 x.num], .bool false]) (by rw [results_tct rfl]; go_simp) rfl ?_
            exact ⟨⟨1, x, rfl⟩, ((((HBW.out.setCell (by simp) _).setCell (by simp) _).setCell (by simp) _).setCell (by simp) _).trans (bel_drewN _ _ (n := 1))⟩
          · rw [show ((1 : Nat) == 0) = false by rfl]
            go_wp2_with fail
            have x0 := cls_cell t0
            have x1 := cls_cell t1
            have x2 := cls_cell t2
            have := cls_ne wc
            try simp only [List.append_eq, List.cons_append, List.nil_append]
            refine wp_region_cls (S := Below wc.heap.size wc) (by kernel_rfl) (by kernel_rfl) (bel_drewN _ _ (n := 1)) ?_
            repeat (go_big_quiet_step (fail))
            refine wpQuiet_nil ?_
            rintro w6 ⟨⟨_, hx6⟩, rfl⟩
            try dsimp only
            have hbox6 := (hx6.block w.heap.size (Array.getElem?_eq_some_iff.1 HX.out).1).trans HX.out
            have HB6 := Lib.hid (HBW.out.trans (hx6.mono HBW.out.size))
            clear x0 x1 x2 this t0 t1 t2 bx0 bx1 bx2 bx3 fx hx6 hbx hbw
            go_wp2_with fail
            have b0 : w6.cell? ⟨w.heap.size, 0, none⟩ = some (.int .i64 x.br) := by simp only [World.cell?, hbox6]; rfl
            have b1 : w6.cell? ⟨w.heap.size, 1, none⟩ = some (.int .i64 x.vol) := by simp only [World.cell?, hbox6]; rfl
            have b2 : w6.cell? ⟨w.heap.size, 2, none⟩ = some (.int .i64 x.blk) := by simp only [World.cell?, hbox6]; rfl
            have b3 : w6.cell? ⟨w.heap.size, 3, none⟩ = some (.int .u64 x.num) := by simp only [World.cell?, hbox6]; rfl
            have fx : ∀ o, w6.frozen? ⟨w.heap.size, o, none⟩ = false := fun o => by simp only [World.frozen?, hbox6]; simp
            clear hbox6
            go_region_held3 (fun w' => w'.cell? ⟨w.heap.size, 0, none⟩ = some (.int .i64 x.br) ∧ w'.cell? ⟨w.heap.size, 1, none⟩ = some (.int .i64 x.vol) ∧ w'.cell? ⟨w.heap.size, 2, none⟩ = some (.int .i64 x.blk) ∧ w'.cell? ⟨w.heap.size, 3, none⟩ = some (.int .u64 x.num)) (simp [*, World.cell?_alloc_some, World.cell?_setCell_far, World.cell?_setCell_same', cell_off]) (fail)
            go_wp2_with fail
            refine bodyPost_ret (v := .tuple #[.int .i64 0, .agg #[.int .i64 x.br, .int .i64 x.vol, .int .i64 x.blk, .int .u64 x.num], .bool false]) (by rw [results_tct rfl]; go_simp) rfl ?_
            exact ⟨⟨0, x, rfl⟩, ((((HB6.out.setCell (by simp) _).setCell (by simp) _).setCell (by simp) _).setCell (by simp) _).trans (bel_drewN _ _ (n := 1))⟩
          · rw [show (Q == 0) = false by rw [beq_eq_false_iff_ne]; omega]
            have e5 : decide ((Q : Int) < 2) = false := by simp <;> omega
            have e6 : ((Q : Int) != (j : Int) + 1) = true := by simp <;> omega
            have e6b : ¬ (Q : Int) = (j : Int) + 1 := by omega
            have e6c : ((Q : Int) == (j : Int) + 1) = false := by rw [beq_eq_false_iff_ne]; omega
            go_wp2_with fail
            have x0 := cls_cell t0
            have x1 := cls_cell t1
            have x2 := cls_cell t2
            have := cls_ne wc
            try simp only [List.append_eq, List.cons_append, List.nil_append]
            refine wp_region_cls (S := Below wc.heap.size wc) (by kernel_rfl) (by kernel_rfl) (bel_drewN _ _ (n := 1)) ?_
            repeat (go_big_quiet_step (fail))
            refine wpQuiet_nil ?_
            rintro w6 ⟨⟨_, hx6⟩, rfl⟩
            try dsimp only
            have hbox6 := (hx6.block w.heap.size (Array.getElem?_eq_some_iff.1 HX.out).1).trans HX.out
            have HB6 := Lib.hid (HBW.out.trans (hx6.mono HBW.out.size))
            clear x0 x1 x2 this t0 t1 t2 bx0 bx1 bx2 bx3 fx hx6 hbx hbw
            go_wp2_with fail
            have b0 : w6.cell? ⟨w.heap.size, 0, none⟩ = some (.int .i64 x.br) := by simp only [World.cell?, hbox6]; rfl
            have b1 : w6.cell? ⟨w.heap.size, 1, none⟩ = some (.int .i64 x.vol) := by simp only [World.cell?, hbox6]; rfl
            have b2 : w6.cell? ⟨w.heap.size, 2, none⟩ = some (.int .i64 x.blk) := by simp only [World.cell?, hbox6]; rfl
            have b3 : w6.cell? ⟨w.heap.size, 3, none⟩ = some (.int .u64 x.num) := by simp only [World.cell?, hbox6]; rfl
            have fx : ∀ o, w6.frozen? ⟨w.heap.size, o, none⟩ = false := fun o => by simp only [World.frozen?, hbox6]; simp
            clear hbox6
            go_region_held3 (fun w' => w'.cell? ⟨w.heap.size, 0, none⟩ = some (.int .i64 x.br) ∧ w'.cell? ⟨w.heap.size, 1, none⟩ = some (.int .i64 x.vol) ∧ w'.cell? ⟨w.heap.size, 2, none⟩ = some (.int .i64 x.blk) ∧ w'.cell? ⟨w.heap.size, 3, none⟩ = some (.int .u64 x.num)) (simp [*, World.cell?_alloc_some, World.cell?_setCell_far, World.cell?_setCell_same', cell_off]) (fail)
            go_wp2_with fail
            refine bodyPost_ret (v := .tuple #[.int .i64 0, .agg #[.int .i64 x.br, .int .i64 x.vol, .int .i64 x.blk, .int .u64 x.num], .bool false]) (by rw [results_tct rfl]; go_simp) rfl ?_
            exact ⟨⟨0, x, rfl⟩, ((((HB6.out.setCell (by simp) _).setCell (by simp) _).setCell (by simp) _).setCell (by simp) _).trans (bel_drewN _ _ (n := 1))⟩
          · rw [show (j + 1 == 0) = false by rfl]
            obtain ⟨V1, rfl⟩ : ∃ V1, V = V1 + 1 := ⟨V - 1, by omega⟩
            have e5 : decide (((j : Int) + 1) < 2) = false := by simp <;> omega
            have e7 : ((((j + 1 : Nat) : Int)) != (((j + 1 : Nat) : Int))) = false := by simp
            clear hq2 hv HBad HAny
            go_wp2_with fail
            have x0 := cls_cell t0
            have x1 := cls_cell t1
            have x2 := cls_cell t2
            have := cls_ne wc
            try simp only [List.append_eq, List.cons_append, List.nil_append]
            refine wp_region_cls (S := Below wc.heap.size wc) (by kernel_rfl) (by kernel_rfl) (bel_drewN _ _ (n := 1)) ?_
            repeat (go_big_quiet_step (fail))
            refine wpQuiet_nil ?_
            rintro w6 ⟨⟨_, hx6⟩, rfl⟩
            try dsimp only
            have hbox6 := (hx6.block w.heap.size (Array.getElem?_eq_some_iff.1 HX.out).1).trans HX.out
            have HB6 := Lib.hid (HBW.out.trans (hx6.mono HBW.out.size))
            clear x0 x1 x2 this t0 t1 t2 bx0 bx1 bx2 bx3 fx hx6 hbx hbw
            go_wp2_with fail
            have b0 : w6.cell? ⟨w.heap.size, 0, none⟩ = some (.int .i64 x.br) := by simp only [World.cell?, hbox6]; rfl
            have b1 : w6.cell? ⟨w.heap.size, 1, none⟩ = some (.int .i64 x.vol) := by simp only [World.cell?, hbox6]; rfl
            have b2 : w6.cell? ⟨w.heap.size, 2, none⟩ = some (.int .i64 x.blk) := by simp only [World.cell?, hbox6]; rfl
            have b3 : w6.cell? ⟨w.heap.size, 3, none⟩ = some (.int .u64 x.num) := by simp only [World.cell?, hbox6]; rfl
            have fx : ∀ o, w6.frozen? ⟨w.heap.size, o, none⟩ = false := fun o => by simp only [World.frozen?, hbox6]; simp
            clear hbox6
            go_region_held3 (fun w' => w'.cell? ⟨w.heap.size, 0, none⟩ = some (.int .i64 x.br) ∧ w'.cell? ⟨w.heap.size, 1, none⟩ = some (.int .i64 x.vol) ∧ w'.cell? ⟨w.heap.size, 2, none⟩ = some (.int .i64 x.blk) ∧ w'.cell? ⟨w.heap.size, 3, none⟩ = some (.int .u64 x.num)) (simp [*, World.cell?_alloc_some, World.cell?_setCell_far, World.cell?_setCell_same', cell_off]) (fail)
            go_wp2_with fail
            refine bodyPost_ret (v := .tuple #[.int .i64 0, .agg #[.int .i64 x.br, .int .i64 x.vol, .int .i64 x.blk, .int .u64 x.num], .bool false]) (by rw [results_tct rfl]; go_simp) rfl ?_
            exact ⟨⟨0, x, rfl⟩, ((((HB6.out.setCell (by simp) _).setCell (by simp) _).setCell (by simp) _).setCell (by simp) _).trans (bel_drewN _ _ (n := 1))⟩)
end Go.Proofs.Ytainljbkejafcaa.N
