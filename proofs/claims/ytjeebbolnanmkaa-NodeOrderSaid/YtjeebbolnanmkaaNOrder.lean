/- The walk of NodeOrder. -/
import Derived.Test.YtjeebbolnanmkaaNAwake
namespace Go.Proofs.Ytjeebbolnanmkaa.N
open Go.RowKit
set_option linter.unusedVariables false
set_option linter.unusedSimpArgs false
theorem rbefore_at' (a b : Sp) (w : World) : Calls Try.prog 14 #[.agg #[.int .i64 a.br, .int .i64 a.vol, .int .i64 a.blk, .int .u64 a.num], .agg #[.int .i64 b.br, .int .i64 b.vol, .int .i64 b.blk, .int .u64 b.num]] w fun e w' => e = .returned (.bool (lt a b)) ∧ Below w.heap.size w w' := rbefore_at a b w
theorem lt_irrefl (a : Sp) : lt a a = false := by
  rw [← Bool.not_eq_true, lt_iff]; omega
theorem lt_asymm {a b : Sp} (h : lt a b = true) : lt b a = false := by
  rw [lt_iff] at h
  rw [← Bool.not_eq_true, lt_iff]; omega
theorem lt_trans {a b c : Sp} (h : lt a b = true) (h2 : lt b c = true) : lt a c = true := by
  rw [lt_iff] at h h2 ⊢; omega
theorem lt_total {a b : Sp} (h : lt a b = false) (h2 : lt b a = false) : a = b := by
  rw [← Bool.not_eq_true, lt_iff] at h h2
  obtain ⟨a0, a1, a2, a3⟩ := a
  obtain ⟨b0, b1, b2, b3⟩ := b
  simp only at h h2
  obtain rfl : a0 = b0 := by omega
  obtain rfl : a1 = b1 := by omega
  obtain rfl : a2 = b2 := by omega
  obtain rfl : a3 = b3 := by omega
  rfl
set_option maxHeartbeats 3200000 in
set_option maxRecDepth 100000 in
theorem order_law (a b c : Sp) (w : World) : Calls Try.prog 3 #[a.v, b.v, c.v] w fun e w' => e = .returned (.bool true) ∧ Below w.heap.size w w' := by
  unfold Sp.v
  have HBf := Lib.hid (fun x y W => before_at' x y W)
  have HRf := Lib.hid (fun x y W => rbefore_at' x y W)
  go_enter Try.func3, Try.ntmps3
  go_wp2_with fail
  obtain ⟨W, hW, h1, h2, h3, hbw⟩ := three_allocs w (.cells #[.int .i64 a.br, .int .i64 a.vol, .int .i64 a.blk, .int .u64 a.num] 26) (.cells #[.int .i64 b.br, .int .i64 b.vol, .int .i64 b.blk, .int .u64 b.num] 26) (.cells #[.int .i64 c.br, .int .i64 c.vol, .int .i64 c.blk, .int .u64 c.num] 26)
  rw [← hW]
  clear hW
  refine (awake_ok W).mono ?_
  rintro e w1 ⟨rfl, hb1⟩
  have lp := (Array.getElem?_eq_some_iff.1 h1).1
  have lq := (Array.getElem?_eq_some_iff.1 h2).1
  have lr := (Array.getElem?_eq_some_iff.1 h3).1
  replace h1 := (hb1.block _ lp).trans h1
  replace h2 := (hb1.block _ lq).trans h2
  replace h3 := (hb1.block _ lr).trans h3
  have hb2 : Below w.heap.size w w1 := hbw.trans (hb1.mono (by omega))
  clear lp lq lr hb1 hbw
  generalize hz : w.heap.size + 1 + 1 = r at *
  generalize hy : w.heap.size + 1 = q at *
  generalize hx : w.heap.size = p at *
  have zp := (Array.getElem?_eq_some_iff.1 h1).1
  have zq := (Array.getElem?_eq_some_iff.1 h2).1
  have zr := (Array.getElem?_eq_some_iff.1 h3).1
  have HB2 := Lib.hid hb2
  clear hb2
  have a0 : w1.cell? ⟨p, 0, none⟩ = some (.int .i64 a.br) := by simp only [World.cell?, h1]; rfl
  have a1 : w1.cell? ⟨p, 1, none⟩ = some (.int .i64 a.vol) := by simp only [World.cell?, h1]; rfl
  have a2 : w1.cell? ⟨p, 2, none⟩ = some (.int .i64 a.blk) := by simp only [World.cell?, h1]; rfl
  have a3 : w1.cell? ⟨p, 3, none⟩ = some (.int .u64 a.num) := by simp only [World.cell?, h1]; rfl
  have b0 : w1.cell? ⟨q, 0, none⟩ = some (.int .i64 b.br) := by simp only [World.cell?, h2]; rfl
  have b1 : w1.cell? ⟨q, 1, none⟩ = some (.int .i64 b.vol) := by simp only [World.cell?, h2]; rfl
  have b2 : w1.cell? ⟨q, 2, none⟩ = some (.int .i64 b.blk) := by simp only [World.cell?, h2]; rfl
  have b3 : w1.cell? ⟨q, 3, none⟩ = some (.int .u64 b.num) := by simp only [World.cell?, h2]; rfl
  have c0 : w1.cell? ⟨r, 0, none⟩ = some (.int .i64 c.br) := by simp only [World.cell?, h3]; rfl
  have c1 : w1.cell? ⟨r, 1, none⟩ = some (.int .i64 c.vol) := by simp only [World.cell?, h3]; rfl
  have c2 : w1.cell? ⟨r, 2, none⟩ = some (.int .i64 c.blk) := by simp only [World.cell?, h3]; rfl
  have c3 : w1.cell? ⟨r, 3, none⟩ = some (.int .u64 c.num) := by simp only [World.cell?, h3]; rfl
  have HX1 := Lib.hid h1
  have HX2 := Lib.hid h2
  have HX3 := Lib.hid h3
  clear h1 h2 h3
  go_wp2_with fail
  go_cut [7, 8] (fun s7 s8 wx => s7 = .bool (lt a b) ∧ s8 = .bool (lt b a) ∧ Below w1.heap.size w1 wx)
  case first =>
    go_region_held3 (fun w' => w'.cell? ⟨p, 0, none⟩ = some (.int .i64 a.br) ∧ w'.cell? ⟨p, 1, none⟩ = some (.int .i64 a.vol) ∧ w'.cell? ⟨p, 2, none⟩ = some (.int .i64 a.blk) ∧ w'.cell? ⟨p, 3, none⟩ = some (.int .u64 a.num) ∧ w'.cell? ⟨q, 0, none⟩ = some (.int .i64 b.br) ∧ w'.cell? ⟨q, 1, none⟩ = some (.int .i64 b.vol) ∧ w'.cell? ⟨q, 2, none⟩ = some (.int .i64 b.blk) ∧ w'.cell? ⟨q, 3, none⟩ = some (.int .u64 b.num)) (go_keep)
      (first
      | (go_at_call 13; refine (HBf.out _ _ _).mono ?_; rintro e w5 ⟨rfl, hb5⟩; replace hb5 := bel_undrew hb5; obtain ⟨bc5, bf5⟩ := bcell hb5; have z5 := hb5.size; have zp5 := Nat.lt_of_lt_of_le zp z5; have zq5 := Nat.lt_of_lt_of_le zq z5)
      | (go_at_call 13; refine (HBf.out _ _ _).mono ?_; rintro e w6 ⟨rfl, hb6⟩; obtain ⟨bc6, bf6⟩ := bcell hb6))
    all_goals (
    go_wp2_with fail
    go_meet
    exact ⟨rfl, rfl, hb5.trans (hb6.mono z5)⟩)
  case rest =>
    obtain ⟨rfl, rfl, hbx⟩ := hcut
    have zx := hbx.size
    have g1 := (hbx.block _ zp).trans HX1.out
    have g2 := (hbx.block _ zq).trans HX2.out
    have g3 := (hbx.block _ zr).trans HX3.out
    clear a0 a1 a2 a3 b0 b1 b2 b3 c0 c1 c2 c3
    have a0 : wc.cell? ⟨p, 0, none⟩ = some (.int .i64 a.br) := by simp only [World.cell?, g1]; rfl
    have a1 : wc.cell? ⟨p, 1, none⟩ = some (.int .i64 a.vol) := by simp only [World.cell?, g1]; rfl
    have a2 : wc.cell? ⟨p, 2, none⟩ = some (.int .i64 a.blk) := by simp only [World.cell?, g1]; rfl
    have a3 : wc.cell? ⟨p, 3, none⟩ = some (.int .u64 a.num) := by simp only [World.cell?, g1]; rfl
    have b0 : wc.cell? ⟨q, 0, none⟩ = some (.int .i64 b.br) := by simp only [World.cell?, g2]; rfl
    have b1 : wc.cell? ⟨q, 1, none⟩ = some (.int .i64 b.vol) := by simp only [World.cell?, g2]; rfl
    have b2 : wc.cell? ⟨q, 2, none⟩ = some (.int .i64 b.blk) := by simp only [World.cell?, g2]; rfl
    have b3 : wc.cell? ⟨q, 3, none⟩ = some (.int .u64 b.num) := by simp only [World.cell?, g2]; rfl
    have c0 : wc.cell? ⟨r, 0, none⟩ = some (.int .i64 c.br) := by simp only [World.cell?, g3]; rfl
    have c1 : wc.cell? ⟨r, 1, none⟩ = some (.int .i64 c.vol) := by simp only [World.cell?, g3]; rfl
    have c2 : wc.cell? ⟨r, 2, none⟩ = some (.int .i64 c.blk) := by simp only [World.cell?, g3]; rfl
    have c3 : wc.cell? ⟨r, 3, none⟩ = some (.int .u64 c.num) := by simp only [World.cell?, g3]; rfl
    have HB3 : Hid (Below p w wc) := HB2.out.trans (hbx.mono (by omega))
    have yp := Nat.lt_of_lt_of_le zp zx
    have yq := Nat.lt_of_lt_of_le zq zx
    have yr := Nat.lt_of_lt_of_le zr zx
    have hrr := lt_irrefl a
    cases hxy : lt a b
    · cases hyx : lt b a
      · have hab := lt_total hxy hyx
        subst hab
        go_wp2_with fail
        refine (HRf.out a a _).mono ?_
        rintro e w5 ⟨rfl, hb5⟩
        rw [hrr]
        have z5 := hb5.size
        have k51 := (hb5.block _ yp).trans g1
        have k52 := (hb5.block _ yq).trans g2
        have k53 := (hb5.block _ yr).trans g3
        have HB5 : Hid (Below p w w5) := HB3.out.trans (hb5.mono (by omega))
        replace yp := Nat.lt_of_lt_of_le yp z5
        replace yq := Nat.lt_of_lt_of_le yq z5
        replace yr := Nat.lt_of_lt_of_le yr z5
        clear a0 a1 a2 a3 b0 b1 b2 b3 c0 c1 c2 c3 hb5
        have a0 : w5.cell? ⟨p, 0, none⟩ = some (.int .i64 a.br) := by simp only [World.cell?, k51]; rfl
        have a1 : w5.cell? ⟨p, 1, none⟩ = some (.int .i64 a.vol) := by simp only [World.cell?, k51]; rfl
        have a2 : w5.cell? ⟨p, 2, none⟩ = some (.int .i64 a.blk) := by simp only [World.cell?, k51]; rfl
        have a3 : w5.cell? ⟨p, 3, none⟩ = some (.int .u64 a.num) := by simp only [World.cell?, k51]; rfl
        have b0 : w5.cell? ⟨q, 0, none⟩ = some (.int .i64 a.br) := by simp only [World.cell?, k52]; rfl
        have b1 : w5.cell? ⟨q, 1, none⟩ = some (.int .i64 a.vol) := by simp only [World.cell?, k52]; rfl
        have b2 : w5.cell? ⟨q, 2, none⟩ = some (.int .i64 a.blk) := by simp only [World.cell?, k52]; rfl
        have b3 : w5.cell? ⟨q, 3, none⟩ = some (.int .u64 a.num) := by simp only [World.cell?, k52]; rfl
        have c0 : w5.cell? ⟨r, 0, none⟩ = some (.int .i64 c.br) := by simp only [World.cell?, k53]; rfl
        have c1 : w5.cell? ⟨r, 1, none⟩ = some (.int .i64 c.vol) := by simp only [World.cell?, k53]; rfl
        have c2 : w5.cell? ⟨r, 2, none⟩ = some (.int .i64 c.blk) := by simp only [World.cell?, k53]; rfl
        have c3 : w5.cell? ⟨r, 3, none⟩ = some (.int .u64 c.num) := by simp only [World.cell?, k53]; rfl
        go_wp2_with fail
        refine (HBf.out a a _).mono ?_
        rintro e w6 ⟨rfl, hb6⟩
        rw [hrr]
        have z6 := hb6.size
        have k61 := (hb6.block _ yp).trans k51
        have k62 := (hb6.block _ yq).trans k52
        have k63 := (hb6.block _ yr).trans k53
        have HB6 : Hid (Below p w w6) := HB5.out.trans (hb6.mono (by omega))
        replace yp := Nat.lt_of_lt_of_le yp z6
        replace yq := Nat.lt_of_lt_of_le yq z6
        replace yr := Nat.lt_of_lt_of_le yr z6
        clear a0 a1 a2 a3 b0 b1 b2 b3 c0 c1 c2 c3 hb6
        have a0 : w6.cell? ⟨p, 0, none⟩ = some (.int .i64 a.br) := by simp only [World.cell?, k61]; rfl
        have a1 : w6.cell? ⟨p, 1, none⟩ = some (.int .i64 a.vol) := by simp only [World.cell?, k61]; rfl
        have a2 : w6.cell? ⟨p, 2, none⟩ = some (.int .i64 a.blk) := by simp only [World.cell?, k61]; rfl
        have a3 : w6.cell? ⟨p, 3, none⟩ = some (.int .u64 a.num) := by simp only [World.cell?, k61]; rfl
        have b0 : w6.cell? ⟨q, 0, none⟩ = some (.int .i64 a.br) := by simp only [World.cell?, k62]; rfl
        have b1 : w6.cell? ⟨q, 1, none⟩ = some (.int .i64 a.vol) := by simp only [World.cell?, k62]; rfl
        have b2 : w6.cell? ⟨q, 2, none⟩ = some (.int .i64 a.blk) := by simp only [World.cell?, k62]; rfl
        have b3 : w6.cell? ⟨q, 3, none⟩ = some (.int .u64 a.num) := by simp only [World.cell?, k62]; rfl
        have c0 : w6.cell? ⟨r, 0, none⟩ = some (.int .i64 c.br) := by simp only [World.cell?, k63]; rfl
        have c1 : w6.cell? ⟨r, 1, none⟩ = some (.int .i64 c.vol) := by simp only [World.cell?, k63]; rfl
        have c2 : w6.cell? ⟨r, 2, none⟩ = some (.int .i64 c.blk) := by simp only [World.cell?, k63]; rfl
        have c3 : w6.cell? ⟨r, 3, none⟩ = some (.int .u64 c.num) := by simp only [World.cell?, k63]; rfl
        go_wp2_with fail
        go_ret
        exact ⟨rfl, by rw [hx]; exact HB6.out⟩
      · go_wp2_with fail
        refine (HRf.out a b _).mono ?_
        rintro e w5 ⟨rfl, hb5⟩
        rw [hxy]
        have z5 := hb5.size
        have k51 := (hb5.block _ yp).trans g1
        have k52 := (hb5.block _ yq).trans g2
        have k53 := (hb5.block _ yr).trans g3
        have HB5 : Hid (Below p w w5) := HB3.out.trans (hb5.mono (by omega))
        replace yp := Nat.lt_of_lt_of_le yp z5
        replace yq := Nat.lt_of_lt_of_le yq z5
        replace yr := Nat.lt_of_lt_of_le yr z5
        clear a0 a1 a2 a3 b0 b1 b2 b3 c0 c1 c2 c3 hb5
        have a0 : w5.cell? ⟨p, 0, none⟩ = some (.int .i64 a.br) := by simp only [World.cell?, k51]; rfl
        have a1 : w5.cell? ⟨p, 1, none⟩ = some (.int .i64 a.vol) := by simp only [World.cell?, k51]; rfl
        have a2 : w5.cell? ⟨p, 2, none⟩ = some (.int .i64 a.blk) := by simp only [World.cell?, k51]; rfl
        have a3 : w5.cell? ⟨p, 3, none⟩ = some (.int .u64 a.num) := by simp only [World.cell?, k51]; rfl
        have b0 : w5.cell? ⟨q, 0, none⟩ = some (.int .i64 b.br) := by simp only [World.cell?, k52]; rfl
        have b1 : w5.cell? ⟨q, 1, none⟩ = some (.int .i64 b.vol) := by simp only [World.cell?, k52]; rfl
        have b2 : w5.cell? ⟨q, 2, none⟩ = some (.int .i64 b.blk) := by simp only [World.cell?, k52]; rfl
        have b3 : w5.cell? ⟨q, 3, none⟩ = some (.int .u64 b.num) := by simp only [World.cell?, k52]; rfl
        have c0 : w5.cell? ⟨r, 0, none⟩ = some (.int .i64 c.br) := by simp only [World.cell?, k53]; rfl
        have c1 : w5.cell? ⟨r, 1, none⟩ = some (.int .i64 c.vol) := by simp only [World.cell?, k53]; rfl
        have c2 : w5.cell? ⟨r, 2, none⟩ = some (.int .i64 c.blk) := by simp only [World.cell?, k53]; rfl
        have c3 : w5.cell? ⟨r, 3, none⟩ = some (.int .u64 c.num) := by simp only [World.cell?, k53]; rfl
        go_wp2_with fail
        refine (HBf.out a a _).mono ?_
        rintro e w6 ⟨rfl, hb6⟩
        rw [hrr]
        have z6 := hb6.size
        have k61 := (hb6.block _ yp).trans k51
        have k62 := (hb6.block _ yq).trans k52
        have k63 := (hb6.block _ yr).trans k53
        have HB6 : Hid (Below p w w6) := HB5.out.trans (hb6.mono (by omega))
        replace yp := Nat.lt_of_lt_of_le yp z6
        replace yq := Nat.lt_of_lt_of_le yq z6
        replace yr := Nat.lt_of_lt_of_le yr z6
        clear a0 a1 a2 a3 b0 b1 b2 b3 c0 c1 c2 c3 hb6
        have a0 : w6.cell? ⟨p, 0, none⟩ = some (.int .i64 a.br) := by simp only [World.cell?, k61]; rfl
        have a1 : w6.cell? ⟨p, 1, none⟩ = some (.int .i64 a.vol) := by simp only [World.cell?, k61]; rfl
        have a2 : w6.cell? ⟨p, 2, none⟩ = some (.int .i64 a.blk) := by simp only [World.cell?, k61]; rfl
        have a3 : w6.cell? ⟨p, 3, none⟩ = some (.int .u64 a.num) := by simp only [World.cell?, k61]; rfl
        have b0 : w6.cell? ⟨q, 0, none⟩ = some (.int .i64 b.br) := by simp only [World.cell?, k62]; rfl
        have b1 : w6.cell? ⟨q, 1, none⟩ = some (.int .i64 b.vol) := by simp only [World.cell?, k62]; rfl
        have b2 : w6.cell? ⟨q, 2, none⟩ = some (.int .i64 b.blk) := by simp only [World.cell?, k62]; rfl
        have b3 : w6.cell? ⟨q, 3, none⟩ = some (.int .u64 b.num) := by simp only [World.cell?, k62]; rfl
        have c0 : w6.cell? ⟨r, 0, none⟩ = some (.int .i64 c.br) := by simp only [World.cell?, k63]; rfl
        have c1 : w6.cell? ⟨r, 1, none⟩ = some (.int .i64 c.vol) := by simp only [World.cell?, k63]; rfl
        have c2 : w6.cell? ⟨r, 2, none⟩ = some (.int .i64 c.blk) := by simp only [World.cell?, k63]; rfl
        have c3 : w6.cell? ⟨r, 3, none⟩ = some (.int .u64 c.num) := by simp only [World.cell?, k63]; rfl
        go_wp2_with fail
        go_ret
        exact ⟨rfl, by rw [hx]; exact HB6.out⟩
    · have hyx := lt_asymm hxy
      rw [hyx]
      go_wp2_with fail
      refine (HRf.out a b _).mono ?_
      rintro e w5 ⟨rfl, hb5⟩
      rw [hxy]
      have z5 := hb5.size
      have k51 := (hb5.block _ yp).trans g1
      have k52 := (hb5.block _ yq).trans g2
      have k53 := (hb5.block _ yr).trans g3
      have HB5 : Hid (Below p w w5) := HB3.out.trans (hb5.mono (by omega))
      replace yp := Nat.lt_of_lt_of_le yp z5
      replace yq := Nat.lt_of_lt_of_le yq z5
      replace yr := Nat.lt_of_lt_of_le yr z5
      clear a0 a1 a2 a3 b0 b1 b2 b3 c0 c1 c2 c3 hb5
      have a0 : w5.cell? ⟨p, 0, none⟩ = some (.int .i64 a.br) := by simp only [World.cell?, k51]; rfl
      have a1 : w5.cell? ⟨p, 1, none⟩ = some (.int .i64 a.vol) := by simp only [World.cell?, k51]; rfl
      have a2 : w5.cell? ⟨p, 2, none⟩ = some (.int .i64 a.blk) := by simp only [World.cell?, k51]; rfl
      have a3 : w5.cell? ⟨p, 3, none⟩ = some (.int .u64 a.num) := by simp only [World.cell?, k51]; rfl
      have b0 : w5.cell? ⟨q, 0, none⟩ = some (.int .i64 b.br) := by simp only [World.cell?, k52]; rfl
      have b1 : w5.cell? ⟨q, 1, none⟩ = some (.int .i64 b.vol) := by simp only [World.cell?, k52]; rfl
      have b2 : w5.cell? ⟨q, 2, none⟩ = some (.int .i64 b.blk) := by simp only [World.cell?, k52]; rfl
      have b3 : w5.cell? ⟨q, 3, none⟩ = some (.int .u64 b.num) := by simp only [World.cell?, k52]; rfl
      have c0 : w5.cell? ⟨r, 0, none⟩ = some (.int .i64 c.br) := by simp only [World.cell?, k53]; rfl
      have c1 : w5.cell? ⟨r, 1, none⟩ = some (.int .i64 c.vol) := by simp only [World.cell?, k53]; rfl
      have c2 : w5.cell? ⟨r, 2, none⟩ = some (.int .i64 c.blk) := by simp only [World.cell?, k53]; rfl
      have c3 : w5.cell? ⟨r, 3, none⟩ = some (.int .u64 c.num) := by simp only [World.cell?, k53]; rfl
      go_wp2_with fail
      refine (HBf.out a a _).mono ?_
      rintro e w6 ⟨rfl, hb6⟩
      rw [hrr]
      have z6 := hb6.size
      have k61 := (hb6.block _ yp).trans k51
      have k62 := (hb6.block _ yq).trans k52
      have k63 := (hb6.block _ yr).trans k53
      have HB6 : Hid (Below p w w6) := HB5.out.trans (hb6.mono (by omega))
      replace yp := Nat.lt_of_lt_of_le yp z6
      replace yq := Nat.lt_of_lt_of_le yq z6
      replace yr := Nat.lt_of_lt_of_le yr z6
      clear a0 a1 a2 a3 b0 b1 b2 b3 c0 c1 c2 c3 hb6
      have a0 : w6.cell? ⟨p, 0, none⟩ = some (.int .i64 a.br) := by simp only [World.cell?, k61]; rfl
      have a1 : w6.cell? ⟨p, 1, none⟩ = some (.int .i64 a.vol) := by simp only [World.cell?, k61]; rfl
      have a2 : w6.cell? ⟨p, 2, none⟩ = some (.int .i64 a.blk) := by simp only [World.cell?, k61]; rfl
      have a3 : w6.cell? ⟨p, 3, none⟩ = some (.int .u64 a.num) := by simp only [World.cell?, k61]; rfl
      have b0 : w6.cell? ⟨q, 0, none⟩ = some (.int .i64 b.br) := by simp only [World.cell?, k62]; rfl
      have b1 : w6.cell? ⟨q, 1, none⟩ = some (.int .i64 b.vol) := by simp only [World.cell?, k62]; rfl
      have b2 : w6.cell? ⟨q, 2, none⟩ = some (.int .i64 b.blk) := by simp only [World.cell?, k62]; rfl
      have b3 : w6.cell? ⟨q, 3, none⟩ = some (.int .u64 b.num) := by simp only [World.cell?, k62]; rfl
      have c0 : w6.cell? ⟨r, 0, none⟩ = some (.int .i64 c.br) := by simp only [World.cell?, k63]; rfl
      have c1 : w6.cell? ⟨r, 1, none⟩ = some (.int .i64 c.vol) := by simp only [World.cell?, k63]; rfl
      have c2 : w6.cell? ⟨r, 2, none⟩ = some (.int .i64 c.blk) := by simp only [World.cell?, k63]; rfl
      have c3 : w6.cell? ⟨r, 3, none⟩ = some (.int .u64 c.num) := by simp only [World.cell?, k63]; rfl
      go_wp2_with fail
      cases hbc : lt b c
      · refine (HBf.out b c _).mono ?_
        rintro e w7 ⟨rfl, hb7⟩
        rw [hbc]
        have z7 := hb7.size
        have k71 := (hb7.block _ yp).trans k61
        have k72 := (hb7.block _ yq).trans k62
        have k73 := (hb7.block _ yr).trans k63
        have HB7 : Hid (Below p w w7) := HB6.out.trans (hb7.mono (by omega))
        replace yp := Nat.lt_of_lt_of_le yp z7
        replace yq := Nat.lt_of_lt_of_le yq z7
        replace yr := Nat.lt_of_lt_of_le yr z7
        clear a0 a1 a2 a3 b0 b1 b2 b3 c0 c1 c2 c3 hb7
        have a0 : w7.cell? ⟨p, 0, none⟩ = some (.int .i64 a.br) := by simp only [World.cell?, k71]; rfl
        have a1 : w7.cell? ⟨p, 1, none⟩ = some (.int .i64 a.vol) := by simp only [World.cell?, k71]; rfl
        have a2 : w7.cell? ⟨p, 2, none⟩ = some (.int .i64 a.blk) := by simp only [World.cell?, k71]; rfl
        have a3 : w7.cell? ⟨p, 3, none⟩ = some (.int .u64 a.num) := by simp only [World.cell?, k71]; rfl
        have b0 : w7.cell? ⟨q, 0, none⟩ = some (.int .i64 b.br) := by simp only [World.cell?, k72]; rfl
        have b1 : w7.cell? ⟨q, 1, none⟩ = some (.int .i64 b.vol) := by simp only [World.cell?, k72]; rfl
        have b2 : w7.cell? ⟨q, 2, none⟩ = some (.int .i64 b.blk) := by simp only [World.cell?, k72]; rfl
        have b3 : w7.cell? ⟨q, 3, none⟩ = some (.int .u64 b.num) := by simp only [World.cell?, k72]; rfl
        have c0 : w7.cell? ⟨r, 0, none⟩ = some (.int .i64 c.br) := by simp only [World.cell?, k73]; rfl
        have c1 : w7.cell? ⟨r, 1, none⟩ = some (.int .i64 c.vol) := by simp only [World.cell?, k73]; rfl
        have c2 : w7.cell? ⟨r, 2, none⟩ = some (.int .i64 c.blk) := by simp only [World.cell?, k73]; rfl
        have c3 : w7.cell? ⟨r, 3, none⟩ = some (.int .u64 c.num) := by simp only [World.cell?, k73]; rfl
        go_wp2_with fail
        go_ret
        exact ⟨rfl, by rw [hx]; exact HB7.out⟩
      · have hac := lt_trans hxy hbc
        refine (HBf.out b c _).mono ?_
        rintro e w7 ⟨rfl, hb7⟩
        rw [hbc]
        have z7 := hb7.size
        have k71 := (hb7.block _ yp).trans k61
        have k72 := (hb7.block _ yq).trans k62
        have k73 := (hb7.block _ yr).trans k63
        have HB7 : Hid (Below p w w7) := HB6.out.trans (hb7.mono (by omega))
        replace yp := Nat.lt_of_lt_of_le yp z7
        replace yq := Nat.lt_of_lt_of_le yq z7
        replace yr := Nat.lt_of_lt_of_le yr z7
        clear a0 a1 a2 a3 b0 b1 b2 b3 c0 c1 c2 c3 hb7
        have a0 : w7.cell? ⟨p, 0, none⟩ = some (.int .i64 a.br) := by simp only [World.cell?, k71]; rfl
        have a1 : w7.cell? ⟨p, 1, none⟩ = some (.int .i64 a.vol) := by simp only [World.cell?, k71]; rfl
        have a2 : w7.cell? ⟨p, 2, none⟩ = some (.int .i64 a.blk) := by simp only [World.cell?, k71]; rfl
        have a3 : w7.cell? ⟨p, 3, none⟩ = some (.int .u64 a.num) := by simp only [World.cell?, k71]; rfl
        have b0 : w7.cell? ⟨q, 0, none⟩ = some (.int .i64 b.br) := by simp only [World.cell?, k72]; rfl
        have b1 : w7.cell? ⟨q, 1, none⟩ = some (.int .i64 b.vol) := by simp only [World.cell?, k72]; rfl
        have b2 : w7.cell? ⟨q, 2, none⟩ = some (.int .i64 b.blk) := by simp only [World.cell?, k72]; rfl
        have b3 : w7.cell? ⟨q, 3, none⟩ = some (.int .u64 b.num) := by simp only [World.cell?, k72]; rfl
        have c0 : w7.cell? ⟨r, 0, none⟩ = some (.int .i64 c.br) := by simp only [World.cell?, k73]; rfl
        have c1 : w7.cell? ⟨r, 1, none⟩ = some (.int .i64 c.vol) := by simp only [World.cell?, k73]; rfl
        have c2 : w7.cell? ⟨r, 2, none⟩ = some (.int .i64 c.blk) := by simp only [World.cell?, k73]; rfl
        have c3 : w7.cell? ⟨r, 3, none⟩ = some (.int .u64 c.num) := by simp only [World.cell?, k73]; rfl
        go_wp2_with fail
        refine (HBf.out a c _).mono ?_
        rintro e w8 ⟨rfl, hb8⟩
        rw [hac]
        have z8 := hb8.size
        have k81 := (hb8.block _ yp).trans k71
        have k82 := (hb8.block _ yq).trans k72
        have k83 := (hb8.block _ yr).trans k73
        have HB8 : Hid (Below p w w8) := HB7.out.trans (hb8.mono (by omega))
        replace yp := Nat.lt_of_lt_of_le yp z8
        replace yq := Nat.lt_of_lt_of_le yq z8
        replace yr := Nat.lt_of_lt_of_le yr z8
        clear a0 a1 a2 a3 b0 b1 b2 b3 c0 c1 c2 c3 hb8
        have a0 : w8.cell? ⟨p, 0, none⟩ = some (.int .i64 a.br) := by simp only [World.cell?, k81]; rfl
        have a1 : w8.cell? ⟨p, 1, none⟩ = some (.int .i64 a.vol) := by simp only [World.cell?, k81]; rfl
        have a2 : w8.cell? ⟨p, 2, none⟩ = some (.int .i64 a.blk) := by simp only [World.cell?, k81]; rfl
        have a3 : w8.cell? ⟨p, 3, none⟩ = some (.int .u64 a.num) := by simp only [World.cell?, k81]; rfl
        have b0 : w8.cell? ⟨q, 0, none⟩ = some (.int .i64 b.br) := by simp only [World.cell?, k82]; rfl
        have b1 : w8.cell? ⟨q, 1, none⟩ = some (.int .i64 b.vol) := by simp only [World.cell?, k82]; rfl
        have b2 : w8.cell? ⟨q, 2, none⟩ = some (.int .i64 b.blk) := by simp only [World.cell?, k82]; rfl
        have b3 : w8.cell? ⟨q, 3, none⟩ = some (.int .u64 b.num) := by simp only [World.cell?, k82]; rfl
        have c0 : w8.cell? ⟨r, 0, none⟩ = some (.int .i64 c.br) := by simp only [World.cell?, k83]; rfl
        have c1 : w8.cell? ⟨r, 1, none⟩ = some (.int .i64 c.vol) := by simp only [World.cell?, k83]; rfl
        have c2 : w8.cell? ⟨r, 2, none⟩ = some (.int .i64 c.blk) := by simp only [World.cell?, k83]; rfl
        have c3 : w8.cell? ⟨r, 3, none⟩ = some (.int .u64 c.num) := by simp only [World.cell?, k83]; rfl
        go_wp2_with fail
        go_ret
        exact ⟨rfl, by rw [hx]; exact HB8.out⟩
end Go.Proofs.Ytjeebbolnanmkaa.N
