/- look of a right inner node. -/
import Derived.Test.YtainljbkejafcaaNLookL
namespace Go.Proofs.Ytainljbkejafcaa.N
open Go.BigFrame Go.RowKit Go.Proofs.YtainljbkejafcaaW.PrintMore Go.Proofs.YtainljbkejafcaaW.PrintWords
set_option linter.unusedVariables false
set_option linter.unusedSimpArgs false
def bsF (x : Sp) (ss : Nat → Sp) : Nat → Sp
  | 0 => x
  | n + 1 => ss n
theorem sp_neF (a : Sp) (W : World) : (binOp .neq 26 (.agg #[.int .i64 a.br, .int .i64 a.vol, .int .i64 a.blk, .int .u64 a.num]) (.agg #[.int .i64 a.br, .int .i64 a.vol, .int .i64 a.blk, .int .u64 a.num])).run Try.prog W = .ok (.bool false) W := by
  have := sp_ne a a W
  rw [show (!decide (a = a)) = false by simp] at this
  exact this
theorem bsF_pos (x : Sp) (ss : Nat → Sp) {n : Nat} (h : 0 < n) : bsF x ss n = ss (n - 1) := by
  cases n with
  | zero => exact absurd h (by decide)
  | succ n => rfl
theorem bsF_zero (x : Sp) (ss : Nat → Sp) : bsF x ss 0 = x := rfl
theorem bsF_succ (x : Sp) (ss : Nat → Sp) (n : Nat) : bsF x ss (n + 1) = ss n := rfl
def hsF (H : Nat) : Nat → Nat
  | 0 => 0
  | _ + 1 => H
def KidRel (w : World) (x : Sp) (ss : Nat → Sp) (H N : Nat) (hi i : Value) (wr : World) : Prop := ∃ (jj : Nat) (hv : Value), i = .int .i64 jj ∧ hv = hi ∧ (0 < jj → hv = .int .i64 H) ∧ jj ≤ N ∧ Below w.heap.size w wr ∧ wr.heap[w.heap.size]? = some (.cells #[.int .i64 (bsF x ss jj).br, .int .i64 (bsF x ss jj).vol, .int .i64 (bsF x ss jj).blk, .int .u64 (bsF x ss jj).num] 26)
set_option maxHeartbeats 6400000 in
set_option maxRecDepth 100000 in
theorem look_innerN {w : World} {p H : Nat} {ks : List Sp} {qs : List Nat} (h : Inner w p ks qs) (h2 : 2 ≤ ks.length) (d4' : ks.length ≤ 4) (hr : Rising ks) (root : Bool) (ss : Nat → Sp)
    (hkid : ∀ j (hj : j < qs.length) (hj' : j < ks.length), (∃ kk, KeysOf w qs[j] kk ∧ 0 < kk.length ∧ kk.length ≤ 4 ∧ ∀ h0 : 0 < kk.length, kk[0] = ks[j]) ∧ (∀ X, Below w.heap.size w X → Calls Try.prog 58 #[.pointer (some ⟨qs[j], 0, none⟩), .bool false] X (LookX X H (ss j))) ∧ (0 < j → lt (ss (j - 1)) ks[j] = true)) (hH : H ≤ 100) :
    Calls Try.prog 58 #[.pointer (some ⟨p, 0, none⟩), .bool root] w (LookX w (H + 1) (ss (ks.length - 1))) := by
  have HLf := Lib.hid h
  have HR := Lib.hid hr
  have HKid := Lib.hid hkid
  obtain ⟨lst, hlst⟩ : ∃ y, (ks[ks.length - 1]?).getD sp0 = y := ⟨_, rfl⟩
  have HLst := Lib.hid hlst
  obtain ⟨A, ca, C, cc, hl⟩ := h
  have c0 := hl.c0
  have c1 := hl.c1
  have c2 := hl.c2
  have plt := hl.lt
  have hca := hl.hca
  have hcm := hl.hcm
  have hql := hl.len
  simp only [maxLen] at hcm
  have hkeys := Lib.hid hl.keys
  have hkids := Lib.hid hl.kids
  obtain ⟨N, hN⟩ : ∃ N, ks.length = N := ⟨_, rfl⟩
  have HN := Lib.hid hN
  have HQN : Hid (qs.length = N) := hql.trans hN
  rw [hql] at c2
  rw [hN] at c0 c2 hca h2 d4' ⊢
  have d4 : ¬ 4 < N := by omega
  have d0 : ¬ N = 0 := by omega
  clear hl hr hN hlst hkid hql
  have hq := heap_alloc_new w (.cells #[.int .i64 0, .int .i64 0, .int .i64 0, .int .u64 0] 26)
  have hb0 := (Below.refl w.heap.size w).alloc (Nat.le_refl _) (.cells #[.int .i64 0, .int .i64 0, .int .i64 0, .int .u64 0] 26)
  have np : p ≠ w.heap.size := by omega
  have D0 : ((N : Int) == 0) = false := beq_eq_false_iff_ne.2 (by omega)
  obtain ⟨b, off, rfl, hlt, hcs⟩ := hkeys.out (by rw [HN.out]; omega)
  have HC : Hid (∀ j (h : j < N), SpAt w b (off + j * 4) (ks[j]'(by rw [HN.out]; exact h))) := fun j h => hcs j (by rw [HN.out]; exact h)
  have HR2 : Hid (∀ j (h : j + 1 < N), lt (ks[j]'(by rw [HN.out]; omega)) (ks[j + 1]'(by rw [HN.out]; exact h)) = true) := fun j h => HR.out j (by rw [HN.out]; exact h)
  have nb : b ≠ w.heap.size := by omega
  clear hcs hkeys HR
  have HB0 := Lib.hid hb0
  have HQ := Lib.hid hq
  clear hb0 hq
  go_enter Try.func58, Try.ntmps58
  go_wp2_with fail
  all_goals (
    go_loopw [38] (fun i wr => LookRel (w.alloc (.cells #[.int .i64 0, .int .i64 0, .int .i64 0, .int .u64 0] 26)) N i wr) (fun i _ => (N - intOf i).toNat)
    case atStart => exact ⟨0, rfl, by omega, Below.refl _ _⟩
    case round =>
      obtain ⟨j, rfl, hj, hbj⟩ := hrel
      have BJ := HB0.out.trans (hbj.mono HB0.out.size)
      have t0 := (BJ.cell (p := ⟨p, 0, none⟩) plt).trans c0
      have t1 := (BJ.cell (p := ⟨p, 1, none⟩) plt).trans c1
      have hbox := (hbj.block w.heap.size (by simp)).trans HQ.out
      have wsz : w.heap.size < wr.heap.size := (Array.getElem?_eq_some_iff.1 hbox).1
      by_cases cc : j + 1 < N
      · obtain ⟨s0, s1, s2, s3⟩ := (HC.out j (by omega)).below BJ hlt
        obtain ⟨r0, r1, r2, r3⟩ := (HC.out (j + 1) cc).below BJ hlt
        have hlt2 := HR2.out j cc
        have e1 : (0 : Int) ≤ (j : Int) := by omega
        have e2 : (j : Int) + 1 < (N : Int) := by omega
        have e3 : (j : Int) < (N : Int) := by omega
        have e4 : (0 : Int) ≤ (j : Int) + 1 := by omega
        have hw1 : IntKind.i64.wrap ((j : Int) + 1) = (j : Int) + 1 := by rw [IntKind.wrap_i64]; omega
        have hn1 : ((j : Int) + 1).toNat = j + 1 := by omega
        have zp : p < wr.heap.size := by omega
        have zb : b < wr.heap.size := by omega
        generalize ks[j]'(_) = x at *
        generalize ks[j + 1]'(_) = y at *
        have HBf := Lib.hid (fun W => before_at' x y W)
        first
        | (exfalso; omega)
        | (go_wp2_with fail
           go_region_held3 (fun w' => w'.cell? ⟨p, 0, none⟩ = some (.slice (some ⟨b, off, none⟩) N ca) ∧ w'.cell? ⟨b, off + j * 4, none⟩ = some (.int .i64 x.br) ∧ w'.cell? ⟨b, off + j * 4 + 1, none⟩ = some (.int .i64 x.vol) ∧ w'.cell? ⟨b, off + j * 4 + 2, none⟩ = some (.int .i64 x.blk) ∧ w'.cell? ⟨b, off + j * 4 + 3, none⟩ = some (.int .u64 x.num) ∧ w'.cell? ⟨b, off + (j + 1) * 4, none⟩ = some (.int .i64 y.br) ∧ w'.cell? ⟨b, off + (j + 1) * 4 + 1, none⟩ = some (.int .i64 y.vol) ∧ w'.cell? ⟨b, off + (j + 1) * 4 + 2, none⟩ = some (.int .i64 y.blk) ∧ w'.cell? ⟨b, off + (j + 1) * 4 + 3, none⟩ = some (.int .u64 y.num)) (go_keep)
             (first
             | (go_at_call 20; refine (HBf.out _).mono ?_; rintro e w5 ⟨rfl, hb5⟩; rw [hlt2]; replace hb5 := bel_undrew hb5; obtain ⟨bc5, bf5⟩ := bcell hb5))
           go_wp2_with fail
           go_roundw
           case rel => exact ⟨j + 1, by simp, by omega, hbj.trans (hb5.mono hbj.size)⟩
           case measure => simp [intOf]; omega)
      · obtain ⟨s0, s1, s2, s3⟩ := (HC.out j (by omega)).below BJ hlt
        obtain rfl : N = j + 1 := by omega
        have e1 : (0 : Int) ≤ (j : Int) := by omega
        have e3 : (j : Int) < (j : Int) + 1 := by omega
        have e4 : ((j + 1 : Nat) : Int) = (j : Int) + 1 := by omega
        have hw2 : IntKind.i64.wrap ((j : Int) + 1 - 1) = (j : Int) := by rw [IntKind.wrap_i64]; omega
        have hw3 : (j : Int) + 1 - 1 = (j : Int) := by omega
        have hw4 : IntKind.i64.wrap (j : Int) = (j : Int) := by rw [IntKind.wrap_i64]; omega
        have zp : p < wr.heap.size := by omega
        have zb : b < wr.heap.size := by omega
        have hxl : ks[j]'(by rw [HN.out]; omega) = lst := (getD_last HN.out).symm.trans HLst.out
        have HXL := Lib.hid hxl
        clear hxl
        generalize ks[j]'(_) = x at *
        have bx0 : wr.cell? ⟨w.heap.size, 0, none⟩ = some (.int .i64 0) := by simp only [World.cell?, hbox]; rfl
        have bx1 : wr.cell? ⟨w.heap.size, 1, none⟩ = some (.int .i64 0) := by simp only [World.cell?, hbox]; rfl
        have bx2 : wr.cell? ⟨w.heap.size, 2, none⟩ = some (.int .i64 0) := by simp only [World.cell?, hbox]; rfl
        have bx3 : wr.cell? ⟨w.heap.size, 3, none⟩ = some (.int .u64 0) := by simp only [World.cell?, hbox]; rfl
        have np' : w.heap.size ≠ p := by omega
        have nb' : w.heap.size ≠ b := by omega
        have fx : ∀ o, wr.frozen? ⟨w.heap.size, o, none⟩ = false := fun o => by simp only [World.frozen?, hbox]; simp
        go_wp2_with fail
        go_cut [5] (fun s5 wx => s5 = .pointer (some ⟨w.heap.size, 0, none⟩) ∧ Below w.heap.size w wx ∧ wx.heap[w.heap.size]? = some (.cells #[.int .i64 x.br, .int .i64 x.vol, .int .i64 x.blk, .int .u64 x.num] 26))
        case first =>
          go_region_held3 (fun w' => w'.cell? ⟨p, 0, none⟩ = some (.slice (some ⟨b, off, none⟩) (j + 1) ca) ∧ w'.cell? ⟨b, off + j * 4, none⟩ = some (.int .i64 x.br) ∧ w'.cell? ⟨b, off + j * 4 + 1, none⟩ = some (.int .i64 x.vol) ∧ w'.cell? ⟨b, off + j * 4 + 2, none⟩ = some (.int .i64 x.blk) ∧ w'.cell? ⟨b, off + j * 4 + 3, none⟩ = some (.int .u64 x.num)) (go_keep) (fail)
          go_wp2_with fail
          go_meet
          have f4 := set_at (o := 3) (v := .int .u64 x.num) (set_at (o := 2) (v := .int .i64 x.blk) (set_at (o := 1) (v := .int .i64 x.vol) (set_at (o := 0) (v := .int .i64 x.br) hbox)))
          exact ⟨rfl, ((((BJ.setCell (by simp) _).setCell (by simp) _).setCell (by simp) _).setCell (by simp) _).trans (bel_drewN _ _ (n := 1)), f4⟩
        case rest =>
          obtain ⟨rfl, hbw, hbx⟩ := hcut
          clear t0 t1 hbox bx0 bx1 bx2 bx3 fx s0 s1 s2 s3
          have t0 := (hbw.cell (p := ⟨p, 0, none⟩) plt).trans c0
          have t1 := (hbw.cell (p := ⟨p, 1, none⟩) plt).trans c1
          have bx0 : wc.cell? ⟨w.heap.size, 0, none⟩ = some (.int .i64 x.br) := by simp only [World.cell?, hbx]; rfl
          have bx1 : wc.cell? ⟨w.heap.size, 1, none⟩ = some (.int .i64 x.vol) := by simp only [World.cell?, hbx]; rfl
          have bx2 : wc.cell? ⟨w.heap.size, 2, none⟩ = some (.int .i64 x.blk) := by simp only [World.cell?, hbx]; rfl
          have bx3 : wc.cell? ⟨w.heap.size, 3, none⟩ = some (.int .u64 x.num) := by simp only [World.cell?, hbx]; rfl
          have fx : ∀ o, wc.frozen? ⟨w.heap.size, o, none⟩ = false := fun o => by simp only [World.frozen?, hbx]; simp
          have t2 := (hbw.cell (p := ⟨p, 2, none⟩) plt).trans c2
          go_wp2_with fail
          refine (leaf_no (HLf.out.below hbw)).mono ?_
          rintro e w6 ⟨rfl, rfl⟩
          have e5 : decide (((j : Int) + 1) < 2) = false := by simp <;> omega
          have e6 : ¬ ((j : Int) + 1 < 2) := by omega
          have e7 : ((((j + 1 : Nat) : Int)) != (((j + 1 : Nat) : Int))) = false := by simp
          go_wp2_with fail
          have x0 := cls_cell t0
          have x1 := cls_cell t1
          have x2 := cls_cell t2
          have := cls_ne wc
          try simp only [List.append_eq, List.cons_append, List.nil_append]
          refine wp_region_cls (S := Below wc.heap.size wc) (by kernel_rfl) (by kernel_rfl) (bel_drewN _ _ (n := 1)) ?_
          repeat (go_big_quiet_step (fail))
          refine wpQuiet_nil ?_
          rintro w6 ⟨⟨_, hx6⟩, rfl⟩
          clear x0 x1 x2 this t0 t1 t2 bx0 bx1 bx2 bx3 fx
          try dsimp only
          have hbx6 := (hx6.block w.heap.size (Array.getElem?_eq_some_iff.1 hbx).1).trans hbx
          have hb6 := hbw.trans (hx6.mono hbw.size)
          clear hx6 hbx hbw e5 e6 e7
          have t2 := (hb6.cell (p := ⟨p, 2, none⟩) plt).trans c2
          have HX6 := Lib.hid hbx6
          have HB6 := Lib.hid hb6
          clear hbx6 hb6
          go_wp2_with fail
          clear t2
          obtain ⟨bq, oq, hCq, hbq, hqc⟩ := hkids.out (by rw [HQN.out]; omega)
          subst hCq
          have HQc := Lib.hid hqc
          clear hqc hkids
          go_loopw [4, 130] (fun hi i wr => KidRel w x ss H (j + 1) hi i wr) (fun _ i _ => (j + 1 - intOf i).toNat)
          case atStart => exact ⟨0, _, rfl, rfl, fun h => absurd h (by decide), Nat.zero_le _, HB6.out, by rw [bsF_zero]; exact HX6.out⟩
          case round =>
            obtain ⟨jj, hv, rfl, rfl, hhv, hjj, hbr, hbox⟩ := hrel
            have HBr := Lib.hid hbr
            have HBox := Lib.hid hbox
            by_cases hjn : jj < j + 1
            · have hjq : jj < qs.length := by rw [HQN.out]; exact hjn
              have hjk : jj < ks.length := by rw [HN.out]; exact hjn
              have q0 := bel_cell hbr hbq (HQc.out jj hjq)
              obtain ⟨⟨kk, hkk, hkk0, hkk4, hkk1⟩, hlk, hlt3⟩ := HKid.out jj hjq hjk
              have HLk := Lib.hid (hlk wr hbr)
              have HKK := Lib.hid hkk
              have HCj := Lib.hid (HC.out jj hjn)
              have hkk2 := hkk1 hkk0
              have HLt := Lib.hid hlt3
              clear hlk hkk hbr hbox hkk1 hlt3
              generalize qs[jj]'(_) = qj at *
              generalize ks[jj]'(_) = kj at *
              have g1 : (0 : Int) ≤ (jj : Int) := by omega
              have g2 : (jj : Int) < (j : Int) + 1 := by omega
              have g3 : decide ((jj : Int) < (j : Int) + 1) = true := by simp <;> omega
              have g4 : IntKind.i64.wrap ((jj : Int) + 1) = (jj : Int) + 1 := by rw [IntKind.wrap_i64]; omega
              have g5 : (jj : Int) < ((j + 1 : Nat) : Int) := by omega
              go_wp2_with fail
              refine HLk.out.mono ?_
              rintro e w7 ⟨rfl, hb7⟩
              clear q0
              go_wp2_with fail
              have hbx8 : Below w7.heap.size w7 (w7.alloc (.cells #[.int .i64 (ss jj).br, .int .i64 (ss jj).vol, .int .i64 (ss jj).blk, .int .u64 (ss jj).num] 26)) := (Below.refl _ _).alloc (Nat.le_refl _) _
              have hbo := heap_alloc_new w7 (.cells #[.int .i64 (ss jj).br, .int .i64 (ss jj).vol, .int .i64 (ss jj).blk, .int .u64 (ss jj).num] 26)
              have hb8 := hb7.trans (hbx8.mono hb7.size)
              have hbox8 := (hb8.block w.heap.size (Array.getElem?_eq_some_iff.1 HBox.out).1).trans HBox.out
              have HBw8 := Lib.hid (HBr.out.trans (hb8.mono HBr.out.size))
              have hwz : w.heap.size < w7.heap.size := Nat.lt_of_lt_of_le (Array.getElem?_eq_some_iff.1 HBox.out).1 hb7.size
              clear hbx8 hb7
              obtain ⟨T8, hT8⟩ : ∃ T8, w7.heap.size = T8 := ⟨_, rfl⟩
              rw [hT8] at hbo hwz ⊢
              clear hT8
              obtain ⟨Ak, ck, kc0, kplt, kks, _, _⟩ := HKK.out.below (HBw8.out)
              obtain ⟨bk, ok, rfl, hbk, hks⟩ := kks hkk0
              obtain ⟨p0, p1, p2, p3⟩ := hks 0 hkk0
              simp only [Nat.zero_mul, Nat.add_zero] at p0 p1 p2 p3
              rw [hkk2] at p0 p1 p2 p3
              obtain ⟨s0, s1, s2, s3⟩ := HCj.out.below HBw8.out hlt
              have t0 := (HBw8.out.cell (p := ⟨p, 0, none⟩) plt).trans c0
              clear hkk2 hks kks hb8
              obtain ⟨K1, hK1⟩ : ∃ K1, kk.length = K1 := ⟨_, rfl⟩
              rw [hK1] at kc0 hkk0
              clear hK1 hkk4 kplt hbk
              generalize w7.alloc (.cells #[.int .i64 (ss jj).br, .int .i64 (ss jj).vol, .int .i64 (ss jj).blk, .int .u64 (ss jj).num] 26) = W8 at *
              have o0 : W8.cell? ⟨T8, 0, none⟩ = some (.int .i64 (ss jj).br) := by simp only [World.cell?, hbo]; rfl
              have o1 : W8.cell? ⟨T8, 1, none⟩ = some (.int .i64 (ss jj).vol) := by simp only [World.cell?, hbo]; rfl
              have o2 : W8.cell? ⟨T8, 2, none⟩ = some (.int .i64 (ss jj).blk) := by simp only [World.cell?, hbo]; rfl
              have o3 : W8.cell? ⟨T8, 3, none⟩ = some (.int .u64 (ss jj).num) := by simp only [World.cell?, hbo]; rfl
              generalize hy : bsF x ss jj = y at *
              have HY := Lib.hid hy
              clear hy
              have b0 : W8.cell? ⟨w.heap.size, 0, none⟩ = some (.int .i64 y.br) := by simp only [World.cell?, hbox8]; rfl
              have b1 : W8.cell? ⟨w.heap.size, 1, none⟩ = some (.int .i64 y.vol) := by simp only [World.cell?, hbox8]; rfl
              have b2 : W8.cell? ⟨w.heap.size, 2, none⟩ = some (.int .i64 y.blk) := by simp only [World.cell?, hbox8]; rfl
              have b3 : W8.cell? ⟨w.heap.size, 3, none⟩ = some (.int .u64 y.num) := by simp only [World.cell?, hbox8]; rfl
              have HO8 := Lib.hid hbo
              have HX8 := Lib.hid hbox8
              clear hbo hbox8
              have x0 := cls_cell kc0
              have x1 := cls_cell p0
              have x2 := cls_cell p1
              have x3 := cls_cell p2
              have x4 := cls_cell p3
              have x5 := cls_cell s0
              have x6 := cls_cell s1
              have x7 := cls_cell s2
              have x8 := cls_cell s3
              have x9 := cls_cell t0
              have x10 := cls_cell b0
              have x11 := cls_cell b1
              have x12 := cls_cell b2
              have x13 := cls_cell b3
              clear kc0 p0 p1 p2 p3 s0 s1 s2 s3 t0 b0 b1 b2 b3 o0 o1 o2 o3
              have HE := sp_neF kj
              have k1 : (0 : Int) < (K1 : Int) := by omega
              have HHv : Hid (0 < jj → hv = .int .i64 H) := hhv
              clear hhv
              have := cls_ne W8
              go_cut [179] (fun s wx => s = .bool false ∧ Below W8.heap.size W8 wx)
              case first =>
                by_cases hj0 : jj = 0
                · subst hj0
                  simp only [Nat.zero_mul, Nat.add_zero] at x5 x6 x7 x8
                  go_wp2_with fail
                  try simp only [List.append_eq, List.cons_append, List.nil_append]
                  refine wp_region_cls (S := Below W8.heap.size W8) (by kernel_rfl) (by kernel_rfl) (bel_drewN _ _ (n := 1)) ?_
                  repeat (go_big_quiet_step (fail))
                  refine wpQuiet_nil ?_
                  rintro w9 ⟨⟨_, hx9⟩, rfl⟩
                  try dsimp only
                  go_wp2_with fail
                  go_meet
                  exact ⟨rfl, hx9⟩
                · have hh := HHv.out (Nat.pos_of_ne_zero hj0)
                  subst hh
                  have hlt4 : lt y kj = true := by rw [← HY.out, bsF_pos x ss (Nat.pos_of_ne_zero hj0)]; exact HLt.out (Nat.pos_of_ne_zero hj0)
                  have HBf : Hid (∀ x : Wd (Below W8.heap.size W8), Calls Try.prog 20 #[.agg #[.int .i64 y.br, .int .i64 y.vol, .int .i64 y.blk, .int .u64 y.num], .agg #[.int .i64 kj.br, .int .i64 kj.vol, .int .i64 kj.blk, .int .u64 kj.num]] x.w fun e w'' => e = .returned (.bool true) ∧ ∃ m : Wd (Below W8.heap.size W8), w'' = m.w) := fun x => Calls.clsB (by have := before_at' y kj x.w; rw [hlt4] at this; exact this) (Nat.le_refl _)
                  have n1 : decide ((0 : Int) < (jj : Int)) = true := by simp <;> omega
                  have n2 : decide (0 < jj) = true := by simp <;> omega
                  have n3 : (0 : Int) < (jj : Int) := by omega
                  have n4 : ((H : Int) != (H : Int)) = false := by simp
                  clear hlt4 hj0
                  go_wp2_with fail
                  try simp only [List.append_eq, List.cons_append, List.nil_append]
                  refine wp_region_cls (S := Below W8.heap.size W8) (by kernel_rfl) (by kernel_rfl) (bel_drewN _ _ (n := 1)) ?_
                  repeat (go_big_quiet_step (with_reducible (exact HBf.out _)))
                  refine wpQuiet_nil ?_
                  rintro w9 ⟨⟨_, hx9⟩, rfl⟩
                  try dsimp only
                  go_wp2_with fail
                  go_meet
                  exact ⟨rfl, hx9⟩
              case rest =>
                obtain ⟨rfl, hb9⟩ := hcut
                clear x0 x1 x2 x3 x4 x5 x6 x7 x8 x9 x10 x11 x12 x13 this HE
                have hbo := (hb9.block T8 (Array.getElem?_eq_some_iff.1 HO8.out).1).trans HO8.out
                have hbox := (hb9.block w.heap.size (Array.getElem?_eq_some_iff.1 HX8.out).1).trans HX8.out
                have BJ := HBw8.out.trans (hb9.mono HBw8.out.size)
                have o0 : wc.cell? ⟨T8, 0, none⟩ = some (.int .i64 (ss jj).br) := by simp only [World.cell?, hbo]; rfl
                have o1 : wc.cell? ⟨T8, 1, none⟩ = some (.int .i64 (ss jj).vol) := by simp only [World.cell?, hbo]; rfl
                have o2 : wc.cell? ⟨T8, 2, none⟩ = some (.int .i64 (ss jj).blk) := by simp only [World.cell?, hbo]; rfl
                have o3 : wc.cell? ⟨T8, 3, none⟩ = some (.int .u64 (ss jj).num) := by simp only [World.cell?, hbo]; rfl
                have b0 : wc.cell? ⟨w.heap.size, 0, none⟩ = some (.int .i64 y.br) := by simp only [World.cell?, hbox]; rfl
                have b1 : wc.cell? ⟨w.heap.size, 1, none⟩ = some (.int .i64 y.vol) := by simp only [World.cell?, hbox]; rfl
                have b2 : wc.cell? ⟨w.heap.size, 2, none⟩ = some (.int .i64 y.blk) := by simp only [World.cell?, hbox]; rfl
                have b3 : wc.cell? ⟨w.heap.size, 3, none⟩ = some (.int .u64 y.num) := by simp only [World.cell?, hbox]; rfl
                have fx : ∀ o, wc.frozen? ⟨w.heap.size, o, none⟩ = false := fun o => by simp only [World.frozen?, hbox]; simp
                have hT1 : w.heap.size ≠ T8 := by omega
                have hT2 : T8 ≠ w.heap.size := by omega
                have HBo := Lib.hid hbox
                have HBJ := Lib.hid BJ
                generalize hz : ss jj = z at *
                have HZ := Lib.hid hz
                clear hb9 hbo hbox BJ hz
                go_wp2_with fail
                go_region_held3 (fun w' => w'.cell? ⟨T8, 0, none⟩ = some (.int .i64 z.br) ∧ w'.cell? ⟨T8, 1, none⟩ = some (.int .i64 z.vol) ∧ w'.cell? ⟨T8, 2, none⟩ = some (.int .i64 z.blk) ∧ w'.cell? ⟨T8, 3, none⟩ = some (.int .u64 z.num)) (simp [*, World.cell?_alloc_some, World.cell?_setCell_far, World.cell?_setCell_same', cell_off]) (fail)
                go_wp2_with fail
                go_roundw
                case rel =>
                  have f4 := set_at (o := 3) (v := .int .u64 z.num) (set_at (o := 2) (v := .int .i64 z.blk) (set_at (o := 1) (v := .int .i64 z.vol) (set_at (o := 0) (v := .int .i64 z.br) HBo.out)))
                  refine ⟨jj + 1, _, by simp, rfl, fun _ => rfl, hjn, ((((HBJ.out.setCell (by simp) _).setCell (by simp) _).setCell (by simp) _).setCell (by simp) _).trans (bel_drewN _ _ (n := 1)), ?_⟩
                  rw [bsF_succ, HZ.out]
                  exact f4
                case measure => (simp [intOf] <;> omega)
            · obtain rfl : jj = j + 1 := by omega
              have hh := hhv (Nat.succ_pos _)
              subst hh
              rw [bsF_succ] at hbox
              generalize hz : ss j = z at *
              have HZ := Lib.hid hz
              have HBo := Lib.hid hbox
              have b0 : wr.cell? ⟨w.heap.size, 0, none⟩ = some (.int .i64 z.br) := by simp only [World.cell?, hbox]; rfl
              have b1 : wr.cell? ⟨w.heap.size, 1, none⟩ = some (.int .i64 z.vol) := by simp only [World.cell?, hbox]; rfl
              have b2 : wr.cell? ⟨w.heap.size, 2, none⟩ = some (.int .i64 z.blk) := by simp only [World.cell?, hbox]; rfl
              have b3 : wr.cell? ⟨w.heap.size, 3, none⟩ = some (.int .u64 z.num) := by simp only [World.cell?, hbox]; rfl
              have fx : ∀ o, wr.frozen? ⟨w.heap.size, o, none⟩ = false := fun o => by simp only [World.frozen?, hbox]; simp
              have q1 : IntKind.i64.wrap ((H : Int) + 1) = (H : Int) + 1 := by rw [IntKind.wrap_i64]; omega
              clear hz hbox hhv hbr hjn
              go_wp2_with fail
              go_region_held3 (fun w' => w'.cell? ⟨w.heap.size, 0, none⟩ = some (.int .i64 z.br) ∧ w'.cell? ⟨w.heap.size, 1, none⟩ = some (.int .i64 z.vol) ∧ w'.cell? ⟨w.heap.size, 2, none⟩ = some (.int .i64 z.blk) ∧ w'.cell? ⟨w.heap.size, 3, none⟩ = some (.int .u64 z.num)) (simp [*, World.cell?_alloc_some, World.cell?_setCell_far, World.cell?_setCell_same', cell_off]) (fail)
              go_wp2_with fail
              refine bodyPost_ret (v := .tuple #[.int .i64 ((H : Int) + 1), .agg #[.int .i64 z.br, .int .i64 z.vol, .int .i64 z.blk, .int .u64 z.num], .bool true]) (by rw [results_tct rfl]; go_simp) rfl ?_
              refine ⟨?_, ((((HBr.out.setCell (by simp) _).setCell (by simp) _).setCell (by simp) _).setCell (by simp) _).trans (bel_drewN _ _ (n := 1))⟩
              rw [Nat.add_sub_cancel, HZ.out, show ((H + 1 : Nat) : Int) = (H : Int) + 1 by omega])
end Go.Proofs.Ytainljbkejafcaa.N
