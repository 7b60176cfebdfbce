/- THighL: joined by merge.py. -/
import Derived.Test.YtainljbkejafcaaTB
import Derived.Test.YtainljbkejafcaaNRight
/- The law TreeHigh. -/
namespace Go.Proofs.Ytainljbkejafcaa.N
open Go.BigFrame Go.RowKit Go.Proofs.YtainljbkejafcaaW.PrintMore Go.Proofs.YtainljbkejafcaaW.PrintWords
set_option linter.unusedVariables false
set_option linter.unusedSimpArgs false
set_option maxHeartbeats 6400000 in
set_option maxRecDepth 100000 in
theorem high_ok {w : World} {A : Option Addr} {c : Nat} {ds : List Dd} (hd : DeedsAt w A ds) (k : Sp) :
    Calls Try.prog 18 #[.slice A ds.length c, k.v] w fun e w' => e = .returned (.bool true) ∧ Below w.heap.size w w' := by
  unfold Sp.v
  have HD := Lib.hid hd
  obtain ⟨N, hN⟩ : ∃ N, ds.length = N := ⟨_, rfl⟩
  have HN := Lib.hid hN
  rw [hN]
  clear hd hN
  go_enter Try.func18, Try.ntmps18
  go_wp2_with fail
  have hbw : Below w.heap.size w (w.alloc (.cells #[.int .i64 k.br, .int .i64 k.vol, .int .i64 k.blk, .int .u64 k.num] 26)) := (Below.refl _ _).alloc (Nat.le_refl _) _
  have hbox := heap_alloc_new w (.cells #[.int .i64 k.br, .int .i64 k.vol, .int .i64 k.blk, .int .u64 k.num] 26)
  refine (awake25 _).mono ?_
  rintro e w1 ⟨rfl, hb1⟩
  generalize w.alloc (.cells #[.int .i64 k.br, .int .i64 k.vol, .int .i64 k.blk, .int .u64 k.num] 26) = W at *
  have HB1 := Lib.hid (hbw.trans (hb1.mono hbw.size))
  have hbox1 := (hb1.block _ (Array.getElem?_eq_some_iff.1 hbox).1).trans hbox
  have HBox1 := Lib.hid hbox1
  clear hb1 hbw hbox hbox1
  by_cases hn : N ≤ 60
  case neg =>
    have hg : decide ((60 : Int) < (N : Int)) = true := by simp; omega
    go_wp2_with fail
    go_ret
    exact ⟨rfl, HB1.out⟩
  have hg : decide ((60 : Int) < (N : Int)) = false := by simp; omega
  go_wp2_with fail
  refine (play25 (HD.out.below HB1.out) HN.out (by omega)).mono ?_
  rintro e w2 ⟨p, A3, c3, rfl, ht, hit, hno, hb2⟩
  have HB2 := Lib.hid (HB1.out.trans (hb2.mono HB1.out.size))
  have hbox2 := (hb2.block _ (Array.getElem?_eq_some_iff.1 HBox1.out).1).trans HBox1.out
  have HBox2 := Lib.hid hbox2
  have hlen : (playE ds).length ≤ 60 := by have := playE_len ds; have := HN.out; omega
  have hasc := playE_asc ds
  clear hb2 hbox2 hit hno
  generalize playE ds = l at *
  obtain ⟨r, hr, hroot⟩ := root_tree ht
  obtain ⟨H, hH, hnil, hsm, hbig, -⟩ := root_hi hr hasc
  have HAsc := Lib.hid hasc
  have HHi := Lib.hid (height_tree hr hroot (by omega) hH)
  have HLo : Hid (∀ X, Below w2.heap.size w2 X → Calls Try.prog 55 #[.pointer p, .agg #[.int .i64 k.br, .int .i64 k.vol, .int .i64 k.blk, .int .u64 k.num]] X fun e w' => e = .returned (.int .i64 H) ∧ Below X.heap.size X w') := fun X hX => by
    refine looked_tree (hr.below hX) (fun Y hY => hroot Y (hX.trans (hY.mono hX.size))) (by omega) ?_ k
    rcases hH with h | ⟨q, h, n, m, e, hn, e2⟩
    · exact .inl h
    · exact .inr ⟨q, h, n, m, e, hn.below hX, e2⟩
  have HRo := Lib.hid hroot
  obtain ⟨M, hM⟩ : ∃ M, l.length = M := ⟨_, rfl⟩
  rw [hM] at hsm hbig hlen ⊢
  have HM := Lib.hid hM
  have HHH := Lib.hid (And.intro hsm hbig)
  have HNil := Lib.hid hnil
  have HR := Lib.hid hr
  clear hsm hbig hnil hasc hroot hH hM ht hr
  go_wp2_with fail
  refine HHi.out.mono ?_
  rintro e w3 ⟨rfl, hb3⟩
  have HB3 := Lib.hid (HB2.out.trans (hb3.mono HB2.out.size))
  have HB23 := Lib.hid hb3
  obtain ⟨k0, k1, k2, k3, zk⟩ := box_cells HBox2.out hb3
  clear hb3
  go_wp2_with fail
  refine (HLo.out w3 HB23.out).mono ?_
  rintro e w4 ⟨rfl, hb4⟩
  have HB4 := Lib.hid (HB3.out.trans (hb4.mono HB3.out.size))
  have HB24 := Lib.hid (HB23.out.trans (hb4.mono HB23.out.size))
  have HRo4 := Lib.hid (HRo.out w4 HB24.out)
  have g0 : ((H : Int) == (H : Int)) = true := by simp
  clear hb4 k0 k1 k2 k3 zk
  rcases HR.out with ⟨rfl, rfl⟩ | ⟨q, h, n, rfl, hnd, h0, h2, h4⟩
  · have hM0 : M = 0 := by have := HM.out; simpa using this.symm
    subst hM0
    have hH0 : H = 0 := by have := HHH.out.1 (by omega); simpa using this
    subst hH0
    clear g0
    go_wp2_with fail
    refine HRo4.out.mono ?_
    rintro e w5 ⟨rfl, rfl⟩
    go_wp2_with fail
    go_ret
    exact ⟨rfl, HB4.out⟩
  · have hM1 : 1 ≤ M := by
      have hne := hnd.ne h0
      have := HM.out
      cases l with
      | nil => exact absurd rfl hne
      | cons x t => simp at this; omega
    have hp := hnd.tall h0 h2
    have hh : h ≤ 50 := by
      refine Nat.le_of_not_lt fun hc => ?_
      have : 2 ^ 9 ≤ 2 ^ h := Nat.pow_le_pow_right (by decide) (by omega)
      have := HM.out
      omega
    have HRi : Hid (Calls Try.prog 27 #[.pointer (some ⟨q, 0, none⟩), .bool true] w4 fun e w' => e = .returned (.bool true) ∧ Below w4.heap.size w4 w') := right_nd (hnd.below HB24.out) (by rw [if_pos rfl]; exact h0) h2 h4 HAsc.out hh
    have g1 : ((M : Int) == 0) = false := by rw [beq_eq_false_iff_ne]; omega
    have g2 : decide ((0 : Int) < (M : Int)) = true := by simp; omega
    have g3 : ¬ ((M : Int) = 0) := by omega
    have HM1 := Lib.hid hM1
    clear hp hh hnd h0 h2 h4 hM1
    go_wp2_with fail
    refine HRo4.out.mono ?_
    rintro e w5 ⟨rfl, rfl⟩
    go_wp2_with fail
    refine HRo4.out.mono ?_
    rintro e w6 ⟨rfl, rfl⟩
    go_wp2_with fail
    refine HRi.out.mono ?_
    rintro e w7 ⟨rfl, hb7⟩
    have HB7 := Lib.hid (HB4.out.trans (hb7.mono HB4.out.size))
    clear hb7 g0 g1 g2 g3
    by_cases hM4 : M < 4
    · have hH1 : H = 1 := by have := HHH.out.1 hM4; have := HM1.out; omega
      subst hH1
      have hcs : M = 1 ∨ M = 2 ∨ M = 3 := by have := HM1.out; omega
      clear hM4 hg hn hlen
      rcases hcs with rfl | rfl | rfl
      all_goals (
        go_wp2_with fail
        go_ret
        exact ⟨rfl, HB7.out⟩)
    · obtain ⟨h1, hpow⟩ := HHH.out.2 (by omega)
      have hH5 : H ≤ 5 := by
        refine Nat.le_of_not_lt fun hc => ?_
        have : 2 ^ 6 ≤ 2 ^ H := Nat.pow_le_pow_right (by decide) (by omega)
        omega
      have g1 : decide ((M : Int) < 4) = false := by simp; omega
      have hcs : H = 1 ∨ H = 2 ∨ H = 3 ∨ H = 4 ∨ H = 5 := by omega
      clear hH5 h1 hM4
      rcases hcs with rfl | rfl | rfl | rfl | rfl
      · have g2 : decide ((2 : Int) ≤ (M : Int)) = true := by simp; omega
        clear hpow hn hg hlen
        go_wp2_with fail
        go_ret
        exact ⟨rfl, HB7.out⟩
      · have g2 : decide ((4 : Int) ≤ (M : Int)) = true := by simp; omega
        clear hpow hn hg hlen
        go_wp2_with fail
        go_ret
        exact ⟨rfl, HB7.out⟩
      · have g2 : decide ((8 : Int) ≤ (M : Int)) = true := by simp; omega
        clear hpow hn hg hlen
        go_wp2_with fail
        go_ret
        exact ⟨rfl, HB7.out⟩
      · have g2 : decide ((16 : Int) ≤ (M : Int)) = true := by simp; omega
        clear hpow hn hg hlen
        go_wp2_with fail
        go_ret
        exact ⟨rfl, HB7.out⟩
      · have g2 : decide ((32 : Int) ≤ (M : Int)) = true := by simp; omega
        clear hpow hn hg hlen
        go_wp2_with fail
        go_ret
        exact ⟨rfl, HB7.out⟩
end Go.Proofs.Ytainljbkejafcaa.N
