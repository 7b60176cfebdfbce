/- TLeavesL: joined by merge.py. -/
import Derived.Test.YtainljbkejafcaaTB
import Derived.Test.YtainljbkejafcaaTLeaves
/- The law TreeLeaves. -/
namespace Go.Proofs.Ytainljbkejafcaa.N
open Go.BigFrame Go.RowKit Go.Proofs.YtainljbkejafcaaW.PrintMore Go.Proofs.YtainljbkejafcaaW.PrintWords
set_option linter.unusedVariables false
set_option linter.unusedSimpArgs false
theorem leaves_none (w : World) (ob : Nat) : Calls Try.prog 36 #[.pointer none, .int .i64 1, .int .i64 0, .pointer (some ⟨ob, 0, none⟩)] w fun e w' => e = .returned (.bool false) ∧ w = w' := by
  go_enter Try.func36, Try.ntmps36
  go_wp2_with fail
  go_ret
  exact ⟨rfl, rfl⟩
set_option maxHeartbeats 6400000 in
set_option maxRecDepth 100000 in
theorem tleaves_ok {w : World} {A : Option Addr} {c : Nat} {ds : List Dd} (hd : DeedsAt w A ds) :
    Calls Try.prog 12 #[.slice A ds.length c] w fun e w' => e = .returned (.bool true) ∧ Below w.heap.size w w' := by
  have HD := Lib.hid hd
  obtain ⟨N, hN⟩ : ∃ N, ds.length = N := ⟨_, rfl⟩
  have HN := Lib.hid hN
  rw [hN]
  clear hd hN
  go_enter Try.func12, Try.ntmps12
  go_wp2_with fail
  refine (awake25 _).mono ?_
  rintro e w1 ⟨rfl, hb1⟩
  have HB1 := Lib.hid hb1
  clear hb1
  by_cases hn : N ≤ 60
  case neg =>
    have hg : decide ((60 : Int) < (N : Int)) = true := by simp; omega
    go_wp2_with fail
    go_ret
    exact ⟨rfl, HB1.out⟩
  have hg : decide ((60 : Int) < (N : Int)) = false := by simp; omega
  go_wp2_with fail
  refine (play25 (HD.out.below HB1.out) HN.out (by omega)).mono ?_
  rintro e w2 ⟨p, A3, c3, rfl, ht, hit, hno, hb2⟩
  have HB2 := Lib.hid (HB1.out.trans (hb2.mono HB1.out.size))
  have hlen : (playE ds).length ≤ 60 := by have := playE_len ds; have := HN.out; omega
  have hasc := playE_asc ds
  generalize playE ds = l at *
  obtain ⟨r, hr, hroot⟩ := root_tree ht
  obtain ⟨H, hH, hnil, hsm, hbig, -⟩ := root_hi hr hasc
  have hbo : Below w2.heap.size w2 (w2.alloc (.cells #[.slice none 0 0] 67)) := (Below.refl _ _).alloc (Nat.le_refl _) _
  have hbk := Blk.new w2 #[.slice none 0 0] 67
  obtain ⟨r', hr', hroot'⟩ : ∃ r', r' = r ∧ ∀ X, Below w2.heap.size w2 X → Calls Try.prog 37 #[.pointer p] X fun e w' => e = .returned (.pointer r) ∧ X = w' := ⟨r, rfl, hroot⟩
  clear hr' hroot'
  have hH' : HiOf (w2.alloc (.cells #[.slice none 0 0] 67)) r H := by
    rcases hH with h | ⟨q, h, n, m, e, hn, e2⟩
    · exact .inl h
    · exact .inr ⟨q, h, n, m, e, hn.below hbo, e2⟩
  have HHi := Lib.hid (height_tree (hr.below hbo) (fun Y hY => hroot Y (hbo.trans (hY.mono hbo.size))) (by omega) hH')
  have HRo := Lib.hid hroot
  have HSm : Hid (l.length ≤ 60) := hlen
  obtain ⟨M, hM⟩ : ∃ M, l.length = M := ⟨_, rfl⟩
  rw [hM] at hsm hbig ⊢
  have HM := Lib.hid hM
  have HHH := Lib.hid hH
  have HR := Lib.hid hr
  have HIt := Lib.hid hit
  have HBo := Lib.hid hbo
  have HBk := Lib.hid hbk
  have HOu : Hid (OutAt (w2.alloc (.cells #[.slice none 0 0] 67)) w2.heap.size []) := ⟨none, 0, hbk, World.ownsRow_nil _ _ _ _⟩
  clear hsm hbig hnil hasc hroot hH hM ht hr hit hbo hbk hH' hno hb2
  go_wp2_with fail
  refine (HRo.out _ HBo.out).mono ?_
  generalize w2.alloc (.cells #[.slice none 0 0] 67) = W at *
  rintro e w3 ⟨rfl, rfl⟩
  go_wp2_with fail
  refine HHi.out.mono ?_
  rintro e w4 ⟨rfl, hb4⟩
  have HB4 := Lib.hid (HB2.out.trans ((HBo.out.trans (hb4.mono HBo.out.size)).mono HB2.out.size))
  have HB24 := Lib.hid (HBo.out.trans (hb4.mono HBo.out.size))
  have hob : w2.heap.size < W.heap.size := HBk.out.lt
  have HO4 : Hid (OutAt w4 w2.heap.size []) := ⟨none, 0, HBk.out.below hb4 hob, World.ownsRow_nil _ _ _ _⟩
  clear hb4
  rcases HR.out with ⟨rfl, rfl⟩ | ⟨q, h, n, rfl, hnd, h0, h2, h4⟩
  · have hM0 : M = 0 := by have := HM.out; simpa using this.symm
    subst hM0
    have hH0 : H = 0 := by
      rcases HHH.out with ⟨_, e⟩ | ⟨_, _, _, _, e, _⟩
      · exact e
      · cases e
    subst hH0
    have HLn := Lib.hid (leaves_none w4 w2.heap.size)
    clear hlen
    go_wp2_with fail
    refine HLn.out.mono ?_
    rintro e w5 ⟨rfl, rfl⟩
    go_wp2_with fail
    refine (HRo.out w4 HB24.out).mono ?_
    rintro e w6 ⟨rfl, rfl⟩
    go_wp2_with fail
    go_ret
    exact ⟨rfl, HB4.out⟩
  · have hHh : H = h + 1 := by
      rcases HHH.out with ⟨e, _⟩ | ⟨q', h', n', m', e, hn', e2⟩
      · cases e
      · cases e
        rw [e2, nd_uniq hn' hnd]
    subst hHh
    have hp : 0 < h → 2 ^ (h + 1) ≤ l.length := fun hh => nd_tall2 hnd (h2 hh)
    have hh : h + 1 ≤ 20 := by
      by_cases h1 : 0 < h
      · refine Nat.le_of_not_lt fun hc => ?_
        have h3 := hp h1
        have : 2 ^ 10 ≤ 2 ^ (h + 1) := Nat.pow_le_pow_right (by decide) (by omega)
        have := HSm.out
        omega
      · omega
    have HLv := Lib.hid (leaves_nd (w0 := w2) w2.heap.size (Nat.le_refl _) (h + 1) hh h (deep := 1) hnd h4 h0 (by omega) w4 [] HB24.out HO4.out (by have := HSm.out; simp; omega))
    rw [List.nil_append] at HLv
    clear hlen hp hh hnd h0 h2 h4 hg hn
    go_wp2_with fail
    refine HLv.out.mono ?_
    rintro e w5 ⟨rfl, ⟨A5, c5, hk5, ho5⟩, hb5⟩
    have HB5 := Lib.hid (HB4.out.trans (hb5.mono HB2.out.size))
    have HI5 := Lib.hid (HIt.out.below (HB24.out.trans hb5))
    obtain ⟨A', c', e, _, _, hio, _⟩ := its_own ho5 rfl
    cases e
    have HSa := Lib.hid (same25 (c := c5) (d := c3) hio HI5.out HM.out HM.out (by have := HSm.out; have := HM.out; omega))
    rw [show decide (l = l) = true by simp] at HSa
    rw [HM.out] at hk5
    have y0 : w5.cell? ⟨w2.heap.size, 0, none⟩ = some (.slice A5 M c5) := (hk5.cell 0).trans rfl
    clear hk5 ho5 hb5 hio
    go_wp2_with fail
    refine HSa.out.mono ?_
    rintro e w6 ⟨rfl, hb6⟩
    have HB6 := Lib.hid (HB5.out.trans (hb6.mono HB5.out.size))
    clear hb6
    go_wp2_with fail
    go_ret
    exact ⟨rfl, HB6.out⟩
end Go.Proofs.Ytainljbkejafcaa.N
