/- ASpans: joined by merge.py. -/
import Derived.Test.YtlackkhkaceblaaAM
/- The law AsofSpans. -/
namespace Go.Proofs.Ytlackkhkaceblaa.N
open Go.BigFrame Go.RowKit Go.Shelf Go.Proofs.YtlackkhkaceblaaW.PrintMore Go.Proofs.YtlackkhkaceblaaW.PrintWords
set_option linter.unusedVariables false
set_option linter.unusedSimpArgs false
set_option maxHeartbeats 6400000 in
set_option maxRecDepth 100000 in
theorem spans_ok {w : World} {A : Option Addr} {c : Nat} {ac : List Ac} (hd : ActsAt w A ac) (hk : ∀ a ∈ ac, AcOk a) (p : Sp) {m on : Int} (hm0 : 0 ≤ m) (hml : m ≤ lastN) (ho0 : 0 ≤ on) (ho1 : on ≤ 255) :
    Calls Try.prog 3 #[.slice A ac.length c, .agg #[.int .i64 p.br, .int .i64 p.vol, .int .i64 p.blk], .int .u64 m, .int .u8 on] w fun e w' => e = .returned (.bool true) ∧ Below w.heap.size w w' := by
  have HD := Lib.hid hd
  have HK := Lib.hid hk
  obtain ⟨N, hN⟩ : ∃ N, ac.length = N := ⟨_, rfl⟩
  have HN := Lib.hid hN
  rw [hN]
  clear hd hk hN
  go_enter Try.func3, Try.ntmps3
  go_upto_region 1 with fail
  obtain ⟨W, hW⟩ : ∃ X, (w.alloc (.cells #[.int .i64 p.br, .int .i64 p.vol, .int .i64 p.blk] 24)) = X := ⟨_, rfl⟩
  have hbw : Below w.heap.size w W := by rw [← hW]; exact (Below.refl _ _).alloc (Nat.le_refl _) _
  have hbox0 : Blk W w.heap.size #[.int .i64 p.br, .int .i64 p.vol, .int .i64 p.blk] 24 := by rw [← hW]; exact Blk.new w _ _
  rw [hW]
  clear hW
  go_wp2_with fail
  refine (awake26 _).mono ?_
  rintro e w1 ⟨rfl, hb1⟩
  have HB1 := Lib.hid (hbw.trans (hb1.mono hbw.size))
  have HX1_0 := Lib.hid (Blk.below hbox0 hb1 hbox0.lt)
  clear hb1 hbw hbox0
  by_cases hn : N ≤ 40
  case neg =>
    have hg : decide ((40 : Int) < (N : Int)) = true := by simp; omega
    go_wp2_with fail
    refine (awake26 _).mono ?_
    rintro e w2 ⟨rfl, hb2⟩
    have HBz := Lib.hid (HB1.out.trans (hb2.mono HB1.out.size))
    clear hb2
    go_wp2_with fail
    go_ret
    exact ⟨rfl, HBz.out⟩
  have hg : decide ((40 : Int) < (N : Int)) = false := by simp; omega
  have HL := Lib.hid hn
  go_wp2_with fail
  refine (new_idx w1).mono ?_
  rintro e w2 ⟨b, rfl, hi, hbb, hb2⟩
  have HD2 := Lib.hid ((HD.out.below HB1.out).below hb2)
  have HLt := Lib.hid ((HD.out.below HB1.out).lies HN.out hbb)
  have HB2 := Lib.hid (HB1.out.trans (hb2.mono HB1.out.size))
  have HDn := Lib.hid (done26 (c := c) hi HD2.out HLt.out HN.out (by omega) HK.out)
  have hsz1 := HB1.out.size
  have HBb : Hid (w.heap.size ≤ b) := Nat.le_trans hsz1 hbb
  have HNe0 : Hid (w.heap.size ≠ b) := Nat.ne_of_lt (Nat.lt_of_lt_of_le HX1_0.out.lt hbb)
  have HX2_0 := Lib.hid (Blk.below HX1_0.out hb2 HX1_0.out.lt)
  clear hi hbb hb2 HD2 HLt hsz1
  go_wp2_with fail
  refine HDn.out.mono ?_
  rintro e w3 ⟨A3, c3, rfl, hi3, hs3, hg3⟩
  have HI3 := Lib.hid hi3
  have HB3 := Lib.hid (HB2.out.grown hg3 HB2.out.size (fun q e => by cases e; exact HBb.out))
  have HG := Lib.hid (done_good (fun a ha => (HK.out a ha).1))
  have HLn : Hid ((doneS ac).length ≤ 40) := by have h := doneS_len ac; have h2 := HN.out; have h3 := HL.out; rw [h2] at h; exact Nat.le_trans h h3
  have HX3_0 := Lib.hid (blk_keep HX2_0.out hg3 HNe0.out)
  clear hi3 hs3 hg3 HDn HB2 HB1 HD HK HX1_0 HX2_0
  generalize hlen : (doneS ac).length = L3 at *
  generalize doneS ac = ls at *
  have HM := Lib.hid (And.intro hm0 hml)
  have HAsc := Lib.hid HI3.out.1
  cases ho : atS ls p m with
  | none =>
    have HO := Lib.hid ho
    clear ho
    have HC3 := Lib.hid (at_none HI3.out HO.out)
    obtain ⟨a00, a01, a02⟩ := plc_at HX3_0.out
    go_wp2_with fail
    refine HC3.out.mono ?_
    rintro e w4 ⟨rfl, hb⟩
    have HI4 := Lib.hid (HI3.out.below hb)
    have HB4 := Lib.hid (HB3.out.trans (hb.mono HB3.out.size))
    have HX4_0 := Lib.hid (Blk.below HX3_0.out hb HX3_0.out.lt)
    clear hb HC3 HI3 HB3 a00 a01 a02 HX3_0
    obtain ⟨q, hq⟩ : ∃ q, nextS ls p m = q := ⟨_, rfl⟩
    have hq0 : nextS ls p 0 = q := (spans1 HAsc.out HG.out HO.out HM.out.1).trans hq
    obtain ⟨n2, hn2⟩ : ∃ n2, numS q = n2 := ⟨_, rfl⟩
    obtain ⟨s2, hs2⟩ : ∃ s2, q.isSome = s2 := ⟨_, rfl⟩
    have HQ := Lib.hid (And.intro hq (And.intro hq0 (And.intro hn2 hs2)))
    clear hq hq0 hn2 hs2
    have HC4 := Lib.hid (next_eq HI4.out p m HM.out.1 HM.out.2 HQ.out.1 HQ.out.2.2.1 HQ.out.2.2.2)
    obtain ⟨a00, a01, a02⟩ := plc_at HX4_0.out
    go_wp2_with fail
    refine HC4.out.mono ?_
    rintro e w5 ⟨rfl, hb⟩
    have HI5 := Lib.hid (HI4.out.below hb)
    have HB5 := Lib.hid (HB4.out.trans (hb.mono HB4.out.size))
    have HX5_0 := Lib.hid (Blk.below HX4_0.out hb HX4_0.out.lt)
    clear hb HC4 HI4 HB4 a00 a01 a02 HX4_0
    have HC5 := Lib.hid (next_eq HI5.out p 0 (by decide) (by decide) HQ.out.2.1 HQ.out.2.2.1 HQ.out.2.2.2)
    obtain ⟨a00, a01, a02⟩ := plc_at HX5_0.out
    go_wp2_with fail
    refine HC5.out.mono ?_
    rintro e w6 ⟨rfl, hb⟩
    have HI6 := Lib.hid (HI5.out.below hb)
    have HB6 := Lib.hid (HB5.out.trans (hb.mono HB5.out.size))
    have HX6_0 := Lib.hid (Blk.below HX5_0.out hb HX5_0.out.lt)
    clear hb HC5 HI5 HB5 a00 a01 a02 HX5_0
    have hnn : (n2 == n2) = true := by simp
    have hss : (s2 == s2) = true := by simp
    go_wp2_with fail
    go_ret
    exact ⟨rfl, HB6.out⟩
  | some y =>
    have hy := spans2 HAsc.out HG.out ho
    have hyl := (HG.out y hy.2.2.1).1.2.2.2.2
    have HY := Lib.hid (And.intro hy hyl)
    have HO := Lib.hid ho
    have H4 := Lib.hid (spans4 HAsc.out HG.out ho)
    clear ho hy hyl
    have HC3 := Lib.hid (at_some HI3.out HO.out)
    obtain ⟨a00, a01, a02⟩ := plc_at HX3_0.out
    go_wp2_with fail
    refine HC3.out.mono ?_
    rintro e w4 ⟨rfl, hb⟩
    have HI4 := Lib.hid (HI3.out.below hb)
    have HB4 := Lib.hid (HB3.out.trans (hb.mono HB3.out.size))
    have HX4_0 := Lib.hid (Blk.below HX3_0.out hb HX3_0.out.lt)
    clear hb HC3 HI3 HB3 a00 a01 a02 HX3_0
    obtain ⟨q, hq⟩ : ∃ q, nextS ls p m = q := ⟨_, rfl⟩
    have hq4 : nextS ls p y.num = q := H4.out.2.trans hq
    obtain ⟨n2, hn2⟩ : ∃ n2, numS q = n2 := ⟨_, rfl⟩
    obtain ⟨s2, hs2⟩ : ∃ s2, q.isSome = s2 := ⟨_, rfl⟩
    have hmn : s2 = true → m < n2 := fun h => by
      cases q with
      | none => subst hs2; cases h
      | some z => subst hn2; exact (spans2n HAsc.out HG.out hq).1
    have h3 : ∀ bt, m ≤ bt → (s2 = true → bt < n2) → atS ls p bt = some y := fun bt h1 h2 => spans3 HAsc.out HG.out HO.out h1 (fun z hz => by
      rw [hq] at hz
      subst hz
      have := h2 hs2.symm
      rw [← hn2] at this
      exact this)
    have HQ := Lib.hid (And.intro hq (And.intro hq4 (And.intro hn2 hs2)))
    have HMn := Lib.hid hmn
    have H3 := Lib.hid h3
    clear hq hq4 hn2 hs2 hmn h3
    have HC4 := Lib.hid (next_eq HI4.out p m HM.out.1 HM.out.2 HQ.out.1 HQ.out.2.2.1 HQ.out.2.2.2)
    obtain ⟨a00, a01, a02⟩ := plc_at HX4_0.out
    go_wp2_with fail
    refine HC4.out.mono ?_
    rintro e w5 ⟨rfl, hb⟩
    have HI5 := Lib.hid (HI4.out.below hb)
    have HB5 := Lib.hid (HB4.out.trans (hb.mono HB4.out.size))
    have HX5_0 := Lib.hid (Blk.below HX4_0.out hb HX4_0.out.lt)
    clear hb HC4 HI4 HB4 a00 a01 a02 HX4_0
    have g1 : decide (m < y.num) = false := by have := HY.out.1.1; simp; omega
    have g2 : (y.num == 0) = false := by have := HY.out.1.2.1; rw [beq_eq_false_iff_ne]; omega
    have g3 : (s2 = false ∨ (s2 = true ∧ decide (n2 ≤ m) = false)) := by
      have := HMn.out
      cases s2 with
      | false => exact .inl rfl
      | true => exact .inr ⟨rfl, by have := this rfl; simp; omega⟩
    go_upto_region 12 with fail
    go_cut [86] (fun t X => t = .bool false ∧ X = w5)
    case first =>
      rcases g3 with rfl | ⟨rfl, g3⟩
      all_goals (go_wp2_with fail; go_meet; exact ⟨rfl, rfl⟩)
    obtain ⟨rfl, rfl⟩ := hcut
    clear g1 g2 g3
    go_upto_region 15 with fail
    obtain ⟨bt, hbt⟩ : ∃ bt, IntKind.u64.wrap (m + on) = bt := ⟨_, rfl⟩
    rw [hbt]
    clear hbt
    by_cases hA : m ≤ bt ∧ (s2 = true → bt < n2)
    · have hat := H3.out bt hA.1 hA.2
      have HAt := Lib.hid hat
      have f1 : decide (m ≤ bt) = true := decide_eq_true hA.1
      have HA2 := Lib.hid hA.2
      clear hat hA
      have HC5 := Lib.hid (at_some HI5.out HAt.out)
      obtain ⟨a00, a01, a02⟩ := plc_at HX5_0.out
      go_wp2_with fail
      refine HC5.out.mono ?_
      rintro e w6 ⟨rfl, hb⟩
      have HI6 := Lib.hid (HI5.out.below hb)
      have HB6 := Lib.hid (HB5.out.trans (hb.mono HB5.out.size))
      have HX6_0 := Lib.hid (Blk.below HX5_0.out hb HX5_0.out.lt)
      clear hb HC5 HI5 HB5 a00 a01 a02 HX5_0
      have f3 : (y.num != y.num) = false := by simp
      go_upto_region 16 with fail
      go_cut [118] (fun t X => t = .bool false ∧ X = w6)
      case first =>
        cases s2 with
        | false => go_wp2_with fail; go_meet; exact ⟨rfl, rfl⟩
        | true =>
          have f2 : decide (bt < n2) = true := decide_eq_true (HA2.out rfl)
          go_wp2_with fail
          go_meet
          exact ⟨rfl, rfl⟩
      obtain ⟨rfl, rfl⟩ := hcut
      clear f1 f3
      go_upto_region 18 with fail
      have HC6 := Lib.hid (at_some HI6.out H4.out.1)
      obtain ⟨a00, a01, a02⟩ := plc_at HX6_0.out
      go_wp2_with fail
      refine HC6.out.mono ?_
      rintro e w7 ⟨rfl, hb⟩
      have HI7 := Lib.hid (HI6.out.below hb)
      have HB7 := Lib.hid (HB6.out.trans (hb.mono HB6.out.size))
      have HX7_0 := Lib.hid (Blk.below HX6_0.out hb HX6_0.out.lt)
      clear hb HC6 HI6 HB6 a00 a01 a02 HX6_0
      have HC7 := Lib.hid (next_eq HI7.out p y.num (by have := HY.out.1.2.1; omega) (show y.num ≤ lastN from HY.out.2) HQ.out.2.1 HQ.out.2.2.1 HQ.out.2.2.2)
      obtain ⟨a00, a01, a02⟩ := plc_at HX7_0.out
      go_wp2_with fail
      refine HC7.out.mono ?_
      rintro e w8 ⟨rfl, hb⟩
      have HI8 := Lib.hid (HI7.out.below hb)
      have HB8 := Lib.hid (HB7.out.trans (hb.mono HB7.out.size))
      have HX8_0 := Lib.hid (Blk.below HX7_0.out hb HX7_0.out.lt)
      clear hb HC7 HI7 HB7 a00 a01 a02 HX7_0
      have k1 : (y.num == y.num) = true := by simp
      have k2 : (s2 == s2) = true := by simp
      have k3 : (n2 == n2) = true := by simp
      go_wp2_with fail
      go_ret
      exact ⟨rfl, HB8.out⟩
    · have hB : decide (m ≤ bt) = false ∨ (decide (m ≤ bt) = true ∧ s2 = true ∧ decide (bt < n2) = false) := by
        by_cases h1 : m ≤ bt
        · refine .inr ⟨decide_eq_true h1, ?_⟩
          cases s2 with
          | false => exact absurd ⟨h1, fun h => by cases h⟩ hA
          | true => exact ⟨rfl, decide_eq_false (fun h => hA ⟨h1, fun _ => h⟩)⟩
        · exact .inl (decide_eq_false h1)
      clear hA
      have HC5 := Lib.hid (at_idx HI5.out p bt)
      obtain ⟨a00, a01, a02⟩ := plc_at HX5_0.out
      go_wp2_with fail
      refine HC5.out.mono ?_
      rintro e w6 ⟨rfl, hb⟩
      have HI6 := Lib.hid (HI5.out.below hb)
      have HB6 := Lib.hid (HB5.out.trans (hb.mono HB5.out.size))
      have HX6_0 := Lib.hid (Blk.below HX5_0.out hb HX5_0.out.lt)
      clear hb HC5 HI5 HB5 a00 a01 a02 HX5_0
      generalize numS (atS ls p bt) = n3 at *
      generalize (atS ls p bt).isSome = s3 at *
      go_upto_region 16 with fail
      go_cut [118] (fun t X => t = .bool false ∧ X = w6)
      case first =>
        rcases hB with f1 | ⟨f1, rfl, f2⟩
        all_goals (go_wp2_with fail; go_meet; exact ⟨rfl, rfl⟩)
      obtain ⟨rfl, rfl⟩ := hcut
      clear hB
      go_upto_region 18 with fail
      have HC6 := Lib.hid (at_some HI6.out H4.out.1)
      obtain ⟨a00, a01, a02⟩ := plc_at HX6_0.out
      go_wp2_with fail
      refine HC6.out.mono ?_
      rintro e w7 ⟨rfl, hb⟩
      have HI7 := Lib.hid (HI6.out.below hb)
      have HB7 := Lib.hid (HB6.out.trans (hb.mono HB6.out.size))
      have HX7_0 := Lib.hid (Blk.below HX6_0.out hb HX6_0.out.lt)
      clear hb HC6 HI6 HB6 a00 a01 a02 HX6_0
      have HC7 := Lib.hid (next_eq HI7.out p y.num (by have := HY.out.1.2.1; omega) (show y.num ≤ lastN from HY.out.2) HQ.out.2.1 HQ.out.2.2.1 HQ.out.2.2.2)
      obtain ⟨a00, a01, a02⟩ := plc_at HX7_0.out
      go_wp2_with fail
      refine HC7.out.mono ?_
      rintro e w8 ⟨rfl, hb⟩
      have HI8 := Lib.hid (HI7.out.below hb)
      have HB8 := Lib.hid (HB7.out.trans (hb.mono HB7.out.size))
      have HX8_0 := Lib.hid (Blk.below HX7_0.out hb HX7_0.out.lt)
      clear hb HC7 HI7 HB7 a00 a01 a02 HX7_0
      have k1 : (y.num == y.num) = true := by simp
      have k2 : (s2 == s2) = true := by simp
      have k3 : (n2 == n2) = true := by simp
      go_wp2_with fail
      go_ret
      exact ⟨rfl, HB8.out⟩
end Go.Proofs.Ytlackkhkaceblaa.N
