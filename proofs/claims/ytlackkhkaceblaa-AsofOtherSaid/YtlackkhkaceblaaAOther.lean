/- AOther: joined by merge.py. -/
import Derived.Test.YtlackkhkaceblaaAM
/- The law AsofOther. -/
namespace Go.Proofs.Ytlackkhkaceblaa.N
open Go.BigFrame Go.RowKit Go.Shelf Go.Proofs.YtlackkhkaceblaaW.PrintMore Go.Proofs.YtlackkhkaceblaaW.PrintWords
set_option linter.unusedVariables false
set_option linter.unusedSimpArgs false
set_option maxHeartbeats 6400000 in
set_option maxRecDepth 100000 in
theorem other_ok {w : World} {A : Option Addr} {c : Nat} {ac : List Ac} (hd : ActsAt w A ac) (hk : ∀ a ∈ ac, AcOk a) (p q : Sp) {nm m : Int} (hk0 : (p.at nm).ok) (hm0 : 0 ≤ m) (hml : m ≤ lastN) :
    Calls Try.prog 4 #[.slice A ac.length c, .agg #[.int .i64 p.br, .int .i64 p.vol, .int .i64 p.blk], .int .u64 nm, .agg #[.int .i64 q.br, .int .i64 q.vol, .int .i64 q.blk], .int .u64 m] w fun e w' => e = .returned (.bool true) ∧ Below w.heap.size w w' := by
  have HD := Lib.hid hd
  have HK := Lib.hid hk
  obtain ⟨N, hN⟩ : ∃ N, ac.length = N := ⟨_, rfl⟩
  have HN := Lib.hid hN
  rw [hN]
  clear hd hk hN
  go_enter Try.func4, Try.ntmps4
  go_upto_region 1 with fail
  obtain ⟨W, hW⟩ : ∃ X, ((w.alloc (.cells #[.int .i64 p.br, .int .i64 p.vol, .int .i64 p.blk] 24)).alloc (.cells #[.int .i64 q.br, .int .i64 q.vol, .int .i64 q.blk] 24)) = X := ⟨_, rfl⟩
  have hbw : Below w.heap.size w W := by rw [← hW]; exact ((Below.refl _ _).alloc (Nat.le_refl _) _).alloc (by simp) _
  have hbox0 : Blk W w.heap.size #[.int .i64 p.br, .int .i64 p.vol, .int .i64 p.blk] 24 := by rw [← hW]; exact (Blk.new w _ _).alloc _
  have hbox1 : Blk W (w.heap.size + 1) #[.int .i64 q.br, .int .i64 q.vol, .int .i64 q.blk] 24 := by rw [← hW]; have := Blk.new (w.alloc (.cells #[.int .i64 p.br, .int .i64 p.vol, .int .i64 p.blk] 24)) #[.int .i64 q.br, .int .i64 q.vol, .int .i64 q.blk] 24; rwa [World.size_alloc] at this
  rw [hW]
  clear hW
  go_wp2_with fail
  refine (awake26 _).mono ?_
  rintro e w1 ⟨rfl, hb1⟩
  have HB1 := Lib.hid (hbw.trans (hb1.mono hbw.size))
  have HX1_0 := Lib.hid (Blk.below hbox0 hb1 hbox0.lt)
  have HX1_1 := Lib.hid (Blk.below hbox1 hb1 hbox1.lt)
  clear hb1 hbw hbox0 hbox1
  by_cases hn : N ≤ 40
  case neg =>
    have hg : decide ((40 : Int) < (N : Int)) = true := by simp; omega
    go_wp2_with fail
    refine (awake26 _).mono ?_
    rintro e w2 ⟨rfl, hb2⟩
    have HBz := Lib.hid (HB1.out.trans (hb2.mono HB1.out.size))
    clear hb2
    go_wp2_with fail
    go_ret
    exact ⟨rfl, HBz.out⟩
  have hg : decide ((40 : Int) < (N : Int)) = false := by simp; omega
  have HE : ∀ W, _ := fun W => plc_eq p q W
  obtain ⟨a00, a01, a02⟩ := plc_at HX1_0.out
  obtain ⟨a10, a11, a12⟩ := plc_at HX1_1.out
  by_cases hpq : plEq p q
  · have hd : decide (plEq p q) = true := decide_eq_true hpq
    simp only [hd] at HE
    go_wp2_with fail
    refine (awake26 _).mono ?_
    rintro e w2 ⟨rfl, hb2⟩
    have HBz := Lib.hid (HB1.out.trans (hb2.mono HB1.out.size))
    clear hb2
    go_wp2_with fail
    go_ret
    exact ⟨rfl, HBz.out⟩
  have hd : decide (plEq p q) = false := decide_eq_false hpq
  simp only [hd] at HE
  have HPq := Lib.hid hpq
  clear hpq hd
  have HL := Lib.hid hn
  go_wp2_with fail
  refine (new_idx w1).mono ?_
  rintro e w2 ⟨b, rfl, hi, hbb, hb2⟩
  have HD2 := Lib.hid ((HD.out.below HB1.out).below hb2)
  have HLt := Lib.hid ((HD.out.below HB1.out).lies HN.out hbb)
  have HB2 := Lib.hid (HB1.out.trans (hb2.mono HB1.out.size))
  have HDn := Lib.hid (done26 (c := c) hi HD2.out HLt.out HN.out (by omega) HK.out)
  have hsz1 := HB1.out.size
  have HBb : Hid (w.heap.size ≤ b) := Nat.le_trans hsz1 hbb
  have HNe0 : Hid (w.heap.size ≠ b) := Nat.ne_of_lt (Nat.lt_of_lt_of_le HX1_0.out.lt hbb)
  have HX2_0 := Lib.hid (Blk.below HX1_0.out hb2 HX1_0.out.lt)
  have HNe1 : Hid (w.heap.size + 1 ≠ b) := Nat.ne_of_lt (Nat.lt_of_lt_of_le HX1_1.out.lt hbb)
  have HX2_1 := Lib.hid (Blk.below HX1_1.out hb2 HX1_1.out.lt)
  clear hi hbb hb2 HD2 HLt hsz1
  go_wp2_with fail
  refine HDn.out.mono ?_
  rintro e w3 ⟨A3, c3, rfl, hi3, hs3, hg3⟩
  have HI3 := Lib.hid hi3
  have HB3 := Lib.hid (HB2.out.grown hg3 HB2.out.size (fun q e => by cases e; exact HBb.out))
  have HG := Lib.hid (done_good (fun a ha => (HK.out a ha).1))
  have HLn : Hid ((doneS ac).length ≤ 40) := by have h := doneS_len ac; have h2 := HN.out; have h3 := HL.out; rw [h2] at h; exact Nat.le_trans h h3
  have HX3_0 := Lib.hid (blk_keep HX2_0.out hg3 HNe0.out)
  have HX3_1 := Lib.hid (blk_keep HX2_1.out hg3 HNe1.out)
  clear hi3 hs3 hg3 HDn HB2 HB1 HD HK HX1_0 HX2_0 HX1_1 HX2_1
  generalize hlen : (doneS ac).length = L3 at *
  generalize doneS ac = ls at *
  clear HE a00 a01 a02 a10 a11 a12
  have HAsc := Lib.hid HI3.out.1
  have HC3 := Lib.hid (at_idx HI3.out q m)
  obtain ⟨a00, a01, a02⟩ := plc_at HX3_0.out
  obtain ⟨a10, a11, a12⟩ := plc_at HX3_1.out
  go_wp2_with fail
  refine HC3.out.mono ?_
  rintro e w4 ⟨rfl, hb⟩
  have HI4 := Lib.hid (HI3.out.below hb)
  have HB4 := Lib.hid (HB3.out.trans (hb.mono HB3.out.size))
  have HX4_0 := Lib.hid (Blk.below HX3_0.out hb HX3_0.out.lt)
  have HX4_1 := Lib.hid (Blk.below HX3_1.out hb HX3_1.out.lt)
  clear hb HC3 HI3 HB3 a00 a01 a02 a10 a11 a12 HX3_0 HX3_1
  generalize hno : numS (atS ls q m) = n2 at *
  generalize hso : (atS ls q m).isSome = s2 at *
  have HNs := Lib.hid (And.intro hno hso)
  clear hno hso
  have HC4 := Lib.hid (len_at hlen HI4.out)
  obtain ⟨a00, a01, a02⟩ := plc_at HX4_0.out
  obtain ⟨a10, a11, a12⟩ := plc_at HX4_1.out
  go_wp2_with fail
  refine HC4.out.mono ?_
  rintro e w5 ⟨rfl, hb⟩
  have HI5 := Lib.hid (HI4.out.below hb)
  have HB5 := Lib.hid (HB4.out.trans (hb.mono HB4.out.size))
  have HX5_0 := Lib.hid (Blk.below HX4_0.out hb HX4_0.out.lt)
  have HX5_1 := Lib.hid (Blk.below HX4_1.out hb HX4_1.out.lt)
  clear hb HC4 HI4 HB4 a00 a01 a02 a10 a11 a12 HX4_0 HX4_1
  have HC5 := Lib.hid (put_idx HI5.out HG.out (by rw [hlen]; have := HLn.out; omega) (p.at nm))
  obtain ⟨a00, a01, a02⟩ := plc_at HX5_0.out
  obtain ⟨a10, a11, a12⟩ := plc_at HX5_1.out
  go_wp2_with fail
  refine HC5.out.mono ?_
  rintro e w6 ⟨rfl, hi, hg⟩
  have HI6 := Lib.hid hi
  have HB6 := Lib.hid (HB5.out.grown hg HB5.out.size (fun q e => by cases e; exact HBb.out))
  have HX6_0 := Lib.hid (blk_keep HX5_0.out hg HNe0.out)
  have HX6_1 := Lib.hid (blk_keep HX5_1.out hg HNe1.out)
  clear hi hg HC5 HI5 HB5 a00 a01 a02 a10 a11 a12 HX5_0 HX5_1
  have HAs := Lib.hid (putS_asc (k := p.at nm) HAsc.out)
  have HC6 := Lib.hid (at_eq HI6.out q m (other1 (k := p.at nm) HAsc.out HPq.out) HNs.out.1 HNs.out.2)
  obtain ⟨a00, a01, a02⟩ := plc_at HX6_0.out
  obtain ⟨a10, a11, a12⟩ := plc_at HX6_1.out
  go_wp2_with fail
  refine HC6.out.mono ?_
  rintro e w7 ⟨rfl, hb⟩
  have HI7 := Lib.hid (HI6.out.below hb)
  have HB7 := Lib.hid (HB6.out.trans (hb.mono HB6.out.size))
  have HX7_0 := Lib.hid (Blk.below HX6_0.out hb HX6_0.out.lt)
  have HX7_1 := Lib.hid (Blk.below HX6_1.out hb HX6_1.out.lt)
  clear hb HC6 HI6 HB6 a00 a01 a02 a10 a11 a12 HX6_0 HX6_1
  have HC7 := Lib.hid (drop_idx HI7.out (by have h := putS_len (p.at nm) HAsc.out; rw [hlen] at h; have := HLn.out; omega) (p.at nm))
  obtain ⟨a00, a01, a02⟩ := plc_at HX7_0.out
  obtain ⟨a10, a11, a12⟩ := plc_at HX7_1.out
  go_wp2_with fail
  refine HC7.out.mono ?_
  rintro e w8 ⟨rfl, hi, hg⟩
  have HI8 := Lib.hid hi
  have HB8 := Lib.hid (HB7.out.grown hg HB7.out.size (fun q e => by cases e; exact HBb.out))
  have HX8_0 := Lib.hid (blk_keep HX7_0.out hg HNe0.out)
  have HX8_1 := Lib.hid (blk_keep HX7_1.out hg HNe1.out)
  clear hi hg HC7 HI7 HB7 a00 a01 a02 a10 a11 a12 HX7_0 HX7_1
  have HC8 := Lib.hid (at_eq HI8.out q m ((other1d (k := p.at nm) HAs.out HPq.out).trans (other1 (k := p.at nm) HAsc.out HPq.out)) HNs.out.1 HNs.out.2)
  obtain ⟨a00, a01, a02⟩ := plc_at HX8_0.out
  obtain ⟨a10, a11, a12⟩ := plc_at HX8_1.out
  go_wp2_with fail
  refine HC8.out.mono ?_
  rintro e w9 ⟨rfl, hb⟩
  have HI9 := Lib.hid (HI8.out.below hb)
  have HB9 := Lib.hid (HB8.out.trans (hb.mono HB8.out.size))
  have HX9_0 := Lib.hid (Blk.below HX8_0.out hb HX8_0.out.lt)
  have HX9_1 := Lib.hid (Blk.below HX8_1.out hb HX8_1.out.lt)
  clear hb HC8 HI8 HB8 a00 a01 a02 a10 a11 a12 HX8_0 HX8_1
  have hnn : (n2 != n2) = false := by simp
  have hss : (s2 != s2) = false := by simp
  have hnn2 : (n2 == n2) = true := by simp
  have hss2 : (s2 == s2) = true := by simp
  by_cases hc : putC (p.at nm) ls = 0
  · obtain ⟨hdc, hdl⟩ := other2 HAsc.out hc
    have HLx := Lib.hid (len_at (show (delS (p.at nm) (putS (p.at nm) ls)).length = L3 by rw [hdl]; exact hlen) HI9.out)
    rw [hc, hdc]
    have hll : ((L3 : Int) != (L3 : Int)) = false := by simp
    clear hc hdc hdl
    go_wp2_with fail
    refine HLx.out.mono ?_
    rintro e w10 ⟨rfl, hb⟩
    have HBz := Lib.hid (HB9.out.trans (hb.mono HB9.out.size))
    clear hb
    go_wp2_with fail
    go_ret
    exact ⟨rfl, HBz.out⟩
  · have hcc : (putC (p.at nm) ls == 0) = false := by simp [hc]
    generalize putC (p.at nm) ls = cc at *
    generalize dropC (p.at nm) (putS (p.at nm) ls) = cd at *
    clear hc
    go_wp2_with fail
    go_ret
    exact ⟨rfl, HB9.out⟩
end Go.Proofs.Ytlackkhkaceblaa.N
