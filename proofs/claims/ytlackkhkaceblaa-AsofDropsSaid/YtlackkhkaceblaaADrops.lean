/- ADrops: joined by merge.py. -/
import Derived.Test.YtlackkhkaceblaaAM
/- The law AsofDrops. -/
namespace Go.Proofs.Ytlackkhkaceblaa.N
open Go.BigFrame Go.RowKit Go.Shelf Go.Proofs.YtlackkhkaceblaaW.PrintMore Go.Proofs.YtlackkhkaceblaaW.PrintWords
set_option linter.unusedVariables false
set_option linter.unusedSimpArgs false
set_option maxHeartbeats 6400000 in
set_option maxRecDepth 100000 in
theorem drops_ok {w : World} {A : Option Addr} {c : Nat} {ac : List Ac} (hd : ActsAt w A ac) (hk : ∀ a ∈ ac, AcOk a) (p : Sp) {m : Int} (hm0 : 0 ≤ m) (hml : m ≤ lastN) :
    Calls Try.prog 5 #[.slice A ac.length c, .agg #[.int .i64 p.br, .int .i64 p.vol, .int .i64 p.blk], .int .u64 m] w fun e w' => e = .returned (.bool true) ∧ Below w.heap.size w w' := by
  have HD := Lib.hid hd
  have HK := Lib.hid hk
  obtain ⟨N, hN⟩ : ∃ N, ac.length = N := ⟨_, rfl⟩
  have HN := Lib.hid hN
  rw [hN]
  clear hd hk hN
  go_enter Try.func5, Try.ntmps5
  go_upto_region 1 with fail
  obtain ⟨W, hW⟩ : ∃ X, (w.alloc (.cells #[.int .i64 p.br, .int .i64 p.vol, .int .i64 p.blk] 24)) = X := ⟨_, rfl⟩
  have hbw : Below w.heap.size w W := by rw [← hW]; exact (Below.refl _ _).alloc (Nat.le_refl _) _
  have hbox0 : Blk W w.heap.size #[.int .i64 p.br, .int .i64 p.vol, .int .i64 p.blk] 24 := by rw [← hW]; exact Blk.new w _ _
  rw [hW]
  clear hW
  go_wp2_with fail
  refine (awake26 _).mono ?_
  rintro e w1 ⟨rfl, hb1⟩
  have HB1 := Lib.hid (hbw.trans (hb1.mono hbw.size))
  have HX1_0 := Lib.hid (Blk.below hbox0 hb1 hbox0.lt)
  clear hb1 hbw hbox0
  by_cases hn : N ≤ 40
  case neg =>
    have hg : decide ((40 : Int) < (N : Int)) = true := by simp; omega
    go_wp2_with fail
    refine (awake26 _).mono ?_
    rintro e w2 ⟨rfl, hb2⟩
    have HBz := Lib.hid (HB1.out.trans (hb2.mono HB1.out.size))
    clear hb2
    go_wp2_with fail
    go_ret
    exact ⟨rfl, HBz.out⟩
  have hg : decide ((40 : Int) < (N : Int)) = false := by simp; omega
  have HL := Lib.hid hn
  go_wp2_with fail
  refine (new_idx w1).mono ?_
  rintro e w2 ⟨b, rfl, hi, hbb, hb2⟩
  have HD2 := Lib.hid ((HD.out.below HB1.out).below hb2)
  have HLt := Lib.hid ((HD.out.below HB1.out).lies HN.out hbb)
  have HB2 := Lib.hid (HB1.out.trans (hb2.mono HB1.out.size))
  have HDn := Lib.hid (done26 (c := c) hi HD2.out HLt.out HN.out (by omega) HK.out)
  have hsz1 := HB1.out.size
  have HBb : Hid (w.heap.size ≤ b) := Nat.le_trans hsz1 hbb
  have HNe0 : Hid (w.heap.size ≠ b) := Nat.ne_of_lt (Nat.lt_of_lt_of_le HX1_0.out.lt hbb)
  have HX2_0 := Lib.hid (Blk.below HX1_0.out hb2 HX1_0.out.lt)
  clear hi hbb hb2 HD2 HLt hsz1
  go_wp2_with fail
  refine HDn.out.mono ?_
  rintro e w3 ⟨A3, c3, rfl, hi3, hs3, hg3⟩
  have HI3 := Lib.hid hi3
  have HB3 := Lib.hid (HB2.out.grown hg3 HB2.out.size (fun q e => by cases e; exact HBb.out))
  have HG := Lib.hid (done_good (fun a ha => (HK.out a ha).1))
  have HLn : Hid ((doneS ac).length ≤ 40) := by have h := doneS_len ac; have h2 := HN.out; have h3 := HL.out; rw [h2] at h; exact Nat.le_trans h h3
  have HX3_0 := Lib.hid (blk_keep HX2_0.out hg3 HNe0.out)
  clear hi3 hs3 hg3 HDn HB2 HB1 HD HK HX1_0 HX2_0
  generalize hlen : (doneS ac).length = L3 at *
  generalize doneS ac = ls at *
  cases ho : atS ls p m with
  | none =>
    have HO := Lib.hid ho
    clear ho
    have HC3 := Lib.hid (at_none HI3.out HO.out)
    obtain ⟨a00, a01, a02⟩ := plc_at HX3_0.out
    go_wp2_with fail
    refine HC3.out.mono ?_
    rintro e w4 ⟨rfl, hb⟩
    have HI4 := Lib.hid (HI3.out.below hb)
    have HB4 := Lib.hid (HB3.out.trans (hb.mono HB3.out.size))
    have HX4_0 := Lib.hid (Blk.below HX3_0.out hb HX3_0.out.lt)
    clear hb HC3 HI3 HB3 a00 a01 a02 HX3_0
    have HC4 := Lib.hid (drop_n HI4.out (k := p.at 0) (by rw [hlen]; have := HLn.out; omega) (drops1 (p := p) HG.out))
    obtain ⟨a00, a01, a02⟩ := plc_at HX4_0.out
    go_wp2_with fail
    refine HC4.out.mono ?_
    rintro e w5 ⟨rfl, hi, hg⟩
    have HI5 := Lib.hid hi
    have HB5 := Lib.hid (HB4.out.grown hg HB4.out.size (fun q e => by cases e; exact HBb.out))
    have HX5_0 := Lib.hid (blk_keep HX4_0.out hg HNe0.out)
    clear hi hg HC4 HI4 HB4 a00 a01 a02 HX4_0
    go_wp2_with fail
    go_ret
    exact ⟨rfl, HB5.out⟩
  | some y =>
    have hy := spans2 HI3.out.1 HG.out ho
    have hdr := drops2 HI3.out.1 ho
    have HO := Lib.hid ho
    have HDr := Lib.hid hdr
    have hyl := (HG.out y hy.2.2.1).1.2.2.2.2
    have hw1 : IntKind.u64.wrap (y.num - 1) = y.num - 1 := u64_in (by omega) (by omega)
    have HY := Lib.hid hy
    clear ho hdr hy hyl
    have HC3 := Lib.hid (at_some HI3.out HO.out)
    obtain ⟨a00, a01, a02⟩ := plc_at HX3_0.out
    go_wp2_with fail
    refine HC3.out.mono ?_
    rintro e w4 ⟨rfl, hb⟩
    have HI4 := Lib.hid (HI3.out.below hb)
    have HB4 := Lib.hid (HB3.out.trans (hb.mono HB3.out.size))
    have HX4_0 := Lib.hid (Blk.below HX3_0.out hb HX3_0.out.lt)
    clear hb HC3 HI3 HB3 a00 a01 a02 HX3_0
    have HC4 := Lib.hid (at_idx HI4.out p (y.num - 1))
    obtain ⟨a00, a01, a02⟩ := plc_at HX4_0.out
    go_wp2_with fail
    refine HC4.out.mono ?_
    rintro e w5 ⟨rfl, hb⟩
    have HI5 := Lib.hid (HI4.out.below hb)
    have HB5 := Lib.hid (HB4.out.trans (hb.mono HB4.out.size))
    have HX5_0 := Lib.hid (Blk.below HX4_0.out hb HX4_0.out.lt)
    clear hb HC4 HI4 HB4 a00 a01 a02 HX4_0
    generalize hno : numS (atS ls p (y.num - 1)) = n2 at *
    generalize hso : (atS ls p (y.num - 1)).isSome = s2 at *
    have HNs := Lib.hid (And.intro hno hso)
    clear hno hso hw1
    have HAsc := Lib.hid HI5.out.1
    have HC5 := Lib.hid (drop_n HI5.out (k := p.at y.num) (by rw [hlen]; have := HLn.out; omega) (show dropC (p.at y.num) ls = 0 by rw [HDr.out.1]; exact HDr.out.2.1))
    obtain ⟨a00, a01, a02⟩ := plc_at HX5_0.out
    go_wp2_with fail
    refine HC5.out.mono ?_
    rintro e w6 ⟨rfl, hi, hg⟩
    have HI6 := Lib.hid hi
    have HB6 := Lib.hid (HB5.out.grown hg HB5.out.size (fun q e => by cases e; exact HBb.out))
    have HX6_0 := Lib.hid (blk_keep HX5_0.out hg HNe0.out)
    clear hi hg HC5 HI5 HB5 a00 a01 a02 HX5_0
    have HC6 := Lib.hid (drop_n HI6.out (k := p.at y.num) (by rw [delS_len HAsc.out]; have := HLn.out; split <;> omega) (show dropC (p.at y.num) (delS (p.at y.num) ls) = 4 by rw [HDr.out.1]; exact HDr.out.2.2.1))
    obtain ⟨a00, a01, a02⟩ := plc_at HX6_0.out
    go_wp2_with fail
    refine HC6.out.mono ?_
    rintro e w7 ⟨rfl, hi, hg⟩
    have HI7 := Lib.hid hi
    have HB7 := Lib.hid (HB6.out.grown hg HB6.out.size (fun q e => by cases e; exact HBb.out))
    have HX7_0 := Lib.hid (blk_keep HX6_0.out hg HNe0.out)
    clear hi hg HC6 HI6 HB6 a00 a01 a02 HX6_0
    have hidx : IdxAt w7 b (delS y ls) := by
      have h := HI7.out
      rw [HDr.out.1, delS_absent (delS_asc HAsc.out) (fun h => ((mem_delS HAsc.out y).1 h).2 rfl)] at h
      exact h
    have HId := Lib.hid hidx
    clear hidx
    have hat : atS (delS y ls) p m = atS ls p (y.num - 1) := HDr.out.2.2.2
    have HC7 := Lib.hid (at_eq HId.out p m hat HNs.out.1 HNs.out.2)
    obtain ⟨a00, a01, a02⟩ := plc_at HX7_0.out
    go_wp2_with fail
    refine HC7.out.mono ?_
    rintro e w8 ⟨rfl, hb⟩
    have HI8 := Lib.hid (HI7.out.below hb)
    have HB8 := Lib.hid (HB7.out.trans (hb.mono HB7.out.size))
    have HX8_0 := Lib.hid (Blk.below HX7_0.out hb HX7_0.out.lt)
    clear hb HC7 HI7 HB7 a00 a01 a02 HX7_0
    have hnn : (n2 == n2) = true := by simp
    have hss : (s2 == s2) = true := by simp
    clear hat
    go_wp2_with fail
    go_ret
    exact ⟨rfl, HB8.out⟩
end Go.Proofs.Ytlackkhkaceblaa.N
