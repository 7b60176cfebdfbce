/- The law NodeFinds. -/
import Derived.Test.YtjeebbolnanmkaaNFindU
namespace Go.Proofs.Ytjeebbolnanmkaa.N
open Go.BigFrame Go.RowKit Go.Proofs.YtjeebbolnanmkaaW.PrintMore Go.Proofs.YtjeebbolnanmkaaW.PrintWords
set_option linter.unusedVariables false
set_option linter.unusedSimpArgs false
/-- A node on the way down, and what it has of the spot. -/
def DownRel (w : World) (k : Sp) (l : List Ent) (p d : Value) (wr : World) : Prop := ∃ (h q n dn : Nat) (m : List Ent), p = .pointer (some ⟨q, 0, none⟩) ∧ d = .int .i64 dn ∧ Nd wr h q m n ∧ 0 < n ∧ (0 < h → 2 ≤ n) ∧ n ≤ 4 ∧ dn + h ≤ 11 ∧ Asc m ∧ m.length ≤ 40 ∧ (∀ x ∈ m, x ∈ l) ∧ hasE k m = hasE k l ∧ Below w.heap.size w wr
set_option maxHeartbeats 12800000 in
set_option maxRecDepth 100000 in
theorem finds_ok {w : World} {A : Option Addr} {c : Nat} {ds : List Dd} (hd : DeedsAt w A ds) (k : Sp) :
    Calls Try.prog 7 #[.slice A ds.length c, k.v] w fun e w' => e = .returned (.bool true) ∧ Below w.heap.size w w' := by
  unfold Sp.v
  have HD := Lib.hid hd
  obtain ⟨N, hN⟩ : ∃ N, ds.length = N := ⟨_, rfl⟩
  have HN := Lib.hid hN
  rw [hN]
  clear hd hN
  go_enter Try.func7, Try.ntmps7
  go_wp2_with fail
  have hbw : Below w.heap.size w (w.alloc (.cells #[.int .i64 k.br, .int .i64 k.vol, .int .i64 k.blk, .int .u64 k.num] 26)) := (Below.refl _ _).alloc (Nat.le_refl _) _
  have hbox := heap_alloc_new w (.cells #[.int .i64 k.br, .int .i64 k.vol, .int .i64 k.blk, .int .u64 k.num] 26)
  refine (awake_ok _).mono ?_
  rintro e w1 ⟨rfl, hb1⟩
  generalize w.alloc (.cells #[.int .i64 k.br, .int .i64 k.vol, .int .i64 k.blk, .int .u64 k.num] 26) = W at *
  have zbox := (Array.getElem?_eq_some_iff.1 hbox).1
  have hbox1 := (hb1.block _ zbox).trans hbox
  have HB1 : Hid (Below w.heap.size w w1) := hbw.trans (hb1.mono hbw.size)
  clear hbox hbw hb1 zbox
  by_cases hn : N ≤ 40
  · have hg : decide ((40 : Int) < (N : Int)) = false := by simp; omega
    have HP : Hid (Calls Try.prog 21 #[.slice A N c] w1 (PlayPost w1 (playE ds))) := by
      have := play_at (c := c) (HD.out.below HB1.out) (by rw [HN.out]; omega)
      rw [HN.out] at this
      exact this
    go_wp2_with fail
    refine HP.out.mono ?_
    rintro e w2 ⟨r, L, rfl, hr, hl, hb2, _⟩
    have HB2 := Lib.hid (HB1.out.trans (hb2.mono HB1.out.size))
    have zbox := (Array.getElem?_eq_some_iff.1 hbox1).1
    have hbox2 := (hb2.block _ zbox).trans hbox1
    have HA := Lib.hid (playE_asc ds)
    have hlen : (playE ds).length ≤ 40 := by have := playE_len ds; have := HN.out; omega
    clear zbox hbox1 hb2
    generalize playE ds = l at *
    have k0 : w2.cell? ⟨w.heap.size, 0, none⟩ = some (.int .i64 k.br) := by simp only [World.cell?, hbox2]; rfl
    have k1 : w2.cell? ⟨w.heap.size, 1, none⟩ = some (.int .i64 k.vol) := by simp only [World.cell?, hbox2]; rfl
    have k2 : w2.cell? ⟨w.heap.size, 2, none⟩ = some (.int .i64 k.blk) := by simp only [World.cell?, hbox2]; rfl
    have k3 : w2.cell? ⟨w.heap.size, 3, none⟩ = some (.int .u64 k.num) := by simp only [World.cell?, hbox2]; rfl
    have zk := (Array.getElem?_eq_some_iff.1 hbox2).1
    have HK : Hid (∀ X, Below w2.heap.size w2 X → w.heap.size < X.heap.size ∧ X.cell? ⟨w.heap.size, 0, none⟩ = some (.int .i64 k.br) ∧ X.cell? ⟨w.heap.size, 1, none⟩ = some (.int .i64 k.vol) ∧ X.cell? ⟨w.heap.size, 2, none⟩ = some (.int .i64 k.blk) ∧ X.cell? ⟨w.heap.size, 3, none⟩ = some (.int .u64 k.num)) := fun X hX => ⟨Nat.lt_of_lt_of_le zk hX.size, bel_cell hX zk k0, bel_cell hX zk k1, bel_cell hX zk k2, bel_cell hX zk k3⟩
    have HFi := Lib.hid (rfind_l hl k (by omega))
    have HL2 := Lib.hid hl
    have HR2 := Lib.hid hr
    clear hl hr hbox2
    go_wp2_with fail
    refine HFi.out.mono ?_
    rintro e w3 ⟨rfl, hb3⟩
    have HL3 := Lib.hid (HL2.out.below hb3)
    have hr3 := HR2.out.below hb3
    have HB3 := Lib.hid (HB2.out.trans (hb3.mono HB2.out.size))
    have HB23 := Lib.hid hb3
    obtain ⟨zk3, y0, y1, y2, y3⟩ := HK.out w3 hb3
    clear hb3 HFi k0 k1 k2 k3 zk HL2 HR2
    obtain ⟨fi, hfi⟩ : ∃ fi, (findL k (l.map (·.1))).1 = fi := ⟨_, rfl⟩
    have HFI := Lib.hid hfi
    rw [hfi]
    clear hfi
    rcases hr3 with ⟨rfl, rfl⟩ | ⟨q, h, n, rfl, hnd, h0, h2, h4⟩
    · have HF := Lib.hid (find_nil w3 k)
      have HE : ∀ W, _ := fun W => by have := sp_eq sp0 sp0 W; rw [show (decide (sp0 = sp0)) = true by simp] at this; exact this
      unfold sp0 at HE
      go_wp2_with fail
      refine HF.out.mono ?_
      rintro e w4 ⟨rfl, hb4⟩
      have HB4 := Lib.hid (HB3.out.trans (hb4.mono HB3.out.size))
      have HLe := Lib.hid (least_nil w4)
      clear hb4 y0 y1 y2 y3
      go_wp2_with fail
      refine HLe.out.mono ?_
      rintro e w5 ⟨rfl, hb5⟩
      have hbx : Below w5.heap.size w5 (w5.alloc (.cells #[.int .i64 0, .int .i64 0, .int .i64 0, .int .u64 0] 26)) := (Below.refl _ _).alloc (Nat.le_refl _) _
      have hbo := heap_alloc_new w5 (.cells #[.int .i64 0, .int .i64 0, .int .i64 0, .int .u64 0] 26)
      have HB6 := Lib.hid (HB4.out.trans ((hb5.trans (hbx.mono hb5.size)).mono HB4.out.size))
      clear hbx hb5
      go_wp2_with fail
      refine (leaf_nil _).mono ?_
      rintro e w6 ⟨rfl, rfl⟩
      go_wp2_with fail
      go_ret
      exact ⟨rfl, HB6.out⟩
    · obtain ⟨ks, hks, hkl, hk0⟩ := hnd.keys
      have hkp : 0 < ks.length := by omega
      have HLe := Lib.hid (least_at hks hkp (by omega))
      rw [hk0 hkp] at HLe
      have hlp : 0 < l.length := by
        have := hnd.ne h0
        cases l with
        | nil => exact absurd rfl this
        | cons x t => simp
      have hhd : (l[0]'hlp).1 = hd l := by
        cases l with
        | nil => simp at hlp
        | cons x t => rfl
      have hh5 : h ≤ 5 := by
        have hp := hnd.high h0 h2
        refine Nat.le_of_not_lt fun hc => ?_
        have : 2 ^ 6 ≤ 2 ^ h := Nat.pow_le_pow_right (by decide) (by omega)
        omega
      have HNd := Lib.hid hnd
      clear hks hkl hk0 hkp hnd ks
      go_wp2_with fail
      refine HLe.out.mono ?_
      rintro e w4 ⟨rfl, hb4⟩
      obtain ⟨M, hM⟩ : ∃ M, l.length = M := ⟨_, rfl⟩
      have HM := Lib.hid hM
      obtain ⟨bL, oL, cL, bV, oV, cV, q0, q0', ⟨q1, q2, q3, q4⟩, q5⟩ := list_get (HL3.out.below hb4) hM (show 0 < M by omega)
      rw [hhd] at q1 q2 q3 q4
      have hM0 : 0 < M := by omega
      have hM1 : (0 : Int) < (M : Int) := by omega
      clear q0' q5 hhd hM hlp
      simp only [Nat.zero_mul, Nat.add_zero] at q1 q2 q3 q4
      generalize hd l = y at *
      have HE : ∀ W, _ := fun W => by have := sp_ne y y W; rw [show (!decide (y = y)) = false by simp] at this; exact this
      have HC4 := Lib.hid hb4
      clear hb4 HLe y0 y1 y2 y3
      go_wp2_with fail
      have hbx : Below w4.heap.size w4 (w4.alloc (.cells #[.int .i64 y.br, .int .i64 y.vol, .int .i64 y.blk, .int .u64 y.num] 26)) := (Below.refl _ _).alloc (Nat.le_refl _) _
      have hbo := heap_alloc_new w4 (.cells #[.int .i64 y.br, .int .i64 y.vol, .int .i64 y.blk, .int .u64 y.num] 26)
      have l0 := bel_cell hbx (World.block_lt_of_cell? _ _ q0) q0
      have l1 := bel_cell hbx (World.block_lt_of_cell? _ _ q1) q1
      have l2 := bel_cell hbx (World.block_lt_of_cell? _ _ q2) q2
      have l3 := bel_cell hbx (World.block_lt_of_cell? _ _ q3) q3
      have l4 := bel_cell hbx (World.block_lt_of_cell? _ _ q4) q4
      have HC5 := Lib.hid (HC4.out.trans (hbx.mono HC4.out.size))
      clear q0 q1 q2 q3 q4 hbx
      generalize hB8 : w4.heap.size = B8 at *
      generalize w4.alloc (.cells #[.int .i64 y.br, .int .i64 y.vol, .int .i64 y.blk, .int .u64 y.num] 26) = W8 at *
      have o0 : W8.cell? ⟨B8, 0, none⟩ = some (.int .i64 y.br) := by simp only [World.cell?, hbo]; rfl
      have o1 : W8.cell? ⟨B8, 1, none⟩ = some (.int .i64 y.vol) := by simp only [World.cell?, hbo]; rfl
      have o2 : W8.cell? ⟨B8, 2, none⟩ = some (.int .i64 y.blk) := by simp only [World.cell?, hbo]; rfl
      have o3 : W8.cell? ⟨B8, 3, none⟩ = some (.int .u64 y.num) := by simp only [World.cell?, hbo]; rfl
      clear hbo hB8
      have x0 := cls_cell l0
      have x1 := cls_cell l1
      have x2 := cls_cell l2
      have x3 := cls_cell l3
      have x4 := cls_cell l4
      have x5 := cls_cell o0
      have x6 := cls_cell o1
      have x7 := cls_cell o2
      have x8 := cls_cell o3
      clear l0 l1 l2 l3 l4 o0 o1 o2 o3
      have := cls_ne W8
      refine wp_region_cls (S := Below W8.heap.size W8) (by kernel_rfl) (by kernel_rfl) (bel_drewN _ _ (n := 1)) ?_
      repeat (go_big_quiet_step (fail))
      refine wpQuiet_nil ?_
      rintro w5 ⟨⟨_, hx5⟩, rfl⟩
      try dsimp only
      have HC9 := Lib.hid (HC5.out.trans (hx5.mono HC5.out.size))
      clear x0 x1 x2 x3 x4 x5 x6 x7 x8 HE this hx5
      have HNd5 := Lib.hid (HNd.out.below HC9.out)
      have HL5 := Lib.hid (HL3.out.below HC9.out)
      have HB25 := Lib.hid (HB23.out.trans (HC9.out.mono HB23.out.size))
      have HB5 := Lib.hid (HB3.out.trans (HC9.out.mono HB3.out.size))
      clear HNd HL3 HC4 HC5 HC9
      go_wp2_with fail
      go_loopw [5, 16] (fun p d wr => DownRel w5 k l p d wr) (fun _ d _ => (12 - intOf d).toNat)
      case atStart => exact ⟨h, q, n, 0, l, rfl, rfl, HNd5.out, h0, h2, h4, by omega, HA.out, hlen, fun x hx => hx, rfl, Below.refl _ _⟩
      case round =>
        clear h0 h2 h4 hh5
        obtain ⟨h, q, n, dn, m, rfl, rfl, hnd, h0, h2, h4, hdn, ha, hml, hsub, hhas, hbr⟩ := hrel
        have HB := Lib.hid hbr
        have HAm := Lib.hid ha
        have HSub := Lib.hid hsub
        have HHas := Lib.hid hhas
        obtain ⟨zk, y0, y1, y2, y3⟩ := HK.out wr (HB25.out.trans (hbr.mono HB25.out.size))
        clear hbr ha hsub hhas
        cases h with
        | zero =>
          obtain ⟨hnl, hLf⟩ := hnd
          have HLf := Lib.hid hLf
          clear hLf
          go_wp2_with fail
          refine (leaf_yes HLf.out).mono ?_
          rintro e w6 ⟨rfl, rfl⟩
          go_wp2_with fail
          refine (find_leaf' HLf.out k (by rw [List.length_map]; omega)).mono ?_
          rintro e w7 ⟨rfl, hb7⟩
          rw [findL_has, HHas.out]
          have HB7 := Lib.hid (HB5.out.trans ((HB.out.trans (hb7.mono HB.out.size)).mono HB5.out.size))
          have HLf7 := Lib.hid (HLf.out.below hb7)
          have HL7 := Lib.hid (HL5.out.below (HB.out.trans (hb7.mono HB.out.size)))
          clear hb7 y0 y1 y2 y3 hnl
          cases hfb : hasE k l with
          | false =>
            generalize (findL k (m.map (·.1))).1 = fa at *
            go_wp2_with fail
            have := cls_ne w7
            try simp only [List.append_eq, List.cons_append, List.nil_append]
            refine wp_region_cls (S := Below w7.heap.size w7) (by kernel_rfl) (by kernel_rfl) (bel_drewN _ _ (n := 1)) ?_
            repeat (go_big_quiet_step (fail))
            refine wpQuiet_nil ?_
            rintro _ ⟨x, rfl⟩
            go_wp2_with fail
            go_ret
            exact ⟨rfl, HB7.out.trans (x.h.mono HB7.out.size)⟩
          | true =>
            obtain ⟨i1, e1⟩ := findL_key k (m.map (·.1)) (by rw [findL_has, HHas.out, hfb])
            obtain ⟨i2, e2⟩ := findL_key k (l.map (·.1)) (by rw [findL_has, hfb])
            rw [List.getElem_map] at e1 e2
            rw [List.length_map] at i1 i2
            have huq : m[(findL k (m.map (·.1))).1] = l[(findL k (l.map (·.1))).1] := asc_uniq HA.out (HSub.out _ (List.getElem_mem _)) (List.getElem_mem _) (e1.trans e2.symm)
            obtain ⟨Al, cal, Bl, cbl, hlf⟩ := HLf7.out
            have r1 := hlf.c1
            obtain ⟨bv, ov, rfl, hbv, hvs⟩ := hlf.vals (by rw [List.length_map]; omega)
            have r2 := hvs _ (by rw [List.length_map]; exact i1)
            obtain ⟨bL, oL, cL, bV, oV, cV, p0, p1, p2, p3⟩ := list_get HL7.out HM.out (by rw [← HM.out]; exact i2)
            rw [List.getElem_map, huq] at r2
            rw [List.length_map] at r1
            generalize (l[(findL k (l.map (·.1))).1]'(_)).2 = z at *
            rw [HFI.out] at p3 i2
            rw [HM.out] at i2
            clear e1 e2 huq hvs hlf p0 p2
            generalize (findL k (m.map (·.1))).1 = fa at *
            obtain ⟨M2, hM2⟩ : ∃ M2, m.length = M2 := ⟨_, rfl⟩
            rw [hM2] at r1 i1
            clear hM2
            have x1 := cls_cell r1
            have x2 := cls_cell r2
            have x3 := cls_cell p1
            have x4 := cls_cell p3
            clear r1 r2 p1 p3
            have f1 : decide ((fa : Int) < (M2 : Int)) = true := by simp <;> omega
            have f2 : (fa : Int) < (M2 : Int) := by omega
            have f3 : (0 : Int) ≤ (fa : Int) := by omega
            have f4 : (fi : Int) < (M : Int) := by omega
            have f5 : (0 : Int) ≤ (fi : Int) := by omega
            have f6 : (z == z) = true := by simp
            have := cls_ne w7
            go_wp2_with fail
            try simp only [List.append_eq, List.cons_append, List.nil_append]
            refine wp_region_cls (S := Below w7.heap.size w7) (by kernel_rfl) (by kernel_rfl) (bel_drewN _ _ (n := 1)) ?_
            repeat (go_big_quiet_step (fail))
            refine wpQuiet_nil ?_
            rintro _ ⟨x, rfl⟩
            go_wp2_with fail
            go_ret
            exact ⟨rfl, HB7.out.trans (x.h.mono HB7.out.size)⟩
        | succ h =>
          obtain ⟨qs, ls, hq, hm, hI, hkids⟩ := nd_succ.1 hnd
          have hql := hkids.length
          have HI := Lib.hid hI
          have HKids := Lib.hid hkids
          have HNe := Lib.hid (kids_ne (by omega) hkids)
          have h2n := h2 (by omega)
          subst hm
          clear hnd hI hkids h2
          go_wp2_with fail
          refine (leaf_no HI.out).mono ?_
          rintro e w6 ⟨rfl, rfl⟩
          go_wp2_with fail
          refine (find_inner HI.out k (by rw [List.length_map]; omega)).mono ?_
          rintro e w7 ⟨i, b, rfl, hF, hb7⟩
          obtain ⟨hi, rfl, hc1, hc2⟩ := way_facts hF (by rw [List.length_map]; omega)
          have hi1 : i < qs.length := by rw [List.length_map] at hi; omega
          have hi2 : i < ls.length := by rw [List.length_map] at hi; exact hi
          obtain ⟨s, s2, s4, hkid⟩ := HKids.out.get i hi1 hi2
          obtain ⟨wk1, wk2, wk3, wk4⟩ := way_kid HAm.out HNe.out hF hi2
          have HKid := Lib.hid (hkid.below hb7)
          have HW1 := Lib.hid (wk1.trans HHas.out)
          have HW2 := Lib.hid wk2
          have HW3 : Hid (∀ x ∈ ls[i], x ∈ l) := fun x hx => HSub.out x (wk3 x hx)
          have hwl : (ls[i]).length ≤ 40 := by omega
          generalize ls[i]'(hi2) = m2 at *
          obtain ⟨Ak, ca, C, cc, hin⟩ := HI.out.below hb7
          have a0 := hin.c0
          have a2 := hin.c2
          rw [List.length_map, ← hql, ← hq] at a0
          rw [← hq] at a2
          obtain ⟨bk, ok, rfl, hbk, hks⟩ := hin.keys (by omega)
          obtain ⟨a3, a4, a5, a6⟩ := hks i hi
          have hkj : ∀ h : i + 1 < n, SpAt w7 bk (ok + (i + 1) * 4) ((ls.map hd)[i + 1]'(by rw [List.length_map]; omega)) := fun h => hks (i + 1) (by rw [List.length_map]; omega)
          obtain ⟨bq, oq, rfl, hbq, hqs⟩ := hin.kids (by omega)
          have a7 := hqs i hi1
          have hc2 : ∀ h : i + 1 < n, lt k ((ls.map hd)[i + 1]'(by rw [List.length_map]; omega)) = true := fun h => hc2 (by rw [List.length_map]; omega)
          have hin_ : i < n := by omega
          clear hks hqs hin hF hkid wk1 wk2 wk3 wk4 hml
          have HB7 := Lib.hid (HB.out.trans (hb7.mono HB.out.size))
          obtain ⟨zk7, v0, v1, v2, v3⟩ := HK.out w7 (HB25.out.trans (HB7.out.mono HB25.out.size))
          clear hb7 y0 y1 y2 y3 HKids HNe HAm HSub HHas
          generalize (ls.map hd)[i]'(hi) = ki at *
          generalize qs[i]'(hi1) = qi at *
          have x0 := cls_cell a0
          have x1 := cls_cell a2
          have x2 := cls_cell a3
          have x3 := cls_cell a4
          have x4 := cls_cell a5
          have x5 := cls_cell a6
          have x6 := cls_cell a7
          have x7 := cls_cell v0
          have x8 := cls_cell v1
          have x9 := cls_cell v2
          have x10 := cls_cell v3
          clear a0 a2 a3 a4 a5 a6 a7 v0 v1 v2 v3
          have HE := sp_eq ki k
          generalize decide (ki = k) = fb at *
          have HNb : ∀ W, (binOp .neq 4 (.bool fb) (.bool fb)).run Try.prog W = .ok (.bool false) W := fun W => by cases fb <;> rfl
          have HBa : Hid (∀ x : Wd (Below w7.heap.size w7), Calls Try.prog 13 #[.agg #[.int .i64 k.br, .int .i64 k.vol, .int .i64 k.blk, .int .u64 k.num], .agg #[.int .i64 ki.br, .int .i64 ki.vol, .int .i64 ki.blk, .int .u64 ki.num]] x.w fun e w'' => e = .returned (.bool (lt k ki)) ∧ ∃ m : Wd (Below w7.heap.size w7), w'' = m.w) := fun x => Calls.clsB (before_at' k ki x.w) (Nat.le_refl _)
          have f1 : decide ((12 : Int) < (dn : Int)) = false := by simp <;> omega
          have f1b : decide (12 < dn) = false := by simp <;> omega
          have f2 : decide ((i : Int) < (0 : Int)) = false := by simp <;> omega
          have f3 : decide ((n : Int) ≤ (i : Int)) = false := by simp <;> omega
          have f3b : decide (n ≤ i) = false := by simp <;> omega
          have f4 : (0 : Int) ≤ (i : Int) := by omega
          have f5 : (i : Int) < (n : Int) := by omega
          have w2' : IntKind.i64.wrap ((dn : Int) + 1) = (dn : Int) + 1 := by rw [IntKind.wrap_i64]; omega
          have w1' : IntKind.i64.wrap ((i : Int) + 1) = (i : Int) + 1 := by rw [IntKind.wrap_i64]; omega
          have := cls_ne w7
          cases hlt : lt k ki with
          | true =>
            obtain rfl := hc1 hlt
            clear f2 f3 f3b f4 f5 w1'
            have f2 : decide (((0 : Nat) : Int) < (0 : Int)) = false := by simp
            have f5 : (0 : Int) < (n : Int) := by omega
            have f3 : decide ((n : Int) ≤ (0 : Int)) = false := by simp <;> omega
            have f3b : decide (n ≤ 0) = false := by simp <;> omega
            have f3c : ¬ n = 0 := by omega
            have w1' : IntKind.i64.wrap ((0 : Int) + 1) = 1 := by decide
            have w1c : IntKind.i64.wrap 1 = 1 := by decide
            simp only [Nat.zero_mul, Nat.add_zero, Nat.zero_add, Nat.one_mul, Int.ofNat_zero] at *
            rw [hlt] at HBa
            clear hlt hc1
            by_cases hmore : 1 < n
            · obtain ⟨p0, p1, p2, p3⟩ := hkj (by omega)
              have hlt2 := hc2 (by omega)
              generalize (List.map hd ls)[1]'(_) = kj at *
              have u0 := cls_cell p0
              have u1 := cls_cell p1
              have u2 := cls_cell p2
              have u3 := cls_cell p3
              clear p0 p1 p2 p3
              have HBb : Hid (∀ x : Wd (Below w7.heap.size w7), Calls Try.prog 13 #[.agg #[.int .i64 k.br, .int .i64 k.vol, .int .i64 k.blk, .int .u64 k.num], .agg #[.int .i64 kj.br, .int .i64 kj.vol, .int .i64 kj.blk, .int .u64 kj.num]] x.w fun e w'' => e = .returned (.bool true) ∧ ∃ m : Wd (Below w7.heap.size w7), w'' = m.w) := fun x => Calls.clsB (by have := before_at' k kj x.w; rw [hlt2] at this; exact this) (Nat.le_refl _)
              have g1 : decide ((1 : Int) < (n : Int)) = true := by simp <;> omega
              have g2 : (1 : Int) < (n : Int) := by omega
              have g2b : 1 < n := by omega
              have g3 : (0 : Int) ≤ (1 : Int) := by omega
              clear hkj hc2 hq hql
              go_wp2_with fail
              try simp only [List.append_eq, List.cons_append, List.nil_append]
              refine wp_region_cls (S := Below w7.heap.size w7) (by kernel_rfl) (by kernel_rfl) (bel_drewN _ _ (n := 1)) ?_
              repeat (go_big_quiet_step (with_reducible (first | exact HBa.out _ | exact HBb.out _)))
              refine wpQuiet_nil ?_
              rintro _ ⟨x, rfl⟩
              go_wp2_with fail
              go_roundw
              case rel => exact ⟨h, qi, s, dn + 1, m2, rfl, by simp, HKid.out.below x.h, by omega, fun _ => by omega, s4, by omega, HW2.out, hwl, HW3.out, HW1.out, HB7.out.trans (x.h.mono HB7.out.size)⟩
              case measure => (simp [intOf] <;> omega)
            · exact absurd (by omega) hmore
          | false =>
            rw [hlt] at HBa
            clear hlt hc1
            by_cases hmore : i + 1 < n
            · obtain ⟨p0, p1, p2, p3⟩ := hkj (by omega)
              have hlt2 := hc2 (by omega)
              generalize (List.map hd ls)[i + 1]'(_) = kj at *
              have u0 := cls_cell p0
              have u1 := cls_cell p1
              have u2 := cls_cell p2
              have u3 := cls_cell p3
              clear p0 p1 p2 p3
              have HBb : Hid (∀ x : Wd (Below w7.heap.size w7), Calls Try.prog 13 #[.agg #[.int .i64 k.br, .int .i64 k.vol, .int .i64 k.blk, .int .u64 k.num], .agg #[.int .i64 kj.br, .int .i64 kj.vol, .int .i64 kj.blk, .int .u64 kj.num]] x.w fun e w'' => e = .returned (.bool true) ∧ ∃ m : Wd (Below w7.heap.size w7), w'' = m.w) := fun x => Calls.clsB (by have := before_at' k kj x.w; rw [hlt2] at this; exact this) (Nat.le_refl _)
              have g1 : decide ((i : Int) + 1 < (n : Int)) = true := by simp <;> omega
              have g2 : (i : Int) + 1 < (n : Int) := by omega
              have g2b : i + 1 < n := by omega
              have g3 : (0 : Int) ≤ (i : Int) + 1 := by omega
              clear hkj hc2 hq hql
              go_wp2_with fail
              try simp only [List.append_eq, List.cons_append, List.nil_append]
              refine wp_region_cls (S := Below w7.heap.size w7) (by kernel_rfl) (by kernel_rfl) (bel_drewN _ _ (n := 1)) ?_
              repeat (go_big_quiet_step (with_reducible (first | exact HBa.out _ | exact HBb.out _)))
              refine wpQuiet_nil ?_
              rintro _ ⟨x, rfl⟩
              go_wp2_with fail
              go_roundw
              case rel => exact ⟨h, qi, s, dn + 1, m2, rfl, by simp, HKid.out.below x.h, by omega, fun _ => by omega, s4, by omega, HW2.out, hwl, HW3.out, HW1.out, HB7.out.trans (x.h.mono HB7.out.size)⟩
              case measure => (simp [intOf] <;> omega)
            · have g1 : decide ((i : Int) + 1 < (n : Int)) = false := by simp <;> omega
              have g2 : ¬ (i : Int) + 1 < (n : Int) := by omega
              have HBb : True := trivial
              clear hkj hc2 hq hql
              go_wp2_with fail
              try simp only [List.append_eq, List.cons_append, List.nil_append]
              refine wp_region_cls (S := Below w7.heap.size w7) (by kernel_rfl) (by kernel_rfl) (bel_drewN _ _ (n := 1)) ?_
              repeat (go_big_quiet_step (with_reducible (first | exact HBa.out _ | exact HBb.out _)))
              refine wpQuiet_nil ?_
              rintro _ ⟨x, rfl⟩
              go_wp2_with fail
              go_roundw
              case rel => exact ⟨h, qi, s, dn + 1, m2, rfl, by simp, HKid.out.below x.h, by omega, fun _ => by omega, s4, by omega, HW2.out, hwl, HW3.out, HW1.out, HB7.out.trans (x.h.mono HB7.out.size)⟩
              case measure => (simp [intOf] <;> omega)
  · have hg : decide ((40 : Int) < (N : Int)) = true := by simp; omega
    go_wp2_with fail
    go_ret
    exact ⟨rfl, HB1.out⟩
end Go.Proofs.Ytjeebbolnanmkaa.N
