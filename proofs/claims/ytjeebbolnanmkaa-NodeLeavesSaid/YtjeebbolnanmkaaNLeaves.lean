/- The law NodeLeaves. -/
import Derived.Test.YtjeebbolnanmkaaNPlay
import Derived.Test.YtjeebbolnanmkaaNAwake
import Derived.Test.YtjeebbolnanmkaaNCls
namespace Go.Proofs.Ytjeebbolnanmkaa.N
open Go.BigFrame Go.RowKit Go.Proofs.YtjeebbolnanmkaaW.PrintMore Go.Proofs.YtjeebbolnanmkaaW.PrintWords
set_option linter.unusedVariables false
set_option linter.unusedSimpArgs false
theorem asc_rising {l : List Ent} (h : Asc l) : Rising (l.map (·.1)) := fun j hj => by
  rw [List.getElem_map, List.getElem_map]
  unfold Asc at h
  exact (List.pairwise_iff_getElem.1 h) j (j + 1) (by rw [List.length_map] at hj; omega) (by simpa using hj) (by omega)
set_option maxHeartbeats 1600000 in
set_option maxRecDepth 100000 in
theorem least_none {w : World} {p c : Nat} {A : Option Addr} (c0 : w.cell? ⟨p, 0, none⟩ = some (.slice A 0 c)) :
    Calls Try.prog 18 #[.pointer (some ⟨p, 0, none⟩)] w fun e w' => e = .returned (.tuple #[.agg #[.int .i64 0, .int .i64 0, .int .i64 0, .int .u64 0], .bool false]) ∧ Below w.heap.size w w' := by
  have plt : p < w.heap.size := World.block_lt_of_cell? w _ c0
  have n0 := World.new_ne w ⟨p, 0, none⟩ c0
  simp only at n0
  go_enter Try.func18, Try.ntmps18
  go_wp2_with fail
  refine bodyPost_ret (v := .tuple #[.agg #[.int .i64 0, .int .i64 0, .int .i64 0, .int .u64 0], .bool false]) (by rw [results_ct rfl]; go_simp) rfl ?_
  exact ⟨rfl, by first | exact (((((Below.refl _ _).alloc (Nat.le_refl _) _).setCell (p := ⟨w.heap.size, 0, none⟩) (by simp) _).setCell (p := ⟨w.heap.size, 1, none⟩) (by simp) _).setCell (p := ⟨w.heap.size, 2, none⟩) (by simp) _).setCell (p := ⟨w.heap.size, 3, none⟩) (by simp) _ | exact (Below.refl _ _).alloc (Nat.le_refl _) _⟩
theorem rfind_at5 {w : World} {L : Nat} {l : List Ent} (h : ListE w L l) (k : Sp) (hl : l.length ≤ 1000) :
    Calls Try.prog 17 #[.pointer (some ⟨L, 0, none⟩), .agg #[.int .i64 k.br, .int .i64 k.vol, .int .i64 k.blk, .int .u64 k.num]] w fun e w' => e = .returned (.tuple #[.int .i64 (findL k (l.map (·.1))).1, .bool (hasE k l)]) ∧ Below w.heap.size w w' := by
  obtain ⟨kv, vv, h⟩ := h
  obtain ⟨A, c, e, _, _, hs⟩ := spots_own h.keys
  have hp := h.hp
  rw [e] at hp
  refine (rfind_at hp hs k (by rw [List.length_map]; omega)).mono fun e w' hq => ?_
  obtain ⟨a, b⟩ := hq
  rw [findL_has] at a
  exact ⟨a, b⟩
theorem right_is {w : World} {p : Nat} {l : List Ent} (h : Leaf w p (l.map (·.1)) (l.map (·.2))) (hl : l.length ≤ 1000) (ha : Asc l) (root b : Bool) (hb : rightN l.length root = b) :
    Calls Try.prog 20 #[.pointer (some ⟨p, 0, none⟩), .bool root] w fun e w' => e = .returned (.bool b) ∧ Below w.heap.size w w' := by
  refine (right_leaf h (by rw [List.length_map]; exact hl) (by rw [List.length_map, List.length_map]) (asc_rising ha) root).mono fun e w' hp => ?_
  obtain ⟨a, c⟩ := hp
  rw [List.length_map, hb] at a
  exact ⟨a, c⟩
theorem spots_at {w : World} {A : Option Addr} {l : List Sp} (h : SpotsAt w A l) (j : Nat) (hj : j < l.length) : ∃ b off, A = some ⟨b, off, none⟩ ∧ b < w.heap.size ∧ SpAt w b (off + j * 4) l[j] := by
  obtain ⟨b, off, e, hlt, hc⟩ := h (by omega)
  exact ⟨b, off, e, hlt, hc j hj⟩
set_option maxHeartbeats 6400000 in
set_option maxRecDepth 100000 in
theorem leaves_ok {w : World} {A : Option Addr} {c : Nat} {ks : List Sp} (hs : SpotsAt w A ks) (k : Sp) :
    Calls Try.prog 4 #[.slice A ks.length c, k.v] w fun e w' => e = .returned (.bool true) ∧ Below w.heap.size w w' := by
  unfold Sp.v
  have HS := Lib.hid hs
  obtain ⟨N, hN⟩ : ∃ N, ks.length = N := ⟨_, rfl⟩
  have HN := Lib.hid hN
  rw [hN]
  clear hs hN
  go_enter Try.func4, Try.ntmps4
  go_wp2_with fail
  have hbw : Below w.heap.size w (w.alloc (.cells #[.int .i64 k.br, .int .i64 k.vol, .int .i64 k.blk, .int .u64 k.num] 26)) := (Below.refl _ _).alloc (Nat.le_refl _) _
  have hbox := heap_alloc_new w (.cells #[.int .i64 k.br, .int .i64 k.vol, .int .i64 k.blk, .int .u64 k.num] 26)
  refine (awake_ok _).mono ?_
  rintro e w1 ⟨rfl, hb1⟩
  generalize w.alloc (.cells #[.int .i64 k.br, .int .i64 k.vol, .int .i64 k.blk, .int .u64 k.num] 26) = W at *
  have zbox := (Array.getElem?_eq_some_iff.1 hbox).1
  have hbox1 := (hb1.block _ zbox).trans hbox
  have zk := (Array.getElem?_eq_some_iff.1 hbox1).1
  have HB1 : Hid (Below w.heap.size w w1) := hbw.trans (hb1.mono hbw.size)
  have HBox := Lib.hid hbox1
  clear hbox hbw hb1 zbox hbox1
  by_cases hn : N ≤ 10
  · have hg : decide ((10 : Int) < (N : Int)) = false := by simp; omega
    go_wp2_with fail
    have HL0 := Lib.hid (list_new w1)
    have hbw : Below w1.heap.size w1 (w1.alloc (.cells #[.slice none 0 0, .slice none 0 0] 34)) := (Below.refl _ _).alloc (Nat.le_refl _) _
    generalize w1.alloc (.cells #[.slice none 0 0, .slice none 0 0] 34) = W2 at *
    obtain ⟨L, hL⟩ : ∃ L, w1.heap.size = L := ⟨_, rfl⟩
    have HL := Lib.hid hL
    rw [hL] at HL0 hbw zk ⊢
    clear hL
    go_loopw [6] (fun i wr => ∃ (j : Nat) (l : List Ent), i = .int .i64 j ∧ j ≤ N ∧ ListE wr L l ∧ Asc l ∧ l.length ≤ j ∧ Below L w1 wr) (fun i _ => (N - intOf i).toNat)
    case atStart => exact ⟨0, [], rfl, Nat.zero_le _, HL0.out, List.Pairwise.nil, Nat.le_refl _, hbw⟩
    case round =>
      obtain ⟨j, l, rfl, hj, hl, ha, hll, hbr⟩ := hrel
      by_cases hjn : j < N
      · obtain ⟨b, off, rfl, hblt, x0, x1, x2, x3⟩ := spots_at ((HS.out.below HB1.out).below (by rw [HL.out]; exact hbr)) j (by rw [HN.out]; exact hjn)
        generalize ks[j]'(_) = y at *
        have HP := Lib.hid (rput_at hl y (j : Int) (by omega))
        have e1 : (0 : Int) ≤ (j : Int) := by omega
        have e2 : (j : Int) < (N : Int) := by omega
        have e3 : IntKind.u64.wrap (j : Int) = (j : Int) := by rw [IntKind.wrap_u64]; omega
        have HB := Lib.hid hbr
        have HA := Lib.hid ha
        have hLz := hl.lt
        have hlen := insE_len_le y (j : Int) l
        clear hl ha hbr
        go_wp2_with fail
        refine HP.out.mono ?_
        rintro e w6 ⟨rfl, hl6, hg6⟩
        go_wp2_with fail
        go_roundw
        case rel => exact ⟨j + 1, _, by simp, hjn, hl6, insE_asc HA.out, by omega, below_row HB.out hg6 (Nat.le_of_lt hLz) (Nat.le_refl _)⟩
        case measure => (simp [intOf] <;> omega)
      · obtain rfl : j = N := by omega
        obtain ⟨kv, vv, hlist⟩ := hl
        obtain ⟨A1, c1, ek, ek1, ek2, sk⟩ := spots_own hlist.keys
        obtain ⟨A2, c2, ev, ev1, ev2, sv⟩ := vals_own hlist.vals
        have hp := hlist.hp
        rw [ek, ev] at hp
        have hLz := (Array.getElem?_eq_some_iff.1 hp).1
        have HLs : Hid (ListE wr L l) := ⟨kv, vv, hlist⟩
        obtain ⟨n, hn'⟩ : ∃ n, l.length = n := ⟨_, rfl⟩
        have HNn := Lib.hid hn'
        rw [List.length_map, hn'] at hp
        have lc0 : wr.cell? ⟨L, 0, none⟩ = some (.slice A1 n c1) := by simp only [World.cell?, hp]; rfl
        have lc1 : wr.cell? ⟨L, 1, none⟩ = some (.slice A2 n c2) := by rw [List.length_map, hn'] at ev; have hp2 := hlist.hp; simp only [World.cell?, hp2, ev]; rfl
        have HSk := Lib.hid sk
        have HSv := Lib.hid sv
        have HE := Lib.hid (And.intro (And.intro ek1 ek2) (And.intro ev1 ev2))
        have HA := Lib.hid ha
        have HB := Lib.hid hbr
        have hn10 : n ≤ 10 := by omega
        clear sk sv ek ev ek1 ek2 ev1 ev2 hlist hp ha hbr hll hn'
        go_wp2_with fail
        go_cut [7] (fun p wx => ∃ P, p = .pointer (some ⟨P, 0, none⟩) ∧ Leaf wx P (l.map (·.1)) (l.map (·.2)) ∧ Below wr.heap.size wr wx)
        case first =>
          go_region_with (fail)
          all_goals go_wp2_with fail
          all_goals go_meet
          all_goals (
            have hQ := heap_alloc_new wr.drew (.cells #[.slice A1 n c1, .slice A2 n c2, .slice none 0 0] 39)
            have hbQ : Below wr.heap.size wr (wr.drew.alloc (.cells #[.slice A1 n c1, .slice A2 n c2, .slice none 0 0] 39)) := (bel_drewN _ _ (n := 1)).alloc (Nat.le_refl _) _
            refine ⟨wr.heap.size, rfl, ⟨A1, c1, A2, c2, ?_, HSk.out.below hbQ, HSv.out.below hbQ, HE.out.1.1, HE.out.1.2⟩, hbQ⟩
            rw [List.length_map, List.length_map, HNn.out]
            exact hQ)
        case rest =>
          obtain ⟨P, rfl, hLf, hbP⟩ := hcut
          have hzw : w1.heap.size ≤ wr.heap.size := by rw [HL.out]; exact Nat.le_of_lt hLz
          have HBP : Hid (Below w1.heap.size w1 wc) := by rw [HL.out]; exact HB.out.trans (hbP.mono (Nat.le_of_lt hLz))
          have hbk := (HBP.out.block _ (by rw [HL.out]; exact zk)).trans HBox.out
          have k0 : wc.cell? ⟨w.heap.size, 0, none⟩ = some (.int .i64 k.br) := by simp only [World.cell?, hbk]; rfl
          have k1 : wc.cell? ⟨w.heap.size, 1, none⟩ = some (.int .i64 k.vol) := by simp only [World.cell?, hbk]; rfl
          have k2 : wc.cell? ⟨w.heap.size, 2, none⟩ = some (.int .i64 k.blk) := by simp only [World.cell?, hbk]; rfl
          have k3 : wc.cell? ⟨w.heap.size, 3, none⟩ = some (.int .u64 k.num) := by simp only [World.cell?, hbk]; rfl
          have zkc := (Array.getElem?_eq_some_iff.1 hbk).1
          have HL2 := Lib.hid (HLs.out.below hbP)
          have HLf := Lib.hid hLf
          have HFi := Lib.hid (find_leaf hLf k (by rw [List.length_map]; have := HNn.out; omega))
          have HKO := Lib.hid hLf.keysOf
          have HBp := Lib.hid hbP
          clear hbk hLf hbP HSk HSv HE lc0 lc1
          go_wp2_with fail
          refine HFi.out.mono ?_
          rintro e w5 ⟨rfl, hb5⟩
          rw [findL_has]
          have HL5 := Lib.hid (HL2.out.below hb5)
          have HFr := Lib.hid (rfind_at5 (HL2.out.below hb5) k (by have := HNn.out; omega))
          have HLf5 := Lib.hid (HLf.out.below hb5)
          have HB5 := Lib.hid (HBP.out.trans (hb5.mono HBP.out.size))
          have x0 := (hb5.cell (p := ⟨w.heap.size, 0, none⟩) zkc).trans k0
          have x1 := (hb5.cell (p := ⟨w.heap.size, 1, none⟩) zkc).trans k1
          have x2 := (hb5.cell (p := ⟨w.heap.size, 2, none⟩) zkc).trans k2
          have x3 := (hb5.cell (p := ⟨w.heap.size, 3, none⟩) zkc).trans k3
          clear k0 k1 k2 k3 HFi HLf HL2 HKO hb5
          go_wp2_with fail
          refine HFr.out.mono ?_
          rintro e w6 ⟨rfl, hb6⟩
          have HL6 := Lib.hid (HL5.out.below hb6)
          have HLf6 := Lib.hid (HLf5.out.below hb6)
          have HB6 := Lib.hid (HB5.out.trans (hb6.mono HB5.out.size))
          clear x0 x1 x2 x3 HFr HL5 HLf5 hb6
          generalize (findL k (l.map (·.1))).1 = fi at *
          generalize hasE k l = fb at *
          have hfb : (fb == fb) = true := by simp
          have HEb : ∀ W, (binOp .eql 4 (.bool fb) (.bool fb)).run Try.prog W = .ok (.bool true) W := fun W => by cases fb <;> rfl
          by_cases hn0 : n = 0
          · have f0 : decide ((0 : Int) < (n : Int)) = false := by simp <;> omega
            have f0b : decide (0 < n) = false := by simp <;> omega
            have f1 : decide ((1 : Int) ≤ (n : Int)) = false := by simp <;> omega
            have f1b : decide (1 ≤ n) = false := by simp <;> omega
            have f1c : ¬ (0 < n) := by omega
            have f2 : decide ((2 : Int) ≤ (n : Int)) = false := by simp <;> omega
            have f2b : decide (2 ≤ n) = false := by simp <;> omega
            obtain ⟨A6, c6, lc, _⟩ := HLf6.out.keysOf
            rw [List.length_map, HNn.out, hn0] at lc
            have HLe := Lib.hid (least_none lc)
            clear lc
            go_wp2_with fail
            refine HLe.out.mono ?_
            rintro e w7 ⟨rfl, hb7⟩
            go_wp2_with fail
            have hbx : Below w7.heap.size w7 (w7.alloc (.cells #[.int .i64 0, .int .i64 0, .int .i64 0, .int .u64 0] 26)) := (Below.refl _ _).alloc (Nat.le_refl _) _
            have hbo := heap_alloc_new w7 (.cells #[.int .i64 0, .int .i64 0, .int .i64 0, .int .u64 0] 26)
            have HB8 := Lib.hid (HB6.out.trans (((hb7.trans (hbx.mono hb7.size))).mono HB6.out.size))
            have HL8 := Lib.hid ((HLf6.out.below hb7).below hbx)
            have HLi := Lib.hid ((HL6.out.below hb7).below hbx)
            clear hbx hb7 HLf6 HL6
            generalize w7.heap.size = B8 at *
            generalize w7.alloc (.cells #[.int .i64 0, .int .i64 0, .int .i64 0, .int .u64 0] 26) = W8 at *
            obtain ⟨AL, cL, lL⟩ := list_cell HLi.out HNn.out
            have lLz := World.block_lt_of_cell? _ _ lL
            have x0 : ∀ x : Wd (Below W8.heap.size W8), x.w.cell? ⟨L, 0, none⟩ = some (.slice AL n cL) := fun x => (x.h.cell (p := ⟨L, 0, none⟩) lLz).trans lL
            have HLd : Hid (∀ x : Wd (Below W8.heap.size W8), Calls Try.prog 19 #[.pointer (some ⟨P, 0, none⟩)] x.w fun e w'' => e = .returned (.bool true) ∧ ∃ m : Wd (Below W8.heap.size W8), w'' = m.w) := fun x => Calls.clsB ((leaf_yes (HL8.out.below x.h)).mono (fun e w' h => ⟨h.1, by rw [← h.2]; exact Below.refl _ _⟩)) (Nat.le_refl _)
            have HRt : Hid (∀ x : Wd (Below W8.heap.size W8), Calls Try.prog 20 #[.pointer (some ⟨P, 0, none⟩), .bool true] x.w fun e w'' => e = .returned (.bool false) ∧ ∃ m : Wd (Below W8.heap.size W8), w'' = m.w) := fun x => Calls.clsB (right_is (HL8.out.below x.h) (by rw [HNn.out]; omega) HA.out true false (by rw [HNn.out]; simp [rightN] <;> omega)) (Nat.le_refl _)
            have HRf : Hid (∀ x : Wd (Below W8.heap.size W8), Calls Try.prog 20 #[.pointer (some ⟨P, 0, none⟩), .bool false] x.w fun e w'' => e = .returned (.bool false) ∧ ∃ m : Wd (Below W8.heap.size W8), w'' = m.w) := fun x => Calls.clsB (right_is (HL8.out.below x.h) (by rw [HNn.out]; omega) HA.out false false (by rw [HNn.out]; simp [rightN] <;> omega)) (Nat.le_refl _)
            simp only [List.append_eq, List.cons_append, List.nil_append]
            have : Nonempty (Wd (Below W8.heap.size W8)) := ⟨⟨W8, Below.refl _ _⟩⟩
            refine wp_region_cls (S := Below W8.heap.size W8) (by kernel_rfl) (by kernel_rfl) (bel_drewN _ _ (n := 1)) ?_
            repeat (go_big_quiet_step (with_reducible (first | exact HLd.out _ | exact HRt.out _ | exact HRf.out _)))
            refine wpQuiet_nil ?_
            rintro _ ⟨x, rfl⟩
            go_wp2_with fail
            go_ret
            exact ⟨rfl, HB1.out.trans ((HB8.out.trans (x.h.mono HB8.out.size)).mono HB1.out.size)⟩
          · have hkl : 0 < (l.map (·.1)).length := by rw [List.length_map, HNn.out]; omega
            have HLe := Lib.hid (least_at HLf6.out.keysOf hkl (by rw [List.length_map, HNn.out]; omega))
            have hy : (l.map (·.1))[0] = (l[0]'(by rw [List.length_map] at hkl; exact hkl)).1 := List.getElem_map _
            rw [hy] at HLe
            go_wp2_with fail
            refine HLe.out.mono ?_
            rintro e w7 ⟨rfl, hb7⟩
            obtain ⟨bL, oL, cL, _, _, _, q0, _, ⟨q1, q2, q3, q4⟩, _⟩ := list_get ((HL6.out.below hb7)) HNn.out (show 0 < n by omega)
            simp only [Nat.zero_mul, Nat.add_zero] at q1 q2 q3 q4
            generalize (l[0]'(_)).1 = y at *
            have HE : ∀ W, _ := fun W => by have := sp_eq y y W; rw [show (decide (y = y)) = true by simp] at this; exact this
            have z0 := World.block_lt_of_cell? _ _ q0
            have z1 := World.block_lt_of_cell? _ _ q1
            clear hy HLe hkl
            go_wp2_with fail
            have hbx : Below w7.heap.size w7 (w7.alloc (.cells #[.int .i64 y.br, .int .i64 y.vol, .int .i64 y.blk, .int .u64 y.num] 26)) := (Below.refl _ _).alloc (Nat.le_refl _) _
            have l0 := (hbx.cell (p := ⟨L, 0, none⟩) z0).trans q0
            have l1 := (hbx.cell (p := ⟨bL, _, none⟩) z1).trans q1
            have l2 := (hbx.cell (p := ⟨bL, _, none⟩) z1).trans q2
            have l3 := (hbx.cell (p := ⟨bL, _, none⟩) z1).trans q3
            have l4 := (hbx.cell (p := ⟨bL, _, none⟩) z1).trans q4
            clear q0 q1 q2 q3 q4 z0 z1
            have hbo := heap_alloc_new w7 (.cells #[.int .i64 y.br, .int .i64 y.vol, .int .i64 y.blk, .int .u64 y.num] 26)
            have HB8 := Lib.hid (HB6.out.trans (((hb7.trans (hbx.mono hb7.size))).mono HB6.out.size))
            have HL8 := Lib.hid ((HLf6.out.below hb7).below hbx)
            have HLi := Lib.hid ((HL6.out.below hb7).below hbx)
            clear hbx hb7 HLf6 HL6
            generalize w7.heap.size = B8 at *
            generalize w7.alloc (.cells #[.int .i64 y.br, .int .i64 y.vol, .int .i64 y.blk, .int .u64 y.num] 26) = W8 at *
            have o0 : W8.cell? ⟨B8, 0, none⟩ = some (.int .i64 y.br) := by simp only [World.cell?, hbo]; rfl
            have o1 : W8.cell? ⟨B8, 1, none⟩ = some (.int .i64 y.vol) := by simp only [World.cell?, hbo]; rfl
            have o2 : W8.cell? ⟨B8, 2, none⟩ = some (.int .i64 y.blk) := by simp only [World.cell?, hbo]; rfl
            have o3 : W8.cell? ⟨B8, 3, none⟩ = some (.int .u64 y.num) := by simp only [World.cell?, hbo]; rfl
            have z8 := World.block_lt_of_cell? _ _ o0
            have z0 := World.block_lt_of_cell? _ _ l0
            have z1 := World.block_lt_of_cell? _ _ l1
            clear hbo
            have f0 : decide ((0 : Int) < (n : Int)) = true := by simp <;> omega
            have f0b : 0 < n := by omega
            have f1 : decide ((1 : Int) ≤ (n : Int)) = true := by simp <;> omega
            have f1b : (1 : Int) ≤ (n : Int) := by omega
            have f1c : (0 : Int) < (n : Int) := by omega
            by_cases h2 : 2 ≤ n
            · have f2 : decide ((2 : Int) ≤ (n : Int)) = true := by simp <;> omega
              have f2b : decide (2 ≤ n) = true := by simp <;> omega
              have f2c : (2 : Int) ≤ (n : Int) := by omega
              by_cases h4 : n ≤ 4
              · have f4 : decide ((n : Int) ≤ (4 : Int)) = true := by simp <;> omega
                have f4b : decide (n ≤ 4) = true := by simp <;> omega
                have f4c : (n : Int) ≤ (4 : Int) := by omega
                have x0 : ∀ x : Wd (Below W8.heap.size W8), x.w.cell? ⟨L, 0, none⟩ = some (.slice (some ⟨bL, oL, none⟩) n cL) := fun x => (x.h.cell (p := ⟨L, 0, none⟩) z0).trans l0
                have x1 : ∀ x : Wd (Below W8.heap.size W8), x.w.cell? ⟨bL, oL, none⟩ = some (.int .i64 y.br) := fun x => (x.h.cell (p := ⟨bL, oL, none⟩) z1).trans l1
                have x2 : ∀ x : Wd (Below W8.heap.size W8), x.w.cell? ⟨bL, oL + 1, none⟩ = some (.int .i64 y.vol) := fun x => (x.h.cell (p := ⟨bL, oL + 1, none⟩) z1).trans l2
                have x3 : ∀ x : Wd (Below W8.heap.size W8), x.w.cell? ⟨bL, oL + 2, none⟩ = some (.int .i64 y.blk) := fun x => (x.h.cell (p := ⟨bL, oL + 2, none⟩) z1).trans l3
                have x4 : ∀ x : Wd (Below W8.heap.size W8), x.w.cell? ⟨bL, oL + 3, none⟩ = some (.int .u64 y.num) := fun x => (x.h.cell (p := ⟨bL, oL + 3, none⟩) z1).trans l4
                have x5 : ∀ x : Wd (Below W8.heap.size W8), x.w.cell? ⟨B8, 0, none⟩ = some (.int .i64 y.br) := fun x => (x.h.cell (p := ⟨B8, 0, none⟩) z8).trans o0
                have x6 : ∀ x : Wd (Below W8.heap.size W8), x.w.cell? ⟨B8, 1, none⟩ = some (.int .i64 y.vol) := fun x => (x.h.cell (p := ⟨B8, 1, none⟩) z8).trans o1
                have x7 : ∀ x : Wd (Below W8.heap.size W8), x.w.cell? ⟨B8, 2, none⟩ = some (.int .i64 y.blk) := fun x => (x.h.cell (p := ⟨B8, 2, none⟩) z8).trans o2
                have x8 : ∀ x : Wd (Below W8.heap.size W8), x.w.cell? ⟨B8, 3, none⟩ = some (.int .u64 y.num) := fun x => (x.h.cell (p := ⟨B8, 3, none⟩) z8).trans o3
                clear l0 l1 l2 l3 l4 o0 o1 o2 o3
                have HLd : Hid (∀ x : Wd (Below W8.heap.size W8), Calls Try.prog 19 #[.pointer (some ⟨P, 0, none⟩)] x.w fun e w'' => e = .returned (.bool true) ∧ ∃ m : Wd (Below W8.heap.size W8), w'' = m.w) := fun x => Calls.clsB ((leaf_yes (HL8.out.below x.h)).mono (fun e w' h => ⟨h.1, by rw [← h.2]; exact Below.refl _ _⟩)) (Nat.le_refl _)
                have HRt : Hid (∀ x : Wd (Below W8.heap.size W8), Calls Try.prog 20 #[.pointer (some ⟨P, 0, none⟩), .bool true] x.w fun e w'' => e = .returned (.bool true) ∧ ∃ m : Wd (Below W8.heap.size W8), w'' = m.w) := fun x => Calls.clsB (right_is (HL8.out.below x.h) (by rw [HNn.out]; omega) HA.out true true (by rw [HNn.out]; simp [rightN] <;> omega)) (Nat.le_refl _)
                have HRf : Hid (∀ x : Wd (Below W8.heap.size W8), Calls Try.prog 20 #[.pointer (some ⟨P, 0, none⟩), .bool false] x.w fun e w'' => e = .returned (.bool true) ∧ ∃ m : Wd (Below W8.heap.size W8), w'' = m.w) := fun x => Calls.clsB (right_is (HL8.out.below x.h) (by rw [HNn.out]; omega) HA.out false true (by rw [HNn.out]; simp [rightN] <;> omega)) (Nat.le_refl _)
                simp only [List.append_eq, List.cons_append, List.nil_append]
                have : Nonempty (Wd (Below W8.heap.size W8)) := ⟨⟨W8, Below.refl _ _⟩⟩
                refine wp_region_cls (S := Below W8.heap.size W8) (by kernel_rfl) (by kernel_rfl) (bel_drewN _ _ (n := 1)) ?_
                repeat (go_big_quiet_step (with_reducible (first | exact HLd.out _ | exact HRt.out _ | exact HRf.out _)))
                refine wpQuiet_nil ?_
                rintro _ ⟨x, rfl⟩
                go_wp2_with fail
                go_ret
                exact ⟨rfl, HB1.out.trans ((HB8.out.trans (x.h.mono HB8.out.size)).mono HB1.out.size)⟩
              · have f4 : decide ((n : Int) ≤ (4 : Int)) = false := by simp <;> omega
                have f4b : decide (n ≤ 4) = false := by simp <;> omega
                have x0 : ∀ x : Wd (Below W8.heap.size W8), x.w.cell? ⟨L, 0, none⟩ = some (.slice (some ⟨bL, oL, none⟩) n cL) := fun x => (x.h.cell (p := ⟨L, 0, none⟩) z0).trans l0
                have x1 : ∀ x : Wd (Below W8.heap.size W8), x.w.cell? ⟨bL, oL, none⟩ = some (.int .i64 y.br) := fun x => (x.h.cell (p := ⟨bL, oL, none⟩) z1).trans l1
                have x2 : ∀ x : Wd (Below W8.heap.size W8), x.w.cell? ⟨bL, oL + 1, none⟩ = some (.int .i64 y.vol) := fun x => (x.h.cell (p := ⟨bL, oL + 1, none⟩) z1).trans l2
                have x3 : ∀ x : Wd (Below W8.heap.size W8), x.w.cell? ⟨bL, oL + 2, none⟩ = some (.int .i64 y.blk) := fun x => (x.h.cell (p := ⟨bL, oL + 2, none⟩) z1).trans l3
                have x4 : ∀ x : Wd (Below W8.heap.size W8), x.w.cell? ⟨bL, oL + 3, none⟩ = some (.int .u64 y.num) := fun x => (x.h.cell (p := ⟨bL, oL + 3, none⟩) z1).trans l4
                have x5 : ∀ x : Wd (Below W8.heap.size W8), x.w.cell? ⟨B8, 0, none⟩ = some (.int .i64 y.br) := fun x => (x.h.cell (p := ⟨B8, 0, none⟩) z8).trans o0
                have x6 : ∀ x : Wd (Below W8.heap.size W8), x.w.cell? ⟨B8, 1, none⟩ = some (.int .i64 y.vol) := fun x => (x.h.cell (p := ⟨B8, 1, none⟩) z8).trans o1
                have x7 : ∀ x : Wd (Below W8.heap.size W8), x.w.cell? ⟨B8, 2, none⟩ = some (.int .i64 y.blk) := fun x => (x.h.cell (p := ⟨B8, 2, none⟩) z8).trans o2
                have x8 : ∀ x : Wd (Below W8.heap.size W8), x.w.cell? ⟨B8, 3, none⟩ = some (.int .u64 y.num) := fun x => (x.h.cell (p := ⟨B8, 3, none⟩) z8).trans o3
                clear l0 l1 l2 l3 l4 o0 o1 o2 o3
                have HLd : Hid (∀ x : Wd (Below W8.heap.size W8), Calls Try.prog 19 #[.pointer (some ⟨P, 0, none⟩)] x.w fun e w'' => e = .returned (.bool true) ∧ ∃ m : Wd (Below W8.heap.size W8), w'' = m.w) := fun x => Calls.clsB ((leaf_yes (HL8.out.below x.h)).mono (fun e w' h => ⟨h.1, by rw [← h.2]; exact Below.refl _ _⟩)) (Nat.le_refl _)
                have HRt : Hid (∀ x : Wd (Below W8.heap.size W8), Calls Try.prog 20 #[.pointer (some ⟨P, 0, none⟩), .bool true] x.w fun e w'' => e = .returned (.bool false) ∧ ∃ m : Wd (Below W8.heap.size W8), w'' = m.w) := fun x => Calls.clsB (right_is (HL8.out.below x.h) (by rw [HNn.out]; omega) HA.out true false (by rw [HNn.out]; simp [rightN] <;> omega)) (Nat.le_refl _)
                have HRf : Hid (∀ x : Wd (Below W8.heap.size W8), Calls Try.prog 20 #[.pointer (some ⟨P, 0, none⟩), .bool false] x.w fun e w'' => e = .returned (.bool false) ∧ ∃ m : Wd (Below W8.heap.size W8), w'' = m.w) := fun x => Calls.clsB (right_is (HL8.out.below x.h) (by rw [HNn.out]; omega) HA.out false false (by rw [HNn.out]; simp [rightN] <;> omega)) (Nat.le_refl _)
                simp only [List.append_eq, List.cons_append, List.nil_append]
                have : Nonempty (Wd (Below W8.heap.size W8)) := ⟨⟨W8, Below.refl _ _⟩⟩
                refine wp_region_cls (S := Below W8.heap.size W8) (by kernel_rfl) (by kernel_rfl) (bel_drewN _ _ (n := 1)) ?_
                repeat (go_big_quiet_step (with_reducible (first | exact HLd.out _ | exact HRt.out _ | exact HRf.out _)))
                refine wpQuiet_nil ?_
                rintro _ ⟨x, rfl⟩
                go_wp2_with fail
                go_ret
                exact ⟨rfl, HB1.out.trans ((HB8.out.trans (x.h.mono HB8.out.size)).mono HB1.out.size)⟩
            · have f2 : decide ((2 : Int) ≤ (n : Int)) = false := by simp <;> omega
              have f2b : decide (2 ≤ n) = false := by simp <;> omega
              have f4 : decide ((n : Int) ≤ (4 : Int)) = true := by simp <;> omega
              have f4b : decide (n ≤ 4) = true := by simp <;> omega
              have f4c : (n : Int) ≤ (4 : Int) := by omega
              have x0 : ∀ x : Wd (Below W8.heap.size W8), x.w.cell? ⟨L, 0, none⟩ = some (.slice (some ⟨bL, oL, none⟩) n cL) := fun x => (x.h.cell (p := ⟨L, 0, none⟩) z0).trans l0
              have x1 : ∀ x : Wd (Below W8.heap.size W8), x.w.cell? ⟨bL, oL, none⟩ = some (.int .i64 y.br) := fun x => (x.h.cell (p := ⟨bL, oL, none⟩) z1).trans l1
              have x2 : ∀ x : Wd (Below W8.heap.size W8), x.w.cell? ⟨bL, oL + 1, none⟩ = some (.int .i64 y.vol) := fun x => (x.h.cell (p := ⟨bL, oL + 1, none⟩) z1).trans l2
              have x3 : ∀ x : Wd (Below W8.heap.size W8), x.w.cell? ⟨bL, oL + 2, none⟩ = some (.int .i64 y.blk) := fun x => (x.h.cell (p := ⟨bL, oL + 2, none⟩) z1).trans l3
              have x4 : ∀ x : Wd (Below W8.heap.size W8), x.w.cell? ⟨bL, oL + 3, none⟩ = some (.int .u64 y.num) := fun x => (x.h.cell (p := ⟨bL, oL + 3, none⟩) z1).trans l4
              have x5 : ∀ x : Wd (Below W8.heap.size W8), x.w.cell? ⟨B8, 0, none⟩ = some (.int .i64 y.br) := fun x => (x.h.cell (p := ⟨B8, 0, none⟩) z8).trans o0
              have x6 : ∀ x : Wd (Below W8.heap.size W8), x.w.cell? ⟨B8, 1, none⟩ = some (.int .i64 y.vol) := fun x => (x.h.cell (p := ⟨B8, 1, none⟩) z8).trans o1
              have x7 : ∀ x : Wd (Below W8.heap.size W8), x.w.cell? ⟨B8, 2, none⟩ = some (.int .i64 y.blk) := fun x => (x.h.cell (p := ⟨B8, 2, none⟩) z8).trans o2
              have x8 : ∀ x : Wd (Below W8.heap.size W8), x.w.cell? ⟨B8, 3, none⟩ = some (.int .u64 y.num) := fun x => (x.h.cell (p := ⟨B8, 3, none⟩) z8).trans o3
              clear l0 l1 l2 l3 l4 o0 o1 o2 o3
              have HLd : Hid (∀ x : Wd (Below W8.heap.size W8), Calls Try.prog 19 #[.pointer (some ⟨P, 0, none⟩)] x.w fun e w'' => e = .returned (.bool true) ∧ ∃ m : Wd (Below W8.heap.size W8), w'' = m.w) := fun x => Calls.clsB ((leaf_yes (HL8.out.below x.h)).mono (fun e w' h => ⟨h.1, by rw [← h.2]; exact Below.refl _ _⟩)) (Nat.le_refl _)
              have HRt : Hid (∀ x : Wd (Below W8.heap.size W8), Calls Try.prog 20 #[.pointer (some ⟨P, 0, none⟩), .bool true] x.w fun e w'' => e = .returned (.bool true) ∧ ∃ m : Wd (Below W8.heap.size W8), w'' = m.w) := fun x => Calls.clsB (right_is (HL8.out.below x.h) (by rw [HNn.out]; omega) HA.out true true (by rw [HNn.out]; simp [rightN] <;> omega)) (Nat.le_refl _)
              have HRf : Hid (∀ x : Wd (Below W8.heap.size W8), Calls Try.prog 20 #[.pointer (some ⟨P, 0, none⟩), .bool false] x.w fun e w'' => e = .returned (.bool false) ∧ ∃ m : Wd (Below W8.heap.size W8), w'' = m.w) := fun x => Calls.clsB (right_is (HL8.out.below x.h) (by rw [HNn.out]; omega) HA.out false false (by rw [HNn.out]; simp [rightN] <;> omega)) (Nat.le_refl _)
              simp only [List.append_eq, List.cons_append, List.nil_append]
              have : Nonempty (Wd (Below W8.heap.size W8)) := ⟨⟨W8, Below.refl _ _⟩⟩
              refine wp_region_cls (S := Below W8.heap.size W8) (by kernel_rfl) (by kernel_rfl) (bel_drewN _ _ (n := 1)) ?_
              repeat (go_big_quiet_step (with_reducible (first | exact HLd.out _ | exact HRt.out _ | exact HRf.out _)))
              refine wpQuiet_nil ?_
              rintro _ ⟨x, rfl⟩
              go_wp2_with fail
              go_ret
              exact ⟨rfl, HB1.out.trans ((HB8.out.trans (x.h.mono HB8.out.size)).mono HB1.out.size)⟩
  · have hg : decide ((10 : Int) < (N : Int)) = true := by simp; omega
    go_wp2_with fail
    go_ret
    exact ⟨rfl, HB1.out⟩
end Go.Proofs.Ytjeebbolnanmkaa.N
