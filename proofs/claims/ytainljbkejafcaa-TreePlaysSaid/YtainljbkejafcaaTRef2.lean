/- TRef2: joined by merge.py. -/
import Derived.Test.YtainljbkejafcaaTA
import Derived.Test.YtainljbkejafcaaTC
/- Range, Floor and Ceil of the document's list. -/
namespace Go.Proofs.Ytainljbkejafcaa.N
open Go.BigFrame Go.RowKit Go.Shelf Go.Proofs.YtainljbkejafcaaW.PrintMore Go.Proofs.YtainljbkejafcaaW.PrintWords
set_option linter.unusedVariables false
set_option linter.unusedSimpArgs false
def floorIx (k : Sp) (l : List Ent) : Int := ((leE k l).length : Int) - 1
def ceilIx (k : Sp) (l : List Ent) : Int := if (geE k l).length = 0 then -1 else ((l.length - (geE k l).length : Nat) : Int)
theorem leE_step {k : Sp} {l : List Ent} (ha : Asc l) {j : Nat} (hj : j < l.length) : leE k (l.take (j + 1)) = if lt k l[j].1 = true then leE k (l.take j) else l.take (j + 1) := by
  rw [List.take_succ_eq_append_getElem hj]
  split
  · rename_i h
    unfold leE
    rw [List.filter_append]
    simp [h]
  · rename_i h
    have h : lt k l[j].1 = false := by simpa using h
    unfold leE
    rw [List.filter_eq_self]
    intro y hy
    rcases List.mem_append.1 hy with hy | hy
    · have h1 := take_lt ha hj y hy
      have : lt k y.1 = false := by
        rw [← Bool.not_eq_true]
        intro h2
        rw [lt_tra h2 h1] at h
        cases h
      simp [this]
    · simp at hy; subst hy; simp [h]
theorem floor_ix {k : Sp} {l : List Ent} (ha : Asc l) : (floorE k l = none ∧ floorIx k l = -1) ∨ ∃ (j : Nat) (h : j < l.length), floorIx k l = (j : Int) ∧ floorE k l = some l[j] := by
  obtain ⟨h1, h2, h3, h4⟩ := findL_parts k ha
  have hlt := findL_lt k (l.map (·.1))
  rw [List.length_map] at hlt
  generalize hf : findL k (l.map (·.1)) = f at *
  have hL : (leE k l).length ≤ l.length := List.length_filter_le _ _
  unfold floorE floorIx
  by_cases h0 : (leE k l).length = 0
  · left
    exact ⟨by rw [List.length_eq_zero_iff.1 h0]; rfl, by omega⟩
  · right
    have hb : (leE k l).length - 1 < l.length := by omega
    refine ⟨(leE k l).length - 1, hb, by omega, ?_⟩
    rw [List.getLast?_eq_getElem?, ← List.getElem?_eq_getElem hb]
    have hlen : (leE k l).length = f.1 + if f.2 = true then 1 else 0 := by
      rw [h1, List.length_take]
      split
      · rename_i h; have := hlt h; omega
      · omega
    obtain ⟨m, hm⟩ : ∃ m, (leE k l).length - 1 = m := ⟨_, rfl⟩
    rw [hm]
    rw [h1, List.getElem?_take, if_pos (by omega)]
theorem ceil_ix {k : Sp} {l : List Ent} (ha : Asc l) : (ceilE k l = none ∧ ceilIx k l = -1) ∨ ∃ (j : Nat) (h : j < l.length), ceilIx k l = (j : Int) ∧ ceilE k l = some l[j] := by
  obtain ⟨h1, h2, h3, h4⟩ := findL_parts k ha
  generalize hf : findL k (l.map (·.1)) = f at *
  have hlen : (geE k l).length = l.length - f.1 := by rw [h2, List.length_drop]
  unfold ceilE ceilIx
  by_cases h0 : (geE k l).length = 0
  · left
    exact ⟨by rw [List.length_eq_zero_iff.1 h0]; rfl, by rw [if_pos h0]⟩
  · right
    have hlt : f.1 < l.length := by omega
    refine ⟨f.1, hlt, ?_, ?_⟩
    · rw [if_neg h0, hlen]; congr 1; omega
    · rw [h2, List.head?_drop, List.getElem?_eq_getElem hlt]
theorem ge_ix {k : Sp} {l : List Ent} (ha : Asc l) {j : Nat} (hj : j < l.length) (h0 : ∀ y ∈ l.take j, lt y.1 k = true) (h1 : lt l[j].1 k = false) : ceilIx k l = (j : Int) := by
  have e : geE k l = l.drop j := by
    unfold geE
    conv => lhs; rw [← List.take_append_drop j l]
    rw [List.filter_append, List.filter_eq_nil_iff.2 (fun y hy => by simp [h0 y hy]), List.nil_append, List.filter_eq_self]
    intro y hy
    obtain ⟨i, hi, rfl⟩ := List.getElem_of_mem hy
    rw [List.length_drop] at hi
    rw [List.getElem_drop]
    have : lt l[j + i].1 k = false := by
      cases i with
      | zero => simpa using h1
      | succ i =>
        unfold Asc at ha
        have h2 := List.pairwise_iff_getElem.1 ha j (j + (i + 1)) hj (by omega) (by omega)
        rw [← Bool.not_eq_true]
        intro h3
        rw [lt_tra h2 h3] at h1
        cases h1
    simp [this]
  unfold ceilIx
  rw [e, List.length_drop, if_neg (by omega)]
  congr 1
  omega
theorem ge_none {k : Sp} {l : List Ent} (h0 : ∀ y ∈ l, lt y.1 k = true) : ceilIx k l = -1 := by
  unfold ceilIx
  rw [geE_none h0]
  rfl
set_option maxHeartbeats 3200000 in
set_option maxRecDepth 100000 in
theorem floor25 {w : World} {A : Option Addr} {l : List Ent} {n c : Nat} (ha : ItemsAt w A l) (hn : l.length = n) (hl : n ≤ 900) (hs : Asc l) (k : Sp) :
    Calls Try.prog 50 #[.slice A n c, .agg #[.int .i64 k.br, .int .i64 k.vol, .int .i64 k.blk, .int .u64 k.num]] w fun e w' => e = .returned (.int .i64 (floorIx k l)) ∧ Below w.heap.size w w' := by
  have HA := Lib.hid ha
  have HN := Lib.hid hn
  have HS := Lib.hid hs
  have HL := Lib.hid hl
  clear ha hn hs
  go_enter Try.func50, Try.ntmps50
  have hbw : Below w.heap.size w (w.alloc (.cells #[.int .i64 k.br, .int .i64 k.vol, .int .i64 k.blk, .int .u64 k.num] 26)) := (Below.refl _ _).alloc (Nat.le_refl _) _
  have hbox := Blk.new w #[.int .i64 k.br, .int .i64 k.vol, .int .i64 k.blk, .int .u64 k.num] 26
  go_upto_block 0 with fail
  generalize w.alloc (.cells #[.int .i64 k.br, .int .i64 k.vol, .int .i64 k.blk, .int .u64 k.num] 26) = W at *
  have HBw := Lib.hid hbw
  go_wp2_with fail
  go_loopw [5, 6] (fun o i X => Below W.heap.size W X ∧ ∃ j : Nat, i = .int .i64 j ∧ j ≤ n ∧ o = .int .i64 (floorIx k (l.take j))) (fun _ i _ => (n - intOf i).toNat)
  case atStart => exact ⟨Below.refl _ _, 0, rfl, Nat.zero_le _, rfl⟩
  case round =>
    obtain ⟨hbW, j, rfl, hj, rfl⟩ := hrel
    have hbr := HBw.out.trans (hbW.mono HBw.out.size)
    have HBr := Lib.hid hbr
    have HBW := Lib.hid hbW
    by_cases hjn : j < n
    · have hja : j < l.length := by rw [HN.out]; exact hjn
      obtain ⟨ga, oa, rfl, la, ca⟩ := HA.out (by omega)
      have hgz : ga < wr.heap.size := Nat.lt_of_lt_of_le la hbr.size
      have hit := (ca j hja).below hbr la
      have HT := Lib.hid (take_lt HS.out hja)
      have HTk := Lib.hid (List.take_succ_eq_append_getElem hja)
      have HSt := Lib.hid (leE_step (k := k) HS.out hja)
      have HGe := Lib.hid (fun h0 h1 => ge_ix (k := k) HS.out hja h0 h1)
      obtain ⟨x, hx⟩ : ∃ x, l[j] = x := ⟨_, rfl⟩
      rw [hx] at hit HT HTk HSt HGe
      obtain ⟨s0, s1, s2, s3, s4⟩ := hit
      obtain ⟨k0, k1, k2, k3, zk⟩ := box_cells hbox hbW
      have e1 : (0 : Int) ≤ (j : Int) := by omega
      have e2 : (j : Int) < (n : Int) := by omega
      have HE : ∀ W, _ := fun W => sp_eq x.1 k W
      clear hx ca la hja hbr
      have z0 := cls_cell s0
      have z1 := cls_cell s1
      have z2 := cls_cell s2
      have z3 := cls_cell s3
      have y0 := cls_cell k0
      have y1 := cls_cell k1
      have y2 := cls_cell k2
      have y3 := cls_cell k3
      have := cls_ne wr
      clear s0 s1 s2 s3 s4 k0 k1 k2 k3 zk
      have h3 : (x.1 = k) ∨ (¬ x.1 = k ∧ lt x.1 k = true) ∨ (¬ x.1 = k ∧ lt x.1 k = false) := by
        by_cases h : x.1 = k
        · exact .inl h
        · cases h2 : lt x.1 k
          · exact .inr (.inr ⟨h, rfl⟩)
          · exact .inr (.inl ⟨h, rfl⟩)
      have HBf : Hid (∀ X : Wd (Below wr.heap.size wr), Calls Try.prog 69 #[.agg #[.int .i64 x.1.br, .int .i64 x.1.vol, .int .i64 x.1.blk, .int .u64 x.1.num], .agg #[.int .i64 k.br, .int .i64 k.vol, .int .i64 k.blk, .int .u64 k.num]] X.w fun e w'' => e = .returned (.bool (lt x.1 k)) ∧ ∃ m : Wd (Below wr.heap.size wr), w'' = m.w) := fun X => Calls.clsB (before25 x.1 k X.w) (Nat.le_refl _)
      rcases h3 with h3 | ⟨h3, h4⟩ | ⟨h3, h4⟩
      · have hle : lt k x.1 = false := by rw [h3]; exact lt_irr k
        have HLe := Lib.hid hle
        have hd : decide (x.1 = k) = true := by simp [h3]
        simp only [hd] at HE
        clear h3 hle hbW hd
        go_wp2_with fail
        refine wp_region_cls (S := Below wr.heap.size wr) (by kernel_rfl) (by kernel_rfl) (bel_drewN _ _ (n := 1)) ?_
        repeat (go_big_quiet_step (with_reducible (exact HBf.out _)))
        refine wpQuiet_nil ?_
        rintro w5 ⟨⟨_, hx5⟩, rfl⟩
        try dsimp only
        have HX5 := Lib.hid hx5
        clear z0 z1 z2 z3 y0 y1 y2 y3 this HE hx5 HBf
        go_wp2_with fail
        go_roundw
        case rel =>
          refine ⟨HBW.out.trans (HX5.out.mono HBW.out.size), j + 1, by simp, hjn, ?_⟩
          unfold floorIx
          rw [HSt.out, HLe.out, if_neg (by decide), List.length_take, HN.out]
          congr 1
          omega
        case measure => (simp [intOf] <;> omega)
      · have hle : lt k x.1 = false := lt_asy h4
        have HLe := Lib.hid hle
        simp only [h3, decide_false] at HE
        rw [h4] at HBf
        clear h3 h4 hle hbW
        go_wp2_with fail
        refine wp_region_cls (S := Below wr.heap.size wr) (by kernel_rfl) (by kernel_rfl) (bel_drewN _ _ (n := 1)) ?_
        repeat (go_big_quiet_step (with_reducible (exact HBf.out _)))
        refine wpQuiet_nil ?_
        rintro w5 ⟨⟨_, hx5⟩, rfl⟩
        try dsimp only
        have HX5 := Lib.hid hx5
        clear z0 z1 z2 z3 y0 y1 y2 y3 this HE hx5 HBf
        go_wp2_with fail
        go_roundw
        case rel =>
          refine ⟨HBW.out.trans (HX5.out.mono HBW.out.size), j + 1, by simp, hjn, ?_⟩
          unfold floorIx
          rw [HSt.out, HLe.out, if_neg (by decide), List.length_take, HN.out]
          congr 1
          omega
        case measure => (simp [intOf] <;> omega)
      · have hle : lt k x.1 = true := by
          rw [← Bool.not_eq_false]
          intro h5
          exact h3 (lt_tot h4 h5)
        have HLe := Lib.hid hle
        simp only [h3, decide_false] at HE
        rw [h4] at HBf
        clear h3 h4 hle hbW
        go_wp2_with fail
        refine wp_region_cls (S := Below wr.heap.size wr) (by kernel_rfl) (by kernel_rfl) (bel_drewN _ _ (n := 1)) ?_
        repeat (go_big_quiet_step (with_reducible (exact HBf.out _)))
        refine wpQuiet_nil ?_
        rintro w5 ⟨⟨_, hx5⟩, rfl⟩
        try dsimp only
        have HX5 := Lib.hid hx5
        clear z0 z1 z2 z3 y0 y1 y2 y3 this HE hx5 HBf
        go_wp2_with fail
        go_roundw
        case rel =>
          refine ⟨HBW.out.trans (HX5.out.mono HBW.out.size), j + 1, by simp, hjn, ?_⟩
          unfold floorIx
          rw [HSt.out, HLe.out, if_pos rfl]
        case measure => (simp [intOf] <;> omega)
    · obtain rfl : j = n := by omega
      clear hbr hbW
      go_wp2_with fail
      go_ret
      rw [List.take_of_length_le (by rw [HN.out]; exact Nat.le_refl _)]
      exact ⟨rfl, HBr.out⟩
set_option maxHeartbeats 3200000 in
set_option maxRecDepth 100000 in
theorem ceil25 {w : World} {A : Option Addr} {l : List Ent} {n c : Nat} (ha : ItemsAt w A l) (hn : l.length = n) (hl : n ≤ 900) (hs : Asc l) (k : Sp) :
    Calls Try.prog 51 #[.slice A n c, .agg #[.int .i64 k.br, .int .i64 k.vol, .int .i64 k.blk, .int .u64 k.num]] w fun e w' => e = .returned (.int .i64 (ceilIx k l)) ∧ Below w.heap.size w w' := by
  have HA := Lib.hid ha
  have HN := Lib.hid hn
  have HS := Lib.hid hs
  have HL := Lib.hid hl
  clear ha hn hs
  go_enter Try.func51, Try.ntmps51
  have hbw : Below w.heap.size w (w.alloc (.cells #[.int .i64 k.br, .int .i64 k.vol, .int .i64 k.blk, .int .u64 k.num] 26)) := (Below.refl _ _).alloc (Nat.le_refl _) _
  have hbox := Blk.new w #[.int .i64 k.br, .int .i64 k.vol, .int .i64 k.blk, .int .u64 k.num] 26
  go_upto_block 0 with fail
  generalize w.alloc (.cells #[.int .i64 k.br, .int .i64 k.vol, .int .i64 k.blk, .int .u64 k.num] 26) = W at *
  have HBw := Lib.hid hbw
  go_wp2_with fail
  go_loopw [5] (fun i X => Below W.heap.size W X ∧ ∃ j : Nat, i = .int .i64 j ∧ j ≤ n ∧ ∀ y ∈ l.take j, lt y.1 k = true) (fun i _ => (n - intOf i).toNat)
  case atStart => exact ⟨Below.refl _ _, 0, rfl, Nat.zero_le _, fun y hy => by simp at hy⟩
  case round =>
    obtain ⟨hbW, j, rfl, hj, hall⟩ := hrel
    have HAll := Lib.hid hall
    have hbr := HBw.out.trans (hbW.mono HBw.out.size)
    have HBr := Lib.hid hbr
    have HBW := Lib.hid hbW
    clear hall
    by_cases hjn : j < n
    · have hja : j < l.length := by rw [HN.out]; exact hjn
      obtain ⟨ga, oa, rfl, la, ca⟩ := HA.out (by omega)
      have hgz : ga < wr.heap.size := Nat.lt_of_lt_of_le la hbr.size
      have hit := (ca j hja).below hbr la
      have HT := Lib.hid (take_lt HS.out hja)
      have HTk := Lib.hid (List.take_succ_eq_append_getElem hja)
      have HSt := Lib.hid (leE_step (k := k) HS.out hja)
      have HGe := Lib.hid (fun h0 h1 => ge_ix (k := k) HS.out hja h0 h1)
      obtain ⟨x, hx⟩ : ∃ x, l[j] = x := ⟨_, rfl⟩
      rw [hx] at hit HT HTk HSt HGe
      obtain ⟨s0, s1, s2, s3, s4⟩ := hit
      obtain ⟨k0, k1, k2, k3, zk⟩ := box_cells hbox hbW
      have e1 : (0 : Int) ≤ (j : Int) := by omega
      have e2 : (j : Int) < (n : Int) := by omega
      have HE : ∀ W, _ := fun W => sp_eq x.1 k W
      clear hx ca la hja hbr
      have z0 := cls_cell s0
      have z1 := cls_cell s1
      have z2 := cls_cell s2
      have z3 := cls_cell s3
      have y0 := cls_cell k0
      have y1 := cls_cell k1
      have y2 := cls_cell k2
      have y3 := cls_cell k3
      have := cls_ne wr
      clear s0 s1 s2 s3 s4 k0 k1 k2 k3 zk
      have h3 : (x.1 = k) ∨ (¬ x.1 = k ∧ lt k x.1 = true) ∨ (¬ x.1 = k ∧ lt k x.1 = false) := by
        by_cases h : x.1 = k
        · exact .inl h
        · cases h2 : lt k x.1
          · exact .inr (.inr ⟨h, rfl⟩)
          · exact .inr (.inl ⟨h, rfl⟩)
      have HBf : Hid (∀ X : Wd (Below wr.heap.size wr), Calls Try.prog 69 #[.agg #[.int .i64 k.br, .int .i64 k.vol, .int .i64 k.blk, .int .u64 k.num], .agg #[.int .i64 x.1.br, .int .i64 x.1.vol, .int .i64 x.1.blk, .int .u64 x.1.num]] X.w fun e w'' => e = .returned (.bool (lt k x.1)) ∧ ∃ m : Wd (Below wr.heap.size wr), w'' = m.w) := fun X => Calls.clsB (before25 k x.1 X.w) (Nat.le_refl _)
      rcases h3 with h3 | ⟨h3, h4⟩ | ⟨h3, h4⟩
      · have hle : lt x.1 k = false := by rw [h3]; exact lt_irr k
        have HLe := Lib.hid hle
        have hd : decide (x.1 = k) = true := by simp [h3]
        simp only [hd] at HE
        clear h3 hle hbW hd
        go_wp2_with fail
        refine wp_region_cls (S := Below wr.heap.size wr) (by kernel_rfl) (by kernel_rfl) (bel_drewN _ _ (n := 1)) ?_
        repeat (go_big_quiet_step (with_reducible (exact HBf.out _)))
        refine wpQuiet_nil ?_
        rintro w5 ⟨⟨_, hx5⟩, rfl⟩
        try dsimp only
        have HX5 := Lib.hid hx5
        clear z0 z1 z2 z3 y0 y1 y2 y3 this HE hx5 HBf
        go_wp2_with fail
        go_ret
        rw [HGe.out HAll.out HLe.out]
        exact ⟨rfl, HBr.out.trans (HX5.out.mono HBr.out.size)⟩
      · have hle : lt x.1 k = false := lt_asy h4
        have HLe := Lib.hid hle
        simp only [h3, decide_false] at HE
        rw [h4] at HBf
        clear h3 h4 hle hbW
        go_wp2_with fail
        refine wp_region_cls (S := Below wr.heap.size wr) (by kernel_rfl) (by kernel_rfl) (bel_drewN _ _ (n := 1)) ?_
        repeat (go_big_quiet_step (with_reducible (exact HBf.out _)))
        refine wpQuiet_nil ?_
        rintro w5 ⟨⟨_, hx5⟩, rfl⟩
        try dsimp only
        have HX5 := Lib.hid hx5
        clear z0 z1 z2 z3 y0 y1 y2 y3 this HE hx5 HBf
        go_wp2_with fail
        go_ret
        rw [HGe.out HAll.out HLe.out]
        exact ⟨rfl, HBr.out.trans (HX5.out.mono HBr.out.size)⟩
      · have hle : lt x.1 k = true := by
          rw [← Bool.not_eq_false]
          intro h5
          exact h3 (lt_tot h5 h4)
        have HLe := Lib.hid hle
        simp only [h3, decide_false] at HE
        rw [h4] at HBf
        clear h3 h4 hle hbW
        go_wp2_with fail
        refine wp_region_cls (S := Below wr.heap.size wr) (by kernel_rfl) (by kernel_rfl) (bel_drewN _ _ (n := 1)) ?_
        repeat (go_big_quiet_step (with_reducible (exact HBf.out _)))
        refine wpQuiet_nil ?_
        rintro w5 ⟨⟨_, hx5⟩, rfl⟩
        try dsimp only
        have HX5 := Lib.hid hx5
        clear z0 z1 z2 z3 y0 y1 y2 y3 this HE hx5 HBf
        go_wp2_with fail
        go_roundw
        case rel =>
          refine ⟨HBW.out.trans (HX5.out.mono HBW.out.size), j + 1, by simp, hjn, fun y hy => ?_⟩
          rw [HTk.out] at hy
          rcases List.mem_append.1 hy with hy | hy
          · exact HAll.out y hy
          · simp at hy; subst hy; exact HLe.out
        case measure => (simp [intOf] <;> omega)
    · obtain rfl : j = n := by omega
      clear hbr hbW
      have hfin : ceilIx k l = -1 := ge_none (by have := HAll.out; rwa [List.take_of_length_le (by rw [HN.out]; exact Nat.le_refl _)] at this)
      have HFin := Lib.hid hfin
      clear hfin
      go_wp2_with fail
      go_ret
      rw [HFin.out]
      exact ⟨rfl, HBr.out⟩
def SelRel (B : Nat) (lo hi : Sp) (l : List Ent) (n : Nat) (o i : Value) (X : World) : Prop := ∃ (j : Nat) (A : Option Addr) (c : Nat), i = .int .i64 j ∧ j ≤ n ∧ o = .slice A (selE lo hi (l.take j)).length c ∧ X.ownsRow B 92 5 (.slice A (selE lo hi (l.take j)).length c) (selE lo hi (l.take j)).length (its (selE lo hi (l.take j)))
set_option maxHeartbeats 3200000 in
set_option maxRecDepth 100000 in
theorem range25 {w : World} {A : Option Addr} {l : List Ent} {n c : Nat} (ha : ItemsAt w A l) (hn : l.length = n) (hl : n ≤ 900) (lo hi : Sp) :
    Calls Try.prog 52 #[.slice A n c, .agg #[.int .i64 lo.br, .int .i64 lo.vol, .int .i64 lo.blk, .int .u64 lo.num], .agg #[.int .i64 hi.br, .int .i64 hi.vol, .int .i64 hi.blk, .int .u64 hi.num]] w fun e w' => ∃ A c, e = .returned (.slice A (selE lo hi l).length c) ∧ ItemsAt w' A (selE lo hi l) ∧ (selE lo hi l).length ≤ c ∧ c ≤ maxLen ∧ (A = none → (selE lo hi l).length = 0 ∧ c = 0) ∧ Below w.heap.size w w' := by
  have HA := Lib.hid ha
  have HN := Lib.hid hn
  have HL := Lib.hid hl
  clear ha hn
  go_enter Try.func52, Try.ntmps52
  go_upto_block 0 with fail
  obtain ⟨W, hW⟩ : ∃ X, (w.alloc (.cells #[.int .i64 lo.br, .int .i64 lo.vol, .int .i64 lo.blk, .int .u64 lo.num] 26)).alloc (.cells #[.int .i64 hi.br, .int .i64 hi.vol, .int .i64 hi.blk, .int .u64 hi.num] 26) = X := ⟨_, rfl⟩
  have hbw : Below w.heap.size w W := by rw [← hW]; exact ((Below.refl _ _).alloc (Nat.le_refl _) _).alloc (by simp) _
  have hbox : Blk W w.heap.size #[.int .i64 lo.br, .int .i64 lo.vol, .int .i64 lo.blk, .int .u64 lo.num] 26 := by rw [← hW]; exact (Blk.new w _ _).alloc _
  have hbox2 : Blk W (w.heap.size + 1) #[.int .i64 hi.br, .int .i64 hi.vol, .int .i64 hi.blk, .int .u64 hi.num] 26 := by rw [← hW]; have := Blk.new (w.alloc (.cells #[.int .i64 lo.br, .int .i64 lo.vol, .int .i64 lo.blk, .int .u64 lo.num] 26)) #[.int .i64 hi.br, .int .i64 hi.vol, .int .i64 hi.blk, .int .u64 hi.num] 26; rwa [World.size_alloc] at this
  rw [hW]
  clear hW
  have HBw := Lib.hid hbw
  have hzw : w.heap.size < W.heap.size := hbox.lt
  go_wp2_with fail
  go_loopw [7, 8] (fun o i X => Below W.heap.size W X ∧ SelRel W.heap.size lo hi l n o i X) (fun _ i _ => (n - intOf i).toNat)
  case atStart => exact ⟨Below.refl _ _, 0, none, 0, rfl, Nat.zero_le _, by simp [selE], by simpa [selE, its] using World.ownsRow_nil W W.heap.size 92 5⟩
  case round =>
    obtain ⟨hbW, j, Ao, co, rfl, hj, rfl, hown⟩ := hrel
    have hbr := HBw.out.trans (hbW.mono HBw.out.size)
    have HBr := Lib.hid hbr
    have HBW := Lib.hid hbW
    have HO := Lib.hid hown
    have hNl : (selE lo hi (l.take j)).length ≤ j := by
      have h1 : (selE lo hi (l.take j)).length ≤ (l.take j).length := List.length_filter_le _ _
      rw [List.length_take] at h1
      omega
    obtain ⟨K, hK⟩ : ∃ K, (selE lo hi (l.take j)).length = K := ⟨_, rfl⟩
    have HK := Lib.hid hK
    rw [hK] at hNl ⊢
    clear hown hK
    by_cases hjn : j < n
    · have hja : j < l.length := by rw [HN.out]; exact hjn
      obtain ⟨ga, oa, rfl, la, ca⟩ := HA.out (by omega)
      have hgz : ga < wr.heap.size := Nat.lt_of_lt_of_le la hbr.size
      have hit := (ca j hja).below hbr la
      have HTk := Lib.hid (List.take_succ_eq_append_getElem hja)
      obtain ⟨x, hx⟩ : ∃ x, l[j] = x := ⟨_, rfl⟩
      rw [hx] at hit HTk
      have HS0 := Lib.hid hit
      have HGz := Lib.hid hgz
      obtain ⟨s0, s1, s2, s3, s4⟩ := hit
      obtain ⟨k0, k1, k2, k3, zk⟩ := box_cells hbox hbW
      obtain ⟨m0, m1, m2, m3, zm⟩ := box_cells hbox2 hbW
      have e1 : (0 : Int) ≤ (j : Int) := by omega
      have e2 : (j : Int) < (n : Int) := by omega
      clear hx ca la hja hbr hgz
      have z0 := cls_cell s0
      have z1 := cls_cell s1
      have z2 := cls_cell s2
      have z3 := cls_cell s3
      have y0 := cls_cell k0
      have y1 := cls_cell k1
      have y2 := cls_cell k2
      have y3 := cls_cell k3
      have v0 := cls_cell m0
      have v1 := cls_cell m1
      have v2 := cls_cell m2
      have v3 := cls_cell m3
      have := cls_ne wr
      clear s0 s1 s2 s3 s4 k0 k1 k2 k3 zk m0 m1 m2 m3 zm
      have HBf : Hid (∀ X : Wd (Below wr.heap.size wr), Calls Try.prog 69 #[.agg #[.int .i64 x.1.br, .int .i64 x.1.vol, .int .i64 x.1.blk, .int .u64 x.1.num], .agg #[.int .i64 lo.br, .int .i64 lo.vol, .int .i64 lo.blk, .int .u64 lo.num]] X.w fun e w'' => e = .returned (.bool (lt x.1 lo)) ∧ ∃ m : Wd (Below wr.heap.size wr), w'' = m.w) := fun X => Calls.clsB (before25 x.1 lo X.w) (Nat.le_refl _)
      have HBg : Hid (∀ X : Wd (Below wr.heap.size wr), Calls Try.prog 69 #[.agg #[.int .i64 hi.br, .int .i64 hi.vol, .int .i64 hi.blk, .int .u64 hi.num], .agg #[.int .i64 x.1.br, .int .i64 x.1.vol, .int .i64 x.1.blk, .int .u64 x.1.num]] X.w fun e w'' => e = .returned (.bool (lt hi x.1)) ∧ ∃ m : Wd (Below wr.heap.size wr), w'' = m.w) := fun X => Calls.clsB (before25 hi x.1 X.w) (Nat.le_refl _)
      cases h1 : lt x.1 lo with
      | true =>
        have HB1 : Hid ((!lt x.1 lo && !lt hi x.1) = false) := by rw [h1]; exact rfl
        rw [h1] at HBf
        clear h1 hbW
        go_wp2_with fail
        refine wp_region_cls (S := Below wr.heap.size wr) (by kernel_rfl) (by kernel_rfl) (bel_drewN _ _ (n := 1)) ?_
        repeat (go_big_quiet_step (with_reducible (first | exact HBf.out _ | exact HBg.out _)))
        refine wpQuiet_nil ?_
        rintro w5 ⟨⟨_, hx5⟩, rfl⟩
        try dsimp only
        have HX5 := Lib.hid hx5
        clear z0 z1 z2 z3 y0 y1 y2 y3 v0 v1 v2 v3 this hx5 HBf HBg
        go_wp2_with fail
        go_roundw
        case rel =>
          have hja : j < l.length := by rw [HN.out]; exact hjn
          have hnk : selE lo hi (l.take (j + 1)) = selE lo hi (l.take j) := by
            rw [HTk.out, selE_app]
            simp [selE, HB1.out]
          refine ⟨HBW.out.trans (HX5.out.mono HBW.out.size), j + 1, Ao, co, by simp, hjn, by rw [hnk, HK.out], ?_⟩
          rw [hnk]
          exact own_stay HO.out (fun q hq => HX5.out.block q (own_lt HO.out q hq))
        case measure => (simp [intOf] <;> omega)
      | false =>
        rw [h1] at HBf
        cases h2 : lt hi x.1 with
        | true =>
          have HB1 : Hid ((!lt x.1 lo && !lt hi x.1) = false) := by rw [h1, h2]; exact rfl
          rw [h2] at HBg
          clear h1 h2 hbW
          go_wp2_with fail
          refine wp_region_cls (S := Below wr.heap.size wr) (by kernel_rfl) (by kernel_rfl) (bel_drewN _ _ (n := 1)) ?_
          repeat (go_big_quiet_step (with_reducible (first | exact HBf.out _ | exact HBg.out _)))
          refine wpQuiet_nil ?_
          rintro w5 ⟨⟨_, hx5⟩, rfl⟩
          try dsimp only
          have HX5 := Lib.hid hx5
          clear z0 z1 z2 z3 y0 y1 y2 y3 v0 v1 v2 v3 this hx5 HBf HBg
          go_wp2_with fail
          go_roundw
          case rel =>
            have hja : j < l.length := by rw [HN.out]; exact hjn
            have hnk : selE lo hi (l.take (j + 1)) = selE lo hi (l.take j) := by
              rw [HTk.out, selE_app]
              simp [selE, HB1.out]
            refine ⟨HBW.out.trans (HX5.out.mono HBW.out.size), j + 1, Ao, co, by simp, hjn, by rw [hnk, HK.out], ?_⟩
            rw [hnk]
            exact own_stay HO.out (fun q hq => HX5.out.block q (own_lt HO.out q hq))
          case measure => (simp [intOf] <;> omega)
        | false =>
          have HB1 : Hid ((!lt x.1 lo && !lt hi x.1) = true) := by rw [h1, h2]; exact rfl
          rw [h2] at HBg
          clear h1 h2 hbW
          go_wp2_with fail
          refine wp_region_cls (S := Below wr.heap.size wr) (by kernel_rfl) (by kernel_rfl) (bel_drewN _ _ (n := 1)) ?_
          repeat (go_big_quiet_step (with_reducible (first | exact HBf.out _ | exact HBg.out _)))
          refine wpQuiet_nil ?_
          rintro w5 ⟨⟨_, hx5⟩, rfl⟩
          try dsimp only
          have HX5 := Lib.hid hx5
          clear z0 z1 z2 z3 y0 y1 y2 y3 v0 v1 v2 v3 this hx5 HBf HBg
          have hO5 : w5.ownsRow W.heap.size 92 5 (.slice Ao K co) K (its (selE lo hi (l.take j))) := by rw [← HK.out]; exact own_stay HO.out (fun q hq => HX5.out.block q (own_lt HO.out q hq))
          have hb5 := HBW.out.trans (HX5.out.mono HBW.out.size)
          obtain ⟨A', c', w', hr', ho', hb'⟩ := app_I1 W.heap.size (.slice Ao K co) K _ hO5 hb5.size (by omega) x 67
          obtain ⟨s0, s1, s2, s3, s4⟩ := HS0.out.below HX5.out HGz.out
          have HRun := Lib.hid hr'
          have HOx := Lib.hid ho'
          have HBx := Lib.hid (hb5.trans hb')
          clear hr' ho' hb' hb5 hO5
          go_wp2_with (at_builtin; refine Lib.wpList_append_run _ rfl _ _ _ _ rfl _ _ rfl rfl _ _ HRun.out ?_)
          go_roundw
          case rel =>
            have hnk : selE lo hi (l.take (j + 1)) = selE lo hi (l.take j) ++ [x] := by
              rw [HTk.out, selE_app]
              congr 1
              unfold selE
              rw [List.filter_cons, HB1.out]
              rfl
            have hnl : (selE lo hi (l.take (j + 1))).length = K + 1 := by rw [hnk, List.length_append, HK.out]; rfl
            refine ⟨HBx.out, j + 1, A', c', by simp, hjn, by rw [hnl], ?_⟩
            rw [hnl, hnk]
            exact HOx.out
          case measure => (simp [intOf] <;> omega)
    · obtain rfl : j = n := by omega
      have HD : Hid (selE lo hi (l.take j) = selE lo hi l) := by
        rw [List.take_of_length_le (by rw [HN.out]; exact Nat.le_refl _)]
        exact rfl
      clear hbr hbW
      go_wp2_with fail
      go_ret
      obtain ⟨A', c', e, hc1, hc2, hit, hno⟩ := its_own HO.out rfl
      cases e
      refine ⟨Ao, co, ?_, by rw [← HD.out]; exact hit, by rw [← HD.out]; exact hc1, hc2, by rw [← HD.out]; exact hno, HBr.out⟩
      rw [← HD.out, HK.out]
      rfl
end Go.Proofs.Ytainljbkejafcaa.N
