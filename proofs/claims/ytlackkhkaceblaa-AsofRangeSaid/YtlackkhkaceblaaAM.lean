/- AM: joined by merge.py. -/
import Derived.Test.YtlackkhkaceblaaTKeep
import Derived.Test.YtlackkhkaceblaaTN
import Derived.Test.YtlackkhkaceblaaTT
import Derived.Test.YtlackkhkaceblaaTGet
import Derived.Test.YtlackkhkaceblaaNEq
import Derived.Test.YtlackkhkaceblaaNHeld
import Derived.Test.YtlackkhkaceblaaAP
import Derived.Test.YtlackkhkaceblaaNList
import Derived.Test.YtlackkhkaceblaaNCls
import Derived.Test.YtlackkhkaceblaaNCat
import Derived.Test.YtlackkhkaceblaaNOpen
import Derived.ChangeArms
/- An index in memory; what it tells of its tree. -/
namespace Go.Proofs.Ytlackkhkaceblaa.N
open Go.BigFrame Go.RowKit Go.Shelf Go.Proofs.YtlackkhkaceblaaW.PrintMore Go.Proofs.YtlackkhkaceblaaW.PrintWords
set_option linter.unusedVariables false
set_option linter.unusedSimpArgs false
/-- An index that has these writes. -/
def IdxAt (W : World) (b : Nat) (ls : List Sp) : Prop := AscS ls ∧ ∃ t, Blk W b #[.pointer t] 61 ∧ TreeAt W t (entsOf ls)
theorem IdxAt.below {w w' : World} {b : Nat} {ls : List Sp} (h : IdxAt w b ls) (hb : Below w.heap.size w w') : IdxAt w' b ls := by
  obtain ⟨ha, t, h1, h2⟩ := h
  exact ⟨ha, t, h1.below hb h1.lt, h2.below hb⟩
theorem IdxAt.lt {w : World} {b : Nat} {ls : List Sp} (h : IdxAt w b ls) : b < w.heap.size := by
  obtain ⟨ha, t, h1, h2⟩ := h
  exact h1.lt
/-- The index's block holds no part of a tree. -/
theorem IdxAt.pb {w : World} {b : Nat} {ls : List Sp} (h : IdxAt w b ls) : ∀ L, some b = some L → PB w L := fun L e => by
  obtain ⟨ha, t, h1, h2⟩ := h
  injection e with e
  subst e
  refine ⟨_, _, _, h1, by decide, by decide, fun v hv => ?_⟩
  obtain rfl : v = .pointer t := by simpa using hv
  exact h2.notN
def keyP (o : Option Ent) : Sp := match o with
  | some x => x.1
  | none => ⟨0, 0, 0, 0⟩
def numP (o : Option Ent) : Int := match o with
  | some x => x.2
  | none => 0
def numS (o : Option Sp) : Int := match o with
  | some x => x.num
  | none => 0
theorem entV_eqP (o : Option Ent) : entV o = .tuple #[.agg #[.int .i64 (keyP o).br, .int .i64 (keyP o).vol, .int .i64 (keyP o).blk, .int .u64 (keyP o).num], .int .u64 (numP o), .bool o.isSome] := by
  cases o <;> rfl
theorem floor_n {X : World} {p : Option Addr} {l : List Ent} (ht : TreeAt X p l) (ha : Asc l) (k : Sp) : ∀ Y, Below X.heap.size X Y → Calls Try.prog 25 #[.pointer p, .agg #[.int .i64 k.br, .int .i64 k.vol, .int .i64 k.blk, .int .u64 k.num]] Y fun e w' => e = .returned (.tuple #[.agg #[.int .i64 (keyP (floorE k l)).br, .int .i64 (keyP (floorE k l)).vol, .int .i64 (keyP (floorE k l)).blk, .int .u64 (keyP (floorE k l)).num], .int .u64 (numP (floorE k l)), .bool (floorE k l).isSome]) ∧ Below Y.heap.size Y w' := fun Y hY => by
  rw [← entV_eqP]
  exact floor_tree (ht.below hY) ha k
theorem ceil_n {X : World} {p : Option Addr} {l : List Ent} (ht : TreeAt X p l) (ha : Asc l) (k : Sp) : ∀ Y, Below X.heap.size X Y → Calls Try.prog 33 #[.pointer p, .agg #[.int .i64 k.br, .int .i64 k.vol, .int .i64 k.blk, .int .u64 k.num]] Y fun e w' => e = .returned (.tuple #[.agg #[.int .i64 (keyP (ceilE k l)).br, .int .i64 (keyP (ceilE k l)).vol, .int .i64 (keyP (ceilE k l)).blk, .int .u64 (keyP (ceilE k l)).num], .int .u64 (numP (ceilE k l)), .bool (ceilE k l).isSome]) ∧ Below Y.heap.size Y w' := fun Y hY => by
  rw [← entV_eqP]
  exact ceil_tree (ht.below hY) ha k
theorem store4 {Z : World} {b : Nat} {c0 c1 c2 c3 : Value} (s : Sp) (h : Blk Z b #[c0, c1, c2, c3] 46) :
    Blk ((((Z.setCell ⟨b, 0, none⟩ (.int .i64 s.br)).setCell ⟨b, 1, none⟩ (.int .i64 s.vol)).setCell ⟨b, 2, none⟩ (.int .i64 s.blk)).setCell ⟨b, 3, none⟩ (.int .u64 s.num)) b #[.int .i64 s.br, .int .i64 s.vol, .int .i64 s.blk, .int .u64 s.num] 46 := by
  have := (((h.set (o := 0) (.int .i64 s.br)).set (o := 1) (.int .i64 s.vol)).set (o := 2) (.int .i64 s.blk)).set (o := 3) (.int .u64 s.num)
  simpa using this
theorem store4_below {B : Nat} {W Z : World} {b : Nat} (s : Sp) (h : Below B W Z) (hb : B ≤ b) :
    Below B W ((((Z.setCell ⟨b, 0, none⟩ (.int .i64 s.br)).setCell ⟨b, 1, none⟩ (.int .i64 s.vol)).setCell ⟨b, 2, none⟩ (.int .i64 s.blk)).setCell ⟨b, 3, none⟩ (.int .u64 s.num)) :=
  (((h.setCell (p := ⟨b, 0, none⟩) hb _).setCell (p := ⟨b, 1, none⟩) hb _).setCell (p := ⟨b, 2, none⟩) hb _).setCell (p := ⟨b, 3, none⟩) hb _
set_option maxRecDepth 100000 in
theorem plc_ne (x k : Sp) (W : World) : (binOp .neq 24 (.agg #[.int .i64 x.br, .int .i64 x.vol, .int .i64 x.blk]) (.agg #[.int .i64 k.br, .int .i64 k.vol, .int .i64 k.blk])).run Try.prog W = .ok (.bool (!decide (plEq x k))) W := by
  have h2 := pl_eq x.br x.vol x.blk k.br k.vol k.blk (Op.maxDepth - 2) W
  rw [show Op.maxDepth - 2 + 2 = Op.maxDepth from by decide] at h2
  have e : ((x.br == k.br) && ((x.vol == k.vol) && (x.blk == k.blk))) = decide (plEq x k) := by
    rw [Bool.eq_iff_iff, decide_eq_true_iff]
    simp [plEq]
  rw [e] at h2
  show ((Op.equal 24 _ _) >>= fun r => pure (Value.bool !r)).run Try.prog W = _
  simp only [Op.equal, Sem.run_bind, h2, Result.andThen_ok, Sem.run_pure]
set_option maxRecDepth 100000 in
theorem plc_eq (x k : Sp) (W : World) : (binOp .eql 24 (.agg #[.int .i64 x.br, .int .i64 x.vol, .int .i64 x.blk]) (.agg #[.int .i64 k.br, .int .i64 k.vol, .int .i64 k.blk])).run Try.prog W = .ok (.bool (decide (plEq x k))) W := by
  have h2 := pl_eq x.br x.vol x.blk k.br k.vol k.blk (Op.maxDepth - 2) W
  rw [show Op.maxDepth - 2 + 2 = Op.maxDepth from by decide] at h2
  have e : ((x.br == k.br) && ((x.vol == k.vol) && (x.blk == k.blk))) = decide (plEq x k) := by
    rw [Bool.eq_iff_iff, decide_eq_true_iff]
    simp [plEq]
  rw [e] at h2
  show ((Op.equal 24 _ _) >>= fun r => pure (Value.bool r)).run Try.prog W = _
  simp only [Op.equal, Sem.run_bind, h2, Result.andThen_ok, Sem.run_pure]
theorem new_idx (w : World) : Calls Try.prog 12 #[] w fun e w' => ∃ b, e = .returned (.pointer (some ⟨b, 0, none⟩)) ∧ IdxAt w' b [] ∧ w.heap.size ≤ b ∧ Below w.heap.size w w' := by
  go_enter Try.func12, Try.ntmps12
  go_wp2_with fail
  refine (new_tree w).mono ?_
  rintro e w1 ⟨b, rfl, ht, hb⟩
  go_wp2_with fail
  go_ret
  exact ⟨_, rfl, ⟨List.Pairwise.nil, _, Blk.new w1 _ _, ht.below ((Below.refl _ _).alloc (Nat.le_refl _) _)⟩, hb.size, hb.alloc hb.size _⟩
theorem tree_idx {w : World} {b : Nat} {ls : List Sp} (h : IdxAt w b ls) : ∀ X, Below w.heap.size w X → Calls Try.prog 19 #[.pointer (some ⟨b, 0, none⟩)] X fun e w' => ∃ q, e = .returned (.pointer q) ∧ TreeAt w' q (entsOf ls) ∧ Below X.heap.size X w' := by
  intro X hX
  obtain ⟨ha, t, h1, h2⟩ := h.below hX
  have c0 := h1.cell 0
  have hT := Lib.hid h2
  clear h2
  cases t with
  | none =>
    have he : entsOf ls = [] := by
      rcases hT.out with ⟨_, e⟩ | ⟨_, _, e, _⟩
      · exact e
      · cases e
    go_enter Try.func19, Try.ntmps19
    go_wp2_with fail
    refine (new_tree X).mono ?_
    rintro e w1 ⟨q, rfl, ht, hb⟩
    go_wp2_with fail
    go_ret
    exact ⟨_, rfl, by rw [he]; exact ht, hb⟩
  | some a =>
    go_enter Try.func19, Try.ntmps19
    go_wp2_with fail
    go_ret
    exact ⟨_, rfl, hT.out, Below.refl _ _⟩
theorem len_idx {w : World} {b : Nat} {ls : List Sp} (h : IdxAt w b ls) : ∀ X, Below w.heap.size w X → Calls Try.prog 16 #[.pointer (some ⟨b, 0, none⟩)] X fun e w' => e = .returned (.int .i64 ls.length) ∧ Below X.heap.size X w' := by
  intro X hX
  have HT := Lib.hid (tree_idx h X hX)
  go_enter Try.func16, Try.ntmps16
  go_wp2_with fail
  refine HT.out.mono ?_
  rintro e w1 ⟨q, rfl, ht, hb⟩
  have HL := Lib.hid (len_tree ht w1 (Below.refl _ _))
  rw [ents_len] at HL
  go_wp2_with fail
  refine HL.out.mono ?_
  rintro e w2 ⟨rfl, rfl⟩
  go_wp2_with fail
  go_ret
  exact ⟨rfl, hb⟩
end Go.Proofs.Ytlackkhkaceblaa.N

/- At and Next. -/
namespace Go.Proofs.Ytlackkhkaceblaa.N
open Go.BigFrame Go.RowKit Go.Shelf Go.Proofs.YtlackkhkaceblaaW.PrintMore Go.Proofs.YtlackkhkaceblaaW.PrintWords
set_option linter.unusedVariables false
set_option linter.unusedSimpArgs false
theorem placed_none (p : Sp) : placed p none = none := rfl
theorem placed_some (p : Sp) (x : Ent) : placed p (some x) = if plEq x.1 p then some x.1 else none := rfl
set_option maxHeartbeats 3200000 in
set_option maxRecDepth 100000 in
theorem at_idx {w : World} {b : Nat} {ls : List Sp} (h : IdxAt w b ls) (p : Sp) (m : Int) : Calls Try.prog 14 #[.pointer (some ⟨b, 0, none⟩), .agg #[.int .i64 p.br, .int .i64 p.vol, .int .i64 p.blk], .int .u64 m] w fun e w' => e = .returned (.tuple #[.int .u64 (numS (atS ls p m)), .bool (atS ls p m).isSome]) ∧ Below w.heap.size w w' := by
  obtain ⟨ha, t, h1, h2⟩ := h
  obtain ⟨of, hof⟩ : ∃ of, floorE (p.at m) (entsOf ls) = of := ⟨_, rfl⟩
  have hsp : atS ls p m = placed p of := by rw [← hof]; rfl
  rw [hsp]
  have HOf := Lib.hid hof
  clear hof hsp
  have HA := Lib.hid ha
  have H1 := Lib.hid h1
  have H2 := Lib.hid h2
  have lb := h1.lt
  clear h1 h2 ha
  go_enter Try.func14, Try.ntmps14
  go_upto_region 3 with fail
  obtain ⟨W, hW⟩ : ∃ X, w.alloc (.cells #[.int .i64 p.br, .int .i64 p.vol, .int .i64 p.blk] 24) = X := ⟨_, rfl⟩
  have hbw : Below w.heap.size w W := by rw [← hW]; exact (Below.refl _ _).alloc (Nat.le_refl _) _
  have hbox : Blk W w.heap.size #[.int .i64 p.br, .int .i64 p.vol, .int .i64 p.blk] 24 := by rw [← hW]; exact Blk.new w _ _
  rw [hW]
  clear hW
  have HBox := Lib.hid hbox
  have HB := Lib.hid hbw
  have HT := Lib.hid (H2.out.below hbw)
  have q0 : W.cell? ⟨b, 0, none⟩ = some (.pointer t) := (H1.out.below hbw lb).cell 0
  have q1 : W.cell? ⟨w.heap.size, 0, none⟩ = some (.int .i64 p.br) := hbox.cell 0
  have q2 : W.cell? ⟨w.heap.size, 1, none⟩ = some (.int .i64 p.vol) := hbox.cell 1
  have q3 : W.cell? ⟨w.heap.size, 2, none⟩ = some (.int .i64 p.blk) := hbox.cell 2
  have lw : w.heap.size < W.heap.size := hbox.lt
  have lb2 : b < W.heap.size := Nat.lt_of_lt_of_le lb hbw.size
  have held : ∀ X, Below W.heap.size W X → (fun w' => w'.cell? ⟨b, 0, none⟩ = some (.pointer t) ∧ w'.cell? ⟨w.heap.size, 0, none⟩ = some (.int .i64 p.br) ∧ w'.cell? ⟨w.heap.size, 1, none⟩ = some (.int .i64 p.vol) ∧ w'.cell? ⟨w.heap.size, 2, none⟩ = some (.int .i64 p.blk)) X := fun X hX => ⟨bel_cell hX lb2 q0, bel_cell hX lw q1, bel_cell hX lw q2, bel_cell hX lw q3⟩
  have HF := Lib.hid (floor_n HT.out (ents_asc HA.out) (p.at m))
  rw [HOf.out] at HF
  unfold Sp.at at HF
  clear HOf H1 H2 hbw hbox q0 q1 q2 q3 lw lb lb2
  go_cut [8, 9, 10] (fun a b q X => ∃ pb, a = .pointer (some ⟨pb, 0, none⟩) ∧ b = .int .u64 (numP of) ∧ q = .bool of.isSome ∧ Blk X pb #[.int .i64 (keyP of).br, .int .i64 (keyP of).vol, .int .i64 (keyP of).blk, .int .u64 (keyP of).num] 46 ∧ Below W.heap.size W X)
  case first =>
    refine E_start 15 (fun w' => w'.cell? ⟨b, 0, none⟩ = some (.pointer t) ∧ w'.cell? ⟨w.heap.size, 0, none⟩ = some (.int .i64 p.br) ∧ w'.cell? ⟨w.heap.size, 1, none⟩ = some (.int .i64 p.vol) ∧ w'.cell? ⟨w.heap.size, 2, none⟩ = some (.int .i64 p.blk)) (by kernel_rfl) ?_
    have hd0 : Below W.heap.size W W.drew := bel_drewN _ _ (n := 1)
    generalize World.drew W = Z0 at *
    refine E_take (i := 0) (v := ?_) [0] rfl (by kernel_rfl) (by kernel_rfl) (by kernel_rfl) (by kernel_rfl) (by kernel_rfl) rfl (fun _ _ _ h => h) (Or.inl ⟨by rfl, ?_⟩) (held _ hd0) ?_
    rotate_left
    · (intro w' hSw; (try dsimp only at hSw); go_simp <;> (with_reducible rfl))
    try simp only [Act.put, List.setIfInBounds_toArray, List.set_cons_zero, List.set_cons_succ]
    refine E_take (i := 1) (v := ?_) [1] rfl (by kernel_rfl) (by kernel_rfl) (by kernel_rfl) (by kernel_rfl) (by kernel_rfl) rfl (fun _ _ _ h => h) (Or.inl ⟨by rfl, ?_⟩) (held _ hd0) ?_
    rotate_left
    · (intro w' hSw; (try dsimp only at hSw); go_simp <;> (with_reducible rfl))
    try simp only [Act.put, List.setIfInBounds_toArray, List.set_cons_zero, List.set_cons_succ]
    refine E_take (i := 2) (v := ?_) [2] rfl (by kernel_rfl) (by kernel_rfl) (by kernel_rfl) (by kernel_rfl) (by kernel_rfl) rfl (fun _ _ _ h => h) (Or.inl ⟨by rfl, ?_⟩) (held _ hd0) ?_
    rotate_left
    · (intro w' hSw; (try dsimp only at hSw); go_simp <;> (with_reducible rfl))
    try simp only [Act.put, List.setIfInBounds_toArray, List.set_cons_zero, List.set_cons_succ]
    refine E_take (i := 3) (v := ?_) [3] rfl (by kernel_rfl) (by kernel_rfl) (by kernel_rfl) (by kernel_rfl) (by kernel_rfl) rfl (fun _ _ _ h => h) (Or.inl ⟨by rfl, ?_⟩) (held _ hd0) ?_
    rotate_left
    · (intro w' hSw; (try dsimp only at hSw); go_simp <;> (with_reducible rfl))
    try simp only [Act.put, List.setIfInBounds_toArray, List.set_cons_zero, List.set_cons_succ]
    refine E_take (i := 4) (v := ?_) [4] rfl (by kernel_rfl) (by kernel_rfl) (by kernel_rfl) (by kernel_rfl) (by kernel_rfl) rfl (fun _ _ _ h => h) (Or.inl ⟨by rfl, ?_⟩) (held _ hd0) ?_
    rotate_left
    · (intro w' hSw; (try dsimp only at hSw); go_simp <;> (with_reducible rfl))
    try simp only [Act.put, List.setIfInBounds_toArray, List.set_cons_zero, List.set_cons_succ]
    refine E_take (i := 5) (v := ?_) [5] rfl (by kernel_rfl) (by kernel_rfl) (by kernel_rfl) (by kernel_rfl) (by kernel_rfl) rfl (fun _ _ _ h => h) (Or.inl ⟨by rfl, ?_⟩) (held _ hd0) ?_
    rotate_left
    · (intro w' hSw; (try dsimp only at hSw); go_simp <;> (with_reducible rfl))
    try simp only [Act.put, List.setIfInBounds_toArray, List.set_cons_zero, List.set_cons_succ]
    refine E_take (i := 6) (v := ?_) [6] rfl (by kernel_rfl) (by kernel_rfl) (by kernel_rfl) (by kernel_rfl) (by kernel_rfl) rfl (fun _ _ _ h => h) (Or.inl ⟨by rfl, ?_⟩) (held _ hd0) ?_
    rotate_left
    · (intro w' hSw; (try dsimp only at hSw); go_simp <;> (with_reducible rfl))
    try simp only [Act.put, List.setIfInBounds_toArray, List.set_cons_zero, List.set_cons_succ]
    refine E_two (i := 7) (j := 12) rfl rfl (by kernel_rfl) (by rfl) (by rfl) (fun K hK => ?_) (fun K hK => ?_)
    · go_simp
      refine (HF.out Z0 hd0).mono ?_
      rintro e Z1 ⟨rfl, hc1⟩
      have hZ1 := hd0.trans (hc1.mono hd0.size)
      clear hc1 hd0
      go_simp
      refine hK.out _ _ (fun _ => held _ hZ1) ?_
      clear hK K
      try simp only [Act.put, List.setIfInBounds_toArray, List.set_cons_zero, List.set_cons_succ]
      refine E_take (i := 8) (v := ?_) [8] rfl (by kernel_rfl) (by kernel_rfl) (by kernel_rfl) (by kernel_rfl) (by kernel_rfl) rfl (fun _ _ _ h => h) (Or.inl ⟨by rfl, ?_⟩) (held _ hZ1) ?_
      rotate_left
      · (intro w' hSw; (try dsimp only at hSw); go_simp <;> (with_reducible rfl))
      try simp only [Act.put, List.setIfInBounds_toArray, List.set_cons_zero, List.set_cons_succ]
      refine E_take (i := 9) (v := ?_) [9] rfl (by kernel_rfl) (by kernel_rfl) (by kernel_rfl) (by kernel_rfl) (by kernel_rfl) rfl (fun _ _ _ h => h) (Or.inl ⟨by rfl, ?_⟩) (held _ hZ1) ?_
      rotate_left
      · (intro w' hSw; (try dsimp only at hSw); go_simp <;> (with_reducible rfl))
      try simp only [Act.put, List.setIfInBounds_toArray, List.set_cons_zero, List.set_cons_succ]
      refine E_take (i := 10) (v := ?_) [10] rfl (by kernel_rfl) (by kernel_rfl) (by kernel_rfl) (by kernel_rfl) (by kernel_rfl) rfl (fun _ _ _ h => h) (Or.inl ⟨by rfl, ?_⟩) (held _ hZ1) ?_
      rotate_left
      · (intro w' hSw; (try dsimp only at hSw); go_simp <;> (with_reducible rfl))
      try simp only [Act.put, List.setIfInBounds_toArray, List.set_cons_zero, List.set_cons_succ]
      refine E_take (i := 11) (v := ?_) [11] rfl (by kernel_rfl) (by kernel_rfl) (by kernel_rfl) (by kernel_rfl) (by kernel_rfl) rfl (fun _ _ _ h => h) (Or.inl ⟨by rfl, ?_⟩) (held _ hZ1) ?_
      rotate_left
      · (intro w' hSw; (try dsimp only at hSw); go_simp <;> (with_reducible rfl))
      try simp only [Act.put, List.setIfInBounds_toArray, List.set_cons_zero, List.set_cons_succ]
      refine E_one (i := 12) rfl (by kernel_rfl) (by rfl) (fun K hK => ?_)
      go_simp
      have hZ2 := hZ1.alloc hZ1.size (.cells #[.int .i64 0, .int .i64 0, .int .i64 0, .int .u64 0] 46)
      have bl2 := Blk.new Z1 #[.int .i64 0, .int .i64 0, .int .i64 0, .int .u64 0] 46
      have hge2 := hZ1.size
      clear hZ1
      generalize World.alloc Z1 (.cells #[.int .i64 0, .int .i64 0, .int .i64 0, .int .u64 0] 46) = Z2 at *
      generalize Z1.heap.size = pb2 at *
      refine hK.out _ _ (fun _ => held _ hZ2) ?_
      clear hK K
      try simp only [Act.put, List.setIfInBounds_toArray, List.set_cons_zero, List.set_cons_succ]
      refine E_one (i := 13) rfl (by kernel_rfl) (by rfl) (fun K hK => ?_)
      have y0 := bl2.cell 0
      have y1 := bl2.cell 1
      have y2 := bl2.cell 2
      have y3 := bl2.cell 3
      have f0 := bl2.frozen 0
      have f1 := bl2.frozen 1
      have f2 := bl2.frozen 2
      have f3 := bl2.frozen 3
      have bs3 := store4 (keyP of) bl2
      have hZ3 := store4_below (keyP of) hZ2 hge2
      go_simp
      clear hZ2 bl2 y0 y1 y2 y3 f0 f1 f2 f3
      generalize ((((Z2.setCell ⟨pb2, 0, none⟩ (.int .i64 (keyP of).br)).setCell ⟨pb2, 1, none⟩ (.int .i64 (keyP of).vol)).setCell ⟨pb2, 2, none⟩ (.int .i64 (keyP of).blk)).setCell ⟨pb2, 3, none⟩ (.int .u64 (keyP of).num)) = Z3 at *
      refine hK.out _ _ (fun _ => held _ hZ3) ?_
      clear hK K
      try simp only [Act.put, List.setIfInBounds_toArray, List.set_cons_zero, List.set_cons_succ]
      refine E_take (i := 14) (v := ?_) [14] rfl (by kernel_rfl) (by kernel_rfl) (by kernel_rfl) (by kernel_rfl) (by kernel_rfl) rfl (fun _ _ _ h => h) (Or.inl ⟨by rfl, ?_⟩) (held _ hZ3) ?_
      rotate_left
      · (intro w' hSw; (try dsimp only at hSw); go_simp <;> (with_reducible rfl))
      try simp only [Act.put, List.setIfInBounds_toArray, List.set_cons_zero, List.set_cons_succ]
      refine E_one (i := 15) rfl (by kernel_rfl) (by rfl) (fun K hK => ?_)
      go_simp
      refine hK.out _ _ (fun h => absurd rfl h) ?_
      clear hK K
      try simp only [Act.put, List.setIfInBounds_toArray, List.set_cons_zero, List.set_cons_succ]
      refine E_done (by kernel_rfl) ?_ _
      go_wp2_with fail
      go_meet
      exact ⟨pb2, rfl, rfl, rfl, bs3, hZ3⟩
    · go_simp
      have hZ5 := hd0.alloc hd0.size (.cells #[.int .i64 0, .int .i64 0, .int .i64 0, .int .u64 0] 46)
      have bl5 := Blk.new Z0 #[.int .i64 0, .int .i64 0, .int .i64 0, .int .u64 0] 46
      have hge5 := hd0.size
      clear hd0
      generalize World.alloc Z0 (.cells #[.int .i64 0, .int .i64 0, .int .i64 0, .int .u64 0] 46) = Z5 at *
      generalize Z0.heap.size = pb5 at *
      refine hK.out _ _ (fun _ => held _ hZ5) ?_
      clear hK K
      try simp only [Act.put, List.setIfInBounds_toArray, List.set_cons_zero, List.set_cons_succ]
      refine E_one (i := 7) rfl (by kernel_rfl) (by rfl) (fun K hK => ?_)
      go_simp
      refine (HF.out Z5 hZ5).mono ?_
      rintro e Z6 ⟨rfl, hc6⟩
      have hZ6 := hZ5.trans (hc6.mono hZ5.size)
      have bl6 := Blk.below bl5 hc6 bl5.lt
      clear bl5
      clear hc6 hZ5
      go_simp
      refine hK.out _ _ (fun _ => held _ hZ6) ?_
      clear hK K
      try simp only [Act.put, List.setIfInBounds_toArray, List.set_cons_zero, List.set_cons_succ]
      refine E_take (i := 8) (v := ?_) [8] rfl (by kernel_rfl) (by kernel_rfl) (by kernel_rfl) (by kernel_rfl) (by kernel_rfl) rfl (fun _ _ _ h => h) (Or.inl ⟨by rfl, ?_⟩) (held _ hZ6) ?_
      rotate_left
      · (intro w' hSw; (try dsimp only at hSw); go_simp <;> (with_reducible rfl))
      try simp only [Act.put, List.setIfInBounds_toArray, List.set_cons_zero, List.set_cons_succ]
      refine E_take (i := 9) (v := ?_) [9] rfl (by kernel_rfl) (by kernel_rfl) (by kernel_rfl) (by kernel_rfl) (by kernel_rfl) rfl (fun _ _ _ h => h) (Or.inl ⟨by rfl, ?_⟩) (held _ hZ6) ?_
      rotate_left
      · (intro w' hSw; (try dsimp only at hSw); go_simp <;> (with_reducible rfl))
      try simp only [Act.put, List.setIfInBounds_toArray, List.set_cons_zero, List.set_cons_succ]
      refine E_take (i := 10) (v := ?_) [10] rfl (by kernel_rfl) (by kernel_rfl) (by kernel_rfl) (by kernel_rfl) (by kernel_rfl) rfl (fun _ _ _ h => h) (Or.inl ⟨by rfl, ?_⟩) (held _ hZ6) ?_
      rotate_left
      · (intro w' hSw; (try dsimp only at hSw); go_simp <;> (with_reducible rfl))
      try simp only [Act.put, List.setIfInBounds_toArray, List.set_cons_zero, List.set_cons_succ]
      refine E_take (i := 11) (v := ?_) [11] rfl (by kernel_rfl) (by kernel_rfl) (by kernel_rfl) (by kernel_rfl) (by kernel_rfl) rfl (fun _ _ _ h => h) (Or.inl ⟨by rfl, ?_⟩) (held _ hZ6) ?_
      rotate_left
      · (intro w' hSw; (try dsimp only at hSw); go_simp <;> (with_reducible rfl))
      try simp only [Act.put, List.setIfInBounds_toArray, List.set_cons_zero, List.set_cons_succ]
      refine E_one (i := 13) rfl (by kernel_rfl) (by rfl) (fun K hK => ?_)
      have y0 := bl6.cell 0
      have y1 := bl6.cell 1
      have y2 := bl6.cell 2
      have y3 := bl6.cell 3
      have f0 := bl6.frozen 0
      have f1 := bl6.frozen 1
      have f2 := bl6.frozen 2
      have f3 := bl6.frozen 3
      have bs7 := store4 (keyP of) bl6
      have hZ7 := store4_below (keyP of) hZ6 hge5
      go_simp
      clear hZ6 bl6 y0 y1 y2 y3 f0 f1 f2 f3
      generalize ((((Z6.setCell ⟨pb5, 0, none⟩ (.int .i64 (keyP of).br)).setCell ⟨pb5, 1, none⟩ (.int .i64 (keyP of).vol)).setCell ⟨pb5, 2, none⟩ (.int .i64 (keyP of).blk)).setCell ⟨pb5, 3, none⟩ (.int .u64 (keyP of).num)) = Z7 at *
      refine hK.out _ _ (fun _ => held _ hZ7) ?_
      clear hK K
      try simp only [Act.put, List.setIfInBounds_toArray, List.set_cons_zero, List.set_cons_succ]
      refine E_take (i := 14) (v := ?_) [14] rfl (by kernel_rfl) (by kernel_rfl) (by kernel_rfl) (by kernel_rfl) (by kernel_rfl) rfl (fun _ _ _ h => h) (Or.inl ⟨by rfl, ?_⟩) (held _ hZ7) ?_
      rotate_left
      · (intro w' hSw; (try dsimp only at hSw); go_simp <;> (with_reducible rfl))
      try simp only [Act.put, List.setIfInBounds_toArray, List.set_cons_zero, List.set_cons_succ]
      refine E_one (i := 15) rfl (by kernel_rfl) (by rfl) (fun K hK => ?_)
      go_simp
      refine hK.out _ _ (fun h => absurd rfl h) ?_
      clear hK K
      try simp only [Act.put, List.setIfInBounds_toArray, List.set_cons_zero, List.set_cons_succ]
      refine E_done (by kernel_rfl) ?_ _
      go_wp2_with fail
      go_meet
      exact ⟨pb5, rfl, rfl, rfl, bs7, hZ7⟩
  obtain ⟨pb, rfl, rfl, rfl, hpb, hbX⟩ := hcut
  generalize wc = V at *
  have HV := Lib.hid (HB.out.trans (hbX.mono HB.out.size))
  have hbx := Blk.below HBox.out hbX HBox.out.lt
  have q1 : V.cell? ⟨w.heap.size, 0, none⟩ = some (.int .i64 p.br) := hbx.cell 0
  have q2 : V.cell? ⟨w.heap.size, 1, none⟩ = some (.int .i64 p.vol) := hbx.cell 1
  have q3 : V.cell? ⟨w.heap.size, 2, none⟩ = some (.int .i64 p.blk) := hbx.cell 2
  clear hbx hbX held HT HF
  cases of with
  | none =>
    have e1 : (none : Option Ent).isSome = false := rfl
    rw [e1]
    go_wp2_with fail
    go_ret2
    exact ⟨rfl, HV.out⟩
  | some x =>
    have e1 : (some x : Option Ent).isSome = true := rfl
    have y0 : V.cell? ⟨pb, 0, none⟩ = some (.int .i64 x.1.br) := hpb.cell 0
    have y1 : V.cell? ⟨pb, 1, none⟩ = some (.int .i64 x.1.vol) := hpb.cell 1
    have y2 : V.cell? ⟨pb, 2, none⟩ = some (.int .i64 x.1.blk) := hpb.cell 2
    have y3 : V.cell? ⟨pb, 3, none⟩ = some (.int .u64 x.1.num) := hpb.cell 3
    clear hpb
    rw [e1]
    have HE : ∀ W, _ := fun W => plc_ne x.1 p W
    by_cases hp : plEq x.1 p
    · have hd : decide (plEq x.1 p) = true := decide_eq_true hp
      have Hp := Lib.hid hp
      simp only [hd, Bool.not_true] at HE
      clear hd hp
      go_wp2_with fail
      go_ret2
      exact ⟨by rw [placed_some, if_pos Hp.out]; rfl, HV.out⟩
    · have hd : decide (plEq x.1 p) = false := decide_eq_false hp
      have Hp := Lib.hid hp
      simp only [hd, Bool.not_false] at HE
      clear hd hp
      go_wp2_with fail
      go_ret2
      exact ⟨by rw [placed_some, if_neg Hp.out]; rfl, HV.out⟩
set_option maxHeartbeats 3200000 in
set_option maxRecDepth 100000 in
theorem next_idx {w : World} {b : Nat} {ls : List Sp} (h : IdxAt w b ls) (p : Sp) (m : Int) (hm0 : 0 ≤ m) (hml : m ≤ lastN) : Calls Try.prog 15 #[.pointer (some ⟨b, 0, none⟩), .agg #[.int .i64 p.br, .int .i64 p.vol, .int .i64 p.blk], .int .u64 m] w fun e w' => e = .returned (.tuple #[.int .u64 (numS (nextS ls p m)), .bool (nextS ls p m).isSome]) ∧ Below w.heap.size w w' := by
  obtain ⟨ha, t, h1, h2⟩ := h
  by_cases hml2 : m = lastN
  · have e0 : nextS ls p m = none := by unfold nextS; rw [if_pos hml2]
    rw [e0]
    subst hml2
    unfold lastN
    clear h1 h2 ha
    go_enter Try.func15, Try.ntmps15
    go_wp2_with fail
    go_ret2
    exact ⟨rfl, (Below.refl _ _).alloc (Nat.le_refl _) _⟩
  have hml3 : IntKind.u64.wrap (m + 1) = m + 1 := by
    unfold lastN at hml hml2
    unfold IntKind.wrap
    simp [IntKind.signed, IntKind.bits]
    omega
  have hmb : (m == 18446744073709551615) = false := by
    unfold lastN at hml2
    simpa using hml2
  obtain ⟨of, hof⟩ : ∃ of, ceilE (p.at (m + 1)) (entsOf ls) = of := ⟨_, rfl⟩
  have hsp : nextS ls p m = placed p of := by rw [← hof]; unfold nextS; rw [if_neg hml2]
  rw [hsp]
  have HOf := Lib.hid hof
  clear hof hsp
  have HA := Lib.hid ha
  have H1 := Lib.hid h1
  have H2 := Lib.hid h2
  have lb := h1.lt
  clear h1 h2 ha
  go_enter Try.func15, Try.ntmps15
  go_upto_region 3 with fail
  obtain ⟨W, hW⟩ : ∃ X, w.alloc (.cells #[.int .i64 p.br, .int .i64 p.vol, .int .i64 p.blk] 24) = X := ⟨_, rfl⟩
  have hbw : Below w.heap.size w W := by rw [← hW]; exact (Below.refl _ _).alloc (Nat.le_refl _) _
  have hbox : Blk W w.heap.size #[.int .i64 p.br, .int .i64 p.vol, .int .i64 p.blk] 24 := by rw [← hW]; exact Blk.new w _ _
  rw [hW]
  clear hW
  have HBox := Lib.hid hbox
  have HB := Lib.hid hbw
  have HT := Lib.hid (H2.out.below hbw)
  have q0 : W.cell? ⟨b, 0, none⟩ = some (.pointer t) := (H1.out.below hbw lb).cell 0
  have q1 : W.cell? ⟨w.heap.size, 0, none⟩ = some (.int .i64 p.br) := hbox.cell 0
  have q2 : W.cell? ⟨w.heap.size, 1, none⟩ = some (.int .i64 p.vol) := hbox.cell 1
  have q3 : W.cell? ⟨w.heap.size, 2, none⟩ = some (.int .i64 p.blk) := hbox.cell 2
  have lw : w.heap.size < W.heap.size := hbox.lt
  have lb2 : b < W.heap.size := Nat.lt_of_lt_of_le lb hbw.size
  have held : ∀ X, Below W.heap.size W X → (fun w' => w'.cell? ⟨b, 0, none⟩ = some (.pointer t) ∧ w'.cell? ⟨w.heap.size, 0, none⟩ = some (.int .i64 p.br) ∧ w'.cell? ⟨w.heap.size, 1, none⟩ = some (.int .i64 p.vol) ∧ w'.cell? ⟨w.heap.size, 2, none⟩ = some (.int .i64 p.blk)) X := fun X hX => ⟨bel_cell hX lb2 q0, bel_cell hX lw q1, bel_cell hX lw q2, bel_cell hX lw q3⟩
  have HF := Lib.hid (ceil_n HT.out (ents_asc HA.out) (p.at (m + 1)))
  rw [HOf.out] at HF
  unfold Sp.at at HF
  clear HOf H1 H2 hbw hbox q0 q1 q2 q3 lw lb lb2
  go_cut [8, 9, 10] (fun a b q X => ∃ pb, a = .pointer (some ⟨pb, 0, none⟩) ∧ b = .int .u64 (numP of) ∧ q = .bool of.isSome ∧ Blk X pb #[.int .i64 (keyP of).br, .int .i64 (keyP of).vol, .int .i64 (keyP of).blk, .int .u64 (keyP of).num] 46 ∧ Below W.heap.size W X)
  case first =>
    refine E_start 16 (fun w' => w'.cell? ⟨b, 0, none⟩ = some (.pointer t) ∧ w'.cell? ⟨w.heap.size, 0, none⟩ = some (.int .i64 p.br) ∧ w'.cell? ⟨w.heap.size, 1, none⟩ = some (.int .i64 p.vol) ∧ w'.cell? ⟨w.heap.size, 2, none⟩ = some (.int .i64 p.blk)) (by kernel_rfl) ?_
    have hd0 : Below W.heap.size W W.drew := bel_drewN _ _ (n := 1)
    generalize World.drew W = Z0 at *
    refine E_take (i := 0) (v := ?_) [0] rfl (by kernel_rfl) (by kernel_rfl) (by kernel_rfl) (by kernel_rfl) (by kernel_rfl) rfl (fun _ _ _ h => h) (Or.inl ⟨by rfl, ?_⟩) (held _ hd0) ?_
    rotate_left
    · (intro w' hSw; (try dsimp only at hSw); go_simp <;> (with_reducible rfl))
    try simp only [Act.put, List.setIfInBounds_toArray, List.set_cons_zero, List.set_cons_succ]
    refine E_take (i := 1) (v := ?_) [1] rfl (by kernel_rfl) (by kernel_rfl) (by kernel_rfl) (by kernel_rfl) (by kernel_rfl) rfl (fun _ _ _ h => h) (Or.inl ⟨by rfl, ?_⟩) (held _ hd0) ?_
    rotate_left
    · (intro w' hSw; (try dsimp only at hSw); go_simp <;> (with_reducible rfl))
    try simp only [Act.put, List.setIfInBounds_toArray, List.set_cons_zero, List.set_cons_succ]
    refine E_take (i := 2) (v := ?_) [2] rfl (by kernel_rfl) (by kernel_rfl) (by kernel_rfl) (by kernel_rfl) (by kernel_rfl) rfl (fun _ _ _ h => h) (Or.inl ⟨by rfl, ?_⟩) (held _ hd0) ?_
    rotate_left
    · (intro w' hSw; (try dsimp only at hSw); go_simp <;> (with_reducible rfl))
    try simp only [Act.put, List.setIfInBounds_toArray, List.set_cons_zero, List.set_cons_succ]
    refine E_take (i := 3) (v := ?_) [3] rfl (by kernel_rfl) (by kernel_rfl) (by kernel_rfl) (by kernel_rfl) (by kernel_rfl) rfl (fun _ _ _ h => h) (Or.inl ⟨by rfl, ?_⟩) (held _ hd0) ?_
    rotate_left
    · (intro w' hSw; (try dsimp only at hSw); go_simp <;> (with_reducible rfl))
    try simp only [Act.put, List.setIfInBounds_toArray, List.set_cons_zero, List.set_cons_succ]
    refine E_take (i := 4) (v := ?_) [4] rfl (by kernel_rfl) (by kernel_rfl) (by kernel_rfl) (by kernel_rfl) (by kernel_rfl) rfl (fun _ _ _ h => h) (Or.inl ⟨by rfl, ?_⟩) (held _ hd0) ?_
    rotate_left
    · (intro w' hSw; (try dsimp only at hSw); go_simp <;> (with_reducible rfl))
    try simp only [Act.put, List.setIfInBounds_toArray, List.set_cons_zero, List.set_cons_succ]
    refine E_take (i := 5) (v := ?_) [5] rfl (by kernel_rfl) (by kernel_rfl) (by kernel_rfl) (by kernel_rfl) (by kernel_rfl) rfl (fun _ _ _ h => h) (Or.inl ⟨by rfl, ?_⟩) (held _ hd0) ?_
    rotate_left
    · (intro w' hSw; (try dsimp only at hSw); go_simp <;> (with_reducible rfl))
    try simp only [Act.put, List.setIfInBounds_toArray, List.set_cons_zero, List.set_cons_succ]
    refine E_take (i := 6) (v := ?_) [6] rfl (by kernel_rfl) (by kernel_rfl) (by kernel_rfl) (by kernel_rfl) (by kernel_rfl) rfl (fun _ _ _ h => h) (Or.inl ⟨by rfl, ?_⟩) (held _ hd0) ?_
    rotate_left
    · (intro w' hSw; (try dsimp only at hSw); go_simp <;> (with_reducible rfl))
    try simp only [Act.put, List.setIfInBounds_toArray, List.set_cons_zero, List.set_cons_succ]
    refine E_take (i := 7) (v := ?_) [7] rfl (by kernel_rfl) (by kernel_rfl) (by kernel_rfl) (by kernel_rfl) (by kernel_rfl) rfl (fun _ _ _ h => h) (Or.inl ⟨by rfl, ?_⟩) (held _ hd0) ?_
    rotate_left
    · (intro w' hSw; (try dsimp only at hSw); go_simp <;> (with_reducible rfl))
    try simp only [Act.put, List.setIfInBounds_toArray, List.set_cons_zero, List.set_cons_succ]
    refine E_two (i := 8) (j := 13) rfl rfl (by kernel_rfl) (by rfl) (by rfl) (fun K hK => ?_) (fun K hK => ?_)
    · go_simp
      refine (HF.out Z0 hd0).mono ?_
      rintro e Z9 ⟨rfl, hc9⟩
      have hZ9 := hd0.trans (hc9.mono hd0.size)
      clear hc9 hd0
      go_simp
      refine hK.out _ _ (fun _ => held _ hZ9) ?_
      clear hK K
      try simp only [Act.put, List.setIfInBounds_toArray, List.set_cons_zero, List.set_cons_succ]
      refine E_take (i := 9) (v := ?_) [9] rfl (by kernel_rfl) (by kernel_rfl) (by kernel_rfl) (by kernel_rfl) (by kernel_rfl) rfl (fun _ _ _ h => h) (Or.inl ⟨by rfl, ?_⟩) (held _ hZ9) ?_
      rotate_left
      · (intro w' hSw; (try dsimp only at hSw); go_simp <;> (with_reducible rfl))
      try simp only [Act.put, List.setIfInBounds_toArray, List.set_cons_zero, List.set_cons_succ]
      refine E_take (i := 10) (v := ?_) [10] rfl (by kernel_rfl) (by kernel_rfl) (by kernel_rfl) (by kernel_rfl) (by kernel_rfl) rfl (fun _ _ _ h => h) (Or.inl ⟨by rfl, ?_⟩) (held _ hZ9) ?_
      rotate_left
      · (intro w' hSw; (try dsimp only at hSw); go_simp <;> (with_reducible rfl))
      try simp only [Act.put, List.setIfInBounds_toArray, List.set_cons_zero, List.set_cons_succ]
      refine E_take (i := 11) (v := ?_) [11] rfl (by kernel_rfl) (by kernel_rfl) (by kernel_rfl) (by kernel_rfl) (by kernel_rfl) rfl (fun _ _ _ h => h) (Or.inl ⟨by rfl, ?_⟩) (held _ hZ9) ?_
      rotate_left
      · (intro w' hSw; (try dsimp only at hSw); go_simp <;> (with_reducible rfl))
      try simp only [Act.put, List.setIfInBounds_toArray, List.set_cons_zero, List.set_cons_succ]
      refine E_take (i := 12) (v := ?_) [12] rfl (by kernel_rfl) (by kernel_rfl) (by kernel_rfl) (by kernel_rfl) (by kernel_rfl) rfl (fun _ _ _ h => h) (Or.inl ⟨by rfl, ?_⟩) (held _ hZ9) ?_
      rotate_left
      · (intro w' hSw; (try dsimp only at hSw); go_simp <;> (with_reducible rfl))
      try simp only [Act.put, List.setIfInBounds_toArray, List.set_cons_zero, List.set_cons_succ]
      refine E_one (i := 13) rfl (by kernel_rfl) (by rfl) (fun K hK => ?_)
      go_simp
      have hZ10 := hZ9.alloc hZ9.size (.cells #[.int .i64 0, .int .i64 0, .int .i64 0, .int .u64 0] 46)
      have bl10 := Blk.new Z9 #[.int .i64 0, .int .i64 0, .int .i64 0, .int .u64 0] 46
      have hge10 := hZ9.size
      clear hZ9
      generalize World.alloc Z9 (.cells #[.int .i64 0, .int .i64 0, .int .i64 0, .int .u64 0] 46) = Z10 at *
      generalize Z9.heap.size = pb10 at *
      refine hK.out _ _ (fun _ => held _ hZ10) ?_
      clear hK K
      try simp only [Act.put, List.setIfInBounds_toArray, List.set_cons_zero, List.set_cons_succ]
      refine E_one (i := 14) rfl (by kernel_rfl) (by rfl) (fun K hK => ?_)
      have y0 := bl10.cell 0
      have y1 := bl10.cell 1
      have y2 := bl10.cell 2
      have y3 := bl10.cell 3
      have f0 := bl10.frozen 0
      have f1 := bl10.frozen 1
      have f2 := bl10.frozen 2
      have f3 := bl10.frozen 3
      have bs11 := store4 (keyP of) bl10
      have hZ11 := store4_below (keyP of) hZ10 hge10
      go_simp
      clear hZ10 bl10 y0 y1 y2 y3 f0 f1 f2 f3
      generalize ((((Z10.setCell ⟨pb10, 0, none⟩ (.int .i64 (keyP of).br)).setCell ⟨pb10, 1, none⟩ (.int .i64 (keyP of).vol)).setCell ⟨pb10, 2, none⟩ (.int .i64 (keyP of).blk)).setCell ⟨pb10, 3, none⟩ (.int .u64 (keyP of).num)) = Z11 at *
      refine hK.out _ _ (fun _ => held _ hZ11) ?_
      clear hK K
      try simp only [Act.put, List.setIfInBounds_toArray, List.set_cons_zero, List.set_cons_succ]
      refine E_take (i := 15) (v := ?_) [15] rfl (by kernel_rfl) (by kernel_rfl) (by kernel_rfl) (by kernel_rfl) (by kernel_rfl) rfl (fun _ _ _ h => h) (Or.inl ⟨by rfl, ?_⟩) (held _ hZ11) ?_
      rotate_left
      · (intro w' hSw; (try dsimp only at hSw); go_simp <;> (with_reducible rfl))
      try simp only [Act.put, List.setIfInBounds_toArray, List.set_cons_zero, List.set_cons_succ]
      refine E_one (i := 16) rfl (by kernel_rfl) (by rfl) (fun K hK => ?_)
      go_simp
      refine hK.out _ _ (fun h => absurd rfl h) ?_
      clear hK K
      try simp only [Act.put, List.setIfInBounds_toArray, List.set_cons_zero, List.set_cons_succ]
      refine E_done (by kernel_rfl) ?_ _
      go_wp2_with fail
      go_meet
      exact ⟨pb10, rfl, rfl, rfl, bs11, hZ11⟩
    · go_simp
      have hZ13 := hd0.alloc hd0.size (.cells #[.int .i64 0, .int .i64 0, .int .i64 0, .int .u64 0] 46)
      have bl13 := Blk.new Z0 #[.int .i64 0, .int .i64 0, .int .i64 0, .int .u64 0] 46
      have hge13 := hd0.size
      clear hd0
      generalize World.alloc Z0 (.cells #[.int .i64 0, .int .i64 0, .int .i64 0, .int .u64 0] 46) = Z13 at *
      generalize Z0.heap.size = pb13 at *
      refine hK.out _ _ (fun _ => held _ hZ13) ?_
      clear hK K
      try simp only [Act.put, List.setIfInBounds_toArray, List.set_cons_zero, List.set_cons_succ]
      refine E_one (i := 8) rfl (by kernel_rfl) (by rfl) (fun K hK => ?_)
      go_simp
      refine (HF.out Z13 hZ13).mono ?_
      rintro e Z14 ⟨rfl, hc14⟩
      have hZ14 := hZ13.trans (hc14.mono hZ13.size)
      have bl14 := Blk.below bl13 hc14 bl13.lt
      clear bl13
      clear hc14 hZ13
      go_simp
      refine hK.out _ _ (fun _ => held _ hZ14) ?_
      clear hK K
      try simp only [Act.put, List.setIfInBounds_toArray, List.set_cons_zero, List.set_cons_succ]
      refine E_take (i := 9) (v := ?_) [9] rfl (by kernel_rfl) (by kernel_rfl) (by kernel_rfl) (by kernel_rfl) (by kernel_rfl) rfl (fun _ _ _ h => h) (Or.inl ⟨by rfl, ?_⟩) (held _ hZ14) ?_
      rotate_left
      · (intro w' hSw; (try dsimp only at hSw); go_simp <;> (with_reducible rfl))
      try simp only [Act.put, List.setIfInBounds_toArray, List.set_cons_zero, List.set_cons_succ]
      refine E_take (i := 10) (v := ?_) [10] rfl (by kernel_rfl) (by kernel_rfl) (by kernel_rfl) (by kernel_rfl) (by kernel_rfl) rfl (fun _ _ _ h => h) (Or.inl ⟨by rfl, ?_⟩) (held _ hZ14) ?_
      rotate_left
      · (intro w' hSw; (try dsimp only at hSw); go_simp <;> (with_reducible rfl))
      try simp only [Act.put, List.setIfInBounds_toArray, List.set_cons_zero, List.set_cons_succ]
      refine E_take (i := 11) (v := ?_) [11] rfl (by kernel_rfl) (by kernel_rfl) (by kernel_rfl) (by kernel_rfl) (by kernel_rfl) rfl (fun _ _ _ h => h) (Or.inl ⟨by rfl, ?_⟩) (held _ hZ14) ?_
      rotate_left
      · (intro w' hSw; (try dsimp only at hSw); go_simp <;> (with_reducible rfl))
      try simp only [Act.put, List.setIfInBounds_toArray, List.set_cons_zero, List.set_cons_succ]
      refine E_take (i := 12) (v := ?_) [12] rfl (by kernel_rfl) (by kernel_rfl) (by kernel_rfl) (by kernel_rfl) (by kernel_rfl) rfl (fun _ _ _ h => h) (Or.inl ⟨by rfl, ?_⟩) (held _ hZ14) ?_
      rotate_left
      · (intro w' hSw; (try dsimp only at hSw); go_simp <;> (with_reducible rfl))
      try simp only [Act.put, List.setIfInBounds_toArray, List.set_cons_zero, List.set_cons_succ]
      refine E_one (i := 14) rfl (by kernel_rfl) (by rfl) (fun K hK => ?_)
      have y0 := bl14.cell 0
      have y1 := bl14.cell 1
      have y2 := bl14.cell 2
      have y3 := bl14.cell 3
      have f0 := bl14.frozen 0
      have f1 := bl14.frozen 1
      have f2 := bl14.frozen 2
      have f3 := bl14.frozen 3
      have bs15 := store4 (keyP of) bl14
      have hZ15 := store4_below (keyP of) hZ14 hge13
      go_simp
      clear hZ14 bl14 y0 y1 y2 y3 f0 f1 f2 f3
      generalize ((((Z14.setCell ⟨pb13, 0, none⟩ (.int .i64 (keyP of).br)).setCell ⟨pb13, 1, none⟩ (.int .i64 (keyP of).vol)).setCell ⟨pb13, 2, none⟩ (.int .i64 (keyP of).blk)).setCell ⟨pb13, 3, none⟩ (.int .u64 (keyP of).num)) = Z15 at *
      refine hK.out _ _ (fun _ => held _ hZ15) ?_
      clear hK K
      try simp only [Act.put, List.setIfInBounds_toArray, List.set_cons_zero, List.set_cons_succ]
      refine E_take (i := 15) (v := ?_) [15] rfl (by kernel_rfl) (by kernel_rfl) (by kernel_rfl) (by kernel_rfl) (by kernel_rfl) rfl (fun _ _ _ h => h) (Or.inl ⟨by rfl, ?_⟩) (held _ hZ15) ?_
      rotate_left
      · (intro w' hSw; (try dsimp only at hSw); go_simp <;> (with_reducible rfl))
      try simp only [Act.put, List.setIfInBounds_toArray, List.set_cons_zero, List.set_cons_succ]
      refine E_one (i := 16) rfl (by kernel_rfl) (by rfl) (fun K hK => ?_)
      go_simp
      refine hK.out _ _ (fun h => absurd rfl h) ?_
      clear hK K
      try simp only [Act.put, List.setIfInBounds_toArray, List.set_cons_zero, List.set_cons_succ]
      refine E_done (by kernel_rfl) ?_ _
      go_wp2_with fail
      go_meet
      exact ⟨pb13, rfl, rfl, rfl, bs15, hZ15⟩
  obtain ⟨pb, rfl, rfl, rfl, hpb, hbX⟩ := hcut
  generalize wc = V at *
  have HV := Lib.hid (HB.out.trans (hbX.mono HB.out.size))
  have hbx := Blk.below HBox.out hbX HBox.out.lt
  have q1 : V.cell? ⟨w.heap.size, 0, none⟩ = some (.int .i64 p.br) := hbx.cell 0
  have q2 : V.cell? ⟨w.heap.size, 1, none⟩ = some (.int .i64 p.vol) := hbx.cell 1
  have q3 : V.cell? ⟨w.heap.size, 2, none⟩ = some (.int .i64 p.blk) := hbx.cell 2
  clear hbx hbX held HT HF
  cases of with
  | none =>
    have e1 : (none : Option Ent).isSome = false := rfl
    rw [e1]
    go_wp2_with fail
    go_ret2
    exact ⟨rfl, HV.out⟩
  | some x =>
    have e1 : (some x : Option Ent).isSome = true := rfl
    have y0 : V.cell? ⟨pb, 0, none⟩ = some (.int .i64 x.1.br) := hpb.cell 0
    have y1 : V.cell? ⟨pb, 1, none⟩ = some (.int .i64 x.1.vol) := hpb.cell 1
    have y2 : V.cell? ⟨pb, 2, none⟩ = some (.int .i64 x.1.blk) := hpb.cell 2
    have y3 : V.cell? ⟨pb, 3, none⟩ = some (.int .u64 x.1.num) := hpb.cell 3
    clear hpb
    rw [e1]
    have HE : ∀ W, _ := fun W => plc_ne x.1 p W
    by_cases hp : plEq x.1 p
    · have hd : decide (plEq x.1 p) = true := decide_eq_true hp
      have Hp := Lib.hid hp
      simp only [hd, Bool.not_true] at HE
      clear hd hp
      go_wp2_with fail
      go_ret2
      exact ⟨by rw [placed_some, if_pos Hp.out]; rfl, HV.out⟩
    · have hd : decide (plEq x.1 p) = false := decide_eq_false hp
      have Hp := Lib.hid hp
      simp only [hd, Bool.not_false] at HE
      clear hd hp
      go_wp2_with fail
      go_ret2
      exact ⟨by rw [placed_some, if_neg Hp.out]; rfl, HV.out⟩
end Go.Proofs.Ytlackkhkaceblaa.N

/- Put and Drop. -/
namespace Go.Proofs.Ytlackkhkaceblaa.N
open Go.BigFrame Go.RowKit Go.Shelf Go.Proofs.YtlackkhkaceblaaW.PrintMore Go.Proofs.YtlackkhkaceblaaW.PrintWords
set_option linter.unusedVariables false
set_option linter.unusedSimpArgs false
theorem IdxAt.set {Y : World} {b : Nat} {t p' : Option Addr} {ls : List Sp} {l : List Ent} (h1 : Blk Y b #[.pointer t] 61) (h2 : TreeAt Y t l) (ht : TreeAt Y p' (entsOf ls)) (ha : AscS ls) : IdxAt (Y.setCell ⟨b, 0, none⟩ (.pointer p')) b ls := by
  refine ⟨ha, p', by simpa using h1.set (o := 0) (.pointer p'), ht.grownP (row := some b) (fun L e => ?_) (grown_set (below_grown (Below.refl _ _) rfl) _)⟩
  injection e with e
  subst e
  refine ⟨_, _, _, h1, by decide, by decide, fun v hv => ?_⟩
  obtain rfl : v = .pointer t := by simpa using hv
  exact h2.notN
theorem putS_ents {k : Sp} {ls : List Sp} (h : putC k ls = 0) : entsOf (putS k ls) = insE k k.num (entsOf ls) := by
  unfold putS
  rw [if_pos h, ins_ents]
theorem num_le {ls : List Sp} (hg : Good ls) : ∀ s ∈ ls, s.num ≤ lastN := fun s hs => (hg s hs).1.2.2.2.2
set_option maxHeartbeats 3200000 in
set_option maxRecDepth 100000 in
theorem put_idx {w : World} {b : Nat} {ls : List Sp} (h : IdxAt w b ls) (hg : Good ls) (hl : ls.length ≤ 900) (k : Sp) : Calls Try.prog 17 #[.pointer (some ⟨b, 0, none⟩), .agg #[.int .i64 k.br, .int .i64 k.vol, .int .i64 k.blk], .int .u64 k.num] w fun e w' => e = .returned (.int .i64 (putC k ls)) ∧ IdxAt w' b (putS k ls) ∧ w.grownBy w' (some b) := by
  have hbw : Below w.heap.size w (w.alloc (.cells #[.int .i64 k.br, .int .i64 k.vol, .int .i64 k.blk] 24)) := (Below.refl _ _).alloc (Nat.le_refl _) _
  have hbox : Blk (w.alloc (.cells #[.int .i64 k.br, .int .i64 k.vol, .int .i64 k.blk] 24)) w.heap.size #[.int .i64 k.br, .int .i64 k.vol, .int .i64 k.blk] 24 := Blk.new w _ _
  have HI := Lib.hid h
  have HG := Lib.hid hg
  have HL := Lib.hid hl
  have HBw := Lib.hid hbw
  have HBox := Lib.hid hbox
  clear h hg hl hbw hbox
  by_cases h0 : k.num = 0
  · have hc : putC k ls = 1 := by unfold putC; rw [if_pos h0]
    have hs : putS k ls = ls := by unfold putS; rw [hc, if_neg (by decide)]
    rw [hc, hs]
    have e0 : (k.num == 0) = true := by simp [h0]
    go_enter Try.func17, Try.ntmps17
    go_wp2_with fail
    go_ret
    exact ⟨rfl, HI.out.below HBw.out, below_grown HBw.out rfl⟩
  have e0 : (k.num == 0) = false := by simp [h0]
  have H0 := Lib.hid h0
  clear h0
  go_enter Try.func17, Try.ntmps17
  go_upto_region 3 with fail
  generalize w.alloc (.cells #[.int .i64 k.br, .int .i64 k.vol, .int .i64 k.blk] 24) = W at *
  have q1 : W.cell? ⟨w.heap.size, 0, none⟩ = some (.int .i64 k.br) := HBox.out.cell 0
  have q2 : W.cell? ⟨w.heap.size, 1, none⟩ = some (.int .i64 k.vol) := HBox.out.cell 1
  have q3 : W.cell? ⟨w.heap.size, 2, none⟩ = some (.int .i64 k.blk) := HBox.out.cell 2
  have HAt := Lib.hid (at_idx (HI.out.below HBw.out) k lastN)
  unfold lastN at HAt
  have HPc := Lib.hid (putC_at (atS_is HI.out.1 k lastN) (num_le HG.out) H0.out)
  unfold lastN at HPc
  generalize atS ls k 18446744073709551615 = o at *
  go_wp2_with fail
  refine HAt.out.mono ?_
  rintro e V ⟨rfl, hbV⟩
  have HBV := Lib.hid (HBw.out.trans (hbV.mono HBw.out.size))
  have HBoxV := Lib.hid (Blk.below HBox.out hbV HBox.out.lt)
  clear q1 q2 q3 hbV HAt HBw HBox
  have key : (o.isSome = true ∧ decide (k.num ≤ numS o) = true ∧ putC k ls = 15) ∨ ((o.isSome = false ∨ (o.isSome = true ∧ decide (k.num ≤ numS o) = false)) ∧ putC k ls = 0) := by
    have h := HPc.out
    cases o with
    | none => exact .inr ⟨.inl rfl, h⟩
    | some y =>
      have h' : putC k ls = if k.num ≤ y.num then 15 else 0 := h
      by_cases hy : k.num ≤ y.num
      · rw [if_pos hy] at h'
        exact .inl ⟨rfl, decide_eq_true hy, h'⟩
      · rw [if_neg hy] at h'
        exact .inr ⟨.inr ⟨rfl, decide_eq_false hy⟩, h'⟩
  generalize hn : numS o = n at *
  generalize hs : o.isSome = s at *
  clear HPc hn hs
  rcases key with ⟨rfl, hd, hc⟩ | ⟨hk, hc⟩
  · have hs : putS k ls = ls := by unfold putS; rw [hc, if_neg (by decide)]
    have HCs := Lib.hid (And.intro hc hs)
    clear hc hs
    go_wp2_with fail
    go_ret
    exact ⟨by rw [HCs.out.1] <;> rfl, by rw [HCs.out.2]; exact HI.out.below HBV.out, below_grown HBV.out rfl⟩
  have HC := Lib.hid hc
  obtain ⟨ha, t, h1, h2⟩ := HI.out.below HBV.out
  have H1w := Lib.hid h1
  have H2w := Lib.hid h2
  have q0 : V.cell? ⟨b, 0, none⟩ = some (.pointer t) := h1.cell 0
  have q1 : V.cell? ⟨w.heap.size, 0, none⟩ = some (.int .i64 k.br) := HBoxV.out.cell 0
  have q2 : V.cell? ⟨w.heap.size, 1, none⟩ = some (.int .i64 k.vol) := HBoxV.out.cell 1
  have q3 : V.cell? ⟨w.heap.size, 2, none⟩ = some (.int .i64 k.blk) := HBoxV.out.cell 2
  have lb := h1.lt
  have lw := HBoxV.out.lt
  have held : ∀ X, Below V.heap.size V X → (fun w' => w'.cell? ⟨b, 0, none⟩ = some (.pointer t) ∧ w'.cell? ⟨w.heap.size, 0, none⟩ = some (.int .i64 k.br) ∧ w'.cell? ⟨w.heap.size, 1, none⟩ = some (.int .i64 k.vol) ∧ w'.cell? ⟨w.heap.size, 2, none⟩ = some (.int .i64 k.blk)) X := fun X hX => ⟨bel_cell hX lb q0, bel_cell hX lw q1, bel_cell hX lw q2, bel_cell hX lw q3⟩
  have HPt : Hid (∀ X, Below V.heap.size V X → Calls Try.prog 34 #[.pointer t, .agg #[.int .i64 k.br, .int .i64 k.vol, .int .i64 k.blk, .int .u64 k.num], .int .u64 k.num] X fun e w' => ∃ p', e = .returned (.pointer p') ∧ TreeAt w' p' (insE k k.num (entsOf ls)) ∧ Below X.heap.size X w') := fun X hX => put_tree (H2w.out.below hX) (ents_asc HI.out.1) (by rw [ents_len]; have := HL.out; omega) k k.num
  clear ha h1 h2 q0 q1 q2 q3 lw hc
  have fin : ∀ (Y : World) (p' : Option Addr), Below V.heap.size V Y → TreeAt Y p' (insE k k.num (entsOf ls)) → IdxAt (Y.setCell ⟨b, 0, none⟩ (.pointer p')) b (putS k ls) ∧ w.grownBy (Y.setCell ⟨b, 0, none⟩ (.pointer p')) (some b) := fun Y p' hY ht => by
    rw [← putS_ents HC.out] at ht
    exact ⟨IdxAt.set (H1w.out.below hY H1w.out.lt) (H2w.out.below hY) ht (putS_asc HI.out.1), grown_set (below_grown (HBV.out.trans (hY.mono HBV.out.size)) rfl) _⟩
  have Fin := Lib.hid fin
  clear fin
  rcases hk with rfl | ⟨rfl, hk⟩
  all_goals (
    go_upto_region 6 with fail
    refine E_start 12 (fun w' => w'.cell? ⟨b, 0, none⟩ = some (.pointer t) ∧ w'.cell? ⟨w.heap.size, 0, none⟩ = some (.int .i64 k.br) ∧ w'.cell? ⟨w.heap.size, 1, none⟩ = some (.int .i64 k.vol) ∧ w'.cell? ⟨w.heap.size, 2, none⟩ = some (.int .i64 k.blk)) (by kernel_rfl) ?_
    have hd0 : Below V.heap.size V V.drew := bel_drewN _ _ (n := 1)
    generalize World.drew V = Y0 at *
    refine E_take (i := 0) (v := ?_) [0] rfl (by kernel_rfl) (by kernel_rfl) (by kernel_rfl) (by kernel_rfl) (by kernel_rfl) rfl (fun _ _ _ h => h) (Or.inl ⟨by rfl, ?_⟩) (held _ hd0) ?_
    rotate_left
    · (intro w' hSw; (try dsimp only at hSw); go_simp <;> (with_reducible rfl))
    try simp only [Act.put, List.setIfInBounds_toArray, List.set_cons_zero, List.set_cons_succ]
    refine E_take (i := 1) (v := ?_) [1] rfl (by kernel_rfl) (by kernel_rfl) (by kernel_rfl) (by kernel_rfl) (by kernel_rfl) rfl (fun _ _ _ h => h) (Or.inl ⟨by rfl, ?_⟩) (held _ hd0) ?_
    rotate_left
    · (intro w' hSw; (try dsimp only at hSw); go_simp <;> (with_reducible rfl))
    try simp only [Act.put, List.setIfInBounds_toArray, List.set_cons_zero, List.set_cons_succ]
    refine E_take (i := 2) (v := ?_) [2] rfl (by kernel_rfl) (by kernel_rfl) (by kernel_rfl) (by kernel_rfl) (by kernel_rfl) rfl (fun _ _ _ h => h) (Or.inl ⟨by rfl, ?_⟩) (held _ hd0) ?_
    rotate_left
    · (intro w' hSw; (try dsimp only at hSw); go_simp <;> (with_reducible rfl))
    try simp only [Act.put, List.setIfInBounds_toArray, List.set_cons_zero, List.set_cons_succ]
    refine E_take (i := 3) (v := ?_) [3] rfl (by kernel_rfl) (by kernel_rfl) (by kernel_rfl) (by kernel_rfl) (by kernel_rfl) rfl (fun _ _ _ h => h) (Or.inl ⟨by rfl, ?_⟩) (held _ hd0) ?_
    rotate_left
    · (intro w' hSw; (try dsimp only at hSw); go_simp <;> (with_reducible rfl))
    try simp only [Act.put, List.setIfInBounds_toArray, List.set_cons_zero, List.set_cons_succ]
    refine E_take (i := 4) (v := ?_) [4] rfl (by kernel_rfl) (by kernel_rfl) (by kernel_rfl) (by kernel_rfl) (by kernel_rfl) rfl (fun _ _ _ h => h) (Or.inl ⟨by rfl, ?_⟩) (held _ hd0) ?_
    rotate_left
    · (intro w' hSw; (try dsimp only at hSw); go_simp <;> (with_reducible rfl))
    try simp only [Act.put, List.setIfInBounds_toArray, List.set_cons_zero, List.set_cons_succ]
    refine E_take (i := 5) (v := ?_) [5] rfl (by kernel_rfl) (by kernel_rfl) (by kernel_rfl) (by kernel_rfl) (by kernel_rfl) rfl (fun _ _ _ h => h) (Or.inl ⟨by rfl, ?_⟩) (held _ hd0) ?_
    rotate_left
    · (intro w' hSw; (try dsimp only at hSw); go_simp <;> (with_reducible rfl))
    try simp only [Act.put, List.setIfInBounds_toArray, List.set_cons_zero, List.set_cons_succ]
    refine E_take (i := 6) (v := ?_) [6] rfl (by kernel_rfl) (by kernel_rfl) (by kernel_rfl) (by kernel_rfl) (by kernel_rfl) rfl (fun _ _ _ h => h) (Or.inl ⟨by rfl, ?_⟩) (held _ hd0) ?_
    rotate_left
    · (intro w' hSw; (try dsimp only at hSw); go_simp <;> (with_reducible rfl))
    try simp only [Act.put, List.setIfInBounds_toArray, List.set_cons_zero, List.set_cons_succ]
    refine E_take (i := 7) (v := ?_) [7] rfl (by kernel_rfl) (by kernel_rfl) (by kernel_rfl) (by kernel_rfl) (by kernel_rfl) rfl (fun _ _ _ h => h) (Or.inl ⟨by rfl, ?_⟩) (held _ hd0) ?_
    rotate_left
    · (intro w' hSw; (try dsimp only at hSw); go_simp <;> (with_reducible rfl))
    try simp only [Act.put, List.setIfInBounds_toArray, List.set_cons_zero, List.set_cons_succ]
    refine E_take (i := 8) (v := ?_) [8] rfl (by kernel_rfl) (by kernel_rfl) (by kernel_rfl) (by kernel_rfl) (by kernel_rfl) rfl (fun _ _ _ h => h) (Or.inl ⟨by rfl, ?_⟩) (held _ hd0) ?_
    rotate_left
    · (intro w' hSw; (try dsimp only at hSw); go_simp <;> (with_reducible rfl))
    try simp only [Act.put, List.setIfInBounds_toArray, List.set_cons_zero, List.set_cons_succ]
    refine E_one (i := 9) rfl (by kernel_rfl) (by rfl) (fun K hK => ?_)
    go_simp
    refine (HPt.out Y0 hd0).mono ?_
    rintro e Y1 ⟨p', rfl, ht1, hc1⟩
    have hd1 := hd0.trans (hc1.mono hd0.size)
    have hbi := H1w.out.below hd1 H1w.out.lt
    have c0 := hbi.cell 0
    have c1 := hbi.frozen 0
    clear hc1
    go_simp
    refine hK.out _ _ (fun _ => held _ hd1) ?_
    clear hK K
    try simp only [Act.put, List.setIfInBounds_toArray, List.set_cons_zero, List.set_cons_succ]
    refine E_take (i := 10) (v := ?_) [11, 10] rfl (by kernel_rfl) (by kernel_rfl) (by kernel_rfl) (by kernel_rfl) (by kernel_rfl) rfl (fun _ _ _ h => h) (Or.inl ⟨by rfl, ?_⟩) (held _ hd1) ?_
    rotate_left
    · (intro w' hSw; (try dsimp only at hSw); go_simp <;> (with_reducible rfl))
    try simp only [Act.put, List.setIfInBounds_toArray, List.set_cons_zero, List.set_cons_succ]
    refine E_take (i := 11) (v := ?_) [11] rfl (by kernel_rfl) (by kernel_rfl) (by kernel_rfl) (by kernel_rfl) (by kernel_rfl) rfl (fun _ _ _ h => h) (Or.inl ⟨by rfl, ?_⟩) (held _ hd1) ?_
    rotate_left
    · (intro w' hSw; (try dsimp only at hSw); go_simp <;> (with_reducible rfl))
    try simp only [Act.put, List.setIfInBounds_toArray, List.set_cons_zero, List.set_cons_succ]
    refine E_one (i := 12) rfl (by kernel_rfl) (by rfl) (fun K hK => ?_)
    go_simp
    refine hK.out _ _ (fun h => absurd rfl h) ?_
    clear hK K
    try simp only [Act.put, List.setIfInBounds_toArray, List.set_cons_zero, List.set_cons_succ]
    refine E_done (by kernel_rfl) ?_ _
    go_wp2_with fail
    go_ret
    obtain ⟨g1, g2⟩ := Fin.out Y1 p' hd1 ht1
    exact ⟨by rw [HC.out] <;> rfl, g1, g2⟩)
set_option maxHeartbeats 3200000 in
set_option maxRecDepth 100000 in
theorem drop_idx {w : World} {b : Nat} {ls : List Sp} (h : IdxAt w b ls) (hl : ls.length ≤ 900) (k : Sp) : Calls Try.prog 18 #[.pointer (some ⟨b, 0, none⟩), .agg #[.int .i64 k.br, .int .i64 k.vol, .int .i64 k.blk], .int .u64 k.num] w fun e w' => e = .returned (.int .i64 (dropC k ls)) ∧ IdxAt w' b (delS k ls) ∧ w.grownBy w' (some b) := by
  have HI := Lib.hid h
  have HL := Lib.hid hl
  clear h hl
  go_enter Try.func18, Try.ntmps18
  go_upto_region 4 with fail
  obtain ⟨V, hV⟩ : ∃ X, (w.alloc (.cells #[.int .i64 k.br, .int .i64 k.vol, .int .i64 k.blk] 24)).alloc (.cells #[.int .i64 k.br, .int .i64 k.vol, .int .i64 k.blk, .int .u64 k.num] 46) = X := ⟨_, rfl⟩
  have hbV : Below w.heap.size w V := by rw [← hV]; exact ((Below.refl _ _).alloc (Nat.le_refl _) _).alloc (by simp) _
  have hkb : Blk V (w.heap.size + 1) #[.int .i64 k.br, .int .i64 k.vol, .int .i64 k.blk, .int .u64 k.num] 46 := by rw [← hV]; have := Blk.new (w.alloc (.cells #[.int .i64 k.br, .int .i64 k.vol, .int .i64 k.blk] 24)) #[.int .i64 k.br, .int .i64 k.vol, .int .i64 k.blk, .int .u64 k.num] 46; rwa [World.size_alloc] at this
  rw [hV]
  clear hV
  generalize w.heap.size + 1 = kb at *
  have HBV := Lib.hid hbV
  obtain ⟨ha, t, h1, h2⟩ := HI.out.below hbV
  have H1w := Lib.hid h1
  have H2w := Lib.hid h2
  have q0 : V.cell? ⟨b, 0, none⟩ = some (.pointer t) := h1.cell 0
  have q1 : V.cell? ⟨kb, 0, none⟩ = some (.int .i64 k.br) := hkb.cell 0
  have q2 : V.cell? ⟨kb, 1, none⟩ = some (.int .i64 k.vol) := hkb.cell 1
  have q3 : V.cell? ⟨kb, 2, none⟩ = some (.int .i64 k.blk) := hkb.cell 2
  have q4 : V.cell? ⟨kb, 3, none⟩ = some (.int .u64 k.num) := hkb.cell 3
  have lb := h1.lt
  have lk := hkb.lt
  have held : ∀ X, Below V.heap.size V X → (fun w' => w'.cell? ⟨b, 0, none⟩ = some (.pointer t) ∧ w'.cell? ⟨kb, 0, none⟩ = some (.int .i64 k.br) ∧ w'.cell? ⟨kb, 1, none⟩ = some (.int .i64 k.vol) ∧ w'.cell? ⟨kb, 2, none⟩ = some (.int .i64 k.blk) ∧ w'.cell? ⟨kb, 3, none⟩ = some (.int .u64 k.num)) X := fun X hX => ⟨bel_cell hX lb q0, bel_cell hX lk q1, bel_cell hX lk q2, bel_cell hX lk q3, bel_cell hX lk q4⟩
  have HGe : Hid (∀ X, Below V.heap.size V X → Calls Try.prog 28 #[.pointer t, .agg #[.int .i64 k.br, .int .i64 k.vol, .int .i64 k.blk, .int .u64 k.num]] X fun e w' => e = .returned (.tuple #[.int .u64 (valE k (entsOf ls)), .bool (hasE k (entsOf ls))]) ∧ Below X.heap.size X w') := fun X hX => get_tree (H2w.out.below hX) (ents_asc HI.out.1) k
  have HDt : Hid (∀ X, Below V.heap.size V X → Calls Try.prog 35 #[.pointer t, .agg #[.int .i64 k.br, .int .i64 k.vol, .int .i64 k.blk, .int .u64 k.num]] X fun e w' => ∃ p', e = .returned (.pointer p') ∧ TreeAt w' p' (delE k (entsOf ls)) ∧ Below X.heap.size X w') := fun X hX => (del_tree (H2w.out.below hX) (ents_asc HI.out.1) (by rw [ents_len]; have := HL.out; omega) k).mono fun e w' hp => by
    obtain ⟨p', x1, x2, x3, _⟩ := hp
    exact ⟨p', x1, x2, x3⟩
  have Held := Lib.hid held
  have hh := ents_has HI.out.1 k
  rw [hh] at HGe
  generalize valE k (entsOf ls) = vv at *
  clear ha h1 h2 hkb q0 q1 q2 q3 q4 lk hbV
  refine wp_region_held_drew (S := (fun w' => w'.cell? ⟨b, 0, none⟩ = some (.pointer t) ∧ w'.cell? ⟨kb, 0, none⟩ = some (.int .i64 k.br) ∧ w'.cell? ⟨kb, 1, none⟩ = some (.int .i64 k.vol) ∧ w'.cell? ⟨kb, 2, none⟩ = some (.int .i64 k.blk) ∧ w'.cell? ⟨kb, 3, none⟩ = some (.int .u64 k.num))) (by kernel_rfl) (held _ (bel_drewN _ _ (n := 1))) (fun hHeld => ?_)
  obtain ⟨X0, hwd⟩ : ∃ Wn, Wn = World.drew V := ⟨_, rfl⟩
  rw [← hwd] at hHeld ⊢
  have hbX0 : Below V.heap.size V X0 := by rw [hwd]; exact bel_drewN _ _ (n := 1)
  clear hwd 
  refine take_at (i := 0) (v := ?_) rfl (by kernel_rfl) (by kernel_rfl) (by kernel_rfl) (fun _ _ _ h => h) (Or.inl ⟨by rfl, ?_⟩) (by assumption) ?_
  rotate_left
  · (intro w' hSw; (try dsimp only at hSw); go_simp <;> (with_reducible rfl))
  try simp only [Act.put, List.setIfInBounds_toArray, List.set_cons_zero, List.set_cons_succ]
  refine take_at (i := 1) (v := ?_) rfl (by kernel_rfl) (by kernel_rfl) (by kernel_rfl) (fun _ _ _ h => h) (Or.inl ⟨by rfl, ?_⟩) (by assumption) ?_
  rotate_left
  · (intro w' hSw; (try dsimp only at hSw); go_simp <;> (with_reducible rfl))
  try simp only [Act.put, List.setIfInBounds_toArray, List.set_cons_zero, List.set_cons_succ]
  refine take_at (i := 2) (v := ?_) rfl (by kernel_rfl) (by kernel_rfl) (by kernel_rfl) (fun _ _ _ h => h) (Or.inl ⟨by rfl, ?_⟩) (by assumption) ?_
  rotate_left
  · (intro w' hSw; (try dsimp only at hSw); go_simp <;> (with_reducible rfl))
  try simp only [Act.put, List.setIfInBounds_toArray, List.set_cons_zero, List.set_cons_succ]
  refine take_at (i := 3) (v := ?_) rfl (by kernel_rfl) (by kernel_rfl) (by kernel_rfl) (fun _ _ _ h => h) (Or.inl ⟨by rfl, ?_⟩) (by assumption) ?_
  rotate_left
  · (intro w' hSw; (try dsimp only at hSw); go_simp <;> (with_reducible rfl))
  try simp only [Act.put, List.setIfInBounds_toArray, List.set_cons_zero, List.set_cons_succ]
  refine take_at (i := 4) (v := ?_) rfl (by kernel_rfl) (by kernel_rfl) (by kernel_rfl) (fun _ _ _ h => h) (Or.inl ⟨by rfl, ?_⟩) (by assumption) ?_
  rotate_left
  · (intro w' hSw; (try dsimp only at hSw); go_simp <;> (with_reducible rfl))
  try simp only [Act.put, List.setIfInBounds_toArray, List.set_cons_zero, List.set_cons_succ]
  refine one_at (i := 5) rfl (by kernel_rfl) (by rfl) (fun K hK => ?_)
  go_simp
  refine (HGe.out X0 hbX0).mono ?_
  rintro e X1 ⟨rfl, hb1⟩
  have hbX1 := hbX0.trans (hb1.mono hbX0.size)
  go_simp
  refine hK.out _ _ (held _ hbX1) (fun hHeld1 => ?_)
  clear hK K
  try simp only [Act.put, List.setIfInBounds_toArray, List.set_cons_zero, List.set_cons_succ]
  refine take_at (i := 6) (v := ?_) rfl (by kernel_rfl) (by kernel_rfl) (by kernel_rfl) (fun _ _ _ h => h) (Or.inl ⟨by rfl, ?_⟩) (by assumption) ?_
  rotate_left
  · (intro w' hSw; (try dsimp only at hSw); go_simp <;> (with_reducible rfl))
  try simp only [Act.put, List.setIfInBounds_toArray, List.set_cons_zero, List.set_cons_succ]
  refine take_at (i := 7) (v := ?_) rfl (by kernel_rfl) (by kernel_rfl) (by kernel_rfl) (fun _ _ _ h => h) (Or.inl ⟨by rfl, ?_⟩) (by assumption) ?_
  rotate_left
  · (intro w' hSw; (try dsimp only at hSw); go_simp <;> (with_reducible rfl))
  try simp only [Act.put, List.setIfInBounds_toArray, List.set_cons_zero, List.set_cons_succ]
  refine take_at (i := 8) (v := ?_) rfl (by kernel_rfl) (by kernel_rfl) (by kernel_rfl) (fun _ _ _ h => h) (Or.inl ⟨by rfl, ?_⟩) (by assumption) ?_
  rotate_left
  · (intro w' hSw; (try dsimp only at hSw); go_simp <;> (with_reducible rfl))
  try simp only [Act.put, List.setIfInBounds_toArray, List.set_cons_zero, List.set_cons_succ]
  refine take_at (i := 9) (v := ?_) rfl (by kernel_rfl) (by kernel_rfl) (by kernel_rfl) (fun _ _ _ h => h) (Or.inl ⟨by rfl, ?_⟩) (by assumption) ?_
  rotate_left
  · (intro w' hSw; (try dsimp only at hSw); go_simp <;> (with_reducible rfl))
  try simp only [Act.put, List.setIfInBounds_toArray, List.set_cons_zero, List.set_cons_succ]
  refine take_at (i := 10) (v := ?_) rfl (by kernel_rfl) (by kernel_rfl) (by kernel_rfl) (fun _ _ _ h => h) (Or.inl ⟨by rfl, ?_⟩) (by assumption) ?_
  rotate_left
  · (intro w' hSw; (try dsimp only at hSw); go_simp <;> (with_reducible rfl))
  try simp only [Act.put, List.setIfInBounds_toArray, List.set_cons_zero, List.set_cons_succ]
  refine wpAnyH_done (by kernel_rfl) ?_ _
  try simp only [Act.put, List.setIfInBounds_toArray, List.set_cons_zero, List.set_cons_succ]
  have hbX := hbX1
  clear held hHeld hHeld1 hbX0 hbX1 hb1
  have fin : ∀ (Y : World) (p' : Option Addr), Below V.heap.size V Y → TreeAt Y p' (delE k (entsOf ls)) → IdxAt (Y.setCell ⟨b, 0, none⟩ (.pointer p')) b (delS k ls) ∧ w.grownBy (Y.setCell ⟨b, 0, none⟩ (.pointer p')) (some b) := fun Y p' hY ht => by
    rw [← del_ents] at ht
    exact ⟨IdxAt.set (H1w.out.below hY H1w.out.lt) (H2w.out.below hY) ht (delS_asc HI.out.1), grown_set (below_grown (HBV.out.trans (hY.mono HBV.out.size)) rfl) _⟩
  have Fin := Lib.hid fin
  clear fin hh
  by_cases hk : k ∈ ls
  · have hd : decide (k ∈ ls) = true := decide_eq_true hk
    have hc : dropC k ls = 0 := by unfold dropC; rw [if_pos hk]
    have HC := Lib.hid hc
    rw [hd]
    clear hd hc hk
    go_upto_region 7 with fail
    have held : ∀ X, Below X1.heap.size X1 X → (fun w' => w'.cell? ⟨b, 0, none⟩ = some (.pointer t) ∧ w'.cell? ⟨kb, 0, none⟩ = some (.int .i64 k.br) ∧ w'.cell? ⟨kb, 1, none⟩ = some (.int .i64 k.vol) ∧ w'.cell? ⟨kb, 2, none⟩ = some (.int .i64 k.blk) ∧ w'.cell? ⟨kb, 3, none⟩ = some (.int .u64 k.num)) X := fun X hX => Held.out X (hbX.trans (hX.mono hbX.size))
    have HDx : Hid (∀ X, Below X1.heap.size X1 X → _) := fun X hX => HDt.out X (hbX.trans (hX.mono hbX.size))
    have H1v := Lib.hid (H1w.out.below hbX H1w.out.lt)
    refine E_start 9 (fun w' => w'.cell? ⟨b, 0, none⟩ = some (.pointer t) ∧ w'.cell? ⟨kb, 0, none⟩ = some (.int .i64 k.br) ∧ w'.cell? ⟨kb, 1, none⟩ = some (.int .i64 k.vol) ∧ w'.cell? ⟨kb, 2, none⟩ = some (.int .i64 k.blk) ∧ w'.cell? ⟨kb, 3, none⟩ = some (.int .u64 k.num)) (by kernel_rfl) ?_
    have hd0 : Below X1.heap.size X1 X1.drew := bel_drewN _ _ (n := 1)
    generalize World.drew X1 = Y0 at *
    refine E_take (i := 0) (v := ?_) [0] rfl (by kernel_rfl) (by kernel_rfl) (by kernel_rfl) (by kernel_rfl) (by kernel_rfl) rfl (fun _ _ _ h => h) (Or.inl ⟨by rfl, ?_⟩) (held _ hd0) ?_
    rotate_left
    · (intro w' hSw; (try dsimp only at hSw); go_simp <;> (with_reducible rfl))
    try simp only [Act.put, List.setIfInBounds_toArray, List.set_cons_zero, List.set_cons_succ]
    refine E_take (i := 1) (v := ?_) [1] rfl (by kernel_rfl) (by kernel_rfl) (by kernel_rfl) (by kernel_rfl) (by kernel_rfl) rfl (fun _ _ _ h => h) (Or.inl ⟨by rfl, ?_⟩) (held _ hd0) ?_
    rotate_left
    · (intro w' hSw; (try dsimp only at hSw); go_simp <;> (with_reducible rfl))
    try simp only [Act.put, List.setIfInBounds_toArray, List.set_cons_zero, List.set_cons_succ]
    refine E_take (i := 2) (v := ?_) [2] rfl (by kernel_rfl) (by kernel_rfl) (by kernel_rfl) (by kernel_rfl) (by kernel_rfl) rfl (fun _ _ _ h => h) (Or.inl ⟨by rfl, ?_⟩) (held _ hd0) ?_
    rotate_left
    · (intro w' hSw; (try dsimp only at hSw); go_simp <;> (with_reducible rfl))
    try simp only [Act.put, List.setIfInBounds_toArray, List.set_cons_zero, List.set_cons_succ]
    refine E_take (i := 3) (v := ?_) [3] rfl (by kernel_rfl) (by kernel_rfl) (by kernel_rfl) (by kernel_rfl) (by kernel_rfl) rfl (fun _ _ _ h => h) (Or.inl ⟨by rfl, ?_⟩) (held _ hd0) ?_
    rotate_left
    · (intro w' hSw; (try dsimp only at hSw); go_simp <;> (with_reducible rfl))
    try simp only [Act.put, List.setIfInBounds_toArray, List.set_cons_zero, List.set_cons_succ]
    refine E_take (i := 4) (v := ?_) [4] rfl (by kernel_rfl) (by kernel_rfl) (by kernel_rfl) (by kernel_rfl) (by kernel_rfl) rfl (fun _ _ _ h => h) (Or.inl ⟨by rfl, ?_⟩) (held _ hd0) ?_
    rotate_left
    · (intro w' hSw; (try dsimp only at hSw); go_simp <;> (with_reducible rfl))
    try simp only [Act.put, List.setIfInBounds_toArray, List.set_cons_zero, List.set_cons_succ]
    refine E_take (i := 5) (v := ?_) [5] rfl (by kernel_rfl) (by kernel_rfl) (by kernel_rfl) (by kernel_rfl) (by kernel_rfl) rfl (fun _ _ _ h => h) (Or.inl ⟨by rfl, ?_⟩) (held _ hd0) ?_
    rotate_left
    · (intro w' hSw; (try dsimp only at hSw); go_simp <;> (with_reducible rfl))
    try simp only [Act.put, List.setIfInBounds_toArray, List.set_cons_zero, List.set_cons_succ]
    refine E_one (i := 6) rfl (by kernel_rfl) (by rfl) (fun K hK => ?_)
    go_simp
    refine (HDx.out Y0 hd0).mono ?_
    rintro e Y1 ⟨p', rfl, ht1, hc1⟩
    have hd1 := hd0.trans (hc1.mono hd0.size)
    have hbi := H1v.out.below hd1 H1v.out.lt
    have c0 := hbi.cell 0
    have c1 := hbi.frozen 0
    clear hc1
    go_simp
    refine hK.out _ _ (fun _ => held _ hd1) ?_
    clear hK K
    try simp only [Act.put, List.setIfInBounds_toArray, List.set_cons_zero, List.set_cons_succ]
    refine E_take (i := 7) (v := ?_) [8, 7] rfl (by kernel_rfl) (by kernel_rfl) (by kernel_rfl) (by kernel_rfl) (by kernel_rfl) rfl (fun _ _ _ h => h) (Or.inl ⟨by rfl, ?_⟩) (held _ hd1) ?_
    rotate_left
    · (intro w' hSw; (try dsimp only at hSw); go_simp <;> (with_reducible rfl))
    try simp only [Act.put, List.setIfInBounds_toArray, List.set_cons_zero, List.set_cons_succ]
    refine E_take (i := 8) (v := ?_) [8] rfl (by kernel_rfl) (by kernel_rfl) (by kernel_rfl) (by kernel_rfl) (by kernel_rfl) rfl (fun _ _ _ h => h) (Or.inl ⟨by rfl, ?_⟩) (held _ hd1) ?_
    rotate_left
    · (intro w' hSw; (try dsimp only at hSw); go_simp <;> (with_reducible rfl))
    try simp only [Act.put, List.setIfInBounds_toArray, List.set_cons_zero, List.set_cons_succ]
    refine E_one (i := 9) rfl (by kernel_rfl) (by rfl) (fun K hK => ?_)
    go_simp
    refine hK.out _ _ (fun h => absurd rfl h) ?_
    clear hK K
    try simp only [Act.put, List.setIfInBounds_toArray, List.set_cons_zero, List.set_cons_succ]
    refine E_done (by kernel_rfl) ?_ _
    go_wp2_with fail
    go_ret
    obtain ⟨g1, g2⟩ := Fin.out Y1 p' (hbX.trans (hd1.mono hbX.size)) ht1
    exact ⟨by rw [HC.out] <;> rfl, g1, g2⟩
  · have hd : decide (k ∈ ls) = false := decide_eq_false hk
    have hc : dropC k ls = 4 := by unfold dropC; rw [if_neg hk]
    have hs : delS k ls = ls := ascS_ext (delS_asc HI.out.1) HI.out.1 (fun s => by rw [mem_delS HI.out.1]; exact ⟨fun a => a.1, fun a => ⟨a, fun e => hk (e ▸ a)⟩⟩)
    have HCs := Lib.hid (And.intro hc hs)
    rw [hd]
    have hbx := HBV.out.trans (hbX.mono HBV.out.size)
    have Hx := Lib.hid hbx
    clear hd hc hk hs Fin hbx
    go_wp2_with fail
    go_ret
    exact ⟨by rw [HCs.out.1] <;> rfl, by rw [HCs.out.2]; exact HI.out.below Hx.out, below_grown Hx.out rfl⟩
end Go.Proofs.Ytlackkhkaceblaa.N

/- The document's Ahead, Put and Drop. -/
namespace Go.Proofs.Ytlackkhkaceblaa.N
open Go.BigFrame Go.RowKit Go.Shelf Go.Proofs.YtlackkhkaceblaaW.PrintMore Go.Proofs.YtlackkhkaceblaaW.PrintWords
set_option linter.unusedVariables false
set_option linter.unusedSimpArgs false
set_option maxHeartbeats 1600000 in
set_option maxRecDepth 100000 in
theorem ahead26 (a b : Sp) (w : World) : Calls Try.prog 46 #[.agg #[.int .i64 a.br, .int .i64 a.vol, .int .i64 a.blk, .int .u64 a.num], .agg #[.int .i64 b.br, .int .i64 b.vol, .int .i64 b.blk, .int .u64 b.num]] w fun e w' => e = .returned (.bool (lt a b)) ∧ Below w.heap.size w w' := by
  have HB := Lib.hid (((Below.refl w.heap.size w).alloc (Nat.le_refl _) (.cells #[.int .i64 a.br, .int .i64 a.vol, .int .i64 a.blk, .int .u64 a.num] 46)).alloc (by simp) (.cells #[.int .i64 b.br, .int .i64 b.vol, .int .i64 b.blk, .int .u64 b.num] 46))
  have HT := Lib.hid (lt_iff a b)
  obtain ⟨a0, a1, a2, a3⟩ := a
  obtain ⟨b0, b1, b2, b3⟩ := b
  simp only at HB HT ⊢
  by_cases h0 : a0 = b0
  · subst h0
    by_cases h1 : a1 = b1
    · subst h1
      by_cases h2 : a2 = b2
      · subst h2
        go_enter Try.func46, Try.ntmps46
        go_wp2_with fail
        all_goals (
          go_ret
          refine ⟨?_, HB.out⟩
          have h := HT.out
          show Ending.returned (.bool _) = Ending.returned (.bool _)
          congr 2
          rw [Bool.eq_iff_iff, h]
          simp)
      · go_enter Try.func46, Try.ntmps46
        go_wp2_with fail
        all_goals (
          go_ret
          refine ⟨?_, HB.out⟩
          have h := HT.out
          show Ending.returned (.bool _) = Ending.returned (.bool _)
          congr 2
          rw [Bool.eq_iff_iff, h]
          simp
          omega)
    · go_enter Try.func46, Try.ntmps46
      go_wp2_with fail
      all_goals (
        go_ret
        refine ⟨?_, HB.out⟩
        have h := HT.out
        show Ending.returned (.bool _) = Ending.returned (.bool _)
        congr 2
        rw [Bool.eq_iff_iff, h]
        simp
        omega)
  · go_enter Try.func46, Try.ntmps46
    go_wp2_with fail
    all_goals (
      go_ret
      refine ⟨?_, HB.out⟩
      have h := HT.out
      show Ending.returned (.bool _) = Ending.returned (.bool _)
      congr 2
      rw [Bool.eq_iff_iff, h]
      simp
      omega)
set_option maxRecDepth 100000 in
theorem infoSpt : (Try.prog.info? 46).map (fun i => (i.zero, i.size, i.bytes)) = some (some (.agg #[.int .i64 0, .int .i64 0, .int .i64 0, .int .u64 0]), 4, 32) := by kernel_rfl
def spV (x : Sp) : List Value := [.int .i64 x.br, .int .i64 x.vol, .int .i64 x.blk, .int .u64 x.num]
set_option maxRecDepth 100000 in
/-- append of one spot, which was built now. -/
theorem app_P1 {w : World} (B : Nat) (v : Value) (n : Nat) (l : List Sp) (hown : w.ownsRow B 46 4 v n (sps l)) (hB : B ≤ w.heap.size) (hn : n ≤ 1000) (x : Sp) (ty : TypeId) :
    ∃ A' c' w', (Builtin.append_ #[29, 29] ty #[v, .slice (some ⟨w.heap.size, 0, none⟩) 1 1]).run Try.prog (w.alloc (.cells #[.int .i64 x.br, .int .i64 x.vol, .int .i64 x.blk, .int .u64 x.num] 46)) = .ok (.slice A' (n + 1) c') w' ∧ w'.ownsRow B 46 4 (.slice A' (n + 1) c') (n + 1) (sps (l ++ [x])) ∧ Below B w w' := by
  obtain ⟨i0, hi0, hz0, hz1, hz2⟩ := info_parts infoSpt
  have ho : (w.alloc (.cells #[.int .i64 x.br, .int .i64 x.vol, .int .i64 x.blk, .int .u64 x.num] 46)).ownsRow B 46 4 v n (sps l) := own_stay hown (fun q hq => ((Below.refl w.heap.size w).alloc (Nat.le_refl _) _).block q (own_lt hown q hq))
  have hc := Blk.new w #[.int .i64 x.br, .int .i64 x.vol, .int .i64 x.blk, .int .u64 x.num] 46
  obtain ⟨v', w', r1, r2, r3, _, r4⟩ := run_append_own_at (P := Try.prog) (w.alloc (.cells #[.int .i64 x.br, .int .i64 x.vol, .int .i64 x.blk, .int .u64 x.num] 46)) B 29 ty 46 i0 (.agg #[.int .i64 0, .int .i64 0, .int .i64 0, .int .u64 0]) 4 32 Try.underlying29 hi0 hz0 hz1 hz2 rfl (by decide) v n (sps l) ho ⟨w.heap.size, 0, none⟩ 1 1 (spV x) rfl (fun j u hj => by
    obtain ⟨hj1, hj2⟩ := List.getElem?_eq_some_iff.1 hj
    have hj5 : j < 4 := by simpa [spV] using hj1
    have ea : (⟨w.heap.size, 0, none⟩ : Addr).add j = ⟨w.heap.size, j, none⟩ := by
      unfold Addr.add
      split
      · subst_vars; rfl
      · simp
    rw [ea, hc.cell j, ← hj]
    simp [spV]) (by simp [spV, Value.oneCell']) (by simp only [maxLen]; omega) (by omega) (by rw [World.size_alloc]; omega)
  have hf : ∃ A' c', v' = .slice A' (n + 1) c' := by
    rcases r2.2 with ⟨rfl, e⟩ | ⟨g, cap, cur, rfl, _⟩
    · exact ⟨none, 0, by rw [e]⟩
    · exact ⟨_, cap, rfl⟩
  obtain ⟨A', c', rfl⟩ := hf
  refine ⟨A', c', w', r1, ?_, ((Below.refl B w).alloc hB _).grown r3 (by rw [World.size_alloc]; omega) (own_ge hown)⟩
  rw [sps_app]
  simpa [sps, spV, Sp.cs] using r2
theorem sps_nil (w : World) (B : Nat) : w.ownsRow B 46 4 (.slice none 0 0) 0 (sps []) := by simpa [sps] using World.ownsRow_nil w B 46 4
theorem spots_own' {w : World} {B n : Nat} {A : Option Addr} {c : Nat} {l : List Sp} (h : w.ownsRow B 46 4 (.slice A n c) n (sps l)) (hn : l.length = n) : SpotsAt w A l ∧ n ≤ c ∧ c ≤ maxLen := by
  subst hn
  obtain ⟨A', c', e, h1, h2, h3⟩ := spots_own h
  cases e
  exact ⟨h3, h1, h2⟩
/-- What the document's Put and Drop hand back. -/
def ResS (w : World) (ls : List Sp) (code : Int) (e : Ending) (w' : World) : Prop := ∃ A c, e = .returned (.tuple #[.slice A ls.length c, .int .i64 code]) ∧ SpotsAt w' A ls ∧ Below w.heap.size w w'
/-- The place's box. -/
theorem plc_cells {w X : World} {k : Sp} {b : Nat} (hbox : Blk w b #[.int .i64 k.br, .int .i64 k.vol, .int .i64 k.blk] 24) (hX : Below w.heap.size w X) :
    X.cell? ⟨b, 0, none⟩ = some (.int .i64 k.br) ∧ X.cell? ⟨b, 1, none⟩ = some (.int .i64 k.vol) ∧ X.cell? ⟨b, 2, none⟩ = some (.int .i64 k.blk) := by
  have h := Blk.below hbox hX hbox.lt
  exact ⟨h.cell 0, h.cell 1, h.cell 2⟩
theorem plNum {x k : Sp} : decide (x = k) = (decide (plEq x k) && (x.num == k.num)) := by
  rw [Bool.eq_iff_iff]
  simp only [decide_eq_true_eq, Bool.and_eq_true, beq_iff_eq]
  exact ⟨fun e => by subst e; exact ⟨⟨rfl, rfl, rfl⟩, rfl⟩, fun ⟨a, b⟩ => sp_ext a b⟩
def DropRel (B : Nat) (k : Sp) (l : List Sp) (n : Nat) (o d i : Value) (X : World) : Prop := ∃ (j : Nat) (A : Option Addr) (c : Nat), i = .int .i64 j ∧ j ≤ n ∧ d = .bool (decide (k ∈ l.take j)) ∧ o = .slice A (notS k (l.take j)).length c ∧ X.ownsRow B 46 4 (.slice A (notS k (l.take j)).length c) (notS k (l.take j)).length (sps (notS k (l.take j)))
set_option maxHeartbeats 6400000 in
set_option maxRecDepth 100000 in
theorem adrop26 {w : World} {A : Option Addr} {l : List Sp} {n c : Nat} (ha : SpotsAt w A l) (hn : l.length = n) (hl : n ≤ 900) (hs : AscS l) (k : Sp) :
    Calls Try.prog 31 #[.slice A n c, .agg #[.int .i64 k.br, .int .i64 k.vol, .int .i64 k.blk], .int .u64 k.num] w (ResS w (delS k l) (dropC k l)) := by
  have HA := Lib.hid ha
  have HN := Lib.hid hn
  have HS := Lib.hid hs
  have HL := Lib.hid hl
  clear ha hn hs
  go_enter Try.func31, Try.ntmps31
  have hbw : Below w.heap.size w (w.alloc (.cells #[.int .i64 k.br, .int .i64 k.vol, .int .i64 k.blk] 24)) := (Below.refl _ _).alloc (Nat.le_refl _) _
  have hbox := Blk.new w #[.int .i64 k.br, .int .i64 k.vol, .int .i64 k.blk] 24
  go_upto_block 0 with fail
  generalize w.alloc (.cells #[.int .i64 k.br, .int .i64 k.vol, .int .i64 k.blk] 24) = W at *
  have HBw := Lib.hid hbw
  have hzw : w.heap.size < W.heap.size := hbox.lt
  go_wp2_with fail
  go_loopw [8, 9, 10] (fun o d i X => Below W.heap.size W X ∧ DropRel W.heap.size k l n o d i X) (fun _ _ i _ => (n - intOf i).toNat)
  case atStart => exact ⟨Below.refl _ _, 0, none, 0, rfl, Nat.zero_le _, by simp, by simp [notS], by simpa [notS] using sps_nil W W.heap.size⟩
  case round =>
    obtain ⟨hbW, j, Ao, co, rfl, hj, rfl, rfl, hown⟩ := hrel
    have hbr := HBw.out.trans (hbW.mono HBw.out.size)
    have HBr := Lib.hid hbr
    have HBW := Lib.hid hbW
    have HO := Lib.hid hown
    have hNl : (notS k (l.take j)).length ≤ j := by
      have h1 : (notS k (l.take j)).length ≤ (l.take j).length := List.length_filter_le _ _
      rw [List.length_take] at h1
      omega
    obtain ⟨K, hK⟩ : ∃ K, (notS k (l.take j)).length = K := ⟨_, rfl⟩
    have HK := Lib.hid hK
    rw [hK] at hNl ⊢
    clear hown hK
    by_cases hjn : j < n
    · have hja : j < l.length := by rw [HN.out]; exact hjn
      obtain ⟨ga, oa, rfl, la, ca⟩ := (HA.out.below hbr) (by omega)
      obtain ⟨s0, s1, s2, s3⟩ := ca j hja
      have HMt := Lib.hid (mem_take_succ hja k)
      have HTk := Lib.hid (List.take_succ_eq_append_getElem hja)
      obtain ⟨x, hx⟩ : ∃ x, l[j] = x := ⟨_, rfl⟩
      rw [hx] at s0 s1 s2 s3 HTk HMt
      obtain ⟨k0, k1, k2⟩ := plc_cells hbox hbW
      have e1 : (0 : Int) ≤ (j : Int) := by omega
      have e2 : (j : Int) < (n : Int) := by omega
      have HE : ∀ W, _ := fun W => plc_eq x k W
      have HX5s := Lib.hid (And.intro s0 (And.intro s1 (And.intro s2 s3)))
      have hgz := World.block_lt_of_cell? _ _ s0
      have HP := Lib.hid (plNum (x := x) (k := k))
      generalize hq : decide (plEq x k) = q at *
      generalize hr : (x.num == k.num) = r at *
      clear hx ca la hja hbr hbW hq
      have z0 := cls_cell s0
      have z1 := cls_cell s1
      have z2 := cls_cell s2
      have z3 := cls_cell s3
      have y0 := cls_cell k0
      have y1 := cls_cell k1
      have y2 := cls_cell k2
      have := cls_ne wr
      clear s0 s1 s2 s3 k0 k1 k2
      go_wp2_with fail
      go_cut [32] (fun t X => t = .bool (decide (x = k)) ∧ Below wr.heap.size wr X)
      case first =>
        cases q with
        | true =>
          refine wp_region_cls (S := Below wr.heap.size wr) (by kernel_rfl) (by kernel_rfl) (bel_drewN _ _ (n := 1)) ?_
          repeat (go_big_quiet_step (fail))
          refine wpQuiet_nil ?_
          rintro _ ⟨m, rfl⟩
          go_wp2_with fail
          go_meet
          exact ⟨by rw [HP.out]; simp, m.h⟩
        | false =>
          refine wp_region_cls (S := Below wr.heap.size wr) (by kernel_rfl) (by kernel_rfl) (bel_drewN _ _ (n := 1)) ?_
          repeat (go_big_quiet_step (fail))
          refine wpQuiet_nil ?_
          rintro _ ⟨m, rfl⟩
          go_wp2_with fail
          go_meet
          exact ⟨by rw [HP.out]; simp, m.h⟩
      obtain ⟨rfl, hx5⟩ := hcut
      generalize wc = w5 at *
      have HX5 := Lib.hid hx5
      clear z0 z1 z2 z3 y0 y1 y2 this HE hx5 HP
      by_cases hxy : x = k
      · have f1 : decide (x = k) = true := by simp [hxy]
        have HXy := Lib.hid hxy
        rw [f1]
        clear hxy f1
        go_wp2_with fail
        go_roundw
        case rel =>
          have hnk : notS k (l.take (j + 1)) = notS k (l.take j) := by rw [HTk.out, notS_app, if_pos HXy.out]
          refine ⟨HBW.out.trans (HX5.out.mono HBW.out.size), j + 1, Ao, co, by simp, hjn, by rw [HMt.out, decide_eq_true HXy.out, Bool.or_true], by rw [hnk, HK.out], ?_⟩
          rw [hnk]
          exact own_stay HO.out (fun q hq => HX5.out.block q (own_lt HO.out q hq))
        case measure => (simp [intOf] <;> omega)
      · have f1 : decide (x = k) = false := by simp [hxy]
        have hO5 : w5.ownsRow W.heap.size 46 4 (.slice Ao K co) K (sps (notS k (l.take j))) := by rw [← HK.out]; exact own_stay HO.out (fun q hq => HX5.out.block q (own_lt HO.out q hq))
        have hb5 := HBW.out.trans (HX5.out.mono HBW.out.size)
        obtain ⟨A', c', w', hr', ho', hb'⟩ := app_P1 W.heap.size (.slice Ao K co) K _ hO5 hb5.size (by omega) x 29
        have s0 := bel_cell HX5.out hgz HX5s.out.1
        have s1 := bel_cell HX5.out hgz HX5s.out.2.1
        have s2 := bel_cell HX5.out hgz HX5s.out.2.2.1
        have s3 := bel_cell HX5.out hgz HX5s.out.2.2.2
        have HRun := Lib.hid hr'
        have HOx := Lib.hid ho'
        have HBx := Lib.hid (hb5.trans hb')
        have HXy := Lib.hid hxy
        rw [f1]
        clear hxy hr' ho' hb' hb5 hO5 hgz f1
        go_wp2_with (at_builtin; refine Lib.wpList_append_run _ rfl _ _ _ _ rfl _ _ rfl rfl _ _ HRun.out ?_)
        go_roundw
        case rel =>
          have hnk : notS k (l.take (j + 1)) = notS k (l.take j) ++ [x] := by rw [HTk.out, notS_app, if_neg HXy.out]
          have hnl : (notS k (l.take (j + 1))).length = K + 1 := by rw [hnk, List.length_append, HK.out]; rfl
          refine ⟨HBx.out, j + 1, A', c', by simp, hjn, by rw [HMt.out, decide_eq_false HXy.out, Bool.or_false], by rw [hnl], ?_⟩
          rw [hnl, hnk]
          exact HOx.out
        case measure => (simp [intOf] <;> omega)
    · obtain rfl : j = n := by omega
      have htk : l.take j = l := List.take_of_length_le (by rw [HN.out]; exact Nat.le_refl _)
      rw [htk] at HO HK ⊢
      rw [notS_del HS.out] at HO HK
      by_cases hk : k ∈ l
      · have hd : decide (k ∈ l) = true := decide_eq_true hk
        have hc : dropC k l = 0 := by unfold dropC; rw [if_pos hk]
        have HC := Lib.hid hc
        rw [hd]
        clear hd hc hk hbr hbW htk
        go_wp2_with fail
        go_ret2
        have hO : _ := HO.out
        rw [HK.out] at hO
        exact ⟨Ao, co, by rw [HK.out, HC.out] <;> rfl, (spots_own' hO HK.out).1, HBr.out⟩
      · have hd : decide (k ∈ l) = false := decide_eq_false hk
        have hc : dropC k l = 4 := by unfold dropC; rw [if_neg hk]
        have hs : delS k l = l := ascS_ext (delS_asc HS.out) HS.out (fun s => by rw [mem_delS HS.out]; exact ⟨fun a => a.1, fun a => ⟨a, fun e => hk (e ▸ a)⟩⟩)
        have HCs := Lib.hid (And.intro hc hs)
        rw [hd]
        have HAr := Lib.hid (HA.out.below HBr.out)
        clear hd hc hk hs hbr hbW htk
        go_wp2_with fail
        go_ret2
        exact ⟨A, c, by rw [HCs.out.1, HCs.out.2, HN.out] <;> rfl, by rw [HCs.out.2]; exact HAr.out, HBr.out⟩
/-- No number at the place, among the first ones, that is not below. -/
def PutFree (k : Sp) (m : List Sp) : Prop := ∀ s ∈ m, plEq s k → s.num < k.num
def PutRelS (B : Nat) (k : Sp) (l : List Sp) (n : Nat) (o d i : Value) (X : World) : Prop := ∃ (j : Nat) (A : Option Addr) (c : Nat), i = .int .i64 j ∧ j ≤ n ∧ d = .bool (dnS k (l.take j)) ∧ o = .slice A (ptS k (l.take j)).length c ∧ X.ownsRow B 46 4 (.slice A (ptS k (l.take j)).length c) (ptS k (l.take j)).length (sps (ptS k (l.take j)))
theorem free_succ {k x : Sp} {l : List Sp} {j : Nat} (hj : j < l.length) (hx : l[j] = x) (h : PutFree k (l.take j)) (hn : plEq x k → x.num < k.num) : PutFree k (l.take (j + 1)) := fun s hs hp => by
  rw [List.take_succ_eq_append_getElem hj, hx] at hs
  rcases List.mem_append.1 hs with hs | hs
  · exact h s hs hp
  · obtain rfl := List.mem_singleton.1 hs
    exact hn hp
theorem putC_past {k x : Sp} {l : List Sp} (h0 : k.num ≠ 0) (hx : x ∈ l) (hp : plEq x k) (hn : k.num ≤ x.num) : putC k l = 15 ∧ putS k l = l := by
  have hc : putC k l = 15 := by unfold putC; rw [if_neg h0, if_pos ⟨x, hx, hp, hn⟩]
  exact ⟨hc, by unfold putS; rw [hc, if_neg (by decide)]⟩
set_option maxHeartbeats 6400000 in
set_option maxRecDepth 100000 in
theorem aput26 {w : World} {A : Option Addr} {l : List Sp} {n c : Nat} (ha : SpotsAt w A l) (hn : l.length = n) (hl : n ≤ 900) (hs : AscS l) (k : Sp) :
    Calls Try.prog 32 #[.slice A n c, .agg #[.int .i64 k.br, .int .i64 k.vol, .int .i64 k.blk], .int .u64 k.num] w (ResS w (putS k l) (putC k l)) := by
  have HA := Lib.hid ha
  have HN := Lib.hid hn
  have HS := Lib.hid hs
  have HL := Lib.hid hl
  clear ha hn hs
  have hbw : Below w.heap.size w (w.alloc (.cells #[.int .i64 k.br, .int .i64 k.vol, .int .i64 k.blk] 24)) := (Below.refl _ _).alloc (Nat.le_refl _) _
  have hbox := Blk.new w #[.int .i64 k.br, .int .i64 k.vol, .int .i64 k.blk] 24
  by_cases h0 : k.num = 0
  · have hc : putC k l = 1 := by unfold putC; rw [if_pos h0]
    have hs : putS k l = l := by unfold putS; rw [hc, if_neg (by decide)]
    rw [hc, hs]
    have e0 : (k.num == 0) = true := by simp [h0]
    have HBw := Lib.hid hbw
    clear hbw hbox
    go_enter Try.func32, Try.ntmps32
    go_wp2_with fail
    go_ret2
    exact ⟨A, c, by rw [HN.out]; rfl, HA.out.below HBw.out, HBw.out⟩
  have e0 : (k.num == 0) = false := by simp [h0]
  have H0 := Lib.hid h0
  clear h0
  go_enter Try.func32, Try.ntmps32
  go_upto_block 0 with fail
  generalize w.alloc (.cells #[.int .i64 k.br, .int .i64 k.vol, .int .i64 k.blk] 24) = W at *
  have HBw := Lib.hid hbw
  have hzw : w.heap.size < W.heap.size := hbox.lt
  go_cut [8] (fun i X => PutFree k l ∧ Below W.heap.size W X)
  case first =>
    go_wp2_with fail
    go_loopw [8] (fun i X => ∃ j : Nat, i = .int .i64 j ∧ j ≤ n ∧ PutFree k (l.take j) ∧ Below W.heap.size W X) (fun i _ => (n - intOf i).toNat)
    case atStart => exact ⟨0, rfl, Nat.zero_le _, (fun s hs => by simp at hs), Below.refl _ _⟩
    case round =>
      obtain ⟨j, rfl, hj, hfr, hbW⟩ := hrel
      have hbr := HBw.out.trans (hbW.mono HBw.out.size)
      have HBr := Lib.hid hbr
      have HBW := Lib.hid hbW
      have HFr := Lib.hid hfr
      by_cases hjn : j < n
      · have hja : j < l.length := by rw [HN.out]; exact hjn
        obtain ⟨ga, oa, hAe, la, ca⟩ := (HA.out.below hbr) (by omega)
        subst hAe
        obtain ⟨s0, s1, s2, s3⟩ := ca j hja
        obtain ⟨x, hx⟩ : ∃ x, l[j] = x := ⟨_, rfl⟩
        rw [hx] at s0 s1 s2 s3
        have HXm : Hid (x ∈ l) := hx ▸ List.getElem_mem hja
        have HSc := Lib.hid (fun h => free_succ (k := k) hja hx hfr h)
        obtain ⟨k0, k1, k2⟩ := plc_cells hbox hbW
        have e1 : (0 : Int) ≤ (j : Int) := by omega
        have e2 : (j : Int) < (n : Int) := by omega
        have HE : ∀ W, _ := fun W => plc_eq x k W
        have hq : (decide (plEq x k) = true ∧ plEq x k) ∨ (decide (plEq x k) = false ∧ ¬ plEq x k) := by
          by_cases h : plEq x k
          · exact .inl ⟨decide_eq_true h, h⟩
          · exact .inr ⟨decide_eq_false h, h⟩
        have hr : (decide (k.num ≤ x.num) = true ∧ k.num ≤ x.num) ∨ (decide (k.num ≤ x.num) = false ∧ x.num < k.num) := by
          by_cases h : k.num ≤ x.num
          · exact .inl ⟨decide_eq_true h, h⟩
          · exact .inr ⟨decide_eq_false h, by omega⟩
        have HQ := Lib.hid hq
        have HR := Lib.hid hr
        generalize decide (plEq x k) = q at *
        clear hx ca la hja hbr hbW hfr hq hr
        have z0 := cls_cell s0
        have z1 := cls_cell s1
        have z2 := cls_cell s2
        have z3 := cls_cell s3
        have y0 := cls_cell k0
        have y1 := cls_cell k1
        have y2 := cls_cell k2
        have := cls_ne wr
        clear s0 s1 s2 s3 k0 k1 k2
        go_wp2_with fail
        go_cut [37] (fun t X => t = .bool (q && decide (k.num ≤ x.num)) ∧ Below wr.heap.size wr X)
        case first =>
          cases q with
          | true =>
            refine wp_region_cls (S := Below wr.heap.size wr) (by kernel_rfl) (by kernel_rfl) (bel_drewN _ _ (n := 1)) ?_
            repeat (go_big_quiet_step (fail))
            refine wpQuiet_nil ?_
            rintro _ ⟨m, rfl⟩
            go_wp2_with fail
            go_meet
            exact ⟨by simp, m.h⟩
          | false =>
            refine wp_region_cls (S := Below wr.heap.size wr) (by kernel_rfl) (by kernel_rfl) (bel_drewN _ _ (n := 1)) ?_
            repeat (go_big_quiet_step (fail))
            refine wpQuiet_nil ?_
            rintro _ ⟨m, rfl⟩
            go_wp2_with fail
            go_meet
            exact ⟨by simp, m.h⟩
        obtain ⟨rfl, hx5⟩ := hcut
        generalize wc = w5 at *
        have HX5 := Lib.hid (HBW.out.trans (hx5.mono HBW.out.size))
        clear z0 z1 z2 z3 y0 y1 y2 this HE hx5
        rcases HQ.out with ⟨rfl, hq⟩ | ⟨rfl, hq⟩
        · rcases HR.out with ⟨hr0, hr⟩ | ⟨hr0, hr⟩
          · have hpp := putC_past H0.out HXm.out hq hr
            have HPp := Lib.hid hpp
            rw [hr0]
            clear hq hr hr0 hpp HQ HR
            go_wp2_with fail
            go_ret2
            exact ⟨_, c, by rw [HPp.out.1, HPp.out.2, HN.out]; rfl, by rw [HPp.out.2]; exact HA.out.below (HBw.out.trans (HX5.out.mono HBw.out.size)), HBw.out.trans (HX5.out.mono HBw.out.size)⟩
          · have hsc := HSc.out (fun _ => hr)
            have HF2 := Lib.hid hsc
            rw [hr0]
            clear hq hr hr0 hsc HQ HR
            go_wp2_with fail
            go_roundw
            case rel => exact ⟨j + 1, by simp, hjn, HF2.out, HX5.out⟩
            case measure => (simp [intOf] <;> omega)
        · have hsc := HSc.out (fun h => absurd h hq)
          have HF2 := Lib.hid hsc
          clear hq hsc HQ HR
          rw [Bool.false_and]
          go_wp2_with fail
          go_roundw
          case rel => exact ⟨j + 1, by simp, hjn, HF2.out, HX5.out⟩
          case measure => (simp [intOf] <;> omega)
      · obtain rfl : j = n := by omega
        have htk : l.take j = l := List.take_of_length_le (by rw [HN.out]; exact Nat.le_refl _)
        rw [htk] at HFr
        clear hfr htk hbr hbW
        go_wp2_with fail
        go_meet
        exact ⟨HFr.out, HBW.out⟩
  obtain ⟨hfr, hbv⟩ := hcut
  generalize wc = V at *
  have hc : putC k l = 0 := putC_zero.2 ⟨H0.out, hfr⟩
  have HCz := Lib.hid hc
  have HKn := Lib.hid (putC_new hc)
  have HBv := Lib.hid (HBw.out.trans (hbv.mono HBw.out.size))
  obtain ⟨k0, k1, k2⟩ := plc_cells hbox hbv
  clear hc hfr hbw hbox hzw hbv
  go_upto_region 9 with fail
  have hbw : Below V.heap.size V (V.alloc (.cells #[.int .i64 k.br, .int .i64 k.vol, .int .i64 k.blk, .int .u64 k.num] 46)) := (Below.refl _ _).alloc (Nat.le_refl _) _
  have hbox := Blk.new V #[.int .i64 k.br, .int .i64 k.vol, .int .i64 k.blk, .int .u64 k.num] 46
  generalize V.alloc (.cells #[.int .i64 k.br, .int .i64 k.vol, .int .i64 k.blk, .int .u64 k.num] 46) = U at *
  have HBu := Lib.hid (HBv.out.trans (hbw.mono HBv.out.size))
  have hzw : V.heap.size < U.heap.size := hbox.lt
  generalize V.heap.size = kb at *
  clear k0 k1 k2 HBv HBw hbw
  go_wp2_with fail
  go_loopw [10, 11, 12] (fun o d i X => Below U.heap.size U X ∧ PutRelS U.heap.size k l n o d i X) (fun _ _ i _ => (n - intOf i).toNat)
  case atStart => exact ⟨Below.refl _ _, 0, none, 0, rfl, Nat.zero_le _, by simp [(ptS_nil k).1], by simp [(ptS_nil k).2], by simpa [(ptS_nil k).2] using sps_nil U U.heap.size⟩
  case round =>
    obtain ⟨hbW, j, Ao, co, rfl, hj, rfl, rfl, hown⟩ := hrel
    have hbr := HBu.out.trans (hbW.mono HBu.out.size)
    have HBr := Lib.hid hbr
    have HBW := Lib.hid hbW
    have HO := Lib.hid hown
    have hNl : (ptS k (l.take j)).length ≤ j + 1 := by
      have h1 := ptS_len k (l.take j)
      rw [List.length_take] at h1
      omega
    obtain ⟨K, hK⟩ : ∃ K, (ptS k (l.take j)).length = K := ⟨_, rfl⟩
    have HK := Lib.hid hK
    rw [hK] at hNl ⊢
    clear hown hK
    by_cases hjn : j < n
    · have hja : j < l.length := by rw [HN.out]; exact hjn
      obtain ⟨ga, oa, hAe, la, ca⟩ := HA.out (by omega)
      subst hAe
      obtain ⟨t0, t1, t2, t3⟩ := ca j hja
      have hgl := la
      have HT := Lib.hid (ascS_take HS.out hja)
      have HTk := Lib.hid (List.take_succ_eq_append_getElem hja)
      obtain ⟨x, hx⟩ : ∃ x, l[j] = x := ⟨_, rfl⟩
      rw [hx] at t0 t1 t2 t3 HT HTk
      have s0 := bel_cell hbr la t0
      have s1 := bel_cell hbr la t1
      have s2 := bel_cell hbr la t2
      have s3 := bel_cell hbr la t3
      have HXk : Hid (x ≠ k) := fun e => HKn.out (e ▸ hx ▸ List.getElem_mem hja)
      obtain ⟨k0, k1, k2, k3, zk⟩ := box_cells hbox hbW
      have e1 : (0 : Int) ≤ (j : Int) := by omega
      have e2 : (j : Int) < (n : Int) := by omega
      have HX5s := Lib.hid (And.intro t0 (And.intro t1 (And.intro t2 t3)))
      clear hx ca la hja hbr t0 t1 t2 t3
      have z0 := cls_cell s0
      have z1 := cls_cell s1
      have z2 := cls_cell s2
      have z3 := cls_cell s3
      have y0 := cls_cell k0
      have y1 := cls_cell k1
      have y2 := cls_cell k2
      have y3 := cls_cell k3
      have := cls_ne wr
      have HBf : Hid (∀ X : Wd (Below wr.heap.size wr), Calls Try.prog 46 #[.agg #[.int .i64 k.br, .int .i64 k.vol, .int .i64 k.blk, .int .u64 k.num], .agg #[.int .i64 x.br, .int .i64 x.vol, .int .i64 x.blk, .int .u64 x.num]] X.w fun e w'' => e = .returned (.bool (lt k x)) ∧ ∃ m : Wd (Below wr.heap.size wr), w'' = m.w) := fun X => Calls.clsB (ahead26 k x X.w) (Nat.le_refl _)
      clear s0 s1 s2 s3 k0 k1 k2 k3
      cases hd : dnS k (l.take j) with
      | true =>
        obtain ⟨p0, p1⟩ := ptS_on HT.out hd
        have HP := Lib.hid (And.intro p0 p1)
        clear p0 p1
        go_wp2_with fail
        refine wp_region_cls (S := Below wr.heap.size wr) (by kernel_rfl) (by kernel_rfl) (bel_drewN _ _ (n := 1)) ?_
        repeat (go_big_quiet_step (with_reducible (first | exact HBf.out _)))
        refine wpQuiet_nil ?_
        rintro w6 ⟨⟨_, hx6⟩, rfl⟩
        try dsimp only
        have HX6 := Lib.hid hx6
        clear z0 z1 z2 z3 y0 y1 y2 y3 this hx6 HBf
        have s0 := bel_cell (HBr.out.trans (HX6.out.mono HBr.out.size)) hgl HX5s.out.1
        have s1 := bel_cell (HBr.out.trans (HX6.out.mono HBr.out.size)) hgl HX5s.out.2.1
        have s2 := bel_cell (HBr.out.trans (HX6.out.mono HBr.out.size)) hgl HX5s.out.2.2.1
        have s3 := bel_cell (HBr.out.trans (HX6.out.mono HBr.out.size)) hgl HX5s.out.2.2.2
        have hO6 : _ := own_stay HO.out (fun q hq => HX6.out.block q (own_lt HO.out q hq))
        rw [HK.out] at hO6
        have hb6 := HBW.out.trans (HX6.out.mono HBW.out.size)
        obtain ⟨A', c', w', hr', ho', hb'⟩ := app_P1 U.heap.size (.slice Ao K co) K _ hO6 hb6.size (by omega) x 29
        have HRun := Lib.hid hr'
        have HOx := Lib.hid ho'
        have HBx := Lib.hid (hb6.trans hb')
        clear hr' ho' hb' hb6 hO6 hd hbW
        go_wp2_with (at_builtin; refine Lib.wpList_append_run _ rfl _ _ _ _ rfl _ _ rfl rfl _ _ HRun.out ?_)
        go_roundw
        case rel =>
          have hnl : (ptS k (l.take (j + 1))).length = K + 1 := by rw [HTk.out, ← HP.out.2, List.length_append, HK.out]; rfl
          refine ⟨HBx.out, j + 1, A', c', by simp, hjn, by rw [HTk.out, HP.out.1], by rw [hnl], ?_⟩
          rw [hnl, HTk.out, ← HP.out.2]
          exact HOx.out
        case measure => (simp [intOf] <;> omega)
      | false =>
        go_wp2_with fail
        refine wp_region_cls (S := Below wr.heap.size wr) (by kernel_rfl) (by kernel_rfl) (bel_drewN _ _ (n := 1)) ?_
        repeat (go_big_quiet_step (with_reducible (first | exact HBf.out _)))
        refine wpQuiet_nil ?_
        rintro w6 ⟨⟨_, hx6⟩, rfl⟩
        try dsimp only
        have HX6 := Lib.hid hx6
        clear z0 z1 z2 z3 y0 y1 y2 y3 this hx6 HBf
        have hO6 : _ := own_stay HO.out (fun q hq => HX6.out.block q (own_lt HO.out q hq))
        rw [HK.out] at hO6
        have hb6 := HBW.out.trans (HX6.out.mono HBW.out.size)
        have HD := Lib.hid hd
        clear hd hbW
        cases hlt : lt k x with
        | true =>
          obtain ⟨p0, p1⟩ := ptS_gt HD.out hlt
          have HP := Lib.hid (And.intro p0 p1)
          obtain ⟨k0, k1, k2, k3, zk⟩ := box_cells hbox hb6
          obtain ⟨A', c', w', hr', ho', hb'⟩ := app_P1 U.heap.size (.slice Ao K co) K _ hO6 hb6.size (by omega) k 29
          have hb7 := hb6.trans hb'
          obtain ⟨A2, c2, w2, hr2, ho2, hb2⟩ := app_P1 U.heap.size (.slice A' (K + 1) c') (K + 1) _ ho' hb7.size (by omega) x 29
          have HRun := Lib.hid hr'
          have HRun2 := Lib.hid hr2
          have HOx := Lib.hid ho2
          have HBx := Lib.hid (hb7.trans hb2)
          have s0 := bel_cell (HBu.out.trans (hb7.mono HBu.out.size)) hgl HX5s.out.1
          have s1 := bel_cell (HBu.out.trans (hb7.mono HBu.out.size)) hgl HX5s.out.2.1
          have s2 := bel_cell (HBu.out.trans (hb7.mono HBu.out.size)) hgl HX5s.out.2.2.1
          have s3 := bel_cell (HBu.out.trans (hb7.mono HBu.out.size)) hgl HX5s.out.2.2.2
          clear hr' ho' hb' hb6 hO6 p0 p1 hlt hr2 ho2 hb2 hb7
          go_wp2_with (at_builtin; first | refine Lib.wpList_append_run _ rfl _ _ _ _ rfl _ _ rfl rfl _ _ HRun.out ?_ | refine Lib.wpList_append_run _ rfl _ _ _ _ rfl _ _ rfl rfl _ _ HRun2.out ?_)
          go_roundw
          case rel =>
            have hnl : (ptS k (l.take (j + 1))).length = K + 1 + 1 := by rw [HTk.out, ← HP.out.2, List.length_append, List.length_append, HK.out]; rfl
            refine ⟨HBx.out, j + 1, A2, c2, by simp, hjn, by rw [HTk.out, HP.out.1], by rw [hnl], ?_⟩
            rw [hnl, HTk.out, ← HP.out.2]
            exact HOx.out
          case measure => (simp [intOf] <;> omega)
        | false =>
          obtain ⟨p0, p1⟩ := ptS_lt HD.out hlt HXk.out
          have HP := Lib.hid (And.intro p0 p1)
          have s0 := bel_cell (HBr.out.trans (HX6.out.mono HBr.out.size)) hgl HX5s.out.1
          have s1 := bel_cell (HBr.out.trans (HX6.out.mono HBr.out.size)) hgl HX5s.out.2.1
          have s2 := bel_cell (HBr.out.trans (HX6.out.mono HBr.out.size)) hgl HX5s.out.2.2.1
          have s3 := bel_cell (HBr.out.trans (HX6.out.mono HBr.out.size)) hgl HX5s.out.2.2.2
          obtain ⟨A', c', w', hr', ho', hb'⟩ := app_P1 U.heap.size (.slice Ao K co) K _ hO6 hb6.size (by omega) x 29
          have HRun := Lib.hid hr'
          have HOx := Lib.hid ho'
          have HBx := Lib.hid (hb6.trans hb')
          clear hr' ho' hb' hb6 hO6 p0 p1 hlt
          go_wp2_with (at_builtin; refine Lib.wpList_append_run _ rfl _ _ _ _ rfl _ _ rfl rfl _ _ HRun.out ?_)
          go_roundw
          case rel =>
            have hnl : (ptS k (l.take (j + 1))).length = K + 1 := by rw [HTk.out, ← HP.out.2, List.length_append, HK.out]; rfl
            refine ⟨HBx.out, j + 1, A', c', by simp, hjn, by rw [HTk.out, HP.out.1], by rw [hnl], ?_⟩
            rw [hnl, HTk.out, ← HP.out.2]
            exact HOx.out
          case measure => (simp [intOf] <;> omega)
    · obtain rfl : j = n := by omega
      have htk : l.take j = l := List.take_of_length_le (by rw [HN.out]; exact Nat.le_refl _)
      rw [htk] at HO HK ⊢
      have hO : _ := HO.out
      rw [HK.out] at hO
      have hps : putS k l = insS k l := by unfold putS; rw [if_pos HCz.out]
      have HPs := Lib.hid hps
      cases hd : dnS k l with
      | true =>
        have HPt := Lib.hid (ptS_all hd)
        clear hps hd hbr hbW hO htk
        go_wp2_with fail
        go_ret2
        have hO : _ := HO.out
        rw [HK.out] at hO
        obtain ⟨hit, _⟩ := spots_own' hO HK.out
        rw [HPt.out] at hit
        exact ⟨Ao, co, by rw [HCz.out, HPs.out, ← HPt.out, HK.out]; rfl, by rw [HPs.out]; exact hit, HBr.out⟩
      | false =>
        have HPt := Lib.hid (ptS_end hd)
        obtain ⟨k0, k1, k2, k3, zk⟩ := box_cells hbox hbW
        obtain ⟨A', c', w', hr', ho', hb'⟩ := app_P1 U.heap.size (.slice Ao K co) K _ hO hbW.size (by omega) k 29
        have HRun := Lib.hid hr'
        have HOx := Lib.hid ho'
        have HBx := Lib.hid (hbW.trans hb')
        clear hps hr' ho' hb' hd hbr hbW hO htk
        go_wp2_with (at_builtin; refine Lib.wpList_append_run _ rfl _ _ _ _ rfl _ _ rfl rfl _ _ HRun.out ?_)
        go_ret2
        have hlen : (ptS k l ++ [k]).length = K + 1 := by rw [List.length_append, HK.out]; rfl
        obtain ⟨hit, _⟩ := spots_own' HOx.out hlen
        rw [HPt.out] at hit hlen
        exact ⟨A', c', by rw [HCz.out, HPs.out, hlen]; rfl, by rw [HPs.out]; exact hit, HBu.out.trans (HBx.out.mono HBu.out.size)⟩
end Go.Proofs.Ytlackkhkaceblaa.N

/- done: deeds are done to an index and to the document's list. -/
namespace Go.Proofs.Ytlackkhkaceblaa.N
open Go.BigFrame Go.RowKit Go.Shelf Go.Proofs.YtlackkhkaceblaaW.PrintMore Go.Proofs.YtlackkhkaceblaaW.PrintWords
set_option linter.unusedVariables false
set_option linter.unusedSimpArgs false
def ActAt (w : World) (b o : Nat) (a : Ac) : Prop := w.cell? ⟨b, o, none⟩ = some (.int .u8 a.go) ∧ w.cell? ⟨b, o + 1, none⟩ = some (.int .i64 a.s.br) ∧ w.cell? ⟨b, o + 2, none⟩ = some (.int .i64 a.s.vol) ∧ w.cell? ⟨b, o + 3, none⟩ = some (.int .i64 a.s.blk) ∧ w.cell? ⟨b, o + 4, none⟩ = some (.int .u64 a.s.num)
def ActsAt (w : World) (A : Option Addr) (l : List Ac) : Prop := 0 < l.length → ∃ b off, A = some ⟨b, off, none⟩ ∧ b < w.heap.size ∧ ∀ j (h : j < l.length), ActAt w b (off + j * 5) l[j]
theorem ActAt.below {w w' : World} {b o B : Nat} {d : Ac} (h : ActAt w b o d) (hb : Below B w w') (hlt : b < B) : ActAt w' b o d := by
  obtain ⟨a0, a1, a2, a3, a4⟩ := h
  exact ⟨bel_cell hb hlt a0, bel_cell hb hlt a1, bel_cell hb hlt a2, bel_cell hb hlt a3, bel_cell hb hlt a4⟩
theorem ActsAt.below {w w' : World} {A : Option Addr} {l : List Ac} (h : ActsAt w A l) (hb : Below w.heap.size w w') : ActsAt w' A l := fun hl => by
  obtain ⟨b, off, e, hlt, hc⟩ := h hl
  exact ⟨b, off, e, Nat.lt_of_lt_of_le hlt hb.size, fun j hj => (hc j hj).below hb hlt⟩
/-- The acts' row stands below a block. -/
def LiesBelow (A : Option Addr) (n b : Nat) : Prop := ∀ q off, A = some ⟨q, off, none⟩ → 0 < n → q < b
def AcOk (a : Ac) : Prop := a.s.ok ∧ 0 ≤ a.go ∧ a.go ≤ 255
theorem IdxAt.grown {w w' : World} {b : Nat} {ls : List Sp} {A : Option Addr} {l : List Sp} (h : IdxAt w b ls) (hg : w.grownBy w' (some b)) (hs : SpotsAt w A l) : SpotsAt w' A l := hs.grownP h.pb hg
def DoneRel (w : World) (b : Nat) (ac : List Ac) (n : Nat) (o i : Value) (X : World) : Prop := ∃ (j : Nat) (A : Option Addr) (c : Nat), i = .int .i64 j ∧ j ≤ n ∧ o = .slice A (doneS (ac.take j)).length c ∧ IdxAt X b (doneS (ac.take j)) ∧ SpotsAt X A (doneS (ac.take j)) ∧ w.grownBy X (some b)
theorem done_take_len (ac : List Ac) (j : Nat) : (doneS (ac.take j)).length ≤ j := by
  have := doneS_len (ac.take j)
  rw [List.length_take] at this
  omega
theorem done_take_good {ac : List Ac} (h : ∀ a ∈ ac, AcOk a) (j : Nat) : Good (doneS (ac.take j)) := done_good (fun a ha => (h a (List.mem_of_mem_take ha)).1)
set_option maxHeartbeats 6400000 in
set_option maxRecDepth 100000 in
theorem done26 {w : World} {b : Nat} {A : Option Addr} {ac : List Ac} {n c : Nat} (hx : IdxAt w b []) (hd : ActsAt w A ac) (hlt : LiesBelow A n b) (hn : ac.length = n) (hl : n ≤ 100) (hk : ∀ a ∈ ac, AcOk a) :
    Calls Try.prog 13 #[.pointer (some ⟨b, 0, none⟩), .slice A n c] w fun e w' => ∃ A' c', e = .returned (.tuple #[.slice A' (doneS ac).length c', .int .i64 1]) ∧ IdxAt w' b (doneS ac) ∧ SpotsAt w' A' (doneS ac) ∧ w.grownBy w' (some b) := by
  have HX := Lib.hid hx
  have HD0 := Lib.hid hd
  have HLt := Lib.hid hlt
  have HN := Lib.hid hn
  have HL := Lib.hid hl
  have HK := Lib.hid hk
  clear hx hd hlt hn hk
  go_enter Try.func13, Try.ntmps13
  go_wp2_with fail
  go_loopw [6, 7] (fun o i X => DoneRel w b ac n o i X) (fun _ i _ => (n - intOf i).toNat)
  case atStart => exact ⟨0, none, 0, rfl, Nat.zero_le _, rfl, HX.out, (fun h => by simp [doneS] at h), World.grownBy.refl _ _⟩
  case round =>
    obtain ⟨j, Ao, co, rfl, hj, rfl, hi, hs, hgr⟩ := hrel
    have HGr := Lib.hid hgr
    have HI := Lib.hid hi
    have HSp := Lib.hid hs
    by_cases hjn : j < n
    · have hjl : j < ac.length := by rw [HN.out]; exact hjn
      have hpl := done_take_len ac j
      have hgd := done_take_good HK.out j
      have hsucc := doneS_succ hjl
      have hok := HK.out _ (List.getElem_mem hjl)
      obtain ⟨ga, oa, hAe, la, ca⟩ := HD0.out (by omega)
      have hgb := HLt.out ga oa hAe (by omega)
      subst hAe
      have hne : some ga ≠ some b := by simp; omega
      obtain ⟨s0, s1, s2, s3, s4⟩ := ca j hjl
      replace s0 := hgr.cell s0 hne
      replace s1 := hgr.cell s1 hne
      replace s2 := hgr.cell s2 hne
      replace s3 := hgr.cell s3 hne
      replace s4 := hgr.cell s4 hne
      have hga := World.block_lt_of_cell? _ _ s0
      obtain ⟨a, haa⟩ : ∃ a, ac[j] = a := ⟨_, rfl⟩
      rw [haa] at s0 s1 s2 s3 s4 hsucc hok
      obtain ⟨ls, hll⟩ : ∃ ls, doneS (ac.take j) = ls := ⟨_, rfl⟩
      rw [hll] at hpl hsucc hgd HI HSp ⊢
      have HSu := Lib.hid hsucc
      have HPl := Lib.hid hpl
      have HGd := Lib.hid hgd
      have e1 : (0 : Int) ≤ (j : Int) := by omega
      have e2 : (j : Int) < (n : Int) := by omega
      obtain ⟨LJ, hLJ⟩ : ∃ LJ, ls.length = LJ := ⟨_, rfl⟩
      rw [hLJ] at HPl ⊢
      have HLJ := Lib.hid hLJ
      have heldg : ∀ X, wr.grownBy X (some b) → (fun w' => w'.cell? ⟨ga, oa + j * 5 + 1, none⟩ = some (.int .i64 a.s.br) ∧ w'.cell? ⟨ga, oa + j * 5 + 2, none⟩ = some (.int .i64 a.s.vol) ∧ w'.cell? ⟨ga, oa + j * 5 + 3, none⟩ = some (.int .i64 a.s.blk) ∧ w'.cell? ⟨ga, oa + j * 5 + 4, none⟩ = some (.int .u64 a.s.num)) X := fun X hX => ⟨hX.cell s1 hne, hX.cell s2 hne, hX.cell s3 hne, hX.cell s4 hne⟩
      have HHg := Lib.hid heldg
      obtain ⟨go, hgo⟩ : ∃ go : Nat, a.go = (go : Int) := ⟨a.go.toNat, by have := hok.2.1; omega⟩
      have hgo2 : go ≤ 255 := by have := hok.2.2; omega
      rw [hgo] at s0
      have held : ∀ X, Below wr.heap.size wr X → (fun w' => w'.cell? ⟨ga, oa + j * 5 + 1, none⟩ = some (.int .i64 a.s.br) ∧ w'.cell? ⟨ga, oa + j * 5 + 2, none⟩ = some (.int .i64 a.s.vol) ∧ w'.cell? ⟨ga, oa + j * 5 + 3, none⟩ = some (.int .i64 a.s.blk) ∧ w'.cell? ⟨ga, oa + j * 5 + 4, none⟩ = some (.int .u64 a.s.num)) X := fun X hX => heldg X (below_grown hX rfl)
      clear ca la haa hll hsucc hs hi hgr hLJ hpl hgd hok hgb s1 s2 s3 s4
      by_cases hg3 : go % 4 = 3
      · have hm : (((go : Int) % 4) == 3) = true := by rw [beq_iff_eq]; omega
        have hst : stepS ls a = delS a.s ls := by unfold stepS; rw [if_pos (by rw [hgo]; omega)]
        have HD : Hid (∀ X, Below wr.heap.size wr X → Calls Try.prog 18 #[.pointer (some ⟨b, 0, none⟩), .agg #[.int .i64 a.s.br, .int .i64 a.s.vol, .int .i64 a.s.blk], .int .u64 a.s.num] X fun e w' => e = .returned (.int .i64 (dropC a.s ls)) ∧ IdxAt w' b (delS a.s ls) ∧ X.grownBy w' (some b)) := fun X hX => drop_idx (HI.out.below hX) (by rw [HLJ.out]; have := HPl.out; have := HL.out; omega) a.s
        have HSt := Lib.hid hst
        clear hst hgo hg3
        go_upto_region 7 with fail
        refine wp_region_held_drew (S := (fun w' => w'.cell? ⟨ga, oa + j * 5 + 1, none⟩ = some (.int .i64 a.s.br) ∧ w'.cell? ⟨ga, oa + j * 5 + 2, none⟩ = some (.int .i64 a.s.vol) ∧ w'.cell? ⟨ga, oa + j * 5 + 3, none⟩ = some (.int .i64 a.s.blk) ∧ w'.cell? ⟨ga, oa + j * 5 + 4, none⟩ = some (.int .u64 a.s.num))) (by kernel_rfl) (held _ (bel_drewN _ _ (n := 1))) (fun hHeld => ?_)
        obtain ⟨X0, hwd⟩ : ∃ Wn, Wn = World.drew wr := ⟨_, rfl⟩
        rw [← hwd] at hHeld ⊢
        have hbX0 : Below wr.heap.size wr X0 := by rw [hwd]; exact bel_drewN _ _ (n := 1)
        clear hwd 
        refine take_at (i := 0) (v := ?_) rfl (by kernel_rfl) (by kernel_rfl) (by kernel_rfl) (fun _ _ _ h => h) (Or.inl ⟨by rfl, ?_⟩) (by assumption) ?_
        rotate_left
        · (intro w' hSw; (try dsimp only at hSw); go_simp <;> (with_reducible rfl))
        try simp only [Act.put, List.setIfInBounds_toArray, List.set_cons_zero, List.set_cons_succ]
        refine take_at (i := 1) (v := ?_) rfl (by kernel_rfl) (by kernel_rfl) (by kernel_rfl) (fun _ _ _ h => h) (Or.inl ⟨by rfl, ?_⟩) (by assumption) ?_
        rotate_left
        · (intro w' hSw; (try dsimp only at hSw); go_simp <;> (with_reducible rfl))
        try simp only [Act.put, List.setIfInBounds_toArray, List.set_cons_zero, List.set_cons_succ]
        refine take_at (i := 2) (v := ?_) rfl (by kernel_rfl) (by kernel_rfl) (by kernel_rfl) (fun _ _ _ h => h) (Or.inl ⟨by rfl, ?_⟩) (by assumption) ?_
        rotate_left
        · (intro w' hSw; (try dsimp only at hSw); go_simp <;> (with_reducible rfl))
        try simp only [Act.put, List.setIfInBounds_toArray, List.set_cons_zero, List.set_cons_succ]
        refine take_at (i := 3) (v := ?_) rfl (by kernel_rfl) (by kernel_rfl) (by kernel_rfl) (fun _ _ _ h => h) (Or.inl ⟨by rfl, ?_⟩) (by assumption) ?_
        rotate_left
        · (intro w' hSw; (try dsimp only at hSw); go_simp <;> (with_reducible rfl))
        try simp only [Act.put, List.setIfInBounds_toArray, List.set_cons_zero, List.set_cons_succ]
        refine take_at (i := 4) (v := ?_) rfl (by kernel_rfl) (by kernel_rfl) (by kernel_rfl) (fun _ _ _ h => h) (Or.inl ⟨by rfl, ?_⟩) (by assumption) ?_
        rotate_left
        · (intro w' hSw; (try dsimp only at hSw); go_simp <;> (with_reducible rfl))
        try simp only [Act.put, List.setIfInBounds_toArray, List.set_cons_zero, List.set_cons_succ]
        refine take_at (i := 5) (v := ?_) rfl (by kernel_rfl) (by kernel_rfl) (by kernel_rfl) (fun _ _ _ h => h) (Or.inl ⟨by rfl, ?_⟩) (by assumption) ?_
        rotate_left
        · (intro w' hSw; (try dsimp only at hSw); go_simp <;> (with_reducible rfl))
        try simp only [Act.put, List.setIfInBounds_toArray, List.set_cons_zero, List.set_cons_succ]
        refine take_at (i := 6) (v := ?_) rfl (by kernel_rfl) (by kernel_rfl) (by kernel_rfl) (fun _ _ _ h => h) (Or.inl ⟨by rfl, ?_⟩) (by assumption) ?_
        rotate_left
        · (intro w' hSw; (try dsimp only at hSw); go_simp <;> (with_reducible rfl))
        try simp only [Act.put, List.setIfInBounds_toArray, List.set_cons_zero, List.set_cons_succ]
        refine take_at (i := 7) (v := ?_) rfl (by kernel_rfl) (by kernel_rfl) (by kernel_rfl) (fun _ _ _ h => h) (Or.inl ⟨by rfl, ?_⟩) (by assumption) ?_
        rotate_left
        · (intro w' hSw; (try dsimp only at hSw); go_simp <;> (with_reducible rfl))
        try simp only [Act.put, List.setIfInBounds_toArray, List.set_cons_zero, List.set_cons_succ]
        refine take_at (i := 8) (v := ?_) rfl (by kernel_rfl) (by kernel_rfl) (by kernel_rfl) (fun _ _ _ h => h) (Or.inl ⟨by rfl, ?_⟩) (by assumption) ?_
        rotate_left
        · (intro w' hSw; (try dsimp only at hSw); go_simp <;> (with_reducible rfl))
        try simp only [Act.put, List.setIfInBounds_toArray, List.set_cons_zero, List.set_cons_succ]
        refine take_at (i := 9) (v := ?_) rfl (by kernel_rfl) (by kernel_rfl) (by kernel_rfl) (fun _ _ _ h => h) (Or.inl ⟨by rfl, ?_⟩) (by assumption) ?_
        rotate_left
        · (intro w' hSw; (try dsimp only at hSw); go_simp <;> (with_reducible rfl))
        try simp only [Act.put, List.setIfInBounds_toArray, List.set_cons_zero, List.set_cons_succ]
        refine take_at (i := 10) (v := ?_) rfl (by kernel_rfl) (by kernel_rfl) (by kernel_rfl) (fun _ _ _ h => h) (Or.inl ⟨by rfl, ?_⟩) (by assumption) ?_
        rotate_left
        · (intro w' hSw; (try dsimp only at hSw); go_simp <;> (with_reducible rfl))
        try simp only [Act.put, List.setIfInBounds_toArray, List.set_cons_zero, List.set_cons_succ]
        refine one_at (i := 11) rfl (by kernel_rfl) (by rfl) (fun K hK => ?_)
        go_simp
        refine (HD.out X0 hbX0).mono ?_
        rintro e X1 ⟨rfl, hi1, hg1⟩
        have hgr := (below_grown (row := some b) hbX0 rfl).trans hg1
        go_simp
        refine hK.out _ _ (heldg _ hgr) (fun hHeld1 => ?_)
        clear hK K
        try simp only [Act.put, List.setIfInBounds_toArray, List.set_cons_zero, List.set_cons_succ]
        refine take_at (i := 12) (v := ?_) rfl (by kernel_rfl) (by kernel_rfl) (by kernel_rfl) (fun _ _ _ h => h) (Or.inl ⟨by rfl, ?_⟩) (by assumption) ?_
        rotate_left
        · (intro w' hSw; (try dsimp only at hSw); go_simp <;> (with_reducible rfl))
        try simp only [Act.put, List.setIfInBounds_toArray, List.set_cons_zero, List.set_cons_succ]
        refine wpAnyH_done (by kernel_rfl) ?_ _
        try simp only [Act.put, List.setIfInBounds_toArray, List.set_cons_zero, List.set_cons_succ]
        have hsx := HI.out.grown hgr HSp.out
        have HSx := Lib.hid hsx
        have HE : Hid (∀ X, Below X1.heap.size X1 X → Calls Try.prog 31 #[.slice Ao LJ co, .agg #[.int .i64 a.s.br, .int .i64 a.s.vol, .int .i64 a.s.blk], .int .u64 a.s.num] X (ResS X (delS a.s ls) (dropC a.s ls))) := fun X hX => adrop26 (HSx.out.below hX) HLJ.out (by have := HPl.out; have := HL.out; omega) HI.out.1 a.s
        generalize dropC a.s ls = cc at *
        have HI1 := Lib.hid hi1
        have HGr1 := Lib.hid hgr
        clear held hHeld hHeld1 hbX0 hg1 hi1 hgr hsx HD
        go_upto_region 8 with fail
        have held : ∀ X, Below X1.heap.size X1 X → (fun w' => w'.cell? ⟨ga, oa + j * 5 + 1, none⟩ = some (.int .i64 a.s.br) ∧ w'.cell? ⟨ga, oa + j * 5 + 2, none⟩ = some (.int .i64 a.s.vol) ∧ w'.cell? ⟨ga, oa + j * 5 + 3, none⟩ = some (.int .i64 a.s.blk) ∧ w'.cell? ⟨ga, oa + j * 5 + 4, none⟩ = some (.int .u64 a.s.num)) X := fun X hX => HHg.out X (HGr1.out.trans (below_grown hX rfl))
        refine wp_region_held_drew (S := (fun w' => w'.cell? ⟨ga, oa + j * 5 + 1, none⟩ = some (.int .i64 a.s.br) ∧ w'.cell? ⟨ga, oa + j * 5 + 2, none⟩ = some (.int .i64 a.s.vol) ∧ w'.cell? ⟨ga, oa + j * 5 + 3, none⟩ = some (.int .i64 a.s.blk) ∧ w'.cell? ⟨ga, oa + j * 5 + 4, none⟩ = some (.int .u64 a.s.num))) (by kernel_rfl) (held _ (bel_drewN _ _ (n := 1))) (fun hHeld => ?_)
        obtain ⟨Y0, hwd⟩ : ∃ Wn, Wn = World.drew X1 := ⟨_, rfl⟩
        rw [← hwd] at hHeld ⊢
        have hbY0 : Below X1.heap.size X1 Y0 := by rw [hwd]; exact bel_drewN _ _ (n := 1)
        clear hwd 
        refine take_at (i := 0) (v := ?_) rfl (by kernel_rfl) (by kernel_rfl) (by kernel_rfl) (fun _ _ _ h => h) (Or.inl ⟨by rfl, ?_⟩) (by assumption) ?_
        rotate_left
        · (intro w' hSw; (try dsimp only at hSw); go_simp <;> (with_reducible rfl))
        try simp only [Act.put, List.setIfInBounds_toArray, List.set_cons_zero, List.set_cons_succ]
        refine take_at (i := 1) (v := ?_) rfl (by kernel_rfl) (by kernel_rfl) (by kernel_rfl) (fun _ _ _ h => h) (Or.inl ⟨by rfl, ?_⟩) (by assumption) ?_
        rotate_left
        · (intro w' hSw; (try dsimp only at hSw); go_simp <;> (with_reducible rfl))
        try simp only [Act.put, List.setIfInBounds_toArray, List.set_cons_zero, List.set_cons_succ]
        refine take_at (i := 2) (v := ?_) rfl (by kernel_rfl) (by kernel_rfl) (by kernel_rfl) (fun _ _ _ h => h) (Or.inl ⟨by rfl, ?_⟩) (by assumption) ?_
        rotate_left
        · (intro w' hSw; (try dsimp only at hSw); go_simp <;> (with_reducible rfl))
        try simp only [Act.put, List.setIfInBounds_toArray, List.set_cons_zero, List.set_cons_succ]
        refine take_at (i := 3) (v := ?_) rfl (by kernel_rfl) (by kernel_rfl) (by kernel_rfl) (fun _ _ _ h => h) (Or.inl ⟨by rfl, ?_⟩) (by assumption) ?_
        rotate_left
        · (intro w' hSw; (try dsimp only at hSw); go_simp <;> (with_reducible rfl))
        try simp only [Act.put, List.setIfInBounds_toArray, List.set_cons_zero, List.set_cons_succ]
        refine take_at (i := 4) (v := ?_) rfl (by kernel_rfl) (by kernel_rfl) (by kernel_rfl) (fun _ _ _ h => h) (Or.inl ⟨by rfl, ?_⟩) (by assumption) ?_
        rotate_left
        · (intro w' hSw; (try dsimp only at hSw); go_simp <;> (with_reducible rfl))
        try simp only [Act.put, List.setIfInBounds_toArray, List.set_cons_zero, List.set_cons_succ]
        refine take_at (i := 5) (v := ?_) rfl (by kernel_rfl) (by kernel_rfl) (by kernel_rfl) (fun _ _ _ h => h) (Or.inl ⟨by rfl, ?_⟩) (by assumption) ?_
        rotate_left
        · (intro w' hSw; (try dsimp only at hSw); go_simp <;> (with_reducible rfl))
        try simp only [Act.put, List.setIfInBounds_toArray, List.set_cons_zero, List.set_cons_succ]
        refine take_at (i := 6) (v := ?_) rfl (by kernel_rfl) (by kernel_rfl) (by kernel_rfl) (fun _ _ _ h => h) (Or.inl ⟨by rfl, ?_⟩) (by assumption) ?_
        rotate_left
        · (intro w' hSw; (try dsimp only at hSw); go_simp <;> (with_reducible rfl))
        try simp only [Act.put, List.setIfInBounds_toArray, List.set_cons_zero, List.set_cons_succ]
        refine take_at (i := 7) (v := ?_) rfl (by kernel_rfl) (by kernel_rfl) (by kernel_rfl) (fun _ _ _ h => h) (Or.inl ⟨by rfl, ?_⟩) (by assumption) ?_
        rotate_left
        · (intro w' hSw; (try dsimp only at hSw); go_simp <;> (with_reducible rfl))
        try simp only [Act.put, List.setIfInBounds_toArray, List.set_cons_zero, List.set_cons_succ]
        refine take_at (i := 8) (v := ?_) rfl (by kernel_rfl) (by kernel_rfl) (by kernel_rfl) (fun _ _ _ h => h) (Or.inl ⟨by rfl, ?_⟩) (by assumption) ?_
        rotate_left
        · (intro w' hSw; (try dsimp only at hSw); go_simp <;> (with_reducible rfl))
        try simp only [Act.put, List.setIfInBounds_toArray, List.set_cons_zero, List.set_cons_succ]
        refine take_at (i := 9) (v := ?_) rfl (by kernel_rfl) (by kernel_rfl) (by kernel_rfl) (fun _ _ _ h => h) (Or.inl ⟨by rfl, ?_⟩) (by assumption) ?_
        rotate_left
        · (intro w' hSw; (try dsimp only at hSw); go_simp <;> (with_reducible rfl))
        try simp only [Act.put, List.setIfInBounds_toArray, List.set_cons_zero, List.set_cons_succ]
        refine take_at (i := 10) (v := ?_) rfl (by kernel_rfl) (by kernel_rfl) (by kernel_rfl) (fun _ _ _ h => h) (Or.inl ⟨by rfl, ?_⟩) (by assumption) ?_
        rotate_left
        · (intro w' hSw; (try dsimp only at hSw); go_simp <;> (with_reducible rfl))
        try simp only [Act.put, List.setIfInBounds_toArray, List.set_cons_zero, List.set_cons_succ]
        refine one_at (i := 11) rfl (by kernel_rfl) (by rfl) (fun K hK => ?_)
        go_simp
        refine (HE.out Y0 hbY0).mono ?_
        rintro e Y1 ⟨A2, c2, rfl, hs2, hb1⟩
        have hbY1 := hbY0.trans (hb1.mono hbY0.size)
        go_simp
        refine hK.out _ _ (held _ hbY1) (fun hHeld1 => ?_)
        clear hK K
        try simp only [Act.put, List.setIfInBounds_toArray, List.set_cons_zero, List.set_cons_succ]
        refine take_at (i := 12) (v := ?_) rfl (by kernel_rfl) (by kernel_rfl) (by kernel_rfl) (fun _ _ _ h => h) (Or.inl ⟨by rfl, ?_⟩) (by assumption) ?_
        rotate_left
        · (intro w' hSw; (try dsimp only at hSw); go_simp <;> (with_reducible rfl))
        try simp only [Act.put, List.setIfInBounds_toArray, List.set_cons_zero, List.set_cons_succ]
        refine take_at (i := 13) (v := ?_) rfl (by kernel_rfl) (by kernel_rfl) (by kernel_rfl) (fun _ _ _ h => h) (Or.inl ⟨by rfl, ?_⟩) (by assumption) ?_
        rotate_left
        · (intro w' hSw; (try dsimp only at hSw); go_simp <;> (with_reducible rfl))
        try simp only [Act.put, List.setIfInBounds_toArray, List.set_cons_zero, List.set_cons_succ]
        refine take_at (i := 14) (v := ?_) rfl (by kernel_rfl) (by kernel_rfl) (by kernel_rfl) (fun _ _ _ h => h) (Or.inl ⟨by rfl, ?_⟩) (by assumption) ?_
        rotate_left
        · (intro w' hSw; (try dsimp only at hSw); go_simp <;> (with_reducible rfl))
        try simp only [Act.put, List.setIfInBounds_toArray, List.set_cons_zero, List.set_cons_succ]
        refine take_at (i := 15) (v := ?_) rfl (by kernel_rfl) (by kernel_rfl) (by kernel_rfl) (fun _ _ _ h => h) (Or.inl ⟨by rfl, ?_⟩) (by assumption) ?_
        rotate_left
        · (intro w' hSw; (try dsimp only at hSw); go_simp <;> (with_reducible rfl))
        try simp only [Act.put, List.setIfInBounds_toArray, List.set_cons_zero, List.set_cons_succ]
        refine take_at (i := 16) (v := ?_) rfl (by kernel_rfl) (by kernel_rfl) (by kernel_rfl) (fun _ _ _ h => h) (Or.inl ⟨by rfl, ?_⟩) (by assumption) ?_
        rotate_left
        · (intro w' hSw; (try dsimp only at hSw); go_simp <;> (with_reducible rfl))
        try simp only [Act.put, List.setIfInBounds_toArray, List.set_cons_zero, List.set_cons_succ]
        refine wpAnyH_done (by kernel_rfl) ?_ _
        try simp only [Act.put, List.setIfInBounds_toArray, List.set_cons_zero, List.set_cons_succ]
        have HR := Lib.hid (And.intro (HI1.out.below hbY1) (And.intro hs2 ((HGr.out.trans HGr1.out).trans (below_grown hbY1 rfl))))
        have hcc : (cc != cc) = false := by simp
        obtain ⟨L2, hL2⟩ : ∃ L2, (delS a.s ls).length = L2 := ⟨_, rfl⟩
        have HL2 := Lib.hid hL2
        rw [hL2]
        clear held hHeld hHeld1 hbY0 hbY1 hs2 hb1 HE heldg hL2
        go_wp2_with fail
        go_roundw
        case rel => exact ⟨j + 1, A2, c2, by simp, hjn, by rw [HSu.out, HSt.out, HL2.out], by rw [HSu.out, HSt.out]; exact HR.out.1, by rw [HSu.out, HSt.out]; exact HR.out.2.1, HR.out.2.2⟩
        case measure => (simp [intOf] <;> omega)
      · have hm : (((go : Int) % 4) == 3) = false := by rw [beq_eq_false_iff_ne]; omega
        have hst : stepS ls a = putS a.s ls := by unfold stepS; rw [if_neg (by rw [hgo]; omega)]
        have HP : Hid (∀ X, Below wr.heap.size wr X → Calls Try.prog 17 #[.pointer (some ⟨b, 0, none⟩), .agg #[.int .i64 a.s.br, .int .i64 a.s.vol, .int .i64 a.s.blk], .int .u64 a.s.num] X fun e w' => e = .returned (.int .i64 (putC a.s ls)) ∧ IdxAt w' b (putS a.s ls) ∧ X.grownBy w' (some b)) := fun X hX => put_idx (HI.out.below hX) HGd.out (by rw [HLJ.out]; have := HPl.out; have := HL.out; omega) a.s
        have HSt := Lib.hid hst
        clear hst hgo hg3
        go_upto_region 9 with fail
        refine wp_region_held_drew (S := (fun w' => w'.cell? ⟨ga, oa + j * 5 + 1, none⟩ = some (.int .i64 a.s.br) ∧ w'.cell? ⟨ga, oa + j * 5 + 2, none⟩ = some (.int .i64 a.s.vol) ∧ w'.cell? ⟨ga, oa + j * 5 + 3, none⟩ = some (.int .i64 a.s.blk) ∧ w'.cell? ⟨ga, oa + j * 5 + 4, none⟩ = some (.int .u64 a.s.num))) (by kernel_rfl) (held _ (bel_drewN _ _ (n := 1))) (fun hHeld => ?_)
        obtain ⟨X0, hwd⟩ : ∃ Wn, Wn = World.drew wr := ⟨_, rfl⟩
        rw [← hwd] at hHeld ⊢
        have hbX0 : Below wr.heap.size wr X0 := by rw [hwd]; exact bel_drewN _ _ (n := 1)
        clear hwd 
        refine take_at (i := 0) (v := ?_) rfl (by kernel_rfl) (by kernel_rfl) (by kernel_rfl) (fun _ _ _ h => h) (Or.inl ⟨by rfl, ?_⟩) (by assumption) ?_
        rotate_left
        · (intro w' hSw; (try dsimp only at hSw); go_simp <;> (with_reducible rfl))
        try simp only [Act.put, List.setIfInBounds_toArray, List.set_cons_zero, List.set_cons_succ]
        refine take_at (i := 1) (v := ?_) rfl (by kernel_rfl) (by kernel_rfl) (by kernel_rfl) (fun _ _ _ h => h) (Or.inl ⟨by rfl, ?_⟩) (by assumption) ?_
        rotate_left
        · (intro w' hSw; (try dsimp only at hSw); go_simp <;> (with_reducible rfl))
        try simp only [Act.put, List.setIfInBounds_toArray, List.set_cons_zero, List.set_cons_succ]
        refine take_at (i := 2) (v := ?_) rfl (by kernel_rfl) (by kernel_rfl) (by kernel_rfl) (fun _ _ _ h => h) (Or.inl ⟨by rfl, ?_⟩) (by assumption) ?_
        rotate_left
        · (intro w' hSw; (try dsimp only at hSw); go_simp <;> (with_reducible rfl))
        try simp only [Act.put, List.setIfInBounds_toArray, List.set_cons_zero, List.set_cons_succ]
        refine take_at (i := 3) (v := ?_) rfl (by kernel_rfl) (by kernel_rfl) (by kernel_rfl) (fun _ _ _ h => h) (Or.inl ⟨by rfl, ?_⟩) (by assumption) ?_
        rotate_left
        · (intro w' hSw; (try dsimp only at hSw); go_simp <;> (with_reducible rfl))
        try simp only [Act.put, List.setIfInBounds_toArray, List.set_cons_zero, List.set_cons_succ]
        refine take_at (i := 4) (v := ?_) rfl (by kernel_rfl) (by kernel_rfl) (by kernel_rfl) (fun _ _ _ h => h) (Or.inl ⟨by rfl, ?_⟩) (by assumption) ?_
        rotate_left
        · (intro w' hSw; (try dsimp only at hSw); go_simp <;> (with_reducible rfl))
        try simp only [Act.put, List.setIfInBounds_toArray, List.set_cons_zero, List.set_cons_succ]
        refine take_at (i := 5) (v := ?_) rfl (by kernel_rfl) (by kernel_rfl) (by kernel_rfl) (fun _ _ _ h => h) (Or.inl ⟨by rfl, ?_⟩) (by assumption) ?_
        rotate_left
        · (intro w' hSw; (try dsimp only at hSw); go_simp <;> (with_reducible rfl))
        try simp only [Act.put, List.setIfInBounds_toArray, List.set_cons_zero, List.set_cons_succ]
        refine take_at (i := 6) (v := ?_) rfl (by kernel_rfl) (by kernel_rfl) (by kernel_rfl) (fun _ _ _ h => h) (Or.inl ⟨by rfl, ?_⟩) (by assumption) ?_
        rotate_left
        · (intro w' hSw; (try dsimp only at hSw); go_simp <;> (with_reducible rfl))
        try simp only [Act.put, List.setIfInBounds_toArray, List.set_cons_zero, List.set_cons_succ]
        refine take_at (i := 7) (v := ?_) rfl (by kernel_rfl) (by kernel_rfl) (by kernel_rfl) (fun _ _ _ h => h) (Or.inl ⟨by rfl, ?_⟩) (by assumption) ?_
        rotate_left
        · (intro w' hSw; (try dsimp only at hSw); go_simp <;> (with_reducible rfl))
        try simp only [Act.put, List.setIfInBounds_toArray, List.set_cons_zero, List.set_cons_succ]
        refine take_at (i := 8) (v := ?_) rfl (by kernel_rfl) (by kernel_rfl) (by kernel_rfl) (fun _ _ _ h => h) (Or.inl ⟨by rfl, ?_⟩) (by assumption) ?_
        rotate_left
        · (intro w' hSw; (try dsimp only at hSw); go_simp <;> (with_reducible rfl))
        try simp only [Act.put, List.setIfInBounds_toArray, List.set_cons_zero, List.set_cons_succ]
        refine take_at (i := 9) (v := ?_) rfl (by kernel_rfl) (by kernel_rfl) (by kernel_rfl) (fun _ _ _ h => h) (Or.inl ⟨by rfl, ?_⟩) (by assumption) ?_
        rotate_left
        · (intro w' hSw; (try dsimp only at hSw); go_simp <;> (with_reducible rfl))
        try simp only [Act.put, List.setIfInBounds_toArray, List.set_cons_zero, List.set_cons_succ]
        refine take_at (i := 10) (v := ?_) rfl (by kernel_rfl) (by kernel_rfl) (by kernel_rfl) (fun _ _ _ h => h) (Or.inl ⟨by rfl, ?_⟩) (by assumption) ?_
        rotate_left
        · (intro w' hSw; (try dsimp only at hSw); go_simp <;> (with_reducible rfl))
        try simp only [Act.put, List.setIfInBounds_toArray, List.set_cons_zero, List.set_cons_succ]
        refine one_at (i := 11) rfl (by kernel_rfl) (by rfl) (fun K hK => ?_)
        go_simp
        refine (HP.out X0 hbX0).mono ?_
        rintro e X1 ⟨rfl, hi1, hg1⟩
        have hgr := (below_grown (row := some b) hbX0 rfl).trans hg1
        go_simp
        refine hK.out _ _ (heldg _ hgr) (fun hHeld1 => ?_)
        clear hK K
        try simp only [Act.put, List.setIfInBounds_toArray, List.set_cons_zero, List.set_cons_succ]
        refine take_at (i := 12) (v := ?_) rfl (by kernel_rfl) (by kernel_rfl) (by kernel_rfl) (fun _ _ _ h => h) (Or.inl ⟨by rfl, ?_⟩) (by assumption) ?_
        rotate_left
        · (intro w' hSw; (try dsimp only at hSw); go_simp <;> (with_reducible rfl))
        try simp only [Act.put, List.setIfInBounds_toArray, List.set_cons_zero, List.set_cons_succ]
        refine wpAnyH_done (by kernel_rfl) ?_ _
        try simp only [Act.put, List.setIfInBounds_toArray, List.set_cons_zero, List.set_cons_succ]
        have hsx := HI.out.grown hgr HSp.out
        have HSx := Lib.hid hsx
        have HQ : Hid (∀ X, Below X1.heap.size X1 X → Calls Try.prog 32 #[.slice Ao LJ co, .agg #[.int .i64 a.s.br, .int .i64 a.s.vol, .int .i64 a.s.blk], .int .u64 a.s.num] X (ResS X (putS a.s ls) (putC a.s ls))) := fun X hX => aput26 (HSx.out.below hX) HLJ.out (by have := HPl.out; have := HL.out; omega) HI.out.1 a.s
        generalize putC a.s ls = cc at *
        have HI1 := Lib.hid hi1
        have HGr1 := Lib.hid hgr
        clear held hHeld hHeld1 hbX0 hg1 hi1 hgr hsx HP
        go_upto_region 10 with fail
        have held : ∀ X, Below X1.heap.size X1 X → (fun w' => w'.cell? ⟨ga, oa + j * 5 + 1, none⟩ = some (.int .i64 a.s.br) ∧ w'.cell? ⟨ga, oa + j * 5 + 2, none⟩ = some (.int .i64 a.s.vol) ∧ w'.cell? ⟨ga, oa + j * 5 + 3, none⟩ = some (.int .i64 a.s.blk) ∧ w'.cell? ⟨ga, oa + j * 5 + 4, none⟩ = some (.int .u64 a.s.num)) X := fun X hX => HHg.out X (HGr1.out.trans (below_grown hX rfl))
        refine wp_region_held_drew (S := (fun w' => w'.cell? ⟨ga, oa + j * 5 + 1, none⟩ = some (.int .i64 a.s.br) ∧ w'.cell? ⟨ga, oa + j * 5 + 2, none⟩ = some (.int .i64 a.s.vol) ∧ w'.cell? ⟨ga, oa + j * 5 + 3, none⟩ = some (.int .i64 a.s.blk) ∧ w'.cell? ⟨ga, oa + j * 5 + 4, none⟩ = some (.int .u64 a.s.num))) (by kernel_rfl) (held _ (bel_drewN _ _ (n := 1))) (fun hHeld => ?_)
        obtain ⟨Y0, hwd⟩ : ∃ Wn, Wn = World.drew X1 := ⟨_, rfl⟩
        rw [← hwd] at hHeld ⊢
        have hbY0 : Below X1.heap.size X1 Y0 := by rw [hwd]; exact bel_drewN _ _ (n := 1)
        clear hwd 
        refine take_at (i := 0) (v := ?_) rfl (by kernel_rfl) (by kernel_rfl) (by kernel_rfl) (fun _ _ _ h => h) (Or.inl ⟨by rfl, ?_⟩) (by assumption) ?_
        rotate_left
        · (intro w' hSw; (try dsimp only at hSw); go_simp <;> (with_reducible rfl))
        try simp only [Act.put, List.setIfInBounds_toArray, List.set_cons_zero, List.set_cons_succ]
        refine take_at (i := 1) (v := ?_) rfl (by kernel_rfl) (by kernel_rfl) (by kernel_rfl) (fun _ _ _ h => h) (Or.inl ⟨by rfl, ?_⟩) (by assumption) ?_
        rotate_left
        · (intro w' hSw; (try dsimp only at hSw); go_simp <;> (with_reducible rfl))
        try simp only [Act.put, List.setIfInBounds_toArray, List.set_cons_zero, List.set_cons_succ]
        refine take_at (i := 2) (v := ?_) rfl (by kernel_rfl) (by kernel_rfl) (by kernel_rfl) (fun _ _ _ h => h) (Or.inl ⟨by rfl, ?_⟩) (by assumption) ?_
        rotate_left
        · (intro w' hSw; (try dsimp only at hSw); go_simp <;> (with_reducible rfl))
        try simp only [Act.put, List.setIfInBounds_toArray, List.set_cons_zero, List.set_cons_succ]
        refine take_at (i := 3) (v := ?_) rfl (by kernel_rfl) (by kernel_rfl) (by kernel_rfl) (fun _ _ _ h => h) (Or.inl ⟨by rfl, ?_⟩) (by assumption) ?_
        rotate_left
        · (intro w' hSw; (try dsimp only at hSw); go_simp <;> (with_reducible rfl))
        try simp only [Act.put, List.setIfInBounds_toArray, List.set_cons_zero, List.set_cons_succ]
        refine take_at (i := 4) (v := ?_) rfl (by kernel_rfl) (by kernel_rfl) (by kernel_rfl) (fun _ _ _ h => h) (Or.inl ⟨by rfl, ?_⟩) (by assumption) ?_
        rotate_left
        · (intro w' hSw; (try dsimp only at hSw); go_simp <;> (with_reducible rfl))
        try simp only [Act.put, List.setIfInBounds_toArray, List.set_cons_zero, List.set_cons_succ]
        refine take_at (i := 5) (v := ?_) rfl (by kernel_rfl) (by kernel_rfl) (by kernel_rfl) (fun _ _ _ h => h) (Or.inl ⟨by rfl, ?_⟩) (by assumption) ?_
        rotate_left
        · (intro w' hSw; (try dsimp only at hSw); go_simp <;> (with_reducible rfl))
        try simp only [Act.put, List.setIfInBounds_toArray, List.set_cons_zero, List.set_cons_succ]
        refine take_at (i := 6) (v := ?_) rfl (by kernel_rfl) (by kernel_rfl) (by kernel_rfl) (fun _ _ _ h => h) (Or.inl ⟨by rfl, ?_⟩) (by assumption) ?_
        rotate_left
        · (intro w' hSw; (try dsimp only at hSw); go_simp <;> (with_reducible rfl))
        try simp only [Act.put, List.setIfInBounds_toArray, List.set_cons_zero, List.set_cons_succ]
        refine take_at (i := 7) (v := ?_) rfl (by kernel_rfl) (by kernel_rfl) (by kernel_rfl) (fun _ _ _ h => h) (Or.inl ⟨by rfl, ?_⟩) (by assumption) ?_
        rotate_left
        · (intro w' hSw; (try dsimp only at hSw); go_simp <;> (with_reducible rfl))
        try simp only [Act.put, List.setIfInBounds_toArray, List.set_cons_zero, List.set_cons_succ]
        refine take_at (i := 8) (v := ?_) rfl (by kernel_rfl) (by kernel_rfl) (by kernel_rfl) (fun _ _ _ h => h) (Or.inl ⟨by rfl, ?_⟩) (by assumption) ?_
        rotate_left
        · (intro w' hSw; (try dsimp only at hSw); go_simp <;> (with_reducible rfl))
        try simp only [Act.put, List.setIfInBounds_toArray, List.set_cons_zero, List.set_cons_succ]
        refine take_at (i := 9) (v := ?_) rfl (by kernel_rfl) (by kernel_rfl) (by kernel_rfl) (fun _ _ _ h => h) (Or.inl ⟨by rfl, ?_⟩) (by assumption) ?_
        rotate_left
        · (intro w' hSw; (try dsimp only at hSw); go_simp <;> (with_reducible rfl))
        try simp only [Act.put, List.setIfInBounds_toArray, List.set_cons_zero, List.set_cons_succ]
        refine take_at (i := 10) (v := ?_) rfl (by kernel_rfl) (by kernel_rfl) (by kernel_rfl) (fun _ _ _ h => h) (Or.inl ⟨by rfl, ?_⟩) (by assumption) ?_
        rotate_left
        · (intro w' hSw; (try dsimp only at hSw); go_simp <;> (with_reducible rfl))
        try simp only [Act.put, List.setIfInBounds_toArray, List.set_cons_zero, List.set_cons_succ]
        refine one_at (i := 11) rfl (by kernel_rfl) (by rfl) (fun K hK => ?_)
        go_simp
        refine (HQ.out Y0 hbY0).mono ?_
        rintro e Y1 ⟨A2, c2, rfl, hs2, hb1⟩
        have hbY1 := hbY0.trans (hb1.mono hbY0.size)
        go_simp
        refine hK.out _ _ (held _ hbY1) (fun hHeld1 => ?_)
        clear hK K
        try simp only [Act.put, List.setIfInBounds_toArray, List.set_cons_zero, List.set_cons_succ]
        refine take_at (i := 12) (v := ?_) rfl (by kernel_rfl) (by kernel_rfl) (by kernel_rfl) (fun _ _ _ h => h) (Or.inl ⟨by rfl, ?_⟩) (by assumption) ?_
        rotate_left
        · (intro w' hSw; (try dsimp only at hSw); go_simp <;> (with_reducible rfl))
        try simp only [Act.put, List.setIfInBounds_toArray, List.set_cons_zero, List.set_cons_succ]
        refine take_at (i := 13) (v := ?_) rfl (by kernel_rfl) (by kernel_rfl) (by kernel_rfl) (fun _ _ _ h => h) (Or.inl ⟨by rfl, ?_⟩) (by assumption) ?_
        rotate_left
        · (intro w' hSw; (try dsimp only at hSw); go_simp <;> (with_reducible rfl))
        try simp only [Act.put, List.setIfInBounds_toArray, List.set_cons_zero, List.set_cons_succ]
        refine take_at (i := 14) (v := ?_) rfl (by kernel_rfl) (by kernel_rfl) (by kernel_rfl) (fun _ _ _ h => h) (Or.inl ⟨by rfl, ?_⟩) (by assumption) ?_
        rotate_left
        · (intro w' hSw; (try dsimp only at hSw); go_simp <;> (with_reducible rfl))
        try simp only [Act.put, List.setIfInBounds_toArray, List.set_cons_zero, List.set_cons_succ]
        refine take_at (i := 15) (v := ?_) rfl (by kernel_rfl) (by kernel_rfl) (by kernel_rfl) (fun _ _ _ h => h) (Or.inl ⟨by rfl, ?_⟩) (by assumption) ?_
        rotate_left
        · (intro w' hSw; (try dsimp only at hSw); go_simp <;> (with_reducible rfl))
        try simp only [Act.put, List.setIfInBounds_toArray, List.set_cons_zero, List.set_cons_succ]
        refine take_at (i := 16) (v := ?_) rfl (by kernel_rfl) (by kernel_rfl) (by kernel_rfl) (fun _ _ _ h => h) (Or.inl ⟨by rfl, ?_⟩) (by assumption) ?_
        rotate_left
        · (intro w' hSw; (try dsimp only at hSw); go_simp <;> (with_reducible rfl))
        try simp only [Act.put, List.setIfInBounds_toArray, List.set_cons_zero, List.set_cons_succ]
        refine wpAnyH_done (by kernel_rfl) ?_ _
        try simp only [Act.put, List.setIfInBounds_toArray, List.set_cons_zero, List.set_cons_succ]
        have HR := Lib.hid (And.intro (HI1.out.below hbY1) (And.intro hs2 ((HGr.out.trans HGr1.out).trans (below_grown hbY1 rfl))))
        have hcc : (cc != cc) = false := by simp
        obtain ⟨L2, hL2⟩ : ∃ L2, (putS a.s ls).length = L2 := ⟨_, rfl⟩
        have HL2 := Lib.hid hL2
        rw [hL2]
        clear held hHeld hHeld1 hbY0 hbY1 hs2 hb1 HQ heldg hL2
        go_wp2_with fail
        go_roundw
        case rel => exact ⟨j + 1, A2, c2, by simp, hjn, by rw [HSu.out, HSt.out, HL2.out], by rw [HSu.out, HSt.out]; exact HR.out.1, by rw [HSu.out, HSt.out]; exact HR.out.2.1, HR.out.2.2⟩
        case measure => (simp [intOf] <;> omega)
    · obtain rfl : j = n := by omega
      have htk : ac.take j = ac := List.take_of_length_le (by rw [HN.out]; exact Nat.le_refl _)
      rw [htk] at HI HSp ⊢
      clear hs hi hgr htk
      go_wp2_with fail
      go_ret2
      exact ⟨Ao, co, rfl, HI.out, HSp.out, HGr.out⟩
end Go.Proofs.Ytlackkhkaceblaa.N

/- Steps of the index's laws. -/
namespace Go.Proofs.Ytlackkhkaceblaa.N
open Go.BigFrame Go.RowKit Go.Shelf Go.Proofs.YtlackkhkaceblaaW.PrintMore Go.Proofs.YtlackkhkaceblaaW.PrintWords
set_option linter.unusedVariables false
set_option linter.unusedSimpArgs false
theorem plc_at {X : World} {k : Sp} {b : Nat} (h : Blk X b #[.int .i64 k.br, .int .i64 k.vol, .int .i64 k.blk] 24) :
    X.cell? ⟨b, 0, none⟩ = some (.int .i64 k.br) ∧ X.cell? ⟨b, 1, none⟩ = some (.int .i64 k.vol) ∧ X.cell? ⟨b, 2, none⟩ = some (.int .i64 k.blk) := ⟨h.cell 0, h.cell 1, h.cell 2⟩
theorem blk_keep {X Y : World} {q b : Nat} {cs : Array Value} {T : TypeId} (h : Blk X q cs T) (hg : X.grownBy Y (some b)) (hne : q ≠ b) : Blk Y q cs T := (hg.block q h.lt (by simp; exact hne)).trans h
theorem ActsAt.lies {w : World} {A : Option Addr} {ac : List Ac} {n b : Nat} (h : ActsAt w A ac) (hn : ac.length = n) (hb : w.heap.size ≤ b) : LiesBelow A n b := fun q off e h0 => by
  obtain ⟨ga, oa, hA, la, _⟩ := h (by omega)
  rw [e] at hA
  cases hA
  omega
theorem u64_in {n : Int} (h0 : 0 ≤ n) (h1 : n ≤ 18446744073709551615) : IntKind.u64.wrap n = n := by
  unfold IntKind.wrap
  simp [IntKind.signed, IntKind.bits]
  omega
theorem delS_absent {k : Sp} {ls : List Sp} (h : AscS ls) (hk : k ∉ ls) : delS k ls = ls := ascS_ext (delS_asc h) h (fun s => by rw [mem_delS h]; exact ⟨fun a => a.1, fun a => ⟨a, fun e => hk (e ▸ a)⟩⟩)
theorem putS_len (k : Sp) {ls : List Sp} (h : AscS ls) : (putS k ls).length ≤ ls.length + 1 := by
  unfold putS
  split
  · rw [insS_len h]; split <;> omega
  · omega
section
variable {w : World} {b : Nat} {ls : List Sp} {p : Sp} {m : Int}
theorem at_none (h : IdxAt w b ls) (ho : atS ls p m = none) : Calls Try.prog 14 #[.pointer (some ⟨b, 0, none⟩), .agg #[.int .i64 p.br, .int .i64 p.vol, .int .i64 p.blk], .int .u64 m] w fun e w' => e = .returned (.tuple #[.int .u64 0, .bool false]) ∧ Below w.heap.size w w' := by
  have h1 := at_idx h p m
  rw [ho] at h1
  exact h1
theorem at_some (h : IdxAt w b ls) {y : Sp} (ho : atS ls p m = some y) : Calls Try.prog 14 #[.pointer (some ⟨b, 0, none⟩), .agg #[.int .i64 p.br, .int .i64 p.vol, .int .i64 p.blk], .int .u64 m] w fun e w' => e = .returned (.tuple #[.int .u64 y.num, .bool true]) ∧ Below w.heap.size w w' := by
  have h1 := at_idx h p m
  rw [ho] at h1
  exact h1
theorem at_eq (h : IdxAt w b ls) (p : Sp) (m : Int) {o : Option Sp} (ho : atS ls p m = o) {n : Int} {s : Bool} (hn : numS o = n) (hs : o.isSome = s) : Calls Try.prog 14 #[.pointer (some ⟨b, 0, none⟩), .agg #[.int .i64 p.br, .int .i64 p.vol, .int .i64 p.blk], .int .u64 m] w fun e w' => e = .returned (.tuple #[.int .u64 n, .bool s]) ∧ Below w.heap.size w w' := by
  subst hn hs ho
  exact at_idx h p m
theorem next_eq (h : IdxAt w b ls) (p : Sp) (m : Int) (hm0 : 0 ≤ m) (hml : m ≤ lastN) {o : Option Sp} (ho : nextS ls p m = o) {n : Int} {s : Bool} (hn : numS o = n) (hs : o.isSome = s) : Calls Try.prog 15 #[.pointer (some ⟨b, 0, none⟩), .agg #[.int .i64 p.br, .int .i64 p.vol, .int .i64 p.blk], .int .u64 m] w fun e w' => e = .returned (.tuple #[.int .u64 n, .bool s]) ∧ Below w.heap.size w w' := by
  subst hn hs ho
  exact next_idx h p m hm0 hml
theorem drop_n (h : IdxAt w b ls) {k : Sp} (hl : ls.length ≤ 900) {cc : Int} (hc : dropC k ls = cc) : Calls Try.prog 18 #[.pointer (some ⟨b, 0, none⟩), .agg #[.int .i64 k.br, .int .i64 k.vol, .int .i64 k.blk], .int .u64 k.num] w fun e w' => e = .returned (.int .i64 cc) ∧ IdxAt w' b (delS k ls) ∧ w.grownBy w' (some b) := by
  subst hc
  exact drop_idx h hl k
theorem len_at {L : Nat} (hl : ls.length = L) (h : IdxAt w b ls) : Calls Try.prog 16 #[.pointer (some ⟨b, 0, none⟩)] w fun e w' => e = .returned (.int .i64 L) ∧ Below w.heap.size w w' := by
  subst hl
  exact len_idx h w (Below.refl _ _)
end
end Go.Proofs.Ytlackkhkaceblaa.N

/- The document's example, of the index. -/
namespace Go.Proofs.Ytlackkhkaceblaa.N
open Go.BigFrame Go.RowKit Go.Shelf Go.Proofs.YtlackkhkaceblaaW.PrintMore Go.Proofs.YtlackkhkaceblaaW.PrintWords
set_option linter.unusedVariables false
set_option linter.unusedSimpArgs false
def kA (n : Int) : Sp := ⟨0, 1, 2, n⟩
theorem good_nil : Good [] := fun s hs => by cases hs
theorem good_kA : Good [kA 3] := fun s hs => by
  obtain rfl := List.mem_singleton.1 hs
  refine ⟨?_, by decide⟩
  unfold Sp.ok kA
  decide
section
variable {X : World} {b : Nat}
theorem aw_put3 (h : IdxAt X b []) : Calls Try.prog 17 #[.pointer (some ⟨b, 0, none⟩), .agg #[.int .i64 0, .int .i64 1, .int .i64 2], .int .u64 3] X fun e w' => e = .returned (.int .i64 0) ∧ IdxAt w' b [kA 3] ∧ X.grownBy w' (some b) := by
  have h1 := put_idx h good_nil (by simp) (kA 3)
  rw [show putC (kA 3) [] = 0 by decide, show putS (kA 3) [] = [kA 3] by decide] at h1
  exact h1
theorem aw_put8 (h : IdxAt X b [kA 3]) : Calls Try.prog 17 #[.pointer (some ⟨b, 0, none⟩), .agg #[.int .i64 0, .int .i64 1, .int .i64 2], .int .u64 8] X fun e w' => e = .returned (.int .i64 0) ∧ IdxAt w' b [kA 3, kA 8] ∧ X.grownBy w' (some b) := by
  have h1 := put_idx h good_kA (by simp) (kA 8)
  rw [show putC (kA 8) [kA 3] = 0 by decide, show putS (kA 8) [kA 3] = [kA 3, kA 8] by decide] at h1
  exact h1
theorem aw_at7 (h : IdxAt X b [kA 3, kA 8]) : Calls Try.prog 14 #[.pointer (some ⟨b, 0, none⟩), .agg #[.int .i64 0, .int .i64 1, .int .i64 2], .int .u64 7] X fun e w' => e = .returned (.tuple #[.int .u64 3, .bool true]) ∧ Below X.heap.size X w' := by
  have h1 := at_idx h (kA 0) 7
  rw [show atS [kA 3, kA 8] (kA 0) 7 = some (kA 3) by decide] at h1
  exact h1
theorem aw_at2 (h : IdxAt X b [kA 3, kA 8]) : Calls Try.prog 14 #[.pointer (some ⟨b, 0, none⟩), .agg #[.int .i64 0, .int .i64 1, .int .i64 2], .int .u64 2] X fun e w' => e = .returned (.tuple #[.int .u64 0, .bool false]) ∧ Below X.heap.size X w' := by
  have h1 := at_idx h (kA 0) 2
  rw [show atS [kA 3, kA 8] (kA 0) 2 = none by decide] at h1
  exact h1
theorem aw_next3 (h : IdxAt X b [kA 3, kA 8]) : Calls Try.prog 15 #[.pointer (some ⟨b, 0, none⟩), .agg #[.int .i64 0, .int .i64 1, .int .i64 2], .int .u64 3] X fun e w' => e = .returned (.tuple #[.int .u64 8, .bool true]) ∧ Below X.heap.size X w' := by
  have h1 := next_idx h (kA 0) 3 (by decide) (by decide)
  rw [show nextS [kA 3, kA 8] (kA 0) 3 = some (kA 8) by decide] at h1
  exact h1
theorem box3 {Y : World} {pb : Nat} (h : Blk X pb #[.int .i64 0, .int .i64 1, .int .i64 2] 24) (hY : Y.heap[pb]? = X.heap[pb]?) : Y.cell? ⟨pb, 0, none⟩ = some (.int .i64 0) ∧ Y.cell? ⟨pb, 1, none⟩ = some (.int .i64 1) ∧ Y.cell? ⟨pb, 2, none⟩ = some (.int .i64 2) := by
  have h2 : Blk Y pb #[.int .i64 0, .int .i64 1, .int .i64 2] 24 := hY.trans h
  exact ⟨h2.cell 0, h2.cell 1, h2.cell 2⟩
end
set_option maxHeartbeats 3200000 in
set_option maxRecDepth 100000 in
theorem awake26 (w : World) : Calls Try.prog 11 #[] w fun e w' => e = .returned (.bool true) ∧ Below w.heap.size w w' := by
  go_enter Try.func11, Try.ntmps11
  go_wp2_with fail
  refine (new_idx w).mono ?_
  rintro e w1 ⟨b, rfl, hi, hbb, hb1⟩
  go_upto_region 3 with fail
  obtain ⟨W, hW⟩ : ∃ X, w1.alloc (.cells #[.int .i64 0, .int .i64 1, .int .i64 2] 24) = X := ⟨_, rfl⟩
  have hbw : Below w1.heap.size w1 W := by rw [← hW]; exact (Below.refl _ _).alloc (Nat.le_refl _) _
  have hbox : Blk W w1.heap.size #[.int .i64 0, .int .i64 1, .int .i64 2] 24 := by rw [← hW]; exact Blk.new w1 _ _
  rw [hW]
  clear hW
  have hbp : b < w1.heap.size := hi.lt
  have HI := Lib.hid (hi.below hbw)
  have HB := Lib.hid (hb1.trans (hbw.mono hb1.size))
  have HBb := Lib.hid hbb
  have HBox := Lib.hid hbox
  generalize w1.heap.size = pb at *
  have hpl : pb < W.heap.size := hbox.lt
  have HHd : Hid (∀ X : World, X.heap[pb]? = W.heap[pb]? → (fun (w' : World) => w'.cell? ⟨pb, 0, none⟩ = some (.int .i64 0) ∧ w'.cell? ⟨pb, 1, none⟩ = some (.int .i64 1) ∧ w'.cell? ⟨pb, 2, none⟩ = some (.int .i64 2)) X) := fun X hX => box3 HBox.out hX
  have held : ∀ X, Below W.heap.size W X → (fun (w' : World) => w'.cell? ⟨pb, 0, none⟩ = some (.int .i64 0) ∧ w'.cell? ⟨pb, 1, none⟩ = some (.int .i64 1) ∧ w'.cell? ⟨pb, 2, none⟩ = some (.int .i64 2)) X := fun X hX => HHd.out X (hX.block pb hpl)
  clear hi hbw hbox hb1 hbb
  refine wp_region_held_drew (S := (fun (w' : World) => w'.cell? ⟨pb, 0, none⟩ = some (.int .i64 0) ∧ w'.cell? ⟨pb, 1, none⟩ = some (.int .i64 1) ∧ w'.cell? ⟨pb, 2, none⟩ = some (.int .i64 2))) (by kernel_rfl) (held _ (bel_drewN _ _ (n := 1))) (fun hHeld => ?_)
  obtain ⟨X0, hwd⟩ : ∃ Wn, Wn = World.drew W := ⟨_, rfl⟩
  rw [← hwd] at hHeld ⊢
  have hbX0 : Below W.heap.size W X0 := by rw [hwd]; exact bel_drewN _ _ (n := 1)
  clear hwd 
  refine take_at (i := 0) (v := ?_) rfl (by kernel_rfl) (by kernel_rfl) (by kernel_rfl) (fun _ _ _ h => h) (Or.inl ⟨by rfl, ?_⟩) (by assumption) ?_
  rotate_left
  · (intro w' hSw; (try dsimp only at hSw); go_simp <;> (with_reducible rfl))
  try simp only [Act.put, List.setIfInBounds_toArray, List.set_cons_zero, List.set_cons_succ]
  refine take_at (i := 1) (v := ?_) rfl (by kernel_rfl) (by kernel_rfl) (by kernel_rfl) (fun _ _ _ h => h) (Or.inl ⟨by rfl, ?_⟩) (by assumption) ?_
  rotate_left
  · (intro w' hSw; (try dsimp only at hSw); go_simp <;> (with_reducible rfl))
  try simp only [Act.put, List.setIfInBounds_toArray, List.set_cons_zero, List.set_cons_succ]
  refine take_at (i := 3) (v := ?_) rfl (by kernel_rfl) (by kernel_rfl) (by kernel_rfl) (fun _ _ _ h => h) (Or.inl ⟨by rfl, ?_⟩) (by assumption) ?_
  rotate_left
  · (intro w' hSw; (try dsimp only at hSw); go_simp <;> (with_reducible rfl))
  try simp only [Act.put, List.setIfInBounds_toArray, List.set_cons_zero, List.set_cons_succ]
  refine take_at (i := 4) (v := ?_) rfl (by kernel_rfl) (by kernel_rfl) (by kernel_rfl) (fun _ _ _ h => h) (Or.inl ⟨by rfl, ?_⟩) (by assumption) ?_
  rotate_left
  · (intro w' hSw; (try dsimp only at hSw); go_simp <;> (with_reducible rfl))
  try simp only [Act.put, List.setIfInBounds_toArray, List.set_cons_zero, List.set_cons_succ]
  refine one_at (i := 2) rfl (by kernel_rfl) (by rfl) (fun K hK => ?_)
  go_simp
  refine ((fun (X : World) (hX : Below W.heap.size W X) => aw_put3 (HI.out.below hX)) X0 hbX0).mono ?_
  rintro e X1 ⟨rfl, hi1, hg1⟩
  have hgx1 := (below_grown (row := some b) hbX0 rfl).trans hg1
  have hq1 : X1.heap[pb]? = W.heap[pb]? := hgx1.block pb hpl (by simp; omega)
  have hbX1 : True := trivial
  go_simp
  refine hK.out _ _ (HHd.out _ hq1) (fun hHeld1 => ?_)
  clear hK K
  try simp only [Act.put, List.setIfInBounds_toArray, List.set_cons_zero, List.set_cons_succ]
  refine one_at (i := 5) rfl (by kernel_rfl) (by rfl) (fun K hK => ?_)
  go_simp
  refine ((fun (X : World) (_ : True) => aw_put8 hi1) X1 hbX1).mono ?_
  rintro e X2 ⟨rfl, hi2, hg2⟩
  have hgx2 := hgx1.trans hg2
  have hq2 : X2.heap[pb]? = W.heap[pb]? := hgx2.block pb hpl (by simp; omega)
  go_simp
  refine hK.out _ _ (HHd.out _ hq2) (fun hHeld2 => ?_)
  clear hK K
  try simp only [Act.put, List.setIfInBounds_toArray, List.set_cons_zero, List.set_cons_succ]
  refine take_at (i := 6) (v := ?_) rfl (by kernel_rfl) (by kernel_rfl) (by kernel_rfl) (fun _ _ _ h => h) (Or.inl ⟨by rfl, ?_⟩) (by assumption) ?_
  rotate_left
  · (intro w' hSw; (try dsimp only at hSw); go_simp <;> (with_reducible rfl))
  try simp only [Act.put, List.setIfInBounds_toArray, List.set_cons_zero, List.set_cons_succ]
  refine take_at (i := 7) (v := ?_) rfl (by kernel_rfl) (by kernel_rfl) (by kernel_rfl) (fun _ _ _ h => h) (Or.inl ⟨by rfl, ?_⟩) (by assumption) ?_
  rotate_left
  · (intro w' hSw; (try dsimp only at hSw); go_simp <;> (with_reducible rfl))
  try simp only [Act.put, List.setIfInBounds_toArray, List.set_cons_zero, List.set_cons_succ]
  refine wpAnyH_done (by kernel_rfl) ?_ _
  try simp only [Act.put, List.setIfInBounds_toArray, List.set_cons_zero, List.set_cons_succ]
  have HI2 := Lib.hid hi2
  have HG2 := Lib.hid hgx2
  have HP2 := Lib.hid hq2
  clear held hHeld hHeld1 hHeld2 hi1 hi2 hg1 hg2 hgx1 hgx2 hbX0 hbX1 hq1 hq2
  obtain ⟨a0, a1, a2⟩ := HHd.out X2 HP2.out
  have H7 := Lib.hid (aw_at7 HI2.out)
  go_wp2_with fail
  refine H7.out.mono ?_
  rintro e Y1 ⟨rfl, hb1⟩
  have HI3 := Lib.hid (HI2.out.below hb1)
  have hz : pb < X2.heap.size := by have := HG2.out.size; omega
  have HP3 := Lib.hid ((hb1.block pb hz).trans HP2.out)
  have HY1 := Lib.hid hb1
  clear a0 a1 a2 H7 hb1
  obtain ⟨a0, a1, a2⟩ := HHd.out Y1 HP3.out
  have H3 := Lib.hid (aw_next3 HI3.out)
  go_wp2_with fail
  refine H3.out.mono ?_
  rintro e Y2 ⟨rfl, hb2⟩
  have HI4 := Lib.hid (HI3.out.below hb2)
  have hz1 := HY1.out.size
  have HP4 := Lib.hid ((hb2.block pb (by omega)).trans HP3.out)
  have HY2 := Lib.hid (HY1.out.trans (hb2.mono HY1.out.size))
  clear a0 a1 a2 H3 hb2
  obtain ⟨a0, a1, a2⟩ := HHd.out Y2 HP4.out
  have H2 := Lib.hid (aw_at2 HI4.out)
  go_wp2_with fail
  refine H2.out.mono ?_
  rintro e Y3 ⟨rfl, hb3⟩
  have HI5 := Lib.hid (HI4.out.below hb3)
  have HY3 := Lib.hid (HY2.out.trans (hb3.mono HY2.out.size))
  have HL := Lib.hid (len_idx HI5.out Y3 (Below.refl _ _))
  clear a0 a1 a2 H2 hb3
  go_wp2_with fail
  refine HL.out.mono ?_
  rintro e Y4 ⟨rfl, hb4⟩
  have HY4 := Lib.hid (HY3.out.trans (hb4.mono HY3.out.size))
  clear hb4
  go_wp2_with fail
  go_ret
  refine ⟨rfl, ?_⟩
  have hsz := HB.out.size
  have h1 : Below w.heap.size w X2 := HB.out.grown HG2.out hsz (fun q e => by cases e; exact HBb.out)
  exact h1.trans (HY4.out.mono h1.size)
end Go.Proofs.Ytlackkhkaceblaa.N

/- Acts and places that came in. -/
namespace Go.Proofs.Ytlackkhkaceblaa.N
open Go.ChangeShapes Go.WideShapes Go.Deep Go.RowKit Go.Joins
set_option linter.unusedVariables false
set_option linter.unusedSimpArgs false
def Ac.cs (d : Ac) : List Value := [.int .u8 d.go, .int .i64 d.s.br, .int .i64 d.s.vol, .int .i64 d.s.blk, .int .u64 d.s.num]
def Sp.pv (p : Sp) : Value := .agg #[.int .i64 p.br, .int .i64 p.vol, .int .i64 p.blk]
section
variable {w : World} {H : Type} {enc : TypeId × Value → H} {base : Nat} {spare : Nat → Bool} {held : Bool}
theorem list5 {α : Type} {l : List α} (h : l.length = 5) : ∃ a b c d e, l = [a, b, c, d, e] := by
  match l, h with
  | [a, b, c, d, e], _ => exact ⟨a, b, c, d, e, rfl⟩
theorem list3 {α : Type} {l : List α} (h : l.length = 3) : ∃ a b c, l = [a, b, c] := by
  match l, h with
  | [a, b, c], _ => exact ⟨a, b, c, rfl⟩
theorem wf_o8 {n : Int} (h : (Lit.int .u8 n).wf = true) : 0 ≤ n ∧ n ≤ 255 := by
  simp [Lit.wf, IntKind.min, IntKind.max, IntKind.bits, IntKind.signed] at h
  omega
theorem wf_o64 {n : Int} (h : (Lit.int .u64 n).wf = true) : 0 ≤ n ∧ n ≤ lastN := by
  unfold lastN
  simp [Lit.wf, IntKind.min, IntKind.max, IntKind.bits, IntKind.signed] at h
  omega
/-- The parts of a place. -/
def PlOk (p : Sp) : Prop := (-9223372036854775808 ≤ p.br ∧ p.br ≤ 9223372036854775807) ∧ (-9223372036854775808 ≤ p.vol ∧ p.vol ≤ 9223372036854775807) ∧ (-9223372036854775808 ≤ p.blk ∧ p.blk ≤ 9223372036854775807)
theorem at_ok {p : Sp} (h : PlOk p) {n : Int} (hn : 0 ≤ n ∧ n ≤ lastN) : (p.at n).ok := ⟨h.1, h.2.1, h.2.2, hn⟩
set_option maxRecDepth 100000 in
theorem pl_of {fuel : Nat} {cs : List Value} {x : DataW H × List MemPlace} (h : DataW.trod enc Try.prog w base spare held fuel 24 cs = some x) : ∃ p : Sp, cs = [.int .i64 p.br, .int .i64 p.vol, .int .i64 p.blk] ∧ p.num = 0 ∧ PlOk p := by
  obtain ⟨z0, z1, z2, m, rfl, hl, g0, g1, g2⟩ := trod_struct3 Try.underlying24 h
  have hp : Try.prog.cellsOf 24 = 3 := by kernel_rfl
  have hi : Try.prog.cellsOf 3 = 1 := by kernel_rfl
  rw [hp] at hl
  obtain ⟨c0, c1, c2, rfl⟩ := list3 hl
  simp only [hi] at g0 g1 g2
  obtain ⟨n0, e0, _, w0⟩ := DataW.trod_int Try.underlying3 g0
  obtain ⟨n1, e1, _, w1⟩ := DataW.trod_int Try.underlying3 g1
  obtain ⟨n2, e2, _, w2⟩ := DataW.trod_int Try.underlying3 g2
  simp at e0 e1 e2
  subst e0 e1 e2
  exact ⟨⟨n0, n1, n2, 0⟩, rfl, rfl, wf_i64 w0, wf_i64 w1, wf_i64 w2⟩
set_option maxRecDepth 100000 in
theorem open_pl {r : Reach} {b0 : Nat} {v : Value} {d : DataW H} {p : List MemPlace} (hv : Value.okWide Try.prog w r b0 24 v) (h : DataW.Trod enc Try.prog w base spare held 24 v d p) : ∃ s : Sp, v = s.pv ∧ s.num = 0 ∧ PlOk s := by
  obtain ⟨cs, rfl, _⟩ := okWide_struct Try.underlying24 hv
  obtain ⟨fuel, hf⟩ := h
  obtain ⟨s, hs, h0, ho⟩ := pl_of hf
  refine ⟨s, ?_, h0, ho⟩
  have : cs.toList = [.int .i64 s.br, .int .i64 s.vol, .int .i64 s.blk] := by simpa [Value.cells] using hs
  unfold Sp.pv
  rw [← Array.toArray_toList (xs := cs), this]
set_option maxRecDepth 100000 in
theorem act_of {fuel : Nat} {cs : List Value} {x : DataW H × List MemPlace} (h : DataW.trod enc Try.prog w base spare held fuel 52 cs = some x) : ∃ d : Ac, cs = d.cs ∧ AcOk d := by
  obtain ⟨y0, y1, y2, n, rfl, hl, h0, h1, h2⟩ := trod_struct3 Try.underlying52 h
  have hc : Try.prog.cellsOf 52 = 5 := by kernel_rfl
  have hs : Try.prog.cellsOf 24 = 3 := by kernel_rfl
  have hb : Try.prog.cellsOf 5 = 1 := by kernel_rfl
  have hu : Try.prog.cellsOf 25 = 1 := by kernel_rfl
  rw [hc] at hl
  obtain ⟨c0, c1, c2, c3, c4, rfl⟩ := list5 hl
  simp only [hs, hu, hb] at h0 h1 h2
  obtain ⟨b0, e0, _, w0⟩ := DataW.trod_int Try.underlying5 h0
  obtain ⟨s, e1, hs0, ho⟩ := pl_of h1
  obtain ⟨n3, e3, _, w3⟩ := DataW.trod_int Try.underlying25 h2
  simp at e0 e1 e3
  obtain ⟨f1, f2, f3⟩ := e1
  subst e0 f1 f2 f3 e3
  exact ⟨⟨b0, ⟨s.br, s.vol, s.blk, n3⟩⟩, rfl, ⟨ho.1, ho.2.1, ho.2.2, wf_u64 w3⟩, (wf_o8 w0).1, (wf_o8 w0).2⟩
theorem open_acts {fuel : Nat} {cs : List Value} {x : DataW H × List MemPlace} (h : DataW.trod enc Try.prog w base spare held fuel 22 cs = some x) :
    ∃ (A : Option Addr) (cap : Nat) (l : List Ac), cs = [.slice A l.length cap] ∧ l.length ≤ cap ∧ cap ≤ maxLen ∧ ActsAt w A l ∧ ∀ a ∈ l, AcOk a := by
  obtain ⟨A, cap, l, h1, h2, h3, h4, h5⟩ := open_rows Ac.cs AcOk 5 Try.underlying22 (by kernel_rfl) (fun s => by simp [Ac.cs]) (fun _ _ _ h => act_of h) h
  refine ⟨A, cap, l, h1, h2, h3, fun hl => ?_, fun a ha => ?_⟩
  · obtain ⟨b, off, e, hlt, hc⟩ := h4 hl
    exact ⟨b, off, e, hlt, fun j hj => ⟨hc j hj 0 _ rfl, hc j hj 1 _ rfl, hc j hj 2 _ rfl, hc j hj 3 _ rfl, hc j hj 4 _ rfl⟩⟩
  · obtain ⟨j, hj, e⟩ := List.getElem_of_mem ha
    exact e ▸ h5 j hj
end
end Go.Proofs.Ytlackkhkaceblaa.N
