/- ARange: joined by merge.py. -/
import Derived.Test.YtlackkhkaceblaaAM
import Derived.Test.YtlackkhkaceblaaARanP
import Derived.Test.YtlackkhkaceblaaTRange
import Derived.OwnWalkIn
/- The law AsofRange. -/
namespace Go.Proofs.Ytlackkhkaceblaa.N
open Go.BigFrame Go.RowKit Go.Shelf Go.Proofs.YtlackkhkaceblaaW.PrintMore Go.Proofs.YtlackkhkaceblaaW.PrintWords
set_option linter.unusedVariables false
set_option linter.unusedSimpArgs false
attribute [local go_sem] Oper.semAt_some
/-- The same, with no panic. -/
def noPanicA (Q : Exit → Act → World → Prop) : Exit → Act → World → Prop
  | .panic _, _, _ => False
  | e, a, w => Q e a w
theorem wp_npA {P : Program} {c : Code} {Q : Exit → Act → World → Prop} {a : Act} {w : World} (h : c.wp P (noPanicA Q) a w) : c.wp P Q a w :=
  Code.wp_mono (fun e a w h => by cases e <;> first | exact h.elim | exact h) h
theorem results_cA {fn : Func} {p : Tmp} {ty : TypeId} (h : fn.results = #[.cell p ty]) (tmps : Array Value) (P : Program) (w : World) :
    (results fn tmps).run P w = ((asAddr (tmps.getD p undef)).run P w).andThen fun a w₁ => (loadVar ty a).run P w₁ := by
  simp only [results, h]
  simp [Sem.run_bind, Result.andThen]
/-- A tree that an iterator may walk: it stood in an elder world. -/
def ItTree (w Y : World) (q : Option Addr) (ls : List Sp) : Prop := ∃ w0, TreeAt w0 q (entsOf ls) ∧ Below w0.heap.size w0 Y ∧ (w0.heap.size ≤ w.heap.size ∨ entsOf ls = [])
theorem ItTree.below {w Y Y' : World} {q : Option Addr} {ls : List Sp} (h : ItTree w Y q ls) (hb : Below Y.heap.size Y Y') : ItTree w Y' q ls := by
  obtain ⟨w0, a, b, c⟩ := h
  exact ⟨w0, a, b.trans (hb.mono b.size), c⟩
theorem tree_idx2 {w : World} {b : Nat} {ls : List Sp} (h : IdxAt w b ls) : ∀ X, Below w.heap.size w X → Calls Try.prog 19 #[.pointer (some ⟨b, 0, none⟩)] X fun e w' => ∃ q, e = .returned (.pointer q) ∧ ItTree w w' q ls ∧ Below X.heap.size X w' := by
  intro X hX
  obtain ⟨ha, t, h1, h2⟩ := h
  have c0 := (h1.below hX h1.lt).cell 0
  have hT := Lib.hid h2
  have HX := Lib.hid hX
  clear h1 h2 hX
  cases t with
  | none =>
    have he : entsOf ls = [] := by
      rcases hT.out with ⟨_, e⟩ | ⟨_, _, e, _⟩
      · exact e
      · cases e
    go_enter Try.func19, Try.ntmps19
    go_wp2_with fail
    refine (new_tree X).mono ?_
    rintro e w1 ⟨q, rfl, ht, hb⟩
    go_wp2_with fail
    go_ret
    exact ⟨_, rfl, ⟨w1, by rw [he]; exact ht, Below.refl _ _, .inr he⟩, hb⟩
  | some a =>
    go_enter Try.func19, Try.ntmps19
    go_wp2_with fail
    go_ret
    exact ⟨_, rfl, ⟨w, hT.out, HX.out, .inl (Nat.le_refl _)⟩, Below.refl _ _⟩
def badR (T : TypeId) : Prop := T = 25
theorem rkA_t {bad : TypeId → Prop} {w0 A B C : World} (h : RK bad w0 A B) (k : RK bad w0 B C) : RK bad w0 A C :=
  ⟨h.1.trans k.1, fun q cs T fz hq hb => by
    have e := h.2 q cs T fz hq hb
    exact (k.2 q cs T fz (e.trans hq) hb).trans e⟩
theorem rkA_b {bad : TypeId → Prop} {w0 w : World} (hn : w0.heap.size ≤ w.heap.size) (W : World) (l : Nat) (o o' : Obj) (hl : w.heap.size ≤ l) (h : W.heap[l]? = some o) (hc : o.isCells = false) (hw : o.isWalk = false) : RK bad w0 W (W.putObj l o') :=
  ⟨belowK_b hn W l o o' hl h hc hw, fun q cs T fz hq _ => World.putObj_heap_other (fun e => by rw [e, h] at hq; cases hq; cases hc)⟩
theorem rkA_below {bad : TypeId → Prop} {w0 X Y : World} (h0 : w0.heap.size ≤ X.heap.size) (hb : Below X.heap.size X Y) : RK bad w0 X Y :=
  ⟨hb.mono h0, fun q cs T fz hq _ => hb.block q (Array.getElem?_eq_some_iff.1 hq).1⟩
/-- What the loop keeps: the last number; as long as what came is a beginning of what is to come, it is that of the last one. -/
def RanI (w3 : World) (z : Nat) (sel pre : List Ent) (W : World) : Prop := (∃ v : Int, (0 ≤ v ∧ v ≤ lastN) ∧ Blk W w3.heap.size #[.int .u64 v] 25 ∧ (pre <+: sel → v = lastOf pre)) ∧ Below w3.heap.size w3 W ∧ z ≤ W.heap.size
theorem ranI_own {w3 : World} {z B : Nat} {sel : List Ent} (hB : w3.heap.size ≤ B) : OwnFrom B (RanI w3 z sel) :=
  OwnFrom.and (Own.from (fun s A B row hs hg hr => by obtain ⟨v, h1, h2, h3⟩ := hs; exact ⟨v, h1, h2.kept hg hr, h3⟩) _) (OwnFrom.and (ownFrom_below (Nat.le_refl _) hB) (Own.from (fun s A B row hs hg hr => Nat.le_trans hs hg.size) _))
theorem ran_round {w0 w3 X Y : World} {z : Nat} {sel pre : List Ent} {v : Int} (h1 : Blk X w3.heap.size #[.int .u64 v] 25) (hB : Below w3.heap.size w3 X) (hz : z ≤ X.heap.size) (hY : Below X.heap.size X Y) (h03 : w0.heap.size ≤ w3.heap.size) (h0X : w0.heap.size ≤ X.heap.size) (x : Ent) {v' : Int} (hv : 0 ≤ v' ∧ v' ≤ lastN) (hs : pre ++ [x] <+: sel → v' = x.1.num) :
    KeepsFrom z X (Y.setCell ⟨w3.heap.size, 0, none⟩ (.int .u64 v')) ∧ RK badR w0 X (Y.setCell ⟨w3.heap.size, 0, none⟩ (.int .u64 v')) ∧ RanI w3 z sel (pre ++ [x]) (Y.setCell ⟨w3.heap.size, 0, none⟩ (.int .u64 v')) := by
  have l1 := Blk.below h1 hY h1.lt
  have zY := hY.size
  refine ⟨((keeps_of_below hY).trans (KeepsOthers.setCell _ _ _)).from _, ⟨(hY.mono h0X).setCell (p := ⟨w3.heap.size, 0, none⟩) h03 _, fun q cs T fz hq hT => ?_⟩, ?_, (hB.trans (hY.mono hB.size)).setCell (p := ⟨w3.heap.size, 0, none⟩) (Nat.le_refl _) _, Nat.le_trans hz (Nat.le_trans zY (by simp [World.setCell, World.putObj]; try exact Nat.le_refl _))⟩
  · have hl := (Array.getElem?_eq_some_iff.1 hq).1
    have e3 : q ≠ w3.heap.size := fun e => by
      rw [e, show X.heap[w3.heap.size]? = _ from h1] at hq
      injection hq with hc
      injection hc with hc1 hc2 hc3
      exact hT hc2.symm
    rw [Below.heap_setCell _ ⟨w3.heap.size, 0, none⟩ _ q e3, hY.block q hl]
  · have := l1.set (o := 0) (.int .u64 v')
    exact ⟨v', hv, by simpa using this, fun h => by rw [lastOf_snoc]; exact hs h⟩
set_option maxHeartbeats 6400000 in
set_option maxRecDepth 100000 in
theorem range_ok {w : World} {A : Option Addr} {c : Nat} {ac : List Ac} (hd : ActsAt w A ac) (hk : ∀ a ∈ ac, AcOk a) (p : Sp) :
    Calls Try.prog 6 #[.slice A ac.length c, .agg #[.int .i64 p.br, .int .i64 p.vol, .int .i64 p.blk]] w fun e w' => e = .returned (.bool true) ∧ Below w.heap.size w w' := by
  have HD := Lib.hid hd
  have HK := Lib.hid hk
  obtain ⟨N, hN⟩ : ∃ N, ac.length = N := ⟨_, rfl⟩
  have HN := Lib.hid hN
  rw [hN]
  clear hd hk hN
  refine (callsIn_wide (n := 7)).1 ?_
  have hro : Fence.wide.round = none := rfl
  refine callsIn_of_wp_marks Try.func6 rfl trivial ?_ hro
  simp only [Try.ntmps6, List.size_toArray, List.length_cons, List.length_nil, Nat.reduceAdd, Nat.reduceSub, Array.replicate_succ, Array.replicate_zero, List.push_toArray, List.append_toArray, List.nil_append, List.cons_append]
  refine wpIn_wide.2 ?_
  refine wp_npA ?_
  go_upto_region 1 with fail
  obtain ⟨W, hW⟩ : ∃ X, (w.alloc (.cells #[.int .i64 p.br, .int .i64 p.vol, .int .i64 p.blk] 24)).alloc (.cells #[.bool false] 4) = X := ⟨_, rfl⟩
  have hbw : Below w.heap.size w W := by rw [← hW]; exact ((Below.refl _ _).alloc (Nat.le_refl _) _).alloc (by simp) _
  have hbox0 : Blk W w.heap.size #[.int .i64 p.br, .int .i64 p.vol, .int .i64 p.blk] 24 := by rw [← hW]; exact (Blk.new w _ _).alloc _
  have hbox1 : Blk W (w.heap.size + 1) #[.bool false] 4 := by rw [← hW]; have := Blk.new (w.alloc (.cells #[.int .i64 p.br, .int .i64 p.vol, .int .i64 p.blk] 24)) #[.bool false] 4; rwa [World.size_alloc] at this
  rw [hW]
  clear hW
  go_wp2_with fail
  refine (awake26 _).mono ?_
  rintro e w1 ⟨rfl, hb1⟩
  have HB1 := Lib.hid (hbw.trans (hb1.mono hbw.size))
  have HX1 := Lib.hid (Blk.below hbox0 hb1 hbox0.lt)
  have HR1 := Lib.hid (Blk.below hbox1 hb1 hbox1.lt)
  clear hb1 hbw hbox0 hbox1
  by_cases hn : N ≤ 40
  case neg =>
    have hg : decide ((40 : Int) < (N : Int)) = true := by simp; omega
    go_wp2_with fail
    refine (awake26 _).mono ?_
    rintro e w2 ⟨rfl, hb2⟩
    have hR := Blk.below HR1.out hb2 HR1.out.lt
    have r0 := hR.cell 0
    have r1 := hR.frozen 0
    have HS := Lib.hid (hR.set (o := 0) (.bool true))
    have HBz := Lib.hid ((HB1.out.trans (hb2.mono HB1.out.size)).setCell (p := ⟨w.heap.size + 1, 0, none⟩) (Nat.le_succ _) (.bool true))
    clear hb2 hR
    go_wp2_with fail
    have g0 := HS.out.cell 0
    dsimp only [noPanicA]
    refine ⟨.bool true, ?_, rfl, HBz.out⟩
    rw [results_cA rfl]
    simp [go_sem, g0, Result.andThen]
  have hg : decide ((40 : Int) < (N : Int)) = false := by simp; omega
  have HL := Lib.hid hn
  go_wp2_with fail
  refine (new_idx w1).mono ?_
  rintro e w2 ⟨b, rfl, hi, hbb, hb2⟩
  have HLt := Lib.hid ((HD.out.below HB1.out).lies HN.out hbb)
  go_upto_region 4 with fail
  obtain ⟨V, hV⟩ : ∃ X, w2.alloc (.cells #[.pointer (some ⟨b, 0, none⟩)] 27) = X := ⟨_, rfl⟩
  have hbv : Below w2.heap.size w2 V := by rw [← hV]; exact (Below.refl _ _).alloc (Nat.le_refl _) _
  have hxb : Blk V w2.heap.size #[.pointer (some ⟨b, 0, none⟩)] 27 := by rw [← hV]; exact Blk.new w2 _ _
  rw [hV]
  clear hV
  have hblt := hi.lt
  have hs1 := HB1.out.size
  have hb1V : Below w1.heap.size w1 V := hb2.trans (hbv.mono hb2.size)
  have HBV := Lib.hid (HB1.out.trans (hb1V.mono hs1))
  have HBb : Hid (w.heap.size ≤ b) := Nat.le_trans hs1 hbb
  have HXV := Lib.hid (Blk.below HX1.out hb1V HX1.out.lt)
  have HRV := Lib.hid (Blk.below HR1.out hb1V HR1.out.lt)
  have HNe0 : Hid (w.heap.size ≠ b) := Nat.ne_of_lt (Nat.lt_of_lt_of_le HX1.out.lt hbb)
  have HNe1 : Hid (w.heap.size + 1 ≠ b) := Nat.ne_of_lt (Nat.lt_of_lt_of_le HR1.out.lt hbb)
  have HNe2 : Hid (w2.heap.size ≠ b) := Nat.ne_of_gt hblt
  have HDn := Lib.hid (done26 (c := c) (hi.below hbv) ((HD.out.below HB1.out).below hb1V) HLt.out HN.out (by omega) HK.out)
  have HXb := Lib.hid hxb
  have x0 := hxb.cell 0
  generalize w2.heap.size = xq at *
  clear hi hbb hb2 hbv hxb hblt hs1 hb1V HX1 HR1 HB1 HLt hg
  go_wp2_with fail
  refine HDn.out.mono ?_
  rintro e w3 ⟨A3, c3, rfl, hi3, hs3, hg3⟩
  have HI3 := Lib.hid hi3
  have HB3 := Lib.hid (HBV.out.grown hg3 HBV.out.size (fun q e => by cases e; exact HBb.out))
  have HG := Lib.hid (done_good (fun a ha => (HK.out a ha).1))
  have HLn : Hid ((doneS ac).length ≤ 40) := by have h := doneS_len ac; have h2 := HN.out; have h3 := HL.out; rw [h2] at h; exact Nat.le_trans h h3
  have HX3 := Lib.hid (blk_keep HXV.out hg3 HNe0.out)
  have HR3 := Lib.hid (blk_keep HRV.out hg3 HNe1.out)
  have HXb3 := Lib.hid (blk_keep HXb.out hg3 HNe2.out)
  clear hi3 hs3 hg3 HDn HBV HXV HRV HXb x0 HNe0 HNe1 HNe2 HD HK
  generalize doneS ac = ls at *
  go_upto_region 8 with fail
  obtain ⟨w4, hw4⟩ : ∃ X, w3.alloc (.cells #[.int .u64 0] 25) = X := ⟨_, rfl⟩
  have hb4 : Below w3.heap.size w3 w4 := by rw [← hw4]; exact (Below.refl _ _).alloc (Nat.le_refl _) _
  have hlast : Blk w4 w3.heap.size #[.int .u64 0] 25 := by rw [← hw4]; exact Blk.new w3 _ _
  rw [hw4]
  clear hw4
  have hb34 := hb4
  obtain ⟨c0, c1, c2⟩ := plc_at (Blk.below HX3.out hb4 HX3.out.lt)
  have x0 := (Blk.below HXb3.out hb4 HXb3.out.lt).cell 0
  have lx : xq < w4.heap.size := (Blk.below HXb3.out hb4 HXb3.out.lt).lt
  have lp : w.heap.size < w4.heap.size := (Blk.below HX3.out hb4 HX3.out.lt).lt
  have held : ∀ X, Below w4.heap.size w4 X → (fun (w' : World) => w'.cell? ⟨xq, 0, none⟩ = some (.pointer (some ⟨b, 0, none⟩)) ∧ w'.cell? ⟨w.heap.size, 0, none⟩ = some (.int .i64 p.br) ∧ w'.cell? ⟨w.heap.size, 1, none⟩ = some (.int .i64 p.vol) ∧ w'.cell? ⟨w.heap.size, 2, none⟩ = some (.int .i64 p.blk)) X := fun X hX => ⟨bel_cell hX lx x0, bel_cell hX lp c0, bel_cell hX lp c1, bel_cell hX lp c2⟩
  have HTr := Lib.hid (tree_idx2 HI3.out)
  clear c0 c1 c2 x0
  refine wp_region_held_drew (S := (fun (w' : World) => w'.cell? ⟨xq, 0, none⟩ = some (.pointer (some ⟨b, 0, none⟩)) ∧ w'.cell? ⟨w.heap.size, 0, none⟩ = some (.int .i64 p.br) ∧ w'.cell? ⟨w.heap.size, 1, none⟩ = some (.int .i64 p.vol) ∧ w'.cell? ⟨w.heap.size, 2, none⟩ = some (.int .i64 p.blk))) (by kernel_rfl) (held _ (bel_drewN _ _ (n := 1))) (fun hHeld => ?_)
  obtain ⟨X0, hwd⟩ : ∃ Wn, Wn = World.drew w4 := ⟨_, rfl⟩
  rw [← hwd] at hHeld ⊢
  have hbX0 : Below w4.heap.size w4 X0 := by rw [hwd]; exact bel_drewN _ _ (n := 1)
  clear hwd 
  refine take_at (i := 0) (v := ?_) rfl (by kernel_rfl) (by kernel_rfl) (by kernel_rfl) (fun _ _ _ h => h) (Or.inl ⟨by rfl, ?_⟩) (by assumption) ?_
  rotate_left
  · (intro w' hSw; (try dsimp only at hSw); go_simp <;> (with_reducible rfl))
  try simp only [Act.put, List.setIfInBounds_toArray, List.set_cons_zero, List.set_cons_succ]
  refine take_at (i := 2) (v := ?_) rfl (by kernel_rfl) (by kernel_rfl) (by kernel_rfl) (fun _ _ _ h => h) (Or.inl ⟨by rfl, ?_⟩) (by assumption) ?_
  rotate_left
  · (intro w' hSw; (try dsimp only at hSw); go_simp <;> (with_reducible rfl))
  try simp only [Act.put, List.setIfInBounds_toArray, List.set_cons_zero, List.set_cons_succ]
  refine take_at (i := 3) (v := ?_) rfl (by kernel_rfl) (by kernel_rfl) (by kernel_rfl) (fun _ _ _ h => h) (Or.inl ⟨by rfl, ?_⟩) (by assumption) ?_
  rotate_left
  · (intro w' hSw; (try dsimp only at hSw); go_simp <;> (with_reducible rfl))
  try simp only [Act.put, List.setIfInBounds_toArray, List.set_cons_zero, List.set_cons_succ]
  refine take_at (i := 4) (v := ?_) rfl (by kernel_rfl) (by kernel_rfl) (by kernel_rfl) (fun _ _ _ h => h) (Or.inl ⟨by rfl, ?_⟩) (by assumption) ?_
  rotate_left
  · (intro w' hSw; (try dsimp only at hSw); go_simp <;> (with_reducible rfl))
  try simp only [Act.put, List.setIfInBounds_toArray, List.set_cons_zero, List.set_cons_succ]
  refine take_at (i := 5) (v := ?_) rfl (by kernel_rfl) (by kernel_rfl) (by kernel_rfl) (fun _ _ _ h => h) (Or.inl ⟨by rfl, ?_⟩) (by assumption) ?_
  rotate_left
  · (intro w' hSw; (try dsimp only at hSw); go_simp <;> (with_reducible rfl))
  try simp only [Act.put, List.setIfInBounds_toArray, List.set_cons_zero, List.set_cons_succ]
  refine one_at (i := 1) rfl (by kernel_rfl) (by rfl) (fun K hK => ?_)
  go_simp
  refine ((fun (X : World) (hX : Below w4.heap.size w4 X) => HTr.out X (hb34.trans (hX.mono hb34.size))) X0 hbX0).mono ?_
  rintro e X1 ⟨q, rfl, hit, hb1⟩
  have hbX1 := hbX0.trans (hb1.mono hbX0.size)
  go_simp
  refine hK.out _ _ (held _ hbX1) (fun hHeld1 => ?_)
  clear hK K
  try simp only [Act.put, List.setIfInBounds_toArray, List.set_cons_zero, List.set_cons_succ]
  refine one_at (i := 6) rfl (by kernel_rfl) (by rfl) (fun K hK => ?_)
  go_simp
  refine ((fun (X : World) (hX : Below w4.heap.size w4 X) => range_tree q (p.at 0) (p.at lastN) X) X1 hbX1).mono ?_
  rintro e X2 ⟨xb, fb, tb, rfl, hb2, bt, bf, bx⟩
  have hbX2 := hbX1.trans (hb2.mono hbX1.size)
  go_simp
  refine hK.out _ _ (held _ hbX2) (fun hHeld2 => ?_)
  clear hK K
  try simp only [Act.put, List.setIfInBounds_toArray, List.set_cons_zero, List.set_cons_succ]
  refine wpAnyH_done (by kernel_rfl) ?_ _
  try simp only [Act.put, List.setIfInBounds_toArray, List.set_cons_zero, List.set_cons_succ]
  have HIt := Lib.hid (hit.below hb2)
  have HBt := Lib.hid (And.intro bt (And.intro bf bx))
  have hb5 : Below w3.heap.size w3 X2 := hb34.trans (hbX2.mono hb34.size)
  have HLa := Lib.hid (Blk.below hlast hbX2 hlast.lt)
  have HB5 := Lib.hid hb5
  clear held hHeld hHeld1 hHeld2 hb1 hb2 hbX0 hbX1 hbX2 hit bt bf bx hb4 hb34 hb5 hlast HTr lx lp
  go_upto_block 0 with fail
  refine (wpIn_wide (n := 7)).1 ?_
  gi_wp2_with fail
  obtain ⟨w0, ht0, hb0, hor⟩ := HIt.out
  have hz0 := hb0.size
  have hz3 := HB5.out.size
  have hl40 := HLn.out
  refine wpIn_rangeFunc_ownH hro (by omega) (gf := 36) (lb := #[.pointer (some ⟨tb, 0, none⟩), .pointer (some ⟨fb, 0, none⟩), .pointer (some ⟨xb, 0, none⟩)]) rfl trivial (enters_of Try.func36 (by kernel_rfl) rfl)
    (range_stops badR (by unfold badR; decide) (by unfold badR; decide) (by unfold badR; decide) tb fb xb (p.at 0) (p.at lastN) q (entsOf ls) ht0 (ents_asc HI3.out.1) hb0 HBt.out.1 HBt.out.2.1 HBt.out.2.2 (entsOf ls).length (Nat.le_refl _)) rkA_t (rkA_b hz0) (Below.refl _ _) (fun _ => rfl)
    (RanI w3 X2.heap.size (selE (p.at 0) (p.at lastN) (entsOf ls))) (fun c pre W => ¬ pre <+: selE (p.at 0) (p.at lastN) (entsOf ls))
    (ranI_own hz3) (fun c => Own.from (fun s A B row hs hg hr => hs) _)
    ⟨⟨0, ⟨by decide, by decide⟩, HLa.out, fun _ => rfl⟩, HB5.out, Nat.le_refl _⟩
    (fun x a' X => ∃ Bx, X2.heap.size ≤ Bx ∧ Blk X Bx (spC x.1) 46 ∧ a' = { tmps := #[.slice A N c, .agg #[.int .i64 p.br, .int .i64 p.vol, .int .i64 p.blk], undef, .pointer (some ⟨w.heap.size, 0, none⟩), .pointer (some ⟨w.heap.size + 1, 0, none⟩), .pointer (some ⟨xq, 0, none⟩), .slice A3 ls.length c3, .int .i64 1, .pointer (some ⟨w3.heap.size, 0, none⟩), .pointer (some ⟨Bx, 0, none⟩), .int .u64 x.2, undef, undef, undef, undef, .bool true, .bool false, .bool false, .slice A N c, .int .i64 N, .bool false, .bool false, undef, .pointer (some ⟨b, 0, none⟩), .tuple #[.slice A3 ls.length c3, .int .i64 1], .pointer (some ⟨b, 0, none⟩), .slice A N c, .tuple #[.slice A3 ls.length c3, .int .i64 1], .slice A3 ls.length c3, .int .i64 1, .int .i64 1, .bool false, .pointer (some ⟨b, 0, none⟩), .pointer q, .agg #[.int .i64 p.br, .int .i64 p.vol, .int .i64 p.blk], .agg #[.int .i64 p.br, .int .i64 p.vol, .int .i64 p.blk, .int .u64 0], .agg #[.int .i64 p.br, .int .i64 p.vol, .int .i64 p.blk], .agg #[.int .i64 p.br, .int .i64 p.vol, .int .i64 p.blk, .int .u64 18446744073709551615], .func (.func 36) #[] #[.pointer (some ⟨tb, 0, none⟩), .pointer (some ⟨fb, 0, none⟩), .pointer (some ⟨xb, 0, none⟩)], .agg #[.int .i64 x.1.br, .int .i64 x.1.vol, .int .i64 x.1.blk, .int .u64 x.1.num], .int .u64 x.2, undef, undef, undef, undef, undef, undef, undef, undef, undef, undef, undef, undef, undef, undef, undef, undef, undef, undef, undef, undef, undef, undef, undef, undef, undef, undef, undef, undef, undef, undef, undef, undef, undef, undef, undef, undef, undef], defers := [] })
    (fun x a' _ X Y row hs hg hr => by obtain ⟨Bx, h1, h2, h3⟩ := hs; exact ⟨Bx, h1, h2.kept hg (fun r e => (hr r e).2), h3⟩)
    ?assign ?body ?done ?stop
  case stop =>
    rintro D c pre X hD hsp hf hK
    exact absurd hsp hf
  case assign =>
    rintro ln pre x X K ⟨⟨v, hv, h1, hs⟩, hB, hz⟩ hK
    have zX := hB.size
    unfold encEnt
    gi_wp2
    refine hK _ _ (KeepsFrom.trans ((KeepsOthers.alloc X _).from _) (KeepsFrom.refl _ _)) (rkA_below (by omega) ((Below.refl _ X).alloc (Nat.le_refl _) _)) ⟨⟨v, hv, h1.alloc _, hs⟩, hB.alloc zX _, by simp; omega⟩ ⟨X.heap.size, hz, Blk.new X _ _, rfl⟩
  case body =>
    rintro ln pre x a' X hln ⟨r, hr⟩ ⟨⟨v, hv, h1, hs⟩, hB, hz⟩ ⟨Bx, hBx, bX, rfl⟩ hlt
    have hne : entsOf ls ≠ [] := fun e => by rw [e] at hlt; simp at hlt
    have h03 : w0.heap.size ≤ w3.heap.size := hor.resolve_right hne
    unfold spC at bX
    have l0 := h1.cell 0
    have xb0 := (Blk.below HXb3.out hB HXb3.out.lt).cell 0
    obtain ⟨c0, c1, c2⟩ := plc_at (Blk.below HX3.out hB HX3.out.lt)
    have HbX := Lib.hid bX
    have HFin : Hid (∀ Y (v' : Int), Below X.heap.size X Y → (0 ≤ v' ∧ v' ≤ lastN) → (pre ++ [x] <+: selE (p.at 0) (p.at lastN) (entsOf ls) → v' = x.1.num) → _) := fun Y v' hY hv' hs' => ran_round (sel := selE (p.at 0) (p.at lastN) (entsOf ls)) (pre := pre) (z := X2.heap.size) h1 hB hz hY h03 (Nat.le_trans hz0 hz) x hv' hs'
    have HRX := Lib.hid (Blk.below HR3.out hB HR3.out.lt)
    have HE : ∀ W, _ := fun W => plc_ne x.1 p W
    by_cases hpx : pre ++ [x] <+: selE (p.at 0) (p.at lastN) (entsOf ls)
    · obtain ⟨r', hr'⟩ := hpx
      obtain ⟨e1, e2, e3, e4, e5⟩ := range_next HI3.out.1 HG.out (p := p) (pre := pre) (x := x) (r := r') (by rw [← hr']; simp)
      have hvl : v = lastOf pre := hs ⟨x :: r', by rw [← hr']; simp⟩
      subst hvl
      have HNx := Lib.hid (next_eq (HI3.out.below hB) p (lastOf pre) e4 e5 e3 (n := x.1.num) (s := true) rfl rfl)
      have hd : decide (plEq x.1 p) = true := decide_eq_true e1
      simp only [hd, Bool.not_true] at HE
      have hx2 : (x.2 != x.1.num) = false := by simp [e2]
      have hx3 : (x.1.num != x.1.num) = false := by simp
      have hxb : 0 ≤ x.1.num ∧ x.1.num ≤ lastN := by
        have h := spans2n HI3.out.1 HG.out e3
        have h2 := (HG.out _ h.2).1.2.2.2
        exact h2
      have HXv := Lib.hid hxb
      clear e1 e2 e3 e4 e5 hne hd hr' hs hv hxb
      gi_wp2_with fail
      refine ⟨trivial, (callsIn_wide.2 HNx.out).mono ?_⟩
      rintro e Y ⟨rfl, hY⟩
      have yb := Blk.below HbX.out hY HbX.out.lt
      have y0 := yb.cell 0
      have y1 := yb.cell 1
      have y2 := yb.cell 2
      have y3 := yb.cell 3
      have hB2 : Below w3.heap.size w3 Y := hB.trans (hY.mono hB.size)
      have ll := Blk.below h1 hY h1.lt
      have m0 := ll.cell 0
      have m1 := ll.frozen 0
      clear l0 xb0 c0 c1 c2 ll yb
      obtain ⟨c0, c1, c2⟩ := plc_at (Blk.below HX3.out hB2 HX3.out.lt)
      have hf := HFin.out Y x.1.num hY HXv.out (fun _ => rfl)
      clear h1 hB hY hB2
      gi_wp2_with fail
      exact hf
    · have hbad : ¬ pre ++ [x] <+: selE (p.at 0) (p.at lastN) (entsOf ls) := hpx
      have HBad := Lib.hid hbad
      obtain ⟨o, ho⟩ : ∃ o, nextS ls p v = o := ⟨_, rfl⟩
      obtain ⟨n2, hn2⟩ : ∃ n2, numS o = n2 := ⟨_, rfl⟩
      obtain ⟨s2, hs2⟩ : ∃ s2, o.isSome = s2 := ⟨_, rfl⟩
      have HNx := Lib.hid (next_eq (HI3.out.below hB) p v hv.1 hv.2 ho hn2 hs2)
      have hxb : 0 ≤ n2 ∧ n2 ≤ lastN := by
        cases o with
        | none => subst hn2; exact ⟨by decide, by decide⟩
        | some z =>
          have h := spans2n HI3.out.1 HG.out ho
          subst hn2
          exact (HG.out _ h.2).1.2.2.2
      have HXv := Lib.hid hxb
      generalize decide (plEq x.1 p) = qd at *
      generalize hr1 : (x.2 != x.1.num) = r1 at *
      generalize hr2 : (n2 != x.1.num) = r2 at *
      clear hne hs hv hxb ho hn2 hs2 hpx hbad
      gi_wp2_with fail
      refine ⟨trivial, (callsIn_wide.2 HNx.out).mono ?_⟩
      rintro e Y ⟨rfl, hY⟩
      have yb := Blk.below HbX.out hY HbX.out.lt
      have y0 := yb.cell 0
      have y1 := yb.cell 1
      have y2 := yb.cell 2
      have y3 := yb.cell 3
      have hB2 : Below w3.heap.size w3 Y := hB.trans (hY.mono hB.size)
      have ll := Blk.below h1 hY h1.lt
      have m0 := ll.cell 0
      have m1 := ll.frozen 0
      clear l0 xb0 c0 c1 c2 ll yb
      obtain ⟨c0, c1, c2⟩ := plc_at (Blk.below HX3.out hB2 HX3.out.lt)
      have hf := HFin.out Y n2 hY HXv.out (fun h => absurd h HBad.out)
      have hRY := Blk.below HRX.out hY HRX.out.lt
      have t0 := hRY.cell 0
      have t1 := hRY.frozen 0
      have hst : KeepsFrom X2.heap.size X (Y.setCell ⟨w.heap.size + 1, 0, none⟩ (.bool false)) := ((keeps_of_below hY).trans (KeepsOthers.setCell _ _ _)).from _
      have hstop := And.intro hst HBad.out
      clear h1 hB hY hB2 hRY hst
      cases qd with
      | false =>
        simp only [Bool.not_false] at HE
        gi_wp2_with fail
        exact hstop
      | true =>
        simp only [Bool.not_true] at HE
        cases r1 with
        | true => gi_wp2_with fail; exact hstop
        | false =>
          cases s2 with
          | false => gi_wp2_with fail; exact hstop
          | true =>
            cases r2 with
            | true => gi_wp2_with fail; exact hstop
            | false => gi_wp2_with fail; exact hf
  case done =>
    rintro D ys X hD rfl ⟨⟨v, hv, h1, hs⟩, hB, hz⟩ hK
    obtain ⟨e3, e4, e5⟩ := range_end HI3.out.1 HG.out p
    have hvl := hs (List.prefix_refl _)
    subst hvl
    have l0 := h1.cell 0
    have xb0 := (Blk.below HXb3.out hB HXb3.out.lt).cell 0
    obtain ⟨c0, c1, c2⟩ := plc_at (Blk.below HX3.out hB HX3.out.lt)
    have HNx := Lib.hid (next_eq (HI3.out.below hB) p _ e4 e5 e3 (n := 0) (s := false) rfl rfl)
    have hRX := Blk.below HR3.out hB HR3.out.lt
    have HRX := Lib.hid hRX
    have hDX : D < X.heap.size := (Array.getElem?_eq_some_iff.1 hK).1
    have HBX := Lib.hid (HB3.out.trans (hB.mono HB3.out.size))
    generalize lastOf (selE (p.at 0) (p.at lastN) (entsOf ls)) = lv at *
    clear e3 e4 e5 hRX hB h1 hs hv
    gi_wp2_with fail
    go_wp2_with fail
    refine HNx.out.mono ?_
    rintro e Y ⟨rfl, hY⟩
    have hRY := Blk.below HRX.out hY HRX.out.lt
    have r0 := hRY.cell 0
    have r1 := hRY.frozen 0
    have hKY := (hY.block D hDX).trans hK
    have HBY := Lib.hid (HBX.out.trans (hY.mono HBX.out.size))
    have HRY := Lib.hid hRY
    clear l0 xb0 c0 c1 c2 hY hRY
    go_wp2_with fail
    have hKZ := (KeepsOthers.setCell Y ⟨w.heap.size + 1, 0, none⟩ (.bool true)).same D _ hKY rfl
    have s3 := HRY.out.set (o := 0) (.bool true)
    have hBZ := HBY.out.setCell (p := ⟨w.heap.size + 1, 0, none⟩) (Nat.le_succ _) (.bool true)
    generalize Y.setCell ⟨w.heap.size + 1, 0, none⟩ (.bool true) = Z at *
    dsimp only [noPanicA]
    refine ⟨by simp, .inl ⟨_, _, rfl, run_takeDeferred hKZ, ?_⟩⟩
    have g0 := (s3.kept (grownBy_putObj' Z D (.deferred none)) (fun r e => by cases e; exact ⟨_, hKZ, rfl⟩)).cell 0
    refine ⟨.bool true, ?_, rfl, hBZ.trans (belowK_b (w := w) (Nat.le_refl _) _ D _ _ (by have := HB3.out.size; omega) hKZ rfl rfl)⟩
    rw [results_cA rfl]
    simp [go_sem, g0, Result.andThen]
end Go.Proofs.Ytlackkhkaceblaa.N
