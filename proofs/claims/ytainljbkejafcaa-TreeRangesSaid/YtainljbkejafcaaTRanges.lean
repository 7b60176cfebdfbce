/- TRanges: joined by merge.py. -/
import Derived.Test.YtainljbkejafcaaTB
import Derived.Test.YtainljbkejafcaaTC
import Derived.Test.YtainljbkejafcaaTRef2
import Derived.Test.YtainljbkejafcaaNCls
/- The law TreeRanges. -/
namespace Go.Proofs.Ytainljbkejafcaa.N
open Go.BigFrame Go.RowKit Go.Shelf Go.Proofs.YtainljbkejafcaaW.PrintMore Go.Proofs.YtainljbkejafcaaW.PrintWords
set_option linter.unusedVariables false
set_option linter.unusedSimpArgs false
attribute [local go_sem] Oper.semAt_some
/-- What the walk has gathered, as far as it went. -/
def GotI (w : World) (z n : Nat) (pre : List Ent) (W : World) : Prop := ((∃ A c, Blk W w.heap.size #[.slice A pre.length c] 67 ∧ W.ownsRow (w.heap.size + 1 + 1) 92 5 (.slice A pre.length c) pre.length (its pre)) ∧ Blk W (w.heap.size + 1) #[.int .i64 n] 3) ∧ Below w.heap.size w W ∧ z ≤ W.heap.size
theorem gotI_own {w : World} {z n B : Nat} (hB : w.heap.size ≤ B) : OwnFrom B (GotI w z n) :=
  OwnFrom.and (Own.from (fun s A B row hs hg hr => by
    obtain ⟨⟨A1, c1, h1, h2⟩, h3⟩ := hs
    exact ⟨⟨A1, c1, h1.kept hg hr, own_kept h2 hg hr⟩, h3.kept hg hr⟩) _) (OwnFrom.and (ownFrom_below (Nat.le_refl _) hB) (Own.from (fun s A B row hs hg hr => Nat.le_trans hs hg.size) _))
theorem got_round {w X w' : World} {z n : Nat} {A A' : Option Addr} {c c' : Nat} {pre : List Ent} {x : Ent} {o : Obj} (hz : z ≤ X.heap.size) (hB : Below w.heap.size w X) (h1 : Blk X w.heap.size #[.slice A pre.length c] 67) (h3 : Blk X (w.heap.size + 1) #[.int .i64 n] 3)
    (h2 : X.ownsRow (w.heap.size + 1 + 1) 92 5 (.slice A pre.length c) pre.length (its pre)) (r2 : w'.ownsRow (w.heap.size + 1 + 1) 92 5 (.slice A' (pre.length + 1) c') (pre.length + 1) (its (pre ++ [x])))
    (r3 : Below (w.heap.size + 1 + 1) X w') (r4 : (X.alloc o).grownBy w' (Value.slice A pre.length c).ownBlock) :
    KeepsFrom z X (w'.setCell ⟨w.heap.size, 0, none⟩ (.slice A' (pre.length + 1) c')) ∧ RK badT w X (w'.setCell ⟨w.heap.size, 0, none⟩ (.slice A' (pre.length + 1) c')) ∧ GotI w z n (pre ++ [x]) (w'.setCell ⟨w.heap.size, 0, none⟩ (.slice A' (pre.length + 1) c')) := by
  have zB := hB.size
  have zr := r3.size
  have zo := h1.lt
  have zn := h3.lt
  have hXY : Below w.heap.size X (w'.setCell ⟨w.heap.size, 0, none⟩ (.slice A' (pre.length + 1) c')) := (r3.mono (by omega : w.heap.size ≤ w.heap.size + 1 + 1)).setCell (p := ⟨w.heap.size, 0, none⟩) (Nat.le_refl _) _
  have g1 : Blk w' w.heap.size #[.slice A pre.length c] 67 := (r3.block _ (by omega)).trans h1
  have g3 : Blk w' (w.heap.size + 1) #[.int .i64 n] 3 := (r3.block _ (by omega)).trans h3
  refine ⟨(((KeepsOthers.alloc X o).trans (KeepsOthers.of_grownBy r4 (fun j o' e ho => ?_))).trans (KeepsOthers.setCell _ _ _)).from _, ⟨hXY, ?_⟩, ⟨⟨A', c', ?_, ?_⟩, ?_⟩, hB.trans (hXY.mono (Nat.le_refl _)), ?_⟩
  · obtain ⟨cur, hc⟩ := own_cells h2 j e
    have hl := (Array.getElem?_eq_some_iff.1 hc).1
    rw [((Below.refl X.heap.size X).alloc (Nat.le_refl _) o).block j hl, hc] at ho
    cases ho
    rfl
  · intro q cs T fz hq hT
    have hl := (Array.getElem?_eq_some_iff.1 hq).1
    have e1 := ((Below.refl X.heap.size X).alloc (Nat.le_refl _) o).block q hl
    have e2 : w'.heap[q]? = (X.alloc o).heap[q]? := r4.block q (by rw [World.size_alloc]; omega) (fun e => by
      obtain ⟨cur, hc⟩ := own_cells h2 q e.symm
      rw [hq] at hc
      injection hc with hc
      injection hc with hc1 hc2 hc3
      exact hT (.inl hc2))
    have e3 : q ≠ w.heap.size := fun e => by
      rw [e, show X.heap[w.heap.size]? = _ from h1] at hq
      injection hq with hc
      injection hc with hc1 hc2 hc3
      exact hT (.inr hc2.symm)
    rw [Below.heap_setCell _ ⟨w.heap.size, 0, none⟩ _ q e3, e2, e1]
  · have := g1.set (o := 0) (.slice A' (pre.length + 1) c')
    simpa using this
  · have := own_stay r2 (w' := w'.setCell ⟨w.heap.size, 0, none⟩ (.slice A' (pre.length + 1) c')) (fun q hq => Below.heap_setCell _ ⟨w.heap.size, 0, none⟩ _ q (fun e => by have := own_ge r2 q hq; simp at e; omega))
    simpa using this
  · exact g3.other (by omega) _
  · exact Nat.le_trans hz (Nat.le_trans zr (by simp [World.setCell, World.putObj]; try exact Nat.le_refl _))
theorem items_take {w : World} {A : Option Addr} {l : List Ent} (h : ItemsAt w A l) (g : Nat) : ItemsAt w A (l.take g) := fun hl => by
  obtain ⟨b, off, e, hlt, hc⟩ := h (by rw [List.length_take] at hl; omega)
  exact ⟨b, off, e, hlt, fun j hj => by
    rw [List.length_take] at hj
    have := hc j (by omega)
    simpa [List.getElem_take] using this⟩
theorem same_take {X : World} {Ag A4 : Option Addr} {cg c4 g : Nat} {pre s : List Ent} (hit : ItemsAt X Ag pre) (hw : ItemsAt X A4 s) (hpe : pre = s.take g) (hpl : pre.length = g) (hg : g ≤ 900) :
    ∀ Y, Below X.heap.size X Y → Calls Try.prog 39 #[.slice Ag g cg, .slice A4 g c4] Y fun e w' => e = .returned (.bool true) ∧ Below Y.heap.size Y w' := fun Y hY => by
  have h := same25 (n := g) (m := g) (c := cg) (d := c4) (hit.below hY) ((items_take hw g).below hY) hpl (by rw [← hpe]; exact hpl) (by omega)
  rwa [decide_eq_true hpe] at h
theorem held_of {X : World} {b1 b2 : Nat} {v1 v2 : Value} (h1 : b1 < X.heap.size) (h2 : b2 < X.heap.size) (q1 : X.cell? ⟨b1, 0, none⟩ = some v1) (q2 : X.cell? ⟨b2, 0, none⟩ = some v2) : ∀ Y, Below X.heap.size X Y → Y.cell? ⟨b1, 0, none⟩ = some v1 ∧ Y.cell? ⟨b2, 0, none⟩ = some v2 := fun Y hY => ⟨bel_cell hY h1 q1, bel_cell hY h2 q2⟩
theorem wf_r8 {n : Int} (h : (Lit.int .u8 n).wf = true) : 0 ≤ n ∧ n ≤ 255 := by
  simp [Lit.wf, IntKind.min, IntKind.max, IntKind.bits, IntKind.signed] at h
  omega
/-- The same, with no panic. -/
def noPanic (Q : Exit → Act → World → Prop) : Exit → Act → World → Prop
  | .panic _, _, _ => False
  | e, a, w => Q e a w
theorem wp_np {P : Program} {c : Code} {Q : Exit → Act → World → Prop} {a : Act} {w : World} (h : c.wp P (noPanic Q) a w) : c.wp P Q a w :=
  Code.wp_mono (fun e a w h => by cases e <;> first | exact h.elim | exact h) h
def fourAtR (w : World) (b : Nat) (s : Sp) : Prop := w.cell? ⟨b, 0, none⟩ = some (.int .i64 s.br) ∧ w.cell? ⟨b, 1, none⟩ = some (.int .i64 s.vol) ∧ w.cell? ⟨b, 2, none⟩ = some (.int .i64 s.blk) ∧ w.cell? ⟨b, 3, none⟩ = some (.int .u64 s.num)
theorem four_atR {w : World} {b : Nat} {s : Sp} (h : Blk w b (spC s) 26) : fourAtR w b s := ⟨h.cell 0, h.cell 1, h.cell 2, h.cell 3⟩
set_option maxHeartbeats 6400000 in
set_option maxRecDepth 100000 in
theorem ranges_ok {w : World} {A : Option Addr} {c : Nat} {ds : List Dd} (hd : DeedsAt w A ds) (lo hi : Sp) {m : Int} (hm0 : 0 ≤ m) (hm1 : m ≤ 255) :
    Calls Try.prog 14 #[.slice A ds.length c, lo.v, hi.v, .int .u8 m] w fun e w' => e = .returned (.bool true) ∧ Below w.heap.size w w' := by
  unfold Sp.v
  have HD := Lib.hid hd
  have HM0 := Lib.hid hm0
  have HM1 := Lib.hid hm1
  obtain ⟨N, hN⟩ : ∃ N, ds.length = N := ⟨_, rfl⟩
  have HN := Lib.hid hN
  rw [hN]
  clear hd hN hm0 hm1
  refine (callsIn_wide (n := 7)).1 ?_
  have hro : Fence.wide.round = none := rfl
  refine callsIn_of_wp_marks Try.func14 rfl trivial ?_ hro
  simp only [Try.ntmps14, List.size_toArray, List.length_cons, List.length_nil, Nat.reduceAdd, Nat.reduceSub, Array.replicate_succ, Array.replicate_zero, List.push_toArray, List.append_toArray, List.nil_append, List.cons_append]
  refine wpIn_wide.2 ?_
  go_upto_region 1 with fail
  obtain ⟨W, hW⟩ : ∃ X, (w.alloc (.cells (spC lo) 26)).alloc (.cells (spC hi) 26) = X := ⟨_, rfl⟩
  have hbw : Below w.heap.size w W := by rw [← hW]; exact ((Below.refl _ _).alloc (Nat.le_refl _) _).alloc (by simp) _
  have hbox : Blk W w.heap.size (spC lo) 26 := by rw [← hW]; exact (Blk.new w _ _).alloc _
  have hbox2 : Blk W (w.heap.size + 1) (spC hi) 26 := by rw [← hW]; have := Blk.new (w.alloc (.cells (spC lo) 26)) (spC hi) 26; rwa [World.size_alloc] at this
  unfold spC at hW
  rw [hW]
  clear hW
  go_wp2_with fail
  refine (awake25 _).mono ?_
  rintro e w1 ⟨rfl, hb1⟩
  have HB1 := Lib.hid (hbw.trans (hb1.mono hbw.size))
  have HLo1 := Lib.hid (Blk.below hbox hb1 hbox.lt)
  have HHi1 := Lib.hid (Blk.below hbox2 hb1 hbox2.lt)
  clear hb1 hbw hbox hbox2
  by_cases hn : N ≤ 60
  case neg =>
    have hg : decide ((60 : Int) < (N : Int)) = true := by simp; omega
    go_wp2_with fail
    refine ⟨_, results_tmp rfl _ _ _, rfl, HB1.out⟩
  have hg : decide ((60 : Int) < (N : Int)) = false := by simp; omega
  go_wp2_with fail
  refine (play25 (HD.out.below HB1.out) HN.out (by omega)).mono ?_
  rintro e w2 ⟨p, A3, c3, rfl, ht, hit, hno, hb2⟩
  have HB2 := Lib.hid (HB1.out.trans (hb2.mono HB1.out.size))
  have HLo2 := Lib.hid (Blk.below HLo1.out hb2 HLo1.out.lt)
  have HHi2 := Lib.hid (Blk.below HHi1.out hb2 HHi1.out.lt)
  have hlen : (playE ds).length ≤ 60 := by have := playE_len ds; have := HN.out; omega
  have hasc := playE_asc ds
  clear hb2 hno hg hn HD HN HB1 HLo1 HHi1
  generalize playE ds = l at *
  have HT := Lib.hid ht
  have HAsc := Lib.hid hasc
  have HLen := Lib.hid hlen
  have HRg := Lib.hid (range25 hit rfl (by omega) lo hi (c := c3))
  obtain ⟨M, hM⟩ : ∃ M, l.length = M := ⟨_, rfl⟩
  have HM := Lib.hid hM
  rw [hM] at HRg ⊢
  clear hM
  clear ht hasc hlen hit
  obtain ⟨a0, a1, a2, a3⟩ := four_atR HLo2.out
  obtain ⟨b0, b1, b2, b3⟩ := four_atR HHi2.out
  go_wp2_with fail
  refine HRg.out.mono ?_
  rintro e w3 ⟨A4, c4, rfl, hi4, hc4, hcm4, hn4, hb3⟩
  have HT3 := Lib.hid (HT.out.below hb3)
  have HB3 := Lib.hid (HB2.out.trans (hb3.mono HB2.out.size))
  have HLo3 := Lib.hid (Blk.below HLo2.out hb3 HLo2.out.lt)
  have HHi3 := Lib.hid (Blk.below HHi2.out hb3 HHi2.out.lt)
  have HW3 := Lib.hid hi4
  clear hb3 a0 a1 a2 a3 b0 b1 b2 b3 HT HB2 HLo2 HHi2 hi4 HRg
  have HC4 := Lib.hid (And.intro hc4 (And.intro hcm4 hn4))
  clear hc4 hcm4 hn4
  have HLs := Lib.hid (list_tree HT3.out HAsc.out (by have := HLen.out; omega) lo hi)
  obtain ⟨a0, a1, a2, a3⟩ := four_atR HLo3.out
  obtain ⟨b0, b1, b2, b3⟩ := four_atR HHi3.out
  obtain ⟨K, hK⟩ : ∃ K, (selE lo hi l).length = K := ⟨_, rfl⟩
  have HK := Lib.hid hK
  rw [hK] at HLs ⊢
  clear hK
  go_wp2_with fail
  refine HLs.out.mono ?_
  rintro e w4 ⟨A5, c5, rfl, hi5, hb4⟩
  have HT4 := Lib.hid (HT3.out.below hb4)
  have HB4 := Lib.hid (HB3.out.trans (hb4.mono HB3.out.size))
  have HLo4 := Lib.hid (Blk.below HLo3.out hb4 HLo3.out.lt)
  have HHi4 := Lib.hid (Blk.below HHi3.out hb4 HHi3.out.lt)
  have HW4 := Lib.hid (HW3.out.below hb4)
  have hKM : K ≤ 60 := by
    have h1 : (selE lo hi l).length ≤ l.length := List.length_filter_le _ _
    rw [HK.out] at h1
    have := HLen.out
    omega
  have HSm := Lib.hid (same25 (c := c5) (d := c4) hi5 HW4.out HK.out HK.out (by omega))
  clear hb4 a0 a1 a2 a3 b0 b1 b2 b3 HT3 HB3 HLo3 HHi3 HW3 hi5 HLs
  go_wp2_with fail
  refine HSm.out.mono ?_
  rintro e w5 ⟨rfl, hb5⟩
  have HT5 := Lib.hid (HT4.out.below hb5)
  have HB5 := Lib.hid (HB4.out.trans (hb5.mono HB4.out.size))
  have HLo5 := Lib.hid (Blk.below HLo4.out hb5 HLo4.out.lt)
  have HHi5 := Lib.hid (Blk.below HHi4.out hb5 HHi4.out.lt)
  have HW5 := Lib.hid (HW4.out.below hb5)
  clear hb5 HT4 HB4 HLo4 HHi4 HW4 HSm
  go_upto_region 11 with fail
  obtain ⟨n, hn, hn1, hn5⟩ : ∃ n : Nat, wrap64 ((wrap64 m).tmod 5 + 1) = (n : Int) ∧ 1 ≤ n ∧ n ≤ 5 := by
    have h0 := HM0.out
    have h1 := HM1.out
    have e1 : wrap64 m = m := Go.IntWalk.wrap64_in m (by omega)
    rw [e1, Int.tmod_eq_emod_of_nonneg h0, Go.IntWalk.wrap64_in _ (by omega)]
    exact ⟨(m % 5 + 1).toNat, by omega, by omega, by omega⟩
  rw [hn]
  generalize Value.int .i64 (wrap64 m) = v38
  generalize Value.int .i64 ((wrap64 m).tmod 5) = v39
  obtain ⟨w6, hW⟩ : ∃ X, (w5.alloc (.cells #[.slice none 0 0] 67)).alloc (.cells #[.int .i64 n] 3) = X := ⟨_, rfl⟩
  have hb6 : Below w5.heap.size w5 w6 := by rw [← hW]; exact ((Below.refl _ _).alloc (Nat.le_refl _) _).alloc (by simp) _
  have b1 : Blk w6 w5.heap.size #[.slice none 0 0] 67 := by rw [← hW]; exact (Blk.new w5 _ _).alloc _
  have b2 : Blk w6 (w5.heap.size + 1) #[.int .i64 n] 3 := by rw [← hW]; have := Blk.new (w5.alloc (.cells #[.slice none 0 0] 67)) #[.int .i64 n] 3; rwa [World.size_alloc] at this
  rw [hW]
  clear hW hn
  have HLo6 := Lib.hid (Blk.below HLo5.out hb6 HLo5.out.lt)
  have HHi6 := Lib.hid (Blk.below HHi5.out hb6 HHi5.out.lt)
  obtain ⟨a0, a1, a2, a3⟩ := four_atR HLo6.out
  obtain ⟨d0, d1, d2, d3⟩ := four_atR HHi6.out
  go_upto_block 0 with (refine (range_tree p lo hi w6).mono ?_; rintro e w7 ⟨xb, fb, tb, rfl, hb7, bt, bf, bx⟩)
  have hb57 : Below w5.heap.size w5 w7 := hb6.trans (hb7.mono hb6.size)
  have B1 := b1.below hb7 b1.lt
  have B2 := b2.below hb7 b2.lt
  have hsz := hb57.size
  clear a0 a1 a2 a3 d0 d1 d2 d3 HLo6 HHi6 HLo5 HHi5 b1 b2 hb6 hb7
  refine (wpIn_wide (n := 7)).1 ?_
  gi_wp2_with fail
  refine wpIn_rangeFunc_ownH hro (by omega) (gf := 74) (lb := #[.pointer (some ⟨tb, 0, none⟩), .pointer (some ⟨fb, 0, none⟩), .pointer (some ⟨xb, 0, none⟩)]) rfl trivial (enters_of Try.func74 (by kernel_rfl) rfl)
    (range_stops badT (by unfold badT; decide) (by unfold badT; decide) (by unfold badT; decide) tb fb xb lo hi p l HT5.out HAsc.out hb57 bt bf bx 150 (by have := HLen.out; omega)) rk_t (rk_b hsz) (Below.refl _ _) (fun _ => rfl)
    (fun pre W => GotI w5 w7.heap.size n pre W ∧ pre.length < n) (fun c pre W => (c = .exit 0 ∧ pre.length = n) ∧ GotI w5 w7.heap.size n pre W)
    (OwnFrom.and (gotI_own hsz) (Own.from (fun s A B row hs hg hr => hs) _)) (fun c => OwnFrom.and (Own.from (fun s A B row hs hg hr => hs) _) (gotI_own hsz))
    ⟨⟨⟨⟨none, 0, B1, World.ownsRow_nil _ _ _ _⟩, B2⟩, hb57, Nat.le_refl _⟩, by simp; omega⟩
    (fun x a' X => ∃ Bx, w7.heap.size ≤ Bx ∧ Blk X Bx (spC x.1) 26 ∧ a' = { tmps := #[.slice A N c, .agg #[.int .i64 lo.br, .int .i64 lo.vol, .int .i64 lo.blk, .int .u64 lo.num], .agg #[.int .i64 hi.br, .int .i64 hi.vol, .int .i64 hi.blk, .int .u64 hi.num], .int .u8 m, undef, .pointer (some ⟨w.heap.size, 0, none⟩), .pointer (some ⟨w.heap.size + 1, 0, none⟩), undef, .bool false, .pointer p, .slice A3 M c3, .slice A4 K c4, .pointer (some ⟨w5.heap.size, 0, none⟩), .pointer (some ⟨w5.heap.size + 1, 0, none⟩), .pointer (some ⟨Bx, 0, none⟩), .int .u64 x.2, .bool true, .bool false, .slice A N c, .int .i64 N, .bool false, .tuple #[.pointer p, .slice A3 M c3], .slice A N c, .tuple #[.pointer p, .slice A3 M c3], .pointer p, .slice A3 M c3, .slice A3 M c3, .agg #[.int .i64 lo.br, .int .i64 lo.vol, .int .i64 lo.blk, .int .u64 lo.num], .agg #[.int .i64 hi.br, .int .i64 hi.vol, .int .i64 hi.blk, .int .u64 hi.num], .slice A4 K c4, .pointer p, .agg #[.int .i64 lo.br, .int .i64 lo.vol, .int .i64 lo.blk, .int .u64 lo.num], .agg #[.int .i64 hi.br, .int .i64 hi.vol, .int .i64 hi.blk, .int .u64 hi.num], .slice A5 K c5, .slice A4 K c4, .bool true, .bool false, .int .u8 m, v38, v39, .int .i64 n, .pointer p, .agg #[.int .i64 lo.br, .int .i64 lo.vol, .int .i64 lo.blk, .int .u64 lo.num], .agg #[.int .i64 hi.br, .int .i64 hi.vol, .int .i64 hi.blk, .int .u64 hi.num], .func (.func 74) #[] #[.pointer (some ⟨tb, 0, none⟩), .pointer (some ⟨fb, 0, none⟩), .pointer (some ⟨xb, 0, none⟩)], .agg #[.int .i64 x.1.br, .int .i64 x.1.vol, .int .i64 x.1.blk, .int .u64 x.1.num], .int .u64 x.2, undef, undef, undef, undef, undef, undef, undef, undef, undef, undef, undef, undef, undef, undef, undef, undef, undef, undef], defers := [] })
    (fun x a' _ X Y row hs hg hr => by obtain ⟨Bx, h1, h2, h3⟩ := hs; exact ⟨Bx, h1, h2.kept hg (fun r e => (hr r e).2), h3⟩)
    ?assign ?body ?done ?stop
  case assign =>
    rintro ln pre x X K ⟨⟨⟨⟨A, c, h1, h2⟩, h3⟩, hB, hz⟩, hlt⟩ hK
    have zX : w5.heap.size ≤ X.heap.size := hB.size
    unfold encEnt
    gi_wp2
    refine hK _ _ (KeepsFrom.trans ((KeepsOthers.alloc X _).from _) (KeepsFrom.refl _ _)) ⟨(Below.refl _ X).alloc zX _, fun q cs T fz hq _ => ((Below.refl X.heap.size X).alloc (Nat.le_refl _) _).block q (Array.getElem?_eq_some_iff.1 hq).1⟩ ⟨⟨⟨⟨A, c, h1.alloc _, own_kept h2 (World.grownBy_alloc X _ none) (fun r e => by cases e)⟩, h3.alloc _⟩, hB.alloc zX _, by simp; omega⟩, hlt⟩ ⟨X.heap.size, hz, Blk.new X _ _, rfl⟩
  case body =>
    rintro ln pre x a' X hln ⟨r, hr⟩ ⟨⟨⟨⟨A6, c6, h1, h2⟩, h3⟩, hB, hz⟩, hpn⟩ ⟨Bx, hBx, bX, rfl⟩ hlt
    unfold spC at bX
    have x0 := bX.cell 0
    have x1 := bX.cell 1
    have x2 := bX.cell 2
    have x3 := bX.cell 3
    have o0 := h1.cell 0
    have o1 := h1.frozen 0
    have n0 := h3.cell 0
    have zx := bX.lt
    have zo := h1.lt
    have zn := h3.lt
    have hpl : pre.length ≤ 1000 := by omega
    obtain ⟨A', c', w', r1, r2, r3, r4⟩ := app_I2 (w5.heap.size + 1 + 1) (.slice A6 pre.length c6) pre.length pre h2 zn hpl x 67
    have zr := r3.size
    have g1 : Blk w' w5.heap.size #[.slice A6 pre.length c6] 67 := (r3.block _ (by omega)).trans h1
    have g3 : Blk w' (w5.heap.size + 1) #[.int .i64 n] 3 := (r3.block _ (by omega)).trans h3
    have q0 := g1.cell 0
    have q1 := g1.frozen 0
    have q3 := g3.cell 0
    obtain ⟨hK1, hK2, hK3⟩ := got_round (z := w7.heap.size) hz hB h1 h3 h2 r2 r3 r4
    clear h2 r2 r3 r4 g1 g3 h1 h3 n0
    have hnx : w5.heap.size + 1 ≠ w5.heap.size := by omega
    by_cases hnn : pre.length + 1 = n
    · have hc1 : (((pre.length + 1 : Nat) : Int) == (n : Int)) = true := by rw [beq_iff_eq]; omega
      have hc2 : ((pre.length : Int) + 1 == (n : Int)) = true := by rw [beq_iff_eq]; omega
      gi_wp2_with (gi_at_builtin; refine wpListIn_append_run rfl _ _ _ rfl _ _ _ _ rfl rfl r1 ?_)
      rw [hnn] at hK1 hK2 hK3
      exact ⟨hK1, ⟨rfl, by simpa using hnn⟩, hK3⟩
    · have hc1 : (((pre.length + 1 : Nat) : Int) == (n : Int)) = false := by rw [beq_eq_false_iff_ne]; omega
      have hc2 : ((pre.length : Int) + 1 == (n : Int)) = false := by rw [beq_eq_false_iff_ne]; omega
      gi_wp2_with (gi_at_builtin; refine wpListIn_append_run rfl _ _ _ rfl _ _ _ _ rfl rfl r1 ?_)
      exact ⟨hK1, hK2, hK3, by simp; omega⟩
  case done =>
    rintro D ys X hD rfl ⟨hG, hlt⟩ hK
    have hc4 := HC4.out
    have hl := HK.out
    have hG' : ∃ pre, GotI w5 w7.heap.size n pre X ∧ pre = (selE lo hi l).take K ∧ pre.length = K := ⟨_, hG, (List.take_of_length_le (by omega)).symm, hl⟩
    have hmin : min (n : Int) (K : Int) = (K : Int) := by omega
    have hm2 : ¬ (n : Int) < (K : Int) := by omega
    have hcK : K ≤ c4 := by omega
    have hcI : (K : Int) ≤ (c4 : Int) := by omega
    have hc0 : (0 : Int) ≤ (K : Int) := by omega
    clear hG hlt hl hc4
    obtain ⟨pre, ⟨⟨⟨Ag, cg, h1, h2⟩, h3⟩, hB, hz⟩, hpe, hpl⟩ := hG'
    rw [hpl] at h1 h2
    have hit : ItemsAt X Ag pre := by
      obtain ⟨A', c', e, _, _, hi, _⟩ := its_own h2 hpl
      cases e
      exact hi
    have hHK := HK.out
    have hKM1 : K ≤ 60 := hKM
    have hWX := HW5.out.below hB
    have HSa := Lib.hid (same_take (cg := cg) (c4 := c4) hit hWX hpe hpl (by omega))
    have q1 : X.cell? ⟨w5.heap.size, 0, none⟩ = some (.slice Ag K cg) := h1.cell 0
    have q3 : X.cell? ⟨w5.heap.size + 1, 0, none⟩ = some (.int .i64 n) := h3.cell 0
    have held : ∀ Y, Below X.heap.size X Y → (fun w' => w'.cell? ⟨w5.heap.size, 0, none⟩ = some (.slice Ag K cg) ∧ w'.cell? ⟨w5.heap.size + 1, 0, none⟩ = some (.int .i64 n)) Y := held_of h1.lt h3.lt q1 q3
    have hHB := HB5.out
    have hzX := hB.size
    have hzw := hHB.size
    have hDX : D < X.heap.size := (Array.getElem?_eq_some_iff.1 hK).1
    clear hit hpe hpl hHK hWX h2
    gi_wp2_with fail
    refine wp_np ?_
    go_upto_region 16 with fail
    refine wp_region_held_drew (S := (fun w' => w'.cell? ⟨w5.heap.size, 0, none⟩ = some (.slice Ag K cg) ∧ w'.cell? ⟨w5.heap.size + 1, 0, none⟩ = some (.int .i64 n))) (by kernel_rfl) (held _ (bel_drewN _ _ (n := 1))) (fun hHeld => ?_)
    obtain ⟨Y0, hwd⟩ : ∃ Wn, Wn = World.drew X := ⟨_, rfl⟩
    rw [← hwd] at hHeld ⊢
    have hbY0 : Below X.heap.size X Y0 := by rw [hwd]; exact bel_drewN _ _ (n := 1)
    clear hwd 
    refine take_at (i := 0) (v := ?_) rfl (by kernel_rfl) (by kernel_rfl) (by kernel_rfl) (fun _ _ _ h => h) (Or.inl ⟨by rfl, ?_⟩) (by assumption) ?_
    rotate_left
    · (intro w' hSw; (try dsimp only at hSw); go_simp <;> (with_reducible rfl))
    try simp only [Act.put, List.setIfInBounds_toArray, List.set_cons_zero, List.set_cons_succ]
    refine take_at (i := 1) (v := ?_) rfl (by kernel_rfl) (by kernel_rfl) (by kernel_rfl) (fun _ _ _ h => h) (Or.inl ⟨by rfl, ?_⟩) (by assumption) ?_
    rotate_left
    · (intro w' hSw; (try dsimp only at hSw); go_simp <;> (with_reducible rfl))
    try simp only [Act.put, List.setIfInBounds_toArray, List.set_cons_zero, List.set_cons_succ]
    refine take_at (i := 2) (v := ?_) rfl (by kernel_rfl) (by kernel_rfl) (by kernel_rfl) (fun _ _ _ h => h) (Or.inl ⟨by rfl, ?_⟩) (by assumption) ?_
    rotate_left
    · (intro w' hSw; (try dsimp only at hSw); go_simp <;> (with_reducible rfl))
    try simp only [Act.put, List.setIfInBounds_toArray, List.set_cons_zero, List.set_cons_succ]
    refine take_at (i := 3) (v := ?_) rfl (by kernel_rfl) (by kernel_rfl) (by kernel_rfl) (fun _ _ _ h => h) (Or.inl ⟨by rfl, ?_⟩) (by assumption) ?_
    rotate_left
    · (intro w' hSw; (try dsimp only at hSw); go_simp <;> (with_reducible rfl))
    try simp only [Act.put, List.setIfInBounds_toArray, List.set_cons_zero, List.set_cons_succ]
    refine take_at (i := 4) (v := ?_) rfl (by kernel_rfl) (by kernel_rfl) (by kernel_rfl) (fun _ _ _ h => h) (Or.inl ⟨by rfl, ?_⟩) (by assumption) ?_
    rotate_left
    · (intro w' hSw; (try dsimp only at hSw); go_simp <;> (with_reducible rfl))
    try simp only [Act.put, List.setIfInBounds_toArray, List.set_cons_zero, List.set_cons_succ]
    refine take_at (i := 5) (v := ?_) rfl (by kernel_rfl) (by kernel_rfl) (by kernel_rfl) (fun _ _ _ h => h) (Or.inl ⟨by rfl, ?_⟩) (by assumption) ?_
    rotate_left
    · (intro w' hSw; (try dsimp only at hSw); go_simp <;> (with_reducible rfl))
    try simp only [Act.put, List.setIfInBounds_toArray, List.set_cons_zero, List.set_cons_succ]
    refine take_at (i := 6) (v := ?_) rfl (by kernel_rfl) (by kernel_rfl) (by kernel_rfl) (fun _ _ _ h => h) (Or.inl ⟨by rfl, ?_⟩) (by assumption) ?_
    rotate_left
    · (intro w' hSw; (try dsimp only at hSw); go_simp <;> (with_reducible rfl))
    try simp only [Act.put, List.setIfInBounds_toArray, List.set_cons_zero, List.set_cons_succ]
    refine one_at (i := 7) rfl (by kernel_rfl) (by rfl) (fun K hK => ?_)
    go_simp
    refine (HSa.out Y0 hbY0).mono ?_
    rintro e Y1 ⟨rfl, hb1⟩
    have hbY1 := hbY0.trans (hb1.mono hbY0.size)
    go_simp
    refine hK.out _ _ (held _ hbY1) (fun hHeld1 => ?_)
    clear hK K
    try simp only [Act.put, List.setIfInBounds_toArray, List.set_cons_zero, List.set_cons_succ]
    refine take_at (i := 8) (v := ?_) rfl (by kernel_rfl) (by kernel_rfl) (by kernel_rfl) (fun _ _ _ h => h) (Or.inl ⟨by rfl, ?_⟩) (by assumption) ?_
    rotate_left
    · (intro w' hSw; (try dsimp only at hSw); go_simp <;> (with_reducible rfl))
    try simp only [Act.put, List.setIfInBounds_toArray, List.set_cons_zero, List.set_cons_succ]
    refine wpAnyH_done (by kernel_rfl) ?_ _
    try simp only [Act.put, List.setIfInBounds_toArray, List.set_cons_zero, List.set_cons_succ]
    have hK1 := (hbY1.block D hDX).trans hK
    go_wp2_with fail
    show _ ∧ _
    refine ⟨by simp, .inl ⟨_, _, rfl, run_takeDeferred hK1, ?_⟩⟩
    exact ⟨_, results_tmp rfl _ _ _, rfl, ((hHB.trans (hB.mono hzw)).trans (hbY1.mono (by omega))).trans (belowK_b (w := w) (Nat.le_refl _) _ D _ _ (by omega) hK1 rfl rfl)⟩
  case stop =>
    rintro D c pre X hD hpre ⟨⟨rfl, hpn⟩, hG⟩ hK
    have hc4 := HC4.out
    have hl := HK.out
    have hnK : n ≤ K := by have := hpre.length_le; omega
    have hG' : ∃ pre, GotI w5 w7.heap.size n pre X ∧ pre = (selE lo hi l).take n ∧ pre.length = n := ⟨pre, hG, by rw [← hpn]; exact List.prefix_iff_eq_take.1 hpre, hpn⟩
    have hmin : min (n : Int) (K : Int) = (n : Int) := by omega
    have hcK : n ≤ c4 := by omega
    have hcI : (n : Int) ≤ (c4 : Int) := by omega
    have hc0 : (0 : Int) ≤ (n : Int) := by omega
    clear hG hpn hpre hl hc4 pre
    obtain ⟨pre, ⟨⟨⟨Ag, cg, h1, h2⟩, h3⟩, hB, hz⟩, hpe, hpl⟩ := hG'
    rw [hpl] at h1 h2
    have hit : ItemsAt X Ag pre := by
      obtain ⟨A', c', e, _, _, hi, _⟩ := its_own h2 hpl
      cases e
      exact hi
    have hHK := HK.out
    have hKM1 : K ≤ 60 := hKM
    have hWX := HW5.out.below hB
    have HSa := Lib.hid (same_take (cg := cg) (c4 := c4) hit hWX hpe hpl (by omega))
    have q1 : X.cell? ⟨w5.heap.size, 0, none⟩ = some (.slice Ag n cg) := h1.cell 0
    have q3 : X.cell? ⟨w5.heap.size + 1, 0, none⟩ = some (.int .i64 n) := h3.cell 0
    have held : ∀ Y, Below X.heap.size X Y → (fun w' => w'.cell? ⟨w5.heap.size, 0, none⟩ = some (.slice Ag n cg) ∧ w'.cell? ⟨w5.heap.size + 1, 0, none⟩ = some (.int .i64 n)) Y := held_of h1.lt h3.lt q1 q3
    have hHB := HB5.out
    have hzX := hB.size
    have hzw := hHB.size
    have hDX : D < X.heap.size := (Array.getElem?_eq_some_iff.1 hK).1
    clear hit hpe hpl hHK hWX h2
    gi_wp2_with fail
    refine wp_np ?_
    go_upto_region 16 with fail
    refine wp_region_held_drew (S := (fun w' => w'.cell? ⟨w5.heap.size, 0, none⟩ = some (.slice Ag n cg) ∧ w'.cell? ⟨w5.heap.size + 1, 0, none⟩ = some (.int .i64 n))) (by kernel_rfl) (held _ (bel_drewN _ _ (n := 1))) (fun hHeld => ?_)
    obtain ⟨Y0, hwd⟩ : ∃ Wn, Wn = World.drew X := ⟨_, rfl⟩
    rw [← hwd] at hHeld ⊢
    have hbY0 : Below X.heap.size X Y0 := by rw [hwd]; exact bel_drewN _ _ (n := 1)
    clear hwd 
    refine take_at (i := 0) (v := ?_) rfl (by kernel_rfl) (by kernel_rfl) (by kernel_rfl) (fun _ _ _ h => h) (Or.inl ⟨by rfl, ?_⟩) (by assumption) ?_
    rotate_left
    · (intro w' hSw; (try dsimp only at hSw); go_simp <;> (with_reducible rfl))
    try simp only [Act.put, List.setIfInBounds_toArray, List.set_cons_zero, List.set_cons_succ]
    refine take_at (i := 1) (v := ?_) rfl (by kernel_rfl) (by kernel_rfl) (by kernel_rfl) (fun _ _ _ h => h) (Or.inl ⟨by rfl, ?_⟩) (by assumption) ?_
    rotate_left
    · (intro w' hSw; (try dsimp only at hSw); go_simp <;> (with_reducible rfl))
    try simp only [Act.put, List.setIfInBounds_toArray, List.set_cons_zero, List.set_cons_succ]
    refine take_at (i := 2) (v := ?_) rfl (by kernel_rfl) (by kernel_rfl) (by kernel_rfl) (fun _ _ _ h => h) (Or.inl ⟨by rfl, ?_⟩) (by assumption) ?_
    rotate_left
    · (intro w' hSw; (try dsimp only at hSw); go_simp <;> (with_reducible rfl))
    try simp only [Act.put, List.setIfInBounds_toArray, List.set_cons_zero, List.set_cons_succ]
    refine take_at (i := 3) (v := ?_) rfl (by kernel_rfl) (by kernel_rfl) (by kernel_rfl) (fun _ _ _ h => h) (Or.inl ⟨by rfl, ?_⟩) (by assumption) ?_
    rotate_left
    · (intro w' hSw; (try dsimp only at hSw); go_simp <;> (with_reducible rfl))
    try simp only [Act.put, List.setIfInBounds_toArray, List.set_cons_zero, List.set_cons_succ]
    refine take_at (i := 4) (v := ?_) rfl (by kernel_rfl) (by kernel_rfl) (by kernel_rfl) (fun _ _ _ h => h) (Or.inl ⟨by rfl, ?_⟩) (by assumption) ?_
    rotate_left
    · (intro w' hSw; (try dsimp only at hSw); go_simp <;> (with_reducible rfl))
    try simp only [Act.put, List.setIfInBounds_toArray, List.set_cons_zero, List.set_cons_succ]
    refine take_at (i := 5) (v := ?_) rfl (by kernel_rfl) (by kernel_rfl) (by kernel_rfl) (fun _ _ _ h => h) (Or.inl ⟨by rfl, ?_⟩) (by assumption) ?_
    rotate_left
    · (intro w' hSw; (try dsimp only at hSw); go_simp <;> (with_reducible rfl))
    try simp only [Act.put, List.setIfInBounds_toArray, List.set_cons_zero, List.set_cons_succ]
    refine take_at (i := 6) (v := ?_) rfl (by kernel_rfl) (by kernel_rfl) (by kernel_rfl) (fun _ _ _ h => h) (Or.inl ⟨by rfl, ?_⟩) (by assumption) ?_
    rotate_left
    · (intro w' hSw; (try dsimp only at hSw); go_simp <;> (with_reducible rfl))
    try simp only [Act.put, List.setIfInBounds_toArray, List.set_cons_zero, List.set_cons_succ]
    refine one_at (i := 7) rfl (by kernel_rfl) (by rfl) (fun K hK => ?_)
    go_simp
    refine (HSa.out Y0 hbY0).mono ?_
    rintro e Y1 ⟨rfl, hb1⟩
    have hbY1 := hbY0.trans (hb1.mono hbY0.size)
    go_simp
    refine hK.out _ _ (held _ hbY1) (fun hHeld1 => ?_)
    clear hK K
    try simp only [Act.put, List.setIfInBounds_toArray, List.set_cons_zero, List.set_cons_succ]
    refine take_at (i := 8) (v := ?_) rfl (by kernel_rfl) (by kernel_rfl) (by kernel_rfl) (fun _ _ _ h => h) (Or.inl ⟨by rfl, ?_⟩) (by assumption) ?_
    rotate_left
    · (intro w' hSw; (try dsimp only at hSw); go_simp <;> (with_reducible rfl))
    try simp only [Act.put, List.setIfInBounds_toArray, List.set_cons_zero, List.set_cons_succ]
    refine wpAnyH_done (by kernel_rfl) ?_ _
    try simp only [Act.put, List.setIfInBounds_toArray, List.set_cons_zero, List.set_cons_succ]
    have hK1 := (hbY1.block D hDX).trans hK
    go_wp2_with fail
    show _ ∧ _
    refine ⟨by simp, .inl ⟨_, _, rfl, run_takeDeferred hK1, ?_⟩⟩
    exact ⟨_, results_tmp rfl _ _ _, rfl, ((hHB.trans (hB.mono hzw)).trans (hbY1.mono (by omega))).trans (belowK_b (w := w) (Nat.le_refl _) _ D _ _ (by omega) hK1 rfl rfl)⟩
end Go.Proofs.Ytainljbkejafcaa.N
