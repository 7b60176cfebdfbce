/- The walks of look and Right over a leaf of rising keys. -/
import Derived.Test.YtainljbkejafcaaNPutEnd
namespace Go.Proofs.Ytainljbkejafcaa.N
open Go.RowKit
set_option linter.unusedVariables false
set_option linter.unusedSimpArgs false
theorem results_tct {fn : Func} {p u t : Tmp} {ty : TypeId} (h : fn.results = #[.tmp t, .cell p ty, .tmp u]) (tmps : Array Value) (P : Program) (w : World) :
    (results fn tmps).run P w =
      ((asAddr (tmps.getD p undef)).run P w).andThen fun a w₁ => ((loadVar ty a).run P w₁).andThen fun v w₂ => .ok (.tuple #[tmps.getD t undef, v, tmps.getD u undef]) w₂ := by
  simp only [results, h]
  simp [Sem.run_bind, Result.andThen]
theorem before_at' (a b : Sp) (w : World) : Calls Try.prog 20 #[.agg #[.int .i64 a.br, .int .i64 a.vol, .int .i64 a.blk, .int .u64 a.num], .agg #[.int .i64 b.br, .int .i64 b.vol, .int .i64 b.blk, .int .u64 b.num]] w fun e w' => e = .returned (.bool (lt a b)) ∧ Below w.heap.size w w' := before_at a b w
/-- An operation is taken first, the operation itself written out. -/
theorem take_at {P : Program} {l : List Oper} {Q : Exit → Act → World → Prop} {md : Region.Mode} {S : World → Prop} {i : Nat} {oi : Oper} {v : Value} {fuel : Nat} {listed : Array Bool} {a : Act} {w : World} (hi : l[i]? = some oi)
    (hs : Region.noSelect l.toArray = true) (hf : Region.free md l.toArray listed i = true) (hr : (Region.ready md l.toArray listed).contains i = true)
    (hQ : ∀ c a w, Q (.panic c) (a.put oi.dst v) w → Q (.panic c) a w) (hy : YieldsIf P l.toArray S oi v a) (hS : S w)
    (h : wpAnyH P md l.toArray Q S fuel (listed.setIfInBounds i true) (a.put oi.dst v) w) : wpAnyH P md l.toArray Q S (fuel + 1) listed a w :=
  wpAnyH_take (by simpa using hi) hs hf hr hQ hy hS h
/-- One operation alone may come up, and is wanted. -/
theorem one_at {P : Program} {l : List Oper} {Q : Exit → Act → World → Prop} {md : Region.Mode} {S : World → Prop} {i : Nat} {o : Oper} {fuel : Nat} {listed : Array Bool} {a : Act} {w : World} (hi : l[i]? = some o)
    (hr : Region.ready md l.toArray listed = [i]) (hw : Region.wanted o (yielded l.toArray a.tmps) = true)
    (h : ∀ K' : Act → World → Prop, Shut (∀ a w, S w → (S w → wpAnyH P md l.toArray Q S fuel (listed.setIfInBounds i true) a w) → K' a w) → Oper.wp P o a w K' Q) : wpAnyH P md l.toArray Q S (fuel + 1) listed a w :=
  wpAnyH_ready hr (by simp) (AllReadyH.cons (by simpa using hi) (fun K hK => by rw [if_pos hw]; exact h K hK) AllReadyH.nil)
/-- Each key stands ahead of the next one. -/
def Rising (l : List Sp) : Prop := ∀ j (h : j + 1 < l.length), lt l[j] l[j + 1] = true
theorem cell_off (w : World) (q o o' : Nat) (v : Value) (h : o ≠ o') : (w.setCell ⟨q, o, none⟩ v).cell? ⟨q, o', none⟩ = w.cell? ⟨q, o', none⟩ := World.cell?_setCell_other _ _ _ _ (fun e => h (by injection e))
def zeroSp : Sp := ⟨0, 0, 0, 0⟩
def rightN (n : Nat) (root : Bool) : Bool := decide (1 ≤ n) && decide (n ≤ 4) && (root || decide (1 < n))
def LookPost (w : World) (n : Nat) (root : Bool) (e : Ending) (w' : World) : Prop := (∃ (h : Int) (s : Sp), e = .returned (.tuple #[.int .i64 h, .agg #[.int .i64 s.br, .int .i64 s.vol, .int .i64 s.blk, .int .u64 s.num], .bool (rightN n root)])) ∧ Below w.heap.size w w'
def LookRel (W : World) (n : Nat) (i : Value) (wr : World) : Prop := ∃ j : Nat, i = .int .i64 j ∧ j + 1 ≤ n ∧ Below W.heap.size W wr
set_option maxHeartbeats 1600000 in
set_option maxRecDepth 100000 in
theorem look_nil (w : World) (root : Bool) : Calls Try.prog 58 #[.pointer none, .bool root] w (LookPost w 0 root) := by
  go_enter Try.func58, Try.ntmps58
  go_wp2_with fail
  go_region_with fail
  go_wp2_with fail
  refine bodyPost_ret (v := .tuple #[.int .i64 0, .agg #[.int .i64 0, .int .i64 0, .int .i64 0, .int .u64 0], .bool false]) (by rw [results_tct rfl]; go_simp) rfl ?_
  refine ⟨⟨0, zeroSp, rfl⟩, ?_⟩
  have h := (((Below.refl w.heap.size w).alloc (Nat.le_refl _) (.cells #[.int .i64 0, .int .i64 0, .int .i64 0, .int .u64 0] 26)).trans (bel_drewN _ _ (n := 1)))
  exact h
set_option maxHeartbeats 1600000 in
set_option maxRecDepth 100000 in
theorem look_leaf {w : World} {p : Nat} {ks : List Sp} {vs : List Int} (h : Leaf w p ks vs) (hk : ks.length ≤ 1000) (hv : vs.length = ks.length) (hr : Rising ks) (root : Bool) :
    Calls Try.prog 58 #[.pointer (some ⟨p, 0, none⟩), .bool root] w (LookPost w ks.length root) := by
  have HLf := Lib.hid h
  have HR := Lib.hid hr
  obtain ⟨A, ca, B, cb, hl⟩ := h
  have HX := Lib.hid hl
  have c0 := hl.c0
  have c1 := hl.c1
  have plt := hl.lt
  have hca := hl.hca
  have hcm := hl.hcm
  simp only [maxLen] at hcm
  rw [hv] at c1
  have hkeys := Lib.hid hl.keys
  obtain ⟨N, hN⟩ : ∃ N, ks.length = N := ⟨_, rfl⟩
  have HN := Lib.hid hN
  rw [hN] at c0 c1 hca hk ⊢
  clear hl hv hr hN
  have hq := heap_alloc_new w (.cells #[.int .i64 0, .int .i64 0, .int .i64 0, .int .u64 0] 26)
  have hb0 := (Below.refl w.heap.size w).alloc (Nat.le_refl _) (.cells #[.int .i64 0, .int .i64 0, .int .i64 0, .int .u64 0] 26)
  have np : p ≠ w.heap.size := by omega
  by_cases d0 : N = 0
  · subst d0
    go_enter Try.func58, Try.ntmps58
    go_wp2_with fail
    go_region_with fail
    go_wp2_with fail
    refine bodyPost_ret (v := .tuple #[.int .i64 0, .agg #[.int .i64 0, .int .i64 0, .int .i64 0, .int .u64 0], .bool false]) (by rw [results_tct rfl]; go_simp) rfl ?_
    exact ⟨⟨0, zeroSp, rfl⟩, hb0.trans (bel_drewN _ _ (n := 1))⟩
  by_cases d4 : 4 < N
  · have D0 : ((N : Int) == 0) = false := beq_eq_false_iff_ne.2 (by omega)
    go_enter Try.func58, Try.ntmps58
    go_wp2_with fail
    go_region_with fail
    go_wp2_with fail
    refine bodyPost_ret (v := .tuple #[.int .i64 0, .agg #[.int .i64 0, .int .i64 0, .int .i64 0, .int .u64 0], .bool false]) (by rw [results_tct rfl]; go_simp) rfl ?_
    refine ⟨⟨0, zeroSp, ?_⟩, hb0.trans (bel_drewN _ _ (n := 1))⟩
    have : rightN N root = false := by unfold rightN; simp; omega
    rw [this]; rfl
  have D0 : ((N : Int) == 0) = false := beq_eq_false_iff_ne.2 (by omega)
  obtain ⟨b, off, rfl, hlt, hcs⟩ := hkeys.out (by rw [HN.out]; omega)
  have HC : Hid (∀ j (h : j < N), SpAt w b (off + j * 4) (ks[j]'(by rw [HN.out]; exact h))) := fun j h => hcs j (by rw [HN.out]; exact h)
  have HR2 : Hid (∀ j (h : j + 1 < N), lt (ks[j]'(by rw [HN.out]; omega)) (ks[j + 1]'(by rw [HN.out]; exact h)) = true) := fun j h => HR.out j (by rw [HN.out]; exact h)
  have nb : b ≠ w.heap.size := by omega
  clear hcs hkeys HR
  have HB0 := Lib.hid hb0
  have HQ := Lib.hid hq
  clear hb0 hq
  go_enter Try.func58, Try.ntmps58
  go_wp2_with fail
  all_goals (
    go_loopw [38] (fun i wr => LookRel (w.alloc (.cells #[.int .i64 0, .int .i64 0, .int .i64 0, .int .u64 0] 26)) N i wr) (fun i _ => (N - intOf i).toNat)
    case atStart => exact ⟨0, rfl, by omega, Below.refl _ _⟩
    case round =>
      obtain ⟨j, rfl, hj, hbj⟩ := hrel
      have BJ := HB0.out.trans (hbj.mono HB0.out.size)
      have t0 := (BJ.cell (p := ⟨p, 0, none⟩) plt).trans c0
      have t1 := (BJ.cell (p := ⟨p, 1, none⟩) plt).trans c1
      have hbox := (hbj.block w.heap.size (by simp)).trans HQ.out
      have wsz : w.heap.size < wr.heap.size := (Array.getElem?_eq_some_iff.1 hbox).1
      by_cases cc : j + 1 < N
      · obtain ⟨s0, s1, s2, s3⟩ := (HC.out j (by omega)).below BJ hlt
        obtain ⟨r0, r1, r2, r3⟩ := (HC.out (j + 1) cc).below BJ hlt
        have hlt2 := HR2.out j cc
        have e1 : (0 : Int) ≤ (j : Int) := by omega
        have e2 : (j : Int) + 1 < (N : Int) := by omega
        have e3 : (j : Int) < (N : Int) := by omega
        have e4 : (0 : Int) ≤ (j : Int) + 1 := by omega
        have hw1 : IntKind.i64.wrap ((j : Int) + 1) = (j : Int) + 1 := by rw [IntKind.wrap_i64]; omega
        have hn1 : ((j : Int) + 1).toNat = j + 1 := by omega
        have zp : p < wr.heap.size := by omega
        have zb : b < wr.heap.size := by omega
        generalize ks[j]'(_) = x at *
        generalize ks[j + 1]'(_) = y at *
        have HBf := Lib.hid (fun W => before_at' x y W)
        first
        | (exfalso; omega)
        | (go_wp2_with fail
           go_region_held3 (fun w' => w'.cell? ⟨p, 0, none⟩ = some (.slice (some ⟨b, off, none⟩) N ca) ∧ w'.cell? ⟨b, off + j * 4, none⟩ = some (.int .i64 x.br) ∧ w'.cell? ⟨b, off + j * 4 + 1, none⟩ = some (.int .i64 x.vol) ∧ w'.cell? ⟨b, off + j * 4 + 2, none⟩ = some (.int .i64 x.blk) ∧ w'.cell? ⟨b, off + j * 4 + 3, none⟩ = some (.int .u64 x.num) ∧ w'.cell? ⟨b, off + (j + 1) * 4, none⟩ = some (.int .i64 y.br) ∧ w'.cell? ⟨b, off + (j + 1) * 4 + 1, none⟩ = some (.int .i64 y.vol) ∧ w'.cell? ⟨b, off + (j + 1) * 4 + 2, none⟩ = some (.int .i64 y.blk) ∧ w'.cell? ⟨b, off + (j + 1) * 4 + 3, none⟩ = some (.int .u64 y.num)) (go_keep)
             (first
             | (go_at_call 20; refine (HBf.out _).mono ?_; rintro e w5 ⟨rfl, hb5⟩; rw [hlt2]; replace hb5 := bel_undrew hb5; obtain ⟨bc5, bf5⟩ := bcell hb5))
           go_wp2_with fail
           go_roundw
           case rel => exact ⟨j + 1, by simp, by omega, hbj.trans (hb5.mono hbj.size)⟩
           case measure => simp [intOf]; omega)
      · obtain ⟨s0, s1, s2, s3⟩ := (HC.out j (by omega)).below BJ hlt
        obtain rfl : N = j + 1 := by omega
        have e1 : (0 : Int) ≤ (j : Int) := by omega
        have e3 : (j : Int) < (j : Int) + 1 := by omega
        have e4 : ((j + 1 : Nat) : Int) = (j : Int) + 1 := by omega
        have hw2 : IntKind.i64.wrap ((j : Int) + 1 - 1) = (j : Int) := by rw [IntKind.wrap_i64]; omega
        have hw3 : (j : Int) + 1 - 1 = (j : Int) := by omega
        have hw4 : IntKind.i64.wrap (j : Int) = (j : Int) := by rw [IntKind.wrap_i64]; omega
        have zp : p < wr.heap.size := by omega
        have zb : b < wr.heap.size := by omega
        generalize ks[j]'(_) = x at *
        have bx0 : wr.cell? ⟨w.heap.size, 0, none⟩ = some (.int .i64 0) := by simp only [World.cell?, hbox]; rfl
        have bx1 : wr.cell? ⟨w.heap.size, 1, none⟩ = some (.int .i64 0) := by simp only [World.cell?, hbox]; rfl
        have bx2 : wr.cell? ⟨w.heap.size, 2, none⟩ = some (.int .i64 0) := by simp only [World.cell?, hbox]; rfl
        have bx3 : wr.cell? ⟨w.heap.size, 3, none⟩ = some (.int .u64 0) := by simp only [World.cell?, hbox]; rfl
        have np' : w.heap.size ≠ p := by omega
        have nb' : w.heap.size ≠ b := by omega
        have fx : ∀ o, wr.frozen? ⟨w.heap.size, o, none⟩ = false := fun o => by simp only [World.frozen?, hbox]; simp
        go_wp2_with fail
        go_cut [5] (fun s5 wx => s5 = .pointer (some ⟨w.heap.size, 0, none⟩) ∧ Below w.heap.size w wx ∧ wx.heap[w.heap.size]? = some (.cells #[.int .i64 x.br, .int .i64 x.vol, .int .i64 x.blk, .int .u64 x.num] 26))
        case first =>
          go_region_held3 (fun w' => w'.cell? ⟨p, 0, none⟩ = some (.slice (some ⟨b, off, none⟩) (j + 1) ca) ∧ w'.cell? ⟨b, off + j * 4, none⟩ = some (.int .i64 x.br) ∧ w'.cell? ⟨b, off + j * 4 + 1, none⟩ = some (.int .i64 x.vol) ∧ w'.cell? ⟨b, off + j * 4 + 2, none⟩ = some (.int .i64 x.blk) ∧ w'.cell? ⟨b, off + j * 4 + 3, none⟩ = some (.int .u64 x.num)) (go_keep) (fail)
          go_wp2_with fail
          go_meet
          have f4 := set_at (o := 3) (v := .int .u64 x.num) (set_at (o := 2) (v := .int .i64 x.blk) (set_at (o := 1) (v := .int .i64 x.vol) (set_at (o := 0) (v := .int .i64 x.br) hbox)))
          exact ⟨rfl, ((((BJ.setCell (by simp) _).setCell (by simp) _).setCell (by simp) _).setCell (by simp) _).trans (bel_drewN _ _ (n := 1)), f4⟩
        case rest =>
          obtain ⟨rfl, hbw, hbx⟩ := hcut
          clear t0 t1 hbox bx0 bx1 bx2 bx3 fx s0 s1 s2 s3
          have t0 := (hbw.cell (p := ⟨p, 0, none⟩) plt).trans c0
          have t1 := (hbw.cell (p := ⟨p, 1, none⟩) plt).trans c1
          have bx0 : wc.cell? ⟨w.heap.size, 0, none⟩ = some (.int .i64 x.br) := by simp only [World.cell?, hbx]; rfl
          have bx1 : wc.cell? ⟨w.heap.size, 1, none⟩ = some (.int .i64 x.vol) := by simp only [World.cell?, hbx]; rfl
          have bx2 : wc.cell? ⟨w.heap.size, 2, none⟩ = some (.int .i64 x.blk) := by simp only [World.cell?, hbx]; rfl
          have bx3 : wc.cell? ⟨w.heap.size, 3, none⟩ = some (.int .u64 x.num) := by simp only [World.cell?, hbx]; rfl
          have fx : ∀ o, wc.frozen? ⟨w.heap.size, o, none⟩ = false := fun o => by simp only [World.frozen?, hbx]; simp
          go_wp2_with fail
          refine (leaf_yes (HLf.out.below hbw)).mono ?_
          rintro e w6 ⟨rfl, rfl⟩
          go_wp2_with fail
          have HB4 := ((((hbw.setCell (p := ⟨w.heap.size, 0, none⟩) (by simp) (.int .i64 x.br)).setCell (p := ⟨w.heap.size, 1, none⟩) (by simp) (.int .i64 x.vol)).setCell (p := ⟨w.heap.size, 2, none⟩) (by simp) (.int .i64 x.blk)).setCell (p := ⟨w.heap.size, 3, none⟩) (by simp) (.int .u64 x.num))
          have HB5 := HB4.trans (bel_drewN w.heap.size _ (n := 1))
          have hs : rightN (j + 1) false = decide ((j : Int) + 1 > 1) := by
            rw [Bool.eq_iff_iff]; simp only [rightN, Bool.and_eq_true, Bool.or_eq_true, decide_eq_true_eq, Bool.false_eq_true, false_or]; omega
          have hs2 : rightN (j + 1) true = true := by
            simp only [rightN, Bool.and_eq_true, Bool.or_eq_true, decide_eq_true_eq, true_or, and_true]; omega
          cases root
          · first
            | (go_region_held3 (fun w' => w'.cell? ⟨p, 0, none⟩ = some (.slice (some ⟨b, off, none⟩) (j + 1) ca) ∧ w'.cell? ⟨p, 1, none⟩ = some (.slice B (j + 1) cb) ∧ w'.cell? ⟨w.heap.size, 0, none⟩ = some (.int .i64 x.br) ∧ w'.cell? ⟨w.heap.size, 1, none⟩ = some (.int .i64 x.vol) ∧ w'.cell? ⟨w.heap.size, 2, none⟩ = some (.int .i64 x.blk) ∧ w'.cell? ⟨w.heap.size, 3, none⟩ = some (.int .u64 x.num)) (simp [*, World.cell?_alloc_some, World.cell?_setCell_far, World.cell?_setCell_same', cell_off]) (fail)
               go_wp2_with fail
               refine bodyPost_ret (v := .tuple #[.int .i64 1, .agg #[.int .i64 x.br, .int .i64 x.vol, .int .i64 x.blk, .int .u64 x.num], .bool (rightN (j + 1) false)]) (by rw [results_tct rfl, hs]; go_simp) rfl ?_
               exact ⟨⟨1, x, rfl⟩, HB5⟩)
            | fail
          · refine wp_region_held_drew (S := (fun w' => w'.cell? ⟨p, 0, none⟩ = some (.slice (some ⟨b, off, none⟩) (j + 1) ca) ∧ w'.cell? ⟨p, 1, none⟩ = some (.slice B (j + 1) cb) ∧ w'.cell? ⟨w.heap.size, 0, none⟩ = some (.int .i64 x.br) ∧ w'.cell? ⟨w.heap.size, 1, none⟩ = some (.int .i64 x.vol) ∧ w'.cell? ⟨w.heap.size, 2, none⟩ = some (.int .i64 x.blk) ∧ w'.cell? ⟨w.heap.size, 3, none⟩ = some (.int .u64 x.num))) (by kernel_rfl) (by (try dsimp only); simp [*, World.cell?_alloc_some, World.cell?_setCell_far, World.cell?_setCell_same', cell_off]) (fun hHeld => ?_)
            refine take_at (i := 0) (v := .agg #[.int .i64 x.br, .int .i64 x.vol, .int .i64 x.blk, .int .u64 x.num]) rfl (by kernel_rfl) (by kernel_rfl) (by kernel_rfl) (fun _ _ _ h => h) (Or.inl ⟨by rfl, by intro w' hSw; (try dsimp only at hSw); go_simp⟩) (by assumption) ?_
            try simp only [Act.put, List.setIfInBounds_toArray, List.set_cons_zero, List.set_cons_succ]
            refine take_at (i := 1) (v := .pointer (some ⟨p, 0, none⟩)) rfl (by kernel_rfl) (by kernel_rfl) (by kernel_rfl) (fun _ _ _ h => h) (Or.inl ⟨by rfl, by intro w' hSw; (try dsimp only at hSw); go_simp⟩) (by assumption) ?_
            try simp only [Act.put, List.setIfInBounds_toArray, List.set_cons_zero, List.set_cons_succ]
            refine take_at (i := 2) (v := .pointer (some ⟨p, 0, none⟩)) rfl (by kernel_rfl) (by kernel_rfl) (by kernel_rfl) (fun _ _ _ h => h) (Or.inl ⟨by rfl, by intro w' hSw; (try dsimp only at hSw); go_simp⟩) (by assumption) ?_
            try simp only [Act.put, List.setIfInBounds_toArray, List.set_cons_zero, List.set_cons_succ]
            refine take_at (i := 3) (v := .pointer (some ⟨p, 1, none⟩)) rfl (by kernel_rfl) (by kernel_rfl) (by kernel_rfl) (fun _ _ _ h => h) (Or.inl ⟨by rfl, by intro w' hSw; (try dsimp only at hSw); go_simp⟩) (by assumption) ?_
            try simp only [Act.put, List.setIfInBounds_toArray, List.set_cons_zero, List.set_cons_succ]
            refine take_at (i := 4) (v := .slice B (j + 1) cb) rfl (by kernel_rfl) (by kernel_rfl) (by kernel_rfl) (fun _ _ _ h => h) (Or.inl ⟨by rfl, by intro w' hSw; (try dsimp only at hSw); go_simp⟩) (by assumption) ?_
            try simp only [Act.put, List.setIfInBounds_toArray, List.set_cons_zero, List.set_cons_succ]
            refine take_at (i := 5) (v := .int .i64 ((j : Int) + 1)) rfl (by kernel_rfl) (by kernel_rfl) (by kernel_rfl) (fun _ _ _ h => h) (Or.inl ⟨by rfl, by intro w' hSw; (try dsimp only at hSw); go_simp⟩) (by assumption) ?_
            try simp only [Act.put, List.setIfInBounds_toArray, List.set_cons_zero, List.set_cons_succ]
            refine take_at (i := 6) (v := .pointer (some ⟨p, 0, none⟩)) rfl (by kernel_rfl) (by kernel_rfl) (by kernel_rfl) (fun _ _ _ h => h) (Or.inl ⟨by rfl, by intro w' hSw; (try dsimp only at hSw); go_simp⟩) (by assumption) ?_
            try simp only [Act.put, List.setIfInBounds_toArray, List.set_cons_zero, List.set_cons_succ]
            refine take_at (i := 7) (v := .pointer (some ⟨p, 0, none⟩)) rfl (by kernel_rfl) (by kernel_rfl) (by kernel_rfl) (fun _ _ _ h => h) (Or.inl ⟨by rfl, by intro w' hSw; (try dsimp only at hSw); go_simp⟩) (by assumption) ?_
            try simp only [Act.put, List.setIfInBounds_toArray, List.set_cons_zero, List.set_cons_succ]
            refine take_at (i := 8) (v := .pointer (some ⟨p, 0, none⟩)) rfl (by kernel_rfl) (by kernel_rfl) (by kernel_rfl) (fun _ _ _ h => h) (Or.inl ⟨by rfl, by intro w' hSw; (try dsimp only at hSw); go_simp⟩) (by assumption) ?_
            try simp only [Act.put, List.setIfInBounds_toArray, List.set_cons_zero, List.set_cons_succ]
            refine take_at (i := 9) (v := .slice (some ⟨b, off, none⟩) (j + 1) ca) rfl (by kernel_rfl) (by kernel_rfl) (by kernel_rfl) (fun _ _ _ h => h) (Or.inl ⟨by rfl, by intro w' hSw; (try dsimp only at hSw); go_simp⟩) (by assumption) ?_
            try simp only [Act.put, List.setIfInBounds_toArray, List.set_cons_zero, List.set_cons_succ]
            refine take_at (i := 10) (v := .int .i64 ((j : Int) + 1)) rfl (by kernel_rfl) (by kernel_rfl) (by kernel_rfl) (fun _ _ _ h => h) (Or.inl ⟨by rfl, by intro w' hSw; (try dsimp only at hSw); go_simp⟩) (by assumption) ?_
            try simp only [Act.put, List.setIfInBounds_toArray, List.set_cons_zero, List.set_cons_succ]
            refine take_at (i := 11) (v := .bool true) rfl (by kernel_rfl) (by kernel_rfl) (by kernel_rfl) (fun _ _ _ h => h) (Or.inl ⟨by rfl, by intro w' hSw; (try dsimp only at hSw); go_simp⟩) (by assumption) ?_
            try simp only [Act.put, List.setIfInBounds_toArray, List.set_cons_zero, List.set_cons_succ]
            refine take_at (i := 12) (v := .bool true) rfl (by kernel_rfl) (by kernel_rfl) (by kernel_rfl) (fun _ _ _ h => h) (Or.inl ⟨by rfl, by intro w' hSw; (try dsimp only at hSw); go_simp⟩) (by assumption) ?_
            try simp only [Act.put, List.setIfInBounds_toArray, List.set_cons_zero, List.set_cons_succ]
            refine take_at (i := 13) (v := .bool true) rfl (by kernel_rfl) (by kernel_rfl) (by kernel_rfl) (fun _ _ _ h => h) (Or.inl ⟨by rfl, by intro w' hSw; (try dsimp only at hSw); go_simp⟩) (by assumption) ?_
            try simp only [Act.put, List.setIfInBounds_toArray, List.set_cons_zero, List.set_cons_succ]
            refine take_at (i := 14) (v := .bool true) rfl (by kernel_rfl) (by kernel_rfl) (by kernel_rfl) (fun _ _ _ h => h) (Or.inl ⟨by rfl, by intro w' hSw; (try dsimp only at hSw); go_simp⟩) (by assumption) ?_
            try simp only [Act.put, List.setIfInBounds_toArray, List.set_cons_zero, List.set_cons_succ]
            refine take_at (i := 15) (v := undef) rfl (by kernel_rfl) (by kernel_rfl) (by kernel_rfl) (fun _ _ _ h => h) (Or.inr ⟨by rfl, rfl⟩) (by assumption) ?_
            try simp only [Act.put, List.setIfInBounds_toArray, List.set_cons_zero, List.set_cons_succ]
            refine take_at (i := 16) (v := undef) rfl (by kernel_rfl) (by kernel_rfl) (by kernel_rfl) (fun _ _ _ h => h) (Or.inr ⟨by rfl, rfl⟩) (by assumption) ?_
            try simp only [Act.put, List.setIfInBounds_toArray, List.set_cons_zero, List.set_cons_succ]
            refine take_at (i := 17) (v := undef) rfl (by kernel_rfl) (by kernel_rfl) (by kernel_rfl) (fun _ _ _ h => h) (Or.inr ⟨by rfl, rfl⟩) (by assumption) ?_
            try simp only [Act.put, List.setIfInBounds_toArray, List.set_cons_zero, List.set_cons_succ]
            refine take_at (i := 18) (v := undef) rfl (by kernel_rfl) (by kernel_rfl) (by kernel_rfl) (fun _ _ _ h => h) (Or.inr ⟨by rfl, rfl⟩) (by assumption) ?_
            try simp only [Act.put, List.setIfInBounds_toArray, List.set_cons_zero, List.set_cons_succ]
            refine take_at (i := 19) (v := undef) rfl (by kernel_rfl) (by kernel_rfl) (by kernel_rfl) (fun _ _ _ h => h) (Or.inr ⟨by rfl, rfl⟩) (by assumption) ?_
            try simp only [Act.put, List.setIfInBounds_toArray, List.set_cons_zero, List.set_cons_succ]
            refine take_at (i := 20) (v := undef) rfl (by kernel_rfl) (by kernel_rfl) (by kernel_rfl) (fun _ _ _ h => h) (Or.inr ⟨by rfl, rfl⟩) (by assumption) ?_
            try simp only [Act.put, List.setIfInBounds_toArray, List.set_cons_zero, List.set_cons_succ]
            refine take_at (i := 21) (v := .bool true) rfl (by kernel_rfl) (by kernel_rfl) (by kernel_rfl) (fun _ _ _ h => h) (Or.inl ⟨by rfl, by intro w' hSw; (try dsimp only at hSw); go_simp⟩) (by assumption) ?_
            try simp only [Act.put, List.setIfInBounds_toArray, List.set_cons_zero, List.set_cons_succ]
            refine take_at (i := 22) (v := .bool true) rfl (by kernel_rfl) (by kernel_rfl) (by kernel_rfl) (fun _ _ _ h => h) (Or.inl ⟨by rfl, by intro w' hSw; (try dsimp only at hSw); go_simp⟩) (by assumption) ?_
            try simp only [Act.put, List.setIfInBounds_toArray, List.set_cons_zero, List.set_cons_succ]
            refine take_at (i := 23) (v := .int .i64 1) rfl (by kernel_rfl) (by kernel_rfl) (by kernel_rfl) (fun _ _ _ h => h) (Or.inl ⟨by rfl, by intro w' hSw; (try dsimp only at hSw); go_simp⟩) (by assumption) ?_
            try simp only [Act.put, List.setIfInBounds_toArray, List.set_cons_zero, List.set_cons_succ]
            refine one_at (i := 24) rfl (by kernel_rfl) (by rfl) (fun K hK => ?_)
            go_simp
            refine hK.out _ _ (by simp [*, World.cell?_alloc_some, World.cell?_setCell_far, World.cell?_setCell_same', cell_off]) (fun hHeld => ?_)
            refine take_at (i := 25) (v := .bool true) rfl (by kernel_rfl) (by kernel_rfl) (by kernel_rfl) (fun _ _ _ h => h) (Or.inl ⟨by rfl, by intro w' hSw; (try dsimp only at hSw); go_simp⟩) (by assumption) ?_
            try simp only [Act.put, List.setIfInBounds_toArray, List.set_cons_zero, List.set_cons_succ]
            refine wpAnyH_done (by kernel_rfl) ?_ _
            try simp only [Act.put, List.setIfInBounds_toArray, List.set_cons_zero, List.set_cons_succ]
            clear hK K
            go_wp2_with fail
            refine bodyPost_ret (v := .tuple #[.int .i64 1, .agg #[.int .i64 x.br, .int .i64 x.vol, .int .i64 x.blk, .int .u64 x.num], .bool (rightN (j + 1) true)]) (by rw [results_tct rfl, hs2]; go_simp) rfl ?_
            exact ⟨⟨1, x, rfl⟩, HB5⟩)
end Go.Proofs.Ytainljbkejafcaa.N
