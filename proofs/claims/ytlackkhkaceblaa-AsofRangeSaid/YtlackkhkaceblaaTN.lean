/- TN: joined by merge.py. -/
import Derived.Test.YtlackkhkaceblaaTGet
import Derived.Test.YtlackkhkaceblaaNLook
/- near, Floor, Ceil of a tree. -/
namespace Go.Proofs.Ytlackkhkaceblaa.N
open Go.BigFrame Go.RowKit Go.Proofs.YtlackkhkaceblaaW.PrintMore Go.Proofs.YtlackkhkaceblaaW.PrintWords
set_option linter.unusedVariables false
set_option linter.unusedSimpArgs false
theorem set_offT {X : World} {L o q : Nat} (u : Value) (h : q ≠ L) : (X.setCell ⟨L, o, none⟩ u).heap[q]? = X.heap[q]? := Below.heap_setCell X ⟨L, o, none⟩ u q h
/-- A spot, its value, whether there is one. -/
def entV : Option Ent → Value
  | some x => .tuple #[.agg #[.int .i64 x.1.br, .int .i64 x.1.vol, .int .i64 x.1.blk, .int .u64 x.1.num], .int .u64 x.2, .bool true]
  | none => .tuple #[.agg #[.int .i64 0, .int .i64 0, .int .i64 0, .int .u64 0], .int .u64 0, .bool false]
theorem choose_floor (w : World) (i : Nat) (hi : i ≤ 4) (b : Bool) : Calls Try.prog 43 #[.int .i64 i, .bool b] w fun e w' => e = .returned (.int .i64 (if b = true then (i : Int) else (i : Int) - 1)) ∧ w = w' := by
  cases b
  all_goals (
    have e1 : (i : Int) ≤ 4 := by omega
    go_enter Try.func43, Try.ntmps43
    go_wp2_with fail
    go_ret
    exact ⟨rfl, rfl⟩)
theorem choose_ceil (w : World) (i : Nat) (b : Bool) : Calls Try.prog 47 #[.int .i64 i, .bool b] w fun e w' => e = .returned (.int .i64 i) ∧ w = w' := by
  go_enter Try.func47, Try.ntmps47
  go_wp2_with fail
  go_ret
  exact ⟨rfl, rfl⟩
theorem results_ctt {fn : Func} {p u v : Tmp} {ty : TypeId} (h : fn.results = #[.cell p ty, .tmp u, .tmp v]) (tmps : Array Value) (P : Program) (w : World) :
    (results fn tmps).run P w =
      ((asAddr (tmps.getD p undef)).run P w).andThen fun a w₁ => ((loadVar ty a).run P w₁).andThen fun x w₂ => .ok (.tuple #[x, tmps.getD u undef, tmps.getD v undef]) w₂ := by
  simp only [results, h]
  simp [Sem.run_bind, Result.andThen]
set_option maxHeartbeats 3200000 in
set_option maxRecDepth 100000 in
theorem near_none (w : World) (k : Sp) (f : Value) : Calls Try.prog 42 #[.pointer none, .agg #[.int .i64 k.br, .int .i64 k.vol, .int .i64 k.blk, .int .u64 k.num], f] w fun e w' => e = .returned (entV none) ∧ Below w.heap.size w w' := by
  go_enter Try.func42, Try.ntmps42
  go_wp2_with fail
  refine bodyPost_ret (v := entV none) (by rw [results_ctt rfl]; go_simp <;> rfl) rfl ?_
  exact ⟨rfl, by first | exact ((Below.refl _ _).alloc (Nat.le_refl _) _).alloc (by simp) _ | done⟩
set_option maxHeartbeats 3200000 in
set_option maxRecDepth 100000 in
theorem near_floor {w : World} {q : Nat} {m : List Ent} (h : Leaf w q (m.map (·.1)) (m.map (·.2))) (h4 : m.length ≤ 4) (h0 : 0 < m.length) (k : Sp) (i : Nat) (b : Bool) (hf : findL k (m.map (·.1)) = (i, b)) (hi : i ≤ m.length) (x : Option Ent)
    (hx : (x = none ∧ ((if b = true then (i : Int) else (i : Int) - 1) < 0 ∨ (m.length : Int) ≤ (if b = true then (i : Int) else (i : Int) - 1))) ∨ ∃ j, ∃ hj : j < m.length, (if b = true then (i : Int) else (i : Int) - 1) = (j : Nat) ∧ x = some m[j]) :
    Calls Try.prog 42 #[.pointer (some ⟨q, 0, none⟩), .agg #[.int .i64 k.br, .int .i64 k.vol, .int .i64 k.blk, .int .u64 k.num], .func (.func 43) #[] #[]] w fun e w' => e = .returned (entV x) ∧ Below w.heap.size w w' := by
  have HL := Lib.hid h
  have HX := Lib.hid hx
  have HFi : Hid (∀ X, Below w.heap.size w X → Calls Try.prog 45 #[.pointer (some ⟨q, 0, none⟩), .agg #[.int .i64 k.br, .int .i64 k.vol, .int .i64 k.blk, .int .u64 k.num]] X fun e w' => e = .returned (.tuple #[.int .i64 i, .bool b]) ∧ Below X.heap.size X w') := fun X hX => by
    have := find_leaf (h.below hX) k (by rw [List.length_map]; omega)
    rw [hf] at this
    exact this
  clear h hx hf
  have hbw : Below w.heap.size w ((w.alloc (.cells #[.int .i64 k.br, .int .i64 k.vol, .int .i64 k.blk, .int .u64 k.num] 46)).alloc (.cells #[.int .i64 0, .int .i64 0, .int .i64 0, .int .u64 0] 46)) := ((Below.refl _ _).alloc (Nat.le_refl _) _).alloc (by simp) _
  have hre : Blk ((w.alloc (.cells #[.int .i64 k.br, .int .i64 k.vol, .int .i64 k.blk, .int .u64 k.num] 46)).alloc (.cells #[.int .i64 0, .int .i64 0, .int .i64 0, .int .u64 0] 46)) (w.heap.size + 1) #[.int .i64 0, .int .i64 0, .int .i64 0, .int .u64 0] 46 := by
    have := Blk.new (w.alloc (.cells #[.int .i64 k.br, .int .i64 k.vol, .int .i64 k.blk, .int .u64 k.num] 46)) #[.int .i64 0, .int .i64 0, .int .i64 0, .int .u64 0] 46
    rw [World.size_alloc] at this
    exact this
  go_enter Try.func42, Try.ntmps42
  go_wp2_with fail
  generalize (w.alloc (.cells #[.int .i64 k.br, .int .i64 k.vol, .int .i64 k.blk, .int .u64 k.num] 46)).alloc (.cells #[.int .i64 0, .int .i64 0, .int .i64 0, .int .u64 0] 46) = W at *
  refine (HFi.out _ hbw).mono ?_
  rintro e w1 ⟨rfl, hb1⟩
  have HBw := Lib.hid (hbw.trans (hb1.mono hbw.size))
  have hre1 := hre.below hb1 hre.lt
  have HFn := Lib.hid (choose_floor w1 i (by omega) b)
  clear hre hb1 hbw HFi
  go_wp2_with fail
  refine HFn.out.mono ?_
  rintro e w2 ⟨rfl, rfl⟩
  have hz := hre1.lt
  have z0 : w1.cell? ⟨w.heap.size + 1, 0, none⟩ = some (.int .i64 0) := (hre1.cell 0).trans rfl
  have z1 : w1.cell? ⟨w.heap.size + 1, 1, none⟩ = some (.int .i64 0) := (hre1.cell 1).trans rfl
  have z2 : w1.cell? ⟨w.heap.size + 1, 2, none⟩ = some (.int .i64 0) := (hre1.cell 2).trans rfl
  have z3 : w1.cell? ⟨w.heap.size + 1, 3, none⟩ = some (.int .u64 0) := (hre1.cell 3).trans rfl
  have z4 := hre1.frozen 0
  have z5 := hre1.frozen 1
  have z6 := hre1.frozen 2
  have z7 := hre1.frozen 3
  have hzw : w.heap.size ≤ w.heap.size + 1 := Nat.le_succ _
  obtain ⟨A, ca, B, cb, hh⟩ := HL.out
  have c0 := hh.c0
  have c1 := hh.c1
  rw [List.length_map] at c0 c1
  have hks := hh.keys
  have hvs := hh.vals
  clear hh HFn
  obtain ⟨n, hn⟩ : ∃ n, m.length = n := ⟨_, rfl⟩
  rw [hn] at c0 c1 h4 h0 hi
  obtain ⟨g, hg⟩ : ∃ g : Int, (if b = true then (i : Int) else (i : Int) - 1) = g := ⟨_, rfl⟩
  rw [hg]
  rcases HX.out with ⟨rfl, hx⟩ | ⟨j, hj, hgj, rfl⟩
  · have hx2 : g < 0 ∨ (n : Int) ≤ g := by rw [← hg, ← hn]; exact hx
    clear hx hg HX
    by_cases hneg : g < 0
    · have f1 : decide (g < 0) = true := by simp [hneg]
      clear hx2 hks hvs c0 c1 h4 h0 hi hn
      go_wp2_with fail
      refine bodyPost_ret (v := entV none) (by rw [results_ctt rfl]; go_simp <;> rfl) rfl ?_
      exact ⟨rfl, by first | exact HBw.out | exact (((HBw.out.setCell (p := ⟨w.heap.size + 1, 0, none⟩) hzw _).setCell (p := ⟨w.heap.size + 1, 1, none⟩) hzw _).setCell (p := ⟨w.heap.size + 1, 2, none⟩) hzw _).setCell (p := ⟨w.heap.size + 1, 3, none⟩) hzw _⟩
    · have f1 : decide (g < 0) = false := by simp; omega
      have f2 : decide ((n : Int) ≤ g) = true := by simp; omega
      have c0 := bel_cell HBw.out (World.block_lt_of_cell? _ _ c0) c0
      clear hx2 hks hvs c1 h4 h0 hi hn hneg
      go_wp2_with fail
      refine bodyPost_ret (v := entV none) (by rw [results_ctt rfl]; go_simp <;> rfl) rfl ?_
      exact ⟨rfl, by first | exact HBw.out | exact (((HBw.out.setCell (p := ⟨w.heap.size + 1, 0, none⟩) hzw _).setCell (p := ⟨w.heap.size + 1, 1, none⟩) hzw _).setCell (p := ⟨w.heap.size + 1, 2, none⟩) hzw _).setCell (p := ⟨w.heap.size + 1, 3, none⟩) hzw _⟩
  · obtain rfl : g = (j : Int) := hg.symm.trans hgj
    have hjn : j < n := by rw [← hn]; exact hj
    obtain ⟨b1, o1, rfl, l1, k1⟩ := hks (by rw [List.length_map]; omega)
    obtain ⟨b2, o2, rfl, l2, k2⟩ := hvs (by rw [List.length_map]; omega)
    obtain ⟨s0, s1, s2, s3⟩ := k1 j (by rw [List.length_map]; exact hj)
    have v0 := k2 j (by rw [List.length_map]; exact hj)
    rw [List.getElem_map] at s0 s1 s2 s3 v0
    obtain ⟨x, hx⟩ : ∃ x, m[j] = x := ⟨_, rfl⟩
    rw [hx] at s0 s1 s2 s3 v0
    have hq : q < w.heap.size := World.block_lt_of_cell? _ _ c0
    have hb : b1 < w.heap.size ∧ b2 < w.heap.size := ⟨l1, l2⟩
    have c0 := bel_cell HBw.out hq c0
    have c1 := bel_cell HBw.out hq c1
    have s0 := bel_cell HBw.out hb.1 s0
    have s1 := bel_cell HBw.out hb.1 s1
    have s2 := bel_cell HBw.out hb.1 s2
    have s3 := bel_cell HBw.out hb.1 s3
    have v0 := bel_cell HBw.out hb.2 v0
    have d1 : q ≠ w.heap.size + 1 := by omega
    have d2 : b1 ≠ w.heap.size + 1 := by omega
    have d3 : b2 ≠ w.heap.size + 1 := by omega
    have HXe : Hid (m[j] = x) := hx
    have f1 : decide ((j : Int) < 0) = false := by simp
    have f2 : decide ((n : Int) ≤ (j : Int)) = false := by simp; omega
    have f3 : (0 : Int) ≤ (j : Int) := by omega
    have f4 : (j : Int) < (n : Int) := by omega
    clear hks hvs k1 k2 hx hg hgj HX h4 h0 hi hn l1 l2
    go_upto_region 6 with fail
    refine wp_region_held_drew (S := (fun w' => w'.cell? ⟨q, 0, none⟩ = some (.slice (some ⟨b1, o1, none⟩) n ca) ∧ w'.cell? ⟨q, 1, none⟩ = some (.slice (some ⟨b2, o2, none⟩) n cb) ∧ w'.cell? ⟨b1, o1 + j * 4, none⟩ = some (.int .i64 x.1.br) ∧ w'.cell? ⟨b1, o1 + j * 4 + 1, none⟩ = some (.int .i64 x.1.vol) ∧ w'.cell? ⟨b1, o1 + j * 4 + 2, none⟩ = some (.int .i64 x.1.blk) ∧ w'.cell? ⟨b1, o1 + j * 4 + 3, none⟩ = some (.int .u64 x.1.num) ∧ w'.cell? ⟨b2, o2 + j, none⟩ = some (.int .u64 x.2))) (by kernel_rfl) ⟨c0, c1, s0, s1, s2, s3, v0⟩ (fun hHeld => ?_)
    obtain ⟨wd, hwd⟩ : ∃ X, X = World.drew w1 := ⟨_, rfl⟩
    rw [← hwd] at hHeld ⊢
    have zd : Blk wd (w.heap.size + 1) #[.int .i64 0, .int .i64 0, .int .i64 0, .int .u64 0] 46 := by rw [hwd]; exact hre1
    have HBd : Hid (Below w.heap.size w wd) := by rw [hwd]; exact HBw.out.trans (bel_drewN _ _ (n := 1))
    clear hwd c0 c1 s0 s1 s2 s3 v0 z0 z1 z2 z3 z4 z5 z6 z7
    refine take_at (i := 0) (v := ?_) rfl (by kernel_rfl) (by kernel_rfl) (by kernel_rfl) (fun _ _ _ h => h) (Or.inl ⟨by rfl, ?_⟩) (by assumption) ?_
    rotate_left
    · (intro w' hSw; (try dsimp only at hSw); go_simp <;> (with_reducible rfl))
    try simp only [Act.put, List.setIfInBounds_toArray, List.set_cons_zero, List.set_cons_succ]
    refine take_at (i := 1) (v := ?_) rfl (by kernel_rfl) (by kernel_rfl) (by kernel_rfl) (fun _ _ _ h => h) (Or.inl ⟨by rfl, ?_⟩) (by assumption) ?_
    rotate_left
    · (intro w' hSw; (try dsimp only at hSw); go_simp <;> (with_reducible rfl))
    try simp only [Act.put, List.setIfInBounds_toArray, List.set_cons_zero, List.set_cons_succ]
    refine take_at (i := 2) (v := ?_) rfl (by kernel_rfl) (by kernel_rfl) (by kernel_rfl) (fun _ _ _ h => h) (Or.inl ⟨by rfl, ?_⟩) (by assumption) ?_
    rotate_left
    · (intro w' hSw; (try dsimp only at hSw); go_simp <;> (with_reducible rfl))
    try simp only [Act.put, List.setIfInBounds_toArray, List.set_cons_zero, List.set_cons_succ]
    refine take_at (i := 3) (v := ?_) rfl (by kernel_rfl) (by kernel_rfl) (by kernel_rfl) (fun _ _ _ h => h) (Or.inl ⟨by rfl, ?_⟩) (by assumption) ?_
    rotate_left
    · (intro w' hSw; (try dsimp only at hSw); go_simp <;> (with_reducible rfl))
    try simp only [Act.put, List.setIfInBounds_toArray, List.set_cons_zero, List.set_cons_succ]
    refine take_at (i := 4) (v := ?_) rfl (by kernel_rfl) (by kernel_rfl) (by kernel_rfl) (fun _ _ _ h => h) (Or.inl ⟨by rfl, ?_⟩) (by assumption) ?_
    rotate_left
    · (intro w' hSw; (try dsimp only at hSw); go_simp <;> (with_reducible rfl))
    try simp only [Act.put, List.setIfInBounds_toArray, List.set_cons_zero, List.set_cons_succ]
    refine take_at (i := 5) (v := ?_) rfl (by kernel_rfl) (by kernel_rfl) (by kernel_rfl) (fun _ _ _ h => h) (Or.inl ⟨by rfl, ?_⟩) (by assumption) ?_
    rotate_left
    · (intro w' hSw; (try dsimp only at hSw); go_simp <;> (with_reducible rfl))
    try simp only [Act.put, List.setIfInBounds_toArray, List.set_cons_zero, List.set_cons_succ]
    refine take_at (i := 6) (v := ?_) rfl (by kernel_rfl) (by kernel_rfl) (by kernel_rfl) (fun _ _ _ h => h) (Or.inl ⟨by rfl, ?_⟩) (by assumption) ?_
    rotate_left
    · (intro w' hSw; (try dsimp only at hSw); go_simp <;> (with_reducible rfl))
    try simp only [Act.put, List.setIfInBounds_toArray, List.set_cons_zero, List.set_cons_succ]
    refine take_at (i := 7) (v := ?_) rfl (by kernel_rfl) (by kernel_rfl) (by kernel_rfl) (fun _ _ _ h => h) (Or.inl ⟨by rfl, ?_⟩) (by assumption) ?_
    rotate_left
    · (intro w' hSw; (try dsimp only at hSw); go_simp <;> (with_reducible rfl))
    try simp only [Act.put, List.setIfInBounds_toArray, List.set_cons_zero, List.set_cons_succ]
    refine take_at (i := 8) (v := ?_) rfl (by kernel_rfl) (by kernel_rfl) (by kernel_rfl) (fun _ _ _ h => h) (Or.inl ⟨by rfl, ?_⟩) (by assumption) ?_
    rotate_left
    · (intro w' hSw; (try dsimp only at hSw); go_simp <;> (with_reducible rfl))
    try simp only [Act.put, List.setIfInBounds_toArray, List.set_cons_zero, List.set_cons_succ]
    refine take_at (i := 9) (v := ?_) rfl (by kernel_rfl) (by kernel_rfl) (by kernel_rfl) (fun _ _ _ h => h) (Or.inl ⟨by rfl, ?_⟩) (by assumption) ?_
    rotate_left
    · (intro w' hSw; (try dsimp only at hSw); go_simp <;> (with_reducible rfl))
    try simp only [Act.put, List.setIfInBounds_toArray, List.set_cons_zero, List.set_cons_succ]
    refine take_at (i := 10) (v := ?_) rfl (by kernel_rfl) (by kernel_rfl) (by kernel_rfl) (fun _ _ _ h => h) (Or.inl ⟨by rfl, ?_⟩) (by assumption) ?_
    rotate_left
    · (intro w' hSw; (try dsimp only at hSw); go_simp <;> (with_reducible rfl))
    try simp only [Act.put, List.setIfInBounds_toArray, List.set_cons_zero, List.set_cons_succ]
    refine take_at (i := 11) (v := ?_) rfl (by kernel_rfl) (by kernel_rfl) (by kernel_rfl) (fun _ _ _ h => h) (Or.inl ⟨by rfl, ?_⟩) (by assumption) ?_
    rotate_left
    · (intro w' hSw; (try dsimp only at hSw); go_simp <;> (with_reducible rfl))
    try simp only [Act.put, List.setIfInBounds_toArray, List.set_cons_zero, List.set_cons_succ]
    refine take_at (i := 12) (v := ?_) rfl (by kernel_rfl) (by kernel_rfl) (by kernel_rfl) (fun _ _ _ h => h) (Or.inl ⟨by rfl, ?_⟩) (by assumption) ?_
    rotate_left
    · (intro w' hSw; (try dsimp only at hSw); go_simp <;> (with_reducible rfl))
    try simp only [Act.put, List.setIfInBounds_toArray, List.set_cons_zero, List.set_cons_succ]
    refine take_at (i := 13) (v := ?_) rfl (by kernel_rfl) (by kernel_rfl) (by kernel_rfl) (fun _ _ _ h => h) (Or.inl ⟨by rfl, ?_⟩) (by assumption) ?_
    rotate_left
    · (intro w' hSw; (try dsimp only at hSw); go_simp <;> (with_reducible rfl))
    try simp only [Act.put, List.setIfInBounds_toArray, List.set_cons_zero, List.set_cons_succ]
    refine one_at (i := 14) rfl (by kernel_rfl) (by rfl) (fun K hK => ?_)
    have z0 := (zd.cell 0).trans rfl
    have z1 := (zd.cell 1).trans rfl
    have z2 := (zd.cell 2).trans rfl
    have z3 := (zd.cell 3).trans rfl
    have z4 := zd.frozen 0
    have z5 := zd.frozen 1
    have z6 := zd.frozen 2
    have z7 := zd.frozen 3
    go_simp
    clear z0 z1 z2 z3 z4 z5 z6 z7
    have hBk : Blk ((((wd.setCell ⟨w.heap.size + 1, 0, none⟩ (.int .i64 x.1.br)).setCell ⟨w.heap.size + 1, 1, none⟩ (.int .i64 x.1.vol)).setCell ⟨w.heap.size + 1, 2, none⟩ (.int .i64 x.1.blk)).setCell ⟨w.heap.size + 1, 3, none⟩ (.int .u64 x.1.num)) (w.heap.size + 1) #[.int .i64 x.1.br, .int .i64 x.1.vol, .int .i64 x.1.blk, .int .u64 x.1.num] 46 := (((zd.set (o := 0) _).set (o := 1) _).set (o := 2) _).set (o := 3) _
    have hoff : ∀ q, q ≠ w.heap.size + 1 → ((((wd.setCell ⟨w.heap.size + 1, 0, none⟩ (.int .i64 x.1.br)).setCell ⟨w.heap.size + 1, 1, none⟩ (.int .i64 x.1.vol)).setCell ⟨w.heap.size + 1, 2, none⟩ (.int .i64 x.1.blk)).setCell ⟨w.heap.size + 1, 3, none⟩ (.int .u64 x.1.num)).heap[q]? = wd.heap[q]? := fun q hq => (((set_offT _ hq).trans (set_offT _ hq)).trans (set_offT _ hq)).trans (set_offT _ hq)
    have hBe : Below w.heap.size w ((((wd.setCell ⟨w.heap.size + 1, 0, none⟩ (.int .i64 x.1.br)).setCell ⟨w.heap.size + 1, 1, none⟩ (.int .i64 x.1.vol)).setCell ⟨w.heap.size + 1, 2, none⟩ (.int .i64 x.1.blk)).setCell ⟨w.heap.size + 1, 3, none⟩ (.int .u64 x.1.num)) := (((HBd.out.setCell (p := ⟨w.heap.size + 1, 0, none⟩) hzw _).setCell (p := ⟨w.heap.size + 1, 1, none⟩) hzw _).setCell (p := ⟨w.heap.size + 1, 2, none⟩) hzw _).setCell (p := ⟨w.heap.size + 1, 3, none⟩) hzw _
    generalize hXX : ((((wd.setCell ⟨w.heap.size + 1, 0, none⟩ (.int .i64 x.1.br)).setCell ⟨w.heap.size + 1, 1, none⟩ (.int .i64 x.1.vol)).setCell ⟨w.heap.size + 1, 2, none⟩ (.int .i64 x.1.blk)).setCell ⟨w.heap.size + 1, 3, none⟩ (.int .u64 x.1.num)) = X1 at *
    have hSX : (fun w' => w'.cell? ⟨q, 0, none⟩ = some (.slice (some ⟨b1, o1, none⟩) n ca) ∧ w'.cell? ⟨q, 1, none⟩ = some (.slice (some ⟨b2, o2, none⟩) n cb) ∧ w'.cell? ⟨b1, o1 + j * 4, none⟩ = some (.int .i64 x.1.br) ∧ w'.cell? ⟨b1, o1 + j * 4 + 1, none⟩ = some (.int .i64 x.1.vol) ∧ w'.cell? ⟨b1, o1 + j * 4 + 2, none⟩ = some (.int .i64 x.1.blk) ∧ w'.cell? ⟨b1, o1 + j * 4 + 3, none⟩ = some (.int .u64 x.1.num) ∧ w'.cell? ⟨b2, o2 + j, none⟩ = some (.int .u64 x.2)) X1 := ⟨(World.cell?_of_block (hoff _ d1)).trans hHeld.1, (World.cell?_of_block (hoff _ d1)).trans hHeld.2.1, (World.cell?_of_block (hoff _ d2)).trans hHeld.2.2.1, (World.cell?_of_block (hoff _ d2)).trans hHeld.2.2.2.1, (World.cell?_of_block (hoff _ d2)).trans hHeld.2.2.2.2.1, (World.cell?_of_block (hoff _ d2)).trans hHeld.2.2.2.2.2.1, (World.cell?_of_block (hoff _ d3)).trans hHeld.2.2.2.2.2.2⟩
    refine hK.out _ _ hSX (fun _ => ?_)
    clear hK K
    try simp only [Act.put, List.setIfInBounds_toArray, List.set_cons_zero, List.set_cons_succ]
    refine take_at (i := 15) (v := ?_) rfl (by kernel_rfl) (by kernel_rfl) (by kernel_rfl) (fun _ _ _ h => h) (Or.inl ⟨by rfl, ?_⟩) (by assumption) ?_
    rotate_left
    · (intro w' hSw; (try dsimp only at hSw); go_simp <;> (with_reducible rfl))
    try simp only [Act.put, List.setIfInBounds_toArray, List.set_cons_zero, List.set_cons_succ]
    refine take_at (i := 16) (v := ?_) rfl (by kernel_rfl) (by kernel_rfl) (by kernel_rfl) (fun _ _ _ h => h) (Or.inl ⟨by rfl, ?_⟩) (by assumption) ?_
    rotate_left
    · (intro w' hSw; (try dsimp only at hSw); go_simp <;> (with_reducible rfl))
    try simp only [Act.put, List.setIfInBounds_toArray, List.set_cons_zero, List.set_cons_succ]
    refine wpAnyH_done (by kernel_rfl) ?_ _
    try simp only [Act.put, List.setIfInBounds_toArray, List.set_cons_zero, List.set_cons_succ]
    have y0 := (hBk.cell 0).trans rfl
    have y1 := (hBk.cell 1).trans rfl
    have y2 := (hBk.cell 2).trans rfl
    have y3 := (hBk.cell 3).trans rfl
    have HBe := Lib.hid hBe
    clear hSX hBe hoff hHeld zd hXX
    go_wp2_with fail
    refine bodyPost_ret (v := entV (some x)) (by rw [results_ctt rfl]; go_simp <;> rfl) rfl ?_
    exact ⟨by rw [HXe.out], HBe.out⟩
set_option maxHeartbeats 3200000 in
set_option maxRecDepth 100000 in
theorem near_ceil {w : World} {q : Nat} {m : List Ent} (h : Leaf w q (m.map (·.1)) (m.map (·.2))) (h4 : m.length ≤ 4) (h0 : 0 < m.length) (k : Sp) (i : Nat) (b : Bool) (hf : findL k (m.map (·.1)) = (i, b)) (hi : i ≤ m.length) (x : Option Ent)
    (hx : (x = none ∧ ((i : Int) < 0 ∨ (m.length : Int) ≤ (i : Int))) ∨ ∃ j, ∃ hj : j < m.length, (i : Int) = (j : Nat) ∧ x = some m[j]) :
    Calls Try.prog 42 #[.pointer (some ⟨q, 0, none⟩), .agg #[.int .i64 k.br, .int .i64 k.vol, .int .i64 k.blk, .int .u64 k.num], .func (.func 47) #[] #[]] w fun e w' => e = .returned (entV x) ∧ Below w.heap.size w w' := by
  have HL := Lib.hid h
  have HX := Lib.hid hx
  have HFi : Hid (∀ X, Below w.heap.size w X → Calls Try.prog 45 #[.pointer (some ⟨q, 0, none⟩), .agg #[.int .i64 k.br, .int .i64 k.vol, .int .i64 k.blk, .int .u64 k.num]] X fun e w' => e = .returned (.tuple #[.int .i64 i, .bool b]) ∧ Below X.heap.size X w') := fun X hX => by
    have := find_leaf (h.below hX) k (by rw [List.length_map]; omega)
    rw [hf] at this
    exact this
  clear h hx hf
  have hbw : Below w.heap.size w ((w.alloc (.cells #[.int .i64 k.br, .int .i64 k.vol, .int .i64 k.blk, .int .u64 k.num] 46)).alloc (.cells #[.int .i64 0, .int .i64 0, .int .i64 0, .int .u64 0] 46)) := ((Below.refl _ _).alloc (Nat.le_refl _) _).alloc (by simp) _
  have hre : Blk ((w.alloc (.cells #[.int .i64 k.br, .int .i64 k.vol, .int .i64 k.blk, .int .u64 k.num] 46)).alloc (.cells #[.int .i64 0, .int .i64 0, .int .i64 0, .int .u64 0] 46)) (w.heap.size + 1) #[.int .i64 0, .int .i64 0, .int .i64 0, .int .u64 0] 46 := by
    have := Blk.new (w.alloc (.cells #[.int .i64 k.br, .int .i64 k.vol, .int .i64 k.blk, .int .u64 k.num] 46)) #[.int .i64 0, .int .i64 0, .int .i64 0, .int .u64 0] 46
    rw [World.size_alloc] at this
    exact this
  go_enter Try.func42, Try.ntmps42
  go_wp2_with fail
  generalize (w.alloc (.cells #[.int .i64 k.br, .int .i64 k.vol, .int .i64 k.blk, .int .u64 k.num] 46)).alloc (.cells #[.int .i64 0, .int .i64 0, .int .i64 0, .int .u64 0] 46) = W at *
  refine (HFi.out _ hbw).mono ?_
  rintro e w1 ⟨rfl, hb1⟩
  have HBw := Lib.hid (hbw.trans (hb1.mono hbw.size))
  have hre1 := hre.below hb1 hre.lt
  have HFn := Lib.hid (choose_ceil w1 i b)
  clear hre hb1 hbw HFi
  go_wp2_with fail
  refine HFn.out.mono ?_
  rintro e w2 ⟨rfl, rfl⟩
  have hz := hre1.lt
  have z0 : w1.cell? ⟨w.heap.size + 1, 0, none⟩ = some (.int .i64 0) := (hre1.cell 0).trans rfl
  have z1 : w1.cell? ⟨w.heap.size + 1, 1, none⟩ = some (.int .i64 0) := (hre1.cell 1).trans rfl
  have z2 : w1.cell? ⟨w.heap.size + 1, 2, none⟩ = some (.int .i64 0) := (hre1.cell 2).trans rfl
  have z3 : w1.cell? ⟨w.heap.size + 1, 3, none⟩ = some (.int .u64 0) := (hre1.cell 3).trans rfl
  have z4 := hre1.frozen 0
  have z5 := hre1.frozen 1
  have z6 := hre1.frozen 2
  have z7 := hre1.frozen 3
  have hzw : w.heap.size ≤ w.heap.size + 1 := Nat.le_succ _
  obtain ⟨A, ca, B, cb, hh⟩ := HL.out
  have c0 := hh.c0
  have c1 := hh.c1
  rw [List.length_map] at c0 c1
  have hks := hh.keys
  have hvs := hh.vals
  clear hh HFn
  obtain ⟨n, hn⟩ : ∃ n, m.length = n := ⟨_, rfl⟩
  rw [hn] at c0 c1 h4 h0 hi
  obtain ⟨g, hg⟩ : ∃ g : Int, (i : Int) = g := ⟨_, rfl⟩
  rw [hg]
  rcases HX.out with ⟨rfl, hx⟩ | ⟨j, hj, hgj, rfl⟩
  · have hx2 : g < 0 ∨ (n : Int) ≤ g := by rw [← hg, ← hn]; exact hx
    clear hx hg HX
    by_cases hneg : g < 0
    · have f1 : decide (g < 0) = true := by simp [hneg]
      clear hx2 hks hvs c0 c1 h4 h0 hi hn
      go_wp2_with fail
      refine bodyPost_ret (v := entV none) (by rw [results_ctt rfl]; go_simp <;> rfl) rfl ?_
      exact ⟨rfl, by first | exact HBw.out | exact (((HBw.out.setCell (p := ⟨w.heap.size + 1, 0, none⟩) hzw _).setCell (p := ⟨w.heap.size + 1, 1, none⟩) hzw _).setCell (p := ⟨w.heap.size + 1, 2, none⟩) hzw _).setCell (p := ⟨w.heap.size + 1, 3, none⟩) hzw _⟩
    · have f1 : decide (g < 0) = false := by simp; omega
      have f2 : decide ((n : Int) ≤ g) = true := by simp; omega
      have c0 := bel_cell HBw.out (World.block_lt_of_cell? _ _ c0) c0
      clear hx2 hks hvs c1 h4 h0 hi hn hneg
      go_wp2_with fail
      refine bodyPost_ret (v := entV none) (by rw [results_ctt rfl]; go_simp <;> rfl) rfl ?_
      exact ⟨rfl, by first | exact HBw.out | exact (((HBw.out.setCell (p := ⟨w.heap.size + 1, 0, none⟩) hzw _).setCell (p := ⟨w.heap.size + 1, 1, none⟩) hzw _).setCell (p := ⟨w.heap.size + 1, 2, none⟩) hzw _).setCell (p := ⟨w.heap.size + 1, 3, none⟩) hzw _⟩
  · obtain rfl : g = (j : Int) := hg.symm.trans hgj
    have hjn : j < n := by rw [← hn]; exact hj
    obtain ⟨b1, o1, rfl, l1, k1⟩ := hks (by rw [List.length_map]; omega)
    obtain ⟨b2, o2, rfl, l2, k2⟩ := hvs (by rw [List.length_map]; omega)
    obtain ⟨s0, s1, s2, s3⟩ := k1 j (by rw [List.length_map]; exact hj)
    have v0 := k2 j (by rw [List.length_map]; exact hj)
    rw [List.getElem_map] at s0 s1 s2 s3 v0
    obtain ⟨x, hx⟩ : ∃ x, m[j] = x := ⟨_, rfl⟩
    rw [hx] at s0 s1 s2 s3 v0
    have hq : q < w.heap.size := World.block_lt_of_cell? _ _ c0
    have hb : b1 < w.heap.size ∧ b2 < w.heap.size := ⟨l1, l2⟩
    have c0 := bel_cell HBw.out hq c0
    have c1 := bel_cell HBw.out hq c1
    have s0 := bel_cell HBw.out hb.1 s0
    have s1 := bel_cell HBw.out hb.1 s1
    have s2 := bel_cell HBw.out hb.1 s2
    have s3 := bel_cell HBw.out hb.1 s3
    have v0 := bel_cell HBw.out hb.2 v0
    have d1 : q ≠ w.heap.size + 1 := by omega
    have d2 : b1 ≠ w.heap.size + 1 := by omega
    have d3 : b2 ≠ w.heap.size + 1 := by omega
    have HXe : Hid (m[j] = x) := hx
    have f1 : decide ((j : Int) < 0) = false := by simp
    have f2 : decide ((n : Int) ≤ (j : Int)) = false := by simp; omega
    have f3 : (0 : Int) ≤ (j : Int) := by omega
    have f4 : (j : Int) < (n : Int) := by omega
    clear hks hvs k1 k2 hx hg hgj HX h4 h0 hi hn l1 l2
    go_upto_region 6 with fail
    refine wp_region_held_drew (S := (fun w' => w'.cell? ⟨q, 0, none⟩ = some (.slice (some ⟨b1, o1, none⟩) n ca) ∧ w'.cell? ⟨q, 1, none⟩ = some (.slice (some ⟨b2, o2, none⟩) n cb) ∧ w'.cell? ⟨b1, o1 + j * 4, none⟩ = some (.int .i64 x.1.br) ∧ w'.cell? ⟨b1, o1 + j * 4 + 1, none⟩ = some (.int .i64 x.1.vol) ∧ w'.cell? ⟨b1, o1 + j * 4 + 2, none⟩ = some (.int .i64 x.1.blk) ∧ w'.cell? ⟨b1, o1 + j * 4 + 3, none⟩ = some (.int .u64 x.1.num) ∧ w'.cell? ⟨b2, o2 + j, none⟩ = some (.int .u64 x.2))) (by kernel_rfl) ⟨c0, c1, s0, s1, s2, s3, v0⟩ (fun hHeld => ?_)
    obtain ⟨wd, hwd⟩ : ∃ X, X = World.drew w1 := ⟨_, rfl⟩
    rw [← hwd] at hHeld ⊢
    have zd : Blk wd (w.heap.size + 1) #[.int .i64 0, .int .i64 0, .int .i64 0, .int .u64 0] 46 := by rw [hwd]; exact hre1
    have HBd : Hid (Below w.heap.size w wd) := by rw [hwd]; exact HBw.out.trans (bel_drewN _ _ (n := 1))
    clear hwd c0 c1 s0 s1 s2 s3 v0 z0 z1 z2 z3 z4 z5 z6 z7
    refine take_at (i := 0) (v := ?_) rfl (by kernel_rfl) (by kernel_rfl) (by kernel_rfl) (fun _ _ _ h => h) (Or.inl ⟨by rfl, ?_⟩) (by assumption) ?_
    rotate_left
    · (intro w' hSw; (try dsimp only at hSw); go_simp <;> (with_reducible rfl))
    try simp only [Act.put, List.setIfInBounds_toArray, List.set_cons_zero, List.set_cons_succ]
    refine take_at (i := 1) (v := ?_) rfl (by kernel_rfl) (by kernel_rfl) (by kernel_rfl) (fun _ _ _ h => h) (Or.inl ⟨by rfl, ?_⟩) (by assumption) ?_
    rotate_left
    · (intro w' hSw; (try dsimp only at hSw); go_simp <;> (with_reducible rfl))
    try simp only [Act.put, List.setIfInBounds_toArray, List.set_cons_zero, List.set_cons_succ]
    refine take_at (i := 2) (v := ?_) rfl (by kernel_rfl) (by kernel_rfl) (by kernel_rfl) (fun _ _ _ h => h) (Or.inl ⟨by rfl, ?_⟩) (by assumption) ?_
    rotate_left
    · (intro w' hSw; (try dsimp only at hSw); go_simp <;> (with_reducible rfl))
    try simp only [Act.put, List.setIfInBounds_toArray, List.set_cons_zero, List.set_cons_succ]
    refine take_at (i := 3) (v := ?_) rfl (by kernel_rfl) (by kernel_rfl) (by kernel_rfl) (fun _ _ _ h => h) (Or.inl ⟨by rfl, ?_⟩) (by assumption) ?_
    rotate_left
    · (intro w' hSw; (try dsimp only at hSw); go_simp <;> (with_reducible rfl))
    try simp only [Act.put, List.setIfInBounds_toArray, List.set_cons_zero, List.set_cons_succ]
    refine take_at (i := 4) (v := ?_) rfl (by kernel_rfl) (by kernel_rfl) (by kernel_rfl) (fun _ _ _ h => h) (Or.inl ⟨by rfl, ?_⟩) (by assumption) ?_
    rotate_left
    · (intro w' hSw; (try dsimp only at hSw); go_simp <;> (with_reducible rfl))
    try simp only [Act.put, List.setIfInBounds_toArray, List.set_cons_zero, List.set_cons_succ]
    refine take_at (i := 5) (v := ?_) rfl (by kernel_rfl) (by kernel_rfl) (by kernel_rfl) (fun _ _ _ h => h) (Or.inl ⟨by rfl, ?_⟩) (by assumption) ?_
    rotate_left
    · (intro w' hSw; (try dsimp only at hSw); go_simp <;> (with_reducible rfl))
    try simp only [Act.put, List.setIfInBounds_toArray, List.set_cons_zero, List.set_cons_succ]
    refine take_at (i := 6) (v := ?_) rfl (by kernel_rfl) (by kernel_rfl) (by kernel_rfl) (fun _ _ _ h => h) (Or.inl ⟨by rfl, ?_⟩) (by assumption) ?_
    rotate_left
    · (intro w' hSw; (try dsimp only at hSw); go_simp <;> (with_reducible rfl))
    try simp only [Act.put, List.setIfInBounds_toArray, List.set_cons_zero, List.set_cons_succ]
    refine take_at (i := 7) (v := ?_) rfl (by kernel_rfl) (by kernel_rfl) (by kernel_rfl) (fun _ _ _ h => h) (Or.inl ⟨by rfl, ?_⟩) (by assumption) ?_
    rotate_left
    · (intro w' hSw; (try dsimp only at hSw); go_simp <;> (with_reducible rfl))
    try simp only [Act.put, List.setIfInBounds_toArray, List.set_cons_zero, List.set_cons_succ]
    refine take_at (i := 8) (v := ?_) rfl (by kernel_rfl) (by kernel_rfl) (by kernel_rfl) (fun _ _ _ h => h) (Or.inl ⟨by rfl, ?_⟩) (by assumption) ?_
    rotate_left
    · (intro w' hSw; (try dsimp only at hSw); go_simp <;> (with_reducible rfl))
    try simp only [Act.put, List.setIfInBounds_toArray, List.set_cons_zero, List.set_cons_succ]
    refine take_at (i := 9) (v := ?_) rfl (by kernel_rfl) (by kernel_rfl) (by kernel_rfl) (fun _ _ _ h => h) (Or.inl ⟨by rfl, ?_⟩) (by assumption) ?_
    rotate_left
    · (intro w' hSw; (try dsimp only at hSw); go_simp <;> (with_reducible rfl))
    try simp only [Act.put, List.setIfInBounds_toArray, List.set_cons_zero, List.set_cons_succ]
    refine take_at (i := 10) (v := ?_) rfl (by kernel_rfl) (by kernel_rfl) (by kernel_rfl) (fun _ _ _ h => h) (Or.inl ⟨by rfl, ?_⟩) (by assumption) ?_
    rotate_left
    · (intro w' hSw; (try dsimp only at hSw); go_simp <;> (with_reducible rfl))
    try simp only [Act.put, List.setIfInBounds_toArray, List.set_cons_zero, List.set_cons_succ]
    refine take_at (i := 11) (v := ?_) rfl (by kernel_rfl) (by kernel_rfl) (by kernel_rfl) (fun _ _ _ h => h) (Or.inl ⟨by rfl, ?_⟩) (by assumption) ?_
    rotate_left
    · (intro w' hSw; (try dsimp only at hSw); go_simp <;> (with_reducible rfl))
    try simp only [Act.put, List.setIfInBounds_toArray, List.set_cons_zero, List.set_cons_succ]
    refine take_at (i := 12) (v := ?_) rfl (by kernel_rfl) (by kernel_rfl) (by kernel_rfl) (fun _ _ _ h => h) (Or.inl ⟨by rfl, ?_⟩) (by assumption) ?_
    rotate_left
    · (intro w' hSw; (try dsimp only at hSw); go_simp <;> (with_reducible rfl))
    try simp only [Act.put, List.setIfInBounds_toArray, List.set_cons_zero, List.set_cons_succ]
    refine take_at (i := 13) (v := ?_) rfl (by kernel_rfl) (by kernel_rfl) (by kernel_rfl) (fun _ _ _ h => h) (Or.inl ⟨by rfl, ?_⟩) (by assumption) ?_
    rotate_left
    · (intro w' hSw; (try dsimp only at hSw); go_simp <;> (with_reducible rfl))
    try simp only [Act.put, List.setIfInBounds_toArray, List.set_cons_zero, List.set_cons_succ]
    refine one_at (i := 14) rfl (by kernel_rfl) (by rfl) (fun K hK => ?_)
    have z0 := (zd.cell 0).trans rfl
    have z1 := (zd.cell 1).trans rfl
    have z2 := (zd.cell 2).trans rfl
    have z3 := (zd.cell 3).trans rfl
    have z4 := zd.frozen 0
    have z5 := zd.frozen 1
    have z6 := zd.frozen 2
    have z7 := zd.frozen 3
    go_simp
    clear z0 z1 z2 z3 z4 z5 z6 z7
    have hBk : Blk ((((wd.setCell ⟨w.heap.size + 1, 0, none⟩ (.int .i64 x.1.br)).setCell ⟨w.heap.size + 1, 1, none⟩ (.int .i64 x.1.vol)).setCell ⟨w.heap.size + 1, 2, none⟩ (.int .i64 x.1.blk)).setCell ⟨w.heap.size + 1, 3, none⟩ (.int .u64 x.1.num)) (w.heap.size + 1) #[.int .i64 x.1.br, .int .i64 x.1.vol, .int .i64 x.1.blk, .int .u64 x.1.num] 46 := (((zd.set (o := 0) _).set (o := 1) _).set (o := 2) _).set (o := 3) _
    have hoff : ∀ q, q ≠ w.heap.size + 1 → ((((wd.setCell ⟨w.heap.size + 1, 0, none⟩ (.int .i64 x.1.br)).setCell ⟨w.heap.size + 1, 1, none⟩ (.int .i64 x.1.vol)).setCell ⟨w.heap.size + 1, 2, none⟩ (.int .i64 x.1.blk)).setCell ⟨w.heap.size + 1, 3, none⟩ (.int .u64 x.1.num)).heap[q]? = wd.heap[q]? := fun q hq => (((set_offT _ hq).trans (set_offT _ hq)).trans (set_offT _ hq)).trans (set_offT _ hq)
    have hBe : Below w.heap.size w ((((wd.setCell ⟨w.heap.size + 1, 0, none⟩ (.int .i64 x.1.br)).setCell ⟨w.heap.size + 1, 1, none⟩ (.int .i64 x.1.vol)).setCell ⟨w.heap.size + 1, 2, none⟩ (.int .i64 x.1.blk)).setCell ⟨w.heap.size + 1, 3, none⟩ (.int .u64 x.1.num)) := (((HBd.out.setCell (p := ⟨w.heap.size + 1, 0, none⟩) hzw _).setCell (p := ⟨w.heap.size + 1, 1, none⟩) hzw _).setCell (p := ⟨w.heap.size + 1, 2, none⟩) hzw _).setCell (p := ⟨w.heap.size + 1, 3, none⟩) hzw _
    generalize hXX : ((((wd.setCell ⟨w.heap.size + 1, 0, none⟩ (.int .i64 x.1.br)).setCell ⟨w.heap.size + 1, 1, none⟩ (.int .i64 x.1.vol)).setCell ⟨w.heap.size + 1, 2, none⟩ (.int .i64 x.1.blk)).setCell ⟨w.heap.size + 1, 3, none⟩ (.int .u64 x.1.num)) = X1 at *
    have hSX : (fun w' => w'.cell? ⟨q, 0, none⟩ = some (.slice (some ⟨b1, o1, none⟩) n ca) ∧ w'.cell? ⟨q, 1, none⟩ = some (.slice (some ⟨b2, o2, none⟩) n cb) ∧ w'.cell? ⟨b1, o1 + j * 4, none⟩ = some (.int .i64 x.1.br) ∧ w'.cell? ⟨b1, o1 + j * 4 + 1, none⟩ = some (.int .i64 x.1.vol) ∧ w'.cell? ⟨b1, o1 + j * 4 + 2, none⟩ = some (.int .i64 x.1.blk) ∧ w'.cell? ⟨b1, o1 + j * 4 + 3, none⟩ = some (.int .u64 x.1.num) ∧ w'.cell? ⟨b2, o2 + j, none⟩ = some (.int .u64 x.2)) X1 := ⟨(World.cell?_of_block (hoff _ d1)).trans hHeld.1, (World.cell?_of_block (hoff _ d1)).trans hHeld.2.1, (World.cell?_of_block (hoff _ d2)).trans hHeld.2.2.1, (World.cell?_of_block (hoff _ d2)).trans hHeld.2.2.2.1, (World.cell?_of_block (hoff _ d2)).trans hHeld.2.2.2.2.1, (World.cell?_of_block (hoff _ d2)).trans hHeld.2.2.2.2.2.1, (World.cell?_of_block (hoff _ d3)).trans hHeld.2.2.2.2.2.2⟩
    refine hK.out _ _ hSX (fun _ => ?_)
    clear hK K
    try simp only [Act.put, List.setIfInBounds_toArray, List.set_cons_zero, List.set_cons_succ]
    refine take_at (i := 15) (v := ?_) rfl (by kernel_rfl) (by kernel_rfl) (by kernel_rfl) (fun _ _ _ h => h) (Or.inl ⟨by rfl, ?_⟩) (by assumption) ?_
    rotate_left
    · (intro w' hSw; (try dsimp only at hSw); go_simp <;> (with_reducible rfl))
    try simp only [Act.put, List.setIfInBounds_toArray, List.set_cons_zero, List.set_cons_succ]
    refine take_at (i := 16) (v := ?_) rfl (by kernel_rfl) (by kernel_rfl) (by kernel_rfl) (fun _ _ _ h => h) (Or.inl ⟨by rfl, ?_⟩) (by assumption) ?_
    rotate_left
    · (intro w' hSw; (try dsimp only at hSw); go_simp <;> (with_reducible rfl))
    try simp only [Act.put, List.setIfInBounds_toArray, List.set_cons_zero, List.set_cons_succ]
    refine wpAnyH_done (by kernel_rfl) ?_ _
    try simp only [Act.put, List.setIfInBounds_toArray, List.set_cons_zero, List.set_cons_succ]
    have y0 := (hBk.cell 0).trans rfl
    have y1 := (hBk.cell 1).trans rfl
    have y2 := (hBk.cell 2).trans rfl
    have y3 := (hBk.cell 3).trans rfl
    have HBe := Lib.hid hBe
    clear hSX hBe hoff hHeld zd hXX
    go_wp2_with fail
    refine bodyPost_ret (v := entV (some x)) (by rw [results_ctt rfl]; go_simp <;> rfl) rfl ?_
    exact ⟨by rw [HXe.out], HBe.out⟩
end Go.Proofs.Ytlackkhkaceblaa.N

/- Floor and Ceil of a tree. -/
namespace Go.Proofs.Ytlackkhkaceblaa.N
open Go.BigFrame Go.RowKit Go.Proofs.YtlackkhkaceblaaW.PrintMore Go.Proofs.YtlackkhkaceblaaW.PrintWords
set_option linter.unusedVariables false
set_option linter.unusedSimpArgs false
theorem floor_arg {k : Sp} {m : List Ent} (ha : Asc m) {i : Nat} {b : Bool} (hf : findL k (m.map (·.1)) = (i, b)) :
    i ≤ m.length ∧ ((floorE k m = none ∧ ((if b = true then (i : Int) else (i : Int) - 1) < 0 ∨ (m.length : Int) ≤ (if b = true then (i : Int) else (i : Int) - 1))) ∨ ∃ j, ∃ hj : j < m.length, (if b = true then (i : Int) else (i : Int) - 1) = (j : Nat) ∧ floorE k m = some m[j]) := by
  have hp := (findL_parts k ha).2.2
  rw [hf] at hp
  have hl := floor_leaf ha hf
  refine ⟨hp.1, ?_⟩
  cases b with
  | true =>
    have hi := (hp.2 rfl).1
    exact .inr ⟨i, hi, rfl, by rw [hl, if_pos rfl, List.getElem?_eq_getElem hi]⟩
  | false =>
    rw [if_neg (by decide)] at hl ⊢
    have hle := hp.1
    simp only at hle
    by_cases h0 : i = 0
    · rw [if_pos h0] at hl
      exact .inl ⟨hl, .inl (by omega)⟩
    · rw [if_neg h0] at hl
      exact .inr ⟨i - 1, by omega, by omega, by rw [hl, List.getElem?_eq_getElem (by omega)]⟩
theorem ceil_arg {k : Sp} {m : List Ent} (ha : Asc m) {i : Nat} {b : Bool} (hf : findL k (m.map (·.1)) = (i, b)) :
    i ≤ m.length ∧ ((ceilE k m = none ∧ ((i : Int) < 0 ∨ (m.length : Int) ≤ (i : Int))) ∨ ∃ j, ∃ hj : j < m.length, (i : Int) = (j : Nat) ∧ ceilE k m = some m[j]) := by
  have hp := (findL_parts k ha).2.2
  rw [hf] at hp
  have hl := ceil_leaf ha hf
  have hle := hp.1
  simp only at hle
  refine ⟨hle, ?_⟩
  by_cases h : i < m.length
  · exact .inr ⟨i, h, rfl, by rw [hl, List.getElem?_eq_getElem h]⟩
  · exact .inl ⟨by rw [hl, List.getElem?_eq_none (by omega)], .inr (by omega)⟩
/-- near over the leaf that the way down found. -/
theorem near_ok {w : World} {k : Sp} {l : List Ent} {x nx : Option Addr} (ha : Asc l)
    (h : (l = [] ∧ x = none ∧ nx = none) ∨ ∃ q m pre post, x = some ⟨q, 0, none⟩ ∧ Nd w 0 q m m.length ∧ 0 < m.length ∧ m.length ≤ 4 ∧ Way k l pre m post ∧ NextAt w nx post) :
    (Calls Try.prog 42 #[.pointer x, .agg #[.int .i64 k.br, .int .i64 k.vol, .int .i64 k.blk, .int .u64 k.num], .func (.func 43) #[] #[]] w fun e w' => e = .returned (entV (floorE k l)) ∧ Below w.heap.size w w') := by
  rcases h with ⟨rfl, rfl, rfl⟩ | ⟨q, m, pre, post, rfl, hnd, h0, h4, hway, hnx⟩
  · exact near_none w k _
  · obtain ⟨i, b, hf⟩ : ∃ i b, findL k (m.map (·.1)) = (i, b) := ⟨_, _, rfl⟩
    obtain ⟨hi, hx⟩ := floor_arg (hway.asc ha) hf
    rw [hway.floor (by intro e; rw [e] at h0; simp at h0)]
    exact near_floor hnd.2 h4 h0 k i b hf hi _ hx
theorem near_ok2 {w : World} {k : Sp} {l : List Ent} {x nx : Option Addr} (ha : Asc l)
    (h : (l = [] ∧ x = none ∧ nx = none) ∨ ∃ q m pre post, x = some ⟨q, 0, none⟩ ∧ Nd w 0 q m m.length ∧ 0 < m.length ∧ m.length ≤ 4 ∧ Way k l pre m post ∧ NextAt w nx post) :
    ∃ o post, ceilE k l = o.or post.head? ∧ (∀ y ∈ post, y ∈ l) ∧ NextAt w nx post ∧ ((∃ y ∈ l, y.1 = k) → o = ceilE k l) ∧ (Calls Try.prog 42 #[.pointer x, .agg #[.int .i64 k.br, .int .i64 k.vol, .int .i64 k.blk, .int .u64 k.num], .func (.func 47) #[] #[]] w fun e w' => e = .returned (entV o) ∧ Below w.heap.size w w') := by
  rcases h with ⟨rfl, rfl, rfl⟩ | ⟨q, m, pre, post, rfl, hnd, h0, h4, hway, hnx⟩
  · exact ⟨none, [], rfl, (fun y h => h), .inl ⟨rfl, rfl⟩, fun _ => rfl, near_none w k _⟩
  · obtain ⟨i, b, hf⟩ : ∃ i b, findL k (m.map (·.1)) = (i, b) := ⟨_, _, rfl⟩
    obtain ⟨hi, hx⟩ := ceil_arg (hway.asc ha) hf
    refine ⟨ceilE k m, post, hway.ceil, fun y hy => by rw [hway.cut]; simp [hy], hnx, fun hy => ?_, near_ceil hnd.2 h4 h0 k i b hf hi _ hx⟩
    have h1 := (hasE_iff ha).2 hy
    rw [← hway.has ha, hasE_iff (hway.asc ha)] at h1
    obtain ⟨y, hym, rfl⟩ := h1
    rw [ceil_self (hway.asc ha) hym, ceil_self ha (by rw [hway.cut]; simp [hym])]
set_option maxHeartbeats 3200000 in
set_option maxRecDepth 100000 in
theorem floor_tree {w : World} {p : Option Addr} {l : List Ent} (h : TreeAt w p l) (ha : Asc l) (k : Sp) :
    Calls Try.prog 25 #[.pointer p, .agg #[.int .i64 k.br, .int .i64 k.vol, .int .i64 k.blk, .int .u64 k.num]] w fun e w' => e = .returned (entV (floorE k l)) ∧ Below w.heap.size w w' := by
  have hbw : Below w.heap.size w ((w.alloc (.cells #[.int .i64 k.br, .int .i64 k.vol, .int .i64 k.blk, .int .u64 k.num] 46)).alloc (.cells #[.int .i64 0, .int .i64 0, .int .i64 0, .int .u64 0] 46)) := ((Below.refl _ _).alloc (Nat.le_refl _) _).alloc (by simp) _
  have hre : Blk ((w.alloc (.cells #[.int .i64 k.br, .int .i64 k.vol, .int .i64 k.blk, .int .u64 k.num] 46)).alloc (.cells #[.int .i64 0, .int .i64 0, .int .i64 0, .int .u64 0] 46)) (w.heap.size + 1) #[.int .i64 0, .int .i64 0, .int .i64 0, .int .u64 0] 46 := by
    have := Blk.new (w.alloc (.cells #[.int .i64 k.br, .int .i64 k.vol, .int .i64 k.blk, .int .u64 k.num] 46)) #[.int .i64 0, .int .i64 0, .int .i64 0, .int .u64 0] 46
    rw [World.size_alloc] at this
    exact this
  have hkb : Blk ((w.alloc (.cells #[.int .i64 k.br, .int .i64 k.vol, .int .i64 k.blk, .int .u64 k.num] 46)).alloc (.cells #[.int .i64 0, .int .i64 0, .int .i64 0, .int .u64 0] 46)) w.heap.size #[.int .i64 k.br, .int .i64 k.vol, .int .i64 k.blk, .int .u64 k.num] 46 := (Blk.new w _ _).alloc _
  have HL := Lib.hid (leaf_tree (h.below hbw) ha k)
  have HA := Lib.hid ha
  clear h ha
  go_enter Try.func25, Try.ntmps25
  go_wp2_with fail
  refine HL.out.mono ?_
  generalize (w.alloc (.cells #[.int .i64 k.br, .int .i64 k.vol, .int .i64 k.blk, .int .u64 k.num] 46)).alloc (.cells #[.int .i64 0, .int .i64 0, .int .i64 0, .int .u64 0] 46) = W at *
  rintro e w1 ⟨x, nx, rfl, hb1, hl⟩
  obtain ⟨k0, k1, k2, k3, zk⟩ := box_cells hkb hb1
  have HB1 := Lib.hid (hbw.trans (hb1.mono hbw.size))
  have HN := Lib.hid (near_ok HA.out hl)
  have hr1 := Lib.hid (hre.below hb1 hre.lt)
  clear hl hbw hb1 hkb hre HL
  go_wp2_with fail
  refine HN.out.mono ?_
  rintro e w2 ⟨rfl, hb2⟩
  have HB2 := Lib.hid (HB1.out.trans (hb2.mono HB1.out.size))
  have hr2 := hr1.out.below hb2 hr1.out.lt
  have hzw : w.heap.size ≤ w.heap.size + 1 := Nat.le_succ _
  have y0 := (hr2.cell 0).trans rfl
  have y1 := (hr2.cell 1).trans rfl
  have y2 := (hr2.cell 2).trans rfl
  have y3 := (hr2.cell 3).trans rfl
  have z4 := hr2.frozen 0
  have z5 := hr2.frozen 1
  have z6 := hr2.frozen 2
  have z7 := hr2.frozen 3
  clear hb2 hr2 HN k0 k1 k2 k3 zk hr1
  cases hfl : floorE k l with
  | none =>
    unfold entV
    go_wp2_with fail
    refine bodyPost_ret (v := entV none) (by rw [results_ctt rfl]; go_simp <;> rfl) rfl ?_
    exact ⟨by rw [hfl], by first | exact HB2.out | exact (((HB2.out.setCell (p := ⟨w.heap.size + 1, 0, none⟩) hzw _).setCell (p := ⟨w.heap.size + 1, 1, none⟩) hzw _).setCell (p := ⟨w.heap.size + 1, 2, none⟩) hzw _).setCell (p := ⟨w.heap.size + 1, 3, none⟩) hzw _⟩
  | some y =>
    unfold entV
    go_wp2_with fail
    refine bodyPost_ret (v := entV (some y)) (by rw [results_ctt rfl]; go_simp <;> rfl) rfl ?_
    exact ⟨by rw [hfl], by first | exact HB2.out | exact (((HB2.out.setCell (p := ⟨w.heap.size + 1, 0, none⟩) hzw _).setCell (p := ⟨w.heap.size + 1, 1, none⟩) hzw _).setCell (p := ⟨w.heap.size + 1, 2, none⟩) hzw _).setCell (p := ⟨w.heap.size + 1, 3, none⟩) hzw _⟩
theorem next_least {w : World} {nx : Option Addr} {post : List Ent} (h : NextAt w nx post) : (nx = none ∧ post = []) ∨ ∃ q y, nx = some ⟨q, 0, none⟩ ∧ post.head? = some y ∧ ∀ X, Below w.heap.size w X →
    Calls Try.prog 48 #[.pointer (some ⟨q, 0, none⟩)] X fun e w' => e = .returned (.tuple #[.agg #[.int .i64 y.1.br, .int .i64 y.1.vol, .int .i64 y.1.blk, .int .u64 y.1.num], .bool true]) ∧ Below X.heap.size X w' := by
  rcases h with h | ⟨h, q, n, m, post', e, hnd, h0, h4, rfl⟩
  · exact .inl h
  · have hne := hnd.ne h0
    obtain ⟨ks, hk, hl, hh⟩ := hnd.keys
    cases m with
    | nil => exact absurd rfl hne
    | cons y t =>
      refine .inr ⟨q, y, e, rfl, fun X hX => ?_⟩
      have := least_at (hk.below hX) (by omega) (by omega)
      rw [hh (by omega)] at this
      exact this
set_option maxHeartbeats 3200000 in
set_option maxRecDepth 100000 in
theorem ceil_tree {w : World} {p : Option Addr} {l : List Ent} (h : TreeAt w p l) (ha : Asc l) (k : Sp) :
    Calls Try.prog 33 #[.pointer p, .agg #[.int .i64 k.br, .int .i64 k.vol, .int .i64 k.blk, .int .u64 k.num]] w fun e w' => e = .returned (entV (ceilE k l)) ∧ Below w.heap.size w w' := by
  have hbw : Below w.heap.size w ((w.alloc (.cells #[.int .i64 k.br, .int .i64 k.vol, .int .i64 k.blk, .int .u64 k.num] 46)).alloc (.cells #[.int .i64 0, .int .i64 0, .int .i64 0, .int .u64 0] 46)) := ((Below.refl _ _).alloc (Nat.le_refl _) _).alloc (by simp) _
  have hre : Blk ((w.alloc (.cells #[.int .i64 k.br, .int .i64 k.vol, .int .i64 k.blk, .int .u64 k.num] 46)).alloc (.cells #[.int .i64 0, .int .i64 0, .int .i64 0, .int .u64 0] 46)) (w.heap.size + 1) #[.int .i64 0, .int .i64 0, .int .i64 0, .int .u64 0] 46 := by
    have := Blk.new (w.alloc (.cells #[.int .i64 k.br, .int .i64 k.vol, .int .i64 k.blk, .int .u64 k.num] 46)) #[.int .i64 0, .int .i64 0, .int .i64 0, .int .u64 0] 46
    rw [World.size_alloc] at this
    exact this
  have hkb : Blk ((w.alloc (.cells #[.int .i64 k.br, .int .i64 k.vol, .int .i64 k.blk, .int .u64 k.num] 46)).alloc (.cells #[.int .i64 0, .int .i64 0, .int .i64 0, .int .u64 0] 46)) w.heap.size #[.int .i64 k.br, .int .i64 k.vol, .int .i64 k.blk, .int .u64 k.num] 46 := (Blk.new w _ _).alloc _
  have HL := Lib.hid (leaf_tree (h.below hbw) ha k)
  have HA := Lib.hid ha
  have HT := Lib.hid h
  clear h ha
  go_enter Try.func33, Try.ntmps33
  go_wp2_with fail
  refine HL.out.mono ?_
  generalize (w.alloc (.cells #[.int .i64 k.br, .int .i64 k.vol, .int .i64 k.blk, .int .u64 k.num] 46)).alloc (.cells #[.int .i64 0, .int .i64 0, .int .i64 0, .int .u64 0] 46) = W at *
  rintro e w1 ⟨x, nx, rfl, hb1, hl⟩
  obtain ⟨k0, k1, k2, k3, zk⟩ := box_cells hkb hb1
  have HB1 := Lib.hid (hbw.trans (hb1.mono hbw.size))
  obtain ⟨o, post, ho, hpo, hnx, hfi, hnear⟩ := near_ok2 HA.out hl
  have HN := Lib.hid hnear
  have HO := Lib.hid ho
  have HPo := Lib.hid hpo
  have HNx := Lib.hid hnx
  have hr1 := Lib.hid (hre.below hb1 hre.lt)
  clear hl hbw hb1 hkb hre HL ho hpo hnx hfi hnear
  go_wp2_with fail
  refine HN.out.mono ?_
  rintro e w2 ⟨rfl, hb2⟩
  have HB2 := Lib.hid (HB1.out.trans (hb2.mono HB1.out.size))
  have HR2 := Lib.hid (hr1.out.below hb2 hr1.out.lt)
  have HNx2 := Lib.hid (HNx.out.below hb2)
  have hzw : w.heap.size ≤ w.heap.size + 1 := Nat.le_succ _
  clear hb2 HN k0 k1 k2 k3 zk hr1 HNx
  cases o with
  | some y =>
    unfold entV
    have hy : ceilE k l = some y := by rw [HO.out]; rfl
    have HY := Lib.hid hy
    have hr2 := HR2.out.alloc (.cells #[.int .i64 y.1.br, .int .i64 y.1.vol, .int .i64 y.1.blk, .int .u64 y.1.num] 46)
    have y0 := (HR2.out.cell 0).trans rfl
    have y1 := (HR2.out.cell 1).trans rfl
    have y2 := (HR2.out.cell 2).trans rfl
    have y3 := (HR2.out.cell 3).trans rfl
    have z4 := HR2.out.frozen 0
    have z5 := HR2.out.frozen 1
    have z6 := HR2.out.frozen 2
    have z7 := HR2.out.frozen 3
    have l1 := HR2.out.lt
    have hbe := HB2.out.alloc HB2.out.size (.cells #[.int .i64 y.1.br, .int .i64 y.1.vol, .int .i64 y.1.blk, .int .u64 y.1.num] 46)
    have HBe := Lib.hid hbe
    clear hr2 hbe hy
    go_wp2_with fail
    refine bodyPost_ret (v := entV (some y)) (by rw [results_ctt rfl]; go_simp <;> rfl) rfl ?_
    exact ⟨by rw [HY.out], ((((HB2.out.setCell (p := ⟨w.heap.size + 1, 0, none⟩) hzw _).setCell (p := ⟨w.heap.size + 1, 1, none⟩) hzw _).setCell (p := ⟨w.heap.size + 1, 2, none⟩) hzw _).setCell (p := ⟨w.heap.size + 1, 3, none⟩) hzw _).alloc (by simp only [World.size_setCell]; exact HB2.out.size) _⟩
  | none =>
    unfold entV
    have hw2 : w.heap.size ≤ w2.heap.size := HB2.out.size
    rcases next_least HNx2.out with ⟨rfl, rfl⟩ | ⟨q, y, rfl, hpy, hle⟩
    · have hy : ceilE k l = none := by rw [HO.out]; rfl
      have HY := Lib.hid hy
      have y0 := (HR2.out.cell 0).trans rfl
      have y1 := (HR2.out.cell 1).trans rfl
      have y2 := (HR2.out.cell 2).trans rfl
      have y3 := (HR2.out.cell 3).trans rfl
      have z4 := HR2.out.frozen 0
      have z5 := HR2.out.frozen 1
      have z6 := HR2.out.frozen 2
      have z7 := HR2.out.frozen 3
      have l1 := HR2.out.lt
      clear hy
      go_wp2_with fail
      refine bodyPost_ret (v := entV none) (by rw [results_ctt rfl]; go_simp <;> rfl) rfl ?_
      exact ⟨by rw [HY.out], ((((HB2.out.setCell (p := ⟨w.heap.size + 1, 0, none⟩) hzw _).setCell (p := ⟨w.heap.size + 1, 1, none⟩) hzw _).setCell (p := ⟨w.heap.size + 1, 2, none⟩) hzw _).setCell (p := ⟨w.heap.size + 1, 3, none⟩) hzw _).alloc (by simp only [World.size_setCell]; exact HB2.out.size) _⟩
    · have hyl : y ∈ l := HPo.out y (List.mem_of_head? hpy)
      have hy : ceilE k l = some y := by rw [HO.out, hpy]; rfl
      have HY := Lib.hid hy
      have hbz : Below w2.heap.size w2 (w2.alloc (.cells #[.int .i64 0, .int .i64 0, .int .i64 0, .int .u64 0] 46)) := (Below.refl _ _).alloc (Nat.le_refl _) _
      have HLe := Lib.hid (hle _ hbz)
      have HR3 := Lib.hid (HR2.out.alloc (.cells #[.int .i64 0, .int .i64 0, .int .i64 0, .int .u64 0] 46))
      have HB3 := Lib.hid (HB2.out.trans (hbz.mono HB2.out.size))
      have HYl := Lib.hid hyl
      clear hle hbz hy hpy hyl HR2 HO HPo HNx2
      go_wp2_with fail
      refine HLe.out.mono ?_
      generalize w2.alloc (.cells #[.int .i64 0, .int .i64 0, .int .i64 0, .int .u64 0] 46) = W2 at *
      rintro e w3 ⟨rfl, hb3⟩
      have hbl : Below w3.heap.size w3 (w3.alloc (.cells #[.int .i64 y.1.br, .int .i64 y.1.vol, .int .i64 y.1.blk, .int .u64 y.1.num] 46)) := (Below.refl _ _).alloc (Nat.le_refl _) _
      have HB4 := Lib.hid ((HB3.out.trans (hb3.mono HB3.out.size)).trans (hbl.mono (Nat.le_trans HB3.out.size hb3.size)))
      have HR4 := Lib.hid ((HR3.out.below hb3 HR3.out.lt).alloc (.cells #[.int .i64 y.1.br, .int .i64 y.1.vol, .int .i64 y.1.blk, .int .u64 y.1.num] 46))
      have hkb := Blk.new w3 #[.int .i64 y.1.br, .int .i64 y.1.vol, .int .i64 y.1.blk, .int .u64 y.1.num] 46
      have HL2 := Lib.hid (leaf_tree (HT.out.below HB4.out) HA.out y.1)
      clear hb3 hbl HB3 HR3 HLe
      go_wp2_with fail
      refine HL2.out.mono ?_
      generalize w3.alloc (.cells #[.int .i64 y.1.br, .int .i64 y.1.vol, .int .i64 y.1.blk, .int .u64 y.1.num] 46) = W3 at *
      rintro e w5 ⟨x2, nx2, rfl, hb5, hl5⟩
      obtain ⟨k0, k1, k2, k3, zk⟩ := box_cells hkb hb5
      have HB5 := Lib.hid (HB4.out.trans (hb5.mono HB4.out.size))
      have HR5 := Lib.hid (HR4.out.below hb5 HR4.out.lt)
      obtain ⟨o2, post2, _, _, _, ho2, hnear⟩ := near_ok2 HA.out hl5
      have ho3 : o2 = some y := by rw [ho2 ⟨y, HYl.out, rfl⟩, ceil_self HA.out HYl.out]
      subst ho3
      have HN2 := Lib.hid hnear
      clear hl5 hb5 hkb HL2 ho2 hnear HR4
      go_wp2_with fail
      refine HN2.out.mono ?_
      rintro e w6 ⟨rfl, hb6⟩
      have HB6 := Lib.hid (HB5.out.trans (hb6.mono HB5.out.size))
      have hr6 := HR5.out.below hb6 HR5.out.lt
      have y0 := (hr6.cell 0).trans rfl
      have y1 := (hr6.cell 1).trans rfl
      have y2 := (hr6.cell 2).trans rfl
      have y3 := (hr6.cell 3).trans rfl
      have z4 := hr6.frozen 0
      have z5 := hr6.frozen 1
      have z6 := hr6.frozen 2
      have z7 := hr6.frozen 3
      clear hb6 hr6 HN2 k0 k1 k2 k3 zk HR5
      unfold entV
      go_wp2_with fail
      refine bodyPost_ret (v := entV (some y)) (by rw [results_ctt rfl]; go_simp <;> rfl) rfl ?_
      exact ⟨by rw [HY.out], (((HB6.out.setCell (p := ⟨w.heap.size + 1, 0, none⟩) hzw _).setCell (p := ⟨w.heap.size + 1, 1, none⟩) hzw _).setCell (p := ⟨w.heap.size + 1, 2, none⟩) hzw _).setCell (p := ⟨w.heap.size + 1, 3, none⟩) hzw _⟩
end Go.Proofs.Ytlackkhkaceblaa.N
