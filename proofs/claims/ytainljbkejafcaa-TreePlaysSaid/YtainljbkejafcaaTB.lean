/- TB: joined by merge.py. -/
import Derived.Test.YtainljbkejafcaaTA
import Derived.Test.YtainljbkejafcaaNLook
import Derived.Test.YtainljbkejafcaaNApp
import Derived.Test.YtainljbkejafcaaNHeldZ
/- near, Floor, Ceil of a tree. -/
namespace Go.Proofs.Ytainljbkejafcaa.N
open Go.BigFrame Go.RowKit Go.Proofs.YtainljbkejafcaaW.PrintMore Go.Proofs.YtainljbkejafcaaW.PrintWords
set_option linter.unusedVariables false
set_option linter.unusedSimpArgs false
theorem set_offT {X : World} {L o q : Nat} (u : Value) (h : q ≠ L) : (X.setCell ⟨L, o, none⟩ u).heap[q]? = X.heap[q]? := Below.heap_setCell X ⟨L, o, none⟩ u q h
/-- A spot, its value, whether there is one. -/
def entV : Option Ent → Value
  | some x => .tuple #[.agg #[.int .i64 x.1.br, .int .i64 x.1.vol, .int .i64 x.1.blk, .int .u64 x.1.num], .int .u64 x.2, .bool true]
  | none => .tuple #[.agg #[.int .i64 0, .int .i64 0, .int .i64 0, .int .u64 0], .int .u64 0, .bool false]
theorem choose_floor (w : World) (i : Nat) (hi : i ≤ 4) (b : Bool) : Calls Try.prog 72 #[.int .i64 i, .bool b] w fun e w' => e = .returned (.int .i64 (if b = true then (i : Int) else (i : Int) - 1)) ∧ w = w' := by
  cases b
  all_goals (
    have e1 : (i : Int) ≤ 4 := by omega
    go_enter Try.func72, Try.ntmps72
    go_wp2_with fail
    go_ret
    exact ⟨rfl, rfl⟩)
theorem choose_ceil (w : World) (i : Nat) (b : Bool) : Calls Try.prog 73 #[.int .i64 i, .bool b] w fun e w' => e = .returned (.int .i64 i) ∧ w = w' := by
  go_enter Try.func73, Try.ntmps73
  go_wp2_with fail
  go_ret
  exact ⟨rfl, rfl⟩
theorem results_ctt {fn : Func} {p u v : Tmp} {ty : TypeId} (h : fn.results = #[.cell p ty, .tmp u, .tmp v]) (tmps : Array Value) (P : Program) (w : World) :
    (results fn tmps).run P w =
      ((asAddr (tmps.getD p undef)).run P w).andThen fun a w₁ => ((loadVar ty a).run P w₁).andThen fun x w₂ => .ok (.tuple #[x, tmps.getD u undef, tmps.getD v undef]) w₂ := by
  simp only [results, h]
  simp [Sem.run_bind, Result.andThen]
set_option maxHeartbeats 3200000 in
set_option maxRecDepth 100000 in
theorem near_none (w : World) (k : Sp) (f : Value) : Calls Try.prog 71 #[.pointer none, .agg #[.int .i64 k.br, .int .i64 k.vol, .int .i64 k.blk, .int .u64 k.num], f] w fun e w' => e = .returned (entV none) ∧ Below w.heap.size w w' := by
  go_enter Try.func71, Try.ntmps71
  go_wp2_with fail
  refine bodyPost_ret (v := entV none) (by rw [results_ctt rfl]; go_simp <;> rfl) rfl ?_
  exact ⟨rfl, by first | exact ((Below.refl _ _).alloc (Nat.le_refl _) _).alloc (by simp) _ | done⟩
set_option maxHeartbeats 3200000 in
set_option maxRecDepth 100000 in
theorem near_floor {w : World} {q : Nat} {m : List Ent} (h : Leaf w q (m.map (·.1)) (m.map (·.2))) (h4 : m.length ≤ 4) (h0 : 0 < m.length) (k : Sp) (i : Nat) (b : Bool) (hf : findL k (m.map (·.1)) = (i, b)) (hi : i ≤ m.length) (x : Option Ent)
    (hx : (x = none ∧ ((if b = true then (i : Int) else (i : Int) - 1) < 0 ∨ (m.length : Int) ≤ (if b = true then (i : Int) else (i : Int) - 1))) ∨ ∃ j, ∃ hj : j < m.length, (if b = true then (i : Int) else (i : Int) - 1) = (j : Nat) ∧ x = some m[j]) :
    Calls Try.prog 71 #[.pointer (some ⟨q, 0, none⟩), .agg #[.int .i64 k.br, .int .i64 k.vol, .int .i64 k.blk, .int .u64 k.num], .func (.func 72) #[] #[]] w fun e w' => e = .returned (entV x) ∧ Below w.heap.size w w' := by
  have HL := Lib.hid h
  have HX := Lib.hid hx
  have HFi : Hid (∀ X, Below w.heap.size w X → Calls Try.prog 23 #[.pointer (some ⟨q, 0, none⟩), .agg #[.int .i64 k.br, .int .i64 k.vol, .int .i64 k.blk, .int .u64 k.num]] X fun e w' => e = .returned (.tuple #[.int .i64 i, .bool b]) ∧ Below X.heap.size X w') := fun X hX => by
    have := find_leaf (h.below hX) k (by rw [List.length_map]; omega)
    rw [hf] at this
    exact this
  clear h hx hf
  have hbw : Below w.heap.size w ((w.alloc (.cells #[.int .i64 k.br, .int .i64 k.vol, .int .i64 k.blk, .int .u64 k.num] 26)).alloc (.cells #[.int .i64 0, .int .i64 0, .int .i64 0, .int .u64 0] 26)) := ((Below.refl _ _).alloc (Nat.le_refl _) _).alloc (by simp) _
  have hre : Blk ((w.alloc (.cells #[.int .i64 k.br, .int .i64 k.vol, .int .i64 k.blk, .int .u64 k.num] 26)).alloc (.cells #[.int .i64 0, .int .i64 0, .int .i64 0, .int .u64 0] 26)) (w.heap.size + 1) #[.int .i64 0, .int .i64 0, .int .i64 0, .int .u64 0] 26 := by
    have := Blk.new (w.alloc (.cells #[.int .i64 k.br, .int .i64 k.vol, .int .i64 k.blk, .int .u64 k.num] 26)) #[.int .i64 0, .int .i64 0, .int .i64 0, .int .u64 0] 26
    rw [World.size_alloc] at this
    exact this
  go_enter Try.func71, Try.ntmps71
  go_wp2_with fail
  generalize (w.alloc (.cells #[.int .i64 k.br, .int .i64 k.vol, .int .i64 k.blk, .int .u64 k.num] 26)).alloc (.cells #[.int .i64 0, .int .i64 0, .int .i64 0, .int .u64 0] 26) = W at *
  refine (HFi.out _ hbw).mono ?_
  rintro e w1 ⟨rfl, hb1⟩
  have HBw := Lib.hid (hbw.trans (hb1.mono hbw.size))
  have hre1 := hre.below hb1 hre.lt
  have HFn := Lib.hid (choose_floor w1 i (by omega) b)
  clear hre hb1 hbw HFi
  go_wp2_with fail
  refine HFn.out.mono ?_
  rintro e w2 ⟨rfl, rfl⟩
  have hz := hre1.lt
  have z0 : w1.cell? ⟨w.heap.size + 1, 0, none⟩ = some (.int .i64 0) := (hre1.cell 0).trans rfl
  have z1 : w1.cell? ⟨w.heap.size + 1, 1, none⟩ = some (.int .i64 0) := (hre1.cell 1).trans rfl
  have z2 : w1.cell? ⟨w.heap.size + 1, 2, none⟩ = some (.int .i64 0) := (hre1.cell 2).trans rfl
  have z3 : w1.cell? ⟨w.heap.size + 1, 3, none⟩ = some (.int .u64 0) := (hre1.cell 3).trans rfl
  have z4 := hre1.frozen 0
  have z5 := hre1.frozen 1
  have z6 := hre1.frozen 2
  have z7 := hre1.frozen 3
  have hzw : w.heap.size ≤ w.heap.size + 1 := Nat.le_succ _
  obtain ⟨A, ca, B, cb, hh⟩ := HL.out
  have c0 := hh.c0
  have c1 := hh.c1
  rw [List.length_map] at c0 c1
  have hks := hh.keys
  have hvs := hh.vals
  clear hh HFn
  obtain ⟨n, hn⟩ : ∃ n, m.length = n := ⟨_, rfl⟩
  rw [hn] at c0 c1 h4 h0 hi
  obtain ⟨g, hg⟩ : ∃ g : Int, (if b = true then (i : Int) else (i : Int) - 1) = g := ⟨_, rfl⟩
  rw [hg]
  rcases HX.out with ⟨rfl, hx⟩ | ⟨j, hj, hgj, rfl⟩
  · have hx2 : g < 0 ∨ (n : Int) ≤ g := by rw [← hg, ← hn]; exact hx
    clear hx hg HX
    by_cases hneg : g < 0
    · have f1 : decide (g < 0) = true := by simp [hneg]
      clear hx2 hks hvs c0 c1 h4 h0 hi hn
      go_wp2_with fail
      refine bodyPost_ret (v := entV none) (by rw [results_ctt rfl]; go_simp <;> rfl) rfl ?_
      exact ⟨rfl, by first | exact HBw.out | exact (((HBw.out.setCell (p := ⟨w.heap.size + 1, 0, none⟩) hzw _).setCell (p := ⟨w.heap.size + 1, 1, none⟩) hzw _).setCell (p := ⟨w.heap.size + 1, 2, none⟩) hzw _).setCell (p := ⟨w.heap.size + 1, 3, none⟩) hzw _⟩
    · have f1 : decide (g < 0) = false := by simp; omega
      have f2 : decide ((n : Int) ≤ g) = true := by simp; omega
      have c0 := bel_cell HBw.out (World.block_lt_of_cell? _ _ c0) c0
      clear hx2 hks hvs c1 h4 h0 hi hn hneg
      go_wp2_with fail
      refine bodyPost_ret (v := entV none) (by rw [results_ctt rfl]; go_simp <;> rfl) rfl ?_
      exact ⟨rfl, by first | exact HBw.out | exact (((HBw.out.setCell (p := ⟨w.heap.size + 1, 0, none⟩) hzw _).setCell (p := ⟨w.heap.size + 1, 1, none⟩) hzw _).setCell (p := ⟨w.heap.size + 1, 2, none⟩) hzw _).setCell (p := ⟨w.heap.size + 1, 3, none⟩) hzw _⟩
  · obtain rfl : g = (j : Int) := hg.symm.trans hgj
    have hjn : j < n := by rw [← hn]; exact hj
    obtain ⟨b1, o1, rfl, l1, k1⟩ := hks (by rw [List.length_map]; omega)
    obtain ⟨b2, o2, rfl, l2, k2⟩ := hvs (by rw [List.length_map]; omega)
    obtain ⟨s0, s1, s2, s3⟩ := k1 j (by rw [List.length_map]; exact hj)
    have v0 := k2 j (by rw [List.length_map]; exact hj)
    rw [List.getElem_map] at s0 s1 s2 s3 v0
    obtain ⟨x, hx⟩ : ∃ x, m[j] = x := ⟨_, rfl⟩
    rw [hx] at s0 s1 s2 s3 v0
    have hq : q < w.heap.size := World.block_lt_of_cell? _ _ c0
    have hb : b1 < w.heap.size ∧ b2 < w.heap.size := ⟨l1, l2⟩
    have c0 := bel_cell HBw.out hq c0
    have c1 := bel_cell HBw.out hq c1
    have s0 := bel_cell HBw.out hb.1 s0
    have s1 := bel_cell HBw.out hb.1 s1
    have s2 := bel_cell HBw.out hb.1 s2
    have s3 := bel_cell HBw.out hb.1 s3
    have v0 := bel_cell HBw.out hb.2 v0
    have d1 : q ≠ w.heap.size + 1 := by omega
    have d2 : b1 ≠ w.heap.size + 1 := by omega
    have d3 : b2 ≠ w.heap.size + 1 := by omega
    have HXe : Hid (m[j] = x) := hx
    have f1 : decide ((j : Int) < 0) = false := by simp
    have f2 : decide ((n : Int) ≤ (j : Int)) = false := by simp; omega
    have f3 : (0 : Int) ≤ (j : Int) := by omega
    have f4 : (j : Int) < (n : Int) := by omega
    clear hks hvs k1 k2 hx hg hgj HX h4 h0 hi hn l1 l2
    go_upto_region 6 with fail
    refine wp_region_held_drew (S := (fun w' => w'.cell? ⟨q, 0, none⟩ = some (.slice (some ⟨b1, o1, none⟩) n ca) ∧ w'.cell? ⟨q, 1, none⟩ = some (.slice (some ⟨b2, o2, none⟩) n cb) ∧ w'.cell? ⟨b1, o1 + j * 4, none⟩ = some (.int .i64 x.1.br) ∧ w'.cell? ⟨b1, o1 + j * 4 + 1, none⟩ = some (.int .i64 x.1.vol) ∧ w'.cell? ⟨b1, o1 + j * 4 + 2, none⟩ = some (.int .i64 x.1.blk) ∧ w'.cell? ⟨b1, o1 + j * 4 + 3, none⟩ = some (.int .u64 x.1.num) ∧ w'.cell? ⟨b2, o2 + j, none⟩ = some (.int .u64 x.2))) (by kernel_rfl) ⟨c0, c1, s0, s1, s2, s3, v0⟩ (fun hHeld => ?_)
    obtain ⟨wd, hwd⟩ : ∃ X, X = World.drew w1 := ⟨_, rfl⟩
    rw [← hwd] at hHeld ⊢
    have zd : Blk wd (w.heap.size + 1) #[.int .i64 0, .int .i64 0, .int .i64 0, .int .u64 0] 26 := by rw [hwd]; exact hre1
    have HBd : Hid (Below w.heap.size w wd) := by rw [hwd]; exact HBw.out.trans (bel_drewN _ _ (n := 1))
    clear hwd c0 c1 s0 s1 s2 s3 v0 z0 z1 z2 z3 z4 z5 z6 z7
    refine take_at (i := 0) (v := ?_) rfl (by kernel_rfl) (by kernel_rfl) (by kernel_rfl) (fun _ _ _ h => h) (Or.inl ⟨by rfl, ?_⟩) (by assumption) ?_
    rotate_left
    · (intro w' hSw; (try dsimp only at hSw); go_simp <;> (with_reducible rfl))
    try simp only [Act.put, List.setIfInBounds_toArray, List.set_cons_zero, List.set_cons_succ]
    refine take_at (i := 1) (v := ?_) rfl (by kernel_rfl) (by kernel_rfl) (by kernel_rfl) (fun _ _ _ h => h) (Or.inl ⟨by rfl, ?_⟩) (by assumption) ?_
    rotate_left
    · (intro w' hSw; (try dsimp only at hSw); go_simp <;> (with_reducible rfl))
    try simp only [Act.put, List.setIfInBounds_toArray, List.set_cons_zero, List.set_cons_succ]
    refine take_at (i := 2) (v := ?_) rfl (by kernel_rfl) (by kernel_rfl) (by kernel_rfl) (fun _ _ _ h => h) (Or.inl ⟨by rfl, ?_⟩) (by assumption) ?_
    rotate_left
    · (intro w' hSw; (try dsimp only at hSw); go_simp <;> (with_reducible rfl))
    try simp only [Act.put, List.setIfInBounds_toArray, List.set_cons_zero, List.set_cons_succ]
    refine take_at (i := 3) (v := ?_) rfl (by kernel_rfl) (by kernel_rfl) (by kernel_rfl) (fun _ _ _ h => h) (Or.inl ⟨by rfl, ?_⟩) (by assumption) ?_
    rotate_left
    · (intro w' hSw; (try dsimp only at hSw); go_simp <;> (with_reducible rfl))
    try simp only [Act.put, List.setIfInBounds_toArray, List.set_cons_zero, List.set_cons_succ]
    refine take_at (i := 4) (v := ?_) rfl (by kernel_rfl) (by kernel_rfl) (by kernel_rfl) (fun _ _ _ h => h) (Or.inl ⟨by rfl, ?_⟩) (by assumption) ?_
    rotate_left
    · (intro w' hSw; (try dsimp only at hSw); go_simp <;> (with_reducible rfl))
    try simp only [Act.put, List.setIfInBounds_toArray, List.set_cons_zero, List.set_cons_succ]
    refine take_at (i := 5) (v := ?_) rfl (by kernel_rfl) (by kernel_rfl) (by kernel_rfl) (fun _ _ _ h => h) (Or.inl ⟨by rfl, ?_⟩) (by assumption) ?_
    rotate_left
    · (intro w' hSw; (try dsimp only at hSw); go_simp <;> (with_reducible rfl))
    try simp only [Act.put, List.setIfInBounds_toArray, List.set_cons_zero, List.set_cons_succ]
    refine take_at (i := 6) (v := ?_) rfl (by kernel_rfl) (by kernel_rfl) (by kernel_rfl) (fun _ _ _ h => h) (Or.inl ⟨by rfl, ?_⟩) (by assumption) ?_
    rotate_left
    · (intro w' hSw; (try dsimp only at hSw); go_simp <;> (with_reducible rfl))
    try simp only [Act.put, List.setIfInBounds_toArray, List.set_cons_zero, List.set_cons_succ]
    refine take_at (i := 7) (v := ?_) rfl (by kernel_rfl) (by kernel_rfl) (by kernel_rfl) (fun _ _ _ h => h) (Or.inl ⟨by rfl, ?_⟩) (by assumption) ?_
    rotate_left
    · (intro w' hSw; (try dsimp only at hSw); go_simp <;> (with_reducible rfl))
    try simp only [Act.put, List.setIfInBounds_toArray, List.set_cons_zero, List.set_cons_succ]
    refine take_at (i := 8) (v := ?_) rfl (by kernel_rfl) (by kernel_rfl) (by kernel_rfl) (fun _ _ _ h => h) (Or.inl ⟨by rfl, ?_⟩) (by assumption) ?_
    rotate_left
    · (intro w' hSw; (try dsimp only at hSw); go_simp <;> (with_reducible rfl))
    try simp only [Act.put, List.setIfInBounds_toArray, List.set_cons_zero, List.set_cons_succ]
    refine take_at (i := 9) (v := ?_) rfl (by kernel_rfl) (by kernel_rfl) (by kernel_rfl) (fun _ _ _ h => h) (Or.inl ⟨by rfl, ?_⟩) (by assumption) ?_
    rotate_left
    · (intro w' hSw; (try dsimp only at hSw); go_simp <;> (with_reducible rfl))
    try simp only [Act.put, List.setIfInBounds_toArray, List.set_cons_zero, List.set_cons_succ]
    refine take_at (i := 10) (v := ?_) rfl (by kernel_rfl) (by kernel_rfl) (by kernel_rfl) (fun _ _ _ h => h) (Or.inl ⟨by rfl, ?_⟩) (by assumption) ?_
    rotate_left
    · (intro w' hSw; (try dsimp only at hSw); go_simp <;> (with_reducible rfl))
    try simp only [Act.put, List.setIfInBounds_toArray, List.set_cons_zero, List.set_cons_succ]
    refine take_at (i := 11) (v := ?_) rfl (by kernel_rfl) (by kernel_rfl) (by kernel_rfl) (fun _ _ _ h => h) (Or.inl ⟨by rfl, ?_⟩) (by assumption) ?_
    rotate_left
    · (intro w' hSw; (try dsimp only at hSw); go_simp <;> (with_reducible rfl))
    try simp only [Act.put, List.setIfInBounds_toArray, List.set_cons_zero, List.set_cons_succ]
    refine take_at (i := 12) (v := ?_) rfl (by kernel_rfl) (by kernel_rfl) (by kernel_rfl) (fun _ _ _ h => h) (Or.inl ⟨by rfl, ?_⟩) (by assumption) ?_
    rotate_left
    · (intro w' hSw; (try dsimp only at hSw); go_simp <;> (with_reducible rfl))
    try simp only [Act.put, List.setIfInBounds_toArray, List.set_cons_zero, List.set_cons_succ]
    refine take_at (i := 13) (v := ?_) rfl (by kernel_rfl) (by kernel_rfl) (by kernel_rfl) (fun _ _ _ h => h) (Or.inl ⟨by rfl, ?_⟩) (by assumption) ?_
    rotate_left
    · (intro w' hSw; (try dsimp only at hSw); go_simp <;> (with_reducible rfl))
    try simp only [Act.put, List.setIfInBounds_toArray, List.set_cons_zero, List.set_cons_succ]
    refine one_at (i := 14) rfl (by kernel_rfl) (by rfl) (fun K hK => ?_)
    have z0 := (zd.cell 0).trans rfl
    have z1 := (zd.cell 1).trans rfl
    have z2 := (zd.cell 2).trans rfl
    have z3 := (zd.cell 3).trans rfl
    have z4 := zd.frozen 0
    have z5 := zd.frozen 1
    have z6 := zd.frozen 2
    have z7 := zd.frozen 3
    go_simp
    clear z0 z1 z2 z3 z4 z5 z6 z7
    have hBk : Blk ((((wd.setCell ⟨w.heap.size + 1, 0, none⟩ (.int .i64 x.1.br)).setCell ⟨w.heap.size + 1, 1, none⟩ (.int .i64 x.1.vol)).setCell ⟨w.heap.size + 1, 2, none⟩ (.int .i64 x.1.blk)).setCell ⟨w.heap.size + 1, 3, none⟩ (.int .u64 x.1.num)) (w.heap.size + 1) #[.int .i64 x.1.br, .int .i64 x.1.vol, .int .i64 x.1.blk, .int .u64 x.1.num] 26 := (((zd.set (o := 0) _).set (o := 1) _).set (o := 2) _).set (o := 3) _
    have hoff : ∀ q, q ≠ w.heap.size + 1 → ((((wd.setCell ⟨w.heap.size + 1, 0, none⟩ (.int .i64 x.1.br)).setCell ⟨w.heap.size + 1, 1, none⟩ (.int .i64 x.1.vol)).setCell ⟨w.heap.size + 1, 2, none⟩ (.int .i64 x.1.blk)).setCell ⟨w.heap.size + 1, 3, none⟩ (.int .u64 x.1.num)).heap[q]? = wd.heap[q]? := fun q hq => (((set_offT _ hq).trans (set_offT _ hq)).trans (set_offT _ hq)).trans (set_offT _ hq)
    have hBe : Below w.heap.size w ((((wd.setCell ⟨w.heap.size + 1, 0, none⟩ (.int .i64 x.1.br)).setCell ⟨w.heap.size + 1, 1, none⟩ (.int .i64 x.1.vol)).setCell ⟨w.heap.size + 1, 2, none⟩ (.int .i64 x.1.blk)).setCell ⟨w.heap.size + 1, 3, none⟩ (.int .u64 x.1.num)) := (((HBd.out.setCell (p := ⟨w.heap.size + 1, 0, none⟩) hzw _).setCell (p := ⟨w.heap.size + 1, 1, none⟩) hzw _).setCell (p := ⟨w.heap.size + 1, 2, none⟩) hzw _).setCell (p := ⟨w.heap.size + 1, 3, none⟩) hzw _
    generalize hXX : ((((wd.setCell ⟨w.heap.size + 1, 0, none⟩ (.int .i64 x.1.br)).setCell ⟨w.heap.size + 1, 1, none⟩ (.int .i64 x.1.vol)).setCell ⟨w.heap.size + 1, 2, none⟩ (.int .i64 x.1.blk)).setCell ⟨w.heap.size + 1, 3, none⟩ (.int .u64 x.1.num)) = X1 at *
    have hSX : (fun w' => w'.cell? ⟨q, 0, none⟩ = some (.slice (some ⟨b1, o1, none⟩) n ca) ∧ w'.cell? ⟨q, 1, none⟩ = some (.slice (some ⟨b2, o2, none⟩) n cb) ∧ w'.cell? ⟨b1, o1 + j * 4, none⟩ = some (.int .i64 x.1.br) ∧ w'.cell? ⟨b1, o1 + j * 4 + 1, none⟩ = some (.int .i64 x.1.vol) ∧ w'.cell? ⟨b1, o1 + j * 4 + 2, none⟩ = some (.int .i64 x.1.blk) ∧ w'.cell? ⟨b1, o1 + j * 4 + 3, none⟩ = some (.int .u64 x.1.num) ∧ w'.cell? ⟨b2, o2 + j, none⟩ = some (.int .u64 x.2)) X1 := ⟨(World.cell?_of_block (hoff _ d1)).trans hHeld.1, (World.cell?_of_block (hoff _ d1)).trans hHeld.2.1, (World.cell?_of_block (hoff _ d2)).trans hHeld.2.2.1, (World.cell?_of_block (hoff _ d2)).trans hHeld.2.2.2.1, (World.cell?_of_block (hoff _ d2)).trans hHeld.2.2.2.2.1, (World.cell?_of_block (hoff _ d2)).trans hHeld.2.2.2.2.2.1, (World.cell?_of_block (hoff _ d3)).trans hHeld.2.2.2.2.2.2⟩
    refine hK.out _ _ hSX (fun _ => ?_)
    clear hK K
    try simp only [Act.put, List.setIfInBounds_toArray, List.set_cons_zero, List.set_cons_succ]
    refine take_at (i := 15) (v := ?_) rfl (by kernel_rfl) (by kernel_rfl) (by kernel_rfl) (fun _ _ _ h => h) (Or.inl ⟨by rfl, ?_⟩) (by assumption) ?_
    rotate_left
    · (intro w' hSw; (try dsimp only at hSw); go_simp <;> (with_reducible rfl))
    try simp only [Act.put, List.setIfInBounds_toArray, List.set_cons_zero, List.set_cons_succ]
    refine take_at (i := 16) (v := ?_) rfl (by kernel_rfl) (by kernel_rfl) (by kernel_rfl) (fun _ _ _ h => h) (Or.inl ⟨by rfl, ?_⟩) (by assumption) ?_
    rotate_left
    · (intro w' hSw; (try dsimp only at hSw); go_simp <;> (with_reducible rfl))
    try simp only [Act.put, List.setIfInBounds_toArray, List.set_cons_zero, List.set_cons_succ]
    refine wpAnyH_done (by kernel_rfl) ?_ _
    try simp only [Act.put, List.setIfInBounds_toArray, List.set_cons_zero, List.set_cons_succ]
    have y0 := (hBk.cell 0).trans rfl
    have y1 := (hBk.cell 1).trans rfl
    have y2 := (hBk.cell 2).trans rfl
    have y3 := (hBk.cell 3).trans rfl
    have HBe := Lib.hid hBe
    clear hSX hBe hoff hHeld zd hXX
    go_wp2_with fail
    refine bodyPost_ret (v := entV (some x)) (by rw [results_ctt rfl]; go_simp <;> rfl) rfl ?_
    exact ⟨by rw [HXe.out], HBe.out⟩
set_option maxHeartbeats 3200000 in
set_option maxRecDepth 100000 in
theorem near_ceil {w : World} {q : Nat} {m : List Ent} (h : Leaf w q (m.map (·.1)) (m.map (·.2))) (h4 : m.length ≤ 4) (h0 : 0 < m.length) (k : Sp) (i : Nat) (b : Bool) (hf : findL k (m.map (·.1)) = (i, b)) (hi : i ≤ m.length) (x : Option Ent)
    (hx : (x = none ∧ ((i : Int) < 0 ∨ (m.length : Int) ≤ (i : Int))) ∨ ∃ j, ∃ hj : j < m.length, (i : Int) = (j : Nat) ∧ x = some m[j]) :
    Calls Try.prog 71 #[.pointer (some ⟨q, 0, none⟩), .agg #[.int .i64 k.br, .int .i64 k.vol, .int .i64 k.blk, .int .u64 k.num], .func (.func 73) #[] #[]] w fun e w' => e = .returned (entV x) ∧ Below w.heap.size w w' := by
  have HL := Lib.hid h
  have HX := Lib.hid hx
  have HFi : Hid (∀ X, Below w.heap.size w X → Calls Try.prog 23 #[.pointer (some ⟨q, 0, none⟩), .agg #[.int .i64 k.br, .int .i64 k.vol, .int .i64 k.blk, .int .u64 k.num]] X fun e w' => e = .returned (.tuple #[.int .i64 i, .bool b]) ∧ Below X.heap.size X w') := fun X hX => by
    have := find_leaf (h.below hX) k (by rw [List.length_map]; omega)
    rw [hf] at this
    exact this
  clear h hx hf
  have hbw : Below w.heap.size w ((w.alloc (.cells #[.int .i64 k.br, .int .i64 k.vol, .int .i64 k.blk, .int .u64 k.num] 26)).alloc (.cells #[.int .i64 0, .int .i64 0, .int .i64 0, .int .u64 0] 26)) := ((Below.refl _ _).alloc (Nat.le_refl _) _).alloc (by simp) _
  have hre : Blk ((w.alloc (.cells #[.int .i64 k.br, .int .i64 k.vol, .int .i64 k.blk, .int .u64 k.num] 26)).alloc (.cells #[.int .i64 0, .int .i64 0, .int .i64 0, .int .u64 0] 26)) (w.heap.size + 1) #[.int .i64 0, .int .i64 0, .int .i64 0, .int .u64 0] 26 := by
    have := Blk.new (w.alloc (.cells #[.int .i64 k.br, .int .i64 k.vol, .int .i64 k.blk, .int .u64 k.num] 26)) #[.int .i64 0, .int .i64 0, .int .i64 0, .int .u64 0] 26
    rw [World.size_alloc] at this
    exact this
  go_enter Try.func71, Try.ntmps71
  go_wp2_with fail
  generalize (w.alloc (.cells #[.int .i64 k.br, .int .i64 k.vol, .int .i64 k.blk, .int .u64 k.num] 26)).alloc (.cells #[.int .i64 0, .int .i64 0, .int .i64 0, .int .u64 0] 26) = W at *
  refine (HFi.out _ hbw).mono ?_
  rintro e w1 ⟨rfl, hb1⟩
  have HBw := Lib.hid (hbw.trans (hb1.mono hbw.size))
  have hre1 := hre.below hb1 hre.lt
  have HFn := Lib.hid (choose_ceil w1 i b)
  clear hre hb1 hbw HFi
  go_wp2_with fail
  refine HFn.out.mono ?_
  rintro e w2 ⟨rfl, rfl⟩
  have hz := hre1.lt
  have z0 : w1.cell? ⟨w.heap.size + 1, 0, none⟩ = some (.int .i64 0) := (hre1.cell 0).trans rfl
  have z1 : w1.cell? ⟨w.heap.size + 1, 1, none⟩ = some (.int .i64 0) := (hre1.cell 1).trans rfl
  have z2 : w1.cell? ⟨w.heap.size + 1, 2, none⟩ = some (.int .i64 0) := (hre1.cell 2).trans rfl
  have z3 : w1.cell? ⟨w.heap.size + 1, 3, none⟩ = some (.int .u64 0) := (hre1.cell 3).trans rfl
  have z4 := hre1.frozen 0
  have z5 := hre1.frozen 1
  have z6 := hre1.frozen 2
  have z7 := hre1.frozen 3
  have hzw : w.heap.size ≤ w.heap.size + 1 := Nat.le_succ _
  obtain ⟨A, ca, B, cb, hh⟩ := HL.out
  have c0 := hh.c0
  have c1 := hh.c1
  rw [List.length_map] at c0 c1
  have hks := hh.keys
  have hvs := hh.vals
  clear hh HFn
  obtain ⟨n, hn⟩ : ∃ n, m.length = n := ⟨_, rfl⟩
  rw [hn] at c0 c1 h4 h0 hi
  obtain ⟨g, hg⟩ : ∃ g : Int, (i : Int) = g := ⟨_, rfl⟩
  rw [hg]
  rcases HX.out with ⟨rfl, hx⟩ | ⟨j, hj, hgj, rfl⟩
  · have hx2 : g < 0 ∨ (n : Int) ≤ g := by rw [← hg, ← hn]; exact hx
    clear hx hg HX
    by_cases hneg : g < 0
    · have f1 : decide (g < 0) = true := by simp [hneg]
      clear hx2 hks hvs c0 c1 h4 h0 hi hn
      go_wp2_with fail
      refine bodyPost_ret (v := entV none) (by rw [results_ctt rfl]; go_simp <;> rfl) rfl ?_
      exact ⟨rfl, by first | exact HBw.out | exact (((HBw.out.setCell (p := ⟨w.heap.size + 1, 0, none⟩) hzw _).setCell (p := ⟨w.heap.size + 1, 1, none⟩) hzw _).setCell (p := ⟨w.heap.size + 1, 2, none⟩) hzw _).setCell (p := ⟨w.heap.size + 1, 3, none⟩) hzw _⟩
    · have f1 : decide (g < 0) = false := by simp; omega
      have f2 : decide ((n : Int) ≤ g) = true := by simp; omega
      have c0 := bel_cell HBw.out (World.block_lt_of_cell? _ _ c0) c0
      clear hx2 hks hvs c1 h4 h0 hi hn hneg
      go_wp2_with fail
      refine bodyPost_ret (v := entV none) (by rw [results_ctt rfl]; go_simp <;> rfl) rfl ?_
      exact ⟨rfl, by first | exact HBw.out | exact (((HBw.out.setCell (p := ⟨w.heap.size + 1, 0, none⟩) hzw _).setCell (p := ⟨w.heap.size + 1, 1, none⟩) hzw _).setCell (p := ⟨w.heap.size + 1, 2, none⟩) hzw _).setCell (p := ⟨w.heap.size + 1, 3, none⟩) hzw _⟩
  · obtain rfl : g = (j : Int) := hg.symm.trans hgj
    have hjn : j < n := by rw [← hn]; exact hj
    obtain ⟨b1, o1, rfl, l1, k1⟩ := hks (by rw [List.length_map]; omega)
    obtain ⟨b2, o2, rfl, l2, k2⟩ := hvs (by rw [List.length_map]; omega)
    obtain ⟨s0, s1, s2, s3⟩ := k1 j (by rw [List.length_map]; exact hj)
    have v0 := k2 j (by rw [List.length_map]; exact hj)
    rw [List.getElem_map] at s0 s1 s2 s3 v0
    obtain ⟨x, hx⟩ : ∃ x, m[j] = x := ⟨_, rfl⟩
    rw [hx] at s0 s1 s2 s3 v0
    have hq : q < w.heap.size := World.block_lt_of_cell? _ _ c0
    have hb : b1 < w.heap.size ∧ b2 < w.heap.size := ⟨l1, l2⟩
    have c0 := bel_cell HBw.out hq c0
    have c1 := bel_cell HBw.out hq c1
    have s0 := bel_cell HBw.out hb.1 s0
    have s1 := bel_cell HBw.out hb.1 s1
    have s2 := bel_cell HBw.out hb.1 s2
    have s3 := bel_cell HBw.out hb.1 s3
    have v0 := bel_cell HBw.out hb.2 v0
    have d1 : q ≠ w.heap.size + 1 := by omega
    have d2 : b1 ≠ w.heap.size + 1 := by omega
    have d3 : b2 ≠ w.heap.size + 1 := by omega
    have HXe : Hid (m[j] = x) := hx
    have f1 : decide ((j : Int) < 0) = false := by simp
    have f2 : decide ((n : Int) ≤ (j : Int)) = false := by simp; omega
    have f3 : (0 : Int) ≤ (j : Int) := by omega
    have f4 : (j : Int) < (n : Int) := by omega
    clear hks hvs k1 k2 hx hg hgj HX h4 h0 hi hn l1 l2
    go_upto_region 6 with fail
    refine wp_region_held_drew (S := (fun w' => w'.cell? ⟨q, 0, none⟩ = some (.slice (some ⟨b1, o1, none⟩) n ca) ∧ w'.cell? ⟨q, 1, none⟩ = some (.slice (some ⟨b2, o2, none⟩) n cb) ∧ w'.cell? ⟨b1, o1 + j * 4, none⟩ = some (.int .i64 x.1.br) ∧ w'.cell? ⟨b1, o1 + j * 4 + 1, none⟩ = some (.int .i64 x.1.vol) ∧ w'.cell? ⟨b1, o1 + j * 4 + 2, none⟩ = some (.int .i64 x.1.blk) ∧ w'.cell? ⟨b1, o1 + j * 4 + 3, none⟩ = some (.int .u64 x.1.num) ∧ w'.cell? ⟨b2, o2 + j, none⟩ = some (.int .u64 x.2))) (by kernel_rfl) ⟨c0, c1, s0, s1, s2, s3, v0⟩ (fun hHeld => ?_)
    obtain ⟨wd, hwd⟩ : ∃ X, X = World.drew w1 := ⟨_, rfl⟩
    rw [← hwd] at hHeld ⊢
    have zd : Blk wd (w.heap.size + 1) #[.int .i64 0, .int .i64 0, .int .i64 0, .int .u64 0] 26 := by rw [hwd]; exact hre1
    have HBd : Hid (Below w.heap.size w wd) := by rw [hwd]; exact HBw.out.trans (bel_drewN _ _ (n := 1))
    clear hwd c0 c1 s0 s1 s2 s3 v0 z0 z1 z2 z3 z4 z5 z6 z7
    refine take_at (i := 0) (v := ?_) rfl (by kernel_rfl) (by kernel_rfl) (by kernel_rfl) (fun _ _ _ h => h) (Or.inl ⟨by rfl, ?_⟩) (by assumption) ?_
    rotate_left
    · (intro w' hSw; (try dsimp only at hSw); go_simp <;> (with_reducible rfl))
    try simp only [Act.put, List.setIfInBounds_toArray, List.set_cons_zero, List.set_cons_succ]
    refine take_at (i := 1) (v := ?_) rfl (by kernel_rfl) (by kernel_rfl) (by kernel_rfl) (fun _ _ _ h => h) (Or.inl ⟨by rfl, ?_⟩) (by assumption) ?_
    rotate_left
    · (intro w' hSw; (try dsimp only at hSw); go_simp <;> (with_reducible rfl))
    try simp only [Act.put, List.setIfInBounds_toArray, List.set_cons_zero, List.set_cons_succ]
    refine take_at (i := 2) (v := ?_) rfl (by kernel_rfl) (by kernel_rfl) (by kernel_rfl) (fun _ _ _ h => h) (Or.inl ⟨by rfl, ?_⟩) (by assumption) ?_
    rotate_left
    · (intro w' hSw; (try dsimp only at hSw); go_simp <;> (with_reducible rfl))
    try simp only [Act.put, List.setIfInBounds_toArray, List.set_cons_zero, List.set_cons_succ]
    refine take_at (i := 3) (v := ?_) rfl (by kernel_rfl) (by kernel_rfl) (by kernel_rfl) (fun _ _ _ h => h) (Or.inl ⟨by rfl, ?_⟩) (by assumption) ?_
    rotate_left
    · (intro w' hSw; (try dsimp only at hSw); go_simp <;> (with_reducible rfl))
    try simp only [Act.put, List.setIfInBounds_toArray, List.set_cons_zero, List.set_cons_succ]
    refine take_at (i := 4) (v := ?_) rfl (by kernel_rfl) (by kernel_rfl) (by kernel_rfl) (fun _ _ _ h => h) (Or.inl ⟨by rfl, ?_⟩) (by assumption) ?_
    rotate_left
    · (intro w' hSw; (try dsimp only at hSw); go_simp <;> (with_reducible rfl))
    try simp only [Act.put, List.setIfInBounds_toArray, List.set_cons_zero, List.set_cons_succ]
    refine take_at (i := 5) (v := ?_) rfl (by kernel_rfl) (by kernel_rfl) (by kernel_rfl) (fun _ _ _ h => h) (Or.inl ⟨by rfl, ?_⟩) (by assumption) ?_
    rotate_left
    · (intro w' hSw; (try dsimp only at hSw); go_simp <;> (with_reducible rfl))
    try simp only [Act.put, List.setIfInBounds_toArray, List.set_cons_zero, List.set_cons_succ]
    refine take_at (i := 6) (v := ?_) rfl (by kernel_rfl) (by kernel_rfl) (by kernel_rfl) (fun _ _ _ h => h) (Or.inl ⟨by rfl, ?_⟩) (by assumption) ?_
    rotate_left
    · (intro w' hSw; (try dsimp only at hSw); go_simp <;> (with_reducible rfl))
    try simp only [Act.put, List.setIfInBounds_toArray, List.set_cons_zero, List.set_cons_succ]
    refine take_at (i := 7) (v := ?_) rfl (by kernel_rfl) (by kernel_rfl) (by kernel_rfl) (fun _ _ _ h => h) (Or.inl ⟨by rfl, ?_⟩) (by assumption) ?_
    rotate_left
    · (intro w' hSw; (try dsimp only at hSw); go_simp <;> (with_reducible rfl))
    try simp only [Act.put, List.setIfInBounds_toArray, List.set_cons_zero, List.set_cons_succ]
    refine take_at (i := 8) (v := ?_) rfl (by kernel_rfl) (by kernel_rfl) (by kernel_rfl) (fun _ _ _ h => h) (Or.inl ⟨by rfl, ?_⟩) (by assumption) ?_
    rotate_left
    · (intro w' hSw; (try dsimp only at hSw); go_simp <;> (with_reducible rfl))
    try simp only [Act.put, List.setIfInBounds_toArray, List.set_cons_zero, List.set_cons_succ]
    refine take_at (i := 9) (v := ?_) rfl (by kernel_rfl) (by kernel_rfl) (by kernel_rfl) (fun _ _ _ h => h) (Or.inl ⟨by rfl, ?_⟩) (by assumption) ?_
    rotate_left
    · (intro w' hSw; (try dsimp only at hSw); go_simp <;> (with_reducible rfl))
    try simp only [Act.put, List.setIfInBounds_toArray, List.set_cons_zero, List.set_cons_succ]
    refine take_at (i := 10) (v := ?_) rfl (by kernel_rfl) (by kernel_rfl) (by kernel_rfl) (fun _ _ _ h => h) (Or.inl ⟨by rfl, ?_⟩) (by assumption) ?_
    rotate_left
    · (intro w' hSw; (try dsimp only at hSw); go_simp <;> (with_reducible rfl))
    try simp only [Act.put, List.setIfInBounds_toArray, List.set_cons_zero, List.set_cons_succ]
    refine take_at (i := 11) (v := ?_) rfl (by kernel_rfl) (by kernel_rfl) (by kernel_rfl) (fun _ _ _ h => h) (Or.inl ⟨by rfl, ?_⟩) (by assumption) ?_
    rotate_left
    · (intro w' hSw; (try dsimp only at hSw); go_simp <;> (with_reducible rfl))
    try simp only [Act.put, List.setIfInBounds_toArray, List.set_cons_zero, List.set_cons_succ]
    refine take_at (i := 12) (v := ?_) rfl (by kernel_rfl) (by kernel_rfl) (by kernel_rfl) (fun _ _ _ h => h) (Or.inl ⟨by rfl, ?_⟩) (by assumption) ?_
    rotate_left
    · (intro w' hSw; (try dsimp only at hSw); go_simp <;> (with_reducible rfl))
    try simp only [Act.put, List.setIfInBounds_toArray, List.set_cons_zero, List.set_cons_succ]
    refine take_at (i := 13) (v := ?_) rfl (by kernel_rfl) (by kernel_rfl) (by kernel_rfl) (fun _ _ _ h => h) (Or.inl ⟨by rfl, ?_⟩) (by assumption) ?_
    rotate_left
    · (intro w' hSw; (try dsimp only at hSw); go_simp <;> (with_reducible rfl))
    try simp only [Act.put, List.setIfInBounds_toArray, List.set_cons_zero, List.set_cons_succ]
    refine one_at (i := 14) rfl (by kernel_rfl) (by rfl) (fun K hK => ?_)
    have z0 := (zd.cell 0).trans rfl
    have z1 := (zd.cell 1).trans rfl
    have z2 := (zd.cell 2).trans rfl
    have z3 := (zd.cell 3).trans rfl
    have z4 := zd.frozen 0
    have z5 := zd.frozen 1
    have z6 := zd.frozen 2
    have z7 := zd.frozen 3
    go_simp
    clear z0 z1 z2 z3 z4 z5 z6 z7
    have hBk : Blk ((((wd.setCell ⟨w.heap.size + 1, 0, none⟩ (.int .i64 x.1.br)).setCell ⟨w.heap.size + 1, 1, none⟩ (.int .i64 x.1.vol)).setCell ⟨w.heap.size + 1, 2, none⟩ (.int .i64 x.1.blk)).setCell ⟨w.heap.size + 1, 3, none⟩ (.int .u64 x.1.num)) (w.heap.size + 1) #[.int .i64 x.1.br, .int .i64 x.1.vol, .int .i64 x.1.blk, .int .u64 x.1.num] 26 := (((zd.set (o := 0) _).set (o := 1) _).set (o := 2) _).set (o := 3) _
    have hoff : ∀ q, q ≠ w.heap.size + 1 → ((((wd.setCell ⟨w.heap.size + 1, 0, none⟩ (.int .i64 x.1.br)).setCell ⟨w.heap.size + 1, 1, none⟩ (.int .i64 x.1.vol)).setCell ⟨w.heap.size + 1, 2, none⟩ (.int .i64 x.1.blk)).setCell ⟨w.heap.size + 1, 3, none⟩ (.int .u64 x.1.num)).heap[q]? = wd.heap[q]? := fun q hq => (((set_offT _ hq).trans (set_offT _ hq)).trans (set_offT _ hq)).trans (set_offT _ hq)
    have hBe : Below w.heap.size w ((((wd.setCell ⟨w.heap.size + 1, 0, none⟩ (.int .i64 x.1.br)).setCell ⟨w.heap.size + 1, 1, none⟩ (.int .i64 x.1.vol)).setCell ⟨w.heap.size + 1, 2, none⟩ (.int .i64 x.1.blk)).setCell ⟨w.heap.size + 1, 3, none⟩ (.int .u64 x.1.num)) := (((HBd.out.setCell (p := ⟨w.heap.size + 1, 0, none⟩) hzw _).setCell (p := ⟨w.heap.size + 1, 1, none⟩) hzw _).setCell (p := ⟨w.heap.size + 1, 2, none⟩) hzw _).setCell (p := ⟨w.heap.size + 1, 3, none⟩) hzw _
    generalize hXX : ((((wd.setCell ⟨w.heap.size + 1, 0, none⟩ (.int .i64 x.1.br)).setCell ⟨w.heap.size + 1, 1, none⟩ (.int .i64 x.1.vol)).setCell ⟨w.heap.size + 1, 2, none⟩ (.int .i64 x.1.blk)).setCell ⟨w.heap.size + 1, 3, none⟩ (.int .u64 x.1.num)) = X1 at *
    have hSX : (fun w' => w'.cell? ⟨q, 0, none⟩ = some (.slice (some ⟨b1, o1, none⟩) n ca) ∧ w'.cell? ⟨q, 1, none⟩ = some (.slice (some ⟨b2, o2, none⟩) n cb) ∧ w'.cell? ⟨b1, o1 + j * 4, none⟩ = some (.int .i64 x.1.br) ∧ w'.cell? ⟨b1, o1 + j * 4 + 1, none⟩ = some (.int .i64 x.1.vol) ∧ w'.cell? ⟨b1, o1 + j * 4 + 2, none⟩ = some (.int .i64 x.1.blk) ∧ w'.cell? ⟨b1, o1 + j * 4 + 3, none⟩ = some (.int .u64 x.1.num) ∧ w'.cell? ⟨b2, o2 + j, none⟩ = some (.int .u64 x.2)) X1 := ⟨(World.cell?_of_block (hoff _ d1)).trans hHeld.1, (World.cell?_of_block (hoff _ d1)).trans hHeld.2.1, (World.cell?_of_block (hoff _ d2)).trans hHeld.2.2.1, (World.cell?_of_block (hoff _ d2)).trans hHeld.2.2.2.1, (World.cell?_of_block (hoff _ d2)).trans hHeld.2.2.2.2.1, (World.cell?_of_block (hoff _ d2)).trans hHeld.2.2.2.2.2.1, (World.cell?_of_block (hoff _ d3)).trans hHeld.2.2.2.2.2.2⟩
    refine hK.out _ _ hSX (fun _ => ?_)
    clear hK K
    try simp only [Act.put, List.setIfInBounds_toArray, List.set_cons_zero, List.set_cons_succ]
    refine take_at (i := 15) (v := ?_) rfl (by kernel_rfl) (by kernel_rfl) (by kernel_rfl) (fun _ _ _ h => h) (Or.inl ⟨by rfl, ?_⟩) (by assumption) ?_
    rotate_left
    · (intro w' hSw; (try dsimp only at hSw); go_simp <;> (with_reducible rfl))
    try simp only [Act.put, List.setIfInBounds_toArray, List.set_cons_zero, List.set_cons_succ]
    refine take_at (i := 16) (v := ?_) rfl (by kernel_rfl) (by kernel_rfl) (by kernel_rfl) (fun _ _ _ h => h) (Or.inl ⟨by rfl, ?_⟩) (by assumption) ?_
    rotate_left
    · (intro w' hSw; (try dsimp only at hSw); go_simp <;> (with_reducible rfl))
    try simp only [Act.put, List.setIfInBounds_toArray, List.set_cons_zero, List.set_cons_succ]
    refine wpAnyH_done (by kernel_rfl) ?_ _
    try simp only [Act.put, List.setIfInBounds_toArray, List.set_cons_zero, List.set_cons_succ]
    have y0 := (hBk.cell 0).trans rfl
    have y1 := (hBk.cell 1).trans rfl
    have y2 := (hBk.cell 2).trans rfl
    have y3 := (hBk.cell 3).trans rfl
    have HBe := Lib.hid hBe
    clear hSX hBe hoff hHeld zd hXX
    go_wp2_with fail
    refine bodyPost_ret (v := entV (some x)) (by rw [results_ctt rfl]; go_simp <;> rfl) rfl ?_
    exact ⟨by rw [HXe.out], HBe.out⟩
end Go.Proofs.Ytainljbkejafcaa.N

/- Floor and Ceil of a tree. -/
namespace Go.Proofs.Ytainljbkejafcaa.N
open Go.BigFrame Go.RowKit Go.Proofs.YtainljbkejafcaaW.PrintMore Go.Proofs.YtainljbkejafcaaW.PrintWords
set_option linter.unusedVariables false
set_option linter.unusedSimpArgs false
theorem floor_arg {k : Sp} {m : List Ent} (ha : Asc m) {i : Nat} {b : Bool} (hf : findL k (m.map (·.1)) = (i, b)) :
    i ≤ m.length ∧ ((floorE k m = none ∧ ((if b = true then (i : Int) else (i : Int) - 1) < 0 ∨ (m.length : Int) ≤ (if b = true then (i : Int) else (i : Int) - 1))) ∨ ∃ j, ∃ hj : j < m.length, (if b = true then (i : Int) else (i : Int) - 1) = (j : Nat) ∧ floorE k m = some m[j]) := by
  have hp := (findL_parts k ha).2.2
  rw [hf] at hp
  have hl := floor_leaf ha hf
  refine ⟨hp.1, ?_⟩
  cases b with
  | true =>
    have hi := (hp.2 rfl).1
    exact .inr ⟨i, hi, rfl, by rw [hl, if_pos rfl, List.getElem?_eq_getElem hi]⟩
  | false =>
    rw [if_neg (by decide)] at hl ⊢
    have hle := hp.1
    simp only at hle
    by_cases h0 : i = 0
    · rw [if_pos h0] at hl
      exact .inl ⟨hl, .inl (by omega)⟩
    · rw [if_neg h0] at hl
      exact .inr ⟨i - 1, by omega, by omega, by rw [hl, List.getElem?_eq_getElem (by omega)]⟩
theorem ceil_arg {k : Sp} {m : List Ent} (ha : Asc m) {i : Nat} {b : Bool} (hf : findL k (m.map (·.1)) = (i, b)) :
    i ≤ m.length ∧ ((ceilE k m = none ∧ ((i : Int) < 0 ∨ (m.length : Int) ≤ (i : Int))) ∨ ∃ j, ∃ hj : j < m.length, (i : Int) = (j : Nat) ∧ ceilE k m = some m[j]) := by
  have hp := (findL_parts k ha).2.2
  rw [hf] at hp
  have hl := ceil_leaf ha hf
  have hle := hp.1
  simp only at hle
  refine ⟨hle, ?_⟩
  by_cases h : i < m.length
  · exact .inr ⟨i, h, rfl, by rw [hl, List.getElem?_eq_getElem h]⟩
  · exact .inl ⟨by rw [hl, List.getElem?_eq_none (by omega)], .inr (by omega)⟩
/-- near over the leaf that the way down found. -/
theorem near_ok {w : World} {k : Sp} {l : List Ent} {x nx : Option Addr} (ha : Asc l)
    (h : (l = [] ∧ x = none ∧ nx = none) ∨ ∃ q m pre post, x = some ⟨q, 0, none⟩ ∧ Nd w 0 q m m.length ∧ 0 < m.length ∧ m.length ≤ 4 ∧ Way k l pre m post ∧ NextAt w nx post) :
    (Calls Try.prog 71 #[.pointer x, .agg #[.int .i64 k.br, .int .i64 k.vol, .int .i64 k.blk, .int .u64 k.num], .func (.func 72) #[] #[]] w fun e w' => e = .returned (entV (floorE k l)) ∧ Below w.heap.size w w') := by
  rcases h with ⟨rfl, rfl, rfl⟩ | ⟨q, m, pre, post, rfl, hnd, h0, h4, hway, hnx⟩
  · exact near_none w k _
  · obtain ⟨i, b, hf⟩ : ∃ i b, findL k (m.map (·.1)) = (i, b) := ⟨_, _, rfl⟩
    obtain ⟨hi, hx⟩ := floor_arg (hway.asc ha) hf
    rw [hway.floor (by intro e; rw [e] at h0; simp at h0)]
    exact near_floor hnd.2 h4 h0 k i b hf hi _ hx
theorem near_ok2 {w : World} {k : Sp} {l : List Ent} {x nx : Option Addr} (ha : Asc l)
    (h : (l = [] ∧ x = none ∧ nx = none) ∨ ∃ q m pre post, x = some ⟨q, 0, none⟩ ∧ Nd w 0 q m m.length ∧ 0 < m.length ∧ m.length ≤ 4 ∧ Way k l pre m post ∧ NextAt w nx post) :
    ∃ o post, ceilE k l = o.or post.head? ∧ (∀ y ∈ post, y ∈ l) ∧ NextAt w nx post ∧ ((∃ y ∈ l, y.1 = k) → o = ceilE k l) ∧ (Calls Try.prog 71 #[.pointer x, .agg #[.int .i64 k.br, .int .i64 k.vol, .int .i64 k.blk, .int .u64 k.num], .func (.func 73) #[] #[]] w fun e w' => e = .returned (entV o) ∧ Below w.heap.size w w') := by
  rcases h with ⟨rfl, rfl, rfl⟩ | ⟨q, m, pre, post, rfl, hnd, h0, h4, hway, hnx⟩
  · exact ⟨none, [], rfl, (fun y h => h), .inl ⟨rfl, rfl⟩, fun _ => rfl, near_none w k _⟩
  · obtain ⟨i, b, hf⟩ : ∃ i b, findL k (m.map (·.1)) = (i, b) := ⟨_, _, rfl⟩
    obtain ⟨hi, hx⟩ := ceil_arg (hway.asc ha) hf
    refine ⟨ceilE k m, post, hway.ceil, fun y hy => by rw [hway.cut]; simp [hy], hnx, fun hy => ?_, near_ceil hnd.2 h4 h0 k i b hf hi _ hx⟩
    have h1 := (hasE_iff ha).2 hy
    rw [← hway.has ha, hasE_iff (hway.asc ha)] at h1
    obtain ⟨y, hym, rfl⟩ := h1
    rw [ceil_self (hway.asc ha) hym, ceil_self ha (by rw [hway.cut]; simp [hym])]
set_option maxHeartbeats 3200000 in
set_option maxRecDepth 100000 in
theorem floor_tree {w : World} {p : Option Addr} {l : List Ent} (h : TreeAt w p l) (ha : Asc l) (k : Sp) :
    Calls Try.prog 48 #[.pointer p, .agg #[.int .i64 k.br, .int .i64 k.vol, .int .i64 k.blk, .int .u64 k.num]] w fun e w' => e = .returned (entV (floorE k l)) ∧ Below w.heap.size w w' := by
  have hbw : Below w.heap.size w ((w.alloc (.cells #[.int .i64 k.br, .int .i64 k.vol, .int .i64 k.blk, .int .u64 k.num] 26)).alloc (.cells #[.int .i64 0, .int .i64 0, .int .i64 0, .int .u64 0] 26)) := ((Below.refl _ _).alloc (Nat.le_refl _) _).alloc (by simp) _
  have hre : Blk ((w.alloc (.cells #[.int .i64 k.br, .int .i64 k.vol, .int .i64 k.blk, .int .u64 k.num] 26)).alloc (.cells #[.int .i64 0, .int .i64 0, .int .i64 0, .int .u64 0] 26)) (w.heap.size + 1) #[.int .i64 0, .int .i64 0, .int .i64 0, .int .u64 0] 26 := by
    have := Blk.new (w.alloc (.cells #[.int .i64 k.br, .int .i64 k.vol, .int .i64 k.blk, .int .u64 k.num] 26)) #[.int .i64 0, .int .i64 0, .int .i64 0, .int .u64 0] 26
    rw [World.size_alloc] at this
    exact this
  have hkb : Blk ((w.alloc (.cells #[.int .i64 k.br, .int .i64 k.vol, .int .i64 k.blk, .int .u64 k.num] 26)).alloc (.cells #[.int .i64 0, .int .i64 0, .int .i64 0, .int .u64 0] 26)) w.heap.size #[.int .i64 k.br, .int .i64 k.vol, .int .i64 k.blk, .int .u64 k.num] 26 := (Blk.new w _ _).alloc _
  have HL := Lib.hid (leaf_tree (h.below hbw) ha k)
  have HA := Lib.hid ha
  clear h ha
  go_enter Try.func48, Try.ntmps48
  go_wp2_with fail
  refine HL.out.mono ?_
  generalize (w.alloc (.cells #[.int .i64 k.br, .int .i64 k.vol, .int .i64 k.blk, .int .u64 k.num] 26)).alloc (.cells #[.int .i64 0, .int .i64 0, .int .i64 0, .int .u64 0] 26) = W at *
  rintro e w1 ⟨x, nx, rfl, hb1, hl⟩
  obtain ⟨k0, k1, k2, k3, zk⟩ := box_cells hkb hb1
  have HB1 := Lib.hid (hbw.trans (hb1.mono hbw.size))
  have HN := Lib.hid (near_ok HA.out hl)
  have hr1 := Lib.hid (hre.below hb1 hre.lt)
  clear hl hbw hb1 hkb hre HL
  go_wp2_with fail
  refine HN.out.mono ?_
  rintro e w2 ⟨rfl, hb2⟩
  have HB2 := Lib.hid (HB1.out.trans (hb2.mono HB1.out.size))
  have hr2 := hr1.out.below hb2 hr1.out.lt
  have hzw : w.heap.size ≤ w.heap.size + 1 := Nat.le_succ _
  have y0 := (hr2.cell 0).trans rfl
  have y1 := (hr2.cell 1).trans rfl
  have y2 := (hr2.cell 2).trans rfl
  have y3 := (hr2.cell 3).trans rfl
  have z4 := hr2.frozen 0
  have z5 := hr2.frozen 1
  have z6 := hr2.frozen 2
  have z7 := hr2.frozen 3
  clear hb2 hr2 HN k0 k1 k2 k3 zk hr1
  cases hfl : floorE k l with
  | none =>
    unfold entV
    go_wp2_with fail
    refine bodyPost_ret (v := entV none) (by rw [results_ctt rfl]; go_simp <;> rfl) rfl ?_
    exact ⟨by rw [hfl], by first | exact HB2.out | exact (((HB2.out.setCell (p := ⟨w.heap.size + 1, 0, none⟩) hzw _).setCell (p := ⟨w.heap.size + 1, 1, none⟩) hzw _).setCell (p := ⟨w.heap.size + 1, 2, none⟩) hzw _).setCell (p := ⟨w.heap.size + 1, 3, none⟩) hzw _⟩
  | some y =>
    unfold entV
    go_wp2_with fail
    refine bodyPost_ret (v := entV (some y)) (by rw [results_ctt rfl]; go_simp <;> rfl) rfl ?_
    exact ⟨by rw [hfl], by first | exact HB2.out | exact (((HB2.out.setCell (p := ⟨w.heap.size + 1, 0, none⟩) hzw _).setCell (p := ⟨w.heap.size + 1, 1, none⟩) hzw _).setCell (p := ⟨w.heap.size + 1, 2, none⟩) hzw _).setCell (p := ⟨w.heap.size + 1, 3, none⟩) hzw _⟩
theorem next_least {w : World} {nx : Option Addr} {post : List Ent} (h : NextAt w nx post) : (nx = none ∧ post = []) ∨ ∃ q y, nx = some ⟨q, 0, none⟩ ∧ post.head? = some y ∧ ∀ X, Below w.heap.size w X →
    Calls Try.prog 25 #[.pointer (some ⟨q, 0, none⟩)] X fun e w' => e = .returned (.tuple #[.agg #[.int .i64 y.1.br, .int .i64 y.1.vol, .int .i64 y.1.blk, .int .u64 y.1.num], .bool true]) ∧ Below X.heap.size X w' := by
  rcases h with h | ⟨h, q, n, m, post', e, hnd, h0, h4, rfl⟩
  · exact .inl h
  · have hne := hnd.ne h0
    obtain ⟨ks, hk, hl, hh⟩ := hnd.keys
    cases m with
    | nil => exact absurd rfl hne
    | cons y t =>
      refine .inr ⟨q, y, e, rfl, fun X hX => ?_⟩
      have := least_at (hk.below hX) (by omega) (by omega)
      rw [hh (by omega)] at this
      exact this
set_option maxHeartbeats 3200000 in
set_option maxRecDepth 100000 in
theorem ceil_tree {w : World} {p : Option Addr} {l : List Ent} (h : TreeAt w p l) (ha : Asc l) (k : Sp) :
    Calls Try.prog 49 #[.pointer p, .agg #[.int .i64 k.br, .int .i64 k.vol, .int .i64 k.blk, .int .u64 k.num]] w fun e w' => e = .returned (entV (ceilE k l)) ∧ Below w.heap.size w w' := by
  have hbw : Below w.heap.size w ((w.alloc (.cells #[.int .i64 k.br, .int .i64 k.vol, .int .i64 k.blk, .int .u64 k.num] 26)).alloc (.cells #[.int .i64 0, .int .i64 0, .int .i64 0, .int .u64 0] 26)) := ((Below.refl _ _).alloc (Nat.le_refl _) _).alloc (by simp) _
  have hre : Blk ((w.alloc (.cells #[.int .i64 k.br, .int .i64 k.vol, .int .i64 k.blk, .int .u64 k.num] 26)).alloc (.cells #[.int .i64 0, .int .i64 0, .int .i64 0, .int .u64 0] 26)) (w.heap.size + 1) #[.int .i64 0, .int .i64 0, .int .i64 0, .int .u64 0] 26 := by
    have := Blk.new (w.alloc (.cells #[.int .i64 k.br, .int .i64 k.vol, .int .i64 k.blk, .int .u64 k.num] 26)) #[.int .i64 0, .int .i64 0, .int .i64 0, .int .u64 0] 26
    rw [World.size_alloc] at this
    exact this
  have hkb : Blk ((w.alloc (.cells #[.int .i64 k.br, .int .i64 k.vol, .int .i64 k.blk, .int .u64 k.num] 26)).alloc (.cells #[.int .i64 0, .int .i64 0, .int .i64 0, .int .u64 0] 26)) w.heap.size #[.int .i64 k.br, .int .i64 k.vol, .int .i64 k.blk, .int .u64 k.num] 26 := (Blk.new w _ _).alloc _
  have HL := Lib.hid (leaf_tree (h.below hbw) ha k)
  have HA := Lib.hid ha
  have HT := Lib.hid h
  clear h ha
  go_enter Try.func49, Try.ntmps49
  go_wp2_with fail
  refine HL.out.mono ?_
  generalize (w.alloc (.cells #[.int .i64 k.br, .int .i64 k.vol, .int .i64 k.blk, .int .u64 k.num] 26)).alloc (.cells #[.int .i64 0, .int .i64 0, .int .i64 0, .int .u64 0] 26) = W at *
  rintro e w1 ⟨x, nx, rfl, hb1, hl⟩
  obtain ⟨k0, k1, k2, k3, zk⟩ := box_cells hkb hb1
  have HB1 := Lib.hid (hbw.trans (hb1.mono hbw.size))
  obtain ⟨o, post, ho, hpo, hnx, hfi, hnear⟩ := near_ok2 HA.out hl
  have HN := Lib.hid hnear
  have HO := Lib.hid ho
  have HPo := Lib.hid hpo
  have HNx := Lib.hid hnx
  have hr1 := Lib.hid (hre.below hb1 hre.lt)
  clear hl hbw hb1 hkb hre HL ho hpo hnx hfi hnear
  go_wp2_with fail
  refine HN.out.mono ?_
  rintro e w2 ⟨rfl, hb2⟩
  have HB2 := Lib.hid (HB1.out.trans (hb2.mono HB1.out.size))
  have HR2 := Lib.hid (hr1.out.below hb2 hr1.out.lt)
  have HNx2 := Lib.hid (HNx.out.below hb2)
  have hzw : w.heap.size ≤ w.heap.size + 1 := Nat.le_succ _
  clear hb2 HN k0 k1 k2 k3 zk hr1 HNx
  cases o with
  | some y =>
    unfold entV
    have hy : ceilE k l = some y := by rw [HO.out]; rfl
    have HY := Lib.hid hy
    have hr2 := HR2.out.alloc (.cells #[.int .i64 y.1.br, .int .i64 y.1.vol, .int .i64 y.1.blk, .int .u64 y.1.num] 26)
    have y0 := (HR2.out.cell 0).trans rfl
    have y1 := (HR2.out.cell 1).trans rfl
    have y2 := (HR2.out.cell 2).trans rfl
    have y3 := (HR2.out.cell 3).trans rfl
    have z4 := HR2.out.frozen 0
    have z5 := HR2.out.frozen 1
    have z6 := HR2.out.frozen 2
    have z7 := HR2.out.frozen 3
    have l1 := HR2.out.lt
    have hbe := HB2.out.alloc HB2.out.size (.cells #[.int .i64 y.1.br, .int .i64 y.1.vol, .int .i64 y.1.blk, .int .u64 y.1.num] 26)
    have HBe := Lib.hid hbe
    clear hr2 hbe hy
    go_wp2_with fail
    refine bodyPost_ret (v := entV (some y)) (by rw [results_ctt rfl]; go_simp <;> rfl) rfl ?_
    exact ⟨by rw [HY.out], ((((HB2.out.setCell (p := ⟨w.heap.size + 1, 0, none⟩) hzw _).setCell (p := ⟨w.heap.size + 1, 1, none⟩) hzw _).setCell (p := ⟨w.heap.size + 1, 2, none⟩) hzw _).setCell (p := ⟨w.heap.size + 1, 3, none⟩) hzw _).alloc (by simp only [World.size_setCell]; exact HB2.out.size) _⟩
  | none =>
    unfold entV
    have hw2 : w.heap.size ≤ w2.heap.size := HB2.out.size
    rcases next_least HNx2.out with ⟨rfl, rfl⟩ | ⟨q, y, rfl, hpy, hle⟩
    · have hy : ceilE k l = none := by rw [HO.out]; rfl
      have HY := Lib.hid hy
      have y0 := (HR2.out.cell 0).trans rfl
      have y1 := (HR2.out.cell 1).trans rfl
      have y2 := (HR2.out.cell 2).trans rfl
      have y3 := (HR2.out.cell 3).trans rfl
      have z4 := HR2.out.frozen 0
      have z5 := HR2.out.frozen 1
      have z6 := HR2.out.frozen 2
      have z7 := HR2.out.frozen 3
      have l1 := HR2.out.lt
      clear hy
      go_wp2_with fail
      refine bodyPost_ret (v := entV none) (by rw [results_ctt rfl]; go_simp <;> rfl) rfl ?_
      exact ⟨by rw [HY.out], ((((HB2.out.setCell (p := ⟨w.heap.size + 1, 0, none⟩) hzw _).setCell (p := ⟨w.heap.size + 1, 1, none⟩) hzw _).setCell (p := ⟨w.heap.size + 1, 2, none⟩) hzw _).setCell (p := ⟨w.heap.size + 1, 3, none⟩) hzw _).alloc (by simp only [World.size_setCell]; exact HB2.out.size) _⟩
    · have hyl : y ∈ l := HPo.out y (List.mem_of_head? hpy)
      have hy : ceilE k l = some y := by rw [HO.out, hpy]; rfl
      have HY := Lib.hid hy
      have hbz : Below w2.heap.size w2 (w2.alloc (.cells #[.int .i64 0, .int .i64 0, .int .i64 0, .int .u64 0] 26)) := (Below.refl _ _).alloc (Nat.le_refl _) _
      have HLe := Lib.hid (hle _ hbz)
      have HR3 := Lib.hid (HR2.out.alloc (.cells #[.int .i64 0, .int .i64 0, .int .i64 0, .int .u64 0] 26))
      have HB3 := Lib.hid (HB2.out.trans (hbz.mono HB2.out.size))
      have HYl := Lib.hid hyl
      clear hle hbz hy hpy hyl HR2 HO HPo HNx2
      go_wp2_with fail
      refine HLe.out.mono ?_
      generalize w2.alloc (.cells #[.int .i64 0, .int .i64 0, .int .i64 0, .int .u64 0] 26) = W2 at *
      rintro e w3 ⟨rfl, hb3⟩
      have hbl : Below w3.heap.size w3 (w3.alloc (.cells #[.int .i64 y.1.br, .int .i64 y.1.vol, .int .i64 y.1.blk, .int .u64 y.1.num] 26)) := (Below.refl _ _).alloc (Nat.le_refl _) _
      have HB4 := Lib.hid ((HB3.out.trans (hb3.mono HB3.out.size)).trans (hbl.mono (Nat.le_trans HB3.out.size hb3.size)))
      have HR4 := Lib.hid ((HR3.out.below hb3 HR3.out.lt).alloc (.cells #[.int .i64 y.1.br, .int .i64 y.1.vol, .int .i64 y.1.blk, .int .u64 y.1.num] 26))
      have hkb := Blk.new w3 #[.int .i64 y.1.br, .int .i64 y.1.vol, .int .i64 y.1.blk, .int .u64 y.1.num] 26
      have HL2 := Lib.hid (leaf_tree (HT.out.below HB4.out) HA.out y.1)
      clear hb3 hbl HB3 HR3 HLe
      go_wp2_with fail
      refine HL2.out.mono ?_
      generalize w3.alloc (.cells #[.int .i64 y.1.br, .int .i64 y.1.vol, .int .i64 y.1.blk, .int .u64 y.1.num] 26) = W3 at *
      rintro e w5 ⟨x2, nx2, rfl, hb5, hl5⟩
      obtain ⟨k0, k1, k2, k3, zk⟩ := box_cells hkb hb5
      have HB5 := Lib.hid (HB4.out.trans (hb5.mono HB4.out.size))
      have HR5 := Lib.hid (HR4.out.below hb5 HR4.out.lt)
      obtain ⟨o2, post2, _, _, _, ho2, hnear⟩ := near_ok2 HA.out hl5
      have ho3 : o2 = some y := by rw [ho2 ⟨y, HYl.out, rfl⟩, ceil_self HA.out HYl.out]
      subst ho3
      have HN2 := Lib.hid hnear
      clear hl5 hb5 hkb HL2 ho2 hnear HR4
      go_wp2_with fail
      refine HN2.out.mono ?_
      rintro e w6 ⟨rfl, hb6⟩
      have HB6 := Lib.hid (HB5.out.trans (hb6.mono HB5.out.size))
      have hr6 := HR5.out.below hb6 HR5.out.lt
      have y0 := (hr6.cell 0).trans rfl
      have y1 := (hr6.cell 1).trans rfl
      have y2 := (hr6.cell 2).trans rfl
      have y3 := (hr6.cell 3).trans rfl
      have z4 := hr6.frozen 0
      have z5 := hr6.frozen 1
      have z6 := hr6.frozen 2
      have z7 := hr6.frozen 3
      clear hb6 hr6 HN2 k0 k1 k2 k3 zk HR5
      unfold entV
      go_wp2_with fail
      refine bodyPost_ret (v := entV (some y)) (by rw [results_ctt rfl]; go_simp <;> rfl) rfl ?_
      exact ⟨by rw [HY.out], (((HB6.out.setCell (p := ⟨w.heap.size + 1, 0, none⟩) hzw _).setCell (p := ⟨w.heap.size + 1, 1, none⟩) hzw _).setCell (p := ⟨w.heap.size + 1, 2, none⟩) hzw _).setCell (p := ⟨w.heap.size + 1, 3, none⟩) hzw _⟩
end Go.Proofs.Ytainljbkejafcaa.N

/- Put of a tree. -/
namespace Go.Proofs.Ytainljbkejafcaa.N
open Go.BigFrame Go.RowKit Go.Proofs.YtainljbkejafcaaW.PrintMore Go.Proofs.YtainljbkejafcaaW.PrintWords
set_option linter.unusedVariables false
set_option linter.unusedSimpArgs false
theorem kept_blk {W W' : World} {row : Option Nat} {b : Nat} {cs : Array Value} {T : TypeId} (h : Blk W b cs T) (hg : W.grownBy W' row) (hne : some b ≠ row) : Blk W' b cs T := (hg.block b h.lt hne).trans h
/-- What node.Put left: one node, or two. -/
def PutL (X : World) (l : List Ent) (s : Nat) (ns : List Nat) (ls : List (List Ent)) (h lo n : Nat) : Prop :=
  s < X.heap.size ∧ (∀ j (hj : j < ns.length), X.cell? ⟨s, j, none⟩ = some (.pointer (some ⟨ns[j], 0, none⟩))) ∧ All2 (Kid X h lo) ns ls ∧ ls.flatten = l ∧ (ns.length = 1 ∨ (ns.length = 2 ∧ n = 4)) ∧ 0 < lo ∧ (0 < h → 2 ≤ lo) ∧ lo ≤ 2 ∧ lo = min n 2
/-- The new root's keys as far as j. -/
def PutRel (w1 : World) (nb s : Nat) (hs : List Sp) (i : Value) (X : World) : Prop := ∃ (j : Nat) (A : Option Addr) (c : Nat), i = .int .i64 j ∧ j ≤ 2 ∧ Blk X nb #[.slice A j c, .slice none 0 0, .slice (some ⟨s, 0, none⟩) 2 2] 39 ∧ X.ownsRow (nb + 1) 26 4 (.slice A j c) j (sps (hs.take j)) ∧ nb < X.heap.size ∧ Below nb w1 X
theorem put_endT {w1 X : World} {nb s h c n1 n2 q1 q2 : Nat} {A : Option Addr} {m1 m2 : List Ent} (hb : Blk X nb #[.slice A 2 c, .slice none 0 0, .slice (some ⟨s, 0, none⟩) 2 2] 39) (ho : X.ownsRow (nb + 1) 26 4 (.slice A 2 c) 2 (sps [hd m1, hd m2])) (hX : Below nb w1 X) (hw : w1.heap.size ≤ nb) (hs : s < w1.heap.size)
    (c0 : w1.cell? ⟨s, 0, none⟩ = some (.pointer (some ⟨q1, 0, none⟩))) (c1 : w1.cell? ⟨s, 1, none⟩ = some (.pointer (some ⟨q2, 0, none⟩))) (k1 : Nd w1 h q1 m1 n1) (k2 : Nd w1 h q2 m2 n2) (a1 : 2 ≤ n1 ∧ n1 ≤ 4) (a2 : 2 ≤ n2 ∧ n2 ≤ 4) : Nd X (h + 1) nb (m1 ++ m2) 2 := by
  have hX' : Below w1.heap.size w1 X := hX.mono hw
  obtain ⟨A', c', e, h1, h2, hsp⟩ := spots_own (l := [hd m1, hd m2]) ho
  cases e
  refine nd_succ.2 ⟨[q1, q2], [m1, m2], rfl, by simp, ⟨A, c, some ⟨s, 0, none⟩, 2, hb, hsp, fun _ => ⟨s, 0, rfl, Nat.lt_of_lt_of_le hs hX'.size, fun j hj => ?_⟩, h1, h2, by simp, by simp [maxLen], rfl, by simp⟩, ⟨n1, a1.1, a1.2, k1.below hX'⟩, ⟨n2, a2.1, a2.2, k2.below hX'⟩, trivial⟩
  have hj' : j < 2 := by simpa using hj
  rw [Nat.zero_add]
  match j, hj' with
  | 0, _ => exact bel_cell hX' hs c0
  | 1, _ => exact bel_cell hX' hs c1
set_option maxHeartbeats 6400000 in
set_option maxRecDepth 100000 in
theorem put_tree {w : World} {p : Option Addr} {l : List Ent} (h : TreeAt w p l) (ha : Asc l) (hl : l.length ≤ 1000) (k : Sp) (v : Int) :
    Calls Try.prog 43 #[.pointer p, .agg #[.int .i64 k.br, .int .i64 k.vol, .int .i64 k.blk, .int .u64 k.num], .int .u64 v] w fun e w' => ∃ p', e = .returned (.pointer p') ∧ TreeAt w' p' (insE k v l) ∧ Below w.heap.size w w' := by
  obtain ⟨r, hr, hroot⟩ := root_tree h
  have hbw : Below w.heap.size w (w.alloc (.cells #[.int .i64 k.br, .int .i64 k.vol, .int .i64 k.blk, .int .u64 k.num] 26)) := (Below.refl _ _).alloc (Nat.le_refl _) _
  have hbox := heap_alloc_new w (.cells #[.int .i64 k.br, .int .i64 k.vol, .int .i64 k.blk, .int .u64 k.num] 26)
  have HRo := Lib.hid hroot
  have HP : Hid (∀ X, Below w.heap.size w X → Calls Try.prog 33 #[.pointer r, .agg #[.int .i64 k.br, .int .i64 k.vol, .int .i64 k.blk, .int .u64 k.num], .int .u64 v] X (PutRoot X (insE k v l))) := fun X hX => put_root (hr.below hX) ha k v
  have HLe := Lib.hid (len_tree h)
  have HG : Hid (∀ X, Below w.heap.size w X → Calls Try.prog 45 #[.pointer p, .agg #[.int .i64 k.br, .int .i64 k.vol, .int .i64 k.blk, .int .u64 k.num]] X fun e w' => e = .returned (.tuple #[.int .u64 (valE k l), .bool (hasE k l)]) ∧ Below X.heap.size X w') := fun X hX => get_tree (h.below hX) ha k
  have HLn := Lib.hid (insE_length (k := k) (v := v) (l := l))
  have HL := Lib.hid hl
  clear h ha hl hr hroot
  go_enter Try.func43, Try.ntmps43
  go_wp2_with fail
  refine (HLe.out _ hbw).mono ?_
  rintro e w1 ⟨rfl, rfl⟩
  obtain ⟨k0, k1, k2, k3, zk⟩ := box_cells hbox (Below.refl _ _)
  have HG1 := Lib.hid (HG.out _ hbw)
  generalize w.alloc (.cells #[.int .i64 k.br, .int .i64 k.vol, .int .i64 k.blk, .int .u64 k.num] 26) = W at *
  have HBw := Lib.hid hbw
  have HBox := Lib.hid hbox
  clear hbox hbw HLe HG
  go_wp2_with fail
  refine HG1.out.mono ?_
  rintro e w1 ⟨rfl, hb1⟩
  have HB1 := Lib.hid (HBw.out.trans (hb1.mono HBw.out.size))
  have HBx1 : Hid (w1.heap[w.heap.size]? = _) := (hb1.block _ zk).trans HBox.out
  clear hb1 k0 k1 k2 k3 zk HG1 HBw
  go_upto_if 25 with fail
  go_cut [7, 9] from 16 (fun nv ov X => nv = .int .i64 ((insE k v l).length : Nat) ∧ X = w1)
  case first =>
    have e1 : (l.length : Int) ≤ 1000 := by have := HL.out; omega
    cases hh : hasE k l with
    | true =>
      have hln := HLn.out
      rw [hh] at hln
      simp only [if_true] at hln
      have HLl := Lib.hid hln
      clear hln hh HLn
      go_wp2_with fail
      all_goals go_meet
      all_goals exact ⟨by rw [HLl.out], rfl⟩
    | false =>
      have hln := HLn.out
      rw [hh] at hln
      simp only [Bool.false_eq_true, if_false] at hln
      have HLl := Lib.hid hln
      clear hln hh HLn
      go_wp2_with fail
      all_goals go_meet
      all_goals exact ⟨by rw [HLl.out]; simp, rfl⟩
  case rest =>
    obtain ⟨rfl, rfl⟩ := hcut
    have hbd : Below wc.heap.size wc (wc.drewN 1) := bel_drewN _ _ (n := 1)
    have HBd := Lib.hid (HB1.out.trans (hbd.mono HB1.out.size))
    have HRo1 := Lib.hid (HRo.out _ HBd.out)
    have HP1 := Lib.hid (HP.out _ HBd.out)
    obtain ⟨k0, k1, k2, k3, zk⟩ := box_cells HBx1.out (Below.refl _ _)
    obtain ⟨NL, hNL⟩ : ∃ NL, (insE k v l).length = NL := ⟨_, rfl⟩
    rw [hNL]
    have HNL := Lib.hid hNL
    clear hNL HRo HP hbd HLn
    go_upto_region 5 with fail
    go_cut [10] (fun lv X => Below w.heap.size w X ∧ ∃ s ns ls h lo n, lv = .slice (some ⟨s, 0, none⟩) ns.length ns.length ∧ PutL X (insE k v l) s ns ls h lo n)
    case first =>
      go_region_with (first | (go_at_call 37; refine HRo1.out.mono ?_; rintro e w1 ⟨rfl, rfl⟩) | (go_at_call 33; refine HP1.out.mono ?_; rintro e w1 ⟨h, lo, n, had, ⟨s, ns, ls, rfl, t1, t2, t3, t4, t5, t6, t7⟩, l0, l2, l3, l4⟩))
      all_goals go_wp2_with fail
      all_goals go_meet
      all_goals exact ⟨HBd.out.trans (t7.mono HBd.out.size), s, ns, ls, h, lo, n, rfl, t2, t3, t4, t5, by rcases t6 with t6 | t6; exact .inl t6; exact .inr ⟨t6.1, t6.2.1⟩, l0, l2, l3, l4⟩
    case rest =>
      obtain ⟨hB, s, ns, ls, h, lo, n, rfl, t2, t3, t4, t5, t6, l0, l2, l3, l4⟩ := hcut
      have HB := Lib.hid hB
      clear hB k0 k1 k2 k3 zk HRo1 HP1 HBd HB1 HBx1
      rcases t6 with h1 | ⟨h1, hn4⟩
      · match ns, ls, t4, h1 with
        | [q], [m], t4, _ =>
          have L4 := Lib.hid (And.intro l0 (And.intro l2 l4))
          clear l4 l0 l2 l3
          obtain ⟨x, x1, x2, x3⟩ := t4.1
          have c0 := t3 0 (by simp)
          have HX := Lib.hid x3
          have HT := Lib.hid t5
          have HXx := Lib.hid (And.intro x1 x2)
          clear t3 x3 t5 t4 x1 x2
          simp only [List.getElem_cons_zero, List.length_singleton] at c0 ⊢
          go_wp2_with fail
          go_ret
          refine ⟨some ⟨wc.heap.size, 0, none⟩, rfl, ?_, HB.out.alloc HB.out.size _⟩
          rw [← HNL.out]
          exact TreeAt.new (.inr ⟨q, h, x, rfl, by rw [← HT.out]; simpa using HX.out, by have := HXx.out; have := L4.out; omega, fun hh => by have := L4.out.2.1 hh; have := HXx.out; omega, HXx.out.2⟩)
      · match ns, ls, t4, h1 with
        | [q1, q2], [m1, m2], t4, _ =>
          obtain ⟨⟨x, x1, x2, x3⟩, ⟨y, y1, y2, y3⟩, _⟩ := t4
          have c0 := t3 0 (by simp)
          have c1 := t3 1 (by simp)
          simp only [List.getElem_cons_zero, List.getElem_cons_succ, List.length_cons, List.length_nil] at c0 c1 ⊢
          have hlo : lo = 2 := by omega
          subst hlo
          clear l4 hn4 h1 l0 l3 l2 t3
          have HX := Lib.hid (And.intro x3 (And.intro x1 x2))
          have HY := Lib.hid (And.intro y3 (And.intro y1 y2))
          have HT := Lib.hid t5
          have HK0 := Lib.hid c0
          have HK1 := Lib.hid c1
          have HS := Lib.hid t2
          have hLe : ∀ j (hj : j < 2), Hid (∀ X, Below wc.heap.size wc X → Calls Try.prog 25 #[.pointer (some ⟨[q1, q2][j], 0, none⟩)] X fun e w' => e = .returned (.tuple #[.agg #[.int .i64 [hd m1, hd m2][j].br, .int .i64 [hd m1, hd m2][j].vol, .int .i64 [hd m1, hd m2][j].blk, .int .u64 [hd m1, hd m2][j].num], .bool true]) ∧ Below X.heap.size X w') := fun j hj => fun X hX => by
            match j, hj with
            | 0, _ =>
              obtain ⟨ks, hk, hl, hh⟩ := x3.keys
              have := least_at (hk.below hX) (by omega) (by omega)
              rw [hh (by omega)] at this
              exact this
            | 1, _ =>
              obtain ⟨ks, hk, hl, hh⟩ := y3.keys
              have := least_at (hk.below hX) (by omega) (by omega)
              rw [hh (by omega)] at this
              exact this
          have hcs : ∀ j (hj : j < 2), wc.cell? ⟨s, j, none⟩ = some (.pointer (some ⟨[q1, q2][j], 0, none⟩)) := fun j hj => by
            match j, hj with
            | 0, _ => exact c0
            | 1, _ => exact c1
          have HLe := Lib.hid hLe
          have HCs := Lib.hid hcs
          clear x3 x1 x2 y3 y1 y2 t5 c0 c1 hLe hcs
          obtain ⟨w1, hw1⟩ : ∃ X, X = wc := ⟨wc, rfl⟩
          subst hw1
          obtain ⟨nb, hnb⟩ : ∃ nb, w1.heap.size = nb := ⟨_, rfl⟩
          have HNb := Lib.hid hnb
          go_upto_block 0 with fail
          have hbl := Blk.new w1 #[.slice none 0 0, .slice none 0 0, .slice (some ⟨s, 0, none⟩) 2 2] 39
          have hbe : Below nb w1 (w1.alloc (.cells #[.slice none 0 0, .slice none 0 0, .slice (some ⟨s, 0, none⟩) 2 2] 39)) := (Below.refl _ _).alloc (by omega) _
          have hsz : (w1.alloc (.cells #[.slice none 0 0, .slice none 0 0, .slice (some ⟨s, 0, none⟩) 2 2] 39)).heap.size = nb + 1 := by rw [World.size_alloc, hnb]
          rw [hnb] at hbl
          try rw [hnb]
          generalize w1.alloc (.cells #[.slice none 0 0, .slice none 0 0, .slice (some ⟨s, 0, none⟩) 2 2] 39) = W4 at *
          clear hnb t2
          go_wp2_with fail
          go_loopw [47] (fun i X => PutRel w1 nb s [hd m1, hd m2] i X) (fun i _ => (2 - intOf i).toNat)
          case atStart => exact ⟨0, none, 0, rfl, by omega, hbl, World.ownsRow_nil _ _ _ _, by omega, hbe⟩
          case round =>
            obtain ⟨j, A, c, rfl, hj, hBk, hown, hnz, hbr⟩ := hrel
            by_cases hj2 : j < 2
            · have e1 : (j : Int) < 2 := by omega
              have e0 : (0 : Int) ≤ (j : Int) := by omega
              have hpt := bel_cell (hbr.mono (by have := HNb.out; omega)) HS.out (HCs.out j hj2)
              have HLj := Lib.hid ((HLe.out j hj2).out wr (hbr.mono (by have := HNb.out; omega)))
              have hz0 : [hd m1, hd m2][j] = [hd m1, hd m2][j] := rfl
              obtain ⟨z, hz⟩ : ∃ z, [hd m1, hd m2][j] = z := ⟨_, rfl⟩
              have HZ : Hid ([hd m1, hd m2][j] = z) := hz
              rw [hz] at HLj
              obtain ⟨q, hq⟩ : ∃ q, [q1, q2][j] = q := ⟨_, rfl⟩
              rw [hq] at HLj hpt
              have HBr := Lib.hid hbr
              have HBk := Lib.hid hBk
              have HO := Lib.hid hown
              clear hbr hBk hown hz hq hz0
              go_wp2_with fail
              refine HLj.out.mono ?_
              rintro e w5 ⟨rfl, hb5⟩
              have hb6 : Below wr.heap.size wr (w5.alloc (.cells #[.int .i64 z.br, .int .i64 z.vol, .int .i64 z.blk, .int .u64 z.num] 26)) := hb5.alloc hb5.size _
              have hz5 : Blk (w5.alloc (.cells #[.int .i64 z.br, .int .i64 z.vol, .int .i64 z.blk, .int .u64 z.num] 26)) w5.heap.size #[.int .i64 z.br, .int .i64 z.vol, .int .i64 z.blk, .int .u64 z.num] 26 := Blk.new w5 _ _
              clear HLj hb5
              go_upto_region 13 with fail
              generalize w5.alloc (.cells #[.int .i64 z.br, .int .i64 z.vol, .int .i64 z.blk, .int .u64 z.num] 26) = W5 at *
              obtain ⟨zb, hzb⟩ : ∃ zb, w5.heap.size = zb := ⟨_, rfl⟩
              rw [hzb] at hz5 ⊢
              clear hzb
              have hO5 : W5.ownsRow (nb + 1) 26 4 (.slice A j c) j (sps ([hd m1, hd m2].take j)) := own_stay HO.out (fun q hq => hb6.block q (own_lt HO.out q hq))
              have hB5 := HBk.out.below hb6 hnz
              have hBe5 : Below nb w1 W5 := HBr.out.trans (hb6.mono (Nat.le_of_lt hnz))
              have lc0 : W5.cell? ⟨nb, 0, none⟩ = some (.slice A j c) := (hB5.cell 0).trans rfl
              have s0 : W5.cell? ⟨zb, 0, none⟩ = some (.int .i64 z.br) := (hz5.cell 0).trans rfl
              have s1 : W5.cell? ⟨zb, 1, none⟩ = some (.int .i64 z.vol) := (hz5.cell 1).trans rfl
              have s2 : W5.cell? ⟨zb, 2, none⟩ = some (.int .i64 z.blk) := (hz5.cell 2).trans rfl
              have s3 : W5.cell? ⟨zb, 3, none⟩ = some (.int .u64 z.num) := (hz5.cell 3).trans rfl
              have hnz5 : nb < W5.heap.size := Nat.lt_of_lt_of_le hnz hb6.size
              have held : ∀ X, Below W5.heap.size W5 X → (fun w' => w'.cell? ⟨nb, 0, none⟩ = some (.slice A j c) ∧ w'.cell? ⟨zb, 0, none⟩ = some (.int .i64 z.br) ∧ w'.cell? ⟨zb, 1, none⟩ = some (.int .i64 z.vol) ∧ w'.cell? ⟨zb, 2, none⟩ = some (.int .i64 z.blk) ∧ w'.cell? ⟨zb, 3, none⟩ = some (.int .u64 z.num)) X := fun X hX => ⟨bel_cell hX (World.block_lt_of_cell? _ _ lc0) lc0, bel_cell hX (World.block_lt_of_cell? _ _ s0) s0, bel_cell hX (World.block_lt_of_cell? _ _ s1) s1, bel_cell hX (World.block_lt_of_cell? _ _ s2) s2, bel_cell hX (World.block_lt_of_cell? _ _ s3) s3⟩
              have hb0 : Below W5.heap.size W5 W5.drew := bel_drewN _ _ (n := 1)
              refine Z_start [7, 10] (fun w' => w'.cell? ⟨nb, 0, none⟩ = some (.slice A j c) ∧ w'.cell? ⟨zb, 0, none⟩ = some (.int .i64 z.br) ∧ w'.cell? ⟨zb, 1, none⟩ = some (.int .i64 z.vol) ∧ w'.cell? ⟨zb, 2, none⟩ = some (.int .i64 z.blk) ∧ w'.cell? ⟨zb, 3, none⟩ = some (.int .u64 z.num)) (by kernel_rfl) ?_
              generalize World.drew W5 = X0 at *
              refine Z_free (i := 0) (v := ?_) rfl (by kernel_rfl) (by kernel_rfl) (by kernel_rfl) (by kernel_rfl) (fun _ _ _ h => h) (Or.inl ⟨by rfl, ?_⟩) (fun _ => held _ hb0) ?_
              rotate_left
              · (intro w' hSw; (try dsimp only at hSw); go_simp <;> (with_reducible rfl))
              try simp only [Act.put, List.setIfInBounds_toArray, List.set_cons_zero, List.set_cons_succ]
              refine Z_free (i := 1) (v := ?_) rfl (by kernel_rfl) (by kernel_rfl) (by kernel_rfl) (by kernel_rfl) (fun _ _ _ h => h) (Or.inl ⟨by rfl, ?_⟩) (fun _ => held _ hb0) ?_
              rotate_left
              · (intro w' hSw; (try dsimp only at hSw); go_simp <;> (with_reducible rfl))
              try simp only [Act.put, List.setIfInBounds_toArray, List.set_cons_zero, List.set_cons_succ]
              refine Z_take (i := 2) (v := ?_) [[4, 3, 2], [2]] rfl (by kernel_rfl) (by kernel_rfl) (by kernel_rfl) (by kernel_rfl) (by kernel_rfl) (fun _ _ _ h => h) (Or.inl ⟨by rfl, ?_⟩) (held _ hb0) ?_
              rotate_left
              · (intro w' hSw; (try dsimp only at hSw); go_simp <;> (with_reducible rfl))
              try simp only [Act.put, List.setIfInBounds_toArray, List.set_cons_zero, List.set_cons_succ]
              refine Z_take (i := 3) (v := ?_) [[4, 3], [3]] rfl (by kernel_rfl) (by kernel_rfl) (by kernel_rfl) (by kernel_rfl) (by kernel_rfl) (fun _ _ _ h => h) (Or.inl ⟨by rfl, ?_⟩) (held _ hb0) ?_
              rotate_left
              · (intro w' hSw; (try dsimp only at hSw); go_simp <;> (with_reducible rfl))
              try simp only [Act.put, List.setIfInBounds_toArray, List.set_cons_zero, List.set_cons_succ]
              refine Z_take (i := 4) (v := ?_) [[4], [4]] rfl (by kernel_rfl) (by kernel_rfl) (by kernel_rfl) (by kernel_rfl) (by kernel_rfl) (fun _ _ _ h => h) (Or.inl ⟨by rfl, ?_⟩) (held _ hb0) ?_
              rotate_left
              · (intro w' hSw; (try dsimp only at hSw); go_simp <;> (with_reducible rfl))
              try simp only [Act.put, List.setIfInBounds_toArray, List.set_cons_zero, List.set_cons_succ]
              refine Z_take (i := 5) (v := ?_) [[6, 5], [5]] rfl (by kernel_rfl) (by kernel_rfl) (by kernel_rfl) (by kernel_rfl) (by kernel_rfl) (fun _ _ _ h => h) (Or.inl ⟨by rfl, ?_⟩) (held _ hb0) ?_
              rotate_left
              · (intro w' hSw; (try dsimp only at hSw); go_simp <;> (with_reducible rfl))
              try simp only [Act.put, List.setIfInBounds_toArray, List.set_cons_zero, List.set_cons_succ]
              refine Z_one (i := 6) rfl (by kernel_rfl) (by rfl) (fun K hK => ?_)
              go_simp
              have hb1 : Below W5.heap.size W5 (World.alloc X0 (.cells #[.int .i64 z.br, .int .i64 z.vol, .int .i64 z.blk, .int .u64 z.num] 26)) := hb0.alloc hb0.size _
              have hsn := spot_new X0 z
              generalize hX1 : World.alloc X0 (.cells #[.int .i64 z.br, .int .i64 z.vol, .int .i64 z.blk, .int .u64 z.num] 26) = X1 at hb1 hsn ⊢
              obtain ⟨Z1, hZ1⟩ : ∃ Z, Z = X0.heap.size := ⟨_, rfl⟩
              rw [← hZ1] at hsn ⊢
              clear hX1 hZ1
              refine hK.out _ _ (fun _ => held _ hb1) ?_
              clear hK K
              try simp only [Act.put, List.setIfInBounds_toArray, List.set_cons_zero, List.set_cons_succ]
              refine Z_one (i := 7) rfl (by kernel_rfl) (by rfl) (fun K hK => ?_)
              refine app_S (.tmp 60) (.tmp 62) rfl (nb + 1) (.slice A j c) j ([hd m1, hd m2].take j) (by rfl) (own_stay hO5 (fun q hq => hb1.block q (own_lt hO5 q hq))) _ 1 _ [z] (by rfl) rfl hsn (fun e => by cases e) (j + 1) (by omega) (by omega) (Nat.le_trans hnz5 hb1.size) ?_
              intro A2 c2 X2 ho2 hg2 ha2 hc2
              have hP2 : Blk X2 nb #[.slice A j c, .slice none 0 0, .slice (some ⟨s, 0, none⟩) 2 2] 39 := kept_blk (hB5.below hb1 hnz5) hg2 (fun e => by have := own_ge hO5 nb e.symm; omega)
              refine hK.out _ _ (fun h => absurd h (none_of_not (by kernel_rfl))) ?_
              clear hK K
              try simp only [Act.put, List.setIfInBounds_toArray, List.set_cons_zero, List.set_cons_succ]
              refine Z_one (i := 8) rfl (by kernel_rfl) (by rfl) (fun K hK => ?_)
              go_simp
              refine hK.out _ _ (fun h => absurd h (none_of_not (by kernel_rfl))) ?_
              clear hK K
              try simp only [Act.put, List.setIfInBounds_toArray, List.set_cons_zero, List.set_cons_succ]
              refine Z_one (i := 9) rfl (by kernel_rfl) (by rfl) (fun K hK => ?_)
              go_simp
              refine hK.out _ _ (fun h => absurd h (none_of_not (by kernel_rfl))) ?_
              clear hK K
              try simp only [Act.put, List.setIfInBounds_toArray, List.set_cons_zero, List.set_cons_succ]
              refine Z_one (i := 10) rfl (by kernel_rfl) (by rfl) (fun K hK => ?_)
              have y0 : X2.cell? ⟨nb, 0, none⟩ = some (.slice A j c) := (hP2.cell 0).trans rfl
              have y1 := hP2.frozen 0
              go_simp
              clear y0 y1
              refine hK.out _ _ (fun h => absurd h (none_of_not (by kernel_rfl))) ?_
              clear hK K
              try simp only [Act.put, List.setIfInBounds_toArray, List.set_cons_zero, List.set_cons_succ]
              refine Z_done (by kernel_rfl) ?_ _
              go_wp2_with fail
              go_roundw
              case rel =>
                have hne : ∀ q, (Value.slice A2 (j + 1) c2).ownBlock = some q → q ≠ nb := fun q hq => by have := own_ge ho2 q hq; omega
                have hset := own_stay ho2 (w' := X2.setCell ⟨nb, 0, none⟩ (.slice A2 (j + 1) c2)) (fun q hq => Below.heap_setCell X2 ⟨nb, 0, none⟩ _ q (hne q hq))
                have hrel : PutRel w1 nb s [hd m1, hd m2] (.int .i64 ((j : Int) + 1)) (X2.setCell ⟨nb, 0, none⟩ (.slice A2 (j + 1) c2)) := by
                  refine ⟨j + 1, A2, c2, by simp, hj2, hP2.set (o := 0) _, ?_, by simpa using hP2.lt, ?_⟩
                  · rw [List.take_succ_eq_append_getElem (by simpa using hj2), HZ.out]
                    exact hset
                  · exact ((hBe5.trans (hb1.mono (Nat.le_of_lt hnz5))).trans (hc2.mono (Nat.le_succ _))).setCell (p := ⟨nb, 0, none⟩) (Nat.le_refl _) _
                first | exact hrel | exact ⟨_, _, _, _, hrel, rfl, rfl, rfl, rfl⟩
              case measure => (simp [intOf] <;> omega)
            · obtain rfl : j = 2 := by omega
              have HO := Lib.hid hown
              have HBk := Lib.hid hBk
              have HBr := Lib.hid hbr
              clear hown hBk hbr
              go_wp2_with fail
              go_ret
              have hwn : w1.heap.size ≤ nb := by have := HNb.out; omega
              refine ⟨some ⟨wr.heap.size, 0, none⟩, rfl, ?_, (HB.out.trans (HBr.out.mono (Nat.le_trans HB.out.size hwn))).alloc (by have := HB.out.size; have := HBr.out.size; omega) _⟩
              rw [← HNL.out]
              refine TreeAt.new (.inr ⟨nb, h + 1, 2, rfl, ?_, by omega, fun _ => by omega, by omega⟩)
              rw [← HT.out]
              simpa using put_endT HBk.out HO.out HBr.out hwn HS.out HK0.out HK1.out HX.out.1 HY.out.1 HX.out.2 HY.out.2
end Go.Proofs.Ytainljbkejafcaa.N

/- Height and Looked of a tree; Del. -/
namespace Go.Proofs.Ytainljbkejafcaa.N
open Go.BigFrame Go.RowKit Go.Proofs.YtainljbkejafcaaW.PrintMore Go.Proofs.YtainljbkejafcaaW.PrintWords
set_option linter.unusedVariables false
set_option linter.unusedSimpArgs false
theorem all2_tall2 {w : World} {h : Nat} (ih : ∀ {p n : Nat} {l : List Ent}, Nd w h p l n → 2 ≤ n → 2 ^ (h + 1) ≤ l.length) : ∀ {qs : List Nat} {ls : List (List Ent)}, All2 (Kid w h 2) qs ls → ls.length * 2 ^ (h + 1) ≤ ls.flatten.length
  | [], [], _ => by simp
  | q :: qs, l :: ls, hk => by
    obtain ⟨⟨s, s1, s2, s3⟩, ht⟩ := hk
    have a := ih s3 s1
    have b := all2_tall2 (fun {p n l} => @ih p n l) ht
    rw [List.flatten_cons, List.length_append, List.length_cons, Nat.succ_mul]
    omega
  | [], _ :: _, hk => hk.elim
  | _ :: _, [], hk => hk.elim
theorem nd_tall2 {w : World} : ∀ {h p n : Nat} {l : List Ent}, Nd w h p l n → 2 ≤ n → 2 ^ (h + 1) ≤ l.length
  | 0, p, n, l, hn, h0 => by have := hn.1; simp; omega
  | h + 1, p, n, l, hn, h2 => by
    obtain ⟨qs, ls, a, b, c, d⟩ := nd_succ.1 hn
    have hs := all2_tall2 (fun {p n l} (x : Nd w h p l n) y => nd_tall2 x y) d
    have := d.length
    have hm : 2 * 2 ^ (h + 1) ≤ ls.length * 2 ^ (h + 1) := Nat.mul_le_mul_right _ (by omega)
    rw [b, Nat.pow_succ]
    omega
/-- How many nodes stand on the way down. -/
def HiOf (w : World) (r : Option Addr) (H : Nat) : Prop := (r = none ∧ H = 0) ∨ ∃ q h n m, r = some ⟨q, 0, none⟩ ∧ Nd w h q m n ∧ H = h + 1
theorem root_hi {w : World} {r : Option Addr} {l : List Ent} (h : RootAt w r l) (ha : Asc l) : ∃ H, HiOf w r H ∧ (l = [] ↔ r = none) ∧ (l.length < 4 → H = min l.length 1) ∧ (4 ≤ l.length → 1 ≤ H ∧ 2 ^ H ≤ l.length) ∧ ∀ H', HiOf w r H' → H' = H := by
  rcases h with ⟨rfl, rfl⟩ | ⟨q, h, n, rfl, hnd, h0, h2, h4⟩
  · exact ⟨0, .inl ⟨rfl, rfl⟩, by simp, fun _ => rfl, (fun h => by simp at h), fun H' hh => by rcases hh with ⟨_, e⟩ | ⟨_, _, _, _, e, _⟩; exact e; cases e⟩
  · have hne := hnd.ne h0
    have h1 : 1 ≤ l.length := by
      cases l with
      | nil => exact absurd rfl hne
      | cons x t => simp
    have hp : 0 < h → 2 ^ (h + 1) ≤ l.length := fun hh => nd_tall2 hnd (h2 hh)
    refine ⟨h + 1, .inr ⟨q, h, n, l, rfl, hnd, rfl⟩, ⟨fun e => absurd e hne, fun e => by cases e⟩, fun hl => ?_, fun hl => ⟨by omega, ?_⟩, fun H' hh => ?_⟩
    · cases h with
      | zero => omega
      | succ h =>
        have := hp (by omega)
        have : 2 ^ 2 ≤ 2 ^ (h + 1 + 1) := Nat.pow_le_pow_right (by decide) (by omega)
        omega
    · cases h with
      | zero => simpa using (by omega : 2 ≤ l.length)
      | succ h => exact hp (by omega)
    · rcases hh with ⟨e, _⟩ | ⟨q', h', n', m', e, hn', e2⟩
      · cases e
      · cases e
        rw [e2, nd_uniq hn' hnd]
def HighRel (w : World) (H : Nat) (nv xv : Value) (X : World) : Prop := ∃ (h q n d : Nat) (m : List Ent), nv = .int .i64 d ∧ xv = .pointer (some ⟨q, 0, none⟩) ∧ Nd X h q m n ∧ 0 < n ∧ (0 < h → 2 ≤ n) ∧ n ≤ 4 ∧ d + h + 1 = H ∧ H ≤ 20 ∧ Below w.heap.size w X
set_option maxHeartbeats 3200000 in
set_option maxRecDepth 100000 in
theorem height_tree {w : World} {p r : Option Addr} {l : List Ent} (hr : RootAt w r l) (hroot : ∀ X, Below w.heap.size w X → Calls Try.prog 37 #[.pointer p] X fun e w' => e = .returned (.pointer r) ∧ X = w') (hl : l.length ≤ 1000) {H : Nat} (hH : HiOf w r H) :
    Calls Try.prog 38 #[.pointer p] w fun e w' => e = .returned (.int .i64 H) ∧ Below w.heap.size w w' := by
  have HRo := Lib.hid (hroot w (Below.refl _ _))
  have HR := Lib.hid hr
  have HHi := Lib.hid hH
  have HL := Lib.hid hl
  clear hl hr hroot hH
  go_enter Try.func38, Try.ntmps38
  go_wp2_with fail
  refine HRo.out.mono ?_
  rintro e w1 ⟨rfl, rfl⟩
  rcases HR.out with ⟨rfl, rfl⟩ | ⟨q, h, n, rfl, hnd, h0, h2, h4⟩
  · have hH0 : H = 0 := by
      rcases HHi.out with ⟨_, e⟩ | ⟨_, _, _, _, e, _⟩
      · exact e
      · cases e
    subst hH0
    have hne : ∀ W, (binOp .neq 36 (.pointer none) (.pointer none)).run Try.prog W = .ok (.bool false) W := fun W => run_neq_pointer_nil W _ none (by rfl)
    go_wp2_with fail
    go_loopw [3, 4] (fun n x X => n = .int .i64 0 ∧ x = .pointer none ∧ X = w) (fun _ _ _ => 0)
    case atStart => exact ⟨rfl, rfl, rfl⟩
    case round =>
      obtain ⟨rfl, rfl, rfl⟩ := hrel
      go_wp2_with fail
      go_ret
      exact ⟨rfl, Below.refl _ _⟩
  · have hHh : H = h + 1 := by
      rcases HHi.out with ⟨e, _⟩ | ⟨q', h', n', m', e, hn', e2⟩
      · cases e
      · cases e
        rw [e2, nd_uniq hn' hnd]
    have hp : 0 < h → 2 ^ (h + 1) ≤ l.length := fun hh => nd_tall2 hnd (h2 hh)
    have hH20 : H ≤ 20 := by
      refine Nat.le_of_not_lt fun hc => ?_
      have : 2 ^ 10 ≤ 2 ^ h := Nat.pow_le_pow_right (by decide) (by omega)
      have h3 : 2 ^ h ≤ l.length := by
        by_cases hh : 0 < h
        · have := hp
          rw [Nat.pow_succ] at this
          omega
        · omega
      have := HL.out
      omega
    clear hp
    have HhH := Lib.hid hHh
    go_wp2_with fail
    go_loopw [3, 4] (fun n x X => HighRel w H n x X) (fun _ x X => hOf X x)
    case atStart => exact ⟨h, q, n, 0, l, rfl, rfl, hnd, h0, h2, h4, by omega, hH20, Below.refl _ _⟩
    case round =>
      obtain ⟨h, q, n, d, m, rfl, rfl, hnd, h0, h2, h4, hdd, hH20, hbr⟩ := hrel
      have HBr := Lib.hid hbr
      have HHf := Lib.hid (hOf_nd hnd)
      have HD := Lib.hid hdd
      have HH2 := Lib.hid hH20
      clear hbr
      cases h with
      | zero =>
        have HLf := Lib.hid hnd.2
        have e1 : (d : Int) ≤ 20 := by omega
        have e0 : (0 : Int) ≤ (d : Int) := by omega
        clear hdd hH20
        go_wp2_with fail
        refine (leaf_yes HLf.out).mono ?_
        rintro e w2 ⟨rfl, rfl⟩
        go_wp2_with fail
        go_ret
        exact ⟨by have := HD.out; show Ending.returned (.int .i64 ((d : Int) + 1)) = Ending.returned (.int .i64 (H : Int)); congr 2; omega, HBr.out⟩
      | succ h =>
        obtain ⟨qs, ls, hn, rfl, hI, hk⟩ := nd_succ.1 hnd
        obtain ⟨A, ca, C, cc, hin⟩ := hI
        have c2 := hin.c2
        obtain ⟨b, off, rfl, hblt, hcs⟩ := hin.kids hin.pos
        have hkid := hcs 0 hin.pos
        rw [Nat.add_zero] at hkid
        have hpos := hin.pos
        have HI : Hid (Inner wr q (ls.map hd) qs) := ⟨_, _, _, _, hin⟩
        have HK := Lib.hid hk
        have hlen := hk.length
        have e1 : (d : Int) ≤ 20 := by omega
        have e0 : (0 : Int) ≤ (d : Int) := by omega
        obtain ⟨N, hN⟩ : ∃ N, qs.length = N + 1 := ⟨qs.length - 1, by omega⟩
        rw [hN] at c2
        have e3 : (0 : Int) < (N : Int) + 1 := by omega
        have HPos := Lib.hid hpos
        generalize hq1 : qs[0]'(_) = q1 at *
        have HQ1 : Hid (∀ h : 0 < qs.length, qs[0]'h = q1) := fun _ => hq1
        have HLe := Lib.hid hlen
        clear hcs hin hk hdd hH20 hN hlen hnd hn hq1 hpos hblt
        go_wp2_with fail
        refine (leaf_no HI.out).mono ?_
        rintro e w2 ⟨rfl, rfl⟩
        go_wp2_with fail
        go_roundw
        case rel =>
          obtain ⟨s, s2, s4, hkd⟩ := HK.out.get 0 HPos.out (by have := HLe.out; have := HPos.out; omega)
          rw [HQ1.out _] at hkd
          exact ⟨h, q1, s, d + 1, _, by simp, rfl, hkd, by omega, fun _ => s2, s4, by have := HD.out; omega, HH2.out, HBr.out⟩
        case measure =>
          obtain ⟨s, s2, s4, hkd⟩ := HK.out.get 0 HPos.out (by have := HLe.out; have := HPos.out; omega)
          rw [HQ1.out _] at hkd
          rw [HHf.out, hOf_nd hkd]
          omega
def LookedRel (w : World) (H : Nat) (nv xv : Value) (X : World) : Prop := ∃ (h q n d : Nat) (m : List Ent), nv = .int .i64 d ∧ xv = .pointer (some ⟨q, 0, none⟩) ∧ Nd X h q m n ∧ 0 < n ∧ (0 < h → 2 ≤ n) ∧ n ≤ 4 ∧ d + h + 1 = H ∧ H ≤ 20 ∧ Below w.heap.size w X
set_option maxHeartbeats 3200000 in
set_option maxRecDepth 100000 in
theorem looked_tree {w : World} {p r : Option Addr} {l : List Ent} (hr : RootAt w r l) (hroot : ∀ X, Below w.heap.size w X → Calls Try.prog 37 #[.pointer p] X fun e w' => e = .returned (.pointer r) ∧ X = w') (hl : l.length ≤ 1000) {H : Nat} (hH : HiOf w r H) (k : Sp) :
    Calls Try.prog 55 #[.pointer p, .agg #[.int .i64 k.br, .int .i64 k.vol, .int .i64 k.blk, .int .u64 k.num]] w fun e w' => e = .returned (.int .i64 H) ∧ Below w.heap.size w w' := by
  have hbw : Below w.heap.size w (w.alloc (.cells #[.int .i64 k.br, .int .i64 k.vol, .int .i64 k.blk, .int .u64 k.num] 26)) := (Below.refl _ _).alloc (Nat.le_refl _) _
  have hbox := heap_alloc_new w (.cells #[.int .i64 k.br, .int .i64 k.vol, .int .i64 k.blk, .int .u64 k.num] 26)
  have HRo := Lib.hid (hroot _ hbw)
  have HR := Lib.hid (hr.below hbw)
  have HHi : Hid (HiOf (w.alloc (.cells #[.int .i64 k.br, .int .i64 k.vol, .int .i64 k.blk, .int .u64 k.num] 26)) r H) := by
    rcases hH with h | ⟨q, h, n, m, e, hn, e2⟩
    · exact .inl h
    · exact .inr ⟨q, h, n, m, e, hn.below hbw, e2⟩
  have HL := Lib.hid hl
  have HB1 := Lib.hid hbw
  clear hl hr hroot hH
  go_enter Try.func55, Try.ntmps55
  go_wp2_with fail
  refine HRo.out.mono ?_
  rintro e w1 ⟨rfl, rfl⟩
  have HK : Hid (∀ X, Below (w.alloc (.cells #[.int .i64 k.br, .int .i64 k.vol, .int .i64 k.blk, .int .u64 k.num] 26)).heap.size (w.alloc (.cells #[.int .i64 k.br, .int .i64 k.vol, .int .i64 k.blk, .int .u64 k.num] 26)) X → X.cell? ⟨w.heap.size, 0, none⟩ = some (.int .i64 k.br) ∧ X.cell? ⟨w.heap.size, 1, none⟩ = some (.int .i64 k.vol) ∧ X.cell? ⟨w.heap.size, 2, none⟩ = some (.int .i64 k.blk) ∧ X.cell? ⟨w.heap.size, 3, none⟩ = some (.int .u64 k.num) ∧ w.heap.size < X.heap.size) := fun X hX => box_cells hbox hX
  clear hbw hbox HRo
  generalize w.alloc (.cells #[.int .i64 k.br, .int .i64 k.vol, .int .i64 k.blk, .int .u64 k.num] 26) = W at *
  rcases HR.out with ⟨rfl, rfl⟩ | ⟨q, h, n, rfl, hnd, h0, h2, h4⟩
  · have hH0 : H = 0 := by
      rcases HHi.out with ⟨_, e⟩ | ⟨_, _, _, _, e, _⟩
      · exact e
      · cases e
    subst hH0
    have hne : ∀ W, (binOp .neq 36 (.pointer none) (.pointer none)).run Try.prog W = .ok (.bool false) W := fun W => run_neq_pointer_nil W _ none (by rfl)
    go_wp2_with fail
    go_loopw [5, 6] (fun n x X => n = .int .i64 0 ∧ x = .pointer none ∧ X = W) (fun _ _ _ => 0)
    case atStart => exact ⟨rfl, rfl, rfl⟩
    case round =>
      obtain ⟨rfl, rfl, rfl⟩ := hrel
      go_wp2_with fail
      go_ret
      exact ⟨rfl, HB1.out⟩
  · have hHh : H = h + 1 := by
      rcases HHi.out with ⟨e, _⟩ | ⟨q', h', n', m', e, hn', e2⟩
      · cases e
      · cases e
        rw [e2, nd_uniq hn' hnd]
    have hp : 0 < h → 2 ^ (h + 1) ≤ l.length := fun hh => nd_tall2 hnd (h2 hh)
    have hH20 : H ≤ 20 := by
      refine Nat.le_of_not_lt fun hc => ?_
      have : 2 ^ 10 ≤ 2 ^ h := Nat.pow_le_pow_right (by decide) (by omega)
      have h3 : 2 ^ h ≤ l.length := by
        by_cases hh : 0 < h
        · have := hp hh
          rw [Nat.pow_succ] at this
          omega
        · omega
      have := HL.out
      omega
    clear hp
    go_wp2_with fail
    go_loopw [5, 6] (fun n x X => LookedRel W H n x X) (fun _ x X => hOf X x)
    case atStart => exact ⟨h, q, n, 0, l, rfl, rfl, hnd, h0, h2, h4, by omega, hH20, Below.refl _ _⟩
    case round =>
      obtain ⟨h, q, n, d, m, rfl, rfl, hnd, h0, h2, h4, hdd, hH20, hbr⟩ := hrel
      have HBr := Lib.hid hbr
      have HHf := Lib.hid (hOf_nd hnd)
      have HD := Lib.hid hdd
      have HH2 := Lib.hid hH20
      obtain ⟨y0, y1, y2, y3, zk⟩ := HK.out wr hbr
      clear hbr
      cases h with
      | zero =>
        have HLf := Lib.hid hnd.2
        have e1 : (d : Int) ≤ 20 := by omega
        have e0 : (0 : Int) ≤ (d : Int) := by omega
        clear hdd hH20
        go_wp2_with fail
        refine (leaf_yes HLf.out).mono ?_
        rintro e w2 ⟨rfl, rfl⟩
        go_wp2_with fail
        go_ret
        exact ⟨by have := HD.out; show Ending.returned (.int .i64 ((d : Int) + 1)) = Ending.returned (.int .i64 (H : Int)); congr 2; omega, HB1.out.trans (HBr.out.mono HB1.out.size)⟩
      | succ h =>
        obtain ⟨qs, ls, hn, rfl, hI, hk⟩ := nd_succ.1 hnd
        have HI := Lib.hid hI
        have HKi := Lib.hid hk
        have hlen := hk.length
        have e1 : (d : Int) ≤ 20 := by omega
        have e0 : (0 : Int) ≤ (d : Int) := by omega
        clear hnd hk hdd hH20 hI
        go_wp2_with fail
        refine (leaf_no HI.out).mono ?_
        rintro e w2 ⟨rfl, rfl⟩
        go_wp2_with fail
        refine (find_inner HI.out k (by rw [List.length_map]; omega)).mono ?_
        rintro e w3 ⟨i, b, rfl, hF, hb3⟩
        have hi := hF.lt (by rw [List.length_map]; omega)
        rw [List.length_map] at hi
        have hil : i < qs.length := by omega
        have HB3 := Lib.hid hb3
        obtain ⟨A, ca, C, cc, hin⟩ := HI.out.below hb3
        have c2 := hin.c2
        obtain ⟨b1, off, rfl, hblt, hcs⟩ := hin.kids hin.pos
        have hkid := hcs i hil
        have HIl := Lib.hid (show i < ls.length ∧ i < qs.length from ⟨hi, hil⟩)
        have e2 : (0 : Int) ≤ (i : Int) := by omega
        rw [← hn] at c2
        have e5 : (i : Int) < (n : Int) := by omega
        generalize hq1 : qs[i]'(_) = q1 at *
        have HQ1 : Hid (∀ h : i < qs.length, qs[i]'h = q1) := fun _ => hq1
        clear hin hF hb3 y0 y1 y2 y3 hi hcs hil hn hlen hq1 hblt h0 h2 h4
        go_wp2_with fail
        go_roundw
        case rel =>
          obtain ⟨s, s2, s4, hkd⟩ := HKi.out.get i HIl.out.2 HIl.out.1
          rw [HQ1.out _] at hkd
          exact ⟨h, q1, s, d + 1, _, by simp, rfl, hkd.below HB3.out, by omega, fun _ => s2, s4, by have := HD.out; omega, HH2.out, HBr.out.trans (HB3.out.mono HBr.out.size)⟩
        case measure =>
          obtain ⟨s, s2, s4, hkd⟩ := HKi.out.get i HIl.out.2 HIl.out.1
          rw [HQ1.out _] at hkd
          rw [HHf.out, hOf_nd (hkd.below HB3.out)]
          omega
/-- Del: the tree without the spot; the tree itself, if the spot isn't there. -/
def DelT (w : World) (p : Option Addr) (l : List Ent) (k : Sp) (e : Ending) (w' : World) : Prop := ∃ p', e = .returned (.pointer p') ∧ TreeAt w' p' (delE k l) ∧ Below w.heap.size w w' ∧ (hasE k l = false → p' = p)
theorem del_none (w : World) (k : Sp) : Calls Try.prog 60 #[.pointer none, .agg #[.int .i64 k.br, .int .i64 k.vol, .int .i64 k.blk, .int .u64 k.num]] w fun e w' => e = .returned (.tuple #[.pointer none, .bool false]) ∧ Below w.heap.size w w' := by
  go_enter Try.func60, Try.ntmps60
  go_wp2_with fail
  go_ret2
  exact ⟨rfl, (Below.refl _ _).alloc (Nat.le_refl _) _⟩
theorem Del_nil (w : World) (k : Sp) : Calls Try.prog 29 #[.pointer none, .agg #[.int .i64 k.br, .int .i64 k.vol, .int .i64 k.blk, .int .u64 k.num]] w fun e w' => e = .returned (.tuple #[.pointer none, .bool false]) ∧ Below w.heap.size w w' := by
  go_enter Try.func29, Try.ntmps29
  go_wp2_with fail
  refine (del_none _ k).mono ?_
  have hbw : Below w.heap.size w (w.alloc (.cells #[.int .i64 k.br, .int .i64 k.vol, .int .i64 k.blk, .int .u64 k.num] 26)) := (Below.refl _ _).alloc (Nat.le_refl _) _
  rintro e w1 ⟨rfl, hb⟩
  have HB := Lib.hid (hbw.trans (hb.mono hbw.size))
  clear hbw hb
  go_wp2_with fail
  go_ret2
  exact ⟨rfl, HB.out⟩
theorem Del_root {w : World} {r : Option Addr} {l : List Ent} (h : RootAt w r l) (ha : Asc l) (k : Sp) :
    Calls Try.prog 29 #[.pointer r, .agg #[.int .i64 k.br, .int .i64 k.vol, .int .i64 k.blk, .int .u64 k.num]] w (DelRoot w r l k) := by
  rcases h with ⟨rfl, rfl⟩ | ⟨q, h, n, rfl, hn, h0, h2, h4⟩
  · exact (Del_nil w k).mono fun e w' hp => .inl ⟨rfl, hp.1, hp.2⟩
  · exact Del_at hn h0 h2 h4 ha k
set_option maxHeartbeats 3200000 in
set_option maxRecDepth 100000 in
theorem del_tree {w : World} {p : Option Addr} {l : List Ent} (h : TreeAt w p l) (ha : Asc l) (hl : l.length ≤ 1000) (k : Sp) :
    Calls Try.prog 41 #[.pointer p, .agg #[.int .i64 k.br, .int .i64 k.vol, .int .i64 k.blk, .int .u64 k.num]] w (DelT w p l k) := by
  obtain ⟨r, hr, hroot⟩ := root_tree h
  have hbw : Below w.heap.size w (w.alloc (.cells #[.int .i64 k.br, .int .i64 k.vol, .int .i64 k.blk, .int .u64 k.num] 26)) := (Below.refl _ _).alloc (Nat.le_refl _) _
  have hbox := heap_alloc_new w (.cells #[.int .i64 k.br, .int .i64 k.vol, .int .i64 k.blk, .int .u64 k.num] 26)
  have HRo := Lib.hid hroot
  have HDe : Hid (∀ X, Below w.heap.size w X → Calls Try.prog 29 #[.pointer r, .agg #[.int .i64 k.br, .int .i64 k.vol, .int .i64 k.blk, .int .u64 k.num]] X fun e w' => ∃ r', e = .returned (.tuple #[.pointer r', .bool (hasE k l)]) ∧ Below X.heap.size X w' ∧ (hasE k l = false → r' = r) ∧ (hasE k l = true → RootAt w' r' (delE k l))) := fun X hX => (Del_root (hr.below hX) ha k).mono fun e w' hp => by
    rcases hp with ⟨a1, rfl, a3⟩ | ⟨a1, r', rfl, a4, a5⟩
    · exact ⟨r, by rw [a1], a3, fun _ => rfl, fun h => by rw [a1] at h; cases h⟩
    · exact ⟨r', by rw [a1], a5, fun h => (by rw [a1] at h; cases h), fun _ => a4⟩
  have HLe := Lib.hid (len_tree h)
  have HT := Lib.hid h
  have HL := Lib.hid hl
  clear h ha hl hr hroot
  go_enter Try.func41, Try.ntmps41
  go_upto_region 1 with fail
  generalize w.alloc (.cells #[.int .i64 k.br, .int .i64 k.vol, .int .i64 k.blk, .int .u64 k.num] 26) = W at *
  have hbd : Below W.heap.size W (W.drewN 1) := bel_drewN _ _ (n := 1)
  have HBw := Lib.hid hbw
  obtain ⟨k0, k1, k2, k3, zk⟩ := box_cells hbox (Below.refl _ _)
  have HRo1 := Lib.hid (HRo.out _ (hbw.trans (hbd.mono hbw.size)))
  have HD1 := Lib.hid (HDe.out _ (hbw.trans (hbd.mono hbw.size)))
  have HBd := Lib.hid (hbw.trans (hbd.mono hbw.size))
  clear hbox hbw hbd HRo HDe
  go_cut [5, 6] (fun rv ov X => Below w.heap.size w X ∧ ((hasE k l = false ∧ rv = .pointer r ∧ ov = .bool false) ∨ (hasE k l = true ∧ ∃ r', rv = .pointer r' ∧ ov = .bool true ∧ RootAt X r' (delE k l))))
  case first =>
    go_region_with (first | (go_at_call 37; refine HRo1.out.mono ?_; rintro e w1 ⟨rfl, rfl⟩) | (go_at_call 29; refine HD1.out.mono ?_; rintro e w1 ⟨r', rfl, a3, a4, a5⟩))
    all_goals go_wp2_with fail
    all_goals go_meet
    all_goals (
      refine ⟨HBd.out.trans (a3.mono HBd.out.size), ?_⟩
      cases hh : hasE k l
      · exact .inl ⟨rfl, by rw [a4 hh], rfl⟩
      · exact .inr ⟨rfl, _, rfl, rfl, a5 hh⟩)
  case rest =>
   obtain ⟨hB, hcase⟩ := hcut
   have HB := Lib.hid hB
   clear hB
   rcases hcase with ⟨a1, rfl, rfl⟩ | ⟨a1, r', rfl, rfl, a4⟩
   · have HA := Lib.hid a1
     clear a1
     go_wp2_with fail
     go_ret
     exact ⟨p, rfl, by rw [delE_none HA.out]; exact HT.out.below HB.out, HB.out, fun _ => rfl⟩
   · have HA := Lib.hid a1
     have HR := Lib.hid a4
     have HLn := Lib.hid (HLe.out wc HB.out)
     have hdl := delE_length (k := k) (l := l)
     rw [a1] at hdl
     have hlen : (delE k l).length = l.length - 1 := by simpa using hdl
     have hpos : 1 ≤ l.length := by
       cases l with
       | nil => simp [hasE] at a1
       | cons x t => simp
     have HDl := Lib.hid (And.intro hlen hpos)
     have e1 : (l.length : Int) ≤ 1000 := by have := HL.out; omega
     have e2 : (1 : Int) ≤ (l.length : Int) := by omega
     clear a1 a4 hdl hlen hpos
     go_wp2_with fail
     refine HLn.out.mono ?_
     rintro e w2 ⟨rfl, rfl⟩
     go_wp2_with fail
     go_ret
     have e3 : (l.length : Int) - 1 = ((delE k l).length : Nat) := by have := HDl.out; omega
     refine ⟨some ⟨wc.heap.size, 0, none⟩, rfl, ?_, HB.out.alloc HB.out.size _, fun h => by rw [HA.out] at h; cases h⟩
     rw [e3]
     exact TreeAt.new HR.out
end Go.Proofs.Ytainljbkejafcaa.N

/- awake of the tree's laws. -/
namespace Go.Proofs.Ytainljbkejafcaa.N
open Go.BigFrame Go.RowKit Go.Proofs.YtainljbkejafcaaW.PrintMore Go.Proofs.YtainljbkejafcaaW.PrintWords
set_option linter.unusedVariables false
set_option linter.unusedSimpArgs false
theorem results_cT {fn : Func} {p : Tmp} {ty : TypeId} (h : fn.results = #[.cell p ty]) (tmps : Array Value) (P : Program) (w : World) :
    (results fn tmps).run P w = ((asAddr (tmps.getD p undef)).run P w).andThen fun a w₁ => (loadVar ty a).run P w₁ := by
  simp only [results, h]
  simp [Sem.run_bind, Result.andThen]
theorem spot25 (n : Int) (w : World) : Calls Try.prog 68 #[.int .u64 n] w fun e w' => e = .returned (.agg #[.int .i64 0, .int .i64 0, .int .i64 0, .int .u64 n]) ∧ Below w.heap.size w w' := by
  go_enter Try.func68, Try.ntmps68
  go_wp2_with fail
  refine bodyPost_ret (v := .agg #[.int .i64 0, .int .i64 0, .int .i64 0, .int .u64 n]) (by rw [results_cT rfl]; go_simp) rfl ?_
  exact ⟨rfl, by first | exact (Below.refl _ _).alloc (Nat.le_refl _) _ | exact (((((Below.refl _ _).alloc (Nat.le_refl _) _).setCell (p := ⟨w.heap.size, 0, none⟩) (by simp) _).setCell (p := ⟨w.heap.size, 1, none⟩) (by simp) _).setCell (p := ⟨w.heap.size, 2, none⟩) (by simp) _).setCell (p := ⟨w.heap.size, 3, none⟩) (by simp) _⟩
theorem put_numT {w : World} {p : Option Addr} {l : List Ent} (h : TreeAt w p l) (ha : Asc l) (hl : l.length ≤ 1000) (n v : Int) :
    Calls Try.prog 43 #[.pointer p, .agg #[.int .i64 0, .int .i64 0, .int .i64 0, .int .u64 n], .int .u64 v] w fun e w' => ∃ p', e = .returned (.pointer p') ∧ TreeAt w' p' (insE ⟨0, 0, 0, n⟩ v l) ∧ Below w.heap.size w w' := put_tree h ha hl ⟨0, 0, 0, n⟩ v
theorem floor_numT {w : World} {p : Option Addr} {l : List Ent} (h : TreeAt w p l) (ha : Asc l) (n : Int) :
    Calls Try.prog 48 #[.pointer p, .agg #[.int .i64 0, .int .i64 0, .int .i64 0, .int .u64 n]] w fun e w' => e = .returned (entV (floorE ⟨0, 0, 0, n⟩ l)) ∧ Below w.heap.size w w' := floor_tree h ha ⟨0, 0, 0, n⟩
theorem ceil_numT {w : World} {p : Option Addr} {l : List Ent} (h : TreeAt w p l) (ha : Asc l) (n : Int) :
    Calls Try.prog 49 #[.pointer p, .agg #[.int .i64 0, .int .i64 0, .int .i64 0, .int .u64 n]] w fun e w' => e = .returned (entV (ceilE ⟨0, 0, 0, n⟩ l)) ∧ Below w.heap.size w w' := ceil_tree h ha ⟨0, 0, 0, n⟩
def aw3 : List Ent := insE ⟨0, 0, 0, 5⟩ 5 (insE ⟨0, 0, 0, 9⟩ 9 (insE ⟨0, 0, 0, 1⟩ 1 []))
set_option maxRecDepth 100000 in
theorem aw_facts : floorE ⟨0, 0, 0, 7⟩ aw3 = some (⟨0, 0, 0, 5⟩, 5) ∧ floorE ⟨0, 0, 0, 7⟩ (insE ⟨0, 0, 0, 7⟩ 7 aw3) = some (⟨0, 0, 0, 7⟩, 7) ∧ ceilE ⟨0, 0, 0, 7⟩ aw3 = some (⟨0, 0, 0, 9⟩, 9) := ⟨by kernel_rfl, by kernel_rfl, by kernel_rfl⟩
theorem aw_asc : Asc aw3 := insE_asc (insE_asc (insE_asc List.Pairwise.nil))
theorem insE_len (k : Sp) (v : Int) (l : List Ent) : (insE k v l).length ≤ l.length + 1 := by
  have := insE_length (k := k) (v := v) (l := l)
  split at this <;> omega
set_option maxHeartbeats 3200000 in
set_option maxRecDepth 100000 in
theorem awake25 (w : World) : Calls Try.prog 34 #[] w fun e w' => e = .returned (.bool true) ∧ Below w.heap.size w w' := by
  have hl1 := insE_len ⟨0, 0, 0, 1⟩ 1 []
  have hl2 := insE_len ⟨0, 0, 0, 9⟩ 9 (insE ⟨0, 0, 0, 1⟩ 1 [])
  have hl3 := insE_len ⟨0, 0, 0, 5⟩ 5 (insE ⟨0, 0, 0, 9⟩ 9 (insE ⟨0, 0, 0, 1⟩ 1 []))
  simp only [List.length_nil] at hl1
  have HL := Lib.hid (And.intro hl1 (And.intro hl2 hl3))
  clear hl1 hl2 hl3
  obtain ⟨hf1, hf2, hc1⟩ := aw_facts
  have HF := Lib.hid (And.intro hf1 (And.intro hf2 hc1))
  clear hf1 hf2 hc1
  go_enter Try.func34, Try.ntmps34
  go_wp2_with fail
  refine (new_tree _).mono ?_
  rintro e w1 ⟨b, rfl, ht1, hb1⟩
  have HT1 := Lib.hid ht1
  have HB1 := Lib.hid hb1
  clear ht1 hb1
  go_wp2_with fail
  refine (spot25 1 w1).mono ?_
  rintro e w2 ⟨rfl, hb2⟩
  have HT2 := Lib.hid (HT1.out.below hb2)
  have HB2 := Lib.hid (HB1.out.trans (hb2.mono HB1.out.size))
  clear hb2 HB1 HT1
  go_wp2_with fail
  refine (put_numT HT2.out List.Pairwise.nil (by simp) 1 1).mono ?_
  rintro e w3 ⟨p3, rfl, ht3, hb3⟩
  have HT3 := Lib.hid ht3
  have HB3 := Lib.hid (HB2.out.trans (hb3.mono HB2.out.size))
  clear hb3 ht3 HB2 HT2
  go_wp2_with fail
  refine (spot25 9 w3).mono ?_
  rintro e w4 ⟨rfl, hb4⟩
  have HT4 := Lib.hid (HT3.out.below hb4)
  have HB4 := Lib.hid (HB3.out.trans (hb4.mono HB3.out.size))
  clear hb4 HB3 HT3
  go_wp2_with fail
  refine (put_numT HT4.out (insE_asc List.Pairwise.nil) (by have := HL.out; omega) 9 9).mono ?_
  rintro e w5 ⟨p5, rfl, ht5, hb5⟩
  have HT5 := Lib.hid ht5
  have HB5 := Lib.hid (HB4.out.trans (hb5.mono HB4.out.size))
  clear hb5 ht5 HB4 HT4
  go_wp2_with fail
  refine (spot25 5 w5).mono ?_
  rintro e w6 ⟨rfl, hb6⟩
  have HT6 := Lib.hid (HT5.out.below hb6)
  have HB6 := Lib.hid (HB5.out.trans (hb6.mono HB5.out.size))
  clear hb6 HB5 HT5
  go_wp2_with fail
  refine (put_numT HT6.out (insE_asc (insE_asc List.Pairwise.nil)) (by have := HL.out; omega) 5 5).mono ?_
  rintro e w7 ⟨p7, rfl, ht7, hb7⟩
  have HT7 : Hid (TreeAt w7 p7 aw3) := ht7
  have HB7 := Lib.hid (HB6.out.trans (hb7.mono HB6.out.size))
  clear hb7 ht7 HB6 HT6
  go_wp2_with fail
  refine (spot25 7 w7).mono ?_
  rintro e w8 ⟨rfl, hb8⟩
  have HT8 := Lib.hid (HT7.out.below hb8)
  have HB8 := Lib.hid (HB7.out.trans (hb8.mono HB7.out.size))
  clear hb8 HB7 HT7
  go_wp2_with fail
  refine (put_numT HT8.out aw_asc (by have := HL.out; unfold aw3; omega) 7 7).mono ?_
  rintro e w9 ⟨p9, rfl, ht9, hb9⟩
  have HT9 := Lib.hid (HT8.out.below hb9)
  have HU9 := Lib.hid ht9
  have HB9 := Lib.hid (HB8.out.trans (hb9.mono HB8.out.size))
  clear hb9 ht9 HB8 HT8
  go_wp2_with fail
  refine (spot25 7 w9).mono ?_
  rintro e wa ⟨rfl, hba⟩
  have HTa := Lib.hid (HT9.out.below hba)
  have HUa := Lib.hid (HU9.out.below hba)
  have HBa := Lib.hid (HB9.out.trans (hba.mono HB9.out.size))
  clear hba HB9 HT9 HU9
  go_wp2_with fail
  refine (floor_numT HTa.out aw_asc 7).mono ?_
  rintro e wb ⟨rfl, hbb⟩
  rw [HF.out.1]
  unfold entV
  have hz5 : Blk (wb.alloc (.cells #[.int .i64 0, .int .i64 0, .int .i64 0, .int .u64 5] 26)) wb.heap.size #[.int .i64 0, .int .i64 0, .int .i64 0, .int .u64 5] 26 := Blk.new wb _ _
  have hbc : Below wa.heap.size wa (wb.alloc (.cells #[.int .i64 0, .int .i64 0, .int .i64 0, .int .u64 5] 26)) := hbb.alloc hbb.size _
  have HTc := Lib.hid (HTa.out.below hbc)
  have HUc := Lib.hid (HUa.out.below hbc)
  have HBc := Lib.hid (HBa.out.trans (hbc.mono HBa.out.size))
  clear hbb HTa HUa HBa hbc
  dsimp only
  go_wp2_with fail
  generalize wb.alloc (.cells #[.int .i64 0, .int .i64 0, .int .i64 0, .int .u64 5] 26) = Wc at *
  obtain ⟨q1, hq1⟩ : ∃ q, wb.heap.size = q := ⟨_, rfl⟩
  rw [hq1] at hz5 ⊢
  clear hq1
  refine (spot25 7 Wc).mono ?_
  rintro e wd ⟨rfl, hbd⟩
  have HUd := Lib.hid (HUc.out.below hbd)
  have HTd := Lib.hid (HTc.out.below hbd)
  have HBd := Lib.hid (HBc.out.trans (hbd.mono HBc.out.size))
  have Hz5 := Lib.hid (hz5.below hbd hz5.lt)
  clear hbd HUc HTc HBc hz5
  go_wp2_with fail
  refine (floor_numT HUd.out (insE_asc aw_asc) 7).mono ?_
  rintro e we ⟨rfl, hbe⟩
  rw [HF.out.2.1]
  unfold entV
  have hz7 : Blk (we.alloc (.cells #[.int .i64 0, .int .i64 0, .int .i64 0, .int .u64 7] 26)) we.heap.size #[.int .i64 0, .int .i64 0, .int .i64 0, .int .u64 7] 26 := Blk.new we _ _
  have hbf : Below wd.heap.size wd (we.alloc (.cells #[.int .i64 0, .int .i64 0, .int .i64 0, .int .u64 7] 26)) := hbe.alloc hbe.size _
  have HTf := Lib.hid (HTd.out.below hbf)
  have HBf := Lib.hid (HBd.out.trans (hbf.mono HBd.out.size))
  have Hz5f := Lib.hid (Hz5.out.below hbf Hz5.out.lt)
  clear hbe hbf HTd HUd HBd Hz5
  dsimp only
  go_wp2_with fail
  generalize we.alloc (.cells #[.int .i64 0, .int .i64 0, .int .i64 0, .int .u64 7] 26) = Wf at *
  obtain ⟨q2, hq2⟩ : ∃ q, we.heap.size = q := ⟨_, rfl⟩
  rw [hq2] at hz7 ⊢
  clear hq2
  refine (spot25 7 Wf).mono ?_
  rintro e wg ⟨rfl, hbg⟩
  have HTg := Lib.hid (HTf.out.below hbg)
  have HBg := Lib.hid (HBf.out.trans (hbg.mono HBf.out.size))
  have Hz5g := Lib.hid (Hz5f.out.below hbg Hz5f.out.lt)
  have Hz7g := Lib.hid (hz7.below hbg hz7.lt)
  clear hbg HTf HBf hz7 Hz5f
  go_wp2_with fail
  refine (ceil_numT HTg.out aw_asc 7).mono ?_
  rintro e wh ⟨rfl, hbh⟩
  rw [HF.out.2.2]
  unfold entV
  have HBh := Lib.hid (HBg.out.trans (hbh.mono HBg.out.size))
  have h5 := Hz5g.out.below hbh Hz5g.out.lt
  have h7 := Hz7g.out.below hbh Hz7g.out.lt
  have l5 := h5.lt
  have l7 := h7.lt
  have c5 : wh.cell? ⟨q1, 3, none⟩ = some (.int .u64 5) := (h5.cell 3).trans rfl
  have c7 : wh.cell? ⟨q2, 3, none⟩ = some (.int .u64 7) := (h7.cell 3).trans rfl
  clear hbh h5 h7 Hz5g Hz7g HTg HBg
  dsimp only
  go_wp2_with fail
  go_ret
  exact ⟨rfl, HBh.out.alloc HBh.out.size _⟩
end Go.Proofs.Ytainljbkejafcaa.N

/- play of the tree's laws. -/
namespace Go.Proofs.Ytainljbkejafcaa.N
open Go.BigFrame Go.RowKit Go.Proofs.YtainljbkejafcaaW.PrintMore Go.Proofs.YtainljbkejafcaaW.PrintWords
set_option linter.unusedVariables false
set_option linter.unusedSimpArgs false
/-- The tree, and the document's list. -/
def PlayT (w : World) (l : List Ent) (e : Ending) (w' : World) : Prop := ∃ p A c, e = .returned (.tuple #[.pointer p, .slice A l.length c]) ∧ TreeAt w' p l ∧ ItemsAt w' A l ∧ (A = none → l.length = 0 ∧ c = 0) ∧ Below w.heap.size w w'
def PlayRelT (w : World) (ds : List Dd) (n : Nat) (t x i : Value) (X : World) : Prop := ∃ (j : Nat) (p A : Option Addr) (c : Nat), i = .int .i64 j ∧ j ≤ n ∧ t = .pointer p ∧ x = .slice A (playE (ds.take j)).length c ∧ TreeAt X p (playE (ds.take j)) ∧ ItemsAt X A (playE (ds.take j)) ∧ (A = none → (playE (ds.take j)).length = 0 ∧ c = 0) ∧ Below w.heap.size w X
set_option maxHeartbeats 6400000 in
set_option maxRecDepth 100000 in
theorem play25 {w : World} {A : Option Addr} {ds : List Dd} {n c : Nat} (hd : DeedsAt w A ds) (hn : ds.length = n) (hl : n ≤ 100) :
    Calls Try.prog 35 #[.slice A n c] w (PlayT w (playE ds)) := by
  have HD := Lib.hid hd
  have HN := Lib.hid hn
  have HL := Lib.hid hl
  clear hd hn
  go_enter Try.func35, Try.ntmps35
  go_wp2_with fail
  refine (new_tree w).mono ?_
  rintro e w1 ⟨b, rfl, ht1, hb1⟩
  have HT0 := Lib.hid ht1
  have HB1 := Lib.hid hb1
  clear ht1 hb1
  go_wp2_with fail
  go_loopw [4, 5, 6] (fun t x i X => PlayRelT w ds n t x i X) (fun _ _ i _ => (n - intOf i).toNat)
  case atStart => exact ⟨0, some ⟨b, 0, none⟩, none, 0, rfl, Nat.zero_le _, rfl, rfl, HT0.out, (fun h => by simp [playE] at h), fun _ => ⟨rfl, rfl⟩, HB1.out⟩
  case round =>
    obtain ⟨j, p, Ao, co, rfl, hj, rfl, rfl, ht, hit, hno, hbr⟩ := hrel
    have HBr := Lib.hid hbr
    have HTr := Lib.hid ht
    have HIt := Lib.hid hit
    have HNo := Lib.hid hno
    by_cases hjn : j < n
    · have hjl : j < ds.length := by rw [HN.out]; exact hjn
      have hpl : (playE (ds.take j)).length ≤ j := by
        have := playE_len (ds.take j)
        rw [List.length_take] at this
        omega
      have hasc := playE_asc (ds.take j)
      have hsucc := playE_succ hjl
      obtain ⟨ga, oa, rfl, la, ca⟩ := HD.out (by omega)
      obtain ⟨s0, s1, s2, s3, s4, s5⟩ := (ca j hjl).below hbr la
      have hga : ga < wr.heap.size := Nat.lt_of_lt_of_le la hbr.size
      obtain ⟨d, hdd⟩ : ∃ d, ds[j] = d := ⟨_, rfl⟩
      rw [hdd] at s0 s1 s2 s3 s4 s5 hsucc
      obtain ⟨l, hll⟩ : ∃ l, playE (ds.take j) = l := ⟨_, rfl⟩
      rw [hll] at ht hit hpl hasc hsucc HTr HIt HNo ⊢
      have HSu := Lib.hid hsucc
      have HAsc := Lib.hid hasc
      have HPl := Lib.hid hpl
      have e1 : (0 : Int) ≤ (j : Int) := by omega
      have e2 : (j : Int) < (n : Int) := by omega
      obtain ⟨LJ, hLJ⟩ : ∃ LJ, l.length = LJ := ⟨_, rfl⟩
      rw [hLJ] at HPl ⊢
      have HLJ := Lib.hid hLJ
      clear ca la hdd hll hsucc hasc hno ht hit hLJ hpl hbr
      cases hdel : d.del with
      | true =>
        rw [hdel] at s0
        have hst : stepE l d = delE d.k l := by unfold stepE; rw [if_pos hdel]
        have HT1 : Hid (∀ X, Below wr.heap.size wr X → Calls Try.prog 41 #[.pointer p, .agg #[.int .i64 d.k.br, .int .i64 d.k.vol, .int .i64 d.k.blk, .int .u64 d.k.num]] X fun e w' => ∃ p', e = .returned (.pointer p') ∧ TreeAt w' p' (stepE l d) ∧ Below X.heap.size X w') := fun X hX => (del_tree (HTr.out.below hX) HAsc.out (by rw [HLJ.out]; have := HPl.out; omega) d.k).mono fun e w' hp => by
          obtain ⟨p', a, b, c, _⟩ := hp
          rw [hst]
          exact ⟨p', a, b, c⟩
        have HX1 : Hid (∀ X, Below wr.heap.size wr X → Calls Try.prog 42 #[.slice Ao LJ co, .agg #[.int .i64 d.k.br, .int .i64 d.k.vol, .int .i64 d.k.blk, .int .u64 d.k.num]] X (ItemsPost X (stepE l d))) := fun X hX => by
          rw [hst]
          exact del25 (HIt.out.below hX) HLJ.out (by have := HPl.out; omega) HAsc.out d.k
        clear hst hdel
        go_upto_region 7 with fail
        have held : ∀ X, Below wr.heap.size wr X → (fun w' => w'.cell? ⟨ga, oa + j * 6 + 1, none⟩ = some (.int .i64 d.k.br) ∧ w'.cell? ⟨ga, oa + j * 6 + 2, none⟩ = some (.int .i64 d.k.vol) ∧ w'.cell? ⟨ga, oa + j * 6 + 3, none⟩ = some (.int .i64 d.k.blk) ∧ w'.cell? ⟨ga, oa + j * 6 + 4, none⟩ = some (.int .u64 d.k.num) ∧ w'.cell? ⟨ga, oa + j * 6 + 5, none⟩ = some (.int .u64 d.v)) X := fun X hX => ⟨bel_cell hX hga s1, bel_cell hX hga s2, bel_cell hX hga s3, bel_cell hX hga s4, bel_cell hX hga s5⟩
        refine wp_region_held_drew (S := (fun w' => w'.cell? ⟨ga, oa + j * 6 + 1, none⟩ = some (.int .i64 d.k.br) ∧ w'.cell? ⟨ga, oa + j * 6 + 2, none⟩ = some (.int .i64 d.k.vol) ∧ w'.cell? ⟨ga, oa + j * 6 + 3, none⟩ = some (.int .i64 d.k.blk) ∧ w'.cell? ⟨ga, oa + j * 6 + 4, none⟩ = some (.int .u64 d.k.num) ∧ w'.cell? ⟨ga, oa + j * 6 + 5, none⟩ = some (.int .u64 d.v))) (by kernel_rfl) (held _ (bel_drewN _ _ (n := 1))) (fun hHeld => ?_)
        obtain ⟨wd, hwd⟩ : ∃ X, X = World.drew wr := ⟨_, rfl⟩
        rw [← hwd] at hHeld ⊢
        have hbd : Below wr.heap.size wr wd := by rw [hwd]; exact bel_drewN _ _ (n := 1)
        clear hwd s1 s2 s3 s4 s5
        refine take_at (i := 0) (v := ?_) rfl (by kernel_rfl) (by kernel_rfl) (by kernel_rfl) (fun _ _ _ h => h) (Or.inl ⟨by rfl, ?_⟩) (by assumption) ?_
        rotate_left
        · (intro w' hSw; (try dsimp only at hSw); go_simp <;> (with_reducible rfl))
        try simp only [Act.put, List.setIfInBounds_toArray, List.set_cons_zero, List.set_cons_succ]
        refine take_at (i := 1) (v := ?_) rfl (by kernel_rfl) (by kernel_rfl) (by kernel_rfl) (fun _ _ _ h => h) (Or.inl ⟨by rfl, ?_⟩) (by assumption) ?_
        rotate_left
        · (intro w' hSw; (try dsimp only at hSw); go_simp <;> (with_reducible rfl))
        try simp only [Act.put, List.setIfInBounds_toArray, List.set_cons_zero, List.set_cons_succ]
        refine take_at (i := 2) (v := ?_) rfl (by kernel_rfl) (by kernel_rfl) (by kernel_rfl) (fun _ _ _ h => h) (Or.inl ⟨by rfl, ?_⟩) (by assumption) ?_
        rotate_left
        · (intro w' hSw; (try dsimp only at hSw); go_simp <;> (with_reducible rfl))
        try simp only [Act.put, List.setIfInBounds_toArray, List.set_cons_zero, List.set_cons_succ]
        refine take_at (i := 3) (v := ?_) rfl (by kernel_rfl) (by kernel_rfl) (by kernel_rfl) (fun _ _ _ h => h) (Or.inl ⟨by rfl, ?_⟩) (by assumption) ?_
        rotate_left
        · (intro w' hSw; (try dsimp only at hSw); go_simp <;> (with_reducible rfl))
        try simp only [Act.put, List.setIfInBounds_toArray, List.set_cons_zero, List.set_cons_succ]
        refine take_at (i := 4) (v := ?_) rfl (by kernel_rfl) (by kernel_rfl) (by kernel_rfl) (fun _ _ _ h => h) (Or.inl ⟨by rfl, ?_⟩) (by assumption) ?_
        rotate_left
        · (intro w' hSw; (try dsimp only at hSw); go_simp <;> (with_reducible rfl))
        try simp only [Act.put, List.setIfInBounds_toArray, List.set_cons_zero, List.set_cons_succ]
        refine take_at (i := 5) (v := ?_) rfl (by kernel_rfl) (by kernel_rfl) (by kernel_rfl) (fun _ _ _ h => h) (Or.inl ⟨by rfl, ?_⟩) (by assumption) ?_
        rotate_left
        · (intro w' hSw; (try dsimp only at hSw); go_simp <;> (with_reducible rfl))
        try simp only [Act.put, List.setIfInBounds_toArray, List.set_cons_zero, List.set_cons_succ]
        refine take_at (i := 7) (v := ?_) rfl (by kernel_rfl) (by kernel_rfl) (by kernel_rfl) (fun _ _ _ h => h) (Or.inl ⟨by rfl, ?_⟩) (by assumption) ?_
        rotate_left
        · (intro w' hSw; (try dsimp only at hSw); go_simp <;> (with_reducible rfl))
        try simp only [Act.put, List.setIfInBounds_toArray, List.set_cons_zero, List.set_cons_succ]
        refine take_at (i := 8) (v := ?_) rfl (by kernel_rfl) (by kernel_rfl) (by kernel_rfl) (fun _ _ _ h => h) (Or.inl ⟨by rfl, ?_⟩) (by assumption) ?_
        rotate_left
        · (intro w' hSw; (try dsimp only at hSw); go_simp <;> (with_reducible rfl))
        try simp only [Act.put, List.setIfInBounds_toArray, List.set_cons_zero, List.set_cons_succ]
        refine take_at (i := 9) (v := ?_) rfl (by kernel_rfl) (by kernel_rfl) (by kernel_rfl) (fun _ _ _ h => h) (Or.inl ⟨by rfl, ?_⟩) (by assumption) ?_
        rotate_left
        · (intro w' hSw; (try dsimp only at hSw); go_simp <;> (with_reducible rfl))
        try simp only [Act.put, List.setIfInBounds_toArray, List.set_cons_zero, List.set_cons_succ]
        refine take_at (i := 10) (v := ?_) rfl (by kernel_rfl) (by kernel_rfl) (by kernel_rfl) (fun _ _ _ h => h) (Or.inl ⟨by rfl, ?_⟩) (by assumption) ?_
        rotate_left
        · (intro w' hSw; (try dsimp only at hSw); go_simp <;> (with_reducible rfl))
        try simp only [Act.put, List.setIfInBounds_toArray, List.set_cons_zero, List.set_cons_succ]
        refine take_at (i := 11) (v := ?_) rfl (by kernel_rfl) (by kernel_rfl) (by kernel_rfl) (fun _ _ _ h => h) (Or.inl ⟨by rfl, ?_⟩) (by assumption) ?_
        rotate_left
        · (intro w' hSw; (try dsimp only at hSw); go_simp <;> (with_reducible rfl))
        try simp only [Act.put, List.setIfInBounds_toArray, List.set_cons_zero, List.set_cons_succ]
        refine take_at (i := 12) (v := ?_) rfl (by kernel_rfl) (by kernel_rfl) (by kernel_rfl) (fun _ _ _ h => h) (Or.inl ⟨by rfl, ?_⟩) (by assumption) ?_
        rotate_left
        · (intro w' hSw; (try dsimp only at hSw); go_simp <;> (with_reducible rfl))
        try simp only [Act.put, List.setIfInBounds_toArray, List.set_cons_zero, List.set_cons_succ]
        refine one_at (i := 6) rfl (by kernel_rfl) (by rfl) (fun K hK => ?_)
        go_simp
        refine (HT1.out wd hbd).mono ?_
        rintro e w1 ⟨p', rfl, ht1, hb1⟩
        have hb01 := hbd.trans (hb1.mono hbd.size)
        go_simp
        refine hK.out _ _ (held _ hb01) (fun hHeld2 => ?_)
        clear hK K
        try simp only [Act.put, List.setIfInBounds_toArray, List.set_cons_zero, List.set_cons_succ]
        refine one_at (i := 13) rfl (by kernel_rfl) (by rfl) (fun K hK => ?_)
        go_simp
        refine (HX1.out w1 hb01).mono ?_
        rintro e w2 ⟨A2, c2, rfl, hi2, hn2, hb2⟩
        have hb02 := hb01.trans (hb2.mono hb01.size)
        have ht2 := ht1.below hb2
        go_simp
        refine hK.out _ _ (held _ hb02) (fun hHeld3 => ?_)
        clear hK K
        try simp only [Act.put, List.setIfInBounds_toArray, List.set_cons_zero, List.set_cons_succ]
        refine take_at (i := 14) (v := ?_) rfl (by kernel_rfl) (by kernel_rfl) (by kernel_rfl) (fun _ _ _ h => h) (Or.inl ⟨by rfl, ?_⟩) (by assumption) ?_
        rotate_left
        · (intro w' hSw; (try dsimp only at hSw); go_simp <;> (with_reducible rfl))
        try simp only [Act.put, List.setIfInBounds_toArray, List.set_cons_zero, List.set_cons_succ]
        refine take_at (i := 15) (v := ?_) rfl (by kernel_rfl) (by kernel_rfl) (by kernel_rfl) (fun _ _ _ h => h) (Or.inl ⟨by rfl, ?_⟩) (by assumption) ?_
        rotate_left
        · (intro w' hSw; (try dsimp only at hSw); go_simp <;> (with_reducible rfl))
        try simp only [Act.put, List.setIfInBounds_toArray, List.set_cons_zero, List.set_cons_succ]
        refine wpAnyH_done (by kernel_rfl) ?_ _
        try simp only [Act.put, List.setIfInBounds_toArray, List.set_cons_zero, List.set_cons_succ]
        have HH := Lib.hid (And.intro ht2 (And.intro hi2 (And.intro hn2 hb02)))
        clear ht2 hi2 hn2 hb02 s0 hb2 ht1 hb1 hb01 hHeld hHeld2 hHeld3
        go_wp2_with fail
        go_roundw
        case rel => exact ⟨j + 1, p', A2, c2, by simp, hjn, rfl, by rw [HSu.out], by rw [HSu.out]; exact HH.out.1, by rw [HSu.out]; exact HH.out.2.1, by rw [HSu.out]; exact HH.out.2.2.1, HBr.out.trans (HH.out.2.2.2.mono HBr.out.size)⟩
        case measure => (simp [intOf] <;> omega)
      | false =>
        rw [hdel] at s0
        have hst : stepE l d = insE d.k d.v l := by unfold stepE; rw [if_neg (by rw [hdel]; decide)]
        have HT1 : Hid (∀ X, Below wr.heap.size wr X → Calls Try.prog 43 #[.pointer p, .agg #[.int .i64 d.k.br, .int .i64 d.k.vol, .int .i64 d.k.blk, .int .u64 d.k.num], .int .u64 d.v] X fun e w' => ∃ p', e = .returned (.pointer p') ∧ TreeAt w' p' (stepE l d) ∧ Below X.heap.size X w') := fun X hX => by
          rw [hst]
          exact put_tree (HTr.out.below hX) HAsc.out (by rw [HLJ.out]; have := HPl.out; omega) d.k d.v
        have HX1 : Hid (∀ X, Below wr.heap.size wr X → Calls Try.prog 44 #[.slice Ao LJ co, .agg #[.int .i64 d.k.br, .int .i64 d.k.vol, .int .i64 d.k.blk, .int .u64 d.k.num], .int .u64 d.v] X (ItemsPost X (stepE l d))) := fun X hX => by
          rw [hst]
          exact put25 (HIt.out.below hX) HLJ.out (by have := HPl.out; omega) HAsc.out d.k d.v
        clear hst hdel
        go_upto_region 8 with fail
        have held : ∀ X, Below wr.heap.size wr X → (fun w' => w'.cell? ⟨ga, oa + j * 6 + 1, none⟩ = some (.int .i64 d.k.br) ∧ w'.cell? ⟨ga, oa + j * 6 + 2, none⟩ = some (.int .i64 d.k.vol) ∧ w'.cell? ⟨ga, oa + j * 6 + 3, none⟩ = some (.int .i64 d.k.blk) ∧ w'.cell? ⟨ga, oa + j * 6 + 4, none⟩ = some (.int .u64 d.k.num) ∧ w'.cell? ⟨ga, oa + j * 6 + 5, none⟩ = some (.int .u64 d.v)) X := fun X hX => ⟨bel_cell hX hga s1, bel_cell hX hga s2, bel_cell hX hga s3, bel_cell hX hga s4, bel_cell hX hga s5⟩
        refine wp_region_held_drew (S := (fun w' => w'.cell? ⟨ga, oa + j * 6 + 1, none⟩ = some (.int .i64 d.k.br) ∧ w'.cell? ⟨ga, oa + j * 6 + 2, none⟩ = some (.int .i64 d.k.vol) ∧ w'.cell? ⟨ga, oa + j * 6 + 3, none⟩ = some (.int .i64 d.k.blk) ∧ w'.cell? ⟨ga, oa + j * 6 + 4, none⟩ = some (.int .u64 d.k.num) ∧ w'.cell? ⟨ga, oa + j * 6 + 5, none⟩ = some (.int .u64 d.v))) (by kernel_rfl) (held _ (bel_drewN _ _ (n := 1))) (fun hHeld => ?_)
        obtain ⟨wd, hwd⟩ : ∃ X, X = World.drew wr := ⟨_, rfl⟩
        rw [← hwd] at hHeld ⊢
        have hbd : Below wr.heap.size wr wd := by rw [hwd]; exact bel_drewN _ _ (n := 1)
        clear hwd s1 s2 s3 s4 s5
        refine take_at (i := 0) (v := ?_) rfl (by kernel_rfl) (by kernel_rfl) (by kernel_rfl) (fun _ _ _ h => h) (Or.inl ⟨by rfl, ?_⟩) (by assumption) ?_
        rotate_left
        · (intro w' hSw; (try dsimp only at hSw); go_simp <;> (with_reducible rfl))
        try simp only [Act.put, List.setIfInBounds_toArray, List.set_cons_zero, List.set_cons_succ]
        refine take_at (i := 1) (v := ?_) rfl (by kernel_rfl) (by kernel_rfl) (by kernel_rfl) (fun _ _ _ h => h) (Or.inl ⟨by rfl, ?_⟩) (by assumption) ?_
        rotate_left
        · (intro w' hSw; (try dsimp only at hSw); go_simp <;> (with_reducible rfl))
        try simp only [Act.put, List.setIfInBounds_toArray, List.set_cons_zero, List.set_cons_succ]
        refine take_at (i := 2) (v := ?_) rfl (by kernel_rfl) (by kernel_rfl) (by kernel_rfl) (fun _ _ _ h => h) (Or.inl ⟨by rfl, ?_⟩) (by assumption) ?_
        rotate_left
        · (intro w' hSw; (try dsimp only at hSw); go_simp <;> (with_reducible rfl))
        try simp only [Act.put, List.setIfInBounds_toArray, List.set_cons_zero, List.set_cons_succ]
        refine take_at (i := 3) (v := ?_) rfl (by kernel_rfl) (by kernel_rfl) (by kernel_rfl) (fun _ _ _ h => h) (Or.inl ⟨by rfl, ?_⟩) (by assumption) ?_
        rotate_left
        · (intro w' hSw; (try dsimp only at hSw); go_simp <;> (with_reducible rfl))
        try simp only [Act.put, List.setIfInBounds_toArray, List.set_cons_zero, List.set_cons_succ]
        refine take_at (i := 4) (v := ?_) rfl (by kernel_rfl) (by kernel_rfl) (by kernel_rfl) (fun _ _ _ h => h) (Or.inl ⟨by rfl, ?_⟩) (by assumption) ?_
        rotate_left
        · (intro w' hSw; (try dsimp only at hSw); go_simp <;> (with_reducible rfl))
        try simp only [Act.put, List.setIfInBounds_toArray, List.set_cons_zero, List.set_cons_succ]
        refine take_at (i := 5) (v := ?_) rfl (by kernel_rfl) (by kernel_rfl) (by kernel_rfl) (fun _ _ _ h => h) (Or.inl ⟨by rfl, ?_⟩) (by assumption) ?_
        rotate_left
        · (intro w' hSw; (try dsimp only at hSw); go_simp <;> (with_reducible rfl))
        try simp only [Act.put, List.setIfInBounds_toArray, List.set_cons_zero, List.set_cons_succ]
        refine take_at (i := 6) (v := ?_) rfl (by kernel_rfl) (by kernel_rfl) (by kernel_rfl) (fun _ _ _ h => h) (Or.inl ⟨by rfl, ?_⟩) (by assumption) ?_
        rotate_left
        · (intro w' hSw; (try dsimp only at hSw); go_simp <;> (with_reducible rfl))
        try simp only [Act.put, List.setIfInBounds_toArray, List.set_cons_zero, List.set_cons_succ]
        refine take_at (i := 7) (v := ?_) rfl (by kernel_rfl) (by kernel_rfl) (by kernel_rfl) (fun _ _ _ h => h) (Or.inl ⟨by rfl, ?_⟩) (by assumption) ?_
        rotate_left
        · (intro w' hSw; (try dsimp only at hSw); go_simp <;> (with_reducible rfl))
        try simp only [Act.put, List.setIfInBounds_toArray, List.set_cons_zero, List.set_cons_succ]
        refine take_at (i := 8) (v := ?_) rfl (by kernel_rfl) (by kernel_rfl) (by kernel_rfl) (fun _ _ _ h => h) (Or.inl ⟨by rfl, ?_⟩) (by assumption) ?_
        rotate_left
        · (intro w' hSw; (try dsimp only at hSw); go_simp <;> (with_reducible rfl))
        try simp only [Act.put, List.setIfInBounds_toArray, List.set_cons_zero, List.set_cons_succ]
        refine take_at (i := 9) (v := ?_) rfl (by kernel_rfl) (by kernel_rfl) (by kernel_rfl) (fun _ _ _ h => h) (Or.inl ⟨by rfl, ?_⟩) (by assumption) ?_
        rotate_left
        · (intro w' hSw; (try dsimp only at hSw); go_simp <;> (with_reducible rfl))
        try simp only [Act.put, List.setIfInBounds_toArray, List.set_cons_zero, List.set_cons_succ]
        refine take_at (i := 10) (v := ?_) rfl (by kernel_rfl) (by kernel_rfl) (by kernel_rfl) (fun _ _ _ h => h) (Or.inl ⟨by rfl, ?_⟩) (by assumption) ?_
        rotate_left
        · (intro w' hSw; (try dsimp only at hSw); go_simp <;> (with_reducible rfl))
        try simp only [Act.put, List.setIfInBounds_toArray, List.set_cons_zero, List.set_cons_succ]
        refine take_at (i := 12) (v := ?_) rfl (by kernel_rfl) (by kernel_rfl) (by kernel_rfl) (fun _ _ _ h => h) (Or.inl ⟨by rfl, ?_⟩) (by assumption) ?_
        rotate_left
        · (intro w' hSw; (try dsimp only at hSw); go_simp <;> (with_reducible rfl))
        try simp only [Act.put, List.setIfInBounds_toArray, List.set_cons_zero, List.set_cons_succ]
        refine take_at (i := 13) (v := ?_) rfl (by kernel_rfl) (by kernel_rfl) (by kernel_rfl) (fun _ _ _ h => h) (Or.inl ⟨by rfl, ?_⟩) (by assumption) ?_
        rotate_left
        · (intro w' hSw; (try dsimp only at hSw); go_simp <;> (with_reducible rfl))
        try simp only [Act.put, List.setIfInBounds_toArray, List.set_cons_zero, List.set_cons_succ]
        refine take_at (i := 14) (v := ?_) rfl (by kernel_rfl) (by kernel_rfl) (by kernel_rfl) (fun _ _ _ h => h) (Or.inl ⟨by rfl, ?_⟩) (by assumption) ?_
        rotate_left
        · (intro w' hSw; (try dsimp only at hSw); go_simp <;> (with_reducible rfl))
        try simp only [Act.put, List.setIfInBounds_toArray, List.set_cons_zero, List.set_cons_succ]
        refine take_at (i := 15) (v := ?_) rfl (by kernel_rfl) (by kernel_rfl) (by kernel_rfl) (fun _ _ _ h => h) (Or.inl ⟨by rfl, ?_⟩) (by assumption) ?_
        rotate_left
        · (intro w' hSw; (try dsimp only at hSw); go_simp <;> (with_reducible rfl))
        try simp only [Act.put, List.setIfInBounds_toArray, List.set_cons_zero, List.set_cons_succ]
        refine take_at (i := 16) (v := ?_) rfl (by kernel_rfl) (by kernel_rfl) (by kernel_rfl) (fun _ _ _ h => h) (Or.inl ⟨by rfl, ?_⟩) (by assumption) ?_
        rotate_left
        · (intro w' hSw; (try dsimp only at hSw); go_simp <;> (with_reducible rfl))
        try simp only [Act.put, List.setIfInBounds_toArray, List.set_cons_zero, List.set_cons_succ]
        refine take_at (i := 17) (v := ?_) rfl (by kernel_rfl) (by kernel_rfl) (by kernel_rfl) (fun _ _ _ h => h) (Or.inl ⟨by rfl, ?_⟩) (by assumption) ?_
        rotate_left
        · (intro w' hSw; (try dsimp only at hSw); go_simp <;> (with_reducible rfl))
        try simp only [Act.put, List.setIfInBounds_toArray, List.set_cons_zero, List.set_cons_succ]
        refine take_at (i := 18) (v := ?_) rfl (by kernel_rfl) (by kernel_rfl) (by kernel_rfl) (fun _ _ _ h => h) (Or.inl ⟨by rfl, ?_⟩) (by assumption) ?_
        rotate_left
        · (intro w' hSw; (try dsimp only at hSw); go_simp <;> (with_reducible rfl))
        try simp only [Act.put, List.setIfInBounds_toArray, List.set_cons_zero, List.set_cons_succ]
        refine take_at (i := 19) (v := ?_) rfl (by kernel_rfl) (by kernel_rfl) (by kernel_rfl) (fun _ _ _ h => h) (Or.inl ⟨by rfl, ?_⟩) (by assumption) ?_
        rotate_left
        · (intro w' hSw; (try dsimp only at hSw); go_simp <;> (with_reducible rfl))
        try simp only [Act.put, List.setIfInBounds_toArray, List.set_cons_zero, List.set_cons_succ]
        refine take_at (i := 20) (v := ?_) rfl (by kernel_rfl) (by kernel_rfl) (by kernel_rfl) (fun _ _ _ h => h) (Or.inl ⟨by rfl, ?_⟩) (by assumption) ?_
        rotate_left
        · (intro w' hSw; (try dsimp only at hSw); go_simp <;> (with_reducible rfl))
        try simp only [Act.put, List.setIfInBounds_toArray, List.set_cons_zero, List.set_cons_succ]
        refine take_at (i := 21) (v := ?_) rfl (by kernel_rfl) (by kernel_rfl) (by kernel_rfl) (fun _ _ _ h => h) (Or.inl ⟨by rfl, ?_⟩) (by assumption) ?_
        rotate_left
        · (intro w' hSw; (try dsimp only at hSw); go_simp <;> (with_reducible rfl))
        try simp only [Act.put, List.setIfInBounds_toArray, List.set_cons_zero, List.set_cons_succ]
        refine take_at (i := 22) (v := ?_) rfl (by kernel_rfl) (by kernel_rfl) (by kernel_rfl) (fun _ _ _ h => h) (Or.inl ⟨by rfl, ?_⟩) (by assumption) ?_
        rotate_left
        · (intro w' hSw; (try dsimp only at hSw); go_simp <;> (with_reducible rfl))
        try simp only [Act.put, List.setIfInBounds_toArray, List.set_cons_zero, List.set_cons_succ]
        refine one_at (i := 11) rfl (by kernel_rfl) (by rfl) (fun K hK => ?_)
        go_simp
        refine (HT1.out wd hbd).mono ?_
        rintro e w1 ⟨p', rfl, ht1, hb1⟩
        have hb01 := hbd.trans (hb1.mono hbd.size)
        go_simp
        refine hK.out _ _ (held _ hb01) (fun hHeld2 => ?_)
        clear hK K
        try simp only [Act.put, List.setIfInBounds_toArray, List.set_cons_zero, List.set_cons_succ]
        refine one_at (i := 23) rfl (by kernel_rfl) (by rfl) (fun K hK => ?_)
        go_simp
        refine (HX1.out w1 hb01).mono ?_
        rintro e w2 ⟨A2, c2, rfl, hi2, hn2, hb2⟩
        have hb02 := hb01.trans (hb2.mono hb01.size)
        have ht2 := ht1.below hb2
        go_simp
        refine hK.out _ _ (held _ hb02) (fun hHeld3 => ?_)
        clear hK K
        try simp only [Act.put, List.setIfInBounds_toArray, List.set_cons_zero, List.set_cons_succ]
        refine take_at (i := 24) (v := ?_) rfl (by kernel_rfl) (by kernel_rfl) (by kernel_rfl) (fun _ _ _ h => h) (Or.inl ⟨by rfl, ?_⟩) (by assumption) ?_
        rotate_left
        · (intro w' hSw; (try dsimp only at hSw); go_simp <;> (with_reducible rfl))
        try simp only [Act.put, List.setIfInBounds_toArray, List.set_cons_zero, List.set_cons_succ]
        refine take_at (i := 25) (v := ?_) rfl (by kernel_rfl) (by kernel_rfl) (by kernel_rfl) (fun _ _ _ h => h) (Or.inl ⟨by rfl, ?_⟩) (by assumption) ?_
        rotate_left
        · (intro w' hSw; (try dsimp only at hSw); go_simp <;> (with_reducible rfl))
        try simp only [Act.put, List.setIfInBounds_toArray, List.set_cons_zero, List.set_cons_succ]
        refine wpAnyH_done (by kernel_rfl) ?_ _
        try simp only [Act.put, List.setIfInBounds_toArray, List.set_cons_zero, List.set_cons_succ]
        have HH := Lib.hid (And.intro ht2 (And.intro hi2 (And.intro hn2 hb02)))
        clear ht2 hi2 hn2 hb02 s0 hb2 ht1 hb1 hb01 hHeld hHeld2 hHeld3
        go_wp2_with fail
        go_roundw
        case rel => exact ⟨j + 1, p', A2, c2, by simp, hjn, rfl, by rw [HSu.out], by rw [HSu.out]; exact HH.out.1, by rw [HSu.out]; exact HH.out.2.1, by rw [HSu.out]; exact HH.out.2.2.1, HBr.out.trans (HH.out.2.2.2.mono HBr.out.size)⟩
        case measure => (simp [intOf] <;> omega)
    · obtain rfl : j = n := by omega
      have htk : ds.take j = ds := List.take_of_length_le (by rw [HN.out]; exact Nat.le_refl _)
      rw [htk] at HTr HIt HNo ⊢
      clear ht hit hno hbr htk
      go_wp2_with fail
      go_ret2
      exact ⟨p, Ao, co, rfl, HTr.out, HIt.out, HNo.out, HBr.out⟩
end Go.Proofs.Ytainljbkejafcaa.N
