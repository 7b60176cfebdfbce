/- The walks of Before, the document's Before; a leaf in memory, and Leaf, Find, Least over it. -/
import Derived.Test.YtainljbkejafcaaNBase
namespace Go.Proofs.Ytainljbkejafcaa.N
open Go.RowKit
set_option linter.unusedVariables false
set_option linter.unusedSimpArgs false
theorem results_cell_cell {fn : Func} {p u : Tmp} {ty tz : TypeId} (h : fn.results = #[.cell p ty, .cell u tz]) (tmps : Array Value) (P : Program) (w : World) :
    (results fn tmps).run P w =
      ((asAddr (tmps.getD p undef)).run P w).andThen fun a w₁ => ((loadVar ty a).run P w₁).andThen fun v w₂ => ((asAddr (tmps.getD u undef)).run P w₂).andThen fun b w₃ => ((loadVar tz b).run P w₃).andThen fun x w₄ => .ok (.tuple #[v, x]) w₄ := by
  simp only [results, h]
  simp [Sem.run_bind, Result.andThen]
  repeat' (split <;> simp)
theorem order_at' (a b : Sp) (w : World) : Calls Try.prog 56 #[.agg #[.int .i64 a.br, .int .i64 a.vol, .int .i64 a.blk, .int .u64 a.num], .agg #[.int .i64 b.br, .int .i64 b.vol, .int .i64 b.blk, .int .u64 b.num]] w fun e w' => e = .returned (.int .i64 (ordS a b)) ∧ Below w.heap.size w w' := order_at a b w
theorem three_allocs (w : World) (o1 o2 o3 : Obj) : ∃ W, W = ((w.alloc o1).alloc o2).alloc o3 ∧ W.heap[w.heap.size]? = some o1 ∧ W.heap[w.heap.size + 1]? = some o2 ∧ W.heap[w.heap.size + 1 + 1]? = some o3 ∧ Below w.heap.size w W := by
  have h1 := heap_alloc_new w o1
  have h2 := heap_alloc_new (w.alloc o1) o2
  have h3 := heap_alloc_new ((w.alloc o1).alloc o2) o3
  simp only [World.size_alloc] at h2 h3
  refine ⟨_, rfl, ?_, ?_, h3, (((Below.refl _ _).alloc (Nat.le_refl _) _).alloc (by simp) _).alloc (by simp; omega) _⟩
  · rw [Below.heap_alloc _ _ _ (by simp; omega), Below.heap_alloc _ _ _ (by simp), h1]
  · rw [Below.heap_alloc _ _ _ (by simp), h2]
def lt (a b : Sp) : Bool := decide (ordS a b < 0)
set_option maxHeartbeats 800000 in
theorem before_at (a b : Sp) (w : World) : Calls Try.prog 20 #[a.v, b.v] w fun e w' => e = .returned (.bool (lt a b)) ∧ Below w.heap.size w w' := by
  have HO := fun W => Lib.hid (order_at a b W)
  unfold Sp.v at HO ⊢
  go_enter Try.func20, Try.ntmps20
  go_wp2_with fail
  refine (HO _).out.mono ?_
  rintro e w' ⟨rfl, hb⟩
  go_wp2_with fail
  go_ret
  exact ⟨rfl, (((Below.refl _ _).alloc (Nat.le_refl _) _).alloc (by simp) _).trans (hb.mono (by simp; omega))⟩
def c3 (s : Sp) : List Int := [s.br, s.vol, s.blk]
theorem four_allocs (w : World) (o1 o2 o3 o4 : Obj) : ∃ W, W = (((w.alloc o1).alloc o2).alloc o3).alloc o4 ∧ W.heap[w.heap.size]? = some o1 ∧ W.heap[w.heap.size + 1]? = some o2 ∧ W.heap[w.heap.size + 1 + 1]? = some o3 ∧ W.heap[w.heap.size + 1 + 1 + 1]? = some o4 ∧ Below w.heap.size w W := by
  have h1 := heap_alloc_new w o1
  have h2 := heap_alloc_new (w.alloc o1) o2
  have h3 := heap_alloc_new ((w.alloc o1).alloc o2) o3
  have h4 := heap_alloc_new (((w.alloc o1).alloc o2).alloc o3) o4
  simp only [World.size_alloc] at h2 h3 h4
  refine ⟨_, rfl, ?_, ?_, ?_, h4, ((((Below.refl _ _).alloc (Nat.le_refl _) _).alloc (by simp) _).alloc (by simp; omega) _).alloc (by simp; omega) _⟩
  · rw [Below.heap_alloc _ _ _ (by simp <;> omega), Below.heap_alloc _ _ _ (by simp <;> omega), Below.heap_alloc _ _ _ (by simp), h1]
  · rw [Below.heap_alloc _ _ _ (by simp <;> omega), Below.heap_alloc _ _ _ (by simp <;> omega), h2]
  · rw [Below.heap_alloc _ _ _ (by simp), h3]
theorem cmp3_lt {x y : Int} (h : x < y) : cmp3 x y = -1 := if_pos h
theorem cmp3_gt {x y : Int} (h : y < x) : cmp3 x y = 1 := by unfold cmp3; rw [if_neg (by omega), if_pos h]
theorem cmp3_eq (x : Int) : cmp3 x x = 0 := by unfold cmp3; rw [if_neg (by omega), if_neg (by omega)]
theorem cmp3_zero {x y : Int} : cmp3 x y = 0 ↔ x = y := by unfold cmp3; split <;> (try split) <;> omega
theorem cmp3_neg {x y : Int} : cmp3 x y < 0 ↔ x < y := by unfold cmp3; split <;> (try split) <;> omega
theorem lt_iff (a b : Sp) : lt a b = true ↔ a.br < b.br ∨ a.br = b.br ∧ (a.vol < b.vol ∨ a.vol = b.vol ∧ (a.blk < b.blk ∨ a.blk = b.blk ∧ a.num < b.num)) := by
  unfold lt ordS
  rw [decide_eq_true_iff]
  by_cases h1 : a.br = b.br
  · rw [if_neg (by rw [cmp3_zero.2 h1]; simp)]
    by_cases h2 : a.vol = b.vol
    · rw [if_neg (by rw [cmp3_zero.2 h2]; simp)]
      by_cases h3 : a.blk = b.blk
      · rw [if_neg (by rw [cmp3_zero.2 h3]; simp), cmp3_neg]; omega
      · rw [if_pos (fun e => h3 (cmp3_zero.1 e)), cmp3_neg]; omega
    · rw [if_pos (fun e => h2 (cmp3_zero.1 e)), cmp3_neg]; omega
  · rw [if_pos (fun e => h1 (cmp3_zero.1 e)), cmp3_neg]; omega
theorem ordS_zero (a b : Sp) : ordS a b = 0 ↔ a = b := by
  rw [ordS_or]
  have e : a = b ↔ a.br = b.br ∧ a.vol = b.vol ∧ a.blk = b.blk ∧ a.num = b.num := by cases a; cases b; simp
  rw [e]
  simp only [orL]
  by_cases h1 : cmp3 a.br b.br = 0
  · rw [if_pos h1]
    by_cases h2 : cmp3 a.vol b.vol = 0
    · rw [if_pos h2]
      by_cases h3 : cmp3 a.blk b.blk = 0
      · rw [if_pos h3]
        by_cases h4 : cmp3 a.num b.num = 0
        · rw [if_pos h4]; exact ⟨fun _ => ⟨cmp3_zero.1 h1, cmp3_zero.1 h2, cmp3_zero.1 h3, cmp3_zero.1 h4⟩, fun _ => rfl⟩
        · rw [if_neg h4]; exact ⟨fun h => absurd h h4, fun h => absurd (cmp3_zero.2 h.2.2.2) h4⟩
      · rw [if_neg h3]; exact ⟨fun h => absurd h h3, fun h => absurd (cmp3_zero.2 h.2.2.1) h3⟩
    · rw [if_neg h2]; exact ⟨fun h => absurd h h2, fun h => absurd (cmp3_zero.2 h.2.1) h2⟩
  · rw [if_neg h1]; exact ⟨fun h => absurd h h1, fun h => absurd (cmp3_zero.2 h.1) h1⟩
set_option maxHeartbeats 3200000 in
set_option maxRecDepth 100000 in
theorem rbefore_at (a b : Sp) (w : World) : Calls Try.prog 21 #[a.v, b.v] w fun e w' => e = .returned (.bool (lt a b)) ∧ Below w.heap.size w w' := by
  unfold Sp.v
  go_enter Try.func21, Try.ntmps21
  go_wp2_with fail
  obtain ⟨W, hW, h1, h2, h3, h4, hb⟩ := four_allocs w (.cells #[.int .i64 a.br, .int .i64 a.vol, .int .i64 a.blk, .int .u64 a.num] 26) (.cells #[.int .i64 b.br, .int .i64 b.vol, .int .i64 b.blk, .int .u64 b.num] 26) (.cells #[.int .i64 a.br, .int .i64 a.vol, .int .i64 a.blk] 3) (.cells #[.int .i64 b.br, .int .i64 b.vol, .int .i64 b.blk] 3)
  rw [← hW]
  clear hW
  have a3 : W.cell? ⟨w.heap.size, 3, none⟩ = some (.int .u64 a.num) := by simp only [World.cell?, h1]; rfl
  have b3 : W.cell? ⟨w.heap.size + 1, 3, none⟩ = some (.int .u64 b.num) := by simp only [World.cell?, h2]; rfl
  have x0 : W.cell? ⟨w.heap.size + 1 + 1, 0, none⟩ = some (.int .i64 a.br) := by simp only [World.cell?, h3]; rfl
  have x1 : W.cell? ⟨w.heap.size + 1 + 1, 1, none⟩ = some (.int .i64 a.vol) := by simp only [World.cell?, h3]; rfl
  have x2 : W.cell? ⟨w.heap.size + 1 + 1, 2, none⟩ = some (.int .i64 a.blk) := by simp only [World.cell?, h3]; rfl
  have y0 : W.cell? ⟨w.heap.size + 1 + 1 + 1, 0, none⟩ = some (.int .i64 b.br) := by simp only [World.cell?, h4]; rfl
  have y1 : W.cell? ⟨w.heap.size + 1 + 1 + 1, 1, none⟩ = some (.int .i64 b.vol) := by simp only [World.cell?, h4]; rfl
  have y2 : W.cell? ⟨w.heap.size + 1 + 1 + 1, 2, none⟩ = some (.int .i64 b.blk) := by simp only [World.cell?, h4]; rfl
  have HL := lt_iff a b
  clear h1 h2 h3 h4
  have HB : Hid (Below w.heap.size w W) := hb
  clear hb
  have HT := Lib.hid HL
  clear HL
  generalize w.heap.size + 1 + 1 + 1 = q4 at *
  generalize w.heap.size + 1 + 1 = q3 at *
  generalize w.heap.size + 1 = q2 at *
  go_loopw [7] (fun i wr => ∃ q : Nat, wr = W.drewN q ∧ ∃ n : Nat, i = .int .i64 n ∧ n ≤ 3 ∧ (0 < n → a.br = b.br) ∧ (1 < n → a.vol = b.vol) ∧ (2 < n → a.blk = b.blk)) (fun i _ => (3 - intOf i).toNat)
  case atStart => exact ⟨0, rfl, 0, rfl, by omega, by omega, by omega, by omega⟩
  case round =>
    obtain ⟨q, rfl, n, rfl, hn, g0, g1, g2⟩ := hrel
    have BB := HB.out.trans (bel_drewN w.heap.size W (n := q))
    rcases (show n = 0 ∨ n = 1 ∨ n = 2 ∨ n = 3 by omega) with rfl | rfl | rfl | rfl
    · by_cases c : a.br = b.br
      · have C : (a.br == b.br) = true := by simpa using c
        go_wp2_with fail
        go_quiet (fail)
        go_wp2_with fail
        go_roundw
        case rel => exact ⟨_, rfl, 1, by simp, by omega, fun _ => c, by omega, by omega⟩
        case measure => simp [intOf]
      · have C : (a.br == b.br) = false := by simpa using c
        go_wp2_with fail
        go_quiet (fail)
        go_wp2_with fail
        go_quiet (fail)
        go_wp2_with fail
        go_ret
        exact ⟨by
          have : decide (a.br < b.br) = lt a b := by
            rw [Bool.eq_iff_iff, HT.out]; simp; omega
          rw [← this]; rfl, by (try simp only [World.drewN_drewN]); exact HB.out.trans (bel_drewN _ _)⟩
    · by_cases c : a.vol = b.vol
      · have C : (a.vol == b.vol) = true := by simpa using c
        go_wp2_with fail
        go_quiet (fail)
        go_wp2_with fail
        go_roundw
        case rel => exact ⟨_, rfl, 2, by simp, by omega, fun _ => g0 (by omega), fun _ => c, by omega⟩
        case measure => simp [intOf]
      · have C : (a.vol == b.vol) = false := by simpa using c
        go_wp2_with fail
        go_quiet (fail)
        go_wp2_with fail
        go_quiet (fail)
        go_wp2_with fail
        go_ret
        exact ⟨by
          have : decide (a.vol < b.vol) = lt a b := by
            rw [Bool.eq_iff_iff, HT.out]; simp; omega
          rw [← this]; rfl, by (try simp only [World.drewN_drewN]); exact HB.out.trans (bel_drewN _ _)⟩
    · by_cases c : a.blk = b.blk
      · have C : (a.blk == b.blk) = true := by simpa using c
        go_wp2_with fail
        go_quiet (fail)
        go_wp2_with fail
        go_roundw
        case rel => exact ⟨_, rfl, 3, by simp, by omega, fun _ => g0 (by omega), fun _ => g1 (by omega), fun _ => c⟩
        case measure => simp [intOf]
      · have C : (a.blk == b.blk) = false := by simpa using c
        go_wp2_with fail
        go_quiet (fail)
        go_wp2_with fail
        go_quiet (fail)
        go_wp2_with fail
        go_ret
        exact ⟨by
          have : decide (a.blk < b.blk) = lt a b := by
            rw [Bool.eq_iff_iff, HT.out]; simp; omega
          rw [← this]; rfl, by (try simp only [World.drewN_drewN]); exact HB.out.trans (bel_drewN _ _)⟩
    · go_wp2_with fail
      go_ret
      exact ⟨by
        have : decide (a.num < b.num) = lt a b := by
          rw [Bool.eq_iff_iff, HT.out]; have := g0 (by omega); have := g1 (by omega); have := g2 (by omega); simp; omega
        rw [← this]; rfl, BB⟩
end Go.Proofs.Ytainljbkejafcaa.N
