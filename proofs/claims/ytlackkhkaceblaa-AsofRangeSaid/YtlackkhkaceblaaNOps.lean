/- NOps: joined by merge.py. -/
import Derived.Test.YtlackkhkaceblaaNBase
/- The walks of Before, the document's Before; a leaf in memory, and Leaf, Find, Least over it. -/
namespace Go.Proofs.Ytlackkhkaceblaa.N
open Go.RowKit
set_option linter.unusedVariables false
set_option linter.unusedSimpArgs false
theorem results_cell_cell {fn : Func} {p u : Tmp} {ty tz : TypeId} (h : fn.results = #[.cell p ty, .cell u tz]) (tmps : Array Value) (P : Program) (w : World) :
    (results fn tmps).run P w =
      ((asAddr (tmps.getD p undef)).run P w).andThen fun a w₁ => ((loadVar ty a).run P w₁).andThen fun v w₂ => ((asAddr (tmps.getD u undef)).run P w₂).andThen fun b w₃ => ((loadVar tz b).run P w₃).andThen fun x w₄ => .ok (.tuple #[v, x]) w₄ := by
  simp only [results, h]
  simp [Sem.run_bind, Result.andThen]
  repeat' (split <;> simp)
theorem order_at' (a b : Sp) (w : World) : Calls Try.prog 51 #[.agg #[.int .i64 a.br, .int .i64 a.vol, .int .i64 a.blk, .int .u64 a.num], .agg #[.int .i64 b.br, .int .i64 b.vol, .int .i64 b.blk, .int .u64 b.num]] w fun e w' => e = .returned (.int .i64 (ordS a b)) ∧ Below w.heap.size w w' := order_at a b w
theorem three_allocs (w : World) (o1 o2 o3 : Obj) : ∃ W, W = ((w.alloc o1).alloc o2).alloc o3 ∧ W.heap[w.heap.size]? = some o1 ∧ W.heap[w.heap.size + 1]? = some o2 ∧ W.heap[w.heap.size + 1 + 1]? = some o3 ∧ Below w.heap.size w W := by
  have h1 := heap_alloc_new w o1
  have h2 := heap_alloc_new (w.alloc o1) o2
  have h3 := heap_alloc_new ((w.alloc o1).alloc o2) o3
  simp only [World.size_alloc] at h2 h3
  refine ⟨_, rfl, ?_, ?_, h3, (((Below.refl _ _).alloc (Nat.le_refl _) _).alloc (by simp) _).alloc (by simp; omega) _⟩
  · rw [Below.heap_alloc _ _ _ (by simp; omega), Below.heap_alloc _ _ _ (by simp), h1]
  · rw [Below.heap_alloc _ _ _ (by simp), h2]
def lt (a b : Sp) : Bool := decide (ordS a b < 0)
set_option maxHeartbeats 800000 in
theorem before_at (a b : Sp) (w : World) : Calls Try.prog 38 #[a.v, b.v] w fun e w' => e = .returned (.bool (lt a b)) ∧ Below w.heap.size w w' := by
  have HO := fun W => Lib.hid (order_at a b W)
  unfold Sp.v at HO ⊢
  go_enter Try.func38, Try.ntmps38
  go_wp2_with fail
  refine (HO _).out.mono ?_
  rintro e w' ⟨rfl, hb⟩
  go_wp2_with fail
  go_ret
  exact ⟨rfl, (((Below.refl _ _).alloc (Nat.le_refl _) _).alloc (by simp) _).trans (hb.mono (by simp; omega))⟩
def c3 (s : Sp) : List Int := [s.br, s.vol, s.blk]
theorem four_allocs (w : World) (o1 o2 o3 o4 : Obj) : ∃ W, W = (((w.alloc o1).alloc o2).alloc o3).alloc o4 ∧ W.heap[w.heap.size]? = some o1 ∧ W.heap[w.heap.size + 1]? = some o2 ∧ W.heap[w.heap.size + 1 + 1]? = some o3 ∧ W.heap[w.heap.size + 1 + 1 + 1]? = some o4 ∧ Below w.heap.size w W := by
  have h1 := heap_alloc_new w o1
  have h2 := heap_alloc_new (w.alloc o1) o2
  have h3 := heap_alloc_new ((w.alloc o1).alloc o2) o3
  have h4 := heap_alloc_new (((w.alloc o1).alloc o2).alloc o3) o4
  simp only [World.size_alloc] at h2 h3 h4
  refine ⟨_, rfl, ?_, ?_, ?_, h4, ((((Below.refl _ _).alloc (Nat.le_refl _) _).alloc (by simp) _).alloc (by simp; omega) _).alloc (by simp; omega) _⟩
  · rw [Below.heap_alloc _ _ _ (by simp <;> omega), Below.heap_alloc _ _ _ (by simp <;> omega), Below.heap_alloc _ _ _ (by simp), h1]
  · rw [Below.heap_alloc _ _ _ (by simp <;> omega), Below.heap_alloc _ _ _ (by simp <;> omega), h2]
  · rw [Below.heap_alloc _ _ _ (by simp), h3]
theorem cmp3_lt {x y : Int} (h : x < y) : cmp3 x y = -1 := if_pos h
theorem cmp3_gt {x y : Int} (h : y < x) : cmp3 x y = 1 := by unfold cmp3; rw [if_neg (by omega), if_pos h]
theorem cmp3_eq (x : Int) : cmp3 x x = 0 := by unfold cmp3; rw [if_neg (by omega), if_neg (by omega)]
theorem cmp3_zero {x y : Int} : cmp3 x y = 0 ↔ x = y := by unfold cmp3; split <;> (try split) <;> omega
theorem cmp3_neg {x y : Int} : cmp3 x y < 0 ↔ x < y := by unfold cmp3; split <;> (try split) <;> omega
theorem lt_iff (a b : Sp) : lt a b = true ↔ a.br < b.br ∨ a.br = b.br ∧ (a.vol < b.vol ∨ a.vol = b.vol ∧ (a.blk < b.blk ∨ a.blk = b.blk ∧ a.num < b.num)) := by
  unfold lt ordS
  rw [decide_eq_true_iff]
  by_cases h1 : a.br = b.br
  · rw [if_neg (by rw [cmp3_zero.2 h1]; simp)]
    by_cases h2 : a.vol = b.vol
    · rw [if_neg (by rw [cmp3_zero.2 h2]; simp)]
      by_cases h3 : a.blk = b.blk
      · rw [if_neg (by rw [cmp3_zero.2 h3]; simp), cmp3_neg]; omega
      · rw [if_pos (fun e => h3 (cmp3_zero.1 e)), cmp3_neg]; omega
    · rw [if_pos (fun e => h2 (cmp3_zero.1 e)), cmp3_neg]; omega
  · rw [if_pos (fun e => h1 (cmp3_zero.1 e)), cmp3_neg]; omega
theorem ordS_zero (a b : Sp) : ordS a b = 0 ↔ a = b := by
  rw [ordS_or]
  have e : a = b ↔ a.br = b.br ∧ a.vol = b.vol ∧ a.blk = b.blk ∧ a.num = b.num := by cases a; cases b; simp
  rw [e]
  simp only [orL]
  by_cases h1 : cmp3 a.br b.br = 0
  · rw [if_pos h1]
    by_cases h2 : cmp3 a.vol b.vol = 0
    · rw [if_pos h2]
      by_cases h3 : cmp3 a.blk b.blk = 0
      · rw [if_pos h3]
        by_cases h4 : cmp3 a.num b.num = 0
        · rw [if_pos h4]; exact ⟨fun _ => ⟨cmp3_zero.1 h1, cmp3_zero.1 h2, cmp3_zero.1 h3, cmp3_zero.1 h4⟩, fun _ => rfl⟩
        · rw [if_neg h4]; exact ⟨fun h => absurd h h4, fun h => absurd (cmp3_zero.2 h.2.2.2) h4⟩
      · rw [if_neg h3]; exact ⟨fun h => absurd h h3, fun h => absurd (cmp3_zero.2 h.2.2.1) h3⟩
    · rw [if_neg h2]; exact ⟨fun h => absurd h h2, fun h => absurd (cmp3_zero.2 h.2.1) h2⟩
  · rw [if_neg h1]; exact ⟨fun h => absurd h h1, fun h => absurd (cmp3_zero.2 h.1) h1⟩
end Go.Proofs.Ytlackkhkaceblaa.N
