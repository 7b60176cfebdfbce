/- The walk of the reference's Lies: one sector behind the other. -/
import Derived.Test.YtpmcohpffbhknaaPSegmentLiesx2
import Derived.Tactics
import Derived.Tactics2
import Derived.WalkKit
import Derived.WalkSpells
import Derived.LoopTactic
import Derived.OwnWalk
import Derived.Laws.Pointers
import Derived.Laws.OwnMore
import Derived.KernelRfl
import Derived.Below
import Derived.Lib.Hide
namespace Go.Proofs.Ytpmcohpffbhknaa.S
open Go.RowKit
set_option linter.unusedVariables false
set_option linter.unusedSimpArgs false
def cell2 (size j : Nat) : List Value := [.int .i64 ((j / size : Nat) : Int), .int .i64 ((j % size : Nat) : Int)]
/-- The cells of the list behind t slots. -/
def cellsUp (size : Nat) : Nat → List Value
  | 0 => [.int .i64 (-1), .int .i64 (-1), .int .i64 (-1), .int .i64 (-1)]
  | t + 1 => cellsUp size t ++ cell2 size t
theorem cellsUp_len (size t : Nat) : (cellsUp size t).length = 2 * (t + 2) := by
  induction t with
  | zero => rfl
  | succ t ih => simp only [cellsUp, List.length_append, ih]; simp [cell2]; omega
theorem cellsUp_neg (size t j : Nat) (hj : j < 4) : (cellsUp size t)[j]? = some (.int .i64 (-1)) := by
  induction t with
  | zero => match j, hj with
    | 0, _ => rfl
    | 1, _ => rfl
    | 2, _ => rfl
    | 3, _ => rfl
  | succ t ih => simp only [cellsUp]; rw [List.getElem?_append_left (by rw [cellsUp_len]; omega)]; exact ih
theorem cellsUp_at (size t j : Nat) (hj : j < t) : (cellsUp size t)[2 * (j + 2)]? = some (.int .i64 ((j / size : Nat) : Int)) ∧ (cellsUp size t)[2 * (j + 2) + 1]? = some (.int .i64 ((j % size : Nat) : Int)) := by
  induction t with
  | zero => omega
  | succ t ih =>
    simp only [cellsUp]
    by_cases c : j < t
    · rw [List.getElem?_append_left (by rw [cellsUp_len]; omega), List.getElem?_append_left (by rw [cellsUp_len]; omega)]
      exact ih c
    · obtain rfl : j = t := by omega
      rw [List.getElem?_append_right (by rw [cellsUp_len]; omega), List.getElem?_append_right (by rw [cellsUp_len]; omega), cellsUp_len]
      rw [show 2 * (j + 2) - 2 * (j + 2) = 0 by omega, show 2 * (j + 2) + 1 - 2 * (j + 2) = 1 by omega]
      exact ⟨rfl, rfl⟩
theorem info42 : (Try.prog.info? 42).map (fun i => (i.zero, i.size, i.bytes)) = some (some (.agg #[.int .i64 0, .int .i64 0]), 2, 16) := by kernel_rfl
def OutRel (B size seg : Nat) (w : World) (out i : Value) (wr : World) : Prop :=
  ∃ k : Nat, k ≤ seg ∧ i = .int .i64 k ∧ wr.ownsRow B 42 2 out (k * size + 2) (cellsUp size (k * size)) ∧ Below B w wr
def InRel (B size k : Nat) (w : World) (out i : Value) (wr : World) : Prop :=
  ∃ t : Nat, t ≤ size ∧ i = .int .i64 t ∧ wr.ownsRow B 42 2 out (k * size + t + 2) (cellsUp size (k * size + t)) ∧ Below B w wr
theorem cell2_at (size k t : Nat) (ht : t < size) : cell2 size (k * size + t) = [.int .i64 (k : Int), .int .i64 (t : Int)] := by
  unfold cell2
  rw [Nat.mul_comm, Nat.mul_add_div (by omega), Nat.mul_add_mod, Nat.div_eq_of_lt ht, Nat.mod_eq_of_lt ht, Nat.add_zero]
theorem mulle (k size seg : Nat) (h1 : k ≤ 64) (h2 : size ≤ 32) : k * size ≤ 2048 := by
  have := Nat.mul_le_mul h1 h2; omega
theorem start_own (w : World) : (w.alloc (.cells #[.int .i64 (-1), .int .i64 (-1), .int .i64 (-1), .int .i64 (-1)] 42)).ownsRow w.heap.size 42 2 (.slice (some ⟨w.heap.size, 0, none⟩) 2 2) 2 (cellsUp 1 0) :=
  ⟨rfl, .inr ⟨w.heap.size, 2, _, rfl, Nat.le_refl _, heap_alloc_new _ _, Nat.le_refl _, by simp [maxLen], rfl, rfl⟩⟩
set_option maxHeartbeats 3200000 in
set_option maxRecDepth 100000 in
theorem lies_ok (seg size : Nat) (w : World) (h1 : seg ≤ 64) (h2 : size ≤ 32) :
    Calls Try.prog 20 #[.int .i64 seg, .int .i64 size] w fun e w' => ∃ v, e = .returned v ∧ w'.ownsRow w.heap.size 42 2 v (seg * size + 2) (cellsUp size (seg * size)) ∧ Below w.heap.size w w' := by
  obtain ⟨i0, hi0, hz0, hz1, hz2⟩ := info_parts info42
  have hS := start_own w
  have hb0 : Below w.heap.size w (w.alloc (.cells #[.int .i64 (-1), .int .i64 (-1), .int .i64 (-1), .int .i64 (-1)] 42)) := (Below.refl _ _).alloc (Nat.le_refl _) _
  go_enter Try.func20, Try.ntmps20
  go_wp2_with fail
  go_loopw [5, 6] (fun out i wr => OutRel w.heap.size size seg w out i wr) (fun _ i _ => seg - (intOf i).toNat)
  case atStart => exact ⟨0, by omega, rfl, by rw [Nat.zero_mul]; exact hS, hb0⟩
  case round =>
    obtain ⟨k, hk, rfl, hown, hB⟩ := hrel
    have hm := mulle k size seg (by omega) h2
    by_cases c : k < seg
    · obtain ⟨wo, rfl⟩ : ∃ wo : World, wo = wr := ⟨_, rfl⟩
      go_wp2_with fail
      go_loopw [5, 7] (fun out i wr => InRel w.heap.size size k w out i wr) (fun _ i _ => size - (intOf i).toNat)
      case atStart => exact ⟨0, by omega, rfl, hown, hB⟩
      case round =>
        obtain ⟨t, ht, rfl, hown2, hB2⟩ := hrel
        by_cases c2 : t < size
        · have E := Lib.hid (cell2_at size k t c2)
          have hsz := hB2.size
          go_wp2_with (at_builtin; go_must (refine wpList_append_own _ rfl _ _ 40 rfl w.heap.size 42 i0 (.agg #[.int .i64 0, .int .i64 0]) 2 16 Try.underlying40 hi0 hz0 hz1 hz2 rfl (by decide) _ _ _ rfl (hown2.alloc _) ⟨wr.heap.size, 0, none⟩ 1 1 [.int .i64 k, .int .i64 t] rfl rfl ?c1 ?c2 ?c3 ?c4 ?c5 ?_))
          case c1 => exact World.news_of_block (cs := #[.int .i64 k, .int .i64 t]) (t := 42) (fr := (0, 0)) (heap_alloc_new wr _)
          case c2 => simp [Value.oneCell']
          case c3 => simp [maxLen]; omega
          case c4 => omega
          case c5 => simp; omega
          intro v' w1 hown3 hgrow _
          have hB3 : Below w.heap.size w w1 := (hB2.alloc hsz _).grown hgrow (by simp; omega) (fun q hq => by
            rcases hown2.2 with ⟨e, _⟩ | ⟨g, cap, cur, e, hg, _⟩
            · rw [e] at hq; cases hq
            · rw [e] at hq; simp only [Value.ownBlock, Option.some.injEq] at hq; omega)
          clear hgrow
          go_wp2
          go_roundw
          case rel => exact ⟨t + 1, by omega, by go_num, by rw [show k * size + (t + 1) + 2 = k * size + t + 2 + 1 by omega]; show World.ownsRow _ _ _ _ _ _ (cellsUp size (k * size + t) ++ cell2 size (k * size + t)); rw [E.out]; exact hown3, hB3⟩
          case measure => simp [intOf]; omega
        · obtain rfl : t = size := by omega
          go_wp2
          go_roundw
          case rel => exact ⟨k + 1, by omega, by go_num, by rw [Nat.succ_mul]; exact hown2, hB2⟩
          case measure => simp [intOf]; omega
    · obtain rfl : k = seg := by omega
      go_wp2
      go_ret
      exact ⟨_, rfl, hown, hB⟩
end Go.Proofs.Ytpmcohpffbhknaa.S
