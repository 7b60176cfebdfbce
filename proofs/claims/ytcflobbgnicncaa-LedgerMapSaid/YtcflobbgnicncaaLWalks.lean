/- The walks of ledger's functions: New, Take, Give, Live, Most, Room, Fits, over an account that lies in a block of its own. -/
import Derived.Test.YtcflobbgnicncaaPLedgerPlaysx2
import Derived.Tactics
import Derived.Tactics2
import Derived.WalkKit
import Derived.WalkSpells
import Derived.LoopTactic
import Derived.OwnWalk
import Derived.Laws.Pointers
import Derived.KernelRfl
import Derived.Below
import Derived.Lib.Hide
namespace Go.Proofs.Ytcflobbgnicncaa.L
open Go.RowKit Go.Proofs.Ytcflobbgnicncaa.PLedgerPlays
set_option linter.unusedVariables false
set_option linter.unusedSimpArgs false

theorem bcell {W w1 : World} (hb : Below W.heap.size W w1) : (∀ b o, b < W.heap.size → w1.cell? ⟨b, o, none⟩ = W.cell? ⟨b, o, none⟩) ∧ (∀ b o, b < W.heap.size → w1.frozen? ⟨b, o, none⟩ = W.frozen? ⟨b, o, none⟩) :=
  ⟨fun b o h => hb.cell (p := ⟨b, o, none⟩) h, fun b o h => hb.frozen (p := ⟨b, o, none⟩) h⟩
/-- The account that lies in block g. -/
def IsLed (w : World) (g : Nat) (most live : Int) : Prop := w.heap[g]? = some (.cells #[.int .i64 most, .int .i64 live] 43 (0, 0))
/-- Only block g may have changed. -/
structure Only (g : Nat) (w w' : World) : Prop where
  os : w'.os = w.os
  tape : w'.tape = w.tape
  output : w'.output = w.output
  size : w'.heap.size = w.heap.size
  block : ∀ k, k ≠ g → w'.heap[k]? = w.heap[k]?
theorem Only.refl (g : Nat) (w : World) : Only g w w := ⟨rfl, rfl, rfl, rfl, fun _ _ => rfl⟩
theorem Only.below {g B : Nat} {w w' : World} (h : Only g w w') (hB : B ≤ g) : Below B w w' := ⟨h.os, h.tape, h.output, Nat.le_of_eq h.size.symm, fun k hk => h.block k (by omega)⟩
theorem only_set (w : World) (a : Addr) (u : Value) : Only a.block w (w.setCell a u) := ⟨rfl, rfl, rfl, by simp [World.setCell], fun k hk => Below.heap_setCell _ _ _ _ (by omega)⟩
theorem only_at (g o : Nat) (w : World) (u : Value) : Only g w (w.setCell ⟨g, o, none⟩ u) := only_set w ⟨g, o, none⟩ u
theorem IsLed.lt {w : World} {g : Nat} {m l : Int} (h : IsLed w g m l) : g < w.heap.size := (Array.getElem?_eq_some_iff.1 h).1
theorem IsLed.below {w w' : World} {g B : Nat} {m l : Int} (h : IsLed w g m l) (hb : Below B w w') (hg : g < B) : IsLed w' g m l := (hb.block g hg).trans h
theorem IsLed.far {w w' : World} {g g' : Nat} {m l : Int} (h : IsLed w g m l) (hb : Only g' w w') (hg : g ≠ g') : IsLed w' g m l := (hb.block g hg).trans h
theorem IsLed.most {w : World} {g : Nat} {m l : Int} (h : IsLed w g m l) : w.cell? ⟨g, 0, none⟩ = some (.int .i64 m) := by unfold IsLed at h; simp [World.cell?, h]
theorem IsLed.live {w : World} {g : Nat} {m l : Int} (h : IsLed w g m l) : w.cell? ⟨g, 1, none⟩ = some (.int .i64 l) := by unfold IsLed at h; simp [World.cell?, h]
theorem IsLed.free {w : World} {g : Nat} {m l : Int} (h : IsLed w g m l) (o : Nat) : w.frozen? ⟨g, o, none⟩ = false := by unfold IsLed at h; simp [World.frozen?, h]
theorem IsLed.set {w : World} {g : Nat} {m l : Int} (h : IsLed w g m l) (n : Int) : IsLed (w.setCell ⟨g, 1, none⟩ (.int .i64 n)) g m n := by
  unfold IsLed at *; simp [World.setCell, Array.getElem?_modify, h]

theorem live_some (g : Nat) (m l : Int) (w : World) (h : IsLed w g m l) : Calls Try.prog 17 #[.pointer (some ⟨g, 0, none⟩)] w fun e w' => e = .returned (.int .i64 l) ∧ w = w' := by
  have h1 := h.live
  go_enter Try.func17, Try.ntmps17
  go_wp2
  go_ret
  exact ⟨rfl, rfl⟩
theorem live_none (w : World) : Calls Try.prog 17 #[.pointer none] w fun e w' => e = .returned (.int .i64 0) ∧ w = w' := by
  go_enter Try.func17, Try.ntmps17
  go_wp2
  go_ret
  exact ⟨rfl, rfl⟩
theorem most_some (g : Nat) (m l : Int) (w : World) (h : IsLed w g m l) : Calls Try.prog 18 #[.pointer (some ⟨g, 0, none⟩)] w fun e w' => e = .returned (.int .i64 m) ∧ w = w' := by
  have h1 := h.most
  go_enter Try.func18, Try.ntmps18
  go_wp2
  go_ret
  exact ⟨rfl, rfl⟩
theorem most_none (w : World) : Calls Try.prog 18 #[.pointer none] w fun e w' => e = .returned (.int .i64 0) ∧ w = w' := by
  go_enter Try.func18, Try.ntmps18
  go_wp2
  go_ret
  exact ⟨rfl, rfl⟩
theorem room_some (g : Nat) (m l : Int) (w : World) (h : IsLed w g m l) (h0 : 0 ≤ l) (h1 : l ≤ m) (h2 : m ≤ 100000) : Calls Try.prog 19 #[.pointer (some ⟨g, 0, none⟩)] w fun e w' => e = .returned (.int .i64 (m - l)) ∧ w = w' := by
  have H := Lib.hid h
  clear h
  go_enter Try.func19, Try.ntmps19
  go_wp2_with (first | (go_at_call 18; refine (most_some _ _ _ _ H.out).mono ?_; rintro e w' ⟨rfl, rfl⟩) | (go_at_call 17; refine (live_some _ _ _ _ H.out).mono ?_; rintro e w' ⟨rfl, rfl⟩))
  go_ret
  exact ⟨rfl, rfl⟩
theorem room_none (w : World) : Calls Try.prog 19 #[.pointer none] w fun e w' => e = .returned (.int .i64 0) ∧ w = w' := by
  go_enter Try.func19, Try.ntmps19
  go_wp2_with (first | (go_at_call 18; refine (most_none _).mono ?_; rintro e w' ⟨rfl, rfl⟩) | (go_at_call 17; refine (live_none _).mono ?_; rintro e w' ⟨rfl, rfl⟩))
  go_ret
  exact ⟨rfl, rfl⟩
/-- Take's answer. -/
def takeE (m l n : Int) : Int := if n < 0 then 1 else if n > m - l then 6 else 0
def takeL (m l n : Int) : Int := if n < 0 then l else if n > m - l then l else l + n
def giveE (l n : Int) : Int := if n < 0 then 1 else if n > l then 2 else 0
def giveL (l n : Int) : Int := if n < 0 then l else if n > l then l else l - n
set_option maxHeartbeats 800000 in
theorem take_some (g : Nat) (m l n : Int) (w : World) (h : IsLed w g m l) (h0 : 0 ≤ l) (h1 : l ≤ m) (h2 : m ≤ 100000) :
    Calls Try.prog 16 #[.pointer (some ⟨g, 0, none⟩), .int .i64 n] w fun e w' => e = .returned (.int .i64 (takeE m l n)) ∧ IsLed w' g m (takeL m l n) ∧ Only g w w' := by
  have H := Lib.hid h
  have hl := h.live
  have hf := h.free 1
  clear h
  unfold takeE takeL
  by_cases c1 : n < 0
  · rw [if_pos c1, if_pos c1]
    go_enter Try.func16, Try.ntmps16
    go_wp2_with fail
    go_ret
    exact ⟨rfl, H.out, Only.refl _ _⟩
  · rw [if_neg c1, if_neg c1]
    have c1' : 0 ≤ n := by omega
    by_cases c2 : n > m - l
    · rw [if_pos c2, if_pos c2]
      go_enter Try.func16, Try.ntmps16
      go_wp2_with (first | (go_at_call 19; refine (room_some _ _ _ _ H.out h0 h1 h2).mono ?_; rintro e w' ⟨rfl, rfl⟩))
      go_ret
      exact ⟨rfl, H.out, Only.refl _ _⟩
    · rw [if_neg c2, if_neg c2]
      have c3 : n ≤ 100000 := by omega
      have c4 : n ≤ m - l := by omega
      go_enter Try.func16, Try.ntmps16
      go_wp2_with (first | (go_at_call 19; refine (room_some _ _ _ _ H.out h0 h1 h2).mono ?_; rintro e w' ⟨rfl, rfl⟩))
      go_ret
      exact ⟨rfl, H.out.set _, only_at _ _ _ _⟩
set_option maxHeartbeats 800000 in
theorem give_some (g : Nat) (m l n : Int) (w : World) (h : IsLed w g m l) (h0 : 0 ≤ l) (h1 : l ≤ m) (h2 : m ≤ 100000) :
    Calls Try.prog 15 #[.pointer (some ⟨g, 0, none⟩), .int .i64 n] w fun e w' => e = .returned (.int .i64 (giveE l n)) ∧ IsLed w' g m (giveL l n) ∧ Only g w w' := by
  have H := Lib.hid h
  have hl := h.live
  have hf := h.free 1
  clear h
  unfold giveE giveL
  by_cases c1 : n < 0
  · rw [if_pos c1, if_pos c1]
    go_enter Try.func15, Try.ntmps15
    go_wp2_with fail
    go_ret
    exact ⟨rfl, H.out, Only.refl _ _⟩
  · rw [if_neg c1, if_neg c1]
    have c1' : 0 ≤ n := by omega
    by_cases c2 : n > l
    · rw [if_pos c2, if_pos c2]
      go_enter Try.func15, Try.ntmps15
      go_wp2_with fail
      go_ret
      exact ⟨rfl, H.out, Only.refl _ _⟩
    · rw [if_neg c2, if_neg c2]
      have c3 : n ≤ 100000 := by omega
      have c4 : n ≤ l := by omega
      go_enter Try.func15, Try.ntmps15
      go_wp2_with fail
      go_ret
      exact ⟨rfl, H.out.set _, only_at _ _ _ _⟩
theorem fits_some (g : Nat) (m l n : Int) (w : World) (h : IsLed w g m l) (h0 : 0 ≤ l) (h1 : l ≤ m) (h2 : m ≤ 100000) :
    Calls Try.prog 20 #[.pointer (some ⟨g, 0, none⟩), .int .i64 n] w fun e w' => e = .returned (.bool (decide (0 ≤ n) && decide (n ≤ m - l))) ∧ w = w' := by
  have H := Lib.hid h
  clear h
  by_cases c1 : 0 ≤ n
  · by_cases c2 : n ≤ m - l
    · have e1 : (decide (0 ≤ n) && decide (n ≤ m - l)) = true := by simp [c1, c2]
      rw [e1]; clear e1
      go_enter Try.func20, Try.ntmps20
      go_wp2_with (first | (go_at_call 19; refine (room_some _ _ _ _ H.out h0 h1 h2).mono ?_; rintro e w' ⟨rfl, rfl⟩))
      go_ret
      exact ⟨rfl, rfl⟩
    · have e1 : (decide (0 ≤ n) && decide (n ≤ m - l)) = false := by simp [c2]
      rw [e1]; clear e1
      have c3 : decide (n ≤ m - l) = false := by simp [c2]
      go_enter Try.func20, Try.ntmps20
      go_wp2_with (first | (go_at_call 19; refine (room_some _ _ _ _ H.out h0 h1 h2).mono ?_; rintro e w' ⟨rfl, rfl⟩))
      go_ret
      exact ⟨rfl, rfl⟩
  · have e1 : (decide (0 ≤ n) && decide (n ≤ m - l)) = false := by simp [c1]
    rw [e1]; clear e1
    go_enter Try.func20, Try.ntmps20
    go_wp2_with (first | (go_at_call 19; refine (room_some _ _ _ _ H.out h0 h1 h2).mono ?_; rintro e w' ⟨rfl, rfl⟩))
    go_ret
    exact ⟨rfl, rfl⟩
theorem take_none (n : Int) (w : World) : Calls Try.prog 16 #[.pointer none, .int .i64 n] w fun e w' => e = .returned (.int .i64 1) ∧ w = w' := by
  go_enter Try.func16, Try.ntmps16
  go_wp2_with fail
  go_ret
  exact ⟨rfl, rfl⟩
theorem give_none (n : Int) (w : World) : Calls Try.prog 15 #[.pointer none, .int .i64 n] w fun e w' => e = .returned (.int .i64 1) ∧ w = w' := by
  go_enter Try.func15, Try.ntmps15
  go_wp2_with fail
  go_ret
  exact ⟨rfl, rfl⟩
theorem fits_none (n : Int) (w : World) : Calls Try.prog 20 #[.pointer none, .int .i64 n] w fun e w' => e = .returned (.bool false) ∧ w = w' := by
  go_enter Try.func20, Try.ntmps20
  go_wp2_with fail
  go_ret
  exact ⟨rfl, rfl⟩
/-- A shape that may be. -/
def okS (a b : Int) : Prop := 3 ≤ a ∧ a ≤ 64 ∧ 1 ≤ b ∧ b ≤ 32
instance (a b : Int) : Decidable (okS a b) := by unfold okS; exact inferInstance
def mostOf (a b : Int) : Int := if okS a b then (a - 2) * b else 0
theorem w64 {a : Int} (h0 : -9223372036854775808 ≤ a) (h1 : a ≤ 9223372036854775807) : wrap64 a = a := by unfold wrap64; omega
theorem mulb {i b : Int} (h0 : 0 ≤ i) (h1 : i ≤ 64) (h2 : 0 ≤ b) (h3 : b ≤ 32) : 0 ≤ i * b ∧ i * b ≤ 2048 := by
  refine ⟨Int.mul_nonneg h0 h2, ?_⟩
  have := Int.mul_le_mul h1 h3 h2 (by omega : (0 : Int) ≤ 64)
  omega
theorem check_f (a b : Int) : segment_Check.f a b = some (if okS a b then 0 else 2) := by
  unfold segment_Check.f
  by_cases h : okS a b
  · unfold okS at h; rw [if_neg (by omega), if_neg (by omega), if_neg (by omega), if_neg (by omega)]; simp [okS, h]
  · rw [if_neg h]; unfold okS at h
    by_cases h1 : a < 3
    · rw [if_pos h1]
    · by_cases h2 : a > 64
      · rw [if_neg h1, if_pos h2]
      · by_cases h3 : b < 1
        · rw [if_neg h1, if_neg h2, if_pos h3]
        · rw [if_neg h1, if_neg h2, if_neg h3, if_pos (by omega)]
theorem check_yes {a b : Int} (h : okS a b) : segment_Check.f a b = some 0 := by rw [check_f, if_pos h]
theorem check_no {a b : Int} (h : ¬ okS a b) : segment_Check.f a b = some 2 := by rw [check_f, if_neg h]
theorem may_f (a b : Int) : segment_Shape_may.f a b = some (decide (okS a b)) := by
  unfold segment_Shape_may.f
  by_cases h : (!(a == 0) || (!(b == 0))) = true
  · rw [if_pos h, check_f]
    by_cases c : okS a b <;> simp [c]
  · rw [if_neg h]
    have : ¬ okS a b := by simp at h; unfold okS; omega
    simp [this]
theorem most_yes {a b : Int} (h : okS a b) : segment_Shape_Most.f a b = some (mostOf a b) := by
  unfold segment_Shape_Most.f
  rw [may_f]
  have h' := h; unfold okS at h'
  have m := mulb (i := a - 2) (b := b) (by omega) (by omega) (by omega) (by omega)
  have e : mostOf a b = (a - 2) * b := if_pos h
  rw [e]
  simp only [Option.bind_some, h, decide_true, if_true]
  rw [w64 (a := a - 2) (by omega) (by omega), w64 (by omega) (by omega)]
theorem mostOf_bd (a b : Int) : 0 ≤ mostOf a b ∧ mostOf a b ≤ 2048 := by
  unfold mostOf
  split
  · rename_i h; unfold okS at h; exact mulb (by omega) (by omega) (by omega) (by omega)
  · omega
theorem new_led {w W : World} {B : Nat} (hb : Below B w W) (hB : B ≤ W.heap.size) (v : Value) (m : Int) (o : Obj) (ho : o = .cells #[.int .i64 m, .int .i64 0] 43 (0, 0)) : IsLed (W.alloc o) W.heap.size m 0 ∧ Below B w (W.alloc o) := by
  subst ho
  exact ⟨heap_alloc_new _ _, hb.alloc hB _⟩
set_option maxHeartbeats 800000 in
theorem new_any (a b : Int) (w : World) : Calls Try.prog 12 #[.agg #[.int .i64 a, .int .i64 b]] w fun e w' => ∃ g, e = .returned (.pointer (some ⟨g, 0, none⟩)) ∧ w.heap.size ≤ g ∧ IsLed w' g (mostOf a b) 0 ∧ Below w.heap.size w w' := by
  by_cases c : okS a b
  · have C := Lib.hid c
    have hy := Lib.hid (check_yes c)
    have hm := Lib.hid (most_yes c)
    clear c
    go_enter Try.func12, Try.ntmps12
    go_wp2_with (first | (go_at_call 13; refine (segment_Check.calls a b 0 _ hy.out).mono ?_; rintro e w1 ⟨rfl, hb1⟩; obtain ⟨hc1, hf1⟩ := bcell hb1) | (go_at_call 14; refine (segment_Shape_Most.calls a b (mostOf a b) _ hm.out).mono ?_; rintro e w2 ⟨rfl, hb2⟩; obtain ⟨hc2, hf2⟩ := bcell hb2))
    go_ret
    clear hc1 hf1 hc2 hf2
    have hB : Below w.heap.size w w2 := (((Below.refl _ _).alloc (Nat.le_refl _) _).trans (hb1.mono (by simp))).trans (hb2.mono (by have := hb1.size; simp at this; omega))
    obtain ⟨h1, h2⟩ := new_led hB hB.size (.int .i64 0) (mostOf a b) _ rfl
    exact ⟨_, rfl, hB.size, h1, h2⟩
  · have C := Lib.hid c
    have hy := Lib.hid (check_no c)
    have hm : mostOf a b = 0 := if_neg c
    rw [hm]; clear hm c
    go_enter Try.func12, Try.ntmps12
    go_wp2_with (first | (go_at_call 13; refine (segment_Check.calls a b 2 _ hy.out).mono ?_; rintro e w1 ⟨rfl, hb1⟩; obtain ⟨hc1, hf1⟩ := bcell hb1))
    go_ret
    clear hc1 hf1
    have hB : Below w.heap.size w w1 := (((Below.refl _ _).alloc (Nat.le_refl _) _).trans (hb1.mono (by simp)))
    obtain ⟨h1, h2⟩ := new_led hB hB.size (.int .i64 0) 0 _ rfl
    exact ⟨_, rfl, hB.size, h1, h2⟩
end Go.Proofs.Ytcflobbgnicncaa.L
