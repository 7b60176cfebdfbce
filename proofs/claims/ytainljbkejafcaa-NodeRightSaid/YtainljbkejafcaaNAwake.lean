/- The walks of Right and awake. -/
import Derived.Test.YtainljbkejafcaaNLook
namespace Go.Proofs.Ytainljbkejafcaa.N
open Go.RowKit
set_option linter.unusedVariables false
set_option linter.unusedSimpArgs false
def RightPost (w : World) (n : Nat) (root : Bool) (e : Ending) (w' : World) : Prop := e = .returned (.bool (rightN n root)) ∧ Below w.heap.size w w'
theorem right_from (n : Nat) (root : Bool) (x : Value) (w : World) (H : ∀ X, Below w.heap.size w X → Calls Try.prog 58 #[x, .bool root] X (LookPost X n root)) :
    Calls Try.prog 27 #[x, .bool root] w (RightPost w n root) := by
  have HH := Lib.hid H
  clear H
  go_enter Try.func27, Try.ntmps27
  go_wp2_with fail
  refine (HH.out _ ?_).mono ?_
  · first | exact Below.refl _ _ | exact bel_drewN _ _ (n := 1)
  rintro e w1 ⟨⟨h, s, rfl⟩, hb⟩
  go_wp2_with fail
  go_ret
  exact ⟨rfl, hb.alloc hb.size _⟩
theorem right_nil (w : World) (root : Bool) : Calls Try.prog 27 #[.pointer none, .bool root] w (RightPost w 0 root) :=
  right_from 0 root _ w (fun X _ => look_nil X root)
theorem right_leaf {w : World} {p : Nat} {ks : List Sp} {vs : List Int} (h : Leaf w p ks vs) (hk : ks.length ≤ 1000) (hv : vs.length = ks.length) (hr : Rising ks) (root : Bool) :
    Calls Try.prog 27 #[.pointer (some ⟨p, 0, none⟩), .bool root] w (RightPost w ks.length root) :=
  right_from _ root _ w (fun X hX => look_leaf (h.below hX) hk hv hr root)
def nums (n : Nat) : List Sp := (List.range n).map fun (i : Nat) => ⟨0, 0, 0, (i : Int) + 1⟩
def sevens (n : Nat) : List Int := List.replicate n 7
def RootOf (w : World) (p : Option Addr) (n : Nat) : Prop := (n = 0 ∧ p = none) ∨ (0 < n ∧ ∃ q, p = some ⟨q, 0, none⟩ ∧ Leaf w q (nums n) (sevens n))
theorem nums_find : ∀ n : Nat, n ≤ 4 → findL ⟨0, 0, 0, (n : Int) + 1⟩ (nums n) = ((nums n).length, false)
  | 0, _ => by decide
  | 1, _ => by decide
  | 2, _ => by decide
  | 3, _ => by decide
  | 4, _ => by decide
  | n + 5, h => by omega
theorem nums_len (n : Nat) : (nums n).length = n := by simp [nums]
theorem sevens_len (n : Nat) : (sevens n).length = n := by simp [sevens]
theorem nums_succ (n : Nat) : nums n ++ [⟨0, 0, 0, (n : Int) + 1⟩] = nums (n + 1) := by simp [nums, List.range_succ]
theorem sevens_succ (n : Nat) : sevens n ++ [7] = sevens (n + 1) := by simp [sevens, List.replicate_succ']
/-- Put of the next number. -/
theorem put_num {w : World} {p : Option Addr} {n : Nat} (h : RootOf w p n) (h4 : n < 4) : Calls Try.prog 33 #[.pointer p, .agg #[.int .i64 0, .int .i64 0, .int .i64 0, .int .u64 ((n : Int) + 1)], .int .u64 7] w (OnePost w (nums (n + 1)) (sevens (n + 1))) := by
  rcases h with ⟨rfl, rfl⟩ | ⟨h0, q, rfl, hl⟩
  · exact put_nil ⟨0, 0, 0, 1⟩ 7 w
  · refine (put_end hl (by rw [nums_len]; omega) (by rw [nums_len]; omega) (by rw [nums_len, sevens_len]) ⟨0, 0, 0, (n : Int) + 1⟩ 7 (nums_find n (by omega))).mono fun e w' hp => ?_
    unfold PutPost at hp
    rw [if_pos (by rw [nums_succ, nums_len]; omega), nums_succ, sevens_succ] at hp
    exact hp
theorem put_five {w : World} {p : Option Addr} (h : RootOf w p 4) : Calls Try.prog 33 #[.pointer p, .agg #[.int .i64 0, .int .i64 0, .int .i64 0, .int .u64 5], .int .u64 7] w (TwoPost w ((nums 5).take 3) ((nums 5).drop 3) ((sevens 5).take 3) ((sevens 5).drop 3)) := by
  rcases h with ⟨h, _⟩ | ⟨h0, q, rfl, hl⟩
  · omega
  · refine (put_end hl (by decide) (by decide) (by decide) ⟨0, 0, 0, 5⟩ 7 (by decide)).mono fun e w' hp => ?_
    unfold PutPost at hp
    rw [if_neg (by decide)] at hp
    exact hp
def AwkRel (W : World) (i n : Value) (wr : World) : Prop := ∃ (j : Nat) (p : Option Addr), i = .int .i64 ((j : Int) + 1) ∧ n = .pointer p ∧ j ≤ 4 ∧ RootOf wr p j ∧ Below W.heap.size W wr
theorem nums_rising : Rising (nums 4) := by
  intro j h
  have : j < 3 := by have := h; simp [nums] at this; omega
  match j, this with
  | 0, _ => exact (by decide : lt ⟨0, 0, 0, 1⟩ ⟨0, 0, 0, 2⟩ = true)
  | 1, _ => exact (by decide : lt ⟨0, 0, 0, 2⟩ ⟨0, 0, 0, 3⟩ = true)
  | 2, _ => exact (by decide : lt ⟨0, 0, 0, 3⟩ ⟨0, 0, 0, 4⟩ = true)
set_option maxHeartbeats 1600000 in
set_option maxRecDepth 100000 in
theorem awake_ok (w : World) : Calls Try.prog 19 #[] w fun e w' => e = .returned (.bool true) ∧ Below w.heap.size w w' := by
  go_enter Try.func19, Try.ntmps19
  go_wp2_with fail
  go_loopw [2, 1] (fun i n wr => AwkRel w i n wr) (fun i _ _ => (5 - intOf i).toNat)
  case atStart => exact ⟨0, none, rfl, rfl, by omega, .inl ⟨rfl, rfl⟩, Below.refl _ _⟩
  case round =>
    obtain ⟨j, p, rfl, rfl, hj, hr, hb⟩ := hrel
    have e0 : ((j : Int) + 1 < 5) ↔ j < 4 := by omega
    have hw1 : IntKind.u64.wrap ((j : Int) + 1) = (j : Int) + 1 := by rw [IntKind.wrap_u64]; omega
    have hw2 : IntKind.i64.wrap ((j : Int) + 1 + 1) = (j : Int) + 1 + 1 := by rw [IntKind.wrap_i64]; omega
    have hbz := hb.size
    by_cases c : j < 4
    · have e1 : (j : Int) + 1 < 5 := by omega
      have HP := Lib.hid (put_num hr c)
      go_wp2_with fail
      refine HP.out.mono ?_
      rintro e w1 ⟨s, q, rfl, hs, hsz, hsl, hlf, hqz, hb1⟩
      go_wp2_with fail
      go_roundw
      case rel => exact ⟨j + 1, some ⟨q, 0, none⟩, by simp, rfl, by omega, .inr ⟨by omega, q, rfl, hlf⟩, hb.trans (hb1.mono hbz)⟩
      case measure => simp [intOf]; omega
    · obtain rfl : j = 4 := by omega
      have HP := Lib.hid (put_five hr)
      have hr' : ∃ q, p = some ⟨q, 0, none⟩ ∧ Leaf wr q (nums 4) (sevens 4) := by
        rcases hr with ⟨h, _⟩ | ⟨_, h⟩
        · omega
        · exact h
      obtain ⟨q0, rfl, hl0⟩ := hr'
      have HL0 := Lib.hid hl0
      clear hl0 hr e0 hw1 hw2
      go_wp2_with fail
      refine HP.out.mono ?_
      rintro e w1 ⟨s, x, y, rfl, hx, hy, hsz, hsl, hlx, hly, _, _, hb1⟩
      go_wp2_with fail
      refine (leaf_yes hlx).mono ?_
      rintro e w2 ⟨rfl, rfl⟩
      go_wp2_with fail
      refine (leaf_yes hly).mono ?_
      rintro e w2 ⟨rfl, rfl⟩
      go_wp2_with fail
      refine (right_leaf (HL0.out.below hb1) (by decide) (by decide) nums_rising true).mono ?_
      rintro e w2 ⟨rfl, hb2⟩
      go_wp2_with fail
      refine (right_nil _ true).mono ?_
      rintro e w3 ⟨rfl, hb3⟩
      go_wp2_with fail
      go_ret
      exact ⟨rfl, hb.trans ((hb1.trans ((hb2.trans (hb3.mono hb2.size)).mono hb1.size)).mono hbz)⟩
end Go.Proofs.Ytainljbkejafcaa.N
