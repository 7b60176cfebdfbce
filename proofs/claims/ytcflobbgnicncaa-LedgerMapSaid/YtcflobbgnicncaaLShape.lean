/- The walk of 'shape', and what its shapes are. -/
import Derived.Test.YtcflobbgnicncaaLAwake
namespace Go.Proofs.Ytcflobbgnicncaa.L
open Go.RowKit
set_option linter.unusedVariables false
set_option linter.unusedSimpArgs false
theorem wf8 {a : Int} (h : (Lit.int .u8 a).wf = true) : 0 ≤ a ∧ a ≤ 255 := by
  simp [Lit.wf, IntKind.min, IntKind.max, IntKind.bits, IntKind.signed] at h; omega
def segsOf (a : Int) : Int := 3 + a % 20
def sizeOf' (b : Int) : Int := 1 + b % 16
theorem shape_ok (a b : Int) : okS (segsOf a) (sizeOf' b) := by unfold okS segsOf sizeOf'; omega
def mostAt (a b : Int) : Int := mostOf (segsOf a) (sizeOf' b)
theorem mostAt_eq (a b : Int) : mostAt a b = (segsOf a - 2) * sizeOf' b := if_pos (shape_ok a b)
theorem mostAt_bd (a b : Int) : 1 ≤ mostAt a b ∧ mostAt a b ≤ 320 := by
  rw [mostAt_eq]
  have h1 : 1 ≤ segsOf a - 2 ∧ segsOf a - 2 ≤ 20 := by unfold segsOf; omega
  have h2 : 1 ≤ sizeOf' b ∧ sizeOf' b ≤ 16 := by unfold sizeOf'; omega
  have := Int.mul_le_mul h1.2 h2.2 (by omega) (by omega)
  have h3 : 1 * 1 ≤ (segsOf a - 2) * sizeOf' b := Int.mul_le_mul h1.1 h2.1 (by omega) (by omega)
  omega
set_option maxHeartbeats 400000 in
theorem shape_any (a b : Int) (w : World) (ha : 0 ≤ a) (ha' : a ≤ 255) (hb : 0 ≤ b) (hb' : b ≤ 255) : Calls Try.prog 21 #[.int .u8 a, .int .u8 b] w fun e w' => e = .returned (.agg #[.int .i64 (segsOf a), .int .i64 (sizeOf' b)]) ∧ Below w.heap.size w w' := by
  unfold segsOf sizeOf'
  go_enter Try.func21, Try.ntmps21
  go_wp2
  refine bodyPost_ret (v := .agg #[.int .i64 (3 + a % 20), .int .i64 (1 + b % 16)]) (by simp [results, Try.results21, go_sem]) rfl ⟨rfl, ?_⟩
  exact (Below.refl _ _).alloc (Nat.le_refl _) _
/-- A new account of a shape. -/
theorem new_shape (a b : Int) (w : World) : Calls Try.prog 12 #[.agg #[.int .i64 (segsOf a), .int .i64 (sizeOf' b)]] w fun e w' => ∃ g, e = .returned (.pointer (some ⟨g, 0, none⟩)) ∧ w.heap.size ≤ g ∧ IsLed w' g (mostAt a b) 0 ∧ Below w.heap.size w w' := new_any _ _ w
theorem take_yes {g : Nat} {m l n : Int} {w : World} (h : IsLed w g m l) (h0 : 0 ≤ l) (h1 : l ≤ m) (h2 : m ≤ 100000) (c0 : 0 ≤ n) (c1 : n ≤ m - l) :
    Calls Try.prog 16 #[.pointer (some ⟨g, 0, none⟩), .int .i64 n] w fun e w' => e = .returned (.int .i64 0) ∧ IsLed w' g m (l + n) ∧ Only g w w' :=
  take_at h h0 h1 h2 0 (l + n) (by unfold takeE; rw [if_neg (by omega), if_neg (by omega)]) (by unfold takeL; rw [if_neg (by omega), if_neg (by omega)])
theorem take_no {g : Nat} {m l n : Int} {w : World} (h : IsLed w g m l) (h0 : 0 ≤ l) (h1 : l ≤ m) (h2 : m ≤ 100000) (c0 : 0 ≤ n) (c1 : ¬ n ≤ m - l) :
    Calls Try.prog 16 #[.pointer (some ⟨g, 0, none⟩), .int .i64 n] w fun e w' => e = .returned (.int .i64 6) ∧ IsLed w' g m l ∧ Only g w w' :=
  take_at h h0 h1 h2 6 l (by unfold takeE; rw [if_neg (by omega), if_pos (by omega)]) (by unfold takeL; rw [if_neg (by omega), if_pos (by omega)])
theorem give_yes {g : Nat} {m l n : Int} {w : World} (h : IsLed w g m l) (h0 : 0 ≤ l) (h1 : l ≤ m) (h2 : m ≤ 100000) (c0 : 0 ≤ n) (c1 : n ≤ l) :
    Calls Try.prog 15 #[.pointer (some ⟨g, 0, none⟩), .int .i64 n] w fun e w' => e = .returned (.int .i64 0) ∧ IsLed w' g m (l - n) ∧ Only g w w' :=
  give_at h h0 h1 h2 0 (l - n) (by unfold giveE; rw [if_neg (by omega), if_neg (by omega)]) (by unfold giveL; rw [if_neg (by omega), if_neg (by omega)])
theorem fits_yes {g : Nat} {m l n : Int} {w : World} (h : IsLed w g m l) (h0 : 0 ≤ l) (h1 : l ≤ m) (h2 : m ≤ 100000) (c : 0 ≤ n ∧ n ≤ m - l) :
    Calls Try.prog 20 #[.pointer (some ⟨g, 0, none⟩), .int .i64 n] w fun e w' => e = .returned (.bool true) ∧ w = w' := fits_at h h0 h1 h2 true (by simp [c.1, c.2])
theorem fits_not {g : Nat} {m l n : Int} {w : World} (h : IsLed w g m l) (h0 : 0 ≤ l) (h1 : l ≤ m) (h2 : m ≤ 100000) (c : ¬ (0 ≤ n ∧ n ≤ m - l)) :
    Calls Try.prog 20 #[.pointer (some ⟨g, 0, none⟩), .int .i64 n] w fun e w' => e = .returned (.bool false) ∧ w = w' := fits_at h h0 h1 h2 false (by rw [Bool.and_eq_false_iff]; simp; omega)
end Go.Proofs.Ytcflobbgnicncaa.L
