/- Plain facts on shapes, over the printed functions of SegmentApart. -/
import Derived.Test.YtpmcohpffbhknaaPSegmentApartx2
namespace Go.Proofs.Ytpmcohpffbhknaa.AP
open Go.RowKit Go.Proofs.Ytpmcohpffbhknaa.PSegmentApart Go.Proofs.YtpmcohpffbhknaaW.PrintWords Go.Proofs.YtpmcohpffbhknaaW.PrintLast Go.Proofs.YtpmcohpffbhknaaW.PrintMore
set_option linter.unusedVariables false
set_option linter.unusedSimpArgs false
theorem w64 {a : Int} (h0 : -9223372036854775808 ≤ a) (h1 : a ≤ 9223372036854775807) : wrap64 a = a := by unfold wrap64; omega
theorem wfi {a : Int} (h : (Lit.int .i64 a).wf = true) : -9223372036854775808 ≤ a ∧ a ≤ 9223372036854775807 := by
  simp [Lit.wf, IntKind.min, IntKind.max, IntKind.bits, IntKind.signed] at h; omega
theorem wf8 {a : Int} (h : (Lit.int .u8 a).wf = true) : 0 ≤ a ∧ a ≤ 255 := by
  simp [Lit.wf, IntKind.min, IntKind.max, IntKind.bits, IntKind.signed] at h; omega
def ok (a b : Int) : Prop := 3 ≤ a ∧ a ≤ 64 ∧ 1 ≤ b ∧ b ≤ 32
instance (a b : Int) : Decidable (ok a b) := by unfold ok; exact inferInstance
theorem mulb {i b : Int} (h0 : 0 ≤ i) (h1 : i ≤ 64) (h2 : 0 ≤ b) (h3 : b ≤ 32) : 0 ≤ i * b ∧ i * b ≤ 2048 := by
  refine ⟨Int.mul_nonneg h0 h2, ?_⟩
  have := Int.mul_le_mul h1 h3 h2 (by omega : (0 : Int) ≤ 64)
  omega
theorem mod_lt {x n : Int} (h : 0 < n) : x % n < n := Int.emod_lt_of_pos x h
theorem mod_nn {x n : Int} (h : 0 < n) : 0 ≤ x % n := Int.emod_nonneg x (by omega)
theorem check_f (a b : Int) : segment_Check.f a b = some (if ok a b then 0 else 2) := by
  unfold segment_Check.f
  by_cases h : ok a b
  · unfold ok at h; rw [if_neg (by omega), if_neg (by omega), if_neg (by omega), if_neg (by omega)]; simp [ok, h]
  · rw [if_neg h]; unfold ok at h
    by_cases h1 : a < 3
    · rw [if_pos h1]
    · by_cases h2 : a > 64
      · rw [if_neg h1, if_pos h2]
      · by_cases h3 : b < 1
        · rw [if_neg h1, if_neg h2, if_pos h3]
        · rw [if_neg h1, if_neg h2, if_neg h3, if_pos (by omega)]
theorem check_yes {a b : Int} (h : ok a b) : segment_Check.f a b = some 0 := by rw [check_f, if_pos h]
theorem check_no {a b : Int} (h : ¬ ok a b) : segment_Check.f a b = some 2 := by rw [check_f, if_neg h]
theorem may_f (a b : Int) : segment_Shape_may.f a b = some (decide (ok a b)) := by
  unfold segment_Shape_may.f
  by_cases h : (!(a == 0) || (!(b == 0))) = true
  · rw [if_pos h, check_f]
    by_cases c : ok a b <;> simp [c]
  · rw [if_neg h]
    have : ¬ ok a b := by simp at h; unfold ok; omega
    simp [this]
theorem most_yes {a b : Int} (h : ok a b) : segment_Shape_Most.f a b = some (a * b - 2 * b) := by
  unfold segment_Shape_Most.f
  rw [may_f]
  have h' := h; unfold ok at h'
  have m := mulb (i := a - 2) (b := b) (by omega) (by omega) (by omega) (by omega)
  have e : (a - 2) * b = a * b - 2 * b := Int.sub_mul _ _ _
  simp only [Option.bind_some, h, decide_true, if_true]
  rw [w64 (a := a - 2) (by omega) (by omega), w64 (by omega) (by omega), e]
theorem most_no {a b : Int} (h : ¬ ok a b) : segment_Shape_Most.f a b = some 0 := by
  unfold segment_Shape_Most.f; rw [may_f]; simp [h]
theorem sector_yes {a b i k : Int} (h : ok a b) (h0 : 0 ≤ i) (h1 : i < a) (h2 : 0 ≤ k) (h3 : k < b) : segment_Shape_Sector.f a b i k = some (2 + i * b + k, true) := by
  unfold segment_Shape_Sector.f
  rw [may_f]
  have h' := h; unfold ok at h'
  have m := mulb (i := i) (b := b) (by omega) (by omega) (by omega) (by omega)
  simp only [Option.bind_some, h, decide_true, if_true]
  rw [if_neg (by omega), if_neg (by omega), if_neg (by omega), if_neg (by omega), w64 (a := i * b) (by omega) (by omega), w64 (a := 2 + i * b) (by omega) (by omega), w64 (by omega) (by omega)]
theorem sector_no {a b i k : Int} (h : ¬ (ok a b ∧ 0 ≤ i ∧ i < a ∧ 0 ≤ k ∧ k < b)) : segment_Shape_Sector.f a b i k = some (0, false) := by
  unfold segment_Shape_Sector.f
  rw [may_f]
  by_cases c : ok a b
  · simp only [Option.bind_some, c, decide_true, if_true]
    simp only [c, true_and] at h
    by_cases c1 : i < 0
    · rw [if_pos c1]
    · by_cases c2 : i ≥ a
      · rw [if_neg c1, if_pos c2]
      · by_cases c3 : k < 0
        · rw [if_neg c1, if_neg c2, if_pos c3]
        · rw [if_neg c1, if_neg c2, if_neg c3, if_pos (by omega)]
  · simp [c]
theorem sectors_yes {a b : Int} (h : ok a b) : segment_Shape_Sectors.f a b = some (2 + a * b) := by
  unfold segment_Shape_Sectors.f
  rw [may_f]
  have h' := h; unfold ok at h'
  have m := mulb (i := a) (b := b) (by omega) (by omega) (by omega) (by omega)
  simp only [Option.bind_some, h, decide_true, if_true]
  rw [w64 (a := a * b) (by omega) (by omega), w64 (by omega) (by omega)]
theorem sectors_no {a b : Int} (h : ¬ ok a b) : segment_Shape_Sectors.f a b = some 0 := by
  unfold segment_Shape_Sectors.f; rw [may_f]; simp [h]
theorem awake_ok : erewhilelaw14_awake.f = some true := by
  unfold erewhilelaw14_awake.f
  rw [sector_yes (by decide) (by omega) (by omega) (by omega) (by omega), check_yes (by decide), sectors_yes (by decide), most_yes (by decide)]
  decide
end Go.Proofs.Ytpmcohpffbhknaa.AP
