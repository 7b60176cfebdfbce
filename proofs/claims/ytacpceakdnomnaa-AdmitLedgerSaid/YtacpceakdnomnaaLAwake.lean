/- The walk of ledger's 'awake': it answers true. -/
import Derived.Test.YtacpceakdnomnaaLWalks
namespace Go.Proofs.Ytacpceakdnomnaa.L
open Go.RowKit Go.Proofs.Ytacpceakdnomnaa.PAdmitLedger
set_option linter.unusedVariables false
set_option linter.unusedSimpArgs false
theorem live_at {g : Nat} {m l : Int} {w : World} (h : IsLed w g m l) (r : Int) (hr : l = r) : Calls Try.prog 22 #[.pointer (some ⟨g, 0, none⟩)] w fun e w' => e = .returned (.int .i64 r) ∧ w = w' := by subst hr; exact live_some _ _ _ _ h
theorem room_at {g : Nat} {m l : Int} {w : World} (h : IsLed w g m l) (h0 : 0 ≤ l) (h1 : l ≤ m) (h2 : m ≤ 100000) (r : Int) (hr : m - l = r) : Calls Try.prog 24 #[.pointer (some ⟨g, 0, none⟩)] w fun e w' => e = .returned (.int .i64 r) ∧ w = w' := by subst hr; exact room_some _ _ _ _ h h0 h1 h2
theorem fits_at {g : Nat} {m l n : Int} {w : World} (h : IsLed w g m l) (h0 : 0 ≤ l) (h1 : l ≤ m) (h2 : m ≤ 100000) (r : Bool) (hr : (decide (0 ≤ n) && decide (n ≤ m - l)) = r) :
    Calls Try.prog 23 #[.pointer (some ⟨g, 0, none⟩), .int .i64 n] w fun e w' => e = .returned (.bool r) ∧ w = w' := by subst hr; exact fits_some _ _ _ _ _ h h0 h1 h2
theorem take_at {g : Nat} {m l n : Int} {w : World} (h : IsLed w g m l) (h0 : 0 ≤ l) (h1 : l ≤ m) (h2 : m ≤ 100000) (r l' : Int) (hr : takeE m l n = r) (hl : takeL m l n = l') :
    Calls Try.prog 20 #[.pointer (some ⟨g, 0, none⟩), .int .i64 n] w fun e w' => e = .returned (.int .i64 r) ∧ IsLed w' g m l' ∧ Only g w w' := by subst hr; subst hl; exact take_some _ _ _ _ _ h h0 h1 h2
theorem new_at (a b : Int) (w : World) (m : Int) (hm : mostOf a b = m) : Calls Try.prog 19 #[.agg #[.int .i64 a, .int .i64 b]] w fun e w' => ∃ g, e = .returned (.pointer (some ⟨g, 0, none⟩)) ∧ w.heap.size ≤ g ∧ IsLed w' g m 0 ∧ Below w.heap.size w w' := by subst hm; exact new_any a b w
end Go.Proofs.Ytacpceakdnomnaa.L
