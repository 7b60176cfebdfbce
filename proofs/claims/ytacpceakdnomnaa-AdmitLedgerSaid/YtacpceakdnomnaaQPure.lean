/- Plain facts over the printed functions of AdmitLedger. -/
import Derived.Test.YtacpceakdnomnaaPAdmitLedgerx2
namespace Go.Proofs.Ytacpceakdnomnaa.QP
open Go.RowKit Go.Proofs.Ytacpceakdnomnaa.PAdmitLedger Go.Proofs.YtacpceakdnomnaaW.PrintWords Go.Proofs.YtacpceakdnomnaaW.PrintLast Go.Proofs.YtacpceakdnomnaaW.PrintMore
set_option linter.unusedVariables false
set_option linter.unusedSimpArgs false
theorem wfi {a : Int} (h : (Lit.int .i64 a).wf = true) : -9223372036854775808 ≤ a ∧ a ≤ 9223372036854775807 := by
  simp [Lit.wf, IntKind.min, IntKind.max, IntKind.bits, IntKind.signed] at h; omega
theorem wf8 {a : Int} (h : (Lit.int .u8 a).wf = true) : 0 ≤ a ∧ a ≤ 255 := by
  simp [Lit.wf, IntKind.min, IntKind.max, IntKind.bits, IntKind.signed] at h; omega
theorem wf16 {a : Int} (h : (Lit.int .u16 a).wf = true) : 0 ≤ a ∧ a ≤ 65535 := by
  simp [Lit.wf, IntKind.min, IntKind.max, IntKind.bits, IntKind.signed] at h; omega
theorem w64 {a : Int} (h0 : -9223372036854775808 ≤ a) (h1 : a ≤ 9223372036854775807) : wrap64 a = a := by unfold wrap64; omega
theorem u64w (a : Int) : IntKind.u64.wrap a = a % 18446744073709551616 := by
  simp [IntKind.wrap, IntKind.signed, IntKind.bits]
theorem rdn (xs : List Int) (i : Nat) (h : i < xs.length) : rd xs (i : Int) = xs[i] := by
  simp [rd, List.getD_eq_getElem?_getD, List.getElem?_eq_getElem h]
theorem mx0 (a : Int) : mx a 0 = if a < 0 then 0 else a := rfl
/-- the first minute with room -/
def whenS (room : Int) : List Int → List Int → Option Int
  | m :: ms, q :: qs => if mx q 0 ≤ room then some m else whenS room ms qs
  | _, _ => none
def pairO : Option Int → Int × Bool
  | some m => (m, true)
  | none => (0, false)
def whenR (most need : Int) (ms qs : List Int) : Int × Bool := if most < 0 ∨ need < 0 then (0, false) else pairO (whenS (most - need) ms qs)
theorem whenS_nil (room : Int) (ms : List Int) : whenS room ms [] = none := by cases ms <;> rfl
/-- how many needs fit -/
def planC : Int → List Int → Nat
  | _, [] => 0
  | room, n :: ns => if n < 0 ∨ n > room then 0 else 1 + planC (room - n) ns
def planR (most live : Int) (ns : List Int) : Int := if live > most then 0 else planC (most - live) ns
theorem whenR_no {most need : Int} {ms qs : List Int} (h : most < 0 ∨ need < 0) : whenR most need ms qs = (0, false) := if_pos h
theorem whenR_yes {most need : Int} {ms qs : List Int} (h : ¬ (most < 0 ∨ need < 0)) : whenR most need ms qs = pairO (whenS (most - need) ms qs) := if_neg h
theorem planR_yes {most live : Int} {ns : List Int} (h : ¬ live > most) : planR most live ns = (planC (most - live) ns : Int) := if_neg h
theorem when_l0 (most need : Int) (ms qs : List Int) (hm : 0 ≤ most) (hM : most ≤ 9223372036854775807) (hn : 0 ≤ need) (hN : need ≤ 9223372036854775807) (hl : ms.length ≤ 1000000) :
    ∀ d k (i : Nat), ms.length - i = d → i ≤ ms.length → d < k →
    admit_When.l0 k most need qs ms (ms.length : Int) (i : Int) = some (pairO (whenS (most - need) (ms.drop i) (qs.drop i))) := by
  intro d
  induction d with
  | zero =>
    intro k i hd hi hk
    obtain ⟨k, rfl⟩ : ∃ m, k = m + 1 := ⟨k - 1, by omega⟩
    simp only [admit_When.l0]
    rw [if_neg (by omega), List.drop_of_length_le (by omega)]
    rfl
  | succ d ih =>
    intro k i hd hi hk
    obtain ⟨k, rfl⟩ : ∃ m, k = m + 1 := ⟨k - 1, by omega⟩
    have hlt : i < ms.length := by omega
    have step := ih k (i + 1) (by omega) (by omega) (by omega)
    have e1 : wrap64 ((i : Int) + 1) = ((i + 1 : Nat) : Int) := by rw [w64 (by omega) (by omega)]; omega
    simp only [admit_When.l0]
    rw [if_pos (by omega), if_pos (by omega), if_pos (by omega), e1, step, rdn ms i hlt, w64 (a := most - need) (by omega) (by omega)]
    rw [List.drop_eq_getElem_cons hlt]
    by_cases hq : i < qs.length
    · rw [if_pos (by omega), rdn qs i hq, List.drop_eq_getElem_cons hq]
      simp only [whenS]
      by_cases hf : mx qs[i] 0 ≤ most - need
      · rw [if_pos hf, if_pos hf]; rfl
      · rw [if_neg hf, if_neg hf]
    · rw [if_neg (by omega), List.drop_of_length_le (l := qs) (i := i) (by omega), List.drop_of_length_le (l := qs) (i := i + 1) (by omega), whenS_nil, whenS_nil]
theorem when_f (k : Nat) (most need : Int) (ms qs : List Int) (hm : -9223372036854775808 ≤ most) (hM : most ≤ 9223372036854775807) (hn : -9223372036854775808 ≤ need) (hN : need ≤ 9223372036854775807) (hl : ms.length ≤ 1000000)
    (hk : ms.length + 1 < k) : admit_When.f k most need ms qs = some (whenR most need ms qs) := by
  obtain ⟨k, rfl⟩ : ∃ m, k = m + 1 := ⟨k - 1, by omega⟩
  unfold admit_When.f whenR
  by_cases h1 : most < 0
  · rw [if_pos h1, if_pos (.inl h1)]; simp only [admit_When.j0]; rw [if_pos trivial]
  · rw [if_neg h1]; simp only [admit_When.j0]
    by_cases h2 : need < 0
    · rw [if_pos (by simpa using h2), if_pos (.inr h2)]
    · rw [if_neg (by simpa using h2), if_neg (by omega)]
      have := when_l0 most need ms qs (by omega) hM (by omega) hN hl ms.length k 0 (by omega) (by omega) (by omega)
      simpa using this
theorem plan_l0 (ns : List Int) (hw : ∀ x ∈ ns, -9223372036854775808 ≤ x ∧ x ≤ 9223372036854775807) (hl : ns.length ≤ 1000000) :
    ∀ d k (i : Nat) (room : Int), ns.length - i = d → i ≤ ns.length → d < k → 0 ≤ room → room < 18446744073709551616 →
    admit_Plan.l0 k ns room ns (ns.length : Int) (i : Int) = some ((i : Int) + (planC room (ns.drop i) : Int)) := by
  intro d
  induction d with
  | zero =>
    intro k i room hd hi hk hr hR
    obtain ⟨k, rfl⟩ : ∃ m, k = m + 1 := ⟨k - 1, by omega⟩
    simp only [admit_Plan.l0]
    rw [if_neg (by omega), List.drop_of_length_le (by omega)]
    simp only [planC]; congr 1; omega
  | succ d ih =>
    intro k i room hd hi hk hr hR
    obtain ⟨k, rfl⟩ : ∃ m, k = m + 1 := ⟨k - 1, by omega⟩
    have hlt : i < ns.length := by omega
    have hx := hw ns[i] (List.getElem_mem hlt)
    have e1 : wrap64 ((i : Int) + 1) = ((i + 1 : Nat) : Int) := by rw [w64 (by omega) (by omega)]; omega
    simp only [admit_Plan.l0]
    rw [if_pos (by omega), if_pos (by omega), if_pos (by omega), e1, rdn ns i hlt, List.drop_eq_getElem_cons hlt]
    simp only [planC, u64w]
    by_cases h1 : ns[i] < 0
    · rw [if_pos h1, if_pos (.inl h1)]; simp
    · rw [if_neg h1]
      have e2 : ns[i] % 18446744073709551616 = ns[i] := by omega
      rw [e2]
      by_cases h2 : ns[i] > room
      · rw [if_pos h2, if_pos (.inr h2)]; simp
      · rw [if_neg h2, if_neg (by omega)]
        have e3 : (room - ns[i]) % 18446744073709551616 = room - ns[i] := by omega
        rw [e3, ih k (i + 1) (room - ns[i]) (by omega) (by omega) (by omega) (by omega) (by omega)]
        congr 1; omega
theorem plan_f (k : Nat) (most live : Int) (ns : List Int) (hw : ∀ x ∈ ns, -9223372036854775808 ≤ x ∧ x ≤ 9223372036854775807) (hm : -9223372036854775808 ≤ most) (hM : most ≤ 9223372036854775807) (hn : -9223372036854775808 ≤ live) (hN : live ≤ 9223372036854775807) (hl : ns.length ≤ 1000000)
    (hk : ns.length < k) : admit_Plan.f k most live ns = some (planR most live ns) := by
  unfold admit_Plan.f planR
  by_cases h : live > most
  · rw [if_pos h, if_pos h]
  · rw [if_neg h, if_neg h]
    have e : IntKind.u64.wrap (IntKind.u64.wrap most - IntKind.u64.wrap live) = most - live := by simp only [u64w]; omega
    rw [e]
    have := plan_l0 ns hw hl ns.length k 0 (most - live) (by omega) (by omega) (by omega) (by omega) (by omega)
    simpa using this
theorem now_f (room need : Int) : admit_Now.f room need = some (decide (need ≥ 0) && decide (need ≤ room)) := by
  unfold admit_Now.f; by_cases h : need ≥ 0 <;> simp [h]
theorem awake_ok (k : Nat) (hk : 10 ≤ k) : erewhilelaw20_awake.f k = some true := by
  unfold erewhilelaw20_awake.f
  rw [when_f k _ _ _ _ (by omega) (by omega) (by omega) (by omega) (by simp) (by simp; omega), plan_f k _ _ _ (by simp) (by omega) (by omega) (by omega) (by omega) (by simp) (by simp; omega)]
  simp only [now_f]
  decide
end Go.Proofs.Ytacpceakdnomnaa.QP
