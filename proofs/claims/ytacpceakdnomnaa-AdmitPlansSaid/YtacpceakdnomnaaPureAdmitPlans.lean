/- The pure law of AdmitPlans: the printed function of AdmitPlans answers true for every input of its kinds, with enough rounds. No other condition. -/
import Derived.Test.YtacpceakdnomnaaPAdmitPlansx2
namespace Go.Proofs.Ytacpceakdnomnaa.Pure
open Go.RowKit Go.Proofs.Ytacpceakdnomnaa.PAdmitPlans Go.Proofs.YtacpceakdnomnaaW.PrintWords Go.Proofs.YtacpceakdnomnaaW.PrintLast Go.Proofs.YtacpceakdnomnaaW.PrintMore
set_option linter.unusedVariables false
set_option linter.unusedSimpArgs false
theorem wfi {a : Int} (h : (Lit.int .i64 a).wf = true) : -9223372036854775808 ≤ a ∧ a ≤ 9223372036854775807 := by
  simp [Lit.wf, IntKind.min, IntKind.max, IntKind.bits, IntKind.signed] at h; omega
theorem wf8 {a : Int} (h : (Lit.int .u8 a).wf = true) : 0 ≤ a ∧ a ≤ 255 := by
  simp [Lit.wf, IntKind.min, IntKind.max, IntKind.bits, IntKind.signed] at h; omega
theorem wf16 {a : Int} (h : (Lit.int .u16 a).wf = true) : 0 ≤ a ∧ a ≤ 65535 := by
  simp [Lit.wf, IntKind.min, IntKind.max, IntKind.bits, IntKind.signed] at h; omega
theorem w64 {a : Int} (h0 : -9223372036854775808 ≤ a) (h1 : a ≤ 9223372036854775807) : wrap64 a = a := by unfold wrap64; omega
theorem u64w (a : Int) : IntKind.u64.wrap a = a % 18446744073709551616 := by
  simp [IntKind.wrap, IntKind.signed, IntKind.bits]
theorem rdn (xs : List Int) (i : Nat) (h : i < xs.length) : rd xs (i : Int) = xs[i] := by
  simp [rd, List.getD_eq_getElem?_getD, List.getElem?_eq_getElem h]
theorem mx0 (a : Int) : mx a 0 = if a < 0 then 0 else a := rfl
/-- the first minute with room -/
def whenS (room : Int) : List Int → List Int → Option Int
  | m :: ms, q :: qs => if mx q 0 ≤ room then some m else whenS room ms qs
  | _, _ => none
def pairO : Option Int → Int × Bool
  | some m => (m, true)
  | none => (0, false)
def whenR (most need : Int) (ms qs : List Int) : Int × Bool := if most < 0 ∨ need < 0 then (0, false) else pairO (whenS (most - need) ms qs)
theorem whenS_nil (room : Int) (ms : List Int) : whenS room ms [] = none := by cases ms <;> rfl
/-- how many needs fit -/
def planC : Int → List Int → Nat
  | _, [] => 0
  | room, n :: ns => if n < 0 ∨ n > room then 0 else 1 + planC (room - n) ns
def planR (most live : Int) (ns : List Int) : Int := if live > most then 0 else planC (most - live) ns
theorem whenR_no {most need : Int} {ms qs : List Int} (h : most < 0 ∨ need < 0) : whenR most need ms qs = (0, false) := if_pos h
theorem whenR_yes {most need : Int} {ms qs : List Int} (h : ¬ (most < 0 ∨ need < 0)) : whenR most need ms qs = pairO (whenS (most - need) ms qs) := if_neg h
theorem planR_yes {most live : Int} {ns : List Int} (h : ¬ live > most) : planR most live ns = (planC (most - live) ns : Int) := if_neg h
theorem when_l0 (most need : Int) (ms qs : List Int) (hm : 0 ≤ most) (hM : most ≤ 9223372036854775807) (hn : 0 ≤ need) (hN : need ≤ 9223372036854775807) (hl : ms.length ≤ 1000000) :
    ∀ d k (i : Nat), ms.length - i = d → i ≤ ms.length → d < k →
    admit_When.l0 k most need qs ms (ms.length : Int) (i : Int) = some (pairO (whenS (most - need) (ms.drop i) (qs.drop i))) := by
  intro d
  induction d with
  | zero =>
    intro k i hd hi hk
    obtain ⟨k, rfl⟩ : ∃ m, k = m + 1 := ⟨k - 1, by omega⟩
    simp only [admit_When.l0]
    rw [if_neg (by omega), List.drop_of_length_le (by omega)]
    rfl
  | succ d ih =>
    intro k i hd hi hk
    obtain ⟨k, rfl⟩ : ∃ m, k = m + 1 := ⟨k - 1, by omega⟩
    have hlt : i < ms.length := by omega
    have step := ih k (i + 1) (by omega) (by omega) (by omega)
    have e1 : wrap64 ((i : Int) + 1) = ((i + 1 : Nat) : Int) := by rw [w64 (by omega) (by omega)]; omega
    simp only [admit_When.l0]
    rw [if_pos (by omega), if_pos (by omega), if_pos (by omega), e1, step, rdn ms i hlt, w64 (a := most - need) (by omega) (by omega)]
    rw [List.drop_eq_getElem_cons hlt]
    by_cases hq : i < qs.length
    · rw [if_pos (by omega), rdn qs i hq, List.drop_eq_getElem_cons hq]
      simp only [whenS]
      by_cases hf : mx qs[i] 0 ≤ most - need
      · rw [if_pos hf, if_pos hf]; rfl
      · rw [if_neg hf, if_neg hf]
    · rw [if_neg (by omega), List.drop_of_length_le (l := qs) (i := i) (by omega), List.drop_of_length_le (l := qs) (i := i + 1) (by omega), whenS_nil, whenS_nil]
theorem when_f (k : Nat) (most need : Int) (ms qs : List Int) (hm : -9223372036854775808 ≤ most) (hM : most ≤ 9223372036854775807) (hn : -9223372036854775808 ≤ need) (hN : need ≤ 9223372036854775807) (hl : ms.length ≤ 1000000)
    (hk : ms.length + 1 < k) : admit_When.f k most need ms qs = some (whenR most need ms qs) := by
  obtain ⟨k, rfl⟩ : ∃ m, k = m + 1 := ⟨k - 1, by omega⟩
  unfold admit_When.f whenR
  by_cases h1 : most < 0
  · rw [if_pos h1, if_pos (.inl h1)]; simp only [admit_When.j0]; rw [if_pos trivial]
  · rw [if_neg h1]; simp only [admit_When.j0]
    by_cases h2 : need < 0
    · rw [if_pos (by simpa using h2), if_pos (.inr h2)]
    · rw [if_neg (by simpa using h2), if_neg (by omega)]
      have := when_l0 most need ms qs (by omega) hM (by omega) hN hl ms.length k 0 (by omega) (by omega) (by omega)
      simpa using this
theorem plan_l0 (ns : List Int) (hw : ∀ x ∈ ns, -9223372036854775808 ≤ x ∧ x ≤ 9223372036854775807) (hl : ns.length ≤ 1000000) :
    ∀ d k (i : Nat) (room : Int), ns.length - i = d → i ≤ ns.length → d < k → 0 ≤ room → room < 18446744073709551616 →
    admit_Plan.l0 k ns room ns (ns.length : Int) (i : Int) = some ((i : Int) + (planC room (ns.drop i) : Int)) := by
  intro d
  induction d with
  | zero =>
    intro k i room hd hi hk hr hR
    obtain ⟨k, rfl⟩ : ∃ m, k = m + 1 := ⟨k - 1, by omega⟩
    simp only [admit_Plan.l0]
    rw [if_neg (by omega), List.drop_of_length_le (by omega)]
    simp only [planC]; congr 1; omega
  | succ d ih =>
    intro k i room hd hi hk hr hR
    obtain ⟨k, rfl⟩ : ∃ m, k = m + 1 := ⟨k - 1, by omega⟩
    have hlt : i < ns.length := by omega
    have hx := hw ns[i] (List.getElem_mem hlt)
    have e1 : wrap64 ((i : Int) + 1) = ((i + 1 : Nat) : Int) := by rw [w64 (by omega) (by omega)]; omega
    simp only [admit_Plan.l0]
    rw [if_pos (by omega), if_pos (by omega), if_pos (by omega), e1, rdn ns i hlt, List.drop_eq_getElem_cons hlt]
    simp only [planC, u64w]
    by_cases h1 : ns[i] < 0
    · rw [if_pos h1, if_pos (.inl h1)]; simp
    · rw [if_neg h1]
      have e2 : ns[i] % 18446744073709551616 = ns[i] := by omega
      rw [e2]
      by_cases h2 : ns[i] > room
      · rw [if_pos h2, if_pos (.inr h2)]; simp
      · rw [if_neg h2, if_neg (by omega)]
        have e3 : (room - ns[i]) % 18446744073709551616 = room - ns[i] := by omega
        rw [e3, ih k (i + 1) (room - ns[i]) (by omega) (by omega) (by omega) (by omega) (by omega)]
        congr 1; omega
theorem plan_f (k : Nat) (most live : Int) (ns : List Int) (hw : ∀ x ∈ ns, -9223372036854775808 ≤ x ∧ x ≤ 9223372036854775807) (hm : -9223372036854775808 ≤ most) (hM : most ≤ 9223372036854775807) (hn : -9223372036854775808 ≤ live) (hN : live ≤ 9223372036854775807) (hl : ns.length ≤ 1000000)
    (hk : ns.length < k) : admit_Plan.f k most live ns = some (planR most live ns) := by
  unfold admit_Plan.f planR
  by_cases h : live > most
  · rw [if_pos h, if_pos h]
  · rw [if_neg h, if_neg h]
    have e : IntKind.u64.wrap (IntKind.u64.wrap most - IntKind.u64.wrap live) = most - live := by simp only [u64w]; omega
    rw [e]
    have := plan_l0 ns hw hl ns.length k 0 (most - live) (by omega) (by omega) (by omega) (by omega) (by omega)
    simpa using this
theorem now_f (room need : Int) : admit_Now.f room need = some (decide (need ≥ 0) && decide (need ≤ room)) := by
  unfold admit_Now.f; by_cases h : need ≥ 0 <;> simp [h]
theorem awake_ok (k : Nat) (hk : 10 ≤ k) : erewhilelaw20_awake.f k = some true := by
  unfold erewhilelaw20_awake.f
  rw [when_f k _ _ _ _ (by omega) (by omega) (by omega) (by omega) (by simp) (by simp; omega), plan_f k _ _ _ (by simp) (by omega) (by omega) (by omega) (by omega) (by simp) (by simp; omega)]
  simp only [now_f]
  decide
def sumL : List Int → Int
  | [] => 0
  | x :: xs => x + sumL xs
def pairs : List Int → List Int
  | [] => []
  | [x] => [x]
  | x :: y :: r => (x + y) :: pairs r
theorem sumL_snoc (l : List Int) (x : Int) : sumL (l ++ [x]) = sumL l + x := by
  induction l with
  | nil => simp [sumL]
  | cons a l ih => simp only [List.cons_append, sumL, ih]; omega
theorem sumL_bound (l : List Int) (h : ∀ x ∈ l, 0 ≤ x ∧ x ≤ 255) : 0 ≤ sumL l ∧ sumL l ≤ 255 * l.length := by
  induction l with
  | nil => simp [sumL]
  | cons a l ih =>
    have h1 := h a List.mem_cons_self
    have h2 := ih fun x hx => h x (List.mem_cons_of_mem _ hx)
    simp only [sumL, List.length_cons]; omega
theorem pairs_len : ∀ l : List Int, (pairs l).length = (l.length + 1) / 2
  | [] => by simp [pairs]
  | [x] => by simp [pairs]
  | x :: y :: r => by simp only [pairs, List.length_cons, pairs_len r]; omega
theorem pairs_even (x : Int) : ∀ l : List Int, l.length % 2 = 0 → pairs (l ++ [x]) = pairs l ++ [x]
  | [], _ => by simp [pairs]
  | [y], h => by simp at h
  | a :: b :: r, h => by
    simp only [List.cons_append, pairs, pairs_even x r (by simp at h; omega)]
theorem pairs_odd (x : Int) : ∀ l : List Int, l.length % 2 = 1 → pairs (l ++ [x]) = (pairs l).set ((pairs l).length - 1) ((pairs l).getD ((pairs l).length - 1) 0 + x)
  | [], h => by simp at h
  | [y], _ => by simp [pairs]
  | a :: b :: r, h => by
    have hr : r.length % 2 = 1 := by simp at h; omega
    have hl := pairs_len r
    obtain ⟨m, hm⟩ : ∃ m, (pairs r).length = m + 1 := ⟨(pairs r).length - 1, by omega⟩
    simp only [List.cons_append, pairs, pairs_odd x r hr, List.length_cons, hm, Nat.add_sub_cancel, List.set_cons_succ, List.getD_cons_succ]
theorem pairs_bound : ∀ l : List Int, (∀ x ∈ l, 0 ≤ x ∧ x ≤ 255) → ∀ x ∈ pairs l, 0 ≤ x ∧ x ≤ 510
  | [], _ => by simp [pairs]
  | [y], h => by
    intro x hx
    simp only [pairs] at hx
    have := h x hx; omega
  | a :: b :: r, h => by
    intro x hx
    have h1 := h a List.mem_cons_self
    have h2 := h b (List.mem_cons_of_mem _ List.mem_cons_self)
    simp only [pairs, List.mem_cons] at hx
    rcases hx with hx | hx
    · omega
    · exact pairs_bound r (fun y hy => h y (List.mem_cons_of_mem _ (List.mem_cons_of_mem _ hy))) x hx
theorem planC_le : ∀ (room : Int) (l : List Int), planC room l ≤ l.length
  | _, [] => by simp [planC]
  | room, x :: xs => by
    simp only [planC, List.length_cons]
    split
    · omega
    · have := planC_le (room - x) xs; omega
theorem planC_all : ∀ (room : Int) (l : List Int), (∀ x ∈ l, 0 ≤ x ∧ x ≤ 255) → (planC room l = l.length ↔ (l = [] ∨ sumL l ≤ room))
  | _, [], _ => by simp [planC]
  | room, x :: xs, h => by
    have h1 := h x List.mem_cons_self
    have h2 := fun y hy => h y (List.mem_cons_of_mem _ hy)
    have ih := planC_all (room - x) xs h2
    have hs := sumL_bound xs h2
    simp only [planC, List.length_cons, sumL]
    have hle := planC_le (room - x) xs
    split
    · constructor
      · intro e; omega
      · intro e; rcases e with e | e
        · cases e
        · omega
    · constructor
      · intro e
        rcases ih.mp (by omega) with e2 | e2
        · subst e2; simp only [sumL]; right; omega
        · right; omega
      · intro e
        rcases e with e | e
        · cases e
        · have := ih.mpr (by right; omega); omega
theorem plans_pure : ∀ (room : Int) (l : List Int), (∀ x ∈ l, 0 ≤ x ∧ x ≤ 255) → planC room l ≤ 2 * planC room (pairs l) + 1 ∧ min (2 * planC room (pairs l)) l.length ≤ planC room l
  | _, [], _ => by simp [planC, pairs]
  | room, [x], h => by
    have := planC_le room [x]
    simp only [pairs, List.length_cons, List.length_nil] at this ⊢; omega
  | room, x :: y :: r, h => by
    have h1 := h x List.mem_cons_self
    have h2 := h y (List.mem_cons_of_mem _ List.mem_cons_self)
    have ih := plans_pure (room - (x + y)) r (fun z hz => h z (List.mem_cons_of_mem _ (List.mem_cons_of_mem _ hz)))
    simp only [pairs, planC, List.length_cons]
    by_cases c : x + y ≤ room
    · rw [if_neg (by omega : ¬ (x < 0 ∨ x > room)), if_neg (by omega : ¬ (y < 0 ∨ y > room - x)), if_neg (by omega : ¬ (x + y < 0 ∨ x + y > room)), show room - x - y = room - (x + y) by omega]
      omega
    · rw [if_pos (by omega : x + y < 0 ∨ x + y > room)]
      by_cases c2 : x > room
      · rw [if_pos (.inr c2)]; omega
      · rw [if_neg (by omega), if_pos (by omega : y < 0 ∨ y > room - x)]; omega
theorem plans_l0 (most : Int) (l : List Int) (hl : l.length ≤ 50) (hw : ∀ x ∈ l, 0 ≤ x ∧ x ≤ 255) (hm : 0 ≤ most ∧ most ≤ 65535) :
    ∀ d k (i : Nat), l.length - i = d → i ≤ l.length → d + 500 < k →
    erewhilelaw20_AdmitPlans.l0 k most l (l.take i) (pairs (l.take i)) (sumL (l.take i)) (i : Int) = some true := by
  have hw' : ∀ x ∈ l, -9223372036854775808 ≤ x ∧ x ≤ 9223372036854775807 := fun x hx => by have := hw x hx; omega
  intro d
  induction d with
  | zero =>
    intro k i hd hi hk
    obtain ⟨k, rfl⟩ : ∃ m, k = m + 2 := ⟨k - 2, by omega⟩
    simp only [erewhilelaw20_AdmitPlans.l0]
    have hpl := pairs_len l
    have hp2 : ∀ x ∈ pairs l, -9223372036854775808 ≤ x ∧ x ≤ 9223372036854775807 := fun x hx => by have := pairs_bound l hw x hx; omega
    rw [if_neg (by omega), List.take_of_length_le (by omega), w64 (a := most) (by omega) (by omega), plan_f _ _ _ _ hw' (by omega) (by omega) (by omega) (by omega) (by omega) (by omega)]
    simp only [Option.bind_some]
    rw [plan_f _ _ _ _ hp2 (by omega) (by omega) (by omega) (by omega) (by omega) (by omega)]
    simp only [Option.bind_some]
    rw [planR_yes (by omega), planR_yes (by omega), Int.sub_zero]
    have hA := planC_le most l
    have hB := planC_le most (pairs l)
    have hP := plans_pure most l hw
    have hs := sumL_bound l hw
    rw [w64 (a := 2 * (planC most (pairs l) : Int)) (by omega) (by omega), w64 (by omega) (by omega), if_pos (by omega)]
    have hmn : mn (2 * (planC most (pairs l) : Int)) (l.length : Int) ≤ (planC most l : Int) := by unfold mn; split <;> omega
    rw [if_pos hmn, now_f]
    simp only [Option.bind_some]
    have hall := planC_all most l hw
    have e : decide (sumL l ≥ 0) = true := by simp; omega
    rw [e, Bool.true_and]
    congr 1
    by_cases c : sumL l ≤ most
    · have := hall.mpr (.inr c)
      simp [c, this]
    · have hne : planC most l ≠ l.length := by
        intro he
        rcases hall.mp he with h | h
        · subst h; simp [sumL] at c; omega
        · exact c h
      simp only [c, decide_false, beq_false, Bool.not_eq_true']
      rw [beq_eq_false_iff_ne]; omega
  | succ d ih =>
    intro k i hd hi hk
    obtain ⟨k, rfl⟩ : ∃ m, k = m + 1 := ⟨k - 1, by omega⟩
    have hil : i < l.length := by omega
    have hx := hw l[i] (List.getElem_mem hil)
    have e2 : wrap64 ((i : Int) + 1) = ((i + 1 : Nat) : Int) := by rw [w64 (by omega) (by omega)]; omega
    have htk : (l.take i).length = i := by rw [List.length_take]; omega
    have hs := sumL_bound (l.take i) fun x hx => hw x (List.mem_of_mem_take hx)
    have hpl := pairs_len (l.take i)
    have step := ih k (i + 1) (by omega) (by omega) (by omega)
    rw [List.take_succ_eq_append_getElem hil, sumL_snoc] at step
    simp only [erewhilelaw20_AdmitPlans.l0]
    rw [if_pos (by omega), if_pos (by omega), if_pos (by omega), rdn l i hil, e2, w64 (a := l[i]) (by omega) (by omega), w64 (a := sumL (l.take i) + l[i]) (by omega) (by omega)]
    simp only [Option.bind_some]
    by_cases c : i % 2 = 0
    · rw [if_pos (by rw [Int.tmod_eq_emod_of_nonneg (by omega)]; omega), if_pos (by omega)]
      rw [pairs_even _ _ (by omega)] at step
      exact step
    · rw [if_neg (by rw [Int.tmod_eq_emod_of_nonneg (by omega)]; omega)]
      have e3 : wrap64 (((pairs (l.take i)).length : Int) - 1) = (((pairs (l.take i)).length - 1 : Nat) : Int) := by rw [w64 (by omega) (by omega)]; omega
      rw [e3, if_pos (by omega), if_pos (by omega)]
      have hb : ∀ x ∈ pairs (l.take i), 0 ≤ x ∧ x ≤ 510 := pairs_bound _ fun x hx => hw x (List.mem_of_mem_take hx)
      have hlt : (pairs (l.take i)).length - 1 < (pairs (l.take i)).length := by omega
      have hg := hb _ (List.getElem_mem hlt)
      rw [rdn _ _ hlt, w64 (by omega) (by omega)]
      rw [pairs_odd _ _ (by omega), List.getD_eq_getElem?_getD, List.getElem?_eq_getElem hlt] at step
      simpa using step
theorem AdmitPlans : erewhilelaw20_AdmitPlans.Pure := by
  intro most l w0 _ _ w2
  refine ⟨1000, ?_⟩
  have h0 := wf16 w0
  unfold erewhilelaw20_AdmitPlans.f
  rw [awake_ok 1000 (by omega)]
  simp only [Option.bind_some, if_true]
  by_cases c1 : (l.length : Int) > 50
  · rw [if_pos c1]
  rw [if_neg c1]
  have := plans_l0 most l (by omega) (fun x hx => wf8 (w2 x hx)) h0 l.length 1000 0 (by omega) (by omega) (by omega)
  simpa [pairs, sumL] using this
end Go.Proofs.Ytacpceakdnomnaa.Pure
