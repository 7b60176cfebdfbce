/- The pure law of AdmitRows: the printed function of AdmitRows answers true for every input of its kinds, with enough rounds. No other condition. -/
import Derived.Test.YtacpceakdnomnaaPAdmitRowsx2
namespace Go.Proofs.Ytacpceakdnomnaa.Pure
open Go.RowKit Go.Proofs.Ytacpceakdnomnaa.PAdmitRows Go.Proofs.YtacpceakdnomnaaW.PrintWords Go.Proofs.YtacpceakdnomnaaW.PrintLast Go.Proofs.YtacpceakdnomnaaW.PrintMore
set_option linter.unusedVariables false
set_option linter.unusedSimpArgs false
theorem wfi {a : Int} (h : (Lit.int .i64 a).wf = true) : -9223372036854775808 ≤ a ∧ a ≤ 9223372036854775807 := by
  simp [Lit.wf, IntKind.min, IntKind.max, IntKind.bits, IntKind.signed] at h; omega
theorem wf8 {a : Int} (h : (Lit.int .u8 a).wf = true) : 0 ≤ a ∧ a ≤ 255 := by
  simp [Lit.wf, IntKind.min, IntKind.max, IntKind.bits, IntKind.signed] at h; omega
theorem wf16 {a : Int} (h : (Lit.int .u16 a).wf = true) : 0 ≤ a ∧ a ≤ 65535 := by
  simp [Lit.wf, IntKind.min, IntKind.max, IntKind.bits, IntKind.signed] at h; omega
theorem w64 {a : Int} (h0 : -9223372036854775808 ≤ a) (h1 : a ≤ 9223372036854775807) : wrap64 a = a := by unfold wrap64; omega
theorem u64w (a : Int) : IntKind.u64.wrap a = a % 18446744073709551616 := by
  simp [IntKind.wrap, IntKind.signed, IntKind.bits]
theorem rdn (xs : List Int) (i : Nat) (h : i < xs.length) : rd xs (i : Int) = xs[i] := by
  simp [rd, List.getD_eq_getElem?_getD, List.getElem?_eq_getElem h]
theorem mx0 (a : Int) : mx a 0 = if a < 0 then 0 else a := rfl
/-- the first minute with room -/
def whenS (room : Int) : List Int → List Int → Option Int
  | m :: ms, q :: qs => if mx q 0 ≤ room then some m else whenS room ms qs
  | _, _ => none
def pairO : Option Int → Int × Bool
  | some m => (m, true)
  | none => (0, false)
def whenR (most need : Int) (ms qs : List Int) : Int × Bool := if most < 0 ∨ need < 0 then (0, false) else pairO (whenS (most - need) ms qs)
theorem whenS_nil (room : Int) (ms : List Int) : whenS room ms [] = none := by cases ms <;> rfl
/-- how many needs fit -/
def planC : Int → List Int → Nat
  | _, [] => 0
  | room, n :: ns => if n < 0 ∨ n > room then 0 else 1 + planC (room - n) ns
def planR (most live : Int) (ns : List Int) : Int := if live > most then 0 else planC (most - live) ns
theorem whenR_no {most need : Int} {ms qs : List Int} (h : most < 0 ∨ need < 0) : whenR most need ms qs = (0, false) := if_pos h
theorem whenR_yes {most need : Int} {ms qs : List Int} (h : ¬ (most < 0 ∨ need < 0)) : whenR most need ms qs = pairO (whenS (most - need) ms qs) := if_neg h
theorem planR_yes {most live : Int} {ns : List Int} (h : ¬ live > most) : planR most live ns = (planC (most - live) ns : Int) := if_neg h
theorem when_l0 (most need : Int) (ms qs : List Int) (hm : 0 ≤ most) (hM : most ≤ 9223372036854775807) (hn : 0 ≤ need) (hN : need ≤ 9223372036854775807) (hl : ms.length ≤ 1000000) :
    ∀ d k (i : Nat), ms.length - i = d → i ≤ ms.length → d < k →
    admit_When.l0 k most need qs ms (ms.length : Int) (i : Int) = some (pairO (whenS (most - need) (ms.drop i) (qs.drop i))) := by
  intro d
  induction d with
  | zero =>
    intro k i hd hi hk
    obtain ⟨k, rfl⟩ : ∃ m, k = m + 1 := ⟨k - 1, by omega⟩
    simp only [admit_When.l0]
    rw [if_neg (by omega), List.drop_of_length_le (by omega)]
    rfl
  | succ d ih =>
    intro k i hd hi hk
    obtain ⟨k, rfl⟩ : ∃ m, k = m + 1 := ⟨k - 1, by omega⟩
    have hlt : i < ms.length := by omega
    have step := ih k (i + 1) (by omega) (by omega) (by omega)
    have e1 : wrap64 ((i : Int) + 1) = ((i + 1 : Nat) : Int) := by rw [w64 (by omega) (by omega)]; omega
    simp only [admit_When.l0]
    rw [if_pos (by omega), if_pos (by omega), if_pos (by omega), e1, step, rdn ms i hlt, w64 (a := most - need) (by omega) (by omega)]
    rw [List.drop_eq_getElem_cons hlt]
    by_cases hq : i < qs.length
    · rw [if_pos (by omega), rdn qs i hq, List.drop_eq_getElem_cons hq]
      simp only [whenS]
      by_cases hf : mx qs[i] 0 ≤ most - need
      · rw [if_pos hf, if_pos hf]; rfl
      · rw [if_neg hf, if_neg hf]
    · rw [if_neg (by omega), List.drop_of_length_le (l := qs) (i := i) (by omega), List.drop_of_length_le (l := qs) (i := i + 1) (by omega), whenS_nil, whenS_nil]
theorem when_f (k : Nat) (most need : Int) (ms qs : List Int) (hm : -9223372036854775808 ≤ most) (hM : most ≤ 9223372036854775807) (hn : -9223372036854775808 ≤ need) (hN : need ≤ 9223372036854775807) (hl : ms.length ≤ 1000000)
    (hk : ms.length + 1 < k) : admit_When.f k most need ms qs = some (whenR most need ms qs) := by
  obtain ⟨k, rfl⟩ : ∃ m, k = m + 1 := ⟨k - 1, by omega⟩
  unfold admit_When.f whenR
  by_cases h1 : most < 0
  · rw [if_pos h1, if_pos (.inl h1)]; simp only [admit_When.j0]; rw [if_pos trivial]
  · rw [if_neg h1]; simp only [admit_When.j0]
    by_cases h2 : need < 0
    · rw [if_pos (by simpa using h2), if_pos (.inr h2)]
    · rw [if_neg (by simpa using h2), if_neg (by omega)]
      have := when_l0 most need ms qs (by omega) hM (by omega) hN hl ms.length k 0 (by omega) (by omega) (by omega)
      simpa using this
theorem plan_l0 (ns : List Int) (hw : ∀ x ∈ ns, -9223372036854775808 ≤ x ∧ x ≤ 9223372036854775807) (hl : ns.length ≤ 1000000) :
    ∀ d k (i : Nat) (room : Int), ns.length - i = d → i ≤ ns.length → d < k → 0 ≤ room → room < 18446744073709551616 →
    admit_Plan.l0 k ns room ns (ns.length : Int) (i : Int) = some ((i : Int) + (planC room (ns.drop i) : Int)) := by
  intro d
  induction d with
  | zero =>
    intro k i room hd hi hk hr hR
    obtain ⟨k, rfl⟩ : ∃ m, k = m + 1 := ⟨k - 1, by omega⟩
    simp only [admit_Plan.l0]
    rw [if_neg (by omega), List.drop_of_length_le (by omega)]
    simp only [planC]; congr 1; omega
  | succ d ih =>
    intro k i room hd hi hk hr hR
    obtain ⟨k, rfl⟩ : ∃ m, k = m + 1 := ⟨k - 1, by omega⟩
    have hlt : i < ns.length := by omega
    have hx := hw ns[i] (List.getElem_mem hlt)
    have e1 : wrap64 ((i : Int) + 1) = ((i + 1 : Nat) : Int) := by rw [w64 (by omega) (by omega)]; omega
    simp only [admit_Plan.l0]
    rw [if_pos (by omega), if_pos (by omega), if_pos (by omega), e1, rdn ns i hlt, List.drop_eq_getElem_cons hlt]
    simp only [planC, u64w]
    by_cases h1 : ns[i] < 0
    · rw [if_pos h1, if_pos (.inl h1)]; simp
    · rw [if_neg h1]
      have e2 : ns[i] % 18446744073709551616 = ns[i] := by omega
      rw [e2]
      by_cases h2 : ns[i] > room
      · rw [if_pos h2, if_pos (.inr h2)]; simp
      · rw [if_neg h2, if_neg (by omega)]
        have e3 : (room - ns[i]) % 18446744073709551616 = room - ns[i] := by omega
        rw [e3, ih k (i + 1) (room - ns[i]) (by omega) (by omega) (by omega) (by omega) (by omega)]
        congr 1; omega
theorem plan_f (k : Nat) (most live : Int) (ns : List Int) (hw : ∀ x ∈ ns, -9223372036854775808 ≤ x ∧ x ≤ 9223372036854775807) (hm : -9223372036854775808 ≤ most) (hM : most ≤ 9223372036854775807) (hn : -9223372036854775808 ≤ live) (hN : live ≤ 9223372036854775807) (hl : ns.length ≤ 1000000)
    (hk : ns.length < k) : admit_Plan.f k most live ns = some (planR most live ns) := by
  unfold admit_Plan.f planR
  by_cases h : live > most
  · rw [if_pos h, if_pos h]
  · rw [if_neg h, if_neg h]
    have e : IntKind.u64.wrap (IntKind.u64.wrap most - IntKind.u64.wrap live) = most - live := by simp only [u64w]; omega
    rw [e]
    have := plan_l0 ns hw hl ns.length k 0 (most - live) (by omega) (by omega) (by omega) (by omega) (by omega)
    simpa using this
theorem now_f (room need : Int) : admit_Now.f room need = some (decide (need ≥ 0) && decide (need ≤ room)) := by
  unfold admit_Now.f; by_cases h : need ≥ 0 <;> simp [h]
theorem awake_ok (k : Nat) (hk : 10 ≤ k) : erewhilelaw20_awake.f k = some true := by
  unfold erewhilelaw20_awake.f
  rw [when_f k _ _ _ _ (by omega) (by omega) (by omega) (by omega) (by simp) (by simp; omega), plan_f k _ _ _ (by simp) (by omega) (by omega) (by omega) (by omega) (by simp) (by simp; omega)]
  simp only [now_f]
  decide
def sumL : List Int → Int
  | [] => 0
  | x :: xs => x + sumL xs
theorem planC_le : ∀ (room : Int) (l : List Int), planC room l ≤ l.length
  | _, [] => by simp [planC]
  | room, x :: xs => by
    simp only [planC, List.length_cons]
    split
    · omega
    · have := planC_le (room - x) xs; omega
theorem planC_drop : ∀ (i : Nat) (room : Int) (l : List Int), i ≤ planC room l → planC room l = i + planC (room - sumL (l.take i)) (l.drop i)
  | 0, room, l => by simp [sumL]
  | i + 1, room, [] => by simp [planC]
  | i + 1, room, x :: xs => by
    simp only [planC, List.take_succ_cons, List.drop_succ_cons, sumL]
    by_cases h : x < 0 ∨ x > room
    · rw [if_pos h]; omega
    · rw [if_neg h]
      intro hi
      have := planC_drop i (room - x) xs (by omega)
      rw [this, show room - (x + sumL (xs.take i)) = room - x - sumL (xs.take i) by omega]; omega
theorem planC_take : ∀ (i : Nat) (room : Int) (l : List Int), i ≤ planC room l → planC room (l.take i) = i
  | 0, room, l => by simp [planC]
  | i + 1, room, [] => by simp [planC]
  | i + 1, room, x :: xs => by
    simp only [planC, List.take_succ_cons]
    by_cases h : x < 0 ∨ x > room
    · rw [if_pos h]; omega
    · rw [if_neg h]
      intro hi
      rw [if_neg h, planC_take i (room - x) xs (by omega)]; omega
theorem sumL_snoc (l : List Int) (x : Int) : sumL (l ++ [x]) = sumL l + x := by
  induction l with
  | nil => simp [sumL]
  | cons a l ih => simp only [List.cons_append, sumL, ih]; omega
theorem sumL_bound (l : List Int) (h : ∀ x ∈ l, 0 ≤ x ∧ x ≤ 255) : 0 ≤ sumL l ∧ sumL l ≤ 255 * l.length := by
  induction l with
  | nil => simp [sumL]
  | cons a l ih =>
    have h1 := h a List.mem_cons_self
    have h2 := ih fun x hx => h x (List.mem_cons_of_mem _ hx)
    simp only [sumL, List.length_cons]; omega
theorem rows_l1 (most live : Int) (l : List Int) (hl : l.length ≤ 100) (hw : ∀ x ∈ l, 0 ≤ x ∧ x ≤ 255) (hm : 0 ≤ most ∧ most ≤ 65535) (hv : 0 ≤ live ∧ live ≤ 65535) :
    ∀ d k (i : Nat), (planR most live l).toNat - i = d → i ≤ (planR most live l).toNat → 2 * d + 200 < k →
    erewhilelaw20_AdmitRows.l1 k most live l (planR most live l) (live + sumL (l.take i)) (i : Int) = some true := by
  have hple : (planR most live l).toNat ≤ l.length := by unfold planR; have := planC_le (most - live) l; split <;> omega
  have hp0 : 0 ≤ planR most live l := by unfold planR; split <;> omega
  have hw' : ∀ x ∈ l, -9223372036854775808 ≤ x ∧ x ≤ 9223372036854775807 := fun x hx => by have := hw x hx; omega
  intro d
  induction d with
  | zero =>
    intro k i hd hi hk
    obtain ⟨k, rfl⟩ : ∃ m, k = m + 1 := ⟨k - 1, by omega⟩
    simp only [erewhilelaw20_AdmitRows.l1]
    rw [if_neg (by omega)]
    by_cases c1 : planR most live l = (l.length : Int)
    · rw [if_pos c1]
    rw [if_neg c1]
    by_cases c2 : live > most
    · rw [if_pos c2]
    have hs := sumL_bound (l.take i) fun x hx => hw x (List.mem_of_mem_take hx)
    have hti : (l.take i).length ≤ 100 := by rw [List.length_take]; omega
    have e : planR most live l = (i : Int) := by omega
    have hil : i < l.length := by omega
    rw [if_neg c2, if_pos (by omega), if_pos (by omega), e, rdn l i hil, now_f, w64 (a := most) (by omega) (by omega), w64 (by omega) (by omega)]
    simp only [Option.bind_some]
    have hpc : planC (most - live) l = i := by unfold planR at e; rw [if_neg c2] at e; omega
    have := planC_drop i (most - live) l (by omega)
    rw [List.drop_eq_getElem_cons hil] at this
    simp only [planC] at this
    have hx := hw l[i] (List.getElem_mem hil)
    have c3 : ¬ (l[i] ≤ most - (live + sumL (l.take i))) := by
      intro c3
      rw [if_neg (by omega)] at this; omega
    simp [c3]
  | succ d ih =>
    intro k i hd hi hk
    obtain ⟨k, rfl⟩ : ∃ m, k = m + 2 := ⟨k - 2, by omega⟩
    have hil : i < l.length := by omega
    have hs := sumL_bound (l.take i) fun x hx => hw x (List.mem_of_mem_take hx)
    have hti : (l.take i).length ≤ 100 := by rw [List.length_take]; omega
    have hx := hw l[i] (List.getElem_mem hil)
    have c2 : ¬ live > most := by intro c2; unfold planR at hi hd; rw [if_pos c2] at hi hd; simp at hd
    have hP : planR most live l = (planC (most - live) l : Int) := by unfold planR; rw [if_neg c2]
    rw [hP] at hd hi ih hple ⊢
    have hi' : i + 1 ≤ planC (most - live) l := by omega
    simp only [erewhilelaw20_AdmitRows.l1]
    rw [if_pos (by omega), if_pos (by omega), if_pos (by omega), w64 (a := most) (by omega) (by omega), w64 (a := live) (by omega) (by omega)]
    rw [show ((i : Int)).toNat = i by omega]
    rw [plan_f _ _ _ _ (fun x hx => hw' x (List.mem_of_mem_take hx)) (by omega) (by omega) (by omega) (by omega) (by omega) (by omega)]
    simp only [Option.bind_some]
    have hp1 : planR most live (l.take i) = (i : Int) := by unfold planR; rw [if_neg c2, planC_take i (most - live) l (by omega)]
    rw [if_pos hp1, if_pos (by omega), rdn l i hil, w64 (by omega) (by omega), now_f]
    simp only [Option.bind_some]
    have hdr := planC_drop i (most - live) l (by omega)
    rw [List.drop_eq_getElem_cons hil] at hdr
    simp only [planC] at hdr
    have c3 : ¬ (l[i] < 0 ∨ l[i] > most - live - sumL (l.take i)) := by
      intro c3; rw [if_pos c3] at hdr; omega
    clear hdr
    have e1 : (decide (l[i] ≥ 0) && decide (l[i] ≤ most - (live + sumL (l.take i)))) = true := by
      rw [Bool.and_eq_true, decide_eq_true_eq, decide_eq_true_eq]; omega
    rw [e1]
    have e3 : live + sumL (l.take i) + l[i] = live + sumL (l.take (i + 1)) := by rw [List.take_succ_eq_append_getElem hil, sumL_snoc]; omega
    have g1 : (0 : Int) ≤ (i : Int) := by omega
    have g2 : (i : Int) < (l.length : Int) := by omega
    have g3 : (0 : Int) ≤ ((i + 1 : Nat) : Int) := by omega
    have g4 : ((i + 1 : Nat) : Int) ≤ (l.length : Int) := by omega
    have hld : (l.drop (i + 1)).length ≤ 100 := by rw [List.length_drop]; omega
    have hs1 := sumL_bound (l.take (i + 1)) fun x hx => hw x (List.mem_of_mem_take hx)
    have hti1 : (l.take (i + 1)).length ≤ 100 := by rw [List.length_take]; omega
    have e7 : (((i + 1 : Nat) : Int)).toNat = i + 1 := by omega
    have hdr2 := planC_drop (i + 1) (most - live) l hi'
    have hle : ¬ (live + sumL (l.take (i + 1)) > most) := by rw [← e3]; omega
    have hpf : admit_Plan.f k most (live + sumL (l.take (i + 1))) (l.drop (i + 1)) = some (planR most (live + sumL (l.take (i + 1))) (l.drop (i + 1))) :=
      plan_f _ _ _ _ (fun x hx => hw' x (List.mem_of_mem_drop hx)) (by omega) (by omega) (by omega) (by omega) (by omega) (by omega)
    have fin := ih k (i + 1) (by omega) (by omega) (by omega)
    have e2 : wrap64 ((i : Int) + 1) = ((i + 1 : Nat) : Int) := by rw [w64 (by omega) (by omega)]; omega
    have e5 : wrap64 (live + sumL (l.take i) + l[i]) = live + sumL (l.take (i + 1)) := by clear e2; rw [e3, w64 (by omega) (by omega)]
    have e6 : wrap64 most = most := by clear e2 e5; exact w64 (by omega) (by omega)
    have e4 : planR most (live + sumL (l.take (i + 1))) (l.drop (i + 1)) = wrap64 (wrap64 (((planC (most - live) l : Nat) : Int) - (i : Int)) - 1) := by
      clear e2 e5 e6
      rw [planR_yes hle, show most - (live + sumL (l.take (i + 1))) = most - live - sumL (l.take (i + 1)) by omega, w64 (a := ((planC (most - live) l : Nat) : Int) - (i : Int)) (by omega) (by omega), w64 (by omega) (by omega)]
      omega
    simp only [erewhilelaw20_AdmitRows.j3, Bool.not_true]
    rw [if_neg (by simp), if_pos g1, if_pos g2, e2, if_pos g3, if_pos g4, rdn l i hil, e5, e6, e7, hpf]
    simp only [Option.bind_some]
    rw [if_pos e4]
    exact fin
theorem rows_l0 (most live : Int) (l : List Int) (hl : l.length ≤ 100) (hw : ∀ x ∈ l, 0 ≤ x ∧ x ≤ 255) (hm : 0 ≤ most ∧ most ≤ 65535) (hv : 0 ≤ live ∧ live ≤ 65535) :
    ∀ d k (i : Nat), l.length - i = d → i ≤ l.length → d + 500 < k →
    erewhilelaw20_AdmitRows.l0 k most live l (l.take i) (i : Int) = some true := by
  have hw' : ∀ x ∈ l, -9223372036854775808 ≤ x ∧ x ≤ 9223372036854775807 := fun x hx => by have := hw x hx; omega
  intro d
  induction d with
  | zero =>
    intro k i hd hi hk
    obtain ⟨k, rfl⟩ : ∃ m, k = m + 2 := ⟨k - 2, by omega⟩
    simp only [erewhilelaw20_AdmitRows.l0]
    rw [if_neg (by omega), List.take_of_length_le (by omega), w64 (a := most) (by omega) (by omega), w64 (a := live) (by omega) (by omega), plan_f _ _ _ _ hw' (by omega) (by omega) (by omega) (by omega) (by omega) (by omega)]
    simp only [Option.bind_some]
    have hple : (planR most live l).toNat ≤ l.length := by unfold planR; have := planC_le (most - live) l; split <;> omega
    have hp0 : 0 ≤ planR most live l := by unfold planR; split <;> omega
    rw [if_neg (by omega)]
    simp only [erewhilelaw20_AdmitRows.j1]
    rw [if_neg (by simp; omega), w64 (a := live) (by omega) (by omega)]
    have := rows_l1 most live l hl hw hm hv _ k 0 rfl (by omega) (by omega)
    simpa [sumL] using this
  | succ d ih =>
    intro k i hd hi hk
    obtain ⟨k, rfl⟩ : ∃ m, k = m + 1 := ⟨k - 1, by omega⟩
    have hil : i < l.length := by omega
    have hx := hw l[i] (List.getElem_mem hil)
    have e2 : wrap64 ((i : Int) + 1) = ((i + 1 : Nat) : Int) := by rw [w64 (by omega) (by omega)]; omega
    simp only [erewhilelaw20_AdmitRows.l0]
    rw [if_pos (by omega), if_pos (by omega), if_pos (by rw [List.length_take]; omega), rdn l i hil, e2, w64 (by omega) (by omega), ← List.take_succ_eq_append_getElem hil]
    exact ih k (i + 1) (by omega) (by omega) (by omega)
theorem AdmitRows : erewhilelaw20_AdmitRows.Pure := by
  intro most live l w0 w1 _ _ w2
  refine ⟨1000, ?_⟩
  have h0 := wf16 w0
  have h1 := wf16 w1
  unfold erewhilelaw20_AdmitRows.f
  rw [awake_ok 1000 (by omega)]
  simp only [Option.bind_some, if_true]
  by_cases c1 : (l.length : Int) > 100
  · rw [if_pos c1]
  rw [if_neg c1]
  have := rows_l0 most live l (by omega) (fun x hx => wf8 (w2 x hx)) h0 h1 l.length 1000 0 (by omega) (by omega) (by omega)
  simpa using this
end Go.Proofs.Ytacpceakdnomnaa.Pure
