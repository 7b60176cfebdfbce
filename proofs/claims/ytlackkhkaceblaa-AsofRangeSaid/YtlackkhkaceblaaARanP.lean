/- ARanP: joined by merge.py. -/
import Derived.Test.YtlackkhkaceblaaAP
import Derived.Test.YtlackkhkaceblaaTWalk
/- The plain law of AsofRange: each number's next one stands behind it. -/
namespace Go.Proofs.Ytlackkhkaceblaa.N
open Go.BigFrame Go.RowKit Go.Proofs.YtlackkhkaceblaaW.PrintMore Go.Proofs.YtlackkhkaceblaaW.PrintWords
set_option linter.unusedVariables false
set_option linter.unusedSimpArgs false
def lastOf (pre : List Ent) : Int := match pre.getLast? with
  | none => 0
  | some x => x.1.num
theorem lastOf_snoc (pre : List Ent) (x : Ent) : lastOf (pre ++ [x]) = x.1.num := by unfold lastOf; simp
theorem sel_place {ls : List Sp} {p : Sp} (hg : Good ls) {x : Ent} : x ∈ selE (p.at 0) (p.at lastN) (entsOf ls) ↔ x.1 ∈ ls ∧ x.2 = x.1.num ∧ plEq x.1 p := by
  unfold selE
  rw [List.mem_filter, ents_mem]
  constructor
  · rintro ⟨⟨h1, h2⟩, h3⟩
    refine ⟨h1, h2, ?_⟩
    simp only [Bool.and_eq_true, Bool.not_eq_true'] at h3
    obtain ⟨h4, h5⟩ := h3
    rw [← Bool.not_eq_true, lt_iff] at h4 h5
    simp only [Sp.at] at h4 h5
    have hn := (hg _ h1).2
    unfold plEq
    unfold lastN at h5
    refine ⟨?_, ?_, ?_⟩ <;> omega
  · rintro ⟨h1, h2, h3⟩
    refine ⟨⟨h1, h2⟩, ?_⟩
    simp only [Bool.and_eq_true, Bool.not_eq_true']
    have hn := (hg _ h1).1.2.2.2
    exact ⟨(lt_placeF (h3.trans (plEq_at p 0).symm)).2 (by show 0 ≤ x.1.num; omega), (lt_placeF ((plEq_at p lastN).trans h3.symm)).2 (by show x.1.num ≤ lastN; unfold lastN; omega)⟩
theorem sel_asc {ls : List Sp} (h : AscS ls) (lo hi : Sp) : Asc (selE lo hi (entsOf ls)) := List.Pairwise.filter _ (ents_asc h)
theorem pre_last {pre : List Ent} (ha : Asc pre) {p : Sp} (hp : ∀ y ∈ pre, plEq y.1 p) : ∀ y ∈ pre, y.1.num ≤ lastOf pre := fun y hy => by
  unfold lastOf
  cases h : pre.getLast? with
  | none => rw [List.getLast?_eq_none_iff.1 h] at hy; cases hy
  | some x =>
    have hx := List.mem_of_getLast? h
    show y.1.num ≤ x.1.num
    rcases last_max ha h y hy with e | hl
    · rw [e]; exact Int.le_refl _
    · exact Int.le_of_lt ((lt_place ((hp y hy).trans (hp x hx).symm)).1 hl)
theorem last_mem {pre : List Ent} : lastOf pre = 0 ∨ ∃ y ∈ pre, y.1.num = lastOf pre := by
  unfold lastOf
  cases h : pre.getLast? with
  | none => exact .inl rfl
  | some x => exact .inr ⟨x, List.mem_of_getLast? h, rfl⟩
theorem range_next {ls : List Sp} (h : AscS ls) (hg : Good ls) {p : Sp} {pre r : List Ent} {x : Ent} (hr : pre ++ x :: r = selE (p.at 0) (p.at lastN) (entsOf ls)) :
    plEq x.1 p ∧ x.2 = x.1.num ∧ nextS ls p (lastOf pre) = some x.1 ∧ 0 ≤ lastOf pre ∧ lastOf pre ≤ lastN := by
  have hA := sel_asc h (p.at 0) (p.at lastN)
  rw [← hr] at hA
  have hA' := List.pairwise_append.1 hA
  have hxr := List.pairwise_cons.1 hA'.2.1
  have hall : ∀ y, y ∈ pre ∨ y = x ∨ y ∈ r ↔ y.1 ∈ ls ∧ y.2 = y.1.num ∧ plEq y.1 p := fun y => by
    rw [← sel_place hg, ← hr, List.mem_append, List.mem_cons]
  have hx := (hall x).1 (.inr (.inl rfl))
  have hpp : ∀ y ∈ pre, plEq y.1 p := fun y hy => ((hall y).1 (.inl hy)).2.2
  have hlast := pre_last hA'.1 hpp
  have hx1 := hg _ hx.1
  have hlt : lastOf pre < x.1.num := by
    rcases last_mem (pre := pre) with e | ⟨y, hy, e⟩
    · rw [e]; omega
    · rw [← e]
      exact (lt_place ((hpp y hy).trans hx.2.2.symm)).1 (hA'.2.2 y hy x (by simp))
  refine ⟨hx.2.2, hx.2.1, (nextS_is h hg p _).uni ⟨hx.1, hx.2.2, hlt, fun s hs hp hm => ?_⟩, ?_, ?_⟩
  · rcases (hall (s, s.num)).2 ⟨hs, rfl, hp⟩ with hy | e | hy
    · have := hlast _ hy
      simp only at this
      omega
    · rw [← e]; exact Int.le_refl _
    · exact Int.le_of_lt ((lt_place (hx.2.2.trans hp.symm)).1 (hxr.1 _ hy))
  · rcases last_mem (pre := pre) with e | ⟨y, hy, e⟩
    · omega
    · have := (hg _ ((hall y).1 (.inl hy)).1).2
      omega
  · have := hx1.1.2.2.2.2
    unfold lastN
    omega
theorem range_end {ls : List Sp} (h : AscS ls) (hg : Good ls) (p : Sp) : nextS ls p (lastOf (selE (p.at 0) (p.at lastN) (entsOf ls))) = none ∧ 0 ≤ lastOf (selE (p.at 0) (p.at lastN) (entsOf ls)) ∧ lastOf (selE (p.at 0) (p.at lastN) (entsOf ls)) ≤ lastN := by
  have hA := sel_asc h (p.at 0) (p.at lastN)
  have hpp : ∀ y ∈ selE (p.at 0) (p.at lastN) (entsOf ls), plEq y.1 p := fun y hy => ((sel_place hg).1 hy).2.2
  refine ⟨(nextS_is h hg p _).uni (fun s hs hp => ?_), ?_⟩
  · exact pre_last hA hpp (s, s.num) ((sel_place hg).2 ⟨hs, rfl, hp⟩)
  · rcases last_mem (pre := selE (p.at 0) (p.at lastN) (entsOf ls)) with e | ⟨y, hy, e⟩
    · have hN : lastN = 18446744073709551615 := rfl
      omega
    · have h1 := hg _ ((sel_place hg).1 hy).1
      have h2 := h1.1.2.2.2.2
      have h3 := h1.2
      have hN : lastN = 18446744073709551615 := rfl
      omega
end Go.Proofs.Ytlackkhkaceblaa.N
