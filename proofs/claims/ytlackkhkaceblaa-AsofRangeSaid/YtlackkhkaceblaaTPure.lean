/- TPure: joined by merge.py. -/
import Derived.Test.YtlackkhkaceblaaTLeaf
/- Floor and ceil over the entries: pure. -/
namespace Go.Proofs.Ytlackkhkaceblaa.N
open Go.BigFrame Go.RowKit Go.Proofs.YtlackkhkaceblaaW.PrintMore Go.Proofs.YtlackkhkaceblaaW.PrintWords
set_option linter.unusedVariables false
set_option linter.unusedSimpArgs false
/-- Those up to a spot, those from it on. -/
def leE (k : Sp) (l : List Ent) : List Ent := l.filter (fun y => !lt k y.1)
def geE (k : Sp) (l : List Ent) : List Ent := l.filter (fun y => !lt y.1 k)
def floorE (k : Sp) (l : List Ent) : Option Ent := (leE k l).getLast?
def ceilE (k : Sp) (l : List Ent) : Option Ent := (geE k l).head?
theorem leE_none {k : Sp} {l : List Ent} (h : ∀ y ∈ l, lt k y.1 = true) : leE k l = [] := List.filter_eq_nil_iff.2 (fun y hy => by simp [h y hy])
theorem geE_all {k : Sp} {l : List Ent} (h : ∀ y ∈ l, lt k y.1 = true) : geE k l = l := List.filter_eq_self.2 (fun y hy => by simp [lt_asy (h y hy)])
theorem leE_all {k : Sp} {l : List Ent} (h : ∀ y ∈ l, lt y.1 k = true) : leE k l = l := List.filter_eq_self.2 (fun y hy => by simp [lt_asy (h y hy)])
theorem geE_none {k : Sp} {l : List Ent} (h : ∀ y ∈ l, lt y.1 k = true) : geE k l = [] := List.filter_eq_nil_iff.2 (fun y hy => by simp [h y hy])
/-- Where Find stands in a leaf. -/
theorem findL_parts (k : Sp) : ∀ {m : List Ent}, Asc m → leE k m = m.take ((findL k (m.map (·.1))).1 + if (findL k (m.map (·.1))).2 = true then 1 else 0) ∧ geE k m = m.drop (findL k (m.map (·.1))).1 ∧ (findL k (m.map (·.1))).1 ≤ m.length ∧ ((findL k (m.map (·.1))).2 = true → (findL k (m.map (·.1))).1 < m.length ∧ ∀ h : (findL k (m.map (·.1))).1 < m.length, (m[(findL k (m.map (·.1))).1]'h).1 = k)
  | [], _ => ⟨rfl, rfl, Nat.le_refl _, fun h => by cases h⟩
  | x :: t, ha => by
    have ha' := ha
    unfold Asc at ha'
    rw [List.pairwise_cons] at ha'
    obtain ⟨h1, h2⟩ := ha'
    rw [List.map_cons, findL]
    by_cases c : ordS x.1 k ≥ 0
    · rw [if_pos c]
      have hge : lt x.1 k = false := by
        rw [← Bool.not_eq_true]
        intro h
        have := lt_ord.1 h
        omega
      have ht : ∀ y ∈ t, lt k y.1 = true := fun y hy => by
        by_cases e : x.1 = k
        · rw [← e]; exact h1 y hy
        · have h3 : 0 < ordS x.1 k := by
            have : ordS x.1 k ≠ 0 := fun h => e ((ordS_zero _ _).1 h)
            omega
          exact lt_tra (ord_pos.1 h3) (h1 y hy)
      refine ⟨?_, ?_, Nat.zero_le _, fun h => ⟨Nat.succ_pos _, fun _ => ?_⟩⟩
      · by_cases e : x.1 = k
        · have e0 := (ordS_zero x.1 k).2 e
          have : lt k x.1 = false := by rw [e]; exact lt_irr k
          simp only [e0]
          rw [leE, List.filter_cons]
          simp only [this]
          have := leE_none ht
          rw [leE] at this
          rw [this]
          simp
        · have e0 : ordS x.1 k ≠ 0 := fun h => e ((ordS_zero _ _).1 h)
          have h3 : lt k x.1 = true := ord_pos.1 (by omega)
          have h4 : (ordS x.1 k == 0) = false := by rw [beq_eq_false_iff_ne]; exact e0
          simp only [h4]
          rw [leE, List.filter_cons]
          simp only [h3]
          have := leE_none ht
          rw [leE] at this
          simp [this]
      · rw [geE, List.filter_cons]
        simp only [hge]
        have := geE_all ht
        rw [geE] at this
        rw [this]
        simp
      · exact (ordS_zero _ _).1 (by simpa using h)
    · rw [if_neg c]
      have hlt : lt x.1 k = true := lt_ord.2 (by omega)
      obtain ⟨a, b, d, e⟩ := findL_parts k (m := t) h2
      refine ⟨?_, ?_, by simp only [List.length_cons]; omega, fun h => ⟨by have := (e h).1; simp only [List.length_cons]; omega, fun _ => ?_⟩⟩
      · rw [leE, List.filter_cons]
        simp only [lt_asy hlt]
        rw [leE] at a
        rw [a, Nat.add_right_comm]
        simp
      · rw [geE, List.filter_cons]
        simp only [hlt]
        rw [geE] at b
        rw [b]
        simp
      · simp only [List.getElem_cons_succ]
        exact (e h).2 (e h).1
theorem Way.asc {k : Sp} {l pre m post : List Ent} (h : Way k l pre m post) (ha : Asc l) : Asc m := by
  rw [h.cut] at ha
  exact (asc_app (asc_app ha).1).2.1
theorem Way.le {k : Sp} {l pre m post : List Ent} (h : Way k l pre m post) : leE k l = pre ++ leE k m := by
  rw [h.cut, leE, List.filter_append, List.filter_append]
  have h1 := leE_all h.lo
  have h2 := leE_none h.hi
  rw [leE] at h1 h2
  rw [h1, h2, List.append_nil, leE]
theorem Way.ge {k : Sp} {l pre m post : List Ent} (h : Way k l pre m post) : geE k l = geE k m ++ post := by
  rw [h.cut, geE, List.filter_append, List.filter_append]
  have h1 := geE_none h.lo
  have h2 := geE_all h.hi
  rw [geE] at h1 h2
  rw [h1, h2, List.nil_append, geE]
theorem Way.has {k : Sp} {l pre m post : List Ent} (h : Way k l pre m post) (ha : Asc l) : hasE k m = hasE k l := by
  rw [Bool.eq_iff_iff, hasE_iff (h.asc ha), hasE_iff ha]
  constructor
  · rintro ⟨x, hx, e⟩
    exact ⟨x, by rw [h.cut]; simp [hx], e⟩
  · rintro ⟨x, hx, e⟩
    rw [h.cut] at hx
    rcases List.mem_append.1 hx with hx | hx
    · rcases List.mem_append.1 hx with hx | hx
      · have := h.lo x hx; rw [e, lt_irr] at this; cases this
      · exact ⟨x, hx, e⟩
    · have := h.hi x hx; rw [e, lt_irr] at this; cases this
/-- The floor is in the leaf. -/
theorem Way.floor {k : Sp} {l pre m post : List Ent} (h : Way k l pre m post) (hm : m ≠ []) : floorE k l = floorE k m := by
  unfold floorE
  rw [h.le]
  by_cases hp : pre = []
  · rw [hp, List.nil_append]
  · have h1 := h.at' hp
    have : leE k m ≠ [] := by
      cases m with
      | nil => exact absurd rfl hm
      | cons x t =>
        rw [leE, List.filter_cons]
        simp only [hd] at h1
        simp [h1]
    rw [List.getLast?_append]
    cases hl : (leE k m).getLast? with
    | none => exact absurd (List.getLast?_eq_none_iff.1 hl) this
    | some y => rfl
theorem floor_leaf {k : Sp} {m : List Ent} (ha : Asc m) {i : Nat} {b : Bool} (hf : findL k (m.map (·.1)) = (i, b)) : floorE k m = if b = true then m[i]? else if i = 0 then none else m[i - 1]? := by
  have h := (findL_parts k ha).1
  have h2 := (findL_parts k ha).2.2
  rw [hf] at h h2
  simp only at h h2
  unfold floorE
  rw [h]
  cases b with
  | true =>
    have := (h2.2 rfl).1
    rw [if_pos rfl, if_pos rfl, List.getLast?_eq_getElem?, List.getElem?_take, List.length_take]
    rw [show min (i + 1) m.length - 1 = i by omega, if_pos (by omega)]
  | false =>
    rw [if_neg (by decide), if_neg (by decide), Nat.add_zero, List.getLast?_eq_getElem?, List.length_take, List.getElem?_take]
    have := h2.1
    by_cases h0 : i = 0
    · rw [if_pos h0, if_neg (by omega)]
    · rw [if_neg h0, show min i m.length - 1 = i - 1 by omega, if_pos (by omega)]
theorem ceil_leaf {k : Sp} {m : List Ent} (ha : Asc m) {i : Nat} {b : Bool} (hf : findL k (m.map (·.1)) = (i, b)) : ceilE k m = m[i]? := by
  have h := (findL_parts k ha).2.1
  rw [hf] at h
  unfold ceilE
  rw [h, List.head?_drop]
theorem Way.ceil {k : Sp} {l pre m post : List Ent} (h : Way k l pre m post) : ceilE k l = (ceilE k m).or post.head? := by
  unfold ceilE
  rw [h.ge]
  cases geE k m <;> simp
/-- The first of what stands behind: found again by its own spot. -/
theorem ceil_self {l : List Ent} (ha : Asc l) {x : Ent} (hx : x ∈ l) : ceilE x.1 l = some x := by
  induction l with
  | nil => cases hx
  | cons y t ih =>
    unfold Asc at ha
    obtain ⟨h1, h2⟩ := List.pairwise_cons.1 ha
    rcases List.mem_cons.1 hx with rfl | hx
    · simp [ceilE, geE, lt_irr]
    · have := h1 x hx
      have h3 := ih h2 hx
      simp only [ceilE, geE, List.filter_cons, this] at h3 ⊢
      simpa using h3
/-- The value at a spot; none: zero. -/
def valE (k : Sp) (l : List Ent) : Int := match l.find? (fun y => decide (y.1 = k)) with
  | some y => y.2
  | none => 0
theorem valE_at {k : Sp} {l : List Ent} (ha : Asc l) {x : Ent} (hx : x ∈ l) (e : x.1 = k) : valE k l = x.2 := by
  induction l with
  | nil => cases hx
  | cons y t ih =>
    unfold Asc at ha
    obtain ⟨h1, h2⟩ := List.pairwise_cons.1 ha
    rcases List.mem_cons.1 hx with rfl | hx
    · simp [valE, e]
    · have := h1 x hx
      have hne : y.1 ≠ k := fun h => by rw [h, ← e, lt_irr] at this; cases this
      have h3 := ih h2 hx
      simp only [valE, List.find?_cons, hne, decide_false] at h3 ⊢
      exact h3
theorem valE_none {k : Sp} {l : List Ent} (ha : Asc l) (h : hasE k l = false) : valE k l = 0 := by
  have : l.find? (fun y => decide (y.1 = k)) = none := by
    rw [List.find?_eq_none]
    intro y hy e
    have := (hasE_iff ha).2 ⟨y, hy, by simpa using e⟩
    rw [h] at this; cases this
  simp [valE, this]
end Go.Proofs.Ytlackkhkaceblaa.N
