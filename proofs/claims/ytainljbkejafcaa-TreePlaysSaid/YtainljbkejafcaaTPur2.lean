/- TPur2: joined by merge.py. -/
import Derived.Test.YtainljbkejafcaaTA
/- What stands in a list behind puts and takings away. -/
namespace Go.Proofs.Ytainljbkejafcaa.N
open Go.BigFrame Go.RowKit Go.Proofs.YtainljbkejafcaaW.PrintMore Go.Proofs.YtainljbkejafcaaW.PrintWords
set_option linter.unusedVariables false
set_option linter.unusedSimpArgs false
theorem ins_self (k : Sp) (v : Int) : ∀ l : List Ent, (k, v) ∈ insE k v l
  | [] => by simp [insE]
  | x :: t => by
    rw [insE]
    split
    · exact List.mem_cons_of_mem _ (ins_self k v t)
    · split <;> simp
theorem ins_keep {k : Sp} {v : Int} : ∀ {l : List Ent} {y : Ent}, y ∈ l → y.1 ≠ k → y ∈ insE k v l
  | [], y, h, _ => by cases h
  | x :: t, y, h, hn => by
    rw [insE]
    rcases List.mem_cons.1 h with rfl | h
    · split
      · simp
      · simp [hn]
    · split
      · exact List.mem_cons_of_mem _ (ins_keep h hn)
      · split <;> simp [h]
theorem del_keep {k : Sp} : ∀ {l : List Ent} {y : Ent}, y ∈ l → y.1 ≠ k → y ∈ delE k l
  | [], y, h, _ => by cases h
  | x :: t, y, h, hn => by
    rw [delE]
    rcases List.mem_cons.1 h with rfl | h
    · split
      · simp
      · simp [hn]
    · split
      · exact List.mem_cons_of_mem _ (del_keep h hn)
      · split <;> simp [h]
theorem del_ne {k : Sp} : ∀ {l : List Ent}, Asc l → ∀ y ∈ delE k l, y.1 ≠ k
  | [], _, y, h => by simp [delE] at h
  | x :: t, ha, y, h => by
    unfold Asc at ha
    rw [List.pairwise_cons] at ha
    rw [delE] at h
    split at h
    · rename_i hx
      rcases List.mem_cons.1 h with rfl | h
      · exact lt_ne hx
      · exact del_ne (l := t) ha.2 y h
    · rename_i hx
      split at h
      · rename_i e
        exact fun e2 => lt_ne (ha.1 y h) (e.trans e2.symm)
      · rename_i e
        rcases List.mem_cons.1 h with rfl | h
        · exact e
        · intro e2
          have := ha.1 y h
          rw [e2] at this
          exact hx this
theorem asc_key : ∀ {l : List Ent} {x y : Ent}, Asc l → x ∈ l → y ∈ l → x.1 = y.1 → x = y
  | [], _, _, _, h, _, _ => by cases h
  | z :: t, x, y, ha, hx, hy, e => by
    unfold Asc at ha
    rw [List.pairwise_cons] at ha
    rcases List.mem_cons.1 hx with hx' | hx'
    · rcases List.mem_cons.1 hy with hy' | hy'
      · rw [hx', hy']
      · exact absurd (hx' ▸ e) (lt_ne (ha.1 y hy'))
    · rcases List.mem_cons.1 hy with hy' | hy'
      · exact absurd (hy' ▸ e.symm) (lt_ne (ha.1 x hx'))
      · exact asc_key (l := t) ha.2 hx' hy' e
theorem mem_ins {k : Sp} {v : Int} {l : List Ent} (ha : Asc l) (x : Ent) : x ∈ insE k v l ↔ x = (k, v) ∨ (x ∈ l ∧ x.1 ≠ k) := by
  constructor
  · intro h
    by_cases e : x.1 = k
    · exact .inl (asc_key (insE_asc ha) h (ins_self k v l) e)
    · rcases insE_mem h with rfl | h
      · exact .inl rfl
      · exact .inr ⟨h, e⟩
  · rintro (rfl | ⟨h, e⟩)
    · exact ins_self k v l
    · exact ins_keep h e
theorem mem_del {k : Sp} {l : List Ent} (ha : Asc l) (x : Ent) : x ∈ delE k l ↔ x ∈ l ∧ x.1 ≠ k :=
  ⟨fun h => ⟨delE_mem h, del_ne ha x h⟩, fun ⟨h, e⟩ => del_keep h e⟩
theorem asc_ext : ∀ {a b : List Ent}, Asc a → Asc b → (∀ x, x ∈ a ↔ x ∈ b) → a = b
  | [], [], _, _, _ => rfl
  | [], y :: t, _, _, h => absurd ((h y).2 (by simp)) (by simp)
  | x :: s, [], _, _, h => absurd ((h x).1 (by simp)) (by simp)
  | x :: s, y :: t, ha, hb, h => by
    have ha' := List.pairwise_cons.1 ha
    have hb' := List.pairwise_cons.1 hb
    have hxy : x = y := by
      rcases List.mem_cons.1 ((h x).1 (by simp)) with e | hx
      · exact e
      · rcases List.mem_cons.1 ((h y).2 (by simp)) with e | hy
        · exact e.symm
        · have h1 := ha'.1 y hy
          have h2 := hb'.1 x hx
          rw [lt_asy h1] at h2
          cases h2
    subst hxy
    have := asc_ext (a := s) (b := t) ha'.2 hb'.2 (fun z => by
      constructor
      · intro hz
        rcases List.mem_cons.1 ((h z).1 (List.mem_cons_of_mem _ hz)) with rfl | hz'
        · exact absurd rfl (lt_ne (ha'.1 _ hz))
        · exact hz'
      · intro hz
        rcases List.mem_cons.1 ((h z).2 (List.mem_cons_of_mem _ hz)) with rfl | hz'
        · exact absurd rfl (lt_ne (hb'.1 _ hz))
        · exact hz')
    rw [this]
theorem has_ins {k : Sp} {v : Int} {l : List Ent} (ha : Asc l) : hasE k (insE k v l) = true := (hasE_iff (insE_asc ha)).2 ⟨_, ins_self k v l, rfl⟩
theorem val_ins {k : Sp} {v : Int} {l : List Ent} (ha : Asc l) : valE k (insE k v l) = v := valE_at (insE_asc ha) (ins_self k v l) rfl
theorem has_del {k : Sp} {l : List Ent} (ha : Asc l) : hasE k (delE k l) = false := by
  cases h : hasE k (delE k l) with
  | false => rfl
  | true =>
    obtain ⟨x, hx, e⟩ := (hasE_iff (delE_asc ha)).1 h
    exact absurd e (del_ne ha x hx)
/-- What get tells behind a deed. -/
theorem step_get {l : List Ent} (ha : Asc l) (d : Dd) : hasE d.k (stepE l d) = !d.del ∧ (d.del = false → valE d.k (stepE l d) = d.v) := by
  cases h : d.del with
  | true => unfold stepE; rw [if_pos h]; exact ⟨by rw [has_del ha]; rfl, fun e => by cases e⟩
  | false => unfold stepE; rw [if_neg (by rw [h]; decide)]; exact ⟨by rw [has_ins ha]; rfl, fun _ => val_ins ha⟩
/-- The spots that were put, each with what f tells of it. -/
def SetE (f : Sp → Int) (P : Sp → Prop) (l : List Ent) : Prop := Asc l ∧ ∀ x, x ∈ l ↔ P x.1 ∧ x.2 = f x.1
theorem SetE.nil {f : Sp → Int} : SetE f (fun _ => False) [] := ⟨List.Pairwise.nil, fun x => by simp⟩
theorem SetE.ins {f : Sp → Int} {P : Sp → Prop} {l : List Ent} (h : SetE f P l) (k : Sp) : SetE f (fun s => s = k ∨ P s) (insE k (f k) l) := by
  refine ⟨insE_asc h.1, fun x => ?_⟩
  rw [mem_ins h.1, h.2]
  constructor
  · rintro (rfl | ⟨⟨a, b⟩, c⟩)
    · exact ⟨.inl rfl, rfl⟩
    · exact ⟨.inr a, b⟩
  · rintro ⟨a | a, b⟩
    · exact .inl (Prod.ext a (by rw [b, a]))
    · by_cases e : x.1 = k
      · exact .inl (Prod.ext e (by rw [b, e]))
      · exact .inr ⟨⟨a, b⟩, e⟩
theorem SetE.eq {f : Sp → Int} {P Q : Sp → Prop} {l m : List Ent} (h : SetE f P l) (k : SetE f Q m) (e : ∀ s, P s ↔ Q s) : l = m :=
  asc_ext h.1 k.1 (fun x => by rw [h.2, k.2, e])
theorem SetE.again {f : Sp → Int} {P : Sp → Prop} {l : List Ent} (h : SetE f P l) {k : Sp} (hk : hasE k l = true) (v : Int) : insE k (f k) (insE k v l) = l := by
  obtain ⟨y, hy, e⟩ := (hasE_iff h.1).1 hk
  have hy2 := ((h.2 y).1 hy).2
  refine asc_ext (insE_asc (insE_asc h.1)) h.1 (fun x => ?_)
  rw [mem_ins (insE_asc h.1), mem_ins h.1]
  constructor
  · rintro (rfl | ⟨rfl | ⟨a, _⟩, b⟩)
    · have : y = (k, f k) := Prod.ext e (by rw [hy2, e])
      rwa [← this]
    · exact absurd rfl b
    · exact a
  · intro hx
    by_cases e2 : x.1 = k
    · exact .inl (Prod.ext e2 (by rw [((h.2 x).1 hx).2, e2]))
    · exact .inr ⟨.inr ⟨hx, e2⟩, e2⟩
theorem ins_del {l : List Ent} (ha : Asc l) {k : Sp} (hk : hasE k l = false) (v : Int) : delE k (insE k v l) = l := by
  refine asc_ext (delE_asc (insE_asc ha)) ha (fun x => ?_)
  rw [mem_del (insE_asc ha), mem_ins ha]
  constructor
  · rintro ⟨rfl | ⟨a, _⟩, b⟩
    · exact absurd rfl b
    · exact a
  · intro hx
    have e : x.1 ≠ k := fun e => by rw [(hasE_iff ha).2 ⟨x, hx, e⟩] at hk; cases hk
    exact ⟨.inr ⟨hx, e⟩, e⟩
end Go.Proofs.Ytainljbkejafcaa.N
