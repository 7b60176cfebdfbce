/- AP: joined by merge.py. -/
import Derived.Test.YtlackkhkaceblaaTBase
import Derived.Test.YtlackkhkaceblaaTItems
import Derived.Test.YtlackkhkaceblaaTGet
import Derived.Test.YtlackkhkaceblaaTPure
import Derived.Test.YtlackkhkaceblaaNOpen
/- Acts, and the entries they leave. (As NPlay has them for node's deeds.) -/
namespace Go.Proofs.Ytlackkhkaceblaa.N
open Go.BigFrame Go.RowKit Go.Proofs.YtlackkhkaceblaaW.PrintMore Go.Proofs.YtlackkhkaceblaaW.PrintWords
set_option linter.unusedVariables false
set_option linter.unusedSimpArgs false
/-- A deed. -/
structure Dd where
  del : Bool
  k : Sp
  v : Int
def DeedAt (w : World) (b o : Nat) (d : Dd) : Prop := w.cell? ⟨b, o, none⟩ = some (.bool d.del) ∧ w.cell? ⟨b, o + 1, none⟩ = some (.int .i64 d.k.br) ∧ w.cell? ⟨b, o + 2, none⟩ = some (.int .i64 d.k.vol) ∧ w.cell? ⟨b, o + 3, none⟩ = some (.int .i64 d.k.blk) ∧ w.cell? ⟨b, o + 4, none⟩ = some (.int .u64 d.k.num) ∧ w.cell? ⟨b, o + 5, none⟩ = some (.int .u64 d.v)
def DeedsAt (w : World) (A : Option Addr) (l : List Dd) : Prop := 0 < l.length → ∃ b off, A = some ⟨b, off, none⟩ ∧ b < w.heap.size ∧ ∀ j (h : j < l.length), DeedAt w b (off + j * 6) l[j]
theorem DeedAt.below {w w' : World} {b o B : Nat} {d : Dd} (h : DeedAt w b o d) (hb : Below B w w') (hlt : b < B) : DeedAt w' b o d := by
  obtain ⟨a0, a1, a2, a3, a4, a5⟩ := h
  exact ⟨(hb.cell (p := ⟨b, _, none⟩) hlt).trans a0, (hb.cell (p := ⟨b, _, none⟩) hlt).trans a1, (hb.cell (p := ⟨b, _, none⟩) hlt).trans a2, (hb.cell (p := ⟨b, _, none⟩) hlt).trans a3, (hb.cell (p := ⟨b, _, none⟩) hlt).trans a4, (hb.cell (p := ⟨b, _, none⟩) hlt).trans a5⟩
theorem DeedsAt.below {w w' : World} {A : Option Addr} {l : List Dd} (h : DeedsAt w A l) (hb : Below w.heap.size w w') : DeedsAt w' A l := fun hl => by
  obtain ⟨b, off, e, hlt, hc⟩ := h hl
  exact ⟨b, off, e, Nat.lt_of_lt_of_le hlt hb.size, fun j hj => (hc j hj).below hb hlt⟩
def stepE (l : List Ent) (d : Dd) : List Ent := if d.del = true then delE d.k l else insE d.k d.v l
def playE (ds : List Dd) : List Ent := ds.foldl stepE []
theorem playE_succ {ds : List Dd} {j : Nat} (h : j < ds.length) : playE (ds.take (j + 1)) = stepE (playE (ds.take j)) ds[j] := by
  unfold playE; rw [List.take_succ_eq_append_getElem h, List.foldl_append]; rfl
theorem insE_len_le (k : Sp) (v : Int) : ∀ l : List Ent, (insE k v l).length ≤ l.length + 1
  | [] => by simp [insE]
  | x :: t => by
    rw [insE]
    have := insE_len_le k v t
    split
    · simp; omega
    · split <;> simp
theorem stepE_len (l : List Ent) (d : Dd) : (stepE l d).length ≤ l.length + 1 := by
  unfold stepE
  split
  · rw [delE_length]; split <;> omega
  · exact insE_len_le _ _ _
theorem stepE_asc {l : List Ent} (h : Asc l) (d : Dd) : Asc (stepE l d) := by
  unfold stepE
  split
  · exact delE_asc h
  · exact insE_asc h
theorem foldl_ok : ∀ (ds : List Dd) (l : List Ent), Asc l → Asc (ds.foldl stepE l) ∧ (ds.foldl stepE l).length ≤ l.length + ds.length
  | [], l, h => ⟨h, by simp⟩
  | d :: t, l, h => by
    obtain ⟨a, b⟩ := foldl_ok t (stepE l d) (stepE_asc h d)
    have := stepE_len l d
    exact ⟨a, by rw [List.foldl_cons, List.length_cons]; omega⟩
theorem playE_asc (ds : List Dd) : Asc (playE ds) := (foldl_ok ds [] List.Pairwise.nil).1
theorem playE_len (ds : List Dd) : (playE ds).length ≤ ds.length := by have := (foldl_ok ds [] List.Pairwise.nil).2; simpa [playE] using this
end Go.Proofs.Ytlackkhkaceblaa.N

/- The document's Same, Del, Put over lists of items. -/
namespace Go.Proofs.Ytlackkhkaceblaa.N
open Go.BigFrame Go.RowKit Go.Proofs.YtlackkhkaceblaaW.PrintMore Go.Proofs.YtlackkhkaceblaaW.PrintWords
set_option linter.unusedVariables false
set_option linter.unusedSimpArgs false
/-- Are the first j the same? -/
def SameTo (a b : List Ent) (j : Nat) : Prop := a.take j = b.take j
/-- The spots that are not k. -/
def notK (k : Sp) (l : List Ent) : List Ent := l.filter (fun y => !decide (y.1 = k))
theorem notK_del {k : Sp} : ∀ {l : List Ent}, Asc l → notK k l = delE k l
  | [], _ => rfl
  | x :: t, ha => by
    unfold Asc at ha
    rw [List.pairwise_cons] at ha
    obtain ⟨h1, h2⟩ := ha
    have ih := notK_del (k := k) (l := t) h2
    rw [notK, List.filter_cons, delE]
    unfold notK at ih
    by_cases e : x.1 = k
    · have hne : ∀ y ∈ t, (!decide (y.1 = k)) = true := fun y hy => by
        have := h1 y hy
        rw [e] at this
        have := (lt_ne this).symm
        simp [this]
      rw [List.filter_eq_self.2 hne]
      simp [e, lt_irr]
    · simp only [e, decide_false, Bool.not_false, if_true, ih]
      split
      · rfl
      · rename_i hlt
        rw [← ih, List.filter_eq_self.2]
        · rfl
        · intro y hy
          have h3 := h1 y hy
          have hk : lt k x.1 = true := by
            rw [← Bool.not_eq_false]
            intro h4
            exact e (lt_tot (by simpa using hlt) h4)
          have := (lt_ne (lt_tra hk h3)).symm
          simp [this]
/-- A list that is handed back: its row is a new one. -/
def ItemsPost (w : World) (l : List Ent) (e : Ending) (w' : World) : Prop := ∃ A c, e = .returned (.slice A l.length c) ∧ ItemsAt w' A l ∧ (A = none → l.length = 0 ∧ c = 0) ∧ Below w.heap.size w w'
end Go.Proofs.Ytlackkhkaceblaa.N

/- The document's Put over lists of items. -/
namespace Go.Proofs.Ytlackkhkaceblaa.N
open Go.BigFrame Go.RowKit Go.Proofs.YtlackkhkaceblaaW.PrintMore Go.Proofs.YtlackkhkaceblaaW.PrintWords
set_option linter.unusedVariables false
set_option linter.unusedSimpArgs false
/-- Has the spot been put? -/
def dn (k : Sp) (m : List Ent) : Bool := m.any (fun y => !lt y.1 k)
def pt (k : Sp) (v : Int) (m : List Ent) : List Ent := if dn k m = true then insE k v m else m
theorem dn_false {k : Sp} {m : List Ent} : dn k m = false ↔ ∀ y ∈ m, lt y.1 k = true := by
  unfold dn
  rw [List.any_eq_false]
  simp
theorem dn_app {k : Sp} {m : List Ent} {x : Ent} : dn k (m ++ [x]) = (dn k m || !lt x.1 k) := by simp [dn]
theorem pt_end {k : Sp} {v : Int} {m : List Ent} (h : dn k m = false) : m ++ [(k, v)] = insE k v m := by
  have h1 := insE_front k v m [] (dn_false.1 h)
  rw [List.append_nil] at h1
  rw [h1]; rfl
theorem pt_len (k : Sp) (v : Int) (m : List Ent) : (pt k v m).length ≤ m.length + 1 := by
  unfold pt
  split
  · have := insE_length (k := k) (v := v) (l := m); split at this <;> omega
  · omega
section
variable {k : Sp} {v : Int} {m : List Ent} {x : Ent}
theorem pt_eq (hm : ∀ y ∈ m, lt y.1 x.1 = true) (e : x.1 = k) : dn k m = false ∧ dn k (m ++ [x]) = true ∧ pt k v m ++ [(k, v)] = pt k v (m ++ [x]) := by
  have h0 : dn k m = false := dn_false.2 (fun y hy => by rw [← e]; exact hm y hy)
  have h1 : dn k (m ++ [x]) = true := by rw [dn_app, h0, e, lt_irr]; rfl
  refine ⟨h0, h1, ?_⟩
  unfold pt
  rw [h0, h1, if_neg (by decide), if_pos rfl, insE_front k v m [x] (dn_false.1 h0)]
  congr 1
  simp [insE, e, lt_irr]
theorem pt_gt (h0 : dn k m = false) (h : lt k x.1 = true) : dn k (m ++ [x]) = true ∧ pt k v m ++ [(k, v)] ++ [x] = pt k v (m ++ [x]) := by
  have h1 : dn k (m ++ [x]) = true := by rw [dn_app, h0, lt_asy h]; rfl
  refine ⟨h1, ?_⟩
  unfold pt
  rw [h0, h1, if_neg (by decide), if_pos rfl, insE_front k v m [x] (dn_false.1 h0), List.append_assoc]
  congr 1
  have hne := (lt_ne h).symm
  simp [insE, lt_asy h, hne]
theorem pt_lt (h0 : dn k m = false) (h : lt k x.1 = false) (hne : x.1 ≠ k) : dn k (m ++ [x]) = false ∧ pt k v m ++ [x] = pt k v (m ++ [x]) := by
  have hlt : lt x.1 k = true := by
    rw [← Bool.not_eq_false]
    intro h2
    exact hne (lt_tot h2 h)
  have h1 : dn k (m ++ [x]) = false := by rw [dn_app, h0, hlt]; rfl
  refine ⟨h1, ?_⟩
  unfold pt
  rw [h0, h1, if_neg (by decide), if_neg (by decide)]
theorem pt_on (hm : ∀ y ∈ m, lt y.1 x.1 = true) (h0 : dn k m = true) : dn k (m ++ [x]) = true ∧ x.1 ≠ k ∧ pt k v m ++ [x] = pt k v (m ++ [x]) := by
  have hk : lt k x.1 = true := by
    unfold dn at h0
    obtain ⟨y, hy, h⟩ := List.any_eq_true.1 h0
    have h2 := hm y hy
    by_cases e : y.1 = k
    · rw [← e]; exact h2
    · have h3 : lt k y.1 = true := by
        rw [← Bool.not_eq_false]
        intro h4
        exact e (lt_tot (by simpa using h) h4)
      exact lt_tra h3 h2
  have h1 : dn k (m ++ [x]) = true := by rw [dn_app, h0]; rfl
  refine ⟨h1, (lt_ne hk).symm, ?_⟩
  unfold pt
  rw [h0, h1, if_pos rfl, if_pos rfl, insE_back k v m [x] (fun y hy => by rw [List.mem_singleton.1 hy]; exact hk)]
end
theorem take_lt {l : List Ent} (ha : Asc l) {j : Nat} (hj : j < l.length) : ∀ y ∈ l.take j, lt y.1 l[j].1 = true := fun y hy => by
  obtain ⟨i, hi, rfl⟩ := List.getElem_of_mem hy
  rw [List.length_take] at hi
  rw [List.getElem_take]
  unfold Asc at ha
  exact List.pairwise_iff_getElem.1 ha i j (by omega) hj (by omega)
end Go.Proofs.Ytlackkhkaceblaa.N

/- What stands in a list behind puts and takings away. -/
namespace Go.Proofs.Ytlackkhkaceblaa.N
open Go.BigFrame Go.RowKit Go.Proofs.YtlackkhkaceblaaW.PrintMore Go.Proofs.YtlackkhkaceblaaW.PrintWords
set_option linter.unusedVariables false
set_option linter.unusedSimpArgs false
theorem ins_self (k : Sp) (v : Int) : ∀ l : List Ent, (k, v) ∈ insE k v l
  | [] => by simp [insE]
  | x :: t => by
    rw [insE]
    split
    · exact List.mem_cons_of_mem _ (ins_self k v t)
    · split <;> simp
theorem ins_keep {k : Sp} {v : Int} : ∀ {l : List Ent} {y : Ent}, y ∈ l → y.1 ≠ k → y ∈ insE k v l
  | [], y, h, _ => by cases h
  | x :: t, y, h, hn => by
    rw [insE]
    rcases List.mem_cons.1 h with rfl | h
    · split
      · simp
      · simp [hn]
    · split
      · exact List.mem_cons_of_mem _ (ins_keep h hn)
      · split <;> simp [h]
theorem del_keep {k : Sp} : ∀ {l : List Ent} {y : Ent}, y ∈ l → y.1 ≠ k → y ∈ delE k l
  | [], y, h, _ => by cases h
  | x :: t, y, h, hn => by
    rw [delE]
    rcases List.mem_cons.1 h with rfl | h
    · split
      · simp
      · simp [hn]
    · split
      · exact List.mem_cons_of_mem _ (del_keep h hn)
      · split <;> simp [h]
theorem del_ne {k : Sp} : ∀ {l : List Ent}, Asc l → ∀ y ∈ delE k l, y.1 ≠ k
  | [], _, y, h => by simp [delE] at h
  | x :: t, ha, y, h => by
    unfold Asc at ha
    rw [List.pairwise_cons] at ha
    rw [delE] at h
    split at h
    · rename_i hx
      rcases List.mem_cons.1 h with rfl | h
      · exact lt_ne hx
      · exact del_ne (l := t) ha.2 y h
    · rename_i hx
      split at h
      · rename_i e
        exact fun e2 => lt_ne (ha.1 y h) (e.trans e2.symm)
      · rename_i e
        rcases List.mem_cons.1 h with rfl | h
        · exact e
        · intro e2
          have := ha.1 y h
          rw [e2] at this
          exact hx this
theorem asc_key : ∀ {l : List Ent} {x y : Ent}, Asc l → x ∈ l → y ∈ l → x.1 = y.1 → x = y
  | [], _, _, _, h, _, _ => by cases h
  | z :: t, x, y, ha, hx, hy, e => by
    unfold Asc at ha
    rw [List.pairwise_cons] at ha
    rcases List.mem_cons.1 hx with hx' | hx'
    · rcases List.mem_cons.1 hy with hy' | hy'
      · rw [hx', hy']
      · exact absurd (hx' ▸ e) (lt_ne (ha.1 y hy'))
    · rcases List.mem_cons.1 hy with hy' | hy'
      · exact absurd (hy' ▸ e.symm) (lt_ne (ha.1 x hx'))
      · exact asc_key (l := t) ha.2 hx' hy' e
theorem mem_ins {k : Sp} {v : Int} {l : List Ent} (ha : Asc l) (x : Ent) : x ∈ insE k v l ↔ x = (k, v) ∨ (x ∈ l ∧ x.1 ≠ k) := by
  constructor
  · intro h
    by_cases e : x.1 = k
    · exact .inl (asc_key (insE_asc ha) h (ins_self k v l) e)
    · rcases insE_mem h with rfl | h
      · exact .inl rfl
      · exact .inr ⟨h, e⟩
  · rintro (rfl | ⟨h, e⟩)
    · exact ins_self k v l
    · exact ins_keep h e
theorem mem_del {k : Sp} {l : List Ent} (ha : Asc l) (x : Ent) : x ∈ delE k l ↔ x ∈ l ∧ x.1 ≠ k :=
  ⟨fun h => ⟨delE_mem h, del_ne ha x h⟩, fun ⟨h, e⟩ => del_keep h e⟩
theorem asc_ext : ∀ {a b : List Ent}, Asc a → Asc b → (∀ x, x ∈ a ↔ x ∈ b) → a = b
  | [], [], _, _, _ => rfl
  | [], y :: t, _, _, h => absurd ((h y).2 (by simp)) (by simp)
  | x :: s, [], _, _, h => absurd ((h x).1 (by simp)) (by simp)
  | x :: s, y :: t, ha, hb, h => by
    have ha' := List.pairwise_cons.1 ha
    have hb' := List.pairwise_cons.1 hb
    have hxy : x = y := by
      rcases List.mem_cons.1 ((h x).1 (by simp)) with e | hx
      · exact e
      · rcases List.mem_cons.1 ((h y).2 (by simp)) with e | hy
        · exact e.symm
        · have h1 := ha'.1 y hy
          have h2 := hb'.1 x hx
          rw [lt_asy h1] at h2
          cases h2
    subst hxy
    have := asc_ext (a := s) (b := t) ha'.2 hb'.2 (fun z => by
      constructor
      · intro hz
        rcases List.mem_cons.1 ((h z).1 (List.mem_cons_of_mem _ hz)) with rfl | hz'
        · exact absurd rfl (lt_ne (ha'.1 _ hz))
        · exact hz'
      · intro hz
        rcases List.mem_cons.1 ((h z).2 (List.mem_cons_of_mem _ hz)) with rfl | hz'
        · exact absurd rfl (lt_ne (hb'.1 _ hz))
        · exact hz')
    rw [this]
theorem has_ins {k : Sp} {v : Int} {l : List Ent} (ha : Asc l) : hasE k (insE k v l) = true := (hasE_iff (insE_asc ha)).2 ⟨_, ins_self k v l, rfl⟩
theorem val_ins {k : Sp} {v : Int} {l : List Ent} (ha : Asc l) : valE k (insE k v l) = v := valE_at (insE_asc ha) (ins_self k v l) rfl
theorem has_del {k : Sp} {l : List Ent} (ha : Asc l) : hasE k (delE k l) = false := by
  cases h : hasE k (delE k l) with
  | false => rfl
  | true =>
    obtain ⟨x, hx, e⟩ := (hasE_iff (delE_asc ha)).1 h
    exact absurd e (del_ne ha x hx)
/-- What get tells behind a deed. -/
theorem step_get {l : List Ent} (ha : Asc l) (d : Dd) : hasE d.k (stepE l d) = !d.del ∧ (d.del = false → valE d.k (stepE l d) = d.v) := by
  cases h : d.del with
  | true => unfold stepE; rw [if_pos h]; exact ⟨by rw [has_del ha]; rfl, fun e => by cases e⟩
  | false => unfold stepE; rw [if_neg (by rw [h]; decide)]; exact ⟨by rw [has_ins ha]; rfl, fun _ => val_ins ha⟩
/-- The spots that were put, each with what f tells of it. -/
def SetE (f : Sp → Int) (P : Sp → Prop) (l : List Ent) : Prop := Asc l ∧ ∀ x, x ∈ l ↔ P x.1 ∧ x.2 = f x.1
theorem SetE.nil {f : Sp → Int} : SetE f (fun _ => False) [] := ⟨List.Pairwise.nil, fun x => by simp⟩
theorem SetE.ins {f : Sp → Int} {P : Sp → Prop} {l : List Ent} (h : SetE f P l) (k : Sp) : SetE f (fun s => s = k ∨ P s) (insE k (f k) l) := by
  refine ⟨insE_asc h.1, fun x => ?_⟩
  rw [mem_ins h.1, h.2]
  constructor
  · rintro (rfl | ⟨⟨a, b⟩, c⟩)
    · exact ⟨.inl rfl, rfl⟩
    · exact ⟨.inr a, b⟩
  · rintro ⟨a | a, b⟩
    · exact .inl (Prod.ext a (by rw [b, a]))
    · by_cases e : x.1 = k
      · exact .inl (Prod.ext e (by rw [b, e]))
      · exact .inr ⟨⟨a, b⟩, e⟩
theorem SetE.eq {f : Sp → Int} {P Q : Sp → Prop} {l m : List Ent} (h : SetE f P l) (k : SetE f Q m) (e : ∀ s, P s ↔ Q s) : l = m :=
  asc_ext h.1 k.1 (fun x => by rw [h.2, k.2, e])
theorem SetE.again {f : Sp → Int} {P : Sp → Prop} {l : List Ent} (h : SetE f P l) {k : Sp} (hk : hasE k l = true) (v : Int) : insE k (f k) (insE k v l) = l := by
  obtain ⟨y, hy, e⟩ := (hasE_iff h.1).1 hk
  have hy2 := ((h.2 y).1 hy).2
  refine asc_ext (insE_asc (insE_asc h.1)) h.1 (fun x => ?_)
  rw [mem_ins (insE_asc h.1), mem_ins h.1]
  constructor
  · rintro (rfl | ⟨rfl | ⟨a, _⟩, b⟩)
    · have : y = (k, f k) := Prod.ext e (by rw [hy2, e])
      rwa [← this]
    · exact absurd rfl b
    · exact a
  · intro hx
    by_cases e2 : x.1 = k
    · exact .inl (Prod.ext e2 (by rw [((h.2 x).1 hx).2, e2]))
    · exact .inr ⟨.inr ⟨hx, e2⟩, e2⟩
theorem ins_del {l : List Ent} (ha : Asc l) {k : Sp} (hk : hasE k l = false) (v : Int) : delE k (insE k v l) = l := by
  refine asc_ext (delE_asc (insE_asc ha)) ha (fun x => ?_)
  rw [mem_del (insE_asc ha), mem_ins ha]
  constructor
  · rintro ⟨rfl | ⟨a, _⟩, b⟩
    · exact absurd rfl b
    · exact a
  · intro hx
    have e : x.1 ≠ k := fun e => by rw [(hasE_iff ha).2 ⟨x, hx, e⟩] at hk; cases hk
    exact ⟨.inr ⟨hx, e⟩, e⟩
end Go.Proofs.Ytlackkhkaceblaa.N

/- What stands at a place at a moment, and what comes next: plain laws over a list of spots. -/
namespace Go.Proofs.Ytlackkhkaceblaa.N
open Go.BigFrame Go.RowKit Go.Proofs.YtlackkhkaceblaaW.PrintMore Go.Proofs.YtlackkhkaceblaaW.PrintWords
set_option linter.unusedVariables false
set_option linter.unusedSimpArgs false
/-- The same place. -/
def plEq (a b : Sp) : Prop := a.br = b.br ∧ a.vol = b.vol ∧ a.blk = b.blk
instance (a b : Sp) : Decidable (plEq a b) := by unfold plEq; exact inferInstance
theorem plEq.symm {a b : Sp} (h : plEq a b) : plEq b a := ⟨h.1.symm, h.2.1.symm, h.2.2.symm⟩
theorem plEq.trans {a b c : Sp} (h : plEq a b) (k : plEq b c) : plEq a c := ⟨h.1.trans k.1, h.2.1.trans k.2.1, h.2.2.trans k.2.2⟩
theorem sp_ext {a b : Sp} (h : plEq a b) (e : a.num = b.num) : a = b := by
  obtain ⟨a0, a1, a2, a3⟩ := a
  obtain ⟨b0, b1, b2, b3⟩ := b
  obtain ⟨h0, h1, h2⟩ := h
  simp only at h0 h1 h2 e
  subst h0 h1 h2 e
  rfl
/-- A place at a moment. -/
def Sp.at (p : Sp) (m : Int) : Sp := ⟨p.br, p.vol, p.blk, m⟩
theorem plEq_at (p : Sp) (m : Int) : plEq (p.at m) p := ⟨rfl, rfl, rfl⟩
theorem lt_place {a b : Sp} (h : plEq a b) : lt a b = true ↔ a.num < b.num := by
  rw [lt_iff]
  obtain ⟨h0, h1, h2⟩ := h
  omega
theorem lt_placeF {a b : Sp} (h : plEq a b) : lt a b = false ↔ b.num ≤ a.num := by
  rw [← Bool.not_eq_true, lt_place h]
  omega
def AscS (ls : List Sp) : Prop := ls.Pairwise (fun a b => lt a b = true)
def entsOf (ls : List Sp) : List Ent := ls.map (fun s => (s, s.num))
theorem ents_asc {ls : List Sp} (h : AscS ls) : Asc (entsOf ls) := by
  unfold Asc entsOf
  rw [List.pairwise_map]
  exact h
theorem ents_len (ls : List Sp) : (entsOf ls).length = ls.length := by simp [entsOf]
theorem ents_mem {ls : List Sp} {x : Ent} : x ∈ entsOf ls ↔ x.1 ∈ ls ∧ x.2 = x.1.num := by
  simp only [entsOf, List.mem_map]
  constructor
  · rintro ⟨s, hs, rfl⟩
    exact ⟨hs, rfl⟩
  · rintro ⟨h1, h2⟩
    exact ⟨x.1, h1, Prod.ext rfl h2.symm⟩
theorem ents_has {ls : List Sp} (h : AscS ls) (k : Sp) : hasE k (entsOf ls) = decide (k ∈ ls) := by
  rw [Bool.eq_iff_iff, hasE_iff (ents_asc h), decide_eq_true_iff]
  constructor
  · rintro ⟨x, hx, e⟩
    rw [← e]
    exact (ents_mem.1 hx).1
  · intro hk
    exact ⟨(k, k.num), ents_mem.2 ⟨hk, rfl⟩, rfl⟩
theorem last_max : ∀ {l : List Ent} {x : Ent}, Asc l → l.getLast? = some x → ∀ y ∈ l, y = x ∨ lt y.1 x.1 = true := by
  intro l x ha hx y hy
  obtain ⟨ini, rfl⟩ : ∃ ini, l = ini ++ [x] := by
    obtain ⟨ys, e⟩ := List.getLast?_eq_some_iff.1 hx
    exact ⟨ys, e⟩
  rcases List.mem_append.1 hy with h | h
  · exact .inr ((List.pairwise_append.1 ha).2.2 y h x (by simp))
  · exact .inl (List.mem_singleton.1 h)
theorem head_min : ∀ {l : List Ent} {x : Ent}, Asc l → l.head? = some x → ∀ y ∈ l, y = x ∨ lt x.1 y.1 = true := by
  intro l x ha hx y hy
  cases l with
  | nil => cases hx
  | cons z t =>
    obtain rfl : z = x := by simpa using hx
    rcases List.mem_cons.1 hy with rfl | h
    · exact .inl rfl
    · exact .inr ((List.pairwise_cons.1 ha).1 y h)
/-- The greatest number at a place that is not above a moment. -/
def AtIs (ls : List Sp) (p : Sp) (m : Int) : Option Sp → Prop
  | none => ∀ s ∈ ls, plEq s p → m < s.num
  | some y => y ∈ ls ∧ plEq y p ∧ y.num ≤ m ∧ ∀ s ∈ ls, plEq s p → s.num ≤ m → s.num ≤ y.num
/-- The least number at a place above one. -/
def NextIs (ls : List Sp) (p : Sp) (m : Int) : Option Sp → Prop
  | none => ∀ s ∈ ls, plEq s p → s.num ≤ m
  | some y => y ∈ ls ∧ plEq y p ∧ m < y.num ∧ ∀ s ∈ ls, plEq s p → m < s.num → y.num ≤ s.num
theorem AtIs.uni {ls : List Sp} {p : Sp} {m : Int} {a b : Option Sp} (h : AtIs ls p m a) (k : AtIs ls p m b) : a = b := by
  cases a with
  | none =>
    cases b with
    | none => rfl
    | some y => have := h y k.1 k.2.1; have := k.2.2.1; omega
  | some x =>
    cases b with
    | none => have := k x h.1 h.2.1; have := h.2.2.1; omega
    | some y =>
      have h1 := h.2.2.2 y k.1 k.2.1 k.2.2.1
      have h2 := k.2.2.2 x h.1 h.2.1 h.2.2.1
      rw [sp_ext (h.2.1.trans k.2.1.symm) (by omega)]
theorem NextIs.uni {ls : List Sp} {p : Sp} {m : Int} {a b : Option Sp} (h : NextIs ls p m a) (k : NextIs ls p m b) : a = b := by
  cases a with
  | none =>
    cases b with
    | none => rfl
    | some y => have := h y k.1 k.2.1; have := k.2.2.1; omega
  | some x =>
    cases b with
    | none => have := k x h.1 h.2.1; have := h.2.2.1; omega
    | some y =>
      have h1 := h.2.2.2 y k.1 k.2.1 k.2.2.1
      have h2 := k.2.2.2 x h.1 h.2.1 h.2.2.1
      rw [sp_ext (h.2.1.trans k.2.1.symm) (by omega)]
/-- What of a spot that was found stands at the place. -/
def placed (p : Sp) (o : Option Ent) : Option Sp := o.bind (fun x => if plEq x.1 p then some x.1 else none)
theorem floor_at {ls : List Sp} (ha : AscS ls) (p : Sp) (m : Int) : AtIs ls p m (placed p (floorE (p.at m) (entsOf ls))) := by
  have hA := ents_asc ha
  have hin : ∀ s ∈ ls, plEq s p → s.num ≤ m → (s, s.num) ∈ leE (p.at m) (entsOf ls) := fun s hs hp hm => by
    unfold leE
    rw [List.mem_filter]
    refine ⟨ents_mem.2 ⟨hs, rfl⟩, ?_⟩
    have : lt (p.at m) s = false := (lt_placeF ((plEq_at p m).trans hp.symm)).2 hm
    simp [this]
  have hleA : Asc (leE (p.at m) (entsOf ls)) := List.Pairwise.filter _ hA
  cases hf : floorE (p.at m) (entsOf ls) with
  | none =>
    have hn : leE (p.at m) (entsOf ls) = [] := List.getLast?_eq_none_iff.1 hf
    intro s hs hp
    apply Decidable.byContradiction
    intro hm
    have := hin s hs hp (by omega)
    rw [hn] at this
    cases this
  | some x =>
    have hx : x ∈ leE (p.at m) (entsOf ls) := List.mem_of_getLast? hf
    have hx' := hx
    unfold leE at hx'
    rw [List.mem_filter] at hx'
    obtain ⟨hx1, hx2⟩ := hx'
    have hx3 : lt (p.at m) x.1 = false := by simpa using hx2
    have hmax := last_max hleA hf
    show AtIs ls p m (if plEq x.1 p then some x.1 else none)
    by_cases hp : plEq x.1 p
    · rw [if_pos hp]
      refine ⟨(ents_mem.1 hx1).1, hp, (lt_placeF ((plEq_at p m).trans hp.symm)).1 hx3, fun s hs hsp hm => ?_⟩
      rcases hmax _ (hin s hs hsp hm) with e | h
      · rw [← e]; exact Int.le_refl _
      · exact Int.le_of_lt ((lt_place (hsp.trans hp.symm)).1 h)
    · rw [if_neg hp]
      intro s hs hsp
      apply Decidable.byContradiction
      intro hm
      rcases hmax _ (hin s hs hsp (by omega)) with e | h
      · exact hp (e ▸ hsp)
      · have h1 : ¬ (lt (p.at m) x.1 = true) := by rw [hx3]; decide
        rw [lt_iff] at h h1
        unfold plEq at hp
        simp only [Sp.at] at h h1 hp
        obtain ⟨e0, e1, e2⟩ := hsp
        omega
theorem ceil_next {ls : List Sp} (ha : AscS ls) (p : Sp) (m : Int) : NextIs ls p m (placed p (ceilE (p.at (m + 1)) (entsOf ls))) := by
  have hA := ents_asc ha
  have hin : ∀ s ∈ ls, plEq s p → m < s.num → (s, s.num) ∈ geE (p.at (m + 1)) (entsOf ls) := fun s hs hp hm => by
    unfold geE
    rw [List.mem_filter]
    refine ⟨ents_mem.2 ⟨hs, rfl⟩, ?_⟩
    have : lt s (p.at (m + 1)) = false := (lt_placeF (hp.trans (plEq_at p (m + 1)).symm)).2 (by show m + 1 ≤ s.num; omega)
    simp [this]
  have hgeA : Asc (geE (p.at (m + 1)) (entsOf ls)) := List.Pairwise.filter _ hA
  cases hf : ceilE (p.at (m + 1)) (entsOf ls) with
  | none =>
    have hn : geE (p.at (m + 1)) (entsOf ls) = [] := List.head?_eq_none_iff.1 hf
    intro s hs hp
    apply Decidable.byContradiction
    intro hm
    have := hin s hs hp (by omega)
    rw [hn] at this
    cases this
  | some x =>
    have hx : x ∈ geE (p.at (m + 1)) (entsOf ls) := List.mem_of_head? hf
    have hx' := hx
    unfold geE at hx'
    rw [List.mem_filter] at hx'
    obtain ⟨hx1, hx2⟩ := hx'
    have hx3 : lt x.1 (p.at (m + 1)) = false := by simpa using hx2
    have hmin := head_min hgeA hf
    show NextIs ls p m (if plEq x.1 p then some x.1 else none)
    by_cases hp : plEq x.1 p
    · rw [if_pos hp]
      have h3 : m + 1 ≤ x.1.num := (lt_placeF (hp.trans (plEq_at p (m + 1)).symm)).1 hx3
      refine ⟨(ents_mem.1 hx1).1, hp, by omega, fun s hs hsp hm => ?_⟩
      rcases hmin _ (hin s hs hsp hm) with e | h
      · rw [← e]; exact Int.le_refl _
      · exact Int.le_of_lt ((lt_place (hp.trans hsp.symm)).1 h)
    · rw [if_neg hp]
      intro s hs hsp
      apply Decidable.byContradiction
      intro hm
      rcases hmin _ (hin s hs hsp (by omega)) with e | h
      · exact hp (e ▸ hsp)
      · have h1 : ¬ (lt x.1 (p.at (m + 1)) = true) := by rw [hx3]; decide
        rw [lt_iff] at h h1
        unfold plEq at hp
        simp only [Sp.at] at h h1 hp
        obtain ⟨e0, e1, e2⟩ := hsp
        omega
/-- A spot more, a spot less. -/
def insS (k : Sp) (ls : List Sp) : List Sp := (insE k k.num (entsOf ls)).map (·.1)
def delS (k : Sp) (ls : List Sp) : List Sp := (delE k (entsOf ls)).map (·.1)
theorem ents_back {l : List Ent} (h : ∀ x ∈ l, x.2 = x.1.num) : entsOf (l.map (·.1)) = l := by
  unfold entsOf
  rw [List.map_map]
  refine (List.map_congr_left (fun x hx => ?_)).trans (List.map_id l)
  exact Prod.ext rfl (h x hx).symm
theorem ins_ents {k : Sp} {ls : List Sp} : entsOf (insS k ls) = insE k k.num (entsOf ls) := ents_back (fun x hx => by
  rcases insE_mem hx with rfl | h
  · rfl
  · exact (ents_mem.1 h).2)
theorem del_ents {k : Sp} {ls : List Sp} : entsOf (delS k ls) = delE k (entsOf ls) := ents_back (fun x hx => (ents_mem.1 (delE_mem hx)).2)
theorem ents_ascS {ls : List Sp} (h : Asc (entsOf ls)) : AscS ls := by
  unfold Asc entsOf at h
  rw [List.pairwise_map] at h
  exact h
theorem insS_asc {k : Sp} {ls : List Sp} (h : AscS ls) : AscS (insS k ls) := ents_ascS (by rw [ins_ents]; exact insE_asc (ents_asc h))
theorem delS_asc {k : Sp} {ls : List Sp} (h : AscS ls) : AscS (delS k ls) := ents_ascS (by rw [del_ents]; exact delE_asc (ents_asc h))
theorem mem_insS {k : Sp} {ls : List Sp} (h : AscS ls) (s : Sp) : s ∈ insS k ls ↔ s = k ∨ s ∈ ls := by
  have e : s ∈ insS k ls ↔ (s, s.num) ∈ entsOf (insS k ls) := by rw [ents_mem]; simp
  rw [e, ins_ents, mem_ins (ents_asc h), ents_mem]
  constructor
  · rintro (e | ⟨⟨a, _⟩, _⟩)
    · exact .inl (congrArg (·.1) e)
    · exact .inr a
  · rintro (rfl | a)
    · exact .inl rfl
    · by_cases e : s = k
      · subst e; exact .inl rfl
      · exact .inr ⟨⟨a, rfl⟩, e⟩
theorem mem_delS {k : Sp} {ls : List Sp} (h : AscS ls) (s : Sp) : s ∈ delS k ls ↔ s ∈ ls ∧ s ≠ k := by
  have e : s ∈ delS k ls ↔ (s, s.num) ∈ entsOf (delS k ls) := by rw [ents_mem]; simp
  rw [e, del_ents, mem_del (ents_asc h), ents_mem]
  simp
theorem ascS_ext {a b : List Sp} (ha : AscS a) (hb : AscS b) (h : ∀ s, s ∈ a ↔ s ∈ b) : a = b := by
  have := asc_ext (ents_asc ha) (ents_asc hb) (fun x => by rw [ents_mem, ents_mem, h])
  have h2 := congrArg (List.map (·.1)) this
  simpa [entsOf, List.map_map, Function.comp_def] using h2
theorem insS_len {k : Sp} {ls : List Sp} (h : AscS ls) : (insS k ls).length = if k ∈ ls then ls.length else ls.length + 1 := by
  have e : (insS k ls).length = (entsOf (insS k ls)).length := (ents_len _).symm
  rw [e, ins_ents, insE_length, ents_has h, ents_len]
  by_cases hk : k ∈ ls <;> simp [hk]
theorem delS_len {k : Sp} {ls : List Sp} (h : AscS ls) : (delS k ls).length = if k ∈ ls then ls.length - 1 else ls.length := by
  have e : (delS k ls).length = (entsOf (delS k ls)).length := (ents_len _).symm
  rw [e, del_ents, delE_length, ents_has h, ents_len]
  by_cases hk : k ∈ ls <;> simp [hk]
/-- What a put tells, and leaves. -/
def putC (k : Sp) (ls : List Sp) : Int := if k.num = 0 then 1 else if ∃ s ∈ ls, plEq s k ∧ k.num ≤ s.num then 15 else 0
def putS (k : Sp) (ls : List Sp) : List Sp := if putC k ls = 0 then insS k ls else ls
/-- What a drop tells, and leaves. -/
def dropC (k : Sp) (ls : List Sp) : Int := if k ∈ ls then 0 else 4
theorem putC_zero {k : Sp} {ls : List Sp} : putC k ls = 0 ↔ k.num ≠ 0 ∧ ∀ s ∈ ls, plEq s k → s.num < k.num := by
  unfold putC
  split
  · rename_i h; simp [h]
  · rename_i h
    split
    · rename_i h2
      obtain ⟨s, hs, hp, hn⟩ := h2
      refine ⟨fun e => by simp at e, fun hh => ?_⟩
      have := hh.2 s hs hp
      omega
    · rename_i h2
      refine ⟨fun _ => ⟨h, fun s hs hp => ?_⟩, fun _ => rfl⟩
      apply Decidable.byContradiction
      intro hm
      exact h2 ⟨s, hs, hp, by omega⟩
theorem putC_new {k : Sp} {ls : List Sp} (h : putC k ls = 0) : k ∉ ls := fun hk => by
  have := (putC_zero.1 h).2 k hk ⟨rfl, rfl, rfl⟩
  omega
/-- What At tells decides. -/
def pastC (k : Sp) (o : Option Sp) : Int := match o with
  | some y => if k.num ≤ y.num then 15 else 0
  | none => 0
theorem putC_at {k : Sp} {ls : List Sp} {o : Option Sp} {m : Int} (h : AtIs ls k m o) (hm : ∀ s ∈ ls, s.num ≤ m) (h0 : k.num ≠ 0) : putC k ls = pastC k o := by
  cases o with
  | none =>
    refine putC_zero.2 ⟨h0, fun s hs hp => ?_⟩
    have := h s hs hp
    have := hm s hs
    omega
  | some y =>
    show putC k ls = if k.num ≤ y.num then 15 else 0
    by_cases hy : k.num ≤ y.num
    · rw [if_pos hy]
      unfold putC
      rw [if_neg h0, if_pos ⟨y, h.1, h.2.1, hy⟩]
    · rw [if_neg hy]
      refine putC_zero.2 ⟨h0, fun s hs hp => ?_⟩
      have := h.2.2.2 s hs hp (hm s hs)
      omega
theorem putS_asc {k : Sp} {ls : List Sp} (h : AscS ls) : AscS (putS k ls) := by
  unfold putS
  split
  · exact insS_asc h
  · exact h
theorem putS_mem {k : Sp} {ls : List Sp} (h : AscS ls) {s : Sp} (hs : s ∈ putS k ls) : s = k ∧ k.num ≠ 0 ∨ s ∈ ls := by
  unfold putS at hs
  split at hs
  · rename_i hc
    rcases (mem_insS h s).1 hs with e | e
    · exact .inl ⟨e, (putC_zero.1 hc).1⟩
    · exact .inr e
  · exact .inr hs
end Go.Proofs.Ytlackkhkaceblaa.N

/- What the document's Put and Drop gather, and what deeds leave. -/
namespace Go.Proofs.Ytlackkhkaceblaa.N
open Go.BigFrame Go.RowKit Go.Proofs.YtlackkhkaceblaaW.PrintMore Go.Proofs.YtlackkhkaceblaaW.PrintWords
set_option linter.unusedVariables false
set_option linter.unusedSimpArgs false
def dnS (k : Sp) (m : List Sp) : Bool := dn k (entsOf m)
def ptS (k : Sp) (m : List Sp) : List Sp := (pt k k.num (entsOf m)).map (·.1)
theorem ents_app (a b : List Sp) : entsOf (a ++ b) = entsOf a ++ entsOf b := by simp [entsOf]
theorem ents_sing (x : Sp) : entsOf [x] = [(x, x.num)] := rfl
theorem ents_map (m : List Sp) : (entsOf m).map (·.1) = m := by simp [entsOf, List.map_map, Function.comp_def]
theorem ptS_nil (k : Sp) : dnS k [] = false ∧ ptS k [] = [] := ⟨rfl, rfl⟩
theorem ptS_gt {k x : Sp} {m : List Sp} (h0 : dnS k m = false) (h : lt k x = true) : dnS k (m ++ [x]) = true ∧ ptS k m ++ [k] ++ [x] = ptS k (m ++ [x]) := by
  obtain ⟨a, b⟩ := pt_gt (v := k.num) (x := (x, x.num)) h0 h
  refine ⟨by unfold dnS; rw [ents_app]; exact a, ?_⟩
  have := congrArg (List.map (·.1)) b
  unfold ptS
  rw [ents_app, ents_sing]
  simpa using this
theorem ptS_lt {k x : Sp} {m : List Sp} (h0 : dnS k m = false) (h : lt k x = false) (hne : x ≠ k) : dnS k (m ++ [x]) = false ∧ ptS k m ++ [x] = ptS k (m ++ [x]) := by
  obtain ⟨a, b⟩ := pt_lt (v := k.num) (x := (x, x.num)) h0 h hne
  refine ⟨by unfold dnS; rw [ents_app]; exact a, ?_⟩
  have := congrArg (List.map (·.1)) b
  unfold ptS
  rw [ents_app, ents_sing]
  simpa using this
theorem ptS_on {k x : Sp} {m : List Sp} (hm : ∀ y ∈ m, lt y x = true) (h0 : dnS k m = true) : dnS k (m ++ [x]) = true ∧ ptS k m ++ [x] = ptS k (m ++ [x]) := by
  obtain ⟨a, _, b⟩ := pt_on (v := k.num) (x := (x, x.num)) (m := entsOf m) (k := k) (fun y hy => hm _ (ents_mem.1 hy).1) h0
  refine ⟨by unfold dnS; rw [ents_app]; exact a, ?_⟩
  have := congrArg (List.map (·.1)) b
  unfold ptS
  rw [ents_app, ents_sing]
  simpa using this
theorem ptS_all {k : Sp} {m : List Sp} (h : dnS k m = true) : ptS k m = insS k m := by
  unfold ptS pt insS
  rw [if_pos (show dn k (entsOf m) = true from h)]
theorem ptS_end {k : Sp} {m : List Sp} (h : dnS k m = false) : ptS k m ++ [k] = insS k m := by
  have := congrArg (List.map (·.1)) (pt_end (v := k.num) h)
  unfold ptS pt insS
  rw [if_neg (by unfold dnS at h; rw [h]; decide)]
  simpa using this
theorem ptS_len (k : Sp) (m : List Sp) : (ptS k m).length ≤ m.length + 1 := by
  have := pt_len k k.num (entsOf m)
  unfold ptS
  rw [List.length_map]
  rwa [ents_len] at this
/-- All but one. -/
def notS (k : Sp) (m : List Sp) : List Sp := m.filter (fun y => !decide (y = k))
theorem notS_app (k x : Sp) (m : List Sp) : notS k (m ++ [x]) = if x = k then notS k m else notS k m ++ [x] := by
  unfold notS
  rw [List.filter_append]
  by_cases h : x = k <;> simp [h]
theorem notS_del {k : Sp} {ls : List Sp} (h : AscS ls) : notS k ls = delS k ls := by
  refine ascS_ext (List.Pairwise.filter _ h) (delS_asc h) (fun s => ?_)
  rw [mem_delS h]
  unfold notS
  rw [List.mem_filter]
  simp
theorem mem_take_succ {ls : List Sp} {j : Nat} (hj : j < ls.length) (k : Sp) : decide (k ∈ ls.take (j + 1)) = (decide (k ∈ ls.take j) || decide (ls[j] = k)) := by
  rw [Bool.eq_iff_iff, List.take_succ_eq_append_getElem hj]
  simp only [decide_eq_true_eq, Bool.or_eq_true, List.mem_append, List.mem_singleton]
  exact ⟨fun h => h.imp id Eq.symm, fun h => h.imp id Eq.symm⟩
theorem ascS_take {ls : List Sp} (h : AscS ls) {j : Nat} (hj : j < ls.length) : ∀ y ∈ ls.take j, lt y ls[j] = true := fun y hy => by
  obtain ⟨i, hi, e⟩ := List.getElem_of_mem hy
  rw [List.length_take] at hi
  rw [List.getElem_take] at e
  rw [← e]
  exact List.pairwise_iff_getElem.1 h i j (by omega) hj (by omega)
/-- A deed of the index. -/
structure Ac where
  go : Int
  s : Sp
def stepS (ls : List Sp) (a : Ac) : List Sp := if a.go % 4 = 3 then delS a.s ls else putS a.s ls
def stepC (ls : List Sp) (a : Ac) : Int := if a.go % 4 = 3 then dropC a.s ls else putC a.s ls
def doneS (ac : List Ac) : List Sp := ac.foldl stepS []
theorem doneS_succ {ac : List Ac} {j : Nat} (h : j < ac.length) : doneS (ac.take (j + 1)) = stepS (doneS (ac.take j)) ac[j] := by
  unfold doneS; rw [List.take_succ_eq_append_getElem h, List.foldl_append]; rfl
theorem stepS_asc {ls : List Sp} {a : Ac} (h : AscS ls) : AscS (stepS ls a) := by
  unfold stepS
  split
  · exact delS_asc h
  · exact putS_asc h
theorem foldS_asc : ∀ (ac : List Ac) (ls : List Sp), AscS ls → AscS (ac.foldl stepS ls)
  | [], _, h => h
  | a :: t, _, h => foldS_asc t _ (stepS_asc h)
theorem doneS_asc (ac : List Ac) : AscS (doneS ac) := foldS_asc ac [] List.Pairwise.nil
theorem stepS_len (ls : List Sp) (h : AscS ls) (a : Ac) : (stepS ls a).length ≤ ls.length + 1 := by
  unfold stepS putS
  split
  · rw [delS_len h]; split <;> omega
  · split
    · rw [insS_len h]; split <;> omega
    · omega
theorem foldS_len : ∀ (ac : List Ac) (ls : List Sp), AscS ls → (ac.foldl stepS ls).length ≤ ls.length + ac.length
  | [], _, _ => by simp
  | a :: t, ls, h => by
    have h1 := foldS_len t (stepS ls a) (stepS_asc h)
    have h2 := stepS_len ls h a
    simp only [List.foldl_cons, List.length_cons]
    omega
theorem doneS_len (ac : List Ac) : (doneS ac).length ≤ ac.length := by
  have := foldS_len ac [] List.Pairwise.nil
  simpa [doneS] using this
/-- Spots of deeds whose arguments are in their bounds: in theirs, and none with number 0. -/
def Good (ls : List Sp) : Prop := ∀ s ∈ ls, s.ok ∧ 1 ≤ s.num
theorem step_good {ls : List Sp} {a : Ac} (h : AscS ls) (hg : Good ls) (ha : a.s.ok) : Good (stepS ls a) := fun s hs => by
  unfold stepS at hs
  split at hs
  · exact hg s ((mem_delS h s).1 hs).1
  · rcases putS_mem h hs with ⟨rfl, hn⟩ | hs
    · refine ⟨ha, ?_⟩
      have := ha.2.2.2.1
      omega
    · exact hg s hs
theorem fold_good : ∀ (ac : List Ac) (ls : List Sp), AscS ls → Good ls → (∀ a ∈ ac, a.s.ok) → Good (ac.foldl stepS ls)
  | [], _, _, h, _ => h
  | a :: t, _, ha, h, hk => fold_good t _ (stepS_asc ha) (step_good ha h (hk a (by simp))) (fun b hb => hk b (List.mem_cons_of_mem _ hb))
theorem done_good {ac : List Ac} (h : ∀ a ∈ ac, a.s.ok) : Good (doneS ac) := fold_good ac [] List.Pairwise.nil (fun s hs => by cases hs) h
end Go.Proofs.Ytlackkhkaceblaa.N

/- The plain laws of Spans, Other and Drops. -/
namespace Go.Proofs.Ytlackkhkaceblaa.N
open Go.BigFrame Go.RowKit Go.Proofs.YtlackkhkaceblaaW.PrintMore Go.Proofs.YtlackkhkaceblaaW.PrintWords
set_option linter.unusedVariables false
set_option linter.unusedSimpArgs false
def lastN : Int := 18446744073709551615
def atS (ls : List Sp) (p : Sp) (m : Int) : Option Sp := placed p (floorE (p.at m) (entsOf ls))
def nextS (ls : List Sp) (p : Sp) (m : Int) : Option Sp := if m = lastN then none else placed p (ceilE (p.at (m + 1)) (entsOf ls))
theorem atS_is {ls : List Sp} (h : AscS ls) (p : Sp) (m : Int) : AtIs ls p m (atS ls p m) := floor_at h p m
theorem nextS_is {ls : List Sp} (h : AscS ls) (hg : Good ls) (p : Sp) (m : Int) : NextIs ls p m (nextS ls p m) := by
  unfold nextS
  split
  · rename_i e
    subst e
    intro s hs _
    exact (hg s hs).1.2.2.2.2
  · exact ceil_next h p m
section
variable {ls : List Sp} {p q k : Sp} {m b : Int} {y z : Sp}
theorem spans1 (h : AscS ls) (hg : Good ls) (ha : atS ls p m = none) (hm : 0 ≤ m) : nextS ls p 0 = nextS ls p m := by
  have h1 := atS_is h p m
  rw [ha] at h1
  refine (nextS_is h hg p 0).uni ?_
  have h2 := nextS_is h hg p m
  cases hn : nextS ls p m with
  | none =>
    rw [hn] at h2
    intro s hs hp
    have := h2 s hs hp
    have := h1 s hs hp
    omega
  | some z =>
    rw [hn] at h2
    exact ⟨h2.1, h2.2.1, by have := h2.2.2.1; omega, fun s hs hp _ => h2.2.2.2 s hs hp (h1 s hs hp)⟩
theorem spans2 (h : AscS ls) (hg : Good ls) (ha : atS ls p m = some y) : y.num ≤ m ∧ 1 ≤ y.num ∧ y ∈ ls ∧ plEq y p := by
  have h1 := atS_is h p m
  rw [ha] at h1
  exact ⟨h1.2.2.1, (hg y h1.1).2, h1.1, h1.2.1⟩
theorem spans2n (h : AscS ls) (hg : Good ls) (hn : nextS ls p m = some z) : m < z.num ∧ z ∈ ls := by
  have h1 := nextS_is h hg p m
  rw [hn] at h1
  exact ⟨h1.2.2.1, h1.1⟩
theorem spans3 (h : AscS ls) (hg : Good ls) (ha : atS ls p m = some y) (hb : m ≤ b) (hn : ∀ z, nextS ls p m = some z → b < z.num) : atS ls p b = some y := by
  have h1 := atS_is h p m
  rw [ha] at h1
  have h2 := nextS_is h hg p m
  refine (atS_is h p b).uni ⟨h1.1, h1.2.1, by have := h1.2.2.1; omega, fun s hs hp hsb => ?_⟩
  by_cases hsm : s.num ≤ m
  · exact h1.2.2.2 s hs hp hsm
  · exfalso
    cases hq : nextS ls p m with
    | none =>
      rw [hq] at h2
      exact hsm (h2 s hs hp)
    | some z =>
      rw [hq] at h2
      have := h2.2.2.2 s hs hp (by omega)
      have := hn z hq
      omega
theorem spans4 (h : AscS ls) (hg : Good ls) (ha : atS ls p m = some y) : atS ls p y.num = some y ∧ nextS ls p y.num = nextS ls p m := by
  have h1 := atS_is h p m
  rw [ha] at h1
  have h2 := nextS_is h hg p m
  refine ⟨(atS_is h p y.num).uni ⟨h1.1, h1.2.1, Int.le_refl _, fun s hs hp hsb => hsb⟩, (nextS_is h hg p y.num).uni ?_⟩
  cases hq : nextS ls p m with
  | none =>
    rw [hq] at h2
    exact fun s hs hp => h1.2.2.2 s hs hp (h2 s hs hp)
  | some z =>
    rw [hq] at h2
    refine ⟨h2.1, h2.2.1, by have := h2.2.2.1; have := h1.2.2.1; omega, fun s hs hp hsb => ?_⟩
    apply h2.2.2.2 s hs hp
    apply Decidable.byContradiction
    intro hsm
    have := h1.2.2.2 s hs hp (by omega)
    omega
theorem other1 (h : AscS ls) (hk : ¬ plEq k q) : atS (putS k ls) q m = atS ls q m := by
  refine (atS_is (putS_asc h) q m).uni ?_
  have h1 := atS_is h q m
  have hm : ∀ s, plEq s q → (s ∈ putS k ls ↔ s ∈ ls) := fun s hp => by
    unfold putS
    split
    · rw [mem_insS h]
      constructor
      · rintro (rfl | hs)
        · exact absurd hp hk
        · exact hs
      · exact .inr
    · exact Iff.rfl
  cases ha : atS ls q m with
  | none =>
    rw [ha] at h1
    exact fun s hs hp => h1 s ((hm s hp).1 hs) hp
  | some y =>
    rw [ha] at h1
    exact ⟨(hm y h1.2.1).2 h1.1, h1.2.1, h1.2.2.1, fun s hs hp => h1.2.2.2 s ((hm s hp).1 hs) hp⟩
theorem other1d (h : AscS ls) (hk : ¬ plEq k q) : atS (delS k ls) q m = atS ls q m := by
  refine (atS_is (delS_asc h) q m).uni ?_
  have h1 := atS_is h q m
  have hm : ∀ s, plEq s q → (s ∈ delS k ls ↔ s ∈ ls) := fun s hp => by
    rw [mem_delS h]
    exact ⟨fun a => a.1, fun a => ⟨a, fun e => hk (e ▸ hp)⟩⟩
  cases ha : atS ls q m with
  | none =>
    rw [ha] at h1
    exact fun s hs hp => h1 s ((hm s hp).1 hs) hp
  | some y =>
    rw [ha] at h1
    exact ⟨(hm y h1.2.1).2 h1.1, h1.2.1, h1.2.2.1, fun s hs hp => h1.2.2.2 s ((hm s hp).1 hs) hp⟩
theorem other2 (h : AscS ls) (hc : putC k ls = 0) : dropC k (putS k ls) = 0 ∧ delS k (putS k ls) = ls := by
  have hk := putC_new hc
  unfold putS
  rw [if_pos hc]
  refine ⟨by unfold dropC; rw [if_pos ((mem_insS h k).2 (.inl rfl))], ascS_ext (delS_asc (insS_asc h)) h (fun s => ?_)⟩
  rw [mem_delS (insS_asc h), mem_insS h]
  constructor
  · rintro ⟨rfl | a, b⟩
    · exact absurd rfl b
    · exact a
  · intro hs
    exact ⟨.inr hs, fun e => hk (e ▸ hs)⟩
theorem drops1 (hg : Good ls) : dropC (p.at 0) ls = 4 := by
  unfold dropC
  rw [if_neg]
  intro hk
  have := (hg _ hk).2
  simp only [Sp.at] at this
  omega
theorem drops2 (h : AscS ls) (ha : atS ls p m = some y) : p.at y.num = y ∧ dropC y ls = 0 ∧ dropC y (delS y ls) = 4 ∧ atS (delS y ls) p m = atS ls p (y.num - 1) := by
  have h1 := atS_is h p m
  rw [ha] at h1
  refine ⟨sp_ext ((plEq_at p y.num).trans h1.2.1.symm) rfl, by unfold dropC; rw [if_pos h1.1], by unfold dropC; rw [if_neg]; exact fun hk => ((mem_delS h y).1 hk).2 rfl, ?_⟩
  refine (atS_is (delS_asc h) p m).uni ?_
  have h2 := atS_is h p (y.num - 1)
  cases hq : atS ls p (y.num - 1) with
  | none =>
    rw [hq] at h2
    intro s hs hp
    obtain ⟨hs1, hs2⟩ := (mem_delS h s).1 hs
    apply Decidable.byContradiction
    intro hm
    have h3 := h1.2.2.2 s hs1 hp (by omega)
    have h4 := h2 s hs1 hp
    exact hs2 (sp_ext (hp.trans h1.2.1.symm) (by omega))
  | some z =>
    rw [hq] at h2
    refine ⟨(mem_delS h z).2 ⟨h2.1, fun e => ?_⟩, h2.2.1, by have := h2.2.2.1; have := h1.2.2.1; omega, fun s hs hp hsm => ?_⟩
    · have := h2.2.2.1
      rw [e] at this
      omega
    · obtain ⟨hs1, hs2⟩ := (mem_delS h s).1 hs
      apply h2.2.2.2 s hs1 hp
      have h3 := h1.2.2.2 s hs1 hp hsm
      apply Decidable.byContradiction
      intro hm
      exact hs2 (sp_ext (hp.trans h1.2.1.symm) (by omega))
end
end Go.Proofs.Ytlackkhkaceblaa.N
