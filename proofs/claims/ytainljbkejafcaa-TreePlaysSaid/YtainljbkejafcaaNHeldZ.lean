/- A region that draws its order, some of whose operations (zs) write what others read: the condition S is kept till one of zs comes; an operation for which all of zs wait (by paths) may be taken first under S. -/
import Derived.Test.YtainljbkejafcaaNHeld
namespace Go.Proofs.Ytainljbkejafcaa.N
open Go
set_option linter.unusedVariables false
set_option linter.unusedSimpArgs false
section
variable {P : Program} {ops : Array Oper} {Q : Exit → Act → World → Prop} {md : Region.Mode} {S : World → Prop} {zs : List Nat}
/-- None of zs has come. -/
def NoneOf (zs : List Nat) (listed : Array Bool) : Prop := ∀ z ∈ zs, listed.getD z false = false
def wpAnyZ (P : Program) (md : Region.Mode) (ops : Array Oper) (Q : Exit → Act → World → Prop) (S : World → Prop) (zs : List Nat) : Nat → Array Bool → Act → World → Prop
  | 0, listed, a, w => Region.ready md ops listed = [] ∧ Q .normal a w
  | fuel + 1, listed, a, w =>
    (Region.ready md ops listed = [] → Q .normal a w) ∧
    ∀ i ∈ Region.ready md ops listed, wpOp P ops Q i (fun a' w' => (NoneOf zs (listed.setIfInBounds i true) → S w') ∧ wpAnyZ P md ops Q S zs fuel (listed.setIfInBounds i true) a' w') a w
theorem wpAny_of_Z : ∀ (fuel : Nat) (listed : Array Bool) (a : Act) (w : World), wpAnyZ P md ops Q S zs fuel listed a w → wpAny P md ops Q fuel listed a w
  | 0, _, _, _, h => h
  | fuel + 1, _, _, _, h => ⟨h.1, fun i hi => wpOp_mono (fun a' w' h' => wpAny_of_Z fuel _ a' w' h'.2) (h.2 i hi)⟩
/-- Each of zs waits for i, by a path. -/
def pathsB (md : Region.Mode) (ops : Array Oper) (i : Nat) : List Nat → List (List Nat) → Bool
  | [], _ => true
  | z :: zs, r :: rs => pathB md ops i z r && (z != i) && pathsB md ops i zs rs
  | _ :: _, [] => false
theorem paths_of {i : Nat} : ∀ {zs : List Nat} {rs : List (List Nat)}, pathsB md ops i zs rs = true → ∀ z ∈ zs, ∃ r, pathB md ops i z r = true ∧ z ≠ i
  | [], _, _, z, h => by cases h
  | y :: zs, r :: rs, h, z, hz => by
    simp only [pathsB, Bool.and_eq_true] at h
    rcases List.mem_cons.1 hz with rfl | hz
    · exact ⟨r, h.1.1, by simpa using h.1.2⟩
    · exact paths_of h.2 z hz
  | _ :: _, [], h, _, _ => by simp [pathsB] at h
theorem getD_false {l : Array Bool} {i : Nat} (h : ¬ l.getD i false = true) : l.getD i false = false := by cases hb : l.getD i false <;> simp_all
theorem noneOf_paths {i : Nat} {listed : Array Bool} (hd : Down md ops listed) {rs : List (List Nat)} (hp : pathsB md ops i zs rs = true) (hi : listed.getD i false = false) : NoneOf zs listed := fun z hz => by
  obtain ⟨r, h1, h2⟩ := paths_of hp z hz
  refine getD_false (fun h => ?_)
  have := listed_of_path hd r z h1 h
  rw [hi] at this; cases this
theorem ready_unlisted {i : Nat} {listed : Array Bool} (hr : i ∈ Region.ready md ops listed) : listed.getD i false = false ∧ listed.getD i true = false := by
  have h0 := (mem_ready.1 hr).1
  refine ⟨?_, h0⟩
  rcases Nat.lt_or_ge i listed.size with h' | h'
  · simp [h'] at h0 ⊢; exact h0
  · simp [Array.getElem?_eq_none h'] at h0
theorem wpAnyZ_first {i : Nat} {oi : Oper} {v : Value} {rs : List (List Nat)} (hi : ops[i]? = some oi) (hsel : ∀ (j : Nat) (o : Oper) cs b, ops[j]? = some o → o.op ≠ .select cs b)
    (hQ : ∀ c a w, Q (.panic c) (a.put oi.dst v) w → Q (.panic c) a w) (hp : pathsB md ops i zs rs = true) :
    ∀ (fuel : Nat) (listed : Array Bool) (a : Act) (w : World), Down md ops listed →
      (∀ j oj, ops[j]? = some oj → j ≠ i → listed.getD j true = false → (∀ e ∈ oj.after, Region.binds md e = true → e.on ≠ i) → oi.apart ops oj = true) →
      i ∈ Region.ready md ops listed → YieldsIf P ops S oi v a → S w →
      wpAnyZ P md ops Q S zs fuel (listed.setIfInBounds i true) (a.put oi.dst v) w → wpAnyZ P md ops Q S zs (fuel + 1) listed a w := by
  intro fuel
  induction fuel with
  | zero =>
    intro listed a w hd hfree hr hy hS H
    refine ⟨fun h => (by rw [h] at hr; cases hr), fun j hj => ?_⟩
    by_cases hji : j = i
    · subst hji; exact hy.wpOp hi hS ⟨fun _ => hS, H⟩
    · have := ready_mono hj hji
      rw [H.1] at this
      cases this
  | succ fuel ih =>
    intro listed a w hd hfree hr hy hS H
    refine ⟨fun h => (by rw [h] at hr; cases hr), fun j hj => ?_⟩
    by_cases hji : j = i
    · subst hji; exact hy.wpOp hi hS ⟨fun _ => hS, H⟩
    · have hd' := down_set hd hj
      have hiu : (listed.setIfInBounds j true).getD i false = false := by rw [getD_set_ne false hji]; exact (ready_unlisted hr).1
      have hno : NoneOf zs (listed.setIfInBounds j true) := noneOf_paths hd' hp hiu
      have h1 := H.2 j (ready_mono hj hji)
      obtain ⟨hjun, oj, hoj, hall⟩ := mem_ready.1 hj
      have hnot : ∀ e ∈ oj.after, Region.binds md e = true → e.on ≠ i := fun e he hb heq => by
        have h1 := hall e he hb
        have h0 := (mem_ready.1 hr).1
        rw [heq] at h1
        rcases Nat.lt_or_ge i listed.size with h' | h'
        · simp [h'] at h0 h1; rw [h0] at h1; cases h1
        · simp [Array.getElem?_eq_none h'] at h1
      have h2 := wpOp_putIf hoj (hfree j oj hoj hji hjun hnot) (fun cs b => hsel i oi cs b hi) (fun cs b => hsel j oj cs b hoj) hQ hy h1
      have hfree' : ∀ k ok, ops[k]? = some ok → k ≠ i → (listed.setIfInBounds j true).getD k true = false →
          (∀ e ∈ ok.after, Region.binds md e = true → e.on ≠ i) → oi.apart ops ok = true := fun k ok hk hki hun hno => by
        refine hfree k ok hk hki ?_ hno
        by_cases hjk : j = k
        · subst hjk; exact hjun
        · rw [getD_set_ne true hjk] at hun; exact hun
      have hno2 : NoneOf zs ((listed.setIfInBounds i true).setIfInBounds j true) := fun z hz => by
        obtain ⟨r, _, hzi⟩ := paths_of hp z hz
        rw [Array.setIfInBounds_comm _ _ (fun e => hji e.symm), getD_set_ne false (fun e => hzi e.symm)]
        exact hno z hz
      refine wpOp_mono (fun a' w' h3 => ⟨fun _ => h3.2.1 hno2, ih (listed.setIfInBounds j true) a' w' hd' hfree' (ready_mono hr (Ne.symm hji)) h3.1 (h3.2.1 hno2) ?_⟩) h2
      rw [Array.setIfInBounds_comm _ _ hji]
      exact h3.2.2
theorem noneOf_swap {i j : Nat} {listed : Array Bool} (hi : ∀ z ∈ zs, z ≠ i) : NoneOf zs listed → NoneOf zs (listed.setIfInBounds i true) := fun h z hz => by
  rw [getD_set_ne false (fun e => hi z hz e.symm)]; exact h z hz
/-- An operation that reads nothing may be taken first at any time. -/
theorem wpAnyZ_free {i : Nat} {oi : Oper} {v : Value} (hi : ops[i]? = some oi) (hsel : ∀ (j : Nat) (o : Oper) cs b, ops[j]? = some o → o.op ≠ .select cs b)
    (hQ : ∀ c a w, Q (.panic c) (a.put oi.dst v) w → Q (.panic c) a w) (hz : ∀ z ∈ zs, z ≠ i) :
    ∀ (fuel : Nat) (listed : Array Bool) (a : Act) (w : World),
      (∀ j oj, ops[j]? = some oj → j ≠ i → listed.getD j true = false → (∀ e ∈ oj.after, Region.binds md e = true → e.on ≠ i) → oi.apart ops oj = true) →
      i ∈ Region.ready md ops listed → YieldsIf P ops (fun _ => True) oi v a → (NoneOf zs listed → S w) →
      wpAnyZ P md ops Q S zs fuel (listed.setIfInBounds i true) (a.put oi.dst v) w → wpAnyZ P md ops Q S zs (fuel + 1) listed a w := by
  have back : ∀ listed : Array Bool, NoneOf zs (listed.setIfInBounds i true) → NoneOf zs listed := fun listed h z hzz => by
    have := h z hzz
    rwa [getD_set_ne false (fun e => hz z hzz e.symm)] at this
  intro fuel
  induction fuel with
  | zero =>
    intro listed a w hfree hr hy hS H
    refine ⟨fun h => (by rw [h] at hr; cases hr), fun j hj => ?_⟩
    by_cases hji : j = i
    · subst hji; exact hy.wpOp hi trivial ⟨fun h => hS (back _ h), H⟩
    · have := ready_mono hj hji
      rw [H.1] at this
      cases this
  | succ fuel ih =>
    intro listed a w hfree hr hy hS H
    refine ⟨fun h => (by rw [h] at hr; cases hr), fun j hj => ?_⟩
    by_cases hji : j = i
    · subst hji; exact hy.wpOp hi trivial ⟨fun h => hS (back _ h), H⟩
    · have h1 := H.2 j (ready_mono hj hji)
      obtain ⟨hjun, oj, hoj, hall⟩ := mem_ready.1 hj
      have hnot : ∀ e ∈ oj.after, Region.binds md e = true → e.on ≠ i := fun e he hb heq => by
        have h1 := hall e he hb
        have h0 := (mem_ready.1 hr).1
        rw [heq] at h1
        rcases Nat.lt_or_ge i listed.size with h' | h'
        · simp [h'] at h0 h1; rw [h0] at h1; cases h1
        · simp [Array.getElem?_eq_none h'] at h1
      have h2 := wpOp_putIf (S := fun _ => True) hoj (hfree j oj hoj hji hjun hnot) (fun cs b => hsel i oi cs b hi) (fun cs b => hsel j oj cs b hoj) hQ hy h1
      have hfree' : ∀ k ok, ops[k]? = some ok → k ≠ i → (listed.setIfInBounds j true).getD k true = false →
          (∀ e ∈ ok.after, Region.binds md e = true → e.on ≠ i) → oi.apart ops ok = true := fun k ok hk hki hun hno => by
        refine hfree k ok hk hki ?_ hno
        by_cases hjk : j = k
        · subst hjk; exact hjun
        · rw [getD_set_ne true hjk] at hun; exact hun
      refine wpOp_mono (fun a' w' h3 => ?_) h2
      obtain ⟨hy3, hS3, H3⟩ := h3
      have hS4 : NoneOf zs (listed.setIfInBounds j true) → S w' := fun h => hS3 (by
        rw [Array.setIfInBounds_comm _ _ (fun e => hji e.symm)]
        exact noneOf_swap (j := j) hz h)
      refine ⟨hS4, ih (listed.setIfInBounds j true) a' w' hfree' (ready_mono hr (Ne.symm hji)) hy3 hS4 ?_⟩
      rw [Array.setIfInBounds_comm _ _ hji]
      exact H3
end
section
variable {P : Program} {l : List Oper} {Q : Exit → Act → World → Prop} {md : Region.Mode} {S : World → Prop} {zs : List Nat}
def noneB (zs : List Nat) (listed : Array Bool) : Bool := zs.all fun z => !(listed.getD z false)
theorem none_of_not {listed : Array Bool} (h : noneB zs listed = false) : ¬ NoneOf zs listed := fun hn => by
  have : noneB zs listed = true := by unfold noneB; rw [List.all_eq_true]; intro z hz; simp [hn z hz]
  rw [h] at this; cases this
/-- Taken first. -/
theorem Z_take {i : Nat} {oi : Oper} {v : Value} (rs : List (List Nat)) {fuel : Nat} {listed : Array Bool} {a : Act} {w : World} (hi : l[i]? = some oi)
    (hs : Region.noSelect l.toArray = true) (hf : Region.free md l.toArray listed i = true) (hr : (Region.ready md l.toArray listed).contains i = true) (hd : downB md l.toArray listed = true) (hp : pathsB md l.toArray i zs rs = true)
    (hQ : ∀ c a w, Q (.panic c) (a.put oi.dst v) w → Q (.panic c) a w) (hy : YieldsIf P l.toArray S oi v a) (hS : S w)
    (h : wpAnyZ P md l.toArray Q S zs fuel (listed.setIfInBounds i true) (a.put oi.dst v) w) : wpAnyZ P md l.toArray Q S zs (fuel + 1) listed a w :=
  wpAnyZ_first (by simpa using hi) (Region.noSelect_spec hs) hQ hp fuel listed a w (down_of hd) (Region.free_spec (by simpa using hi) hf) (by simpa using hr) hy hS h
theorem Z_free {i : Nat} {oi : Oper} {v : Value} {fuel : Nat} {listed : Array Bool} {a : Act} {w : World} (hi : l[i]? = some oi)
    (hs : Region.noSelect l.toArray = true) (hf : Region.free md l.toArray listed i = true) (hr : (Region.ready md l.toArray listed).contains i = true) (hz : zs.all (fun z => z != i) = true)
    (hQ : ∀ c a w, Q (.panic c) (a.put oi.dst v) w → Q (.panic c) a w) (hy : YieldsIf P l.toArray (fun _ => True) oi v a) (hS : NoneOf zs listed → S w)
    (h : wpAnyZ P md l.toArray Q S zs fuel (listed.setIfInBounds i true) (a.put oi.dst v) w) : wpAnyZ P md l.toArray Q S zs (fuel + 1) listed a w :=
  wpAnyZ_free (by simpa using hi) (Region.noSelect_spec hs) hQ (fun z hzz => by rw [List.all_eq_true] at hz; simpa using hz z hzz) fuel listed a w (Region.free_spec (by simpa using hi) hf) (by simpa using hr) hy hS h
/-- One alone may come up. -/
theorem Z_one {i : Nat} {o : Oper} {fuel : Nat} {listed : Array Bool} {a : Act} {w : World} (hi : l[i]? = some o) (hr : Region.ready md l.toArray listed = [i]) (hw : Region.wanted o (yielded l.toArray a.tmps) = true)
    (h : ∀ K' : Act → World → Prop, Shut (∀ a w, (NoneOf zs (listed.setIfInBounds i true) → S w) → wpAnyZ P md l.toArray Q S zs fuel (listed.setIfInBounds i true) a w → K' a w) → Oper.wp P o a w K' Q) : wpAnyZ P md l.toArray Q S zs (fuel + 1) listed a w :=
  ⟨fun h0 => absurd (hr ▸ h0) (by simp), fun j hj => by
    rw [hr] at hj
    obtain rfl := List.mem_singleton.1 hj
    exact wpOp_step (by simpa using hi) (fun K' hK => by rw [if_pos hw]; exact h K' (fun a w hS hW => hK a w ⟨hS, hW⟩))⟩
/-- Two may come up. -/
theorem Z_two {i j : Nat} {o u : Oper} {fuel : Nat} {listed : Array Bool} {a : Act} {w : World} (hi : l[i]? = some o) (hj : l[j]? = some u) (hr : Region.ready md l.toArray listed = [i, j])
    (hw : Region.wanted o (yielded l.toArray a.tmps) = true) (hw' : Region.wanted u (yielded l.toArray a.tmps) = true)
    (h : ∀ K' : Act → World → Prop, Shut (∀ a w, (NoneOf zs (listed.setIfInBounds i true) → S w) → wpAnyZ P md l.toArray Q S zs fuel (listed.setIfInBounds i true) a w → K' a w) → Oper.wp P o a w K' Q)
    (h' : ∀ K' : Act → World → Prop, Shut (∀ a w, (NoneOf zs (listed.setIfInBounds j true) → S w) → wpAnyZ P md l.toArray Q S zs fuel (listed.setIfInBounds j true) a w → K' a w) → Oper.wp P u a w K' Q) : wpAnyZ P md l.toArray Q S zs (fuel + 1) listed a w :=
  ⟨fun h0 => absurd (hr ▸ h0) (by simp), fun k hk => by
    rw [hr] at hk
    rcases List.mem_cons.1 hk with rfl | hk
    · exact wpOp_step (by simpa using hi) (fun K' hK => by rw [if_pos hw]; exact h K' (fun a w hS hW => hK a w ⟨hS, hW⟩))
    · obtain rfl := List.mem_singleton.1 hk
      exact wpOp_step (by simpa using hj) (fun K' hK => by rw [if_pos hw']; exact h' K' (fun a w hS hW => hK a w ⟨hS, hW⟩))⟩
theorem Z_done {listed : Array Bool} {a : Act} {w : World} (hr : Region.ready md l.toArray listed = []) (h : Q .normal a w) : ∀ fuel, wpAnyZ P md l.toArray Q S zs fuel listed a w
  | 0 => ⟨hr, h⟩
  | _ + 1 => ⟨fun _ => h, by rw [hr]; simp⟩
theorem Z_start {id : Nat} {a : Act} {w : World} (zs : List Nat) (S : World → Prop) (hm : P.follows .mixedOrders = true)
    (h : wpAnyZ P .any l.toArray Q S zs l.toArray.size (Array.replicate l.toArray.size false) a w.drew) : (Code.region id l.toArray true).wp P Q a w :=
  wp_region_any hm (wpAny_of_Z _ _ _ _ h)
end
end Go.Proofs.Ytainljbkejafcaa.N
