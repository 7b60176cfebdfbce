/- The levels of a tree: nodes side by side, and their kids. -/
import Derived.Test.YtjeebbolnanmkaaNPlay
import Derived.Test.YtjeebbolnanmkaaNAwake
import Derived.Test.YtjeebbolnanmkaaNCls
namespace Go.Proofs.Ytjeebbolnanmkaa.N
open Go.BigFrame Go.RowKit Go.Proofs.YtjeebbolnanmkaaW.PrintMore Go.Proofs.YtjeebbolnanmkaaW.PrintWords
set_option linter.unusedVariables false
set_option linter.unusedSimpArgs false
/-- A node's kids: none, or some. -/
def KidsOf (w : World) (q : Nat) (ks : List Nat) : Prop := (ks = [] ∧ ∃ kl vl, Leaf w q kl vl) ∨ (ks ≠ [] ∧ ∃ kl, Inner w q kl ks)
theorem KidsOf.below {w w' : World} (hb : Below w.heap.size w w') {q : Nat} {ks : List Nat} (h : KidsOf w q ks) : KidsOf w' q ks := by
  rcases h with ⟨e, kl, vl, h⟩ | ⟨e, kl, h⟩
  · exact .inl ⟨e, kl, vl, h.below hb⟩
  · exact .inr ⟨e, kl, h.below hb⟩
theorem KidsOf.cell {w : World} {q : Nat} {ks : List Nat} (h : KidsOf w q ks) : ∃ C cc, w.cell? ⟨q, 2, none⟩ = some (.slice C ks.length cc) ∧ KidsAt w C ks ∧ (C = none → ks.length = 0 ∧ cc = 0) := by
  rcases h with ⟨rfl, kl, vl, A, ca, B, cb, h⟩ | ⟨e, kl, A, ca, C, cc, h⟩
  · exact ⟨none, 0, h.c2, (fun h => by cases h), fun _ => ⟨rfl, rfl⟩⟩
  · refine ⟨C, cc, h.c2, h.kids, fun hc => ?_⟩
    obtain ⟨b, off, e2, _⟩ := h.kids h.pos
    rw [hc] at e2
    cases e2
theorem KidsOf.leaf {w : World} {q : Nat} {ks : List Nat} (h : KidsOf w q ks) : Calls Try.prog 19 #[.pointer (some ⟨q, 0, none⟩)] w fun e w' => e = .returned (.bool (ks.length == 0)) ∧ Below w.heap.size w w' := by
  rcases h with ⟨rfl, kl, vl, h⟩ | ⟨e, kl, h⟩
  · exact (leaf_yes h).mono fun e w' hp => ⟨hp.1, by rw [← hp.2]; exact Below.refl _ _⟩
  · refine (leaf_no h).mono fun e w' hp => ⟨?_, by rw [← hp.2]; exact Below.refl _ _⟩
    rw [hp.1, show (ks.length == 0) = false by cases ks with
      | nil => exact absurd rfl ‹_›
      | cons x t => rfl]
theorem kid_long {w : World} {h lo q : Nat} {m : List Ent} (h1 : 1 ≤ lo) (h2 : lo ≤ 2) (hk : Kid w h lo q m) : lo ≤ m.length := by
  obtain ⟨s, s1, s2, s3⟩ := hk
  have hne := s3.ne (by omega)
  have : 1 ≤ m.length := by
    cases m with
    | nil => exact absurd rfl hne
    | cons x t => simp
  by_cases hs : 2 ≤ s
  · have h2 : ∀ {h p n : Nat} {l : List Ent}, Nd w h p l n → 2 ≤ n → 2 ≤ l.length := fun {h p n l} hn hn2 => by
      cases h with
      | zero => have := hn.1; omega
      | succ h =>
        have hp := hn.high (by omega) (fun _ => hn2)
        rw [Nat.pow_succ] at hp
        have := Nat.one_le_two_pow (n := h)
        omega
    have := h2 s3 hs
    omega
  · omega
theorem level_long {w : World} {h lo : Nat} (h1 : 1 ≤ lo) (h2 : lo ≤ 2) : ∀ {qs : List Nat} {ls : List (List Ent)}, All2 (Kid w h lo) qs ls → lo * qs.length ≤ ls.flatten.length
  | [], [], _ => by simp
  | q :: qs, m :: ls, d => by
    have a := kid_long h1 h2 d.1
    have b := level_long h1 h2 d.2
    rw [List.flatten_cons, List.length_append, List.length_cons, Nat.mul_succ]
    omega
  | [], _ :: _, d => d.elim
  | _ :: _, [], d => d.elim
theorem level_leaves {w : World} {lo : Nat} : ∀ {qs : List Nat} {ls : List (List Ent)}, All2 (Kid w 0 lo) qs ls → ∃ kss : List (List Nat), All2 (KidsOf w) qs kss ∧ kss.flatten = []
  | [], [], _ => ⟨[], trivial, rfl⟩
  | q :: qs, m :: ls, d => by
    obtain ⟨kss, a, b⟩ := level_leaves d.2
    obtain ⟨s, _, _, hn⟩ := d.1
    exact ⟨[] :: kss, ⟨.inl ⟨rfl, _, _, hn.2⟩, a⟩, by rw [List.flatten_cons, b]; rfl⟩
  | [], _ :: _, d => d.elim
  | _ :: _, [], d => d.elim
theorem level_kids {w : World} {h : Nat} : ∀ {qs : List Nat} {ls : List (List Ent)}, All2 (Kid w (h + 1) 2) qs ls → ∃ (kss : List (List Nat)) (lss : List (List Ent)), All2 (KidsOf w) qs kss ∧ All2 (Kid w h 2) kss.flatten lss ∧ lss.flatten = ls.flatten ∧ 2 * qs.length ≤ kss.flatten.length
  | [], [], _ => ⟨[], [], trivial, trivial, rfl, by simp⟩
  | q :: qs, m :: ls, d => by
    obtain ⟨kss, lss, a, b, c, e⟩ := level_kids d.2
    obtain ⟨s, s2, s4, hn⟩ := d.1
    obtain ⟨ks, ms, hs, hm, hI, hk⟩ := nd_succ.1 hn
    refine ⟨ks :: kss, ms ++ lss, ⟨.inr ⟨?_, _, hI⟩, a⟩, by rw [List.flatten_cons]; exact hk.append b, by rw [List.flatten_append, List.flatten_cons, c, hm], ?_⟩
    · intro e
      rw [e] at hs
      simp at hs
      omega
    · rw [List.flatten_cons, List.length_append, List.length_cons]
      omega
  | [], _ :: _, d => d.elim
  | _ :: _, [], d => d.elim
/-- append to the row of the next level. -/
theorem app_K_run {w : World} (B : Nat) (v : Value) (n : Nat) (xs : List Nat) (hown : w.ownsRow B 36 1 v n (kps xs))
    (A : Option Addr) (m c : Nat) (ys : List Nat) (hy : ys.length = m) (hA : KidsAt w A ys) (h0 : A = none → m = 0 ∧ c = 0) (r : Nat) (hr : n + m = r) (hb : r ≤ 1000000) (hB : B ≤ w.heap.size) (ty : TypeId) :
    ∃ v' w', (Builtin.append_ #[37, 37] ty #[v, .slice A m c]).run Try.prog w = .ok v' w' ∧ w'.ownsRow B 36 1 v' r (kps (xs ++ ys)) ∧ Below B w w' := by
  obtain ⟨i0, hi0, hz0, hz1, hz2⟩ := info_parts infoK
  subst hy hr
  rw [kps_app]
  cases A with
  | none =>
    obtain ⟨e1, rfl⟩ := h0 rfl
    obtain rfl := List.eq_nil_of_length_eq_zero e1
    exact ⟨v, w, run_append_owned_none w B 37 ty 36 i0 1 Try.underlying37 hi0 v n (kps xs) hown, by simpa [kps] using hown, Below.refl _ _⟩
  | some ad =>
    obtain ⟨v', w', r1, r2, r3, _, r4⟩ := run_append_own_at (P := Try.prog) w B 37 ty 36 i0 (.pointer none) 1 8 Try.underlying37 hi0 hz0 hz1 hz2 rfl (by decide) v n (kps xs) hown ad ys.length c (kps ys) (by rw [kps_len1]) (fun j u hj => by
      have hpos : 0 < ys.length := by
        have := (List.getElem?_eq_some_iff.1 hj).1
        rw [kps_len1] at this; omega
      obtain ⟨b, off, e, hlt, hc⟩ := hA hpos
      cases e
      exact kids_cells hc j u hj) (kps_one ys) (by simp only [maxLen]; omega) (by omega) hB
    exact ⟨v', w', r1, r2, (Below.refl B w).grown r3 hB (own_ge hown)⟩
/-- The levels: a level at hand, or the end. -/
def LevRel (w : World) (l : List Ent) (H : Nat) (cn hi lv : Value) (wr : World) : Prop := ∃ (cnt d : Nat), cn = .int .i64 cnt ∧ hi = .int .i64 d ∧ Below w.heap.size w wr ∧
  ((∃ (h lo : Nat) (qs : List Nat) (ls : List (List Ent)) (A : Option Addr) (c : Nat), d + h = H ∧ lv = .slice A qs.length c ∧ KidsAt wr A qs ∧ All2 (Kid wr h lo) qs ls ∧ ls.flatten = l ∧ 1 ≤ lo ∧ lo ≤ 2 ∧ (0 < h → lo = 2) ∧ (0 < d → lo = 2) ∧ cnt + 1 ≤ qs.length ∧ 2 ^ d ≤ qs.length ∧ (d = 0 → qs.length = 1)) ∨
   (∃ A c, d = H + 1 ∧ lv = .slice A 0 c ∧ cnt ≤ max l.length 1 ∧ (H = 0 ∨ 2 ^ (H + 1) ≤ l.length)))
def NextRel (wo : World) (kss : List (List Nat)) (N : Nat) (nx i : Value) (wr : World) : Prop := ∃ (j : Nat) (v : Value), v = nx ∧ i = .int .i64 j ∧ j ≤ N ∧ wr.ownsRow wo.heap.size 36 1 v (flen kss j) (kps (kss.take j).flatten) ∧ Below wo.heap.size wo wr
theorem lev_step {w wr X : World} {l : List Ent} {H h lo d cnt : Nat} {qs : List Nat} {ls : List (List Ent)} {kss : List (List Nat)} {nx : Value} {B : Nat}
    (hd : d + h = H) (hk : All2 (Kid wr h lo) qs ls) (hl : ls.flatten = l) (h1 : 1 ≤ lo) (h2 : lo ≤ 2) (h3 : 0 < h → lo = 2) (h4 : 0 < d → lo = 2) (h5 : cnt + 1 ≤ qs.length) (h6 : 2 ^ d ≤ qs.length) (h7 : d = 0 → qs.length = 1)
    (hkk : (h = 0 ∧ kss.flatten = []) ∨ ∃ h' lss, h = h' + 1 ∧ All2 (Kid wr h' 2) kss.flatten lss ∧ lss.flatten = ls.flatten ∧ 2 * qs.length ≤ kss.flatten.length)
    (ho : X.ownsRow B 36 1 nx kss.flatten.length (kps kss.flatten)) (hb : Below wr.heap.size wr X) (hw : Below w.heap.size w X) :
    LevRel w l H (.int .i64 ((cnt : Int) + (qs.length : Int))) (.int .i64 ((d : Int) + 1)) nx X := by
  refine ⟨cnt + qs.length, d + 1, by simp, by simp, hw, ?_⟩
  obtain ⟨A, c, rfl, _, _, hKA, _⟩ := kids_own ho
  have hlong := level_long h1 h2 hk
  rw [hl] at hlong
  rcases hkk with ⟨rfl, e⟩ | ⟨h', lss, rfl, a, b, c2⟩
  · rw [e] at hKA ⊢
    right
    refine ⟨A, c, by omega, rfl, ?_, ?_⟩
    · by_cases hd0 : d = 0
      · have := h7 hd0; omega
      · have := h4 (by omega); subst this; omega
    · by_cases hd0 : d = 0
      · left; omega
      · right
        have := h4 (by omega); subst this
        rw [show H = d by omega, Nat.pow_succ]; omega
  · left
    exact ⟨h', 2, kss.flatten, lss, A, c, by omega, rfl, hKA, a.imp (fun q m hq => hq.below hb), by rw [b, hl], by omega, by omega, fun _ => rfl, fun _ => rfl, by omega, by rw [Nat.pow_succ]; omega, fun h => by omega⟩
end Go.Proofs.Ytjeebbolnanmkaa.N
