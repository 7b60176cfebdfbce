/- RA: joined by merge.py. -/
import Derived.Test.YtainljbkejafcaaNLookK
import Derived.Test.YtainljbkejafcaaNRight
import Derived.Test.YtainljbkejafcaaRS
import Derived.Test.YtainljbkejafcaaNApp
import Derived.Test.YtainljbkejafcaaNCat
/- A node that is not right, and the nodes above it. -/
namespace Go.Proofs.Ytainljbkejafcaa.N
open Go.BigFrame Go.RowKit Go.Proofs.YtainljbkejafcaaW.PrintMore Go.Proofs.YtainljbkejafcaaW.PrintWords
set_option linter.unusedVariables false
set_option linter.unusedSimpArgs false
/-- look tells false of it, now and later. -/
def Bad (w : World) (p : Nat) : Prop := ∀ X root, Below w.heap.size w X → Calls Try.prog 58 #[.pointer (some ⟨p, 0, none⟩), .bool root] X (LookF X)
theorem Bad.below {w X : World} {p : Nat} (h : Bad w p) (hb : Below w.heap.size w X) : Bad X p := fun Y root hY => h Y root (hb.trans (hY.mono hb.size))
theorem AnyAt.below {w X : World} {p V Q ca cb cc : Nat} {ks : List Sp} {A B C : Option Addr} (h : AnyAt w p ks V Q A ca B cb C cc) (hb : Below w.heap.size w X) : AnyAt X p ks V Q A ca B cb C cc := by
  have plt : p < w.heap.size := World.block_lt_of_cell? _ _ h.c0
  exact ⟨bel_cell hb plt h.c0, bel_cell hb plt h.c1, bel_cell hb plt h.c2, h.keys.below hb, h.hca, h.hcm⟩
theorem bad_count {w : World} {p N ca : Nat} {A : Option Addr} (c0 : w.cell? ⟨p, 0, none⟩ = some (.slice A N ca)) (hb : N = 0 ∨ 4 < N) : Bad w p := fun X root hX => look_count (bel_cell hX (World.block_lt_of_cell? _ _ c0) c0) hb root
theorem bad_shape {w : World} {p V Q ca cb cc : Nat} {ks : List Sp} {A B C : Option Addr} (h : AnyAt w p ks V Q A ca B cb C cc) (h1 : 1 ≤ ks.length) (h4 : ks.length ≤ 4) (hr : Rising ks) (hbad : (Q = 0 ∧ V ≠ ks.length) ∨ Q = 1 ∨ (2 ≤ Q ∧ Q ≠ ks.length) ∨ (2 ≤ Q ∧ Q = ks.length ∧ 0 < V)) : Bad w p :=
  fun X root hX => look_shape (h.below hX) h1 h4 hr hbad root
theorem bad_order {w : World} {p V Q ca cb cc : Nat} {ks : List Sp} {A B C : Option Addr} (h : AnyAt w p ks V Q A ca B cb C cc) (h1 : 1 ≤ ks.length) (h4 : ks.length ≤ 4) (j0 : Nat) (hj0 : j0 + 1 < ks.length) (hr : ∀ j (h : j < j0), lt (ks[j]'(by omega)) (ks[j + 1]'(by omega)) = true) (hbad : lt (ks[j0]'(by omega)) (ks[j0 + 1]'(by omega)) = false) : Bad w p :=
  fun X root hX => look_order (h.below hX) h1 h4 j0 hj0 hr hbad root
/-- Above a bad kid whose elder ones are right. -/
theorem bad_up {w : World} {p h i0 : Nat} {qs : List Nat} {ls : List (List Ent)} (hI : Inner w p (ls.map hd) qs) (h2 : 2 ≤ ls.length) (h4 : ls.length ≤ 4) (ha : Asc ls.flatten) (hne : ∀ m ∈ ls, m ≠ []) (hi : i0 < qs.length) (hh : h ≤ 50)
    (hk : ∀ j (hj : j < i0) (hj1 : j < qs.length) (hj2 : j < ls.length), Kid w h 2 qs[j] ls[j]) (hb : Bad w qs[i0]) : Bad w p := fun X root hX => by
  refine look_badkid (H := h + 1) (i0 := i0) (hI.below hX) (by rw [List.length_map]; exact h2) (by rw [List.length_map]; exact h4) (fun j hj => ?_) root (fun j => lstE (ls.getD j [])) hi (fun Y hY => hb Y false (hX.trans (hY.mono hX.size))) (fun j hj0 hj hj' => ?_) (by omega)
  · rw [List.length_map] at hj
    rw [List.getElem_map, List.getElem_map]
    obtain ⟨x, hx, ex⟩ := hd_mem (hne _ (List.getElem_mem (show j < ls.length by omega)))
    obtain ⟨y, hy, ey⟩ := hd_mem (hne _ (List.getElem_mem hj))
    rw [← ex, ← ey]
    exact flat_lt ha (by omega) hj (Nat.lt_succ_self j) x hx y hy
  · have hjl : j < ls.length := by rw [List.length_map] at hj'; exact hj'
    obtain ⟨s, s2, s4, hkid⟩ := (hk j hj0 hj hjl).below hX
    obtain ⟨kk, k1, k2, k3⟩ := hkid.keys
    have hgd : ls.getD j [] = ls[j] := by rw [List.getD_eq_getElem?_getD, List.getElem?_eq_getElem hjl]; rfl
    refine ⟨⟨kk, k1, by omega, by omega, fun h0 => by rw [k3 h0, List.getElem_map]⟩, fun Y hY => ?_, fun h0 => ?_⟩
    · rw [hgd]
      exact look_nd h (hkid.below hY) (by simpa using s2) (fun _ => s2) s4 (asc_kid ha hjl) (by omega)
    · have hgd2 : ls.getD (j - 1) [] = ls[j - 1] := by rw [List.getD_eq_getElem?_getD, List.getElem?_eq_getElem (by omega)]; rfl
      rw [hgd2, List.getElem_map]
      obtain ⟨x, hx, ex⟩ := lstE_mem (hne _ (List.getElem_mem (show j - 1 < ls.length by omega)))
      obtain ⟨y, hy, ey⟩ := hd_mem (hne _ (List.getElem_mem hjl))
      rw [← ex, ← ey]
      exact flat_lt ha (by omega) hjl (by omega) x hx y hy
set_option maxHeartbeats 1600000 in
/-- Right tells false of it. -/
theorem right_bad {w : World} {p : Nat} (h : Bad w p) (root : Bool) : Calls Try.prog 27 #[.pointer (some ⟨p, 0, none⟩), .bool root] w fun e w' => e = .returned (.bool false) ∧ Below w.heap.size w w' := by
  have HH := Lib.hid (fun X hX => h X root hX)
  clear h
  go_enter Try.func27, Try.ntmps27
  go_wp2_with fail
  refine (HH.out _ ?_).mono ?_
  · first | exact Below.refl _ _ | exact bel_drewN _ _ (n := 1)
  rintro e w1 ⟨⟨hh, s, rfl⟩, hb⟩
  go_wp2_with fail
  go_ret
  exact ⟨rfl, hb.alloc hb.size _⟩
end Go.Proofs.Ytainljbkejafcaa.N

/- The law NodeRight: the beginning. -/
namespace Go.Proofs.Ytainljbkejafcaa.N
open Go.BigFrame Go.RowKit Go.Proofs.YtainljbkejafcaaW.PrintMore Go.Proofs.YtainljbkejafcaaW.PrintWords
set_option linter.unusedVariables false
set_option linter.unusedSimpArgs false
/-- Right of a root, asked as a root and as a kid. -/
theorem root_right {w : World} {q : Nat} {e : List Ent} (h : RootAt w (some ⟨q, 0, none⟩) e) (ha : Asc e) (hl : e.length ≤ 400) (X : World) (hX : Below w.heap.size w X) (root : Bool) :
    Calls Try.prog 27 #[.pointer (some ⟨q, 0, none⟩), .bool root] X fun e' w' => e' = .returned (.bool (root || decide (2 ≤ e.length))) ∧ Below X.heap.size X w' := by
  rcases h with ⟨e, _⟩ | ⟨q', h, n, e1, hn, h0, h2, h4⟩
  · cases e
  · cases e1
    have hp := hn.tall h0 h2
    have hh : h ≤ 50 := by
      refine Nat.le_of_not_lt fun hc => ?_
      have : 2 ^ 9 ≤ 2 ^ h := Nat.pow_le_pow_right (by decide) (by omega)
      omega
    cases h with
    | zero =>
      obtain ⟨e1, hL⟩ := hn
      have hr : Rising (e.map (·.1)) := fun j hj => by
        rw [List.getElem_map, List.getElem_map]
        unfold Asc at ha
        exact (List.pairwise_iff_getElem.1 ha) j (j + 1) (by rw [List.length_map] at hj; omega) (by simpa using hj) (by omega)
      refine (right_leaf (hL.below hX) (by rw [List.length_map]; omega) (by rw [List.length_map, List.length_map]) hr root).mono fun e' w' hq => ?_
      obtain ⟨a, b⟩ := hq
      refine ⟨?_, b⟩
      rw [a, List.length_map]
      congr 2
      rw [Bool.eq_iff_iff]
      simp only [rightN, Bool.and_eq_true, Bool.or_eq_true, decide_eq_true_eq]
      constructor
      · rintro ⟨_, h | h⟩
        · exact .inl h
        · exact .inr (by omega)
      · rintro (h | h)
        · exact ⟨⟨by omega, by omega⟩, .inl h⟩
        · exact ⟨⟨by omega, by omega⟩, .inr (by omega)⟩
    | succ h =>
      have h2' := h2 (by omega)
      have hlen : 2 ≤ e.length := by
        rw [Nat.pow_succ] at hp
        have := Nat.one_le_two_pow (n := h)
        omega
      have hd : (root || decide (2 ≤ e.length)) = true := by simp [hlen]
      rw [hd]
      exact right_nd (hn.below hX) (by split <;> omega) h2 h4 ha hh
end Go.Proofs.Ytainljbkejafcaa.N

/- What is bad at the end of a way down is bad at its top. -/
namespace Go.Proofs.Ytainljbkejafcaa.N
open Go.BigFrame Go.RowKit Go.Proofs.YtainljbkejafcaaW.PrintMore Go.Proofs.YtainljbkejafcaaW.PrintWords
set_option linter.unusedVariables false
set_option linter.unusedSimpArgs false
/-- Whatever becomes of m's block alone (and of new ones): if m is bad, p is. -/
def Lift (w : World) (p m : Nat) : Prop := ∀ X : World, w.heap.size ≤ X.heap.size → (∀ q, q < w.heap.size → q ≠ m → X.heap[q]? = w.heap[q]?) → Below 0 w X → Bad X m → Bad X p
theorem lift_self (w : World) (p : Nat) : Lift w p p := fun X _ _ _ h => h
/-- One node further down: m is a node over kids of which the one at i0 is c, a new block. -/
theorem lift_step {w0 w w' : World} {p m c h i0 : Nat} {qs : List Nat} {ls : List (List Ent)} (hL : Lift w p m) (hmw : m < w.heap.size) (hs : w.heap.size ≤ c) (hcw : c < w'.heap.size) (hb : Below 0 w w') (hfr : ∀ q, q < w.heap.size → q ≠ m → w'.heap[q]? = w.heap[q]?)
    (hI : ∀ X : World, w'.heap.size ≤ X.heap.size → (∀ q, q < w'.heap.size → q ≠ c → X.heap[q]? = w'.heap[q]?) → Inner X m (ls.map hd) qs)
    (h2 : 2 ≤ ls.length) (h4 : ls.length ≤ 4) (ha : Asc ls.flatten) (hne : ∀ m ∈ ls, m ≠ []) (hi : i0 < qs.length) (hc : qs[i0] = c) (hh : h ≤ 50)
    (h0 : w0.heap.size ≤ c) (h0w : Below w0.heap.size w0 w')
    (hk : ∀ j (hj : j < i0) (hj1 : j < qs.length) (hj2 : j < ls.length), Kid w0 h 2 qs[j] ls[j]) : Lift w' p c := fun X hX hfX hbX hbad => by
  have hX0 : Below w0.heap.size w0 X := ⟨hbX.os.trans h0w.os, hbX.tape.trans h0w.tape, hbX.output.trans h0w.output, Nat.le_trans h0w.size hX, fun q hq => (hfX q (Nat.lt_of_lt_of_le hq h0w.size) (by omega)).trans (h0w.block q hq)⟩
  have hm : Bad X m := bad_up (hI X hX hfX) h2 h4 ha hne hi hh (fun j hj hj1 hj2 => (hk j hj hj1 hj2).below hX0) (by rw [hc]; exact hbad)
  exact hL X (Nat.le_trans hb.size hX) (fun q hq hqm => (hfX q (Nat.lt_of_lt_of_le hq hb.size) (by omega)).trans (hfr q hq hqm)) (hb.trans hbX) hm
end Go.Proofs.Ytainljbkejafcaa.N

/- A new block with the cells of an old node. -/
namespace Go.Proofs.Ytainljbkejafcaa.N
open Go.BigFrame Go.RowKit Go.Proofs.YtainljbkejafcaaW.PrintMore Go.Proofs.YtainljbkejafcaaW.PrintWords
set_option linter.unusedVariables false
set_option linter.unusedSimpArgs false
/-- Block mb of X has the cells of a node of w. -/
def CpN (w X : World) (mb : Nat) : Nat → List Ent → Nat → Prop
  | 0, l, n => n = l.length ∧ ∃ A ca B cb, X.heap[mb]? = some (.cells #[.slice A n ca, .slice B n cb, .slice none 0 0] 39 (0, 0)) ∧ SpotsAt w A (l.map (·.1)) ∧ ValsAt w B (l.map (·.2)) ∧ n ≤ ca ∧ ca ≤ maxLen
  | h + 1, l, n => ∃ qs ls A ca C cc, n = qs.length ∧ l = ls.flatten ∧ ls.length = n ∧ X.heap[mb]? = some (.cells #[.slice A n ca, .slice none 0 0, .slice C n cc] 39 (0, 0)) ∧ SpotsAt w A (ls.map hd) ∧ KidsAt w C qs ∧ All2 (Kid w h 2) qs ls ∧ n ≤ ca ∧ ca ≤ maxLen ∧ n ≤ cc ∧ cc ≤ maxLen
theorem cp_of {w X : World} {q mb n : Nat} : ∀ {h : Nat} {l : List Ent}, Nd w h q l n → X.heap[mb]? = w.heap[q]? → CpN w X mb h l n
  | 0, l, hn, hx => by
    obtain ⟨e, A, ca, B, cb, hh⟩ := hn
    have hp := hh.hp
    rw [List.length_map, List.length_map, ← e] at hp
    exact ⟨e, A, ca, B, cb, hx.trans hp, hh.keys, hh.vals, by have := hh.hca; rw [List.length_map, ← e] at this; exact this, hh.hcm⟩
  | h + 1, l, hn, hx => by
    obtain ⟨qs, ls, hq, hm, ⟨A, ca, C, cc, hh⟩, hk⟩ := nd_succ.1 hn
    have hp := hh.hp
    have hl := hh.len
    rw [List.length_map] at hl
    have h1 := hh.hca
    have h2 := hh.hcc
    rw [List.length_map, ← hl, ← hq] at hp h1
    rw [← hq] at h2
    exact ⟨qs, ls, A, ca, C, cc, hq, hm, by omega, hx.trans hp, hh.keys, hh.kids, hk, h1, hh.hcm, h2, hh.hcn⟩
end Go.Proofs.Ytainljbkejafcaa.N

/- One node further down the way: a copy, a row of kids anew, and a store. -/
namespace Go.Proofs.Ytainljbkejafcaa.N
open Go.BigFrame Go.RowKit Go.Proofs.YtainljbkejafcaaW.PrintMore Go.Proofs.YtainljbkejafcaaW.PrintWords
set_option linter.unusedVariables false
set_option linter.unusedSimpArgs false
def KRow (w : World) (g : Nat) (qs : List Nat) : Prop := ∃ cur : Array Value, w.heap[g]? = some (.cells cur 36 (0, 0)) ∧ ∀ j (h : j < qs.length), cur[j]? = some (.pointer (some ⟨qs[j], 0, none⟩))
theorem KRow.lt {w : World} {g : Nat} {qs : List Nat} (h : KRow w g qs) : g < w.heap.size := by
  obtain ⟨cur, hh, _⟩ := h; exact (Array.getElem?_eq_some_iff.1 hh).1
theorem KRow.stay {w X : World} {g : Nat} {qs : List Nat} (h : KRow w g qs) (hb : X.heap[g]? = w.heap[g]?) : KRow X g qs := by
  obtain ⟨cur, hh, hc⟩ := h; exact ⟨cur, hb.trans hh, hc⟩
theorem KRow.frozen {w : World} {g : Nat} {qs : List Nat} (h : KRow w g qs) (o : Nat) : w.frozen? ⟨g, o, none⟩ = false := by
  obtain ⟨cur, hh, hc⟩ := h
  simp only [World.frozen?, hh]; simp
theorem KRow.cell {w : World} {g : Nat} {qs : List Nat} (h : KRow w g qs) (j : Nat) (hj : j < qs.length) : w.cell? ⟨g, j, none⟩ = some (.pointer (some ⟨qs[j], 0, none⟩)) := by
  obtain ⟨cur, hh, hc⟩ := h
  simp only [World.cell?, hh]; exact hc j hj
theorem KRow.kids {w : World} {g : Nat} {qs : List Nat} (h : KRow w g qs) : KidsAt w (some ⟨g, 0, none⟩) qs := fun _ =>
  ⟨g, 0, rfl, h.lt, fun j hj => by rw [Nat.zero_add]; exact h.cell j hj⟩
theorem KRow.put {w : World} {g : Nat} {qs : List Nat} (h : KRow w g qs) (i : Nat) (hi : i < qs.length) (c : Nat) :
    KRow (w.setCell ⟨g, i, none⟩ (.pointer (some ⟨c, 0, none⟩))) g (qs.set i c) := by
  obtain ⟨cur, hh, hc⟩ := h
  refine ⟨_, set_at hh, fun j hj => ?_⟩
  rw [List.length_set] at hj
  have a := hc j hj
  have a' := (Array.getElem?_eq_some_iff.1 a).1
  by_cases hij : i = j
  · subst hij
    rw [List.getElem_set_self, Array.getElem?_setIfInBounds]
    simp; omega
  · rw [List.getElem_set_ne hij, Array.getElem?_setIfInBounds, if_neg hij]; exact a
theorem own_krow {w : World} {B : Nat} {v : Value} {qs : List Nat} (h : w.ownsRow B 36 1 v qs.length (kps qs)) (h0 : 0 < qs.length) : ∃ g c, v = .slice (some ⟨g, 0, none⟩) qs.length c ∧ B ≤ g ∧ KRow w g qs ∧ qs.length ≤ c ∧ c ≤ maxLen := by
  obtain ⟨A, c, e, h1, h2, hs, _⟩ := kids_own h
  rcases h.2 with ⟨rfl, e2⟩ | ⟨g, cap, cur, rfl, hg, hh, _⟩
  · omega
  · cases e
    obtain ⟨b, off, e3, hlt, hc⟩ := hs h0
    cases e3
    refine ⟨g, _, rfl, hg, ⟨cur, hh, fun j hj => ?_⟩, h1, h2⟩
    have a0 := hc j hj
    rw [Nat.zero_add] at a0
    simp only [World.cell?, hh] at a0
    exact a0
def WayRel (wc : World) (top : Nat) (mp ip : Value) (X : World) : Prop := ∃ (mb h n i : Nat) (l : List Ent), mp = .pointer (some ⟨mb, 0, none⟩) ∧ ip = .int .i64 i ∧ i ≤ 4 ∧ wc.heap.size ≤ mb ∧ mb < X.heap.size ∧ CpN wc X mb h l n ∧ 0 < n ∧ (0 < h → 2 ≤ n) ∧ n ≤ 4 ∧ h ≤ 5 ∧ Asc l ∧ Lift X top mb ∧ Below wc.heap.size wc X
/-- Behind one node further down. -/
theorem way_step {w3 X Y : World} {top mb h n k cb rb cc i : Nat} {qs : List Nat} {ls : List (List Ent)} {A : Option Addr} {ca : Nat}
    (hmb0 : w3.heap.size ≤ mb) (hmb : mb < X.heap.size) (hn : n = qs.length) (hls : ls.length = n) (hs : SpotsAt w3 A (ls.map hd)) (hall : All2 (Kid w3 h 2) qs ls) (hca : n ≤ ca) (hcm : ca ≤ maxLen) (h2 : 2 ≤ n) (h4 : n ≤ 4) (hh : h + 1 ≤ 5) (ha : Asc ls.flatten)
    (hlf : Lift X top mb) (hbr : Below w3.heap.size w3 X) (hk : k < n) (hi : i + 1 ≤ 4)
    (hY : Below w3.heap.size w3 Y) (hXY : Below 0 X Y) (hfr : ∀ q, q < X.heap.size → q ≠ mb → Y.heap[q]? = X.heap[q]?) (hcX : X.heap.size ≤ cb) (hcY : cb < Y.heap.size) (hrX : X.heap.size ≤ rb) (hcr : cb ≠ rb)
    (hm : Y.heap[mb]? = some (.cells #[.slice A n ca, .slice none 0 0, .slice (some ⟨rb, 0, none⟩) n cc] 39 (0, 0))) (hcc : n ≤ cc) (hcc2 : cc ≤ maxLen)
    (hrow : KRow Y rb (qs.set k cb)) (hcb : Y.heap[cb]? = w3.heap[qs.getD k 0]?) :
    WayRel w3 top (.pointer (some ⟨cb, 0, none⟩)) (.int .i64 ((i : Int) + 1)) Y := by
  have hkq : k < qs.length := by omega
  have hkl : k < ls.length := by omega
  have hg : qs.getD k 0 = qs[k] := by rw [List.getD_eq_getElem?_getD, List.getElem?_eq_getElem hkq]; rfl
  rw [hg] at hcb
  obtain ⟨s, s2, s4, hkid⟩ := hall.get k hkq hkl
  have hcp := cp_of hkid hcb
  have hlift : Lift Y top cb := by
    refine lift_step (w0 := w3) (i0 := k) (h := h) (qs := qs.set k cb) (ls := ls) hlf hmb hcX hcY hXY hfr (fun Z hZ hfZ => ?_) (by omega) (by omega) ha (kids_ne (by decide) hall) (by rw [List.length_set]; exact hkq) (by rw [List.getElem_set_self]) (by omega) (Nat.le_trans hbr.size hcX) hY (fun j hj hj1 hj2 => ?_)
    · have hbZ : Below w3.heap.size w3 w3 := Below.refl _ _
      have hZr : Z.heap[rb]? = Y.heap[rb]? := hfZ rb hrow.lt (Ne.symm hcr)
      have hZm : Z.heap[mb]? = Y.heap[mb]? := hfZ mb (Array.getElem?_eq_some_iff.1 hm).1 (by omega)
      have hsZ : SpotsAt Z A (ls.map hd) := fun hl => by
        obtain ⟨b, off, e, hlt, hc⟩ := hs hl
        have hbb : Z.heap[b]? = w3.heap[b]? := (hfZ b (Nat.lt_of_lt_of_le hlt hY.size) (by have := hbr.size; omega)).trans (hY.block b hlt)
        have h1 := hY.size
        exact ⟨b, off, e, by omega, fun j hj => ⟨(World.cell?_of_block hbb).trans (hc j hj).1, (World.cell?_of_block hbb).trans (hc j hj).2.1, (World.cell?_of_block hbb).trans (hc j hj).2.2.1, (World.cell?_of_block hbb).trans (hc j hj).2.2.2⟩⟩
      refine ⟨A, ca, some ⟨rb, 0, none⟩, cc, ?_, hsZ, (hrow.stay hZr).kids, ?_, hcm, ?_, hcc2, ?_, ?_⟩
      · rw [hZm, hm, List.length_map, List.length_set, hls, ← hn]
      · rw [List.length_map]; omega
      · rw [List.length_set]; omega
      · rw [List.length_map, List.length_set]; omega
      · rw [List.length_set]; omega
    · rw [List.getElem_set_ne (by omega)]
      exact hall.get j (by omega) hj2
  refine ⟨cb, h, s, i + 1, ls[k], rfl, by simp, hi, Nat.le_trans hbr.size hcX, hcY, hcp, by omega, fun _ => s2, s4, by omega, asc_kid ha hkl, hlift, hY⟩
end Go.Proofs.Ytainljbkejafcaa.N

/- A copy of a list: two rows and a block that come in any order. -/
namespace Go.Proofs.Ytainljbkejafcaa.N
open Go.RowKit Go.Proofs.YtainljbkejafcaaW.PrintMore Go.Proofs.YtainljbkejafcaaW.PrintWords
set_option linter.unusedVariables false
set_option linter.unusedSimpArgs false
section
variable {P : Program} {l : List Oper} {Q : Exit → Act → World → Prop} {md : Region.Mode} {S : World → Prop} {z : Nat}
/-- Three may come up. -/
theorem E_three {i j m : Nat} {o u x : Oper} {fuel : Nat} {listed : Array Bool} {a : Act} {w : World} (hi : l[i]? = some o) (hj : l[j]? = some u) (hm : l[m]? = some x) (hr : Region.ready md l.toArray listed = [i, j, m])
    (hw : Region.wanted o (yielded l.toArray a.tmps) = true) (hw' : Region.wanted u (yielded l.toArray a.tmps) = true) (hw2 : Region.wanted x (yielded l.toArray a.tmps) = true)
    (h : ∀ K' : Act → World → Prop, Shut (∀ a w, (i ≠ z → S w) → wpAnyE P md l.toArray Q S z fuel (listed.setIfInBounds i true) a w → K' a w) → Oper.wp P o a w K' Q)
    (h' : ∀ K' : Act → World → Prop, Shut (∀ a w, (j ≠ z → S w) → wpAnyE P md l.toArray Q S z fuel (listed.setIfInBounds j true) a w → K' a w) → Oper.wp P u a w K' Q)
    (h2 : ∀ K' : Act → World → Prop, Shut (∀ a w, (m ≠ z → S w) → wpAnyE P md l.toArray Q S z fuel (listed.setIfInBounds m true) a w → K' a w) → Oper.wp P x a w K' Q) : wpAnyE P md l.toArray Q S z (fuel + 1) listed a w :=
  ⟨fun h0 => absurd (hr ▸ h0) (by simp), fun k hk => by
    rw [hr] at hk
    rcases List.mem_cons.1 hk with rfl | hk
    · exact wpOp_step (by simpa using hi) (fun K' hK => by rw [if_pos hw]; exact h K' (fun a w hS hW => hK a w ⟨hS, hW⟩))
    · rcases List.mem_cons.1 hk with rfl | hk
      · exact wpOp_step (by simpa using hj) (fun K' hK => by rw [if_pos hw']; exact h' K' (fun a w hS hW => hK a w ⟨hS, hW⟩))
      · obtain rfl := List.mem_singleton.1 hk
        exact wpOp_step (by simpa using hm) (fun K' hK => by rw [if_pos hw2]; exact h2 K' (fun a w hS hW => hK a w ⟨hS, hW⟩))⟩
end
def KP (B : Nat) (X : World) : Option (Value × List Sp) → Prop
  | none => True
  | some (v, xs) => X.ownsRow B 26 4 v xs.length (sps xs)
def VP (B : Nat) (X : World) : Option (Value × List Int) → Prop
  | none => True
  | some (v, xs) => X.ownsRow B 24 1 v xs.length (u64s xs)
def PP (B : Nat) (X : World) : Option Nat → Prop
  | none => True
  | some p => B ≤ p ∧ X.heap[p]? = some (.cells #[.slice none 0 0, .slice none 0 0] 34 (0, 0))
def kB (k : Option (Value × List Sp)) : Option Nat := k.bind (·.1.ownBlock)
def vB (v : Option (Value × List Int)) : Option Nat := v.bind (·.1.ownBlock)
theorem KP.lt {B : Nat} {X : World} {k : Option (Value × List Sp)} (h : KP B X k) : ∀ q, kB k = some q → q < X.heap.size := fun q hq => by
  cases k with
  | none => cases hq
  | some k => exact own_lt h q hq
theorem VP.lt {B : Nat} {X : World} {v : Option (Value × List Int)} (h : VP B X v) : ∀ q, vB v = some q → q < X.heap.size := fun q hq => by
  cases v with
  | none => cases hq
  | some k => exact own_lt h q hq
theorem PP.lt {B : Nat} {X : World} {p : Option Nat} (h : PP B X p) : ∀ q, p = some q → q < X.heap.size := fun q hq => by
  subst hq
  exact (Array.getElem?_eq_some_iff.1 h.2).1
theorem KP.stay {B : Nat} {X Y : World} {k : Option (Value × List Sp)} (h : KP B X k) (hs : ∀ q, kB k = some q → Y.heap[q]? = X.heap[q]?) : KP B Y k := by
  cases k with
  | none => trivial
  | some k => exact own_stay h hs
theorem VP.stay {B : Nat} {X Y : World} {v : Option (Value × List Int)} (h : VP B X v) (hs : ∀ q, vB v = some q → Y.heap[q]? = X.heap[q]?) : VP B Y v := by
  cases v with
  | none => trivial
  | some k => exact own_stay h hs
theorem PP.stay {B : Nat} {X Y : World} {p : Option Nat} (h : PP B X p) (hs : ∀ q, p = some q → Y.heap[q]? = X.heap[q]?) : PP B Y p := by
  cases p with
  | none => trivial
  | some p => exact ⟨h.1, (hs p rfl).trans h.2⟩
structure Cp (W0 X : World) (k : Option (Value × List Sp)) (v : Option (Value × List Int)) (p : Option Nat) : Prop where
  b : Below W0.heap.size W0 X
  kp : KP W0.heap.size X k
  vp : VP W0.heap.size X v
  pp : PP W0.heap.size X p
  kv : ∀ q, kB k = some q → vB v ≠ some q
  kq : ∀ q, kB k = some q → p ≠ some q
  vq : ∀ q, vB v = some q → p ≠ some q
variable {W0 X Y : World} {k : Option (Value × List Sp)} {v : Option (Value × List Int)} {p : Option Nat}
theorem alloc_stay (X : World) (o : Obj) (q : Nat) (h : q < X.heap.size) : (X.alloc o).heap[q]? = X.heap[q]? := ((Below.refl X.heap.size X).alloc (Nat.le_refl _) o).block q h
theorem Cp.kNew (h : Cp W0 X none v p) : Cp W0 (X.alloc (.cells #[] 26)) (some (.slice (some ⟨X.heap.size, 0, none⟩) 0 0, [])) v p where
  b := h.b.alloc h.b.size _
  kp := own_base (empty_own X 26 4 (by decide)) h.b.size
  vp := h.vp.stay (fun q hq => alloc_stay X _ q (h.vp.lt q hq))
  pp := h.pp.stay (fun q hq => alloc_stay X _ q (h.pp.lt q hq))
  kv := fun q hq e => by
    have := h.vp.lt q e
    simp [kB, Value.ownBlock] at hq; omega
  kq := fun q hq e => by
    have := h.pp.lt q e
    simp [kB, Value.ownBlock] at hq; omega
  vq := h.vq
theorem Cp.vNew (h : Cp W0 X k none p) : Cp W0 (X.alloc (.cells #[] 24)) k (some (.slice (some ⟨X.heap.size, 0, none⟩) 0 0, [])) p where
  b := h.b.alloc h.b.size _
  kp := h.kp.stay (fun q hq => alloc_stay X _ q (h.kp.lt q hq))
  vp := own_base (empty_own X 24 1 (by decide)) h.b.size
  pp := h.pp.stay (fun q hq => alloc_stay X _ q (h.pp.lt q hq))
  kv := fun q hq e => by
    have := h.kp.lt q hq
    simp [vB, Value.ownBlock] at e; omega
  kq := h.kq
  vq := fun q hq e => by
    have := h.pp.lt q e
    simp [vB, Value.ownBlock] at hq; omega
theorem Cp.pNew (h : Cp W0 X k v none) : Cp W0 (X.alloc (.cells #[.slice none 0 0, .slice none 0 0] 34)) k v (some X.heap.size) where
  b := h.b.alloc h.b.size _
  kp := h.kp.stay (fun q hq => alloc_stay X _ q (h.kp.lt q hq))
  vp := h.vp.stay (fun q hq => alloc_stay X _ q (h.vp.lt q hq))
  pp := ⟨h.b.size, heap_alloc_new X _⟩
  kv := h.kv
  kq := fun q hq e => by
    have := h.kp.lt q hq
    simp at e; omega
  vq := fun q hq e => by
    have := h.vp.lt q hq
    simp at e; omega
theorem Cp.kApp {kv kv' : Value} {ks : List Sp} (h : Cp W0 X (some (kv, [])) v p) (ho : Y.ownsRow W0.heap.size 26 4 kv' ks.length (sps ks)) (hg : X.grownBy Y kv.ownBlock) (ha : kv'.ownBlock = kv.ownBlock ∨ kv'.ownBlock = some X.heap.size) (hb : Below W0.heap.size X Y) : Cp W0 Y (some (kv', ks)) v p where
  b := h.b.trans hb
  kp := ho
  vp := h.vp.stay (fun q hq => hg.block q (h.vp.lt q hq) (fun e => h.kv q e.symm hq))
  pp := h.pp.stay (fun q hq => hg.block q (h.pp.lt q hq) (fun e => h.kq q e.symm hq))
  kv := fun q hq e => by
    have hl := h.vp.lt q e
    rcases ha with ha | ha
    · exact h.kv q (ha.symm.trans hq) e
    · have := ha.symm.trans hq; simp at this; omega
  kq := fun q hq e => by
    have hl := h.pp.lt q e
    rcases ha with ha | ha
    · exact h.kq q (ha.symm.trans hq) e
    · have := ha.symm.trans hq; simp at this; omega
  vq := h.vq
theorem Cp.vApp {vv vv' : Value} {vs : List Int} (h : Cp W0 X k (some (vv, [])) p) (ho : Y.ownsRow W0.heap.size 24 1 vv' vs.length (u64s vs)) (hg : X.grownBy Y vv.ownBlock) (ha : vv'.ownBlock = vv.ownBlock ∨ vv'.ownBlock = some X.heap.size) (hb : Below W0.heap.size X Y) : Cp W0 Y k (some (vv', vs)) p where
  b := h.b.trans hb
  kp := h.kp.stay (fun q hq => hg.block q (h.kp.lt q hq) (fun e => h.kv q hq e.symm))
  vp := ho
  pp := h.pp.stay (fun q hq => hg.block q (h.pp.lt q hq) (fun e => h.vq q e.symm hq))
  kv := fun q hq e => by
    have hl := h.kp.lt q hq
    rcases ha with ha | ha
    · exact h.kv q hq (ha.symm.trans e)
    · have := ha.symm.trans e; simp at this; omega
  kq := h.kq
  vq := fun q hq e => by
    have hl := h.pp.lt q e
    rcases ha with ha | ha
    · exact h.vq q (ha.symm.trans hq) e
    · have := ha.symm.trans hq; simp at this; omega
/-- The block, and both rows stored in it. -/
theorem Cp.done {kv vv : Value} {L N : Nat} {l : List Ent} (h : Cp W0 X (some (kv, l.map (·.1))) (some (vv, l.map (·.2))) (some L)) :
    ListR ((X.setCell ⟨L, 0, none⟩ kv).setCell ⟨L, 1, none⟩ vv) L l ∧ Below W0.heap.size W0 ((X.setCell ⟨L, 0, none⟩ kv).setCell ⟨L, 1, none⟩ vv) := by
  have hs : ∀ q, q ≠ L → ((X.setCell ⟨L, 0, none⟩ kv).setCell ⟨L, 1, none⟩ vv).heap[q]? = X.heap[q]? := fun q hq => (set_off (o := 1) vv hq).trans (set_off (o := 0) kv hq)
  have hk : ((X.setCell ⟨L, 0, none⟩ kv).setCell ⟨L, 1, none⟩ vv).ownsRow W0.heap.size 26 4 kv (l.map (·.1)).length (sps (l.map (·.1))) := own_stay h.kp (fun q hq => hs q (fun e => h.kq q hq (by rw [e])))
  have hv : ((X.setCell ⟨L, 0, none⟩ kv).setCell ⟨L, 1, none⟩ vv).ownsRow W0.heap.size 24 1 vv (l.map (·.2)).length (u64s (l.map (·.2))) := own_stay h.vp (fun q hq => hs q (fun e => h.vq q hq (by rw [e])))
  have hp := set_at (o := 1) (v := vv) (set_at (o := 0) (v := kv) h.pp.2)
  obtain ⟨A, c, e, _, _, hS⟩ := spots_own hk
  obtain ⟨A', c', e', _, _, hV⟩ := vals_own hv
  rw [List.length_map] at e e'
  subst e e'
  refine ⟨⟨A, c, A', c', ?_, ?_, hS, hV⟩, h.b.trans ⟨rfl, rfl, rfl, by simp [World.setCell], fun q hq => hs q (by have := h.pp.1; omega)⟩⟩
  · simp only [World.cell?, hp]; rfl
  · simp only [World.cell?, hp]; rfl
theorem own_parts {w : World} {B : Nat} {T : TypeId} {k n : Nat} {v : Value} {xs : List Value} (h : w.ownsRow B T k v n xs) : ∃ A c, v = .slice A n c ∧ (A = none → n = 0 ∧ c = 0) := by
  rcases h.2 with ⟨rfl, e⟩ | ⟨g, cap, cur, rfl, _⟩
  · exact ⟨none, 0, by rw [e], fun _ => ⟨e, rfl⟩⟩
  · exact ⟨_, cap, rfl, fun e => by cases e⟩
/-- Both rows of a list, as a copy reads them. -/
theorem ListE.rows {w : World} {L N : Nat} {l : List Ent} (h : ListE w L l) (hN : l.length = N) : ∃ A c A' c', w.cell? ⟨L, 0, none⟩ = some (.slice A N c) ∧ w.cell? ⟨L, 1, none⟩ = some (.slice A' N c') ∧ SpotsAt w A (l.map (·.1)) ∧ ValsAt w A' (l.map (·.2)) ∧ (A = none → N = 0 ∧ c = 0) ∧ (A' = none → N = 0 ∧ c' = 0) := by
  obtain ⟨kv, vv, h⟩ := h
  obtain ⟨A, c, e, _, _, hs⟩ := spots_own h.keys
  obtain ⟨A', c', e', _, _, hv⟩ := vals_own h.vals
  obtain ⟨A1, c1, e1, n1⟩ := own_parts h.keys
  obtain ⟨A2, c2, e2, n2⟩ := own_parts h.vals
  rw [e] at e1
  rw [e'] at e2
  cases e1
  cases e2
  have hp := h.hp
  rw [List.length_map, hN] at e e' n1 n2
  exact ⟨A, c, A', c', by simp only [World.cell?, hp, e]; rfl, by simp only [World.cell?, hp, e']; rfl, hs, hv, n1, n2⟩
end Go.Proofs.Ytainljbkejafcaa.N

/- A node's rows copied: three rows that come in any order; and the spoilt node. -/
namespace Go.Proofs.Ytainljbkejafcaa.N
open Go.BigFrame Go.RowKit Go.Proofs.YtainljbkejafcaaW.PrintMore Go.Proofs.YtainljbkejafcaaW.PrintWords
set_option linter.unusedVariables false
set_option linter.unusedSimpArgs false
set_option linter.unusedSectionVars false
section
variable {P : Program} {l : List Oper} {Q : Exit → Act → World → Prop} {md : Region.Mode} {S : World → Prop} {zs : List Nat}
theorem Z_three {i j m : Nat} {o u x : Oper} {fuel : Nat} {listed : Array Bool} {a : Act} {w : World} (hi : l[i]? = some o) (hj : l[j]? = some u) (hm : l[m]? = some x) (hr : Region.ready md l.toArray listed = [i, j, m])
    (hw : Region.wanted o (yielded l.toArray a.tmps) = true) (hw' : Region.wanted u (yielded l.toArray a.tmps) = true) (hw2 : Region.wanted x (yielded l.toArray a.tmps) = true)
    (h : ∀ K' : Act → World → Prop, Shut (∀ a w, (NoneOf zs (listed.setIfInBounds i true) → S w) → wpAnyZ P md l.toArray Q S zs fuel (listed.setIfInBounds i true) a w → K' a w) → Oper.wp P o a w K' Q)
    (h' : ∀ K' : Act → World → Prop, Shut (∀ a w, (NoneOf zs (listed.setIfInBounds j true) → S w) → wpAnyZ P md l.toArray Q S zs fuel (listed.setIfInBounds j true) a w → K' a w) → Oper.wp P u a w K' Q)
    (h2 : ∀ K' : Act → World → Prop, Shut (∀ a w, (NoneOf zs (listed.setIfInBounds m true) → S w) → wpAnyZ P md l.toArray Q S zs fuel (listed.setIfInBounds m true) a w → K' a w) → Oper.wp P x a w K' Q) : wpAnyZ P md l.toArray Q S zs (fuel + 1) listed a w :=
  ⟨fun h0 => absurd (hr ▸ h0) (by simp), fun k hk => by
    rw [hr] at hk
    rcases List.mem_cons.1 hk with rfl | hk
    · exact wpOp_step (by simpa using hi) (fun K' hK => by rw [if_pos hw]; exact h K' (fun a w hS hW => hK a w ⟨hS, hW⟩))
    · rcases List.mem_cons.1 hk with rfl | hk
      · exact wpOp_step (by simpa using hj) (fun K' hK => by rw [if_pos hw']; exact h' K' (fun a w hS hW => hK a w ⟨hS, hW⟩))
      · obtain rfl := List.mem_singleton.1 hk
        exact wpOp_step (by simpa using hm) (fun K' hK => by rw [if_pos hw2]; exact h2 K' (fun a w hS hW => hK a w ⟨hS, hW⟩))⟩
theorem Z_relist {listed listed' : Array Bool} {fuel : Nat} {a : Act} {w : World} (h : listed = listed') (H : wpAnyZ P md l.toArray Q S zs fuel listed' a w) : wpAnyZ P md l.toArray Q S zs fuel listed a w := h ▸ H
end
/-- What several ways end in, shown once. -/
theorem use_tail {T G : Prop} (main : Hid T → G) (prf : T) : G := main (Lib.hid prf)
def RW (B : Nat) (X : World) (T : TypeId) (k : Nat) : Option (Value × Nat × List Value) → Prop
  | none => True
  | some (v, n, xs) => X.ownsRow B T k v n xs
def rB (r : Option (Value × Nat × List Value)) : Option Nat := r.bind (·.1.ownBlock)
theorem RW.lt {B k : Nat} {X : World} {T : TypeId} {r : Option (Value × Nat × List Value)} (h : RW B X T k r) : ∀ q, rB r = some q → q < X.heap.size := fun q hq => by
  cases r with
  | none => cases hq
  | some k => exact own_lt h q hq
theorem RW.ge {B k : Nat} {X : World} {T : TypeId} {r : Option (Value × Nat × List Value)} (h : RW B X T k r) : ∀ q, rB r = some q → B ≤ q := fun q hq => by
  cases r with
  | none => cases hq
  | some k => exact own_ge h q hq
theorem RW.stay {B k : Nat} {X Y : World} {T : TypeId} {r : Option (Value × Nat × List Value)} (h : RW B X T k r) (hs : ∀ q, rB r = some q → Y.heap[q]? = X.heap[q]?) : RW B Y T k r := by
  cases r with
  | none => trivial
  | some k => exact own_stay h hs
/-- Two rows apart. -/
def Apt (r s : Option (Value × Nat × List Value)) : Prop := ∀ q, rB r = some q → rB s ≠ some q
theorem Apt.new {X : World} {B k : Nat} {T : TypeId} {r : Option (Value × Nat × List Value)} (h : RW B X T k r) {n : Nat} {xs : List Value} : Apt r (some (.slice (some ⟨X.heap.size, 0, none⟩) 0 0, n, xs)) ∧ Apt (some (.slice (some ⟨X.heap.size, 0, none⟩) 0 0, n, xs)) r :=
  ⟨fun q hq e => by
    have := h.lt q hq
    simp [rB, Value.ownBlock] at e; omega, fun q hq e => by
    have := h.lt q e
    simp [rB, Value.ownBlock] at hq; omega⟩
theorem Apt.app {X : World} {B k : Nat} {T : TypeId} {r : Option (Value × Nat × List Value)} (h : RW B X T k r) {v v' : Value} {n n' : Nat} {xs xs' : List Value} (ha : v'.ownBlock = v.ownBlock ∨ v'.ownBlock = some X.heap.size) :
    (Apt r (some (v, n, xs)) → Apt r (some (v', n', xs'))) ∧ (Apt (some (v, n, xs)) r → Apt (some (v', n', xs')) r) :=
  ⟨fun d q hq e => by
    rcases ha with ha | ha
    · exact d q hq (ha.symm.trans e)
    · have := h.lt q hq
      have := ha.symm.trans e
      simp at this; omega, fun d q hq e => by
    rcases ha with ha | ha
    · exact d q (ha.symm.trans hq) e
    · have := h.lt q e
      have := ha.symm.trans hq
      simp at this; omega⟩
theorem RW.grown {X Y : World} {B k : Nat} {T : TypeId} {r : Option (Value × Nat × List Value)} (h : RW B X T k r) {v : Value} {n : Nat} {xs : List Value} (hg : X.grownBy Y v.ownBlock) (d : Apt r (some (v, n, xs))) : RW B Y T k r :=
  h.stay (fun q hq => hg.block q (h.lt q hq) (fun e => d q hq e.symm))
theorem Apt.symm {r s : Option (Value × Nat × List Value)} (h : Apt r s) : Apt s r := fun q hq e => h q e hq
structure C3 (W0 X : World) (r1 r2 r3 : Option (Value × Nat × List Value)) : Prop where
  b : Below W0.heap.size W0 X
  p1 : RW W0.heap.size X 26 4 r1
  p2 : RW W0.heap.size X 24 1 r2
  p3 : RW W0.heap.size X 36 1 r3
  d12 : Apt r1 r2
  d13 : Apt r1 r3
  d23 : Apt r2 r3
section
variable {W0 X Y : World} {r1 r2 r3 : Option (Value × Nat × List Value)}
theorem C3.new1 (h : C3 W0 X none r2 r3) : C3 W0 (X.alloc (.cells #[] 26)) (some (.slice (some ⟨X.heap.size, 0, none⟩) 0 0, 0, [])) r2 r3 where
  b := h.b.alloc h.b.size _
  p1 := own_base (empty_own X 26 4 (by decide)) h.b.size
  p2 := h.p2.stay (fun q hq => alloc_stay X _ q (h.p2.lt q hq))
  p3 := h.p3.stay (fun q hq => alloc_stay X _ q (h.p3.lt q hq))
  d12 := (Apt.new h.p2).2
  d13 := (Apt.new h.p3).2
  d23 := h.d23
theorem C3.new2 (h : C3 W0 X r1 none r3) : C3 W0 (X.alloc (.cells #[] 24)) r1 (some (.slice (some ⟨X.heap.size, 0, none⟩) 0 0, 0, [])) r3 where
  b := h.b.alloc h.b.size _
  p1 := h.p1.stay (fun q hq => alloc_stay X _ q (h.p1.lt q hq))
  p2 := own_base (empty_own X 24 1 (by decide)) h.b.size
  p3 := h.p3.stay (fun q hq => alloc_stay X _ q (h.p3.lt q hq))
  d12 := (Apt.new h.p1).1
  d13 := h.d13
  d23 := (Apt.new h.p3).2
theorem C3.new3 (h : C3 W0 X r1 r2 none) : C3 W0 (X.alloc (.cells #[] 36)) r1 r2 (some (.slice (some ⟨X.heap.size, 0, none⟩) 0 0, 0, [])) where
  b := h.b.alloc h.b.size _
  p1 := h.p1.stay (fun q hq => alloc_stay X _ q (h.p1.lt q hq))
  p2 := h.p2.stay (fun q hq => alloc_stay X _ q (h.p2.lt q hq))
  p3 := own_base (empty_own X 36 1 (by decide)) h.b.size
  d12 := h.d12
  d13 := (Apt.new h.p1).1
  d23 := (Apt.new h.p2).1
variable {v v' : Value} {n n' : Nat} {xs xs' : List Value}
theorem C3.app1 (h : C3 W0 X (some (v, n, xs)) r2 r3) (ho : Y.ownsRow W0.heap.size 26 4 v' n' xs') (hg : X.grownBy Y v.ownBlock) (ha : v'.ownBlock = v.ownBlock ∨ v'.ownBlock = some X.heap.size) (hb : Below W0.heap.size X Y) : C3 W0 Y (some (v', n', xs')) r2 r3 where
  b := h.b.trans hb
  p1 := ho
  p2 := h.p2.grown hg h.d12.symm
  p3 := h.p3.grown hg h.d13.symm
  d12 := (Apt.app h.p2 ha).2 h.d12
  d13 := (Apt.app h.p3 ha).2 h.d13
  d23 := h.d23
theorem C3.app2 (h : C3 W0 X r1 (some (v, n, xs)) r3) (ho : Y.ownsRow W0.heap.size 24 1 v' n' xs') (hg : X.grownBy Y v.ownBlock) (ha : v'.ownBlock = v.ownBlock ∨ v'.ownBlock = some X.heap.size) (hb : Below W0.heap.size X Y) : C3 W0 Y r1 (some (v', n', xs')) r3 where
  b := h.b.trans hb
  p1 := h.p1.grown hg h.d12
  p2 := ho
  p3 := h.p3.grown hg h.d23.symm
  d12 := (Apt.app h.p1 ha).1 h.d12
  d13 := h.d13
  d23 := (Apt.app h.p3 ha).2 h.d23
theorem C3.app3 (h : C3 W0 X r1 r2 (some (v, n, xs))) (ho : Y.ownsRow W0.heap.size 36 1 v' n' xs') (hg : X.grownBy Y v.ownBlock) (ha : v'.ownBlock = v.ownBlock ∨ v'.ownBlock = some X.heap.size) (hb : Below W0.heap.size X Y) : C3 W0 Y r1 r2 (some (v', n', xs')) where
  b := h.b.trans hb
  p1 := h.p1.grown hg h.d13
  p2 := h.p2.grown hg h.d23
  p3 := ho
  d12 := h.d12
  d13 := (Apt.app h.p1 ha).1 h.d13
  d23 := (Apt.app h.p2 ha).1 h.d23
end
theorem Blk.kept_row {W W' : World} {row : Option Nat} {b : Nat} {cs : Array Value} {T : TypeId} (h : Blk W b cs T) (hg : W.grownBy W' row) (hne : some b ≠ row) : Blk W' b cs T := (hg.block b h.lt hne).trans h
theorem own_srow {w : World} {B : Nat} {v : Value} {ms : List Sp} (h : w.ownsRow B 26 4 v ms.length (sps ms)) (h0 : 0 < ms.length) : ∃ g c, v = .slice (some ⟨g, 0, none⟩) ms.length c ∧ B ≤ g ∧ SpotsAt w (some ⟨g, 0, none⟩) ms ∧ ms.length ≤ c ∧ c ≤ maxLen := by
  have hge := own_ge h
  obtain ⟨A, c, e, h1, h2, hs⟩ := spots_own h
  rcases h.2 with ⟨rfl, e2⟩ | ⟨g, cap, cur, rfl, hg, hh, _⟩
  · omega
  · cases e
    exact ⟨g, _, rfl, hg, hs, h1, h2⟩
theorem nd_cells {w : World} {q n : Nat} : ∀ {h : Nat} {l : List Ent}, Nd w h q l n → ∃ A1 c1 A2 n2 c2 A3 n3 c3, w.heap[q]? = some (.cells #[.slice A1 n c1, .slice A2 n2 c2, .slice A3 n3 c3] 39 (0, 0))
  | 0, l, hnd => by
    obtain ⟨e, A1, c1, A2, c2, hh⟩ := hnd
    have := hh.hp
    rw [List.length_map, ← e] at this
    exact ⟨_, _, _, _, _, _, _, _, this⟩
  | h + 1, l, hnd => by
    obtain ⟨qs, ls, hq, hm, hI, hk⟩ := nd_succ.1 hnd
    obtain ⟨A1, c1, A2, c2, hh⟩ := hI
    have h1 := hh.hp
    have h2 := hh.len
    rw [← h2, ← hq] at h1
    exact ⟨_, _, _, _, _, _, _, _, h1⟩
theorem cp_kids {w X : World} {mb n : Nat} : ∀ {h : Nat} {l : List Ent}, CpN w X mb h l n → 0 < n → ∃ C Q cc, X.cell? ⟨mb, 2, none⟩ = some (.slice C Q cc) ∧ (Q = 0 ↔ h = 0)
  | 0, l, hc, h0 => by
    obtain ⟨hn, A, ca, B, cb, hp, _⟩ := hc
    exact ⟨_, _, _, by simp only [World.cell?, hp]; rfl, by simp⟩
  | h + 1, l, hc, h0 => by
    obtain ⟨qs, ls, A, ca, C, cc, hn, rfl, hl, hp, _⟩ := hc
    exact ⟨_, _, _, by simp only [World.cell?, hp]; rfl, by simp; omega⟩
/-- The round of the way down: w5 is the world at hand, the copy comes first, then the row. -/
theorem way_round {w3 X w5 w' : World} {top mb h n k g cg i s q b off cc : Nat} {qs : List Nat} {ls : List (List Ent)} {A : Option Addr} {ca : Nat} {A1 A2 A4 : Option Addr} {c1 n2 c2 n4 c4 : Nat}
    (HM : w3.heap.size ≤ mb ∧ mb < X.heap.size) (HHs : n = qs.length ∧ ls.length = n ∧ n ≤ ca ∧ ca ≤ maxLen ∧ n ≤ cc ∧ cc ≤ maxLen ∧ 2 ≤ n ∧ i + 1 ≤ 4 ∧ k < n) (HNs : n ≤ 4 ∧ h + 1 ≤ 5) (hs : SpotsAt w3 A (ls.map hd)) (hall : All2 (Kid w3 h 2) qs ls) (ha : Asc ls.flatten)
    (hlf : Lift X top mb) (hbr : Below w3.heap.size w3 X) (hx5 : Below X.heap.size X w5)
    (hp : X.heap[mb]? = some (.cells #[.slice A n ca, .slice none 0 0, .slice (some ⟨b, off, none⟩) n cc] 39 (0, 0)))
    (hg : qs.getD k 0 = q) (hq : w3.heap[q]? = some (.cells #[.slice A1 s c1, .slice A2 n2 c2, .slice A4 n4 c4] 39 (0, 0)))
    (hb' : Below (w5.heap.size + 1) ((w5.alloc (.cells #[.slice A1 s c1, .slice A2 n2 c2, .slice A4 n4 c4] 39)).alloc (.cells #[] 36)) w') (hBg : w5.heap.size + 1 ≤ g) (hrow : KRow w' g qs) (hc1 : n ≤ cg) (hc2 : cg ≤ maxLen) :
    WayRel w3 top (.pointer (some ⟨w5.heap.size, 0, none⟩)) (.int .i64 ((i : Int) + 1)) ((w'.setCell ⟨mb, 2, none⟩ (.slice (some ⟨g, 0, none⟩) n cg)).setCell ⟨g, k, none⟩ (.pointer (some ⟨w5.heap.size, 0, none⟩))) := by
  obtain ⟨hn, hls, hca, hcm, hcc, hcn, h2, hi4, hkn⟩ := HHs
  have hX5 := hx5.size
  have hsz := hb'.size
  rw [World.size_alloc, World.size_alloc] at hsz
  have hgw := hrow.lt
  have off1 : ∀ q, q ≠ mb → q ≠ g → ((w'.setCell ⟨mb, 2, none⟩ (.slice (some ⟨g, 0, none⟩) n cg)).setCell ⟨g, k, none⟩ (.pointer (some ⟨w5.heap.size, 0, none⟩))).heap[q]? = w'.heap[q]? := fun q h1 h2 => (set_off _ h2).trans (set_off _ h1)
  have keep : ∀ q, q < w5.heap.size → w'.heap[q]? = w5.heap[q]? := fun q hq => (hb'.block q (by omega)).trans ((alloc_stay _ _ q (by rw [World.size_alloc]; omega)).trans (alloc_stay _ _ q hq))
  have hsY : ((w'.setCell ⟨mb, 2, none⟩ (.slice (some ⟨g, 0, none⟩) n cg)).setCell ⟨g, k, none⟩ (.pointer (some ⟨w5.heap.size, 0, none⟩))).heap.size = w'.heap.size := by simp [World.setCell]
  have bw : ∀ {B : Nat}, B ≤ w5.heap.size → Below B w5 w' := fun {B} hB => (((Below.refl B w5).alloc hB _).alloc (by rw [World.size_alloc]; omega) _).trans (hb'.mono (by omega))
  have hbm : Blk w' mb #[.slice A n ca, .slice none 0 0, .slice (some ⟨b, off, none⟩) n cc] 39 := (keep mb (by omega)).trans ((hx5.block mb HM.2).trans hp)
  refine way_step (X := X) (mb := mb) (qs := qs) (ls := ls) (A := A) (ca := ca) (k := k) (rb := g) (cc := cg) HM.1 HM.2 hn hls hs hall hca hcm h2 HNs.1 HNs.2 ha hlf hbr hkn hi4 ?_ ?_ (fun q hqX hqm => ?_) (by omega) (by rw [hsY]; omega) (by omega) (by omega) ?_ hc1 hc2 ?_ ?_
  · exact ((((hbr.trans (hx5.mono hbr.size)).trans (bw (Nat.le_trans hbr.size hX5))).setCell (p := ⟨mb, 2, none⟩) HM.1 _).setCell (p := ⟨g, k, none⟩) (by have := hbr.size; show _ ≤ g; omega) _)
  · exact ((((hx5.mono (Nat.zero_le _)).trans (bw (Nat.zero_le _))).setCell (p := ⟨mb, 2, none⟩) (Nat.zero_le _) _).setCell (p := ⟨g, k, none⟩) (Nat.zero_le _) _)
  · rw [off1 q hqm (by omega), keep q (by omega), hx5.block q hqX]
  · have h1 := (hbm.set (o := 2) (.slice (some ⟨g, 0, none⟩) n cg)).other (c := g) (o := k) (show mb ≠ g by omega) (.pointer (some ⟨w5.heap.size, 0, none⟩))
    exact h1
  · exact (hrow.stay (set_off _ (show g ≠ mb by omega))).put k (by omega) _
  · rw [off1 _ (by omega) (by omega), hb'.block _ (by omega), alloc_stay _ _ _ (by rw [World.size_alloc]; omega), heap_alloc_new, hg, hq]
/-- Only block mb of X may have changed. -/
structure Off (B : Nat) (X Y : World) (mb : Nat) : Prop where
  size : X.heap.size ≤ Y.heap.size
  keep : ∀ q, q < X.heap.size → q ≠ mb → Y.heap[q]? = X.heap[q]?
  b0 : Below 0 X Y
  bB : Below B X Y
theorem Lift.use {B : Nat} {X Y : World} {top mb : Nat} (h : Lift X top mb) (ho : Off B X Y mb) (hb : Bad Y mb) : Bad Y top := h Y ho.size ho.keep ho.b0 hb
theorem Off.refl (B : Nat) (X : World) (mb : Nat) : Off B X X mb := ⟨Nat.le_refl _, fun _ _ _ => rfl, Below.refl _ _, Below.refl _ _⟩
theorem Off.grow {B : Nat} {X Y Z : World} {mb : Nat} (h : Off B X Y mb) (hB : B ≤ X.heap.size) (hb : Below X.heap.size Y Z) : Off B X Z mb :=
  ⟨Nat.le_trans h.size hb.size, fun q hq hn => (hb.block q hq).trans (h.keep q hq hn), h.b0.trans (hb.mono (Nat.zero_le _)), h.bB.trans (hb.mono hB)⟩
theorem Off.set {B : Nat} {X Y : World} {mb : Nat} (h : Off B X Y mb) (hB : B ≤ mb) (o : Nat) (v : Value) : Off B X (Y.setCell ⟨mb, o, none⟩ v) mb :=
  ⟨by simpa [World.setCell] using h.size, fun q hq hn => (set_off (o := o) v hn).trans (h.keep q hq hn), h.b0.setCell (p := ⟨mb, o, none⟩) (Nat.zero_le _) _, h.bB.setCell (p := ⟨mb, o, none⟩) hB _⟩
/-- The node with rows of its own. -/
structure Own3 (B : Nat) (X Y : World) (mb : Nat) (v1 : Value) (n1 : Nat) (x1 : List Value) (v2 : Value) (n2 : Nat) (x2 : List Value) (v3 : Value) (n3 : Nat) (x3 : List Value) : Prop where
  off : Off B X Y mb
  hp : Blk Y mb #[v1, v2, v3] 39
  p1 : Y.ownsRow X.heap.size 26 4 v1 n1 x1
  p2 : Y.ownsRow X.heap.size 24 1 v2 n2 x2
  p3 : Y.ownsRow X.heap.size 36 1 v3 n3 x3
  d12 : Apt (some (v1, n1, x1)) (some (v2, n2, x2))
  d13 : Apt (some (v1, n1, x1)) (some (v3, n3, x3))
theorem C3.done {B : Nat} {W0 X : World} {mb : Nat} {a b c v1 v2 v3 : Value} {n1 n2 n3 : Nat} {x1 x2 x3 : List Value} (h : C3 W0 X (some (v1, n1, x1)) (some (v2, n2, x2)) (some (v3, n3, x3))) (hm : Blk W0 mb #[a, b, c] 39) (hB : B ≤ mb) :
    Own3 B W0 (((X.setCell ⟨mb, 0, none⟩ v1).setCell ⟨mb, 1, none⟩ v2).setCell ⟨mb, 2, none⟩ v3) mb v1 n1 x1 v2 n2 x2 v3 n3 x3 := by
  have hs : ∀ q, q ≠ mb → (((X.setCell ⟨mb, 0, none⟩ v1).setCell ⟨mb, 1, none⟩ v2).setCell ⟨mb, 2, none⟩ v3).heap[q]? = X.heap[q]? := fun q hq => (set_off (o := 2) v3 hq).trans ((set_off (o := 1) v2 hq).trans (set_off (o := 0) v1 hq))
  have hlt := hm.lt
  have hX := (hm.below h.b hlt)
  refine ⟨((((Off.refl B W0 mb).grow (by omega) h.b).set hB 0 v1).set hB 1 v2).set hB 2 v3, ?_, ?_, ?_, ?_, h.d12, h.d13⟩
  · have := ((hX.set (o := 0) v1).set (o := 1) v2).set (o := 2) v3
    simpa using this
  · exact own_stay h.p1 (fun q hq => hs q (by have := own_ge h.p1 q hq; omega))
  · exact own_stay h.p2 (fun q hq => hs q (by have := own_ge h.p2 q hq; omega))
  · exact own_stay h.p3 (fun q hq => hs q (by have := own_ge h.p3 q hq; omega))
/-- The kinds of a node: a leaf has as many values as keys, one with kids as many kids. -/
def Shp (n V Q : Nat) : Prop := (Q = 0 ∧ V = n) ∨ (V = 0 ∧ Q = n ∧ 2 ≤ n)
/-- A node's cells over an old world. -/
structure MAt (w X : World) (mb : Nat) (ks : List Sp) (vs : List Int) (qs : List Nat) (A : Option Addr) (ca : Nat) (B : Option Addr) (cb : Nat) (C : Option Addr) (cc : Nat) : Prop where
  hp : Blk X mb #[.slice A ks.length ca, .slice B vs.length cb, .slice C qs.length cc] 39
  keys : SpotsAt w A ks
  vals : ValsAt w B vs
  kids : KidsAt w C qs
  na : A = none → ks.length = 0 ∧ ca = 0
  nb : B = none → vs.length = 0 ∧ cb = 0
  nc : C = none → qs.length = 0 ∧ cc = 0
  shp : Shp ks.length vs.length qs.length
  ris : Rising ks
  h1 : 1 ≤ ks.length
  h4 : ks.length ≤ 4
theorem cp_cells {w X : World} {mb n : Nat} : ∀ {h : Nat} {l : List Ent}, CpN w X mb h l n → 0 < n → (0 < h → 2 ≤ n) → n ≤ 4 → Asc l → ∃ ks vs qs A ca B cb C cc, MAt w X mb ks vs qs A ca B cb C cc
  | 0, l, hc, h0, _, h4, ha => by
    obtain ⟨hn, A, ca, B, cb, hp, hs, hv, h1, h2⟩ := hc
    have some_of : ∀ {A : Option Addr} {ks : List Sp}, SpotsAt w A ks → 0 < ks.length → A ≠ none := fun h hl e => by
      obtain ⟨b, off, e2, _⟩ := h hl; rw [e] at e2; cases e2
    refine ⟨l.map (·.1), l.map (·.2), [], A, ca, B, cb, none, 0, ⟨?_, hs, hv, (fun h => by cases h), (fun e => absurd e (some_of hs (by rw [List.length_map]; omega))), (fun e => ?_), (fun _ => ⟨rfl, rfl⟩), .inl ⟨rfl, by rw [List.length_map, List.length_map]⟩, ?_, by rw [List.length_map]; omega, by rw [List.length_map]; omega⟩⟩
    · show X.heap[mb]? = _
      rw [hp, List.length_map, List.length_map, ← hn]; rfl
    · obtain ⟨b, off, e2, _⟩ := hv (by rw [List.length_map]; omega)
      rw [e] at e2; cases e2
    · intro j hj
      rw [List.getElem_map, List.getElem_map]
      unfold Asc at ha
      exact (List.pairwise_iff_getElem.1 ha) j (j + 1) (by rw [List.length_map] at hj; omega) (by simpa using hj) (by omega)
  | h + 1, l, hc, h0, h2, h4, ha => by
    obtain ⟨qs, ls, A, ca, C, cc, hn, rfl, hl, hp, hs, hk, hall, h1, h3, h5, h6⟩ := hc
    have hn2 := h2 (by omega)
    refine ⟨ls.map hd, [], qs, A, ca, none, 0, C, cc, ⟨?_, hs, (fun h => by cases h), hk, (fun e => ?_), (fun _ => ⟨rfl, rfl⟩), (fun e => ?_), .inr ⟨rfl, by rw [List.length_map]; omega, by rw [List.length_map]; omega⟩, ?_, by rw [List.length_map]; omega, by rw [List.length_map]; omega⟩⟩
    · show X.heap[mb]? = _
      rw [hp, List.length_map, hl, ← hn]; rfl
    · obtain ⟨b, off, e2, _⟩ := hs (by rw [List.length_map]; omega)
      rw [e] at e2; cases e2
    · obtain ⟨b, off, e2, _⟩ := hk (by omega)
      rw [e] at e2; cases e2
    · have hne := kids_ne (by decide) hall
      intro j hj
      rw [List.length_map] at hj
      rw [List.getElem_map, List.getElem_map]
      obtain ⟨x, hx, ex⟩ := hd_mem (hne _ (List.getElem_mem (show j < ls.length by omega)))
      obtain ⟨y, hy, ey⟩ := hd_mem (hne _ (List.getElem_mem hj))
      rw [← ex, ← ey]
      exact flat_lt ha (by omega) hj (Nat.lt_succ_self j) x hx y hy
section
variable {Y : World} {mb n V Q ca cb cc : Nat} {A B C : Option Addr} {ks : List Sp}
/-- A number of keys, of values, of kids that does not fit. -/
theorem bad_fit (hm : Blk Y mb #[.slice A n ca, .slice B V cb, .slice C Q cc] 39) (hs : SpotsAt Y A ks) (hn : ks.length = n) (h1 : n ≤ ca) (h2 : ca ≤ maxLen) (hr : Rising ks)
    (hbad : n = 0 ∨ 4 < n ∨ (Q = 0 ∧ V ≠ n) ∨ Q = 1 ∨ (2 ≤ Q ∧ Q ≠ n) ∨ (2 ≤ Q ∧ Q = n ∧ 0 < V)) : Bad Y mb := by
  have c0 : Y.cell? ⟨mb, 0, none⟩ = some (.slice A n ca) := (hm.cell 0).trans rfl
  by_cases h0 : n = 0
  · exact bad_count c0 (.inl h0)
  by_cases h4 : 4 < n
  · exact bad_count c0 (.inr h4)
  subst hn
  refine bad_shape (V := V) (Q := Q) (B := B) (cb := cb) (C := C) (cc := cc) ⟨c0, (hm.cell 1).trans rfl, (hm.cell 2).trans rfl, hs, h1, h2⟩ (by omega) (by omega) hr ?_
  rcases hbad with h | h | h
  · exact absurd h h0
  · exact absurd h h4
  · exact h
/-- The last key twice. -/
theorem bad_twice (hm : Blk Y mb #[.slice A (n + 1) ca, .slice B V cb, .slice C Q cc] 39) (hn : ks.length = n) (h0 : 0 < n) (hs : SpotsAt Y A (ks ++ [ks[n - 1]'(by omega)])) (h1 : n + 1 ≤ ca) (h2 : ca ≤ maxLen) (hr : Rising ks) : Bad Y mb := by
  have c0 : Y.cell? ⟨mb, 0, none⟩ = some (.slice A (n + 1) ca) := (hm.cell 0).trans rfl
  by_cases h4 : 4 < n + 1
  · exact bad_count c0 (.inr h4)
  subst hn
  refine bad_order (V := V) (Q := Q) (B := B) (cb := cb) (C := C) (cc := cc) (ks := ks ++ [ks[ks.length - 1]]) ⟨by rw [List.length_append]; exact c0, (hm.cell 1).trans rfl, (hm.cell 2).trans rfl, hs, by rw [List.length_append]; exact h1, h2⟩ (by simp) (by simp; omega) (ks.length - 1) (by simp; omega) (fun j hj => ?_) ?_
  · rw [List.getElem_append_left (by omega), List.getElem_append_left (by omega)]
    exact hr j (by omega)
  · rw [List.getElem_append_left (by omega)]
    have e : ks.length - 1 + 1 = ks.length := by omega
    simp only [e]
    rw [List.getElem_append_right (Nat.le_refl _)]
    simp [lt_irr]
end
section
variable {B : Nat} {W0 W1 : World} {mb N V K c1 c2 c3 : Nat} {A1 A2 A3 : Option Addr} {ks : List Sp} {x2 x3 : List Value}
/-- What a change behind the node's rows leaves. -/
theorem Own3.grow {v1 v2 v3 : Value} {x1 : List Value} (HO : Own3 B W0 W1 mb v1 N x1 v2 V x2 v3 K x3) (hB : B ≤ W0.heap.size) (hmb : mb < W0.heap.size) {X1 X2 : World} {row : Option Nat} (hb1 : Below W1.heap.size W1 X1) (hg : X1.grownBy X2 row) (hge : ∀ q, row = some q → W0.heap.size ≤ q) :
    Off B W0 X2 mb ∧ Blk X2 mb #[v1, v2, v3] 39 := by
  have hs := HO.off.size
  have hb2 : Below W0.heap.size W1 X2 := (hb1.mono hs).grown hg (Nat.le_trans hs hb1.size) hge
  refine ⟨HO.off.grow hB hb2, (HO.hp.below hb1 HO.hp.lt).kept_row hg (fun e => ?_)⟩
  have := hge mb e.symm
  omega
theorem Own3.keys {v1 v2 v3 : Value} {x1 : List Value} (HO : Own3 B W0 W1 mb v1 N x1 v2 V x2 v3 K x3) {X1 X2 : World} {row : Option Nat} (hb1 : Below W1.heap.size W1 X1) (hg : X1.grownBy X2 row) (hne : ∀ q, v1.ownBlock = some q → row ≠ some q) : X2.ownsRow W0.heap.size 26 4 v1 N x1 :=
  own_stay (own_stay HO.p1 (fun q hq => hb1.block q (own_lt HO.p1 q hq))) (fun q hq => hg.block q (Nat.lt_of_lt_of_le (own_lt HO.p1 q hq) hb1.size) (fun e => hne q hq e.symm))
/-- The keys' row lies as it lay where the node alone is written. -/
theorem keys_set {Y : World} {v1 : Value} (hp : Y.ownsRow W0.heap.size 26 4 v1 ks.length (sps ks)) (hmb : mb < W0.heap.size) (o : Nat) (v : Value) : (Y.setCell ⟨mb, o, none⟩ v).ownsRow W0.heap.size 26 4 v1 ks.length (sps ks) :=
  own_stay hp (fun q hq => set_off v (by have := own_ge hp q hq; omega))
theorem spots_of {w : World} {B N c : Nat} {A : Option Addr} {ks : List Sp} (h : w.ownsRow B 26 4 (.slice A N c) N (sps ks)) (hn : ks.length = N) : SpotsAt w A ks ∧ N ≤ c ∧ c ≤ maxLen := by
  subst hn
  obtain ⟨A', c', e, h1, h2, hs⟩ := spots_own h
  cases e
  exact ⟨hs, h1, h2⟩
variable (HO : Own3 B W0 W1 mb (.slice A1 N c1) N (sps ks) (.slice A2 V c2) V x2 (.slice A3 K c3) K x3) (hB : B ≤ W0.heap.size) (hBm : B ≤ mb) (hmb : mb < W0.heap.size) (hn : ks.length = N) (hr : Rising ks) (hs : Shp N V K) (h1 : 1 ≤ N)
include HO hB hBm hmb hn hr hs h1
/-- A value more. -/
theorem sp_val {X1 X2 : World} (hb1 : Below W1.heap.size W1 X1) (hg : X1.grownBy X2 (Value.slice A2 V c2).ownBlock) (A' : Option Addr) (c' : Nat) :
    Off B W0 (X2.setCell ⟨mb, 1, none⟩ (.slice A' (V + 1) c')) mb ∧ Bad (X2.setCell ⟨mb, 1, none⟩ (.slice A' (V + 1) c')) mb := by
  obtain ⟨ho, hb⟩ := HO.grow hB hmb hb1 hg (own_ge HO.p2)
  have hk := HO.keys hb1 hg (fun q hq => HO.d12 q hq)
  subst hn
  obtain ⟨hsp, ha, hb2⟩ := spots_of (keys_set hk hmb 1 (.slice A' (V + 1) c')) rfl
  refine ⟨ho.set hBm 1 _, bad_fit (Y := X2.setCell ⟨mb, 1, none⟩ (.slice A' (V + 1) c')) (A := A1) (ks := ks) (B := A') (C := A3) (Q := K) (V := V + 1) (hb.set (o := 1) _) hsp rfl ha hb2 hr ?_⟩
  unfold Shp at hs
  omega
/-- A kid more. -/
theorem sp_kid {X1 X2 : World} (hb1 : Below W1.heap.size W1 X1) (hg : X1.grownBy X2 (Value.slice A3 K c3).ownBlock) (A' : Option Addr) (c' : Nat) :
    Off B W0 (X2.setCell ⟨mb, 2, none⟩ (.slice A' (K + 1) c')) mb ∧ Bad (X2.setCell ⟨mb, 2, none⟩ (.slice A' (K + 1) c')) mb := by
  obtain ⟨ho, hb⟩ := HO.grow hB hmb hb1 hg (own_ge HO.p3)
  have hk := HO.keys hb1 hg (fun q hq => HO.d13 q hq)
  subst hn
  obtain ⟨hsp, ha, hb2⟩ := spots_of (keys_set hk hmb 2 (.slice A' (K + 1) c')) rfl
  refine ⟨ho.set hBm 2 _, bad_fit (Y := X2.setCell ⟨mb, 2, none⟩ (.slice A' (K + 1) c')) (A := A1) (ks := ks) (B := A2) (C := A') (Q := K + 1) (V := V) (hb.set (o := 2) _) hsp rfl ha hb2 hr ?_⟩
  unfold Shp at hs
  omega
/-- The last key twice. -/
theorem sp_key {X1 X2 : World} (hb1 : Below W1.heap.size W1 X1) (hg : X1.grownBy X2 (Value.slice A1 N c1).ownBlock) (A' : Option Addr) (c' : Nat) {x : Sp} (hx : x = ks[N - 1]'(by omega)) (ho2 : X2.ownsRow W0.heap.size 26 4 (.slice A' (N + 1) c') (N + 1) (sps (ks ++ [x]))) :
    Off B W0 (X2.setCell ⟨mb, 0, none⟩ (.slice A' (N + 1) c')) mb ∧ Bad (X2.setCell ⟨mb, 0, none⟩ (.slice A' (N + 1) c')) mb := by
  obtain ⟨ho, hb⟩ := HO.grow hB hmb hb1 hg (own_ge HO.p1)
  subst hx
  have hln : (ks ++ [ks[N - 1]'(by omega)]).length = N + 1 := by simp; exact hn
  have hst : (X2.setCell ⟨mb, 0, none⟩ (.slice A' (N + 1) c')).ownsRow W0.heap.size 26 4 (.slice A' (N + 1) c') (N + 1) (sps (ks ++ [ks[N - 1]'(by omega)])) := own_stay ho2 (fun q hq => set_off _ (by have := own_ge ho2 q hq; omega))
  obtain ⟨hsp, ha, hb2⟩ := spots_of hst hln
  exact ⟨ho.set hBm 0 _, bad_twice (A := A') (B := A2) (C := A3) (Q := K) (V := V) (hb.set (o := 0) _) hn (by omega) hsp ha hb2 hr⟩
/-- A key less. -/
theorem sp_less {X1 : World} (hb1 : Below W1.heap.size W1 X1) (M : Nat) (hM : N = M + 1) (A' : Option Addr) (hA' : 0 < M → A' = A1) (c' : Nat) (hc' : M ≤ c' ∧ c' ≤ maxLen) :
    Off B W0 (X1.setCell ⟨mb, 0, none⟩ (.slice A' M c')) mb ∧ Bad (X1.setCell ⟨mb, 0, none⟩ (.slice A' M c')) mb := by
  have ho := HO.off.grow hB (hb1.mono HO.off.size)
  have hb := HO.hp.below hb1 HO.hp.lt
  have hk : X1.ownsRow W0.heap.size 26 4 (.slice A1 N c1) N (sps ks) := own_stay HO.p1 (fun q hq => hb1.block q (own_lt HO.p1 q hq))
  subst hn
  obtain ⟨hsp, ha, hb2⟩ := spots_of (keys_set hk hmb 0 (.slice A' M c')) rfl
  have hsp2 : SpotsAt (X1.setCell ⟨mb, 0, none⟩ (.slice A' M c')) A' (ks.take M) := fun hl => by
    rw [List.length_take] at hl
    have e0 := hA' (by omega)
    obtain ⟨b, off, e, hlt, hc⟩ := hsp (by omega)
    refine ⟨b, off, e0.trans e, hlt, fun j hj => ?_⟩
    rw [List.length_take] at hj
    rw [List.getElem_take]
    exact hc j (by omega)
  have hr2 : Rising (ks.take M) := fun j hj => by
    rw [List.length_take] at hj
    rw [List.getElem_take, List.getElem_take]
    exact hr j (by omega)
  refine ⟨ho.set hBm 0 _, bad_fit (Y := X1.setCell ⟨mb, 0, none⟩ (.slice A' M c')) (n := M) (A := A') (ks := ks.take M) (B := A2) (C := A3) (Q := K) (V := V) (hb.set (o := 0) _) hsp2 (by rw [List.length_take]; omega) hc'.1 hc'.2 hr2 ?_⟩
  unfold Shp at hs
  omega
/-- Nothing at all. -/
theorem sp_nil : Off B W0 (((W1.setCell ⟨mb, 0, none⟩ (.slice none 0 0)).setCell ⟨mb, 1, none⟩ (.slice none 0 0)).setCell ⟨mb, 2, none⟩ (.slice none 0 0)) mb ∧ Bad (((W1.setCell ⟨mb, 0, none⟩ (.slice none 0 0)).setCell ⟨mb, 1, none⟩ (.slice none 0 0)).setCell ⟨mb, 2, none⟩ (.slice none 0 0)) mb := by
  refine ⟨((HO.off.set hBm 0 _).set hBm 1 _).set hBm 2 _, bad_count (A := none) (N := 0) (ca := 0) ?_ (.inl rfl)⟩
  exact ((((HO.hp.set (o := 0) (.slice none 0 0)).set (o := 1) (.slice none 0 0)).set (o := 2) (.slice none 0 0)).cell 0).trans rfl
end
theorem app_U1 {w : World} (B : Nat) (v : Value) (n : Nat) (xs : List Value) (hown : w.ownsRow B 24 1 v n xs) (hB : B ≤ w.heap.size) (hn : n ≤ 1000) (x : Int) (ty : TypeId) :
    ∃ A' c' w', (Builtin.append_ #[32, 32] ty #[v, .slice (some ⟨w.heap.size, 0, none⟩) 1 1]).run Try.prog (w.alloc (.cells #[.int .u64 x] 24)) = .ok (.slice A' (n + 1) c') w' ∧ (w.alloc (.cells #[.int .u64 x] 24)).grownBy w' v.ownBlock := by
  obtain ⟨i0, hi0, hz0, hz1, hz2⟩ := info_parts infoU
  have ho : (w.alloc (.cells #[.int .u64 x] 24)).ownsRow B 24 1 v n xs := own_stay hown (fun q hq => alloc_stay w _ q (own_lt hown q hq))
  have hc : (w.alloc (.cells #[.int .u64 x] 24)).cell? ⟨w.heap.size, 0, none⟩ = some (.int .u64 x) := ((Blk.new w #[.int .u64 x] 24).cell 0).trans rfl
  obtain ⟨v', w', r1, r2, r3, _, r4⟩ := run_append_own_at (P := Try.prog) (w.alloc (.cells #[.int .u64 x] 24)) B 32 ty 24 i0 (.int .u64 0) 1 8 Try.underlying32 hi0 hz0 hz1 hz2 rfl (by decide) v n xs ho ⟨w.heap.size, 0, none⟩ 1 1 [.int .u64 x] rfl (fun j u hj => by
    obtain ⟨hj1, hj2⟩ := List.getElem?_eq_some_iff.1 hj
    obtain rfl : j = 0 := by simpa using hj1
    simp at hj2
    rw [← hj2]
    exact hc) (by simp [Value.oneCell']) (by simp only [maxLen]; omega) (by omega) (by rw [World.size_alloc]; omega)
  have hf : ∃ A' c', v' = .slice A' (n + 1) c' := by
    rcases r2.2 with ⟨rfl, e⟩ | ⟨g, cap, cur, rfl, _⟩
    · exact ⟨none, 0, by rw [e]⟩
    · exact ⟨_, cap, rfl⟩
  obtain ⟨A', c', rfl⟩ := hf
  exact ⟨A', c', w', r1, r3⟩
theorem app_K1 {w : World} (B : Nat) (v : Value) (n : Nat) (xs : List Value) (hown : w.ownsRow B 36 1 v n xs) (hB : B ≤ w.heap.size) (hn : n ≤ 1000) (ty : TypeId) :
    ∃ A' c' w', (Builtin.append_ #[37, 37] ty #[v, .slice (some ⟨w.heap.size, 0, none⟩) 1 1]).run Try.prog (w.alloc (.cells #[.pointer none] 36)) = .ok (.slice A' (n + 1) c') w' ∧ (w.alloc (.cells #[.pointer none] 36)).grownBy w' v.ownBlock := by
  obtain ⟨i0, hi0, hz0, hz1, hz2⟩ := info_parts infoK
  have ho : (w.alloc (.cells #[.pointer none] 36)).ownsRow B 36 1 v n xs := own_stay hown (fun q hq => alloc_stay w _ q (own_lt hown q hq))
  have hc : (w.alloc (.cells #[.pointer none] 36)).cell? ⟨w.heap.size, 0, none⟩ = some (.pointer none) := ((Blk.new w #[.pointer none] 36).cell 0).trans rfl
  obtain ⟨v', w', r1, r2, r3, _, r4⟩ := run_append_own_at (P := Try.prog) (w.alloc (.cells #[.pointer none] 36)) B 37 ty 36 i0 (.pointer none) 1 8 Try.underlying37 hi0 hz0 hz1 hz2 rfl (by decide) v n xs ho ⟨w.heap.size, 0, none⟩ 1 1 [.pointer none] rfl (fun j u hj => by
    obtain ⟨hj1, hj2⟩ := List.getElem?_eq_some_iff.1 hj
    obtain rfl : j = 0 := by simpa using hj1
    simp at hj2
    rw [← hj2]
    exact hc) (by simp [Value.oneCell']) (by simp only [maxLen]; omega) (by omega) (by rw [World.size_alloc]; omega)
  have hf : ∃ A' c', v' = .slice A' (n + 1) c' := by
    rcases r2.2 with ⟨rfl, e⟩ | ⟨g, cap, cur, rfl, _⟩
    · exact ⟨none, 0, by rw [e]⟩
    · exact ⟨_, cap, rfl⟩
  obtain ⟨A', c', rfl⟩ := hf
  exact ⟨A', c', w', r1, r3⟩
end Go.Proofs.Ytainljbkejafcaa.N

/- append to a row of kids, as a run. -/
namespace Go.Proofs.Ytainljbkejafcaa.N
open Go.RowKit Go.Proofs.YtainljbkejafcaaW.PrintMore Go.Proofs.YtainljbkejafcaaW.PrintWords
set_option linter.unusedVariables false
set_option linter.unusedSimpArgs false
/-- append to the row of the next level. -/
theorem app_K_run {w : World} (B : Nat) (v : Value) (n : Nat) (xs : List Nat) (hown : w.ownsRow B 36 1 v n (kps xs))
    (A : Option Addr) (m c : Nat) (ys : List Nat) (hy : ys.length = m) (hA : KidsAt w A ys) (h0 : A = none → m = 0 ∧ c = 0) (r : Nat) (hr : n + m = r) (hb : r ≤ 1000000) (hB : B ≤ w.heap.size) (ty : TypeId) :
    ∃ v' w', (Builtin.append_ #[37, 37] ty #[v, .slice A m c]).run Try.prog w = .ok v' w' ∧ w'.ownsRow B 36 1 v' r (kps (xs ++ ys)) ∧ Below B w w' := by
  obtain ⟨i0, hi0, hz0, hz1, hz2⟩ := info_parts infoK
  subst hy hr
  rw [kps_app]
  cases A with
  | none =>
    obtain ⟨e1, rfl⟩ := h0 rfl
    obtain rfl := List.eq_nil_of_length_eq_zero e1
    exact ⟨v, w, run_append_owned_none w B 37 ty 36 i0 1 Try.underlying37 hi0 v n (kps xs) hown, by simpa [kps] using hown, Below.refl _ _⟩
  | some ad =>
    obtain ⟨v', w', r1, r2, r3, _, r4⟩ := run_append_own_at (P := Try.prog) w B 37 ty 36 i0 (.pointer none) 1 8 Try.underlying37 hi0 hz0 hz1 hz2 rfl (by decide) v n (kps xs) hown ad ys.length c (kps ys) (by rw [kps_len1]) (fun j u hj => by
      have hpos : 0 < ys.length := by
        have := (List.getElem?_eq_some_iff.1 hj).1
        rw [kps_len1] at this; omega
      obtain ⟨b, off, e, hlt, hc⟩ := hA hpos
      cases e
      exact kids_cells hc j u hj) (kps_one ys) (by simp only [maxLen]; omega) (by omega) hB
    exact ⟨v', w', r1, r2, (Below.refl B w).grown r3 hB (own_ge hown)⟩
end Go.Proofs.Ytainljbkejafcaa.N
