/- The walk of same: a tree and a list hold the same. -/
import Derived.Test.YtjeebbolnanmkaaNFrame
import Derived.Test.YtjeebbolnanmkaaNLay2
import Derived.Test.YtjeebbolnanmkaaNEq
namespace Go.Proofs.Ytjeebbolnanmkaa.N
open Go.RowKit Go.Proofs.YtjeebbolnanmkaaW.PrintMore Go.Proofs.YtjeebbolnanmkaaW.PrintWords
set_option linter.unusedVariables false
set_option linter.unusedSimpArgs false
theorem list_new (w : World) : ListE (w.alloc (.cells #[.slice none 0 0, .slice none 0 0] 34)) w.heap.size [] :=
  ⟨.slice none 0 0, .slice none 0 0, heap_alloc_new w _, ⟨rfl, .inl ⟨rfl, rfl⟩⟩, ⟨rfl, .inl ⟨rfl, rfl⟩⟩, rfl, Nat.lt_succ_self _, fun q hq => by cases hq⟩
def LayE (w : World) (L : Nat) (l : List Ent) (e : Ending) (w' : World) : Prop := (∃ h : Nat, e = .returned (.int .i64 ((h : Int) + 1))) ∧ ListE w' L l ∧ Below L w w'
/-- lay of a root onto a fresh list. -/
theorem lay_root {w0 X : World} {p h n L : Nat} {l : List Ent} (hn : Nd w0 h p l n) (h0 : 0 < n) (h2 : 0 < h → 2 ≤ n) (h4 : n ≤ 4) (hL : w0.heap.size ≤ L) (hb : Below w0.heap.size w0 X) (hX : ListE X L []) (hl : l.length ≤ 400) (ha : Asc l) :
    Calls Try.prog 25 #[.pointer (some ⟨p, 0, none⟩), .bool true, .int .i64 12, .pointer (some ⟨L, 0, none⟩)] X (LayE X L l) := by
  obtain ⟨kv, vv, hX⟩ := hX
  have hp := hn.high h0 h2
  have hh : h ≤ 11 := by
    refine Nat.le_of_not_lt fun hc => ?_
    have : 2 ^ 12 ≤ 2 ^ h := Nat.pow_le_pow_right (by decide) (by omega)
    omega
  have hXz := hX.lt
  have := lay_nd h (D := 11) (root := true) hn (by rw [if_pos rfl]; exact h0) h2 h4 (Nat.lt_succ_self L) hXz hL hb hX (by simpa using hl) hh (by omega) (fun x hx => by cases hx) ha
  refine this.mono fun e w' hp => ?_
  obtain ⟨a, ⟨kv', vv', b⟩, c, _⟩ := hp
  exact ⟨⟨h, a⟩, ⟨kv', vv', by simpa using b⟩, c⟩
theorem list_cell {w : World} {L N : Nat} {l : List Ent} (h : ListE w L l) (hN : l.length = N) : ∃ A c, w.cell? ⟨L, 0, none⟩ = some (.slice A N c) := by
  obtain ⟨kv, vv, h⟩ := h
  obtain ⟨A, c, e, _⟩ := spots_own h.keys
  rw [List.length_map, hN] at e
  exact ⟨A, c, by have := h.hp; simp only [World.cell?, this, e]; rfl⟩
theorem list_get {w : World} {L N j : Nat} {l : List Ent} (h : ListE w L l) (hN : l.length = N) (hj : j < N) : ∃ b off c b' off' c', w.cell? ⟨L, 0, none⟩ = some (.slice (some ⟨b, off, none⟩) N c) ∧ w.cell? ⟨L, 1, none⟩ = some (.slice (some ⟨b', off', none⟩) N c') ∧ SpAt w b (off + j * 4) (l[j]'(by omega)).1 ∧ w.cell? ⟨b', off' + j, none⟩ = some (.int .u64 (l[j]'(by omega)).2) := by
  obtain ⟨kv, vv, h⟩ := h
  obtain ⟨A, c, e, _, _, hs⟩ := spots_own h.keys
  obtain ⟨A', c', e', _, _, hv⟩ := vals_own h.vals
  obtain ⟨b, off, rfl, _, hs⟩ := hs (by rw [List.length_map]; omega)
  obtain ⟨b', off', rfl, _, hv⟩ := hv (by rw [List.length_map]; omega)
  rw [List.length_map, hN] at e e'
  have hp := h.hp
  have s := hs j (by rw [List.length_map]; omega)
  have v := hv j (by rw [List.length_map]; omega)
  rw [List.getElem_map] at s v
  exact ⟨b, off, c, b', off', c', by simp only [World.cell?, hp, e]; rfl, by simp only [World.cell?, hp, e']; rfl, s, v⟩
/-- A list that is only read: where its rows lie does not matter. -/
def ListR (w : World) (L : Nat) (l : List Ent) : Prop := ∃ A c A' c', w.cell? ⟨L, 0, none⟩ = some (.slice A l.length c) ∧ w.cell? ⟨L, 1, none⟩ = some (.slice A' l.length c') ∧ SpotsAt w A (l.map (·.1)) ∧ ValsAt w A' (l.map (·.2))
theorem ListE.R {w : World} {L : Nat} {l : List Ent} (h : ListE w L l) : ListR w L l := by
  obtain ⟨kv, vv, h⟩ := h
  obtain ⟨A, c, e, _, _, hs⟩ := spots_own h.keys
  obtain ⟨A', c', e', _, _, hv⟩ := vals_own h.vals
  rw [List.length_map] at e e'
  have hp := h.hp
  exact ⟨A, c, A', c', by simp only [World.cell?, hp, e]; rfl, by simp only [World.cell?, hp, e']; rfl, hs, hv⟩
theorem ListR.lt {w : World} {L : Nat} {l : List Ent} (h : ListR w L l) : L < w.heap.size := by
  obtain ⟨A, c, A', c', e, _⟩ := h
  exact World.block_lt_of_cell? _ _ e
theorem ListR.below {w w' : World} {L : Nat} {l : List Ent} (h : ListR w L l) (hb : Below w.heap.size w w') : ListR w' L l := by
  have hL := h.lt
  obtain ⟨A, c, A', c', e, e', hs, hv⟩ := h
  exact ⟨A, c, A', c', (hb.cell (p := ⟨L, 0, none⟩) hL).trans e, (hb.cell (p := ⟨L, 1, none⟩) hL).trans e', hs.below hb, hv.below hb⟩
theorem listR_get {w : World} {L N j : Nat} {l : List Ent} (h : ListR w L l) (hN : l.length = N) (hj : j < N) : ∃ b off c b' off' c', w.cell? ⟨L, 0, none⟩ = some (.slice (some ⟨b, off, none⟩) N c) ∧ w.cell? ⟨L, 1, none⟩ = some (.slice (some ⟨b', off', none⟩) N c') ∧ SpAt w b (off + j * 4) (l[j]'(by omega)).1 ∧ w.cell? ⟨b', off' + j, none⟩ = some (.int .u64 (l[j]'(by omega)).2) := by
  obtain ⟨A, c, A', c', e, e', hs, hv⟩ := h
  obtain ⟨b, off, rfl, _, hs⟩ := hs (by rw [List.length_map]; omega)
  obtain ⟨b', off', rfl, _, hv⟩ := hv (by rw [List.length_map]; omega)
  rw [hN] at e e'
  have s := hs j (by rw [List.length_map]; omega)
  have v := hv j (by rw [List.length_map]; omega)
  rw [List.getElem_map] at s v
  exact ⟨b, off, c, b', off', c', e, e', s, v⟩
theorem lvl_ne (h : Nat) : ((h : Int) + 1 == 0) = false := by rw [beq_eq_false_iff_ne]; omega
def SameRel (w : World) (L L2 N : Nat) (i : Value) (wr : World) : Prop := ∃ j : Nat, i = .int .i64 j ∧ j ≤ N ∧ Below w.heap.size w wr
set_option maxHeartbeats 3200000 in
set_option maxRecDepth 100000 in
theorem same_nil {w : World} {L : Nat} (hlist : ListR w L []) : Calls Try.prog 24 #[.pointer none, .pointer (some ⟨L, 0, none⟩)] w fun e w' => e = .returned (.int .i64 1) ∧ Below w.heap.size w w' := by
  obtain ⟨A, c, A', c', lc, _⟩ := hlist
  rw [List.length_nil] at lc
  go_enter Try.func24, Try.ntmps24
  go_wp2_with fail
  go_ret
  exact ⟨rfl, Below.refl _ _⟩
set_option maxHeartbeats 3200000 in
set_option maxRecDepth 100000 in
theorem same_node {w : World} {p h n L : Nat} {l : List Ent} (hn : Nd w h p l n) (h0 : 0 < n) (h2 : 0 < h → 2 ≤ n) (h4 : n ≤ 4) (hlist : ListR w L l) (hl : l.length ≤ 400) (ha : Asc l) :
    Calls Try.prog 24 #[.pointer (some ⟨p, 0, none⟩), .pointer (some ⟨L, 0, none⟩)] w fun e w' => e = .returned (.int .i64 1) ∧ Below w.heap.size w w' := by
  have HLay : Hid (∀ X, Below w.heap.size w X → ListE X w.heap.size [] → Calls Try.prog 25 #[.pointer (some ⟨p, 0, none⟩), .bool true, .int .i64 12, .pointer (some ⟨w.heap.size, 0, none⟩)] X (LayE X w.heap.size l)) := fun X hX hl0 => lay_root hn h0 h2 h4 (Nat.le_refl _) hX hl0 hl ha
  have HLs := Lib.hid hlist
  have lLt := hlist.lt
  obtain ⟨A1, ca1, _, _, lc, _, _, _⟩ := hlist
  clear hn h0 h2 h4 ha
  obtain ⟨N, hN⟩ : ∃ N, l.length = N := ⟨_, rfl⟩
  have HN := Lib.hid hN
  rw [hN] at lc hl
  clear hN
  go_enter Try.func24, Try.ntmps24
  go_wp2_with fail
  have hnew := list_new w
  have hbw : Below w.heap.size w (w.alloc (.cells #[.slice none 0 0, .slice none 0 0] 34)) := (Below.refl _ _).alloc (Nat.le_refl _) _
  have HL0 := HLay.out _ (hbw.trans (bel_drewN _ _ (n := 1))) (hnew.below (bel_drewN _ _ (n := 1)))
  have lc2 := (hbw.cell (p := ⟨L, 0, none⟩) lLt).trans lc
  have lLt2 : L < (w.alloc (.cells #[.slice none 0 0, .slice none 0 0] 34)).heap.size := Nat.lt_of_lt_of_le lLt hbw.size
  have HL1 := Lib.hid HL0
  have HBw := Lib.hid hbw
  clear hnew hbw HLay lc HL0
  generalize hP : w.heap.size = L2 at *
  have HP := Lib.hid hP
  clear hP
  generalize w.alloc (.cells #[.slice none 0 0, .slice none 0 0] 34) = W at *
  have lL2 : L < L2 := lLt
  have d4 : ((N : Int) != (N : Int)) = false := by simp
  go_cut [33] (fun s wx => s = .bool false ∧ Below L2 W wx ∧ ListE wx L2 l)
  case first =>
    go_region_with
      (first
      | (go_at_call 25; refine HL1.out.mono ?_; rintro e w5 ⟨⟨h, rfl⟩, hl5, hb5⟩; have lc5 := (hb5.cell (p := ⟨L, 0, none⟩) lL2).trans lc2; obtain ⟨A5, c5, lc6⟩ := list_cell hl5 HN.out; have f4 := lvl_ne h))
    all_goals go_wp2_with fail
    all_goals go_meet
    all_goals exact ⟨rfl, (bel_drewN _ _).trans hb5, hl5⟩
  case rest =>
  obtain ⟨rfl, hb5, hl5⟩ := hcut
  have hbA : Below w.heap.size w wc := by rw [HP.out]; exact HBw.out.trans hb5
  have HA := Lib.hid hbA
  have HM : Hid (ListR wc L l) := HLs.out.below hbA
  have HM2 := Lib.hid hl5
  clear hbA hl5 hb5 HL1 HLs HBw lc2
  go_wp2_with fail
  go_loopw [6] (fun i wr => ∃ j : Nat, i = .int .i64 j ∧ j ≤ N ∧ Below wc.heap.size wc wr) (fun i _ => (N - intOf i).toNat)
  case atStart => exact ⟨0, rfl, Nat.zero_le _, Below.refl _ _⟩
  case round =>
    obtain ⟨j, rfl, hj, hbr⟩ := hrel
    by_cases hjn : j < N
    · obtain ⟨b, off, c, b', off', c', x0, x1, ⟨x2, x3, x4, x5⟩, x6⟩ := listR_get (HM.out.below hbr) HN.out hjn
      obtain ⟨g, og, cg, g', og', cg', y0, y1, ⟨y2, y3, y4, y5⟩, y6⟩ := list_get (HM2.out.below hbr) HN.out hjn
      generalize l[j]'(_) = z at *
      have HNe : ∀ W, _ := fun W => by have := sp_ne z.1 z.1 W; rw [show (!decide (z.1 = z.1)) = false by simp] at this; exact this
      have e1 : (0 : Int) ≤ (j : Int) := by omega
      have e2 : (j : Int) < (N : Int) := by omega
      have e3 : (z.2 != z.2) = false := by simp
      have HB := Lib.hid hbr
      clear hbr
      go_wp2_with fail
      go_quiet (fail)
      go_wp2_with fail
      go_roundw
      case rel => exact ⟨j + 1, by simp, hjn, HB.out.trans (bel_drewN _ _)⟩
      case measure => (simp [intOf] <;> omega)
    · obtain rfl : j = N := by omega
      obtain ⟨A6, c6, lc7⟩ := list_cell (HM2.out.below hbr) HN.out
      have HB := Lib.hid hbr
      clear hbr
      go_wp2_with fail
      go_ret
      exact ⟨rfl, HA.out.trans (HB.out.mono HA.out.size)⟩
theorem sameR_at {w : World} {r : Option Addr} {L : Nat} {l : List Ent} (hr : RootAt w r l) (hlist : ListR w L l) (hl : l.length ≤ 400) (ha : Asc l) :
    Calls Try.prog 24 #[.pointer r, .pointer (some ⟨L, 0, none⟩)] w fun e w' => e = .returned (.int .i64 1) ∧ Below w.heap.size w w' := by
  rcases hr with ⟨rfl, rfl⟩ | ⟨q, h, n, rfl, hn, h0, h2, h4⟩
  · exact same_nil hlist
  · exact same_node hn h0 h2 h4 hlist hl ha
theorem same_at {w : World} {r : Option Addr} {L : Nat} {l : List Ent} (hr : RootAt w r l) (hlist : ListE w L l) (hl : l.length ≤ 400) (ha : Asc l) :
    Calls Try.prog 24 #[.pointer r, .pointer (some ⟨L, 0, none⟩)] w fun e w' => e = .returned (.int .i64 1) ∧ Below w.heap.size w w' :=
  sameR_at hr hlist.R hl ha
end Go.Proofs.Ytjeebbolnanmkaa.N
