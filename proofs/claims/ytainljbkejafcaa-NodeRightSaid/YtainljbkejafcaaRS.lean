/- RS: joined by merge.py. -/
import Derived.Test.YtainljbkejafcaaRP
import Derived.Test.YtainljbkejafcaaNLay2
import Derived.Test.YtainljbkejafcaaNEq
import Derived.Lib.Builder
/- The walk of same: a tree and a list hold the same. -/
namespace Go.Proofs.Ytainljbkejafcaa.N
open Go.RowKit Go.Proofs.YtainljbkejafcaaW.PrintMore Go.Proofs.YtainljbkejafcaaW.PrintWords
set_option linter.unusedVariables false
set_option linter.unusedSimpArgs false
theorem list_new (w : World) : ListE (w.alloc (.cells #[.slice none 0 0, .slice none 0 0] 34)) w.heap.size [] :=
  ⟨.slice none 0 0, .slice none 0 0, heap_alloc_new w _, ⟨rfl, .inl ⟨rfl, rfl⟩⟩, ⟨rfl, .inl ⟨rfl, rfl⟩⟩, rfl, Nat.lt_succ_self _, fun q hq => by cases hq⟩
def LayE (w : World) (L : Nat) (l : List Ent) (e : Ending) (w' : World) : Prop := (∃ h : Nat, e = .returned (.int .i64 ((h : Int) + 1))) ∧ ListE w' L l ∧ Below L w w'
/-- lay of a root onto a fresh list. -/
theorem lay_root {w0 X : World} {p h n L : Nat} {l : List Ent} (hn : Nd w0 h p l n) (h0 : 0 < n) (h2 : 0 < h → 2 ≤ n) (h4 : n ≤ 4) (hL : w0.heap.size ≤ L) (hb : Below w0.heap.size w0 X) (hX : ListE X L []) (hl : l.length ≤ 400) (ha : Asc l) :
    Calls Try.prog 32 #[.pointer (some ⟨p, 0, none⟩), .bool true, .int .i64 12, .pointer (some ⟨L, 0, none⟩)] X (LayE X L l) := by
  obtain ⟨kv, vv, hX⟩ := hX
  have hp := hn.high h0 h2
  have hh : h ≤ 11 := by
    refine Nat.le_of_not_lt fun hc => ?_
    have : 2 ^ 12 ≤ 2 ^ h := Nat.pow_le_pow_right (by decide) (by omega)
    omega
  have hXz := hX.lt
  have := lay_nd h (D := 11) (root := true) hn (by rw [if_pos rfl]; exact h0) h2 h4 (Nat.lt_succ_self L) hXz hL hb hX (by simpa using hl) hh (by omega) (fun x hx => by cases hx) ha
  refine this.mono fun e w' hp => ?_
  obtain ⟨a, ⟨kv', vv', b⟩, c, _⟩ := hp
  exact ⟨⟨h, a⟩, ⟨kv', vv', by simpa using b⟩, c⟩
theorem list_cell {w : World} {L N : Nat} {l : List Ent} (h : ListE w L l) (hN : l.length = N) : ∃ A c, w.cell? ⟨L, 0, none⟩ = some (.slice A N c) := by
  obtain ⟨kv, vv, h⟩ := h
  obtain ⟨A, c, e, _⟩ := spots_own h.keys
  rw [List.length_map, hN] at e
  exact ⟨A, c, by have := h.hp; simp only [World.cell?, this, e]; rfl⟩
theorem list_get {w : World} {L N j : Nat} {l : List Ent} (h : ListE w L l) (hN : l.length = N) (hj : j < N) : ∃ b off c b' off' c', w.cell? ⟨L, 0, none⟩ = some (.slice (some ⟨b, off, none⟩) N c) ∧ w.cell? ⟨L, 1, none⟩ = some (.slice (some ⟨b', off', none⟩) N c') ∧ SpAt w b (off + j * 4) (l[j]'(by omega)).1 ∧ w.cell? ⟨b', off' + j, none⟩ = some (.int .u64 (l[j]'(by omega)).2) := by
  obtain ⟨kv, vv, h⟩ := h
  obtain ⟨A, c, e, _, _, hs⟩ := spots_own h.keys
  obtain ⟨A', c', e', _, _, hv⟩ := vals_own h.vals
  obtain ⟨b, off, rfl, _, hs⟩ := hs (by rw [List.length_map]; omega)
  obtain ⟨b', off', rfl, _, hv⟩ := hv (by rw [List.length_map]; omega)
  rw [List.length_map, hN] at e e'
  have hp := h.hp
  have s := hs j (by rw [List.length_map]; omega)
  have v := hv j (by rw [List.length_map]; omega)
  rw [List.getElem_map] at s v
  exact ⟨b, off, c, b', off', c', by simp only [World.cell?, hp, e]; rfl, by simp only [World.cell?, hp, e']; rfl, s, v⟩
/-- A list that is only read: where its rows lie does not matter. -/
def ListR (w : World) (L : Nat) (l : List Ent) : Prop := ∃ A c A' c', w.cell? ⟨L, 0, none⟩ = some (.slice A l.length c) ∧ w.cell? ⟨L, 1, none⟩ = some (.slice A' l.length c') ∧ SpotsAt w A (l.map (·.1)) ∧ ValsAt w A' (l.map (·.2))
theorem ListE.R {w : World} {L : Nat} {l : List Ent} (h : ListE w L l) : ListR w L l := by
  obtain ⟨kv, vv, h⟩ := h
  obtain ⟨A, c, e, _, _, hs⟩ := spots_own h.keys
  obtain ⟨A', c', e', _, _, hv⟩ := vals_own h.vals
  rw [List.length_map] at e e'
  have hp := h.hp
  exact ⟨A, c, A', c', by simp only [World.cell?, hp, e]; rfl, by simp only [World.cell?, hp, e']; rfl, hs, hv⟩
theorem ListR.lt {w : World} {L : Nat} {l : List Ent} (h : ListR w L l) : L < w.heap.size := by
  obtain ⟨A, c, A', c', e, _⟩ := h
  exact World.block_lt_of_cell? _ _ e
theorem ListR.below {w w' : World} {L : Nat} {l : List Ent} (h : ListR w L l) (hb : Below w.heap.size w w') : ListR w' L l := by
  have hL := h.lt
  obtain ⟨A, c, A', c', e, e', hs, hv⟩ := h
  exact ⟨A, c, A', c', (hb.cell (p := ⟨L, 0, none⟩) hL).trans e, (hb.cell (p := ⟨L, 1, none⟩) hL).trans e', hs.below hb, hv.below hb⟩
theorem listR_get {w : World} {L N j : Nat} {l : List Ent} (h : ListR w L l) (hN : l.length = N) (hj : j < N) : ∃ b off c b' off' c', w.cell? ⟨L, 0, none⟩ = some (.slice (some ⟨b, off, none⟩) N c) ∧ w.cell? ⟨L, 1, none⟩ = some (.slice (some ⟨b', off', none⟩) N c') ∧ SpAt w b (off + j * 4) (l[j]'(by omega)).1 ∧ w.cell? ⟨b', off' + j, none⟩ = some (.int .u64 (l[j]'(by omega)).2) := by
  obtain ⟨A, c, A', c', e, e', hs, hv⟩ := h
  obtain ⟨b, off, rfl, _, hs⟩ := hs (by rw [List.length_map]; omega)
  obtain ⟨b', off', rfl, _, hv⟩ := hv (by rw [List.length_map]; omega)
  rw [hN] at e e'
  have s := hs j (by rw [List.length_map]; omega)
  have v := hv j (by rw [List.length_map]; omega)
  rw [List.getElem_map] at s v
  exact ⟨b, off, c, b', off', c', e, e', s, v⟩
theorem lvl_ne (h : Nat) : ((h : Int) + 1 == 0) = false := by rw [beq_eq_false_iff_ne]; omega
def SameRel (w : World) (L L2 N : Nat) (i : Value) (wr : World) : Prop := ∃ j : Nat, i = .int .i64 j ∧ j ≤ N ∧ Below w.heap.size w wr
set_option maxHeartbeats 3200000 in
set_option maxRecDepth 100000 in
theorem same_nil {w : World} {L : Nat} (hlist : ListR w L []) : Calls Try.prog 31 #[.pointer none, .pointer (some ⟨L, 0, none⟩)] w fun e w' => e = .returned (.int .i64 1) ∧ Below w.heap.size w w' := by
  obtain ⟨A, c, A', c', lc, _⟩ := hlist
  rw [List.length_nil] at lc
  go_enter Try.func31, Try.ntmps31
  go_wp2_with fail
  go_ret
  exact ⟨rfl, Below.refl _ _⟩
set_option maxHeartbeats 3200000 in
set_option maxRecDepth 100000 in
theorem same_node {w : World} {p h n L : Nat} {l : List Ent} (hn : Nd w h p l n) (h0 : 0 < n) (h2 : 0 < h → 2 ≤ n) (h4 : n ≤ 4) (hlist : ListR w L l) (hl : l.length ≤ 400) (ha : Asc l) :
    Calls Try.prog 31 #[.pointer (some ⟨p, 0, none⟩), .pointer (some ⟨L, 0, none⟩)] w fun e w' => e = .returned (.int .i64 1) ∧ Below w.heap.size w w' := by
  have HLay : Hid (∀ X, Below w.heap.size w X → ListE X w.heap.size [] → Calls Try.prog 32 #[.pointer (some ⟨p, 0, none⟩), .bool true, .int .i64 12, .pointer (some ⟨w.heap.size, 0, none⟩)] X (LayE X w.heap.size l)) := fun X hX hl0 => lay_root hn h0 h2 h4 (Nat.le_refl _) hX hl0 hl ha
  have HLs := Lib.hid hlist
  have lLt := hlist.lt
  obtain ⟨A1, ca1, _, _, lc, _, _, _⟩ := hlist
  clear hn h0 h2 h4 ha
  obtain ⟨N, hN⟩ : ∃ N, l.length = N := ⟨_, rfl⟩
  have HN := Lib.hid hN
  rw [hN] at lc hl
  clear hN
  go_enter Try.func31, Try.ntmps31
  go_wp2_with fail
  have hnew := list_new w
  have hbw : Below w.heap.size w (w.alloc (.cells #[.slice none 0 0, .slice none 0 0] 34)) := (Below.refl _ _).alloc (Nat.le_refl _) _
  have HL0 := HLay.out _ (hbw.trans (bel_drewN _ _ (n := 1))) (hnew.below (bel_drewN _ _ (n := 1)))
  have lc2 := (hbw.cell (p := ⟨L, 0, none⟩) lLt).trans lc
  have lLt2 : L < (w.alloc (.cells #[.slice none 0 0, .slice none 0 0] 34)).heap.size := Nat.lt_of_lt_of_le lLt hbw.size
  have HL1 := Lib.hid HL0
  have HBw := Lib.hid hbw
  clear hnew hbw HLay lc HL0
  generalize hP : w.heap.size = L2 at *
  have HP := Lib.hid hP
  clear hP
  generalize w.alloc (.cells #[.slice none 0 0, .slice none 0 0] 34) = W at *
  have lL2 : L < L2 := lLt
  have d4 : ((N : Int) != (N : Int)) = false := by simp
  go_cut [33] (fun s wx => s = .bool false ∧ Below L2 W wx ∧ ListE wx L2 l)
  case first =>
    go_region_with
      (first
      | (go_at_call 32; refine HL1.out.mono ?_; rintro e w5 ⟨⟨h, rfl⟩, hl5, hb5⟩; have lc5 := (hb5.cell (p := ⟨L, 0, none⟩) lL2).trans lc2; obtain ⟨A5, c5, lc6⟩ := list_cell hl5 HN.out; have f4 := lvl_ne h))
    all_goals go_wp2_with fail
    all_goals go_meet
    all_goals exact ⟨rfl, (bel_drewN _ _).trans hb5, hl5⟩
  case rest =>
  obtain ⟨rfl, hb5, hl5⟩ := hcut
  have hbA : Below w.heap.size w wc := by rw [HP.out]; exact HBw.out.trans hb5
  have HA := Lib.hid hbA
  have HM : Hid (ListR wc L l) := HLs.out.below hbA
  have HM2 := Lib.hid hl5
  clear hbA hl5 hb5 HL1 HLs HBw lc2
  go_wp2_with fail
  go_loopw [6] (fun i wr => ∃ j : Nat, i = .int .i64 j ∧ j ≤ N ∧ Below wc.heap.size wc wr) (fun i _ => (N - intOf i).toNat)
  case atStart => exact ⟨0, rfl, Nat.zero_le _, Below.refl _ _⟩
  case round =>
    obtain ⟨j, rfl, hj, hbr⟩ := hrel
    by_cases hjn : j < N
    · obtain ⟨b, off, c, b', off', c', x0, x1, ⟨x2, x3, x4, x5⟩, x6⟩ := listR_get (HM.out.below hbr) HN.out hjn
      obtain ⟨g, og, cg, g', og', cg', y0, y1, ⟨y2, y3, y4, y5⟩, y6⟩ := list_get (HM2.out.below hbr) HN.out hjn
      generalize l[j]'(_) = z at *
      have HNe : ∀ W, _ := fun W => by have := sp_ne z.1 z.1 W; rw [show (!decide (z.1 = z.1)) = false by simp] at this; exact this
      have e1 : (0 : Int) ≤ (j : Int) := by omega
      have e2 : (j : Int) < (N : Int) := by omega
      have e3 : (z.2 != z.2) = false := by simp
      have HB := Lib.hid hbr
      clear hbr
      go_wp2_with fail
      go_quiet (fail)
      go_wp2_with fail
      go_roundw
      case rel => exact ⟨j + 1, by simp, hjn, HB.out.trans (bel_drewN _ _)⟩
      case measure => (simp [intOf] <;> omega)
    · obtain rfl : j = N := by omega
      obtain ⟨A6, c6, lc7⟩ := list_cell (HM2.out.below hbr) HN.out
      have HB := Lib.hid hbr
      clear hbr
      go_wp2_with fail
      go_ret
      exact ⟨rfl, HA.out.trans (HB.out.mono HA.out.size)⟩
theorem sameR_at {w : World} {r : Option Addr} {L : Nat} {l : List Ent} (hr : RootAt w r l) (hlist : ListR w L l) (hl : l.length ≤ 400) (ha : Asc l) :
    Calls Try.prog 31 #[.pointer r, .pointer (some ⟨L, 0, none⟩)] w fun e w' => e = .returned (.int .i64 1) ∧ Below w.heap.size w w' := by
  rcases hr with ⟨rfl, rfl⟩ | ⟨q, h, n, rfl, hn, h0, h2, h4⟩
  · exact same_nil hlist
  · exact same_node hn h0 h2 h4 hlist hl ha
theorem same_at {w : World} {r : Option Addr} {L : Nat} {l : List Ent} (hr : RootAt w r l) (hlist : ListE w L l) (hl : l.length ≤ 400) (ha : Asc l) :
    Calls Try.prog 31 #[.pointer r, .pointer (some ⟨L, 0, none⟩)] w fun e w' => e = .returned (.int .i64 1) ∧ Below w.heap.size w w' :=
  sameR_at hr hlist.R hl ha
end Go.Proofs.Ytainljbkejafcaa.N

/- The walk of play. -/
namespace Go.Proofs.Ytainljbkejafcaa.N
open Go.RowKit Go.Proofs.YtainljbkejafcaaW.PrintMore Go.Proofs.YtainljbkejafcaaW.PrintWords
set_option linter.unusedVariables false
set_option linter.unusedSimpArgs false
set_option maxRecDepth 100000 in
theorem isNd : (Try.prog.info? 39).isSome = true := by kernel_rfl
set_option maxRecDepth 100000 in
theorem ptr_ne (a : Addr) (W : World) : (binOp .neq 36 (.pointer (some a)) (.pointer (some a))).run Try.prog W = .ok (.bool false) W := by
  obtain ⟨j, hj⟩ := Option.isSome_iff_exists.1 isNd
  exact Lib.run_neq_ptr_same W a (te := 39) Try.underlying36 hj
/-- A deed. -/
structure Dd where
  del : Bool
  k : Sp
  v : Int
def DeedAt (w : World) (b o : Nat) (d : Dd) : Prop := w.cell? ⟨b, o, none⟩ = some (.bool d.del) ∧ w.cell? ⟨b, o + 1, none⟩ = some (.int .i64 d.k.br) ∧ w.cell? ⟨b, o + 2, none⟩ = some (.int .i64 d.k.vol) ∧ w.cell? ⟨b, o + 3, none⟩ = some (.int .i64 d.k.blk) ∧ w.cell? ⟨b, o + 4, none⟩ = some (.int .u64 d.k.num) ∧ w.cell? ⟨b, o + 5, none⟩ = some (.int .u64 d.v)
def DeedsAt (w : World) (A : Option Addr) (l : List Dd) : Prop := 0 < l.length → ∃ b off, A = some ⟨b, off, none⟩ ∧ b < w.heap.size ∧ ∀ j (h : j < l.length), DeedAt w b (off + j * 6) l[j]
theorem DeedAt.below {w w' : World} {b o B : Nat} {d : Dd} (h : DeedAt w b o d) (hb : Below B w w') (hlt : b < B) : DeedAt w' b o d := by
  obtain ⟨a0, a1, a2, a3, a4, a5⟩ := h
  exact ⟨(hb.cell (p := ⟨b, _, none⟩) hlt).trans a0, (hb.cell (p := ⟨b, _, none⟩) hlt).trans a1, (hb.cell (p := ⟨b, _, none⟩) hlt).trans a2, (hb.cell (p := ⟨b, _, none⟩) hlt).trans a3, (hb.cell (p := ⟨b, _, none⟩) hlt).trans a4, (hb.cell (p := ⟨b, _, none⟩) hlt).trans a5⟩
theorem DeedsAt.below {w w' : World} {A : Option Addr} {l : List Dd} (h : DeedsAt w A l) (hb : Below w.heap.size w w') : DeedsAt w' A l := fun hl => by
  obtain ⟨b, off, e, hlt, hc⟩ := h hl
  exact ⟨b, off, e, Nat.lt_of_lt_of_le hlt hb.size, fun j hj => (hc j hj).below hb hlt⟩
def stepE (l : List Ent) (d : Dd) : List Ent := if d.del = true then delE d.k l else insE d.k d.v l
def playE (ds : List Dd) : List Ent := ds.foldl stepE []
theorem playE_succ {ds : List Dd} {j : Nat} (h : j < ds.length) : playE (ds.take (j + 1)) = stepE (playE (ds.take j)) ds[j] := by
  unfold playE; rw [List.take_succ_eq_append_getElem h, List.foldl_append]; rfl
theorem insE_len_le (k : Sp) (v : Int) : ∀ l : List Ent, (insE k v l).length ≤ l.length + 1
  | [] => by simp [insE]
  | x :: t => by
    rw [insE]
    have := insE_len_le k v t
    split
    · simp; omega
    · split <;> simp
theorem stepE_len (l : List Ent) (d : Dd) : (stepE l d).length ≤ l.length + 1 := by
  unfold stepE
  split
  · rw [delE_length]; split <;> omega
  · exact insE_len_le _ _ _
theorem stepE_asc {l : List Ent} (h : Asc l) (d : Dd) : Asc (stepE l d) := by
  unfold stepE
  split
  · exact delE_asc h
  · exact insE_asc h
theorem foldl_ok : ∀ (ds : List Dd) (l : List Ent), Asc l → Asc (ds.foldl stepE l) ∧ (ds.foldl stepE l).length ≤ l.length + ds.length
  | [], l, h => ⟨h, by simp⟩
  | d :: t, l, h => by
    obtain ⟨a, b⟩ := foldl_ok t (stepE l d) (stepE_asc h d)
    have := stepE_len l d
    exact ⟨a, by rw [List.foldl_cons, List.length_cons]; omega⟩
theorem playE_asc (ds : List Dd) : Asc (playE ds) := (foldl_ok ds [] List.Pairwise.nil).1
theorem playE_len (ds : List Dd) : (playE ds).length ≤ ds.length := by have := (foldl_ok ds [] List.Pairwise.nil).2; simpa [playE] using this
theorem below_row {B L : Nat} {w X Y : World} (hb : Below B w X) (hg : X.grownBy Y (some L)) (hw : B ≤ X.heap.size) (hB : B ≤ L) : Below B w Y :=
  hb.grown hg hw (fun k hk => by cases hk; exact hB)
def PlayPost (w : World) (l : List Ent) (e : Ending) (w' : World) : Prop := ∃ r L, e = .returned (.tuple #[.pointer r, .pointer (some ⟨L, 0, none⟩), .int .i64 1]) ∧ RootAt w' r l ∧ ListE w' L l ∧ Below w.heap.size w w' ∧ w.heap.size ≤ L
def PlayRel (w : World) (L N : Nat) (ds : List Dd) (r i : Value) (wr : World) : Prop := ∃ (j : Nat) (rr : Option Addr), i = .int .i64 j ∧ r = .pointer rr ∧ j ≤ N ∧ RootAt wr rr (playE (ds.take j)) ∧ ListE wr L (playE (ds.take j)) ∧ Below L w wr
theorem play_rel {w X : World} {L N j : Nat} {ds : List Dd} {rr : Option Addr} {d : Dd} {l : List Ent} (hj : j + 1 ≤ N) (hs : playE (ds.take (j + 1)) = stepE l d) (hr : RootAt X rr (stepE l d)) (hl : ListE X L (stepE l d)) (hb : Below L w X) : PlayRel w L N ds (.pointer rr) (.int .i64 ((j : Int) + 1)) X :=
  ⟨j + 1, rr, by simp, rfl, hj, by rw [hs]; exact hr, by rw [hs]; exact hl, hb⟩
set_option maxHeartbeats 6400000 in
set_option maxRecDepth 100000 in
theorem play_at {w : World} {A : Option Addr} {c : Nat} {ds : List Dd} (hd : DeedsAt w A ds) (hn : ds.length ≤ 60) :
    Calls Try.prog 28 #[.slice A ds.length c] w (PlayPost w (playE ds)) := by
  have HD := Lib.hid hd
  obtain ⟨N, hN⟩ : ∃ N, ds.length = N := ⟨_, rfl⟩
  have HN := Lib.hid hN
  rw [hN] at hn ⊢
  clear hd hN
  go_enter Try.func28, Try.ntmps28
  go_wp2_with fail
  have HL0 := Lib.hid (list_new w)
  have hbw : Below w.heap.size w (w.alloc (.cells #[.slice none 0 0, .slice none 0 0] 34)) := (Below.refl _ _).alloc (Nat.le_refl _) _
  generalize w.alloc (.cells #[.slice none 0 0, .slice none 0 0] 34) = W at *
  obtain ⟨L, hL⟩ : ∃ L, w.heap.size = L := ⟨_, rfl⟩
  have HL := Lib.hid hL
  rw [hL] at HL0 hbw ⊢
  clear hL
  go_loopw [5, 7] (fun r i wr => PlayRel w L N ds r i wr) (fun _ i _ => (N - intOf i).toNat)
  case atStart => exact ⟨0, none, rfl, rfl, Nat.zero_le _, .inl ⟨rfl, rfl⟩, HL0.out, hbw⟩
  case round =>
    obtain ⟨j, rr, rfl, rfl, hj, hr, hl, hbr⟩ := hrel
    by_cases hjn : j < N
    · have hjd : j < ds.length := by rw [HN.out]; exact hjn
      have HS := Lib.hid (playE_succ hjd)
      have hlen : (playE (ds.take j)).length ≤ 60 := by have := playE_len (ds.take j); rw [List.length_take] at this; omega
      have HAsc := Lib.hid (playE_asc (ds.take j))
      obtain ⟨b, off, rfl, hb, hcs⟩ := HD.out (by omega)
      have hbz : b < L := by rw [← HL.out]; exact hb
      have hdw := (hcs j hjd).below hbr hbz
      obtain ⟨d0, d1, d2, d3, d4, d5⟩ := hdw
      have HDA : Hid (∀ X, Below L w X → DeedAt X b (off + j * 6) ds[j]) := fun X hX => (hcs j hjd).below hX hbz
      clear hcs
      generalize playE (ds.take j) = l at *
      generalize ds[j] = d at *
      have e1 : (0 : Int) ≤ (j : Int) := by omega
      have e2 : (j : Int) < (N : Int) := by omega
      have HR := Lib.hid hr
      have HLs := Lib.hid hl
      have HB := Lib.hid hbr
      have hLz := hl.lt
      have HJ : Hid (j + 1 ≤ N) := hjn
      clear hl
      cases hdel : d.del with
      | true =>
        rw [hdel] at d0
        have hst : stepE l d = delE d.k l := by unfold stepE; rw [if_pos hdel]
        rcases hr with ⟨rfl, rfl⟩ | ⟨q, h, n, rfl, hn, h0, h2, h4⟩
        · go_wp2_with fail
          go_roundw
          case rel => exact play_rel HJ.out HS.out (by rw [hst]; exact HR.out) (by rw [hst]; exact HLs.out) HB.out
          case measure => (simp [intOf] <;> omega)
        · have HDel := Lib.hid (Del_at hn h0 h2 h4 HAsc.out d.k)
          clear hn h0 h2 h4
          go_wp2_with fail
          refine HDel.out.mono ?_
          rintro e w5 hp
          have hLw : L ≤ wr.heap.size := Nat.le_of_lt hLz
          have hpn := ptr_ne ⟨q, 0, none⟩
          rcases hp with ⟨hh, rfl, hb5⟩ | ⟨hh, r', rfl, hr5, hb5⟩
          · have hB5 : Below L w w5 := HB.out.trans (hb5.mono hLw)
            obtain ⟨f0, f1, f2, f3, f4, f5⟩ := HDA.out w5 hB5
            have hr5 : RootAt w5 (some ⟨q, 0, none⟩) (delE d.k l) := by rw [delE_none hh]; exact HR.out.below hb5
            have hl5 := HLs.out.below hb5
            have HD5 := Lib.hid (rdel_at hl5 d.k (by omega))
            have HR5 := Lib.hid hr5
            have HL5 := Lib.hid hl5
            have HB5 := Lib.hid hB5
            have hLw5 : L ≤ w5.heap.size := Nat.le_trans hLw hb5.size
            have hla : (delE d.k l).length ≤ 400 := by rw [delE_length]; split <;> omega
            clear hr5 hl5 hB5 hb5 d0 d1 d2 d3 d4 d5 hbr
            go_wp2_with fail
            refine HD5.out.mono ?_
            rintro e w6 ⟨rfl, hl6, hg6⟩
            rw [hh]
            have hB6 : Below L w w6 := below_row HB5.out hg6 hLw5 (Nat.le_refl _)
            have hr6 : RootAt w6 _ (delE d.k l) := HR5.out.grownL HL5.out.block hg6
            have HSm := Lib.hid (same_at hr6 hl6 hla (delE_asc HAsc.out))
            have HR6 := Lib.hid hr6
            have HL6 := Lib.hid hl6
            have HB6 := Lib.hid hB6
            have hLw6 : L ≤ w6.heap.size := Nat.le_trans hLw5 hg6.size
            clear hr6 hl6 hg6 hB6 f0 f1 f2 f3 f4 f5
            go_wp2_with fail
            refine HSm.out.mono ?_
            rintro e w7 ⟨rfl, hb7⟩
            go_wp2_with fail
            go_roundw
            case rel => exact play_rel HJ.out HS.out (by rw [hst]; exact HR6.out.below hb7) (by rw [hst]; exact HL6.out.below hb7) (HB6.out.trans (hb7.mono hLw6))
            case measure => (simp [intOf] <;> omega)
          · have hB5 : Below L w w5 := HB.out.trans (hb5.mono hLw)
            obtain ⟨f0, f1, f2, f3, f4, f5⟩ := HDA.out w5 hB5
            have hl5 := HLs.out.below hb5
            have HD5 := Lib.hid (rdel_at hl5 d.k (by omega))
            have HR5 := Lib.hid hr5
            have HL5 := Lib.hid hl5
            have HB5 := Lib.hid hB5
            have hLw5 : L ≤ w5.heap.size := Nat.le_trans hLw hb5.size
            have hla : (delE d.k l).length ≤ 400 := by rw [delE_length]; split <;> omega
            clear hr5 hl5 hB5 hb5 d0 d1 d2 d3 d4 d5 hbr
            go_wp2_with fail
            refine HD5.out.mono ?_
            rintro e w6 ⟨rfl, hl6, hg6⟩
            rw [hh]
            have hB6 : Below L w w6 := below_row HB5.out hg6 hLw5 (Nat.le_refl _)
            have hr6 : RootAt w6 _ (delE d.k l) := HR5.out.grownL HL5.out.block hg6
            have HSm := Lib.hid (same_at hr6 hl6 hla (delE_asc HAsc.out))
            have HR6 := Lib.hid hr6
            have HL6 := Lib.hid hl6
            have HB6 := Lib.hid hB6
            have hLw6 : L ≤ w6.heap.size := Nat.le_trans hLw5 hg6.size
            clear hr6 hl6 hg6 hB6 f0 f1 f2 f3 f4 f5
            go_wp2_with fail
            refine HSm.out.mono ?_
            rintro e w7 ⟨rfl, hb7⟩
            go_wp2_with fail
            go_roundw
            case rel => exact play_rel HJ.out HS.out (by rw [hst]; exact HR6.out.below hb7) (by rw [hst]; exact HL6.out.below hb7) (HB6.out.trans (hb7.mono hLw6))
            case measure => (simp [intOf] <;> omega)
      | false =>
        rw [hdel] at d0
        have hst : stepE l d = insE d.k d.v l := by unfold stepE; rw [if_neg (by rw [hdel]; decide)]
        clear hr
        have hLw : L ≤ wr.heap.size := Nat.le_of_lt hLz
        have hla : (insE d.k d.v l).length ≤ 400 := by have := insE_len_le d.k d.v l; omega
        have HG := Lib.hid (grow_at (HR.out.below (bel_drewN _ _ (n := 1))) HAsc.out d.k d.v)
        clear hbr
        go_wp2_with fail
        go_cut [5] (fun r wx => ∃ rr', r = .pointer rr' ∧ RootAt wx rr' (insE d.k d.v l) ∧ Below wr.heap.size wr wx)
        case first =>
          go_region_with (first
            | (go_at_call 30; refine HG.out.mono ?_; rintro e w5 ⟨rr5, rfl, hr5, hb5⟩; skip))
          all_goals go_wp2_with fail
          all_goals go_meet
          all_goals exact ⟨_, rfl, hr5, (bel_drewN _ _ (n := 1)).trans hb5⟩
        case rest =>
          obtain ⟨rr', rfl, hr5, hb5⟩ := hcut
          have hl5 := HLs.out.below hb5
          have hB5 : Below L w wc := HB.out.trans (hb5.mono hLw)
          have HP5 := Lib.hid (rput_at (hl5.below (bel_drewN _ _ (n := 1))) d.k d.v (by omega))
          have HR5 := Lib.hid hr5
          have HL5 := Lib.hid hl5
          have HB5 := Lib.hid hB5
          have hLw5 : L ≤ wc.heap.size := Nat.le_trans hLw hb5.size
          obtain ⟨f0, f1, f2, f3, f4, f5⟩ := HDA.out wc hB5
          clear hr5 hl5 hB5 hb5 d0 d1 d2 d3 d4 d5
          go_wp2_with fail
          go_cut [] (fun wx => RootAt wx rr' (insE d.k d.v l) ∧ ListE wx L (insE d.k d.v l) ∧ Below L w wx ∧ L ≤ wx.heap.size)
          case first =>
            go_region_with (first
              | (go_at_call 22; refine HP5.out.mono ?_; rintro e w6 ⟨rfl, hl6, hg6⟩; skip))
            all_goals go_wp2_with fail
            all_goals go_meet
            all_goals exact ⟨(HR5.out.below (bel_drewN _ _ (n := 1))).grownL (HL5.out.below (bel_drewN _ _ (n := 1))).block hg6, hl6, below_row (HB5.out.trans (bel_drewN _ _ (n := 1))) hg6 hLw5 (Nat.le_refl _), Nat.le_trans hLw5 hg6.size⟩
          case rest =>
            obtain ⟨hr6, hl6, hB6, hLw6⟩ := hcut
            have HSm := Lib.hid (same_at hr6 hl6 hla (insE_asc HAsc.out))
            have HR6 := Lib.hid hr6
            have HL6 := Lib.hid hl6
            have HB6 := Lib.hid hB6
            clear hr6 hl6 hB6 f0 f1 f2 f3 f4 f5
            go_wp2_with fail
            refine HSm.out.mono ?_
            rintro e w7 ⟨rfl, hb7⟩
            go_wp2_with fail
            go_roundw
            case rel => exact play_rel HJ.out HS.out (by rw [hst]; exact HR6.out.below hb7) (by rw [hst]; exact HL6.out.below hb7) (HB6.out.trans (hb7.mono hLw6))
            case measure => (simp [intOf] <;> omega)
    · obtain rfl : j = N := by omega
      go_wp2_with fail
      refine bodyPost_ret (v := .tuple #[.pointer rr, .pointer (some ⟨L, 0, none⟩), .int .i64 1]) (by rw [results_tmp3 rfl]; go_simp) rfl ?_
      have ht : ds.take j = ds := List.take_of_length_le (by rw [HN.out]; exact Nat.le_refl _)
      rw [ht] at hr hl
      exact ⟨rr, L, rfl, hr, hl, by rw [HL.out]; exact hbr, by rw [HL.out]; exact Nat.le_refl _⟩
end Go.Proofs.Ytainljbkejafcaa.N
