/- TA: joined by merge.py. -/
import Derived.Test.YtainljbkejafcaaNGrow
import Derived.Test.YtainljbkejafcaaNCls
import Derived.Test.YtainljbkejafcaaNApp
/- Trees in memory: the root and the number; New, Root, Len; how high a node is. -/
namespace Go.Proofs.Ytainljbkejafcaa.N
open Go.BigFrame Go.RowKit Go.Proofs.YtainljbkejafcaaW.PrintMore Go.Proofs.YtainljbkejafcaaW.PrintWords
set_option linter.unusedVariables false
set_option linter.unusedSimpArgs false
/-- A tree that has l: none, or a block with the root and the number. -/
def TreeAt (w : World) (p : Option Addr) (l : List Ent) : Prop := (p = none ∧ l = []) ∨ ∃ b r, p = some ⟨b, 0, none⟩ ∧ Blk w b #[.pointer r, .int .i64 l.length] 102 ∧ RootAt w r l
theorem TreeAt.below {w w' : World} {p : Option Addr} {l : List Ent} (h : TreeAt w p l) (hb : Below w.heap.size w w') : TreeAt w' p l := by
  rcases h with h | ⟨b, r, e, h1, h2⟩
  · exact .inl h
  · exact .inr ⟨b, r, e, h1.below hb h1.lt, h2.below hb⟩
/-- A block for a tree. -/
theorem TreeAt.new {w : World} {r : Option Addr} {l : List Ent} (h : RootAt w r l) : TreeAt (w.alloc (.cells #[.pointer r, .int .i64 l.length] 102)) (some ⟨w.heap.size, 0, none⟩) l :=
  .inr ⟨_, r, rfl, Blk.new w _ _, h.below ((Below.refl _ _).alloc (Nat.le_refl _) _)⟩
theorem new_tree (w : World) : Calls Try.prog 40 #[] w fun e w' => ∃ b, e = .returned (.pointer (some ⟨b, 0, none⟩)) ∧ TreeAt w' (some ⟨b, 0, none⟩) [] ∧ Below w.heap.size w w' := by
  go_enter Try.func40, Try.ntmps40
  go_wp2_with fail
  go_ret
  exact ⟨_, rfl, TreeAt.new (l := []) (.inl ⟨rfl, rfl⟩), (Below.refl _ _).alloc (Nat.le_refl _) _⟩
theorem root_tree {w : World} {p : Option Addr} {l : List Ent} (h : TreeAt w p l) : ∃ r, RootAt w r l ∧ ∀ X, Below w.heap.size w X → Calls Try.prog 37 #[.pointer p] X fun e w' => e = .returned (.pointer r) ∧ X = w' := by
  rcases h with ⟨rfl, rfl⟩ | ⟨b, r, rfl, h1, h2⟩
  · refine ⟨none, .inl ⟨rfl, rfl⟩, fun X hX => ?_⟩
    go_enter Try.func37, Try.ntmps37
    go_wp2_with fail
    go_ret
    exact ⟨rfl, rfl⟩
  · refine ⟨r, h2, fun X hX => ?_⟩
    have c0 : X.cell? ⟨b, 0, none⟩ = some (.pointer r) := ((h1.below hX h1.lt).cell 0).trans rfl
    clear h1 h2 hX
    go_enter Try.func37, Try.ntmps37
    go_wp2_with fail
    go_ret
    exact ⟨rfl, rfl⟩
theorem len_tree {w : World} {p : Option Addr} {l : List Ent} (h : TreeAt w p l) : ∀ X, Below w.heap.size w X → Calls Try.prog 46 #[.pointer p] X fun e w' => e = .returned (.int .i64 l.length) ∧ X = w' := by
  rcases h with ⟨rfl, rfl⟩ | ⟨b, r, rfl, h1, h2⟩
  · intro X hX
    go_enter Try.func46, Try.ntmps46
    go_wp2_with fail
    go_ret
    exact ⟨rfl, rfl⟩
  · intro X hX
    have c1 : X.cell? ⟨b, 1, none⟩ = some (.int .i64 l.length) := ((h1.below hX h1.lt).cell 1).trans rfl
    clear h1 h2 hX
    generalize l.length = n at *
    go_enter Try.func46, Try.ntmps46
    go_wp2_with fail
    go_ret
    exact ⟨rfl, rfl⟩
/-- A node is of one height alone. -/
theorem nd_uniq {w : World} : ∀ {h h' q n n' : Nat} {m m' : List Ent}, Nd w h q m n → Nd w h' q m' n' → h = h'
  | 0, 0, _, _, _, _, _, _, _ => rfl
  | 0, h' + 1, q, n, n', m, m', a, b => by
    obtain ⟨_, A, ca, B, cb, hh⟩ := a
    obtain ⟨qs, ls, _, _, ⟨A', ca', C, cc, hi⟩, _⟩ := nd_succ.1 b
    have h1 := hh.hp
    rw [hi.hp] at h1
    have hp := hi.pos
    cases qs with
    | nil => simp at hp
    | cons x t => simp at h1
  | h + 1, 0, q, n, n', m, m', a, b => by
    obtain ⟨_, A, ca, B, cb, hh⟩ := b
    obtain ⟨qs, ls, _, _, ⟨A', ca', C, cc, hi⟩, _⟩ := nd_succ.1 a
    have h1 := hh.hp
    rw [hi.hp] at h1
    have hp := hi.pos
    cases qs with
    | nil => simp at hp
    | cons x t => simp at h1
  | h + 1, h' + 1, q, n, n', m, m', a, b => by
    obtain ⟨qs, ls, _, _, ⟨A, ca, C, cc, hi⟩, hk⟩ := nd_succ.1 a
    obtain ⟨qs', ls', _, _, ⟨A', ca', C', cc', hi'⟩, hk'⟩ := nd_succ.1 b
    have h1 := hi.hp
    rw [hi'.hp] at h1
    simp at h1
    obtain ⟨b1, o1, e1, _, f1⟩ := hi.kids hi.pos
    obtain ⟨b2, o2, e2, _, f2⟩ := hi'.kids hi'.pos
    have hC : C' = C := h1.2.1
    rw [hC, e1] at e2
    cases e2
    have g1 := f1 0 hi.pos
    have g2 := f2 0 hi'.pos
    rw [g1] at g2
    have hq : qs[0]'hi.pos = qs'[0]'hi'.pos := by simpa using g2
    have l1 := hi.len
    have l2 := hi'.len
    rw [List.length_map] at l1 l2
    obtain ⟨s, _, _, k1⟩ := hk.get 0 hi.pos (by have := hi.pos; omega)
    obtain ⟨s', _, _, k2⟩ := hk'.get 0 hi'.pos (by have := hi'.pos; omega)
    rw [← hq] at k2
    rw [nd_uniq k1 k2]
open Classical in
/-- How high the node is. -/
noncomputable def hOf (w : World) (v : Value) : Nat := if h : ∃ h q m n, v = .pointer (some ⟨q, 0, none⟩) ∧ Nd w h q m n then Classical.choose h else 0
theorem hOf_nd {w : World} {h q n : Nat} {m : List Ent} (hn : Nd w h q m n) : hOf w (.pointer (some ⟨q, 0, none⟩)) = h := by
  have hex : ∃ h q' m n, (Value.pointer (some ⟨q, 0, none⟩)) = .pointer (some ⟨q', 0, none⟩) ∧ Nd w h q' m n := ⟨h, q, m, n, rfl, hn⟩
  unfold hOf
  rw [dif_pos hex]
  obtain ⟨q', m', n', e, hn'⟩ := Classical.choose_spec hex
  cases e
  exact nd_uniq hn' hn
end Go.Proofs.Ytainljbkejafcaa.N

/- The way down a tree: leaf. -/
namespace Go.Proofs.Ytainljbkejafcaa.N
open Go.BigFrame Go.RowKit Go.Proofs.YtainljbkejafcaaW.PrintMore Go.Proofs.YtainljbkejafcaaW.PrintWords
set_option linter.unusedVariables false
set_option linter.unusedSimpArgs false
/-- What stands behind: nothing, or a node with the first of it. -/
def NextAt (w : World) (nx : Option Addr) (post : List Ent) : Prop := (nx = none ∧ post = []) ∨ ∃ h q n m post', nx = some ⟨q, 0, none⟩ ∧ Nd w h q m n ∧ 0 < n ∧ n ≤ 4 ∧ post = m ++ post'
theorem NextAt.below {w w' : World} {nx : Option Addr} {post : List Ent} (h : NextAt w nx post) (hb : Below w.heap.size w w') : NextAt w' nx post := by
  rcases h with h | ⟨h, q, n, m, p, a, b, c⟩
  · exact .inl h
  · exact .inr ⟨h, q, n, m, p, a, b.below hb, c⟩
/-- A node on the way to a spot, and what stands ahead and behind. -/
structure Way (k : Sp) (l pre m post : List Ent) : Prop where
  cut : l = pre ++ m ++ post
  lo : ∀ y ∈ pre, lt y.1 k = true
  at' : pre ≠ [] → lt k (hd m) = false
  hi : ∀ y ∈ post, lt k y.1 = true
theorem Way.start (k : Sp) (l : List Ent) : Way k l [] l [] := ⟨by simp, (fun _ h => by cases h), (fun h => absurd rfl h), (fun _ h => by cases h)⟩
theorem hd_append {a b : List Ent} (h : a ≠ []) : hd (a ++ b) = hd a := by
  cases a with
  | nil => exact absurd rfl h
  | cons x t => rfl
theorem Way.down {k : Sp} {l pre post : List Ent} {ls : List (List Ent)} {i : Nat} {b : Bool} (hw : Way k l pre ls.flatten post) (ha : Asc l) (hne : ∀ m ∈ ls, m ≠ []) (hF : FindI k (ls.map hd) i b) (hi : i < ls.length) :
    Way k l (pre ++ (ls.take i).flatten) ls[i] ((ls.drop (i + 1)).flatten ++ post) := by
  have hal : Asc ls.flatten := by
    have := ha; rw [hw.cut] at this
    exact (asc_app (asc_app this).1).2.1
  have hs := way_sides hal hne hF hi
  refine ⟨?_, fun y hy => ?_, fun hp => ?_, fun y hy => ?_⟩
  · rw [hw.cut, flatten_cut hi]; simp
  · rcases List.mem_append.1 hy with h | h
    · exact hw.lo y h
    · exact hs.1 y h
  · rcases hF with ⟨h1, h2, _⟩ | ⟨rfl, _, _⟩
    · have h3 := (h2 h1).1
      rw [List.getElem_map] at h3
      rw [← Bool.not_eq_true]
      intro h
      have := ord_pos.2 h
      omega
    · simp at hp
      have := hw.at' hp
      rw [flatten_cut hi] at this
      simpa [hd_append (hne _ (List.getElem_mem hi))] using this
  · rcases List.mem_append.1 hy with h | h
    · exact hs.2 y h
    · exact hw.hi y h
theorem next_down {w : World} {h : Nat} {qs : List Nat} {ls : List (List Ent)} {nx : Option Addr} {post : List Ent} {i : Nat} (hk : All2 (Kid w h 2) qs ls) (hn : NextAt w nx post) (hi : i < qs.length) :
    (i + 1 < qs.length → ∀ hj : i + 1 < qs.length, NextAt w (some ⟨qs[i + 1], 0, none⟩) ((ls.drop (i + 1)).flatten ++ post)) ∧ (¬ i + 1 < qs.length → NextAt w nx ((ls.drop (i + 1)).flatten ++ post)) := by
  have hl := hk.length
  refine ⟨fun _ hj => ?_, fun hj => ?_⟩
  · obtain ⟨s, s2, s4, hkid⟩ := hk.get (i + 1) hj (by omega)
    rw [List.drop_eq_getElem_cons (show i + 1 < ls.length by omega), List.flatten_cons, List.append_assoc]
    exact .inr ⟨h, _, s, _, _, rfl, hkid, by omega, s4, rfl⟩
  · rw [List.drop_of_length_le (by omega)]
    simpa using hn
def DownT (w : World) (k : Sp) (l : List Ent) (xv nv : Value) (X : World) : Prop := ∃ (h q n : Nat) (m pre post : List Ent) (nx : Option Addr), xv = .pointer (some ⟨q, 0, none⟩) ∧ nv = .pointer nx ∧ Nd X h q m n ∧ 0 < n ∧ (0 < h → 2 ≤ n) ∧ n ≤ 4 ∧ Way k l pre m post ∧ NextAt X nx post ∧ Below w.heap.size w X
/-- The leaf in which the spot is, and the next node. -/
def LeafPost (w : World) (k : Sp) (l : List Ent) (e : Ending) (w' : World) : Prop := ∃ x nx, e = .returned (.tuple #[.pointer x, .pointer nx]) ∧ Below w.heap.size w w' ∧
  ((l = [] ∧ x = none ∧ nx = none) ∨ ∃ q m pre post, x = some ⟨q, 0, none⟩ ∧ Nd w' 0 q m m.length ∧ 0 < m.length ∧ m.length ≤ 4 ∧ Way k l pre m post ∧ NextAt w' nx post)
set_option maxHeartbeats 3200000 in
set_option maxRecDepth 100000 in
theorem leaf_tree {w : World} {p : Option Addr} {l : List Ent} (h : TreeAt w p l) (ha : Asc l) (k : Sp) :
    Calls Try.prog 70 #[.pointer p, .agg #[.int .i64 k.br, .int .i64 k.vol, .int .i64 k.blk, .int .u64 k.num]] w (LeafPost w k l) := by
  obtain ⟨r, hr, hroot⟩ := root_tree h
  have HR := Lib.hid hr
  have HA := Lib.hid ha
  have HRo := Lib.hid hroot
  clear hr ha hroot h
  go_enter Try.func70, Try.ntmps70
  go_wp2_with fail
  have hbw : Below w.heap.size w (w.alloc (.cells #[.int .i64 k.br, .int .i64 k.vol, .int .i64 k.blk, .int .u64 k.num] 26)) := (Below.refl _ _).alloc (Nat.le_refl _) _
  have hbox := heap_alloc_new w (.cells #[.int .i64 k.br, .int .i64 k.vol, .int .i64 k.blk, .int .u64 k.num] 26)
  refine (HRo.out _ hbw).mono ?_
  rintro e w1 ⟨rfl, rfl⟩
  have HB1 := Lib.hid hbw
  have HR1 := Lib.hid (HR.out.below hbw)
  have zk := (Array.getElem?_eq_some_iff.1 hbox).1
  generalize w.alloc (.cells #[.int .i64 k.br, .int .i64 k.vol, .int .i64 k.blk, .int .u64 k.num] 26) = W at *
  have k0 : W.cell? ⟨w.heap.size, 0, none⟩ = some (.int .i64 k.br) := by simp only [World.cell?, hbox]; rfl
  have k1 : W.cell? ⟨w.heap.size, 1, none⟩ = some (.int .i64 k.vol) := by simp only [World.cell?, hbox]; rfl
  have k2 : W.cell? ⟨w.heap.size, 2, none⟩ = some (.int .i64 k.blk) := by simp only [World.cell?, hbox]; rfl
  have k3 : W.cell? ⟨w.heap.size, 3, none⟩ = some (.int .u64 k.num) := by simp only [World.cell?, hbox]; rfl
  have HK : Hid (∀ X, Below W.heap.size W X → w.heap.size < X.heap.size ∧ X.cell? ⟨w.heap.size, 0, none⟩ = some (.int .i64 k.br) ∧ X.cell? ⟨w.heap.size, 1, none⟩ = some (.int .i64 k.vol) ∧ X.cell? ⟨w.heap.size, 2, none⟩ = some (.int .i64 k.blk) ∧ X.cell? ⟨w.heap.size, 3, none⟩ = some (.int .u64 k.num)) := fun X hX => ⟨Nat.lt_of_lt_of_le zk hX.size, bel_cell hX zk k0, bel_cell hX zk k1, bel_cell hX zk k2, bel_cell hX zk k3⟩
  clear hbw HRo HR k0 k1 k2 k3 zk hbox
  rcases HR1.out with ⟨rfl, rfl⟩ | ⟨q, h, n, rfl, hnd, h0, h2, h4⟩
  · go_wp2_with fail
    go_ret2
    exact ⟨_, _, rfl, HB1.out, .inl ⟨rfl, rfl, rfl⟩⟩
  · go_wp2_with fail
    go_loopw [4, 5] (fun x nx X => DownT W k l x nx X) (fun x _ X => hOf X x)
    case atStart => exact ⟨h, q, n, l, [], [], none, rfl, rfl, hnd, h0, h2, h4, Way.start k l, .inl ⟨rfl, rfl⟩, Below.refl _ _⟩
    case round =>
      obtain ⟨h, q, n, m, pre, post, nx, rfl, rfl, hnd, h0, h2, h4, hway, hnx, hbr⟩ := hrel
      have HN := Lib.hid hnd
      have HW := Lib.hid hway
      have HNx := Lib.hid hnx
      have HBr := Lib.hid hbr
      have hf := hOf_nd hnd
      have HHf := Lib.hid hf
      obtain ⟨zk, y0, y1, y2, y3⟩ := HK.out wr hbr
      clear hway hnx hbr hf
      cases h with
      | zero =>
        obtain ⟨hn, hL⟩ := hnd
        have HL := Lib.hid hL
        clear hL
        go_wp2_with fail
        refine (leaf_yes HL.out).mono ?_
        rintro e w2 ⟨rfl, rfl⟩
        go_wp2_with fail
        go_ret2
        exact ⟨_, _, rfl, HB1.out.trans (HBr.out.mono HB1.out.size), .inr ⟨q, m, pre, post, rfl, ⟨rfl, HL.out⟩, by omega, by omega, HW.out, HNx.out⟩⟩
      | succ h =>
        obtain ⟨qs, ls, hn, rfl, hI, hk⟩ := nd_succ.1 hnd
        have HI := Lib.hid hI
        have HKi := Lib.hid hk
        have hlen := hk.length
        clear hnd hk
        go_wp2_with fail
        refine (leaf_no HI.out).mono ?_
        rintro e w2 ⟨rfl, rfl⟩
        go_wp2_with fail
        refine (find_inner HI.out k (by rw [List.length_map]; omega)).mono ?_
        rintro e w3 ⟨i, b, rfl, hF, hb3⟩
        have HF := Lib.hid hF
        have hi := hF.lt (by rw [List.length_map]; omega)
        rw [List.length_map] at hi
        have hil : i < qs.length := by omega
        have HB3 := Lib.hid hb3
        obtain ⟨A, ca, C, cc, hin⟩ := HI.out.below hb3
        have c2 := hin.c2
        obtain ⟨b1, off, rfl, hblt, hcs⟩ := hin.kids hin.pos
        have hkid := hcs i hil
        have HIl := Lib.hid (show i < ls.length ∧ i < qs.length from ⟨hi, hil⟩)
        have e1 : (i : Int) + 1 ≤ 4 := by omega
        have e0 : (0 : Int) ≤ (i : Int) := by omega
        have HNum := Lib.hid (show n = qs.length ∧ 0 < n ∧ n ≤ 4 from ⟨hn, h0, h4⟩)
        rw [← hn] at c2
        clear hin hF hb3 hI y0 y1 y2 y3 hi
        by_cases hlast : i + 1 < qs.length
        · have hkid2 := hcs (i + 1) hlast
          have hnext := (next_down (i := i) HKi.out HNx.out HIl.out.2).1 hlast hlast
          have f1 : decide ((i : Int) + 1 < (n : Int)) = true := by simp; omega
          have e3 : (0 : Int) ≤ (i : Int) + 1 := by omega
          have e4 : (i : Int) + 1 < (n : Int) := by omega
          have e5 : (i : Int) < (n : Int) := by omega
          generalize hq1 : qs[i]'(_) = q1 at *
          generalize hq2 : qs[i + 1]'(_) = q2 at *
          have HNe := Lib.hid (hnext.below HB3.out)
          have HQ1 : Hid (∀ h : i < qs.length, qs[i]'h = q1) := fun _ => hq1
          clear hcs hnext hlast hil hn hlen hq1 hq2 h0 h2 h4
          go_wp2_with fail
          go_roundw
          case rel =>
            obtain ⟨s, s2, s4, hkd⟩ := HKi.out.get i HIl.out.2 HIl.out.1
            rw [HQ1.out _] at hkd
            exact ⟨h, q1, s, _, _, _, _, rfl, rfl, hkd.below HB3.out, by omega, fun _ => s2, s4, HW.out.down HA.out (kids_ne (by decide) HKi.out) HF.out HIl.out.1, HNe.out, HBr.out.trans (HB3.out.mono HBr.out.size)⟩
          case measure =>
            obtain ⟨s, s2, s4, hkd⟩ := HKi.out.get i HIl.out.2 HIl.out.1
            rw [HQ1.out _] at hkd
            rw [HHf.out, hOf_nd (hkd.below HB3.out)]
            omega
        · have hnext := (next_down (i := i) HKi.out HNx.out HIl.out.2).2 hlast
          have f1 : decide ((i : Int) + 1 < (n : Int)) = false := by simp; omega
          have e5 : (i : Int) < (n : Int) := by omega
          generalize hq1 : qs[i]'(_) = q1 at *
          have HNe := Lib.hid (hnext.below HB3.out)
          have HQ1 : Hid (∀ h : i < qs.length, qs[i]'h = q1) := fun _ => hq1
          clear hcs hnext hlast hil hn hlen hq1 h0 h2 h4
          go_wp2_with fail
          go_roundw
          case rel =>
            obtain ⟨s, s2, s4, hkd⟩ := HKi.out.get i HIl.out.2 HIl.out.1
            rw [HQ1.out _] at hkd
            exact ⟨h, q1, s, _, _, _, _, rfl, rfl, hkd.below HB3.out, by omega, fun _ => s2, s4, HW.out.down HA.out (kids_ne (by decide) HKi.out) HF.out HIl.out.1, HNe.out, HBr.out.trans (HB3.out.mono HBr.out.size)⟩
          case measure =>
            obtain ⟨s, s2, s4, hkd⟩ := HKi.out.get i HIl.out.2 HIl.out.1
            rw [HQ1.out _] at hkd
            rw [HHf.out, hOf_nd (hkd.below HB3.out)]
            omega
end Go.Proofs.Ytainljbkejafcaa.N

/- Floor and ceil over the entries: pure. -/
namespace Go.Proofs.Ytainljbkejafcaa.N
open Go.BigFrame Go.RowKit Go.Proofs.YtainljbkejafcaaW.PrintMore Go.Proofs.YtainljbkejafcaaW.PrintWords
set_option linter.unusedVariables false
set_option linter.unusedSimpArgs false
/-- Those up to a spot, those from it on. -/
def leE (k : Sp) (l : List Ent) : List Ent := l.filter (fun y => !lt k y.1)
def geE (k : Sp) (l : List Ent) : List Ent := l.filter (fun y => !lt y.1 k)
def floorE (k : Sp) (l : List Ent) : Option Ent := (leE k l).getLast?
def ceilE (k : Sp) (l : List Ent) : Option Ent := (geE k l).head?
theorem leE_none {k : Sp} {l : List Ent} (h : ∀ y ∈ l, lt k y.1 = true) : leE k l = [] := List.filter_eq_nil_iff.2 (fun y hy => by simp [h y hy])
theorem geE_all {k : Sp} {l : List Ent} (h : ∀ y ∈ l, lt k y.1 = true) : geE k l = l := List.filter_eq_self.2 (fun y hy => by simp [lt_asy (h y hy)])
theorem leE_all {k : Sp} {l : List Ent} (h : ∀ y ∈ l, lt y.1 k = true) : leE k l = l := List.filter_eq_self.2 (fun y hy => by simp [lt_asy (h y hy)])
theorem geE_none {k : Sp} {l : List Ent} (h : ∀ y ∈ l, lt y.1 k = true) : geE k l = [] := List.filter_eq_nil_iff.2 (fun y hy => by simp [h y hy])
/-- Where Find stands in a leaf. -/
theorem findL_parts (k : Sp) : ∀ {m : List Ent}, Asc m → leE k m = m.take ((findL k (m.map (·.1))).1 + if (findL k (m.map (·.1))).2 = true then 1 else 0) ∧ geE k m = m.drop (findL k (m.map (·.1))).1 ∧ (findL k (m.map (·.1))).1 ≤ m.length ∧ ((findL k (m.map (·.1))).2 = true → (findL k (m.map (·.1))).1 < m.length ∧ ∀ h : (findL k (m.map (·.1))).1 < m.length, (m[(findL k (m.map (·.1))).1]'h).1 = k)
  | [], _ => ⟨rfl, rfl, Nat.le_refl _, fun h => by cases h⟩
  | x :: t, ha => by
    have ha' := ha
    unfold Asc at ha'
    rw [List.pairwise_cons] at ha'
    obtain ⟨h1, h2⟩ := ha'
    rw [List.map_cons, findL]
    by_cases c : ordS x.1 k ≥ 0
    · rw [if_pos c]
      have hge : lt x.1 k = false := by
        rw [← Bool.not_eq_true]
        intro h
        have := lt_ord.1 h
        omega
      have ht : ∀ y ∈ t, lt k y.1 = true := fun y hy => by
        by_cases e : x.1 = k
        · rw [← e]; exact h1 y hy
        · have h3 : 0 < ordS x.1 k := by
            have : ordS x.1 k ≠ 0 := fun h => e ((ordS_zero _ _).1 h)
            omega
          exact lt_tra (ord_pos.1 h3) (h1 y hy)
      refine ⟨?_, ?_, Nat.zero_le _, fun h => ⟨Nat.succ_pos _, fun _ => ?_⟩⟩
      · by_cases e : x.1 = k
        · have e0 := (ordS_zero x.1 k).2 e
          have : lt k x.1 = false := by rw [e]; exact lt_irr k
          simp only [e0]
          rw [leE, List.filter_cons]
          simp only [this]
          have := leE_none ht
          rw [leE] at this
          rw [this]
          simp
        · have e0 : ordS x.1 k ≠ 0 := fun h => e ((ordS_zero _ _).1 h)
          have h3 : lt k x.1 = true := ord_pos.1 (by omega)
          have h4 : (ordS x.1 k == 0) = false := by rw [beq_eq_false_iff_ne]; exact e0
          simp only [h4]
          rw [leE, List.filter_cons]
          simp only [h3]
          have := leE_none ht
          rw [leE] at this
          simp [this]
      · rw [geE, List.filter_cons]
        simp only [hge]
        have := geE_all ht
        rw [geE] at this
        rw [this]
        simp
      · exact (ordS_zero _ _).1 (by simpa using h)
    · rw [if_neg c]
      have hlt : lt x.1 k = true := lt_ord.2 (by omega)
      obtain ⟨a, b, d, e⟩ := findL_parts k (m := t) h2
      refine ⟨?_, ?_, by simp only [List.length_cons]; omega, fun h => ⟨by have := (e h).1; simp only [List.length_cons]; omega, fun _ => ?_⟩⟩
      · rw [leE, List.filter_cons]
        simp only [lt_asy hlt]
        rw [leE] at a
        rw [a, Nat.add_right_comm]
        simp
      · rw [geE, List.filter_cons]
        simp only [hlt]
        rw [geE] at b
        rw [b]
        simp
      · simp only [List.getElem_cons_succ]
        exact (e h).2 (e h).1
theorem Way.asc {k : Sp} {l pre m post : List Ent} (h : Way k l pre m post) (ha : Asc l) : Asc m := by
  rw [h.cut] at ha
  exact (asc_app (asc_app ha).1).2.1
theorem Way.le {k : Sp} {l pre m post : List Ent} (h : Way k l pre m post) : leE k l = pre ++ leE k m := by
  rw [h.cut, leE, List.filter_append, List.filter_append]
  have h1 := leE_all h.lo
  have h2 := leE_none h.hi
  rw [leE] at h1 h2
  rw [h1, h2, List.append_nil, leE]
theorem Way.ge {k : Sp} {l pre m post : List Ent} (h : Way k l pre m post) : geE k l = geE k m ++ post := by
  rw [h.cut, geE, List.filter_append, List.filter_append]
  have h1 := geE_none h.lo
  have h2 := geE_all h.hi
  rw [geE] at h1 h2
  rw [h1, h2, List.nil_append, geE]
theorem Way.has {k : Sp} {l pre m post : List Ent} (h : Way k l pre m post) (ha : Asc l) : hasE k m = hasE k l := by
  rw [Bool.eq_iff_iff, hasE_iff (h.asc ha), hasE_iff ha]
  constructor
  · rintro ⟨x, hx, e⟩
    exact ⟨x, by rw [h.cut]; simp [hx], e⟩
  · rintro ⟨x, hx, e⟩
    rw [h.cut] at hx
    rcases List.mem_append.1 hx with hx | hx
    · rcases List.mem_append.1 hx with hx | hx
      · have := h.lo x hx; rw [e, lt_irr] at this; cases this
      · exact ⟨x, hx, e⟩
    · have := h.hi x hx; rw [e, lt_irr] at this; cases this
/-- The floor is in the leaf. -/
theorem Way.floor {k : Sp} {l pre m post : List Ent} (h : Way k l pre m post) (hm : m ≠ []) : floorE k l = floorE k m := by
  unfold floorE
  rw [h.le]
  by_cases hp : pre = []
  · rw [hp, List.nil_append]
  · have h1 := h.at' hp
    have : leE k m ≠ [] := by
      cases m with
      | nil => exact absurd rfl hm
      | cons x t =>
        rw [leE, List.filter_cons]
        simp only [hd] at h1
        simp [h1]
    rw [List.getLast?_append]
    cases hl : (leE k m).getLast? with
    | none => exact absurd (List.getLast?_eq_none_iff.1 hl) this
    | some y => rfl
theorem floor_leaf {k : Sp} {m : List Ent} (ha : Asc m) {i : Nat} {b : Bool} (hf : findL k (m.map (·.1)) = (i, b)) : floorE k m = if b = true then m[i]? else if i = 0 then none else m[i - 1]? := by
  have h := (findL_parts k ha).1
  have h2 := (findL_parts k ha).2.2
  rw [hf] at h h2
  simp only at h h2
  unfold floorE
  rw [h]
  cases b with
  | true =>
    have := (h2.2 rfl).1
    rw [if_pos rfl, if_pos rfl, List.getLast?_eq_getElem?, List.getElem?_take, List.length_take]
    rw [show min (i + 1) m.length - 1 = i by omega, if_pos (by omega)]
  | false =>
    rw [if_neg (by decide), if_neg (by decide), Nat.add_zero, List.getLast?_eq_getElem?, List.length_take, List.getElem?_take]
    have := h2.1
    by_cases h0 : i = 0
    · rw [if_pos h0, if_neg (by omega)]
    · rw [if_neg h0, show min i m.length - 1 = i - 1 by omega, if_pos (by omega)]
theorem ceil_leaf {k : Sp} {m : List Ent} (ha : Asc m) {i : Nat} {b : Bool} (hf : findL k (m.map (·.1)) = (i, b)) : ceilE k m = m[i]? := by
  have h := (findL_parts k ha).2.1
  rw [hf] at h
  unfold ceilE
  rw [h, List.head?_drop]
theorem Way.ceil {k : Sp} {l pre m post : List Ent} (h : Way k l pre m post) : ceilE k l = (ceilE k m).or post.head? := by
  unfold ceilE
  rw [h.ge]
  cases geE k m <;> simp
/-- The first of what stands behind: found again by its own spot. -/
theorem ceil_self {l : List Ent} (ha : Asc l) {x : Ent} (hx : x ∈ l) : ceilE x.1 l = some x := by
  induction l with
  | nil => cases hx
  | cons y t ih =>
    unfold Asc at ha
    obtain ⟨h1, h2⟩ := List.pairwise_cons.1 ha
    rcases List.mem_cons.1 hx with rfl | hx
    · simp [ceilE, geE, lt_irr]
    · have := h1 x hx
      have h3 := ih h2 hx
      simp only [ceilE, geE, List.filter_cons, this] at h3 ⊢
      simpa using h3
/-- The value at a spot; none: zero. -/
def valE (k : Sp) (l : List Ent) : Int := match l.find? (fun y => decide (y.1 = k)) with
  | some y => y.2
  | none => 0
theorem valE_at {k : Sp} {l : List Ent} (ha : Asc l) {x : Ent} (hx : x ∈ l) (e : x.1 = k) : valE k l = x.2 := by
  induction l with
  | nil => cases hx
  | cons y t ih =>
    unfold Asc at ha
    obtain ⟨h1, h2⟩ := List.pairwise_cons.1 ha
    rcases List.mem_cons.1 hx with rfl | hx
    · simp [valE, e]
    · have := h1 x hx
      have hne : y.1 ≠ k := fun h => by rw [h, ← e, lt_irr] at this; cases this
      have h3 := ih h2 hx
      simp only [valE, List.find?_cons, hne, decide_false] at h3 ⊢
      exact h3
theorem valE_none {k : Sp} {l : List Ent} (ha : Asc l) (h : hasE k l = false) : valE k l = 0 := by
  have : l.find? (fun y => decide (y.1 = k)) = none := by
    rw [List.find?_eq_none]
    intro y hy e
    have := (hasE_iff ha).2 ⟨y, hy, by simpa using e⟩
    rw [h] at this; cases this
  simp [valE, this]
end Go.Proofs.Ytainljbkejafcaa.N

/- Get, near, Floor, Ceil of a tree. -/
namespace Go.Proofs.Ytainljbkejafcaa.N
open Go.BigFrame Go.RowKit Go.Proofs.YtainljbkejafcaaW.PrintMore Go.Proofs.YtainljbkejafcaaW.PrintWords
set_option linter.unusedVariables false
set_option linter.unusedSimpArgs false
set_option maxHeartbeats 1600000 in
set_option maxRecDepth 100000 in
theorem find_none (w : World) (k : Sp) : Calls Try.prog 23 #[.pointer none, .agg #[.int .i64 k.br, .int .i64 k.vol, .int .i64 k.blk, .int .u64 k.num]] w fun e w' => e = .returned (.tuple #[.int .i64 0, .bool false]) ∧ Below w.heap.size w w' := by
  go_enter Try.func23, Try.ntmps23
  go_wp2_with fail
  refine bodyPost_ret (v := .tuple #[.int .i64 0, .bool false]) (by rw [results_cell_cell rfl]; go_simp) rfl ?_
  exact ⟨rfl, (((Below.refl _ _).alloc (Nat.le_refl _) _).alloc (by simp) _).alloc (by simp; omega) _⟩
/-- Find over a leaf's entries. -/
theorem find_ents {w : World} {q : Nat} {m : List Ent} (h : Leaf w q (m.map (·.1)) (m.map (·.2))) (h4 : m.length ≤ 4) (k : Sp) :
    ∃ i b, findL k (m.map (·.1)) = (i, b) ∧ ∀ X, Below w.heap.size w X → Calls Try.prog 23 #[.pointer (some ⟨q, 0, none⟩), .agg #[.int .i64 k.br, .int .i64 k.vol, .int .i64 k.blk, .int .u64 k.num]] X fun e w' => e = .returned (.tuple #[.int .i64 i, .bool b]) ∧ Below X.heap.size X w' :=
  ⟨_, _, rfl, fun X hX => find_leaf (h.below hX) k (by rw [List.length_map]; omega)⟩
theorem box_cells {w X : World} {k : Sp} {b : Nat} {T : TypeId} (hbox : w.heap[b]? = some (.cells #[.int .i64 k.br, .int .i64 k.vol, .int .i64 k.blk, .int .u64 k.num] T (0, 0))) (hX : Below w.heap.size w X) :
    X.cell? ⟨b, 0, none⟩ = some (.int .i64 k.br) ∧ X.cell? ⟨b, 1, none⟩ = some (.int .i64 k.vol) ∧ X.cell? ⟨b, 2, none⟩ = some (.int .i64 k.blk) ∧ X.cell? ⟨b, 3, none⟩ = some (.int .u64 k.num) ∧ b < X.heap.size := by
  have hl := (Array.getElem?_eq_some_iff.1 hbox).1
  have h2 := (hX.block b hl).trans hbox
  have := hX.size
  exact ⟨by simp only [World.cell?, h2]; rfl, by simp only [World.cell?, h2]; rfl, by simp only [World.cell?, h2]; rfl, by simp only [World.cell?, h2]; rfl, by omega⟩
set_option maxHeartbeats 3200000 in
set_option maxRecDepth 100000 in
theorem get_tree {w : World} {p : Option Addr} {l : List Ent} (h : TreeAt w p l) (ha : Asc l) (k : Sp) :
    Calls Try.prog 45 #[.pointer p, .agg #[.int .i64 k.br, .int .i64 k.vol, .int .i64 k.blk, .int .u64 k.num]] w fun e w' => e = .returned (.tuple #[.int .u64 (valE k l), .bool (hasE k l)]) ∧ Below w.heap.size w w' := by
  have hbw : Below w.heap.size w (w.alloc (.cells #[.int .i64 k.br, .int .i64 k.vol, .int .i64 k.blk, .int .u64 k.num] 26)) := (Below.refl _ _).alloc (Nat.le_refl _) _
  have hbox := heap_alloc_new w (.cells #[.int .i64 k.br, .int .i64 k.vol, .int .i64 k.blk, .int .u64 k.num] 26)
  have HL := Lib.hid (leaf_tree (h.below hbw) ha k)
  have HA := Lib.hid ha
  clear h ha
  go_enter Try.func45, Try.ntmps45
  go_wp2_with fail
  refine HL.out.mono ?_
  generalize w.alloc (.cells #[.int .i64 k.br, .int .i64 k.vol, .int .i64 k.blk, .int .u64 k.num] 26) = W at *
  rintro e w1 ⟨x, nx, rfl, hb1, hl⟩
  obtain ⟨k0, k1, k2, k3, zk⟩ := box_cells hbox hb1
  have HB1 := Lib.hid (hbw.trans (hb1.mono hbw.size))
  have HL1 := Lib.hid hl
  clear hl hbw hb1 hbox HL
  rcases HL1.out with ⟨rfl, rfl, rfl⟩ | ⟨q, m, pre, post, rfl, hnd, h0, h4, hway, hnx⟩
  · have HF := Lib.hid (find_none w1 k)
    have hv : valE k [] = 0 := rfl
    have hh : hasE k [] = false := rfl
    have HV := Lib.hid (And.intro hv hh)
    clear hv hh
    go_wp2_with fail
    refine HF.out.mono ?_
    rintro e w2 ⟨rfl, hb2⟩
    have HB2 := Lib.hid (HB1.out.trans (hb2.mono HB1.out.size))
    clear hb2
    go_wp2_with fail
    go_ret2
    exact ⟨by rw [HV.out.1, HV.out.2]; rfl, HB2.out⟩
  · obtain ⟨i, b, hf, hF⟩ := find_ents hnd.2 h4 k
    have HF := Lib.hid hF
    have ham := hway.asc HA.out
    have hb : b = hasE k l := by rw [← hway.has HA.out, ← findL_has, hf]
    have hpt := (findL_parts k ham).2.2.2
    rw [hf] at hpt
    simp only at hpt
    have HNd := Lib.hid hnd.2
    have HW := Lib.hid hway
    have HHb := Lib.hid hb
    have HPt := Lib.hid hpt
    have HAm := Lib.hid ham
    have h4' := Lib.hid h4
    clear hF hnd hway hb hpt ham h4
    go_wp2_with fail
    refine (HF.out w1 (Below.refl _ _)).mono ?_
    rintro e w2 ⟨rfl, hb2⟩
    have HB2 := Lib.hid (HB1.out.trans (hb2.mono HB1.out.size))
    cases b with
    | true =>
      obtain ⟨hi, he⟩ := HPt.out rfl
      have he := he hi
      obtain ⟨A, ca, B, cb, hh⟩ := HNd.out.below hb2
      have c1 := hh.c1
      rw [List.length_map] at c1
      obtain ⟨b1, off, rfl, hlt, hc⟩ := hh.vals (by rw [List.length_map]; exact h0)
      have v1 := hc i (by rw [List.length_map]; exact hi)
      rw [List.getElem_map] at v1
      have hval : valE k l = m[i].2 := valE_at HA.out (by rw [HW.out.cut]; simp) he
      have hhas : hasE k l = true := HHb.out.symm
      have HV := Lib.hid (And.intro hval hhas)
      have e1 : (i : Int) < (m.length : Int) := by omega
      have e0 : (0 : Int) ≤ (i : Int) := by omega
      clear hh hc hb2 hlt hval hhas he k0 k1 k2 k3 hf HPt
      generalize m[i].2 = v at *
      obtain ⟨n, hn⟩ : ∃ n, m.length = n := ⟨_, rfl⟩
      rw [hn] at c1 e1
      clear hn
      go_wp2_with fail
      go_ret2
      exact ⟨by rw [HV.out.1, HV.out.2]; rfl, HB2.out⟩
    | false =>
      have hhas : hasE k l = false := HHb.out.symm
      have HV := Lib.hid (And.intro (valE_none HA.out hhas) hhas)
      clear hb2 hhas
      go_wp2_with fail
      go_ret2
      exact ⟨by rw [HV.out.1, HV.out.2]; rfl, HB2.out⟩
end Go.Proofs.Ytainljbkejafcaa.N

/- The document's lists of items in memory. -/
namespace Go.Proofs.Ytainljbkejafcaa.N
open Go.BigFrame Go.RowKit Go.Proofs.YtainljbkejafcaaW.PrintMore Go.Proofs.YtainljbkejafcaaW.PrintWords
set_option linter.unusedVariables false
set_option linter.unusedSimpArgs false
set_option maxRecDepth 100000 in
theorem it_eqIn (x y : Ent) (W : World) (d : Nat) : (Op.equalIn (d + 4) 92 (.agg #[.int .i64 x.1.br, .int .i64 x.1.vol, .int .i64 x.1.blk, .int .u64 x.1.num, .int .u64 x.2]) (.agg #[.int .i64 y.1.br, .int .i64 y.1.vol, .int .i64 y.1.blk, .int .u64 y.1.num, .int .u64 y.2])).run Try.prog W = .ok (decide (x = y)) W := by
  have e : decide (x = y) = (decide (x.1 = y.1) && (x.2 == y.2)) := by
    rw [Bool.eq_iff_iff]
    simp [Prod.ext_iff]
  rw [e]
  refine eqA_of Try.underlying92 (by kernel_rfl) ?_
  refine eqf_cons rfl (a := .agg #[.int .i64 x.1.br, .int .i64 x.1.vol, .int .i64 x.1.blk, .int .u64 x.1.num]) (b := .agg #[.int .i64 y.1.br, .int .i64 y.1.vol, .int .i64 y.1.blk, .int .u64 y.1.num]) (by rfl) (by rfl) (sp_eqIn x.1 y.1 W d) ?_
  exact eqf_last rfl (a := .int .u64 x.2) (b := .int .u64 y.2) (by rfl) (by rfl) (by rfl)
set_option maxRecDepth 100000 in
theorem it_ne (x y : Ent) (W : World) : (binOp .neq 92 (.agg #[.int .i64 x.1.br, .int .i64 x.1.vol, .int .i64 x.1.blk, .int .u64 x.1.num, .int .u64 x.2]) (.agg #[.int .i64 y.1.br, .int .i64 y.1.vol, .int .i64 y.1.blk, .int .u64 y.1.num, .int .u64 y.2])).run Try.prog W = .ok (.bool (!decide (x = y))) W := by
  have h2 := it_eqIn x y W (Op.maxDepth - 4)
  rw [show Op.maxDepth - 4 + 4 = Op.maxDepth from by decide] at h2
  show ((Op.equal 92 _ _) >>= fun r => pure (Value.bool !r)).run Try.prog W = _
  simp only [Op.equal, Sem.run_bind, h2, Result.andThen_ok, Sem.run_pure]
def ItemAt (w : World) (b o : Nat) (x : Ent) : Prop := w.cell? ⟨b, o, none⟩ = some (.int .i64 x.1.br) ∧ w.cell? ⟨b, o + 1, none⟩ = some (.int .i64 x.1.vol) ∧ w.cell? ⟨b, o + 2, none⟩ = some (.int .i64 x.1.blk) ∧ w.cell? ⟨b, o + 3, none⟩ = some (.int .u64 x.1.num) ∧ w.cell? ⟨b, o + 4, none⟩ = some (.int .u64 x.2)
def ItemsAt (w : World) (A : Option Addr) (l : List Ent) : Prop := 0 < l.length → ∃ b off, A = some ⟨b, off, none⟩ ∧ b < w.heap.size ∧ ∀ j (h : j < l.length), ItemAt w b (off + j * 5) l[j]
theorem ItemAt.below {B : Nat} {w w' : World} {b o : Nat} {x : Ent} (h : ItemAt w b o x) (hb : Below B w w') (hlt : b < B) : ItemAt w' b o x := ⟨bel_cell hb hlt h.1, bel_cell hb hlt h.2.1, bel_cell hb hlt h.2.2.1, bel_cell hb hlt h.2.2.2.1, bel_cell hb hlt h.2.2.2.2⟩
theorem ItemsAt.below {w w' : World} {A : Option Addr} {l : List Ent} (h : ItemsAt w A l) (hb : Below w.heap.size w w') : ItemsAt w' A l := fun hl => by
  obtain ⟨b, off, e, hlt, hc⟩ := h hl
  have := hb.size
  exact ⟨b, off, e, by omega, fun j hj => (hc j hj).below hb hlt⟩
def itV (x : Ent) : List Value := [.int .i64 x.1.br, .int .i64 x.1.vol, .int .i64 x.1.blk, .int .u64 x.1.num, .int .u64 x.2]
def its (l : List Ent) : List Value := l.flatMap itV
theorem its_len (l : List Ent) : (its l).length = l.length * 5 := by
  induction l with
  | nil => rfl
  | cons x t ih => simp only [its, List.flatMap_cons, List.length_append, List.length_cons] at ih ⊢; rw [ih]; simp [itV]; omega
theorem its_app (a b : List Ent) : its (a ++ b) = its a ++ its b := by simp [its]
theorem its_get {l : List Ent} {j : Nat} (h : j < l.length) (i : Nat) (hi : i < 5) : (its l)[j * 5 + i]? = (itV l[j])[i]? := by
  induction l generalizing j with
  | nil => simp at h
  | cons x t ih =>
    simp only [its, List.flatMap_cons]
    cases j with
    | zero => rw [Nat.zero_mul, Nat.zero_add, List.getElem?_append_left (by simp [itV]; omega)]; rfl
    | succ j =>
      rw [List.getElem?_append_right (by simp [itV]; omega)]
      have e : (j + 1) * 5 + i - (itV x).length = j * 5 + i := by simp [itV]; omega
      rw [e]
      simp only [List.getElem_cons_succ]
      exact ih (by simpa using h)
theorem its_own {w : World} {B n : Nat} {v : Value} {l : List Ent} (h : w.ownsRow B 92 5 v n (its l)) (hn : l.length = n) : ∃ A c, v = .slice A n c ∧ n ≤ c ∧ c ≤ maxLen ∧ ItemsAt w A l ∧ (A = none → n = 0 ∧ c = 0) := by
  rcases h.2 with ⟨rfl, e⟩ | ⟨g, cap, cur, rfl, hg, hh, h1, h2, h3, h4⟩
  · exact ⟨none, 0, by rw [e], by omega, by simp [maxLen], fun hl => by omega, fun _ => ⟨e, rfl⟩⟩
  · refine ⟨_, cap, rfl, h1, h2, fun hl => ⟨g, 0, rfl, (Array.getElem?_eq_some_iff.1 hh).1, fun j hj => ?_⟩, fun e => by cases e⟩
    rw [Nat.zero_add]
    refine ⟨?_, ?_, ?_, ?_, ?_⟩
    · rw [← Nat.add_zero (j * 5), h.cellAt _ (by omega), its_get hj 0 (by omega)]; rfl
    · rw [h.cellAt _ (by omega), its_get hj 1 (by omega)]; rfl
    · rw [h.cellAt _ (by omega), its_get hj 2 (by omega)]; rfl
    · rw [h.cellAt _ (by omega), its_get hj 3 (by omega)]; rfl
    · rw [h.cellAt _ (by omega), its_get hj 4 (by omega)]; rfl
set_option maxRecDepth 100000 in
theorem infoI : (Try.prog.info? 92).map (fun i => (i.zero, i.size, i.bytes)) = some (some (.agg #[.int .i64 0, .int .i64 0, .int .i64 0, .int .u64 0, .int .u64 0]), 5, 40) := by kernel_rfl
set_option maxRecDepth 100000 in
/-- append of one item, which was built now. -/
theorem app_I1 {w : World} (B : Nat) (v : Value) (n : Nat) (l : List Ent) (hown : w.ownsRow B 92 5 v n (its l)) (hB : B ≤ w.heap.size) (hn : n ≤ 1000) (x : Ent) (ty : TypeId) :
    ∃ A' c' w', (Builtin.append_ #[67, 67] ty #[v, .slice (some ⟨w.heap.size, 0, none⟩) 1 1]).run Try.prog (w.alloc (.cells #[.int .i64 x.1.br, .int .i64 x.1.vol, .int .i64 x.1.blk, .int .u64 x.1.num, .int .u64 x.2] 92)) = .ok (.slice A' (n + 1) c') w' ∧ w'.ownsRow B 92 5 (.slice A' (n + 1) c') (n + 1) (its (l ++ [x])) ∧ Below B w w' := by
  obtain ⟨i0, hi0, hz0, hz1, hz2⟩ := info_parts infoI
  have ho : (w.alloc (.cells #[.int .i64 x.1.br, .int .i64 x.1.vol, .int .i64 x.1.blk, .int .u64 x.1.num, .int .u64 x.2] 92)).ownsRow B 92 5 v n (its l) := own_stay hown (fun q hq => ((Below.refl w.heap.size w).alloc (Nat.le_refl _) _).block q (own_lt hown q hq))
  have hc := Blk.new w #[.int .i64 x.1.br, .int .i64 x.1.vol, .int .i64 x.1.blk, .int .u64 x.1.num, .int .u64 x.2] 92
  obtain ⟨v', w', r1, r2, r3, _, r4⟩ := run_append_own_at (P := Try.prog) (w.alloc (.cells #[.int .i64 x.1.br, .int .i64 x.1.vol, .int .i64 x.1.blk, .int .u64 x.1.num, .int .u64 x.2] 92)) B 67 ty 92 i0 (.agg #[.int .i64 0, .int .i64 0, .int .i64 0, .int .u64 0, .int .u64 0]) 5 40 Try.underlying67 hi0 hz0 hz1 hz2 rfl (by decide) v n (its l) ho ⟨w.heap.size, 0, none⟩ 1 1 (itV x) rfl (fun j u hj => by
    obtain ⟨hj1, hj2⟩ := List.getElem?_eq_some_iff.1 hj
    have hj5 : j < 5 := by simpa [itV] using hj1
    have ea : (⟨w.heap.size, 0, none⟩ : Addr).add j = ⟨w.heap.size, j, none⟩ := by
      unfold Addr.add
      split
      · subst_vars; rfl
      · simp
    rw [ea, hc.cell j, ← hj]
    simp [itV]) (by simp [itV, Value.oneCell']) (by simp only [maxLen]; omega) (by omega) (by rw [World.size_alloc]; omega)
  have hf : ∃ A' c', v' = .slice A' (n + 1) c' := by
    rcases r2.2 with ⟨rfl, e⟩ | ⟨g, cap, cur, rfl, _⟩
    · exact ⟨none, 0, by rw [e]⟩
    · exact ⟨_, cap, rfl⟩
  obtain ⟨A', c', rfl⟩ := hf
  refine ⟨A', c', w', r1, ?_, ((Below.refl B w).alloc hB _).grown r3 (by rw [World.size_alloc]; omega) (own_ge hown)⟩
  rw [its_app]
  simpa [its] using r2
set_option maxHeartbeats 1600000 in
set_option maxRecDepth 100000 in
theorem before25 (a b : Sp) (w : World) : Calls Try.prog 69 #[.agg #[.int .i64 a.br, .int .i64 a.vol, .int .i64 a.blk, .int .u64 a.num], .agg #[.int .i64 b.br, .int .i64 b.vol, .int .i64 b.blk, .int .u64 b.num]] w fun e w' => e = .returned (.bool (lt a b)) ∧ Below w.heap.size w w' := by
  have HB := Lib.hid (((Below.refl w.heap.size w).alloc (Nat.le_refl _) (.cells #[.int .i64 a.br, .int .i64 a.vol, .int .i64 a.blk, .int .u64 a.num] 26)).alloc (by simp) (.cells #[.int .i64 b.br, .int .i64 b.vol, .int .i64 b.blk, .int .u64 b.num] 26))
  have HT := Lib.hid (lt_iff a b)
  obtain ⟨a0, a1, a2, a3⟩ := a
  obtain ⟨b0, b1, b2, b3⟩ := b
  simp only at HB HT ⊢
  by_cases h0 : a0 = b0
  · subst h0
    by_cases h1 : a1 = b1
    · subst h1
      by_cases h2 : a2 = b2
      · subst h2
        go_enter Try.func69, Try.ntmps69
        go_wp2_with fail
        all_goals (
          go_ret
          refine ⟨?_, HB.out⟩
          have h := HT.out
          show Ending.returned (.bool _) = Ending.returned (.bool _)
          congr 2
          rw [Bool.eq_iff_iff, h]
          simp)
      · go_enter Try.func69, Try.ntmps69
        go_wp2_with fail
        all_goals (
          go_ret
          refine ⟨?_, HB.out⟩
          have h := HT.out
          show Ending.returned (.bool _) = Ending.returned (.bool _)
          congr 2
          rw [Bool.eq_iff_iff, h]
          simp
          omega)
    · go_enter Try.func69, Try.ntmps69
      go_wp2_with fail
      all_goals (
        go_ret
        refine ⟨?_, HB.out⟩
        have h := HT.out
        show Ending.returned (.bool _) = Ending.returned (.bool _)
        congr 2
        rw [Bool.eq_iff_iff, h]
        simp
        omega)
  · go_enter Try.func69, Try.ntmps69
    go_wp2_with fail
    all_goals (
      go_ret
      refine ⟨?_, HB.out⟩
      have h := HT.out
      show Ending.returned (.bool _) = Ending.returned (.bool _)
      congr 2
      rw [Bool.eq_iff_iff, h]
      simp
      omega)
end Go.Proofs.Ytainljbkejafcaa.N

/- The document's Same, Del, Put over lists of items. -/
namespace Go.Proofs.Ytainljbkejafcaa.N
open Go.BigFrame Go.RowKit Go.Proofs.YtainljbkejafcaaW.PrintMore Go.Proofs.YtainljbkejafcaaW.PrintWords
set_option linter.unusedVariables false
set_option linter.unusedSimpArgs false
/-- Are the first j the same? -/
def SameTo (a b : List Ent) (j : Nat) : Prop := a.take j = b.take j
set_option maxHeartbeats 3200000 in
set_option maxRecDepth 100000 in
theorem same25 {w : World} {A B : Option Addr} {a b : List Ent} {n m c d : Nat} (ha : ItemsAt w A a) (hb : ItemsAt w B b) (hn : a.length = n) (hm : b.length = m) (hl : n ≤ 1000) :
    Calls Try.prog 39 #[.slice A n c, .slice B m d] w fun e w' => e = .returned (.bool (decide (a = b))) ∧ Below w.heap.size w w' := by
  have HA := Lib.hid ha
  have HB := Lib.hid hb
  have HN := Lib.hid hn
  have HM := Lib.hid hm
  clear ha hb hn hm
  go_enter Try.func39, Try.ntmps39
  by_cases hnm : n = m
  case neg =>
    have f1 : ((n : Int) == (m : Int)) = false := by rw [beq_eq_false_iff_ne]; omega
    have f2 : ¬ ((n : Int) = (m : Int)) := by omega
    have hab : decide (a = b) = false := by simp; intro e; have := HN.out; have := HM.out; rw [e] at *; omega
    have HAb := Lib.hid hab
    clear hnm hab
    go_wp2_with fail
    go_ret
    exact ⟨by rw [HAb.out]; rfl, Below.refl _ _⟩
  subst hnm
  go_wp2_with fail
  go_loopw [5] (fun i X => ∃ j : Nat, i = .int .i64 j ∧ j ≤ n ∧ SameTo a b j ∧ Below w.heap.size w X) (fun i _ => (n - intOf i).toNat)
  case atStart => exact ⟨0, rfl, Nat.zero_le _, by simp [SameTo], Below.refl _ _⟩
  case round =>
    obtain ⟨j, rfl, hj, hs, hbr⟩ := hrel
    have HBr := Lib.hid hbr
    have HS := Lib.hid hs
    clear hs
    by_cases hjn : j < n
    · have hja : j < a.length := by rw [HN.out]; exact hjn
      have hjb : j < b.length := by rw [HM.out]; exact hjn
      obtain ⟨ga, oa, rfl, la, ca⟩ := (HA.out.below hbr) (by omega)
      obtain ⟨gb, ob, rfl, lb, cb⟩ := (HB.out.below hbr) (by omega)
      obtain ⟨s0, s1, s2, s3, s4⟩ := ca j hja
      obtain ⟨r0, r1, r2, r3, r4⟩ := cb j hjb
      obtain ⟨x, hx⟩ : ∃ x, a[j] = x := ⟨_, rfl⟩
      obtain ⟨y, hy⟩ : ∃ y, b[j] = y := ⟨_, rfl⟩
      rw [hx] at s0 s1 s2 s3 s4
      rw [hy] at r0 r1 r2 r3 r4
      have HX : Hid (∀ (h1 : j < a.length) (h2 : j < b.length), a[j]'h1 = x ∧ b[j]'h2 = y) := fun _ _ => ⟨hx, hy⟩
      have e1 : (0 : Int) ≤ (j : Int) := by omega
      have e2 : (j : Int) < (n : Int) := by omega
      have HE : ∀ W, _ := fun W => it_ne x y W
      clear hx hy ca cb la lb hja hjb hbr
      have z0 := cls_cell s0
      have z1 := cls_cell s1
      have z2 := cls_cell s2
      have z3 := cls_cell s3
      have z4 := cls_cell s4
      have y0 := cls_cell r0
      have y1 := cls_cell r1
      have y2 := cls_cell r2
      have y3 := cls_cell r3
      have y4 := cls_cell r4
      have := cls_ne wr
      clear s0 s1 s2 s3 s4 r0 r1 r2 r3 r4
      go_wp2_with fail
      refine wp_region_cls (S := Below wr.heap.size wr) (by kernel_rfl) (by kernel_rfl) (bel_drewN _ _ (n := 1)) ?_
      repeat (go_big_quiet_step (fail))
      refine wpQuiet_nil ?_
      rintro w5 ⟨⟨_, hx5⟩, rfl⟩
      try dsimp only
      have HX5 := Lib.hid hx5
      clear z0 z1 z2 z3 z4 y0 y1 y2 y3 y4 this HE hx5
      by_cases hxy : x = y
      · subst hxy
        have f1 : decide (x = x) = true := by simp
        rw [f1]
        clear f1
        go_wp2_with fail
        go_roundw
        case rel =>
          refine ⟨j + 1, by simp, hjn, ?_, HBr.out.trans (HX5.out.mono HBr.out.size)⟩
          have ha1 : j < a.length := by rw [HN.out]; exact hjn
          have hb1 : j < b.length := by rw [HM.out]; exact hjn
          have h1 := HS.out
          unfold SameTo at h1 ⊢
          rw [List.take_succ_eq_append_getElem ha1, List.take_succ_eq_append_getElem hb1, h1, (HX.out ha1 hb1).1, (HX.out ha1 hb1).2]
        case measure => (simp [intOf] <;> omega)
      · have f1 : decide (x = y) = false := by simp [hxy]
        have hab : decide (a = b) = false := by
          simp only [decide_eq_false_iff_not]
          intro e
          subst e
          have hj1 : j < a.length := by rw [HN.out]; exact hjn
          exact hxy ((HX.out hj1 hj1).1.symm.trans (HX.out hj1 hj1).2)
        have HAb := Lib.hid hab
        clear hab
        rw [f1]
        clear f1 hxy
        go_wp2_with fail
        go_ret
        exact ⟨by rw [HAb.out]; rfl, HBr.out.trans (HX5.out.mono HBr.out.size)⟩
    · obtain rfl : j = n := by omega
      have hab : decide (a = b) = true := by
        have h1 := HS.out
        unfold SameTo at h1
        rw [List.take_of_length_le (by rw [HN.out]; exact Nat.le_refl _), List.take_of_length_le (by rw [HM.out]; exact Nat.le_refl _)] at h1
        simp [h1]
      have HAb := Lib.hid hab
      clear hab hbr
      go_wp2_with fail
      go_ret
      exact ⟨by rw [HAb.out]; rfl, HBr.out⟩
/-- The spots that are not k. -/
def notK (k : Sp) (l : List Ent) : List Ent := l.filter (fun y => !decide (y.1 = k))
theorem notK_del {k : Sp} : ∀ {l : List Ent}, Asc l → notK k l = delE k l
  | [], _ => rfl
  | x :: t, ha => by
    unfold Asc at ha
    rw [List.pairwise_cons] at ha
    obtain ⟨h1, h2⟩ := ha
    have ih := notK_del (k := k) (l := t) h2
    rw [notK, List.filter_cons, delE]
    unfold notK at ih
    by_cases e : x.1 = k
    · have hne : ∀ y ∈ t, (!decide (y.1 = k)) = true := fun y hy => by
        have := h1 y hy
        rw [e] at this
        have := (lt_ne this).symm
        simp [this]
      rw [List.filter_eq_self.2 hne]
      simp [e, lt_irr]
    · simp only [e, decide_false, Bool.not_false, if_true, ih]
      split
      · rfl
      · rename_i hlt
        rw [← ih, List.filter_eq_self.2]
        · rfl
        · intro y hy
          have h3 := h1 y hy
          have hk : lt k x.1 = true := by
            rw [← Bool.not_eq_false]
            intro h4
            exact e (lt_tot (by simpa using hlt) h4)
          have := (lt_ne (lt_tra hk h3)).symm
          simp [this]
/-- A list that is handed back: its row is a new one. -/
def ItemsPost (w : World) (l : List Ent) (e : Ending) (w' : World) : Prop := ∃ A c, e = .returned (.slice A l.length c) ∧ ItemsAt w' A l ∧ (A = none → l.length = 0 ∧ c = 0) ∧ Below w.heap.size w w'
def DelRel (B : Nat) (k : Sp) (l : List Ent) (n : Nat) (o i : Value) (X : World) : Prop := ∃ (j : Nat) (A : Option Addr) (c : Nat), i = .int .i64 j ∧ j ≤ n ∧ o = .slice A (notK k (l.take j)).length c ∧ X.ownsRow B 92 5 (.slice A (notK k (l.take j)).length c) (notK k (l.take j)).length (its (notK k (l.take j)))
set_option maxHeartbeats 3200000 in
set_option maxRecDepth 100000 in
theorem del25 {w : World} {A : Option Addr} {l : List Ent} {n c : Nat} (ha : ItemsAt w A l) (hn : l.length = n) (hl : n ≤ 900) (hs : Asc l) (k : Sp) :
    Calls Try.prog 42 #[.slice A n c, .agg #[.int .i64 k.br, .int .i64 k.vol, .int .i64 k.blk, .int .u64 k.num]] w (ItemsPost w (delE k l)) := by
  have HA := Lib.hid ha
  have HN := Lib.hid hn
  have HS := Lib.hid hs
  have HL := Lib.hid hl
  clear ha hn hs
  go_enter Try.func42, Try.ntmps42
  have hbw : Below w.heap.size w (w.alloc (.cells #[.int .i64 k.br, .int .i64 k.vol, .int .i64 k.blk, .int .u64 k.num] 26)) := (Below.refl _ _).alloc (Nat.le_refl _) _
  have hbox := Blk.new w #[.int .i64 k.br, .int .i64 k.vol, .int .i64 k.blk, .int .u64 k.num] 26
  go_upto_block 0 with fail
  generalize w.alloc (.cells #[.int .i64 k.br, .int .i64 k.vol, .int .i64 k.blk, .int .u64 k.num] 26) = W at *
  have HBw := Lib.hid hbw
  have hzw : w.heap.size < W.heap.size := hbox.lt
  go_wp2_with fail
  go_loopw [5, 6] (fun o i X => Below W.heap.size W X ∧ DelRel W.heap.size k l n o i X) (fun _ i _ => (n - intOf i).toNat)
  case atStart => exact ⟨Below.refl _ _, 0, none, 0, rfl, Nat.zero_le _, by simp [notK], by simpa [notK, its] using World.ownsRow_nil W W.heap.size 92 5⟩
  case round =>
    obtain ⟨hbW, j, Ao, co, rfl, hj, rfl, hown⟩ := hrel
    have hbr := HBw.out.trans (hbW.mono HBw.out.size)
    have HBr := Lib.hid hbr
    have HBW := Lib.hid hbW
    have HO := Lib.hid hown
    have hNl : (notK k (l.take j)).length ≤ j := by
      have h1 : (notK k (l.take j)).length ≤ (l.take j).length := List.length_filter_le _ _
      rw [List.length_take] at h1
      omega
    obtain ⟨K, hK⟩ : ∃ K, (notK k (l.take j)).length = K := ⟨_, rfl⟩
    have HK := Lib.hid hK
    rw [hK] at hNl ⊢
    clear hown hK
    by_cases hjn : j < n
    · have hja : j < l.length := by rw [HN.out]; exact hjn
      obtain ⟨ga, oa, rfl, la, ca⟩ := (HA.out.below hbr) (by omega)
      obtain ⟨s0, s1, s2, s3, s4⟩ := ca j hja
      obtain ⟨x, hx⟩ : ∃ x, l[j] = x := ⟨_, rfl⟩
      rw [hx] at s0 s1 s2 s3 s4
      have HX : Hid (∀ h : j < l.length, l[j]'h = x) := fun _ => hx
      obtain ⟨k0, k1, k2, k3, zk⟩ := box_cells hbox hbW
      have e1 : (0 : Int) ≤ (j : Int) := by omega
      have e2 : (j : Int) < (n : Int) := by omega
      have HE : ∀ W, _ := fun W => sp_ne x.1 k W
      have HS0 := Lib.hid (show ItemAt wr ga (oa + j * 5) x from ⟨s0, s1, s2, s3, s4⟩)
      have hgz := World.block_lt_of_cell? _ _ s0
      clear hx ca la hja hbr hbW
      have z0 := cls_cell s0
      have z1 := cls_cell s1
      have z2 := cls_cell s2
      have z3 := cls_cell s3
      have y0 := cls_cell k0
      have y1 := cls_cell k1
      have y2 := cls_cell k2
      have y3 := cls_cell k3
      have := cls_ne wr
      clear s0 s1 s2 s3 s4 k0 k1 k2 k3
      go_wp2_with fail
      refine wp_region_cls (S := Below wr.heap.size wr) (by kernel_rfl) (by kernel_rfl) (bel_drewN _ _ (n := 1)) ?_
      repeat (go_big_quiet_step (fail))
      refine wpQuiet_nil ?_
      rintro w5 ⟨⟨_, hx5⟩, rfl⟩
      try dsimp only
      have HX5 := Lib.hid hx5
      clear z0 z1 z2 z3 y0 y1 y2 y3 this HE hx5
      by_cases hxy : x.1 = k
      · have f1 : decide (x.1 = k) = true := by simp [hxy]
        have HXy := Lib.hid hxy
        rw [f1]
        clear hxy f1
        go_wp2_with fail
        go_roundw
        case rel =>
          have hja : j < l.length := by rw [HN.out]; exact hjn
          have hnk : notK k (l.take (j + 1)) = notK k (l.take j) := by
            rw [List.take_succ_eq_append_getElem hja, HX.out _, notK, List.filter_append]
            simp [HXy.out, notK]
          refine ⟨HBW.out.trans (HX5.out.mono HBW.out.size), j + 1, Ao, co, by simp, hjn, by rw [hnk, HK.out], ?_⟩
          rw [hnk]
          exact own_stay HO.out (fun q hq => HX5.out.block q (own_lt HO.out q hq))
        case measure => (simp [intOf] <;> omega)
      · have f1 : decide (x.1 = k) = false := by simp [hxy]
        have hO5 : w5.ownsRow W.heap.size 92 5 (.slice Ao K co) K (its (notK k (l.take j))) := by rw [← HK.out]; exact own_stay HO.out (fun q hq => HX5.out.block q (own_lt HO.out q hq))
        have hb5 := HBW.out.trans (HX5.out.mono HBW.out.size)
        obtain ⟨A', c', w', hr', ho', hb'⟩ := app_I1 W.heap.size (.slice Ao K co) K _ hO5 hb5.size (by omega) x 67
        obtain ⟨s0, s1, s2, s3, s4⟩ := HS0.out.below HX5.out hgz
        have HRun := Lib.hid hr'
        have HOx := Lib.hid ho'
        have HBx := Lib.hid (hb5.trans hb')
        have HXy := Lib.hid hxy
        rw [f1]
        clear hxy hr' ho' hb' hb5 hO5 hgz f1
        go_wp2_with (at_builtin; refine Lib.wpList_append_run _ rfl _ _ _ _ rfl _ _ rfl rfl _ _ HRun.out ?_)
        go_roundw
        case rel =>
          have hja : j < l.length := by rw [HN.out]; exact hjn
          have hnk : notK k (l.take (j + 1)) = notK k (l.take j) ++ [x] := by
            rw [List.take_succ_eq_append_getElem hja, HX.out _, notK, List.filter_append]
            simp [HXy.out, notK]
          have hnl : (notK k (l.take (j + 1))).length = K + 1 := by rw [hnk, List.length_append, HK.out]; rfl
          refine ⟨HBx.out, j + 1, A', c', by simp, hjn, by rw [hnl], ?_⟩
          rw [hnl, hnk]
          exact HOx.out
        case measure => (simp [intOf] <;> omega)
    · obtain rfl : j = n := by omega
      have HD : Hid (notK k (l.take j) = delE k l) := by
        rw [List.take_of_length_le (by rw [HN.out]; exact Nat.le_refl _)]
        exact notK_del HS.out
      clear hbr hbW
      go_wp2_with fail
      go_ret
      obtain ⟨A', c', e, _, _, hit, hno⟩ := its_own HO.out rfl
      cases e
      refine ⟨Ao, co, ?_, by rw [← HD.out]; exact hit, by rw [← HD.out]; exact hno, HBr.out⟩
      rw [← HD.out, HK.out]
      rfl
end Go.Proofs.Ytainljbkejafcaa.N

/- The document's Put over lists of items. -/
namespace Go.Proofs.Ytainljbkejafcaa.N
open Go.BigFrame Go.RowKit Go.Proofs.YtainljbkejafcaaW.PrintMore Go.Proofs.YtainljbkejafcaaW.PrintWords
set_option linter.unusedVariables false
set_option linter.unusedSimpArgs false
/-- Has the spot been put? -/
def dn (k : Sp) (m : List Ent) : Bool := m.any (fun y => !lt y.1 k)
def pt (k : Sp) (v : Int) (m : List Ent) : List Ent := if dn k m = true then insE k v m else m
theorem dn_false {k : Sp} {m : List Ent} : dn k m = false ↔ ∀ y ∈ m, lt y.1 k = true := by
  unfold dn
  rw [List.any_eq_false]
  simp
theorem dn_app {k : Sp} {m : List Ent} {x : Ent} : dn k (m ++ [x]) = (dn k m || !lt x.1 k) := by simp [dn]
theorem pt_end {k : Sp} {v : Int} {m : List Ent} (h : dn k m = false) : m ++ [(k, v)] = insE k v m := by
  have h1 := insE_front k v m [] (dn_false.1 h)
  rw [List.append_nil] at h1
  rw [h1]; rfl
theorem pt_len (k : Sp) (v : Int) (m : List Ent) : (pt k v m).length ≤ m.length + 1 := by
  unfold pt
  split
  · have := insE_length (k := k) (v := v) (l := m); split at this <;> omega
  · omega
section
variable {k : Sp} {v : Int} {m : List Ent} {x : Ent}
theorem pt_eq (hm : ∀ y ∈ m, lt y.1 x.1 = true) (e : x.1 = k) : dn k m = false ∧ dn k (m ++ [x]) = true ∧ pt k v m ++ [(k, v)] = pt k v (m ++ [x]) := by
  have h0 : dn k m = false := dn_false.2 (fun y hy => by rw [← e]; exact hm y hy)
  have h1 : dn k (m ++ [x]) = true := by rw [dn_app, h0, e, lt_irr]; rfl
  refine ⟨h0, h1, ?_⟩
  unfold pt
  rw [h0, h1, if_neg (by decide), if_pos rfl, insE_front k v m [x] (dn_false.1 h0)]
  congr 1
  simp [insE, e, lt_irr]
theorem pt_gt (h0 : dn k m = false) (h : lt k x.1 = true) : dn k (m ++ [x]) = true ∧ pt k v m ++ [(k, v)] ++ [x] = pt k v (m ++ [x]) := by
  have h1 : dn k (m ++ [x]) = true := by rw [dn_app, h0, lt_asy h]; rfl
  refine ⟨h1, ?_⟩
  unfold pt
  rw [h0, h1, if_neg (by decide), if_pos rfl, insE_front k v m [x] (dn_false.1 h0), List.append_assoc]
  congr 1
  have hne := (lt_ne h).symm
  simp [insE, lt_asy h, hne]
theorem pt_lt (h0 : dn k m = false) (h : lt k x.1 = false) (hne : x.1 ≠ k) : dn k (m ++ [x]) = false ∧ pt k v m ++ [x] = pt k v (m ++ [x]) := by
  have hlt : lt x.1 k = true := by
    rw [← Bool.not_eq_false]
    intro h2
    exact hne (lt_tot h2 h)
  have h1 : dn k (m ++ [x]) = false := by rw [dn_app, h0, hlt]; rfl
  refine ⟨h1, ?_⟩
  unfold pt
  rw [h0, h1, if_neg (by decide), if_neg (by decide)]
theorem pt_on (hm : ∀ y ∈ m, lt y.1 x.1 = true) (h0 : dn k m = true) : dn k (m ++ [x]) = true ∧ x.1 ≠ k ∧ pt k v m ++ [x] = pt k v (m ++ [x]) := by
  have hk : lt k x.1 = true := by
    unfold dn at h0
    obtain ⟨y, hy, h⟩ := List.any_eq_true.1 h0
    have h2 := hm y hy
    by_cases e : y.1 = k
    · rw [← e]; exact h2
    · have h3 : lt k y.1 = true := by
        rw [← Bool.not_eq_false]
        intro h4
        exact e (lt_tot (by simpa using h) h4)
      exact lt_tra h3 h2
  have h1 : dn k (m ++ [x]) = true := by rw [dn_app, h0]; rfl
  refine ⟨h1, (lt_ne hk).symm, ?_⟩
  unfold pt
  rw [h0, h1, if_pos rfl, if_pos rfl, insE_back k v m [x] (fun y hy => by rw [List.mem_singleton.1 hy]; exact hk)]
end
def PutRel25 (B : Nat) (k : Sp) (v : Int) (l : List Ent) (n : Nat) (o d i : Value) (X : World) : Prop := ∃ (j : Nat) (A : Option Addr) (c : Nat), i = .int .i64 j ∧ j ≤ n ∧ d = .bool (dn k (l.take j)) ∧ o = .slice A (pt k v (l.take j)).length c ∧ X.ownsRow B 92 5 (.slice A (pt k v (l.take j)).length c) (pt k v (l.take j)).length (its (pt k v (l.take j)))
theorem take_lt {l : List Ent} (ha : Asc l) {j : Nat} (hj : j < l.length) : ∀ y ∈ l.take j, lt y.1 l[j].1 = true := fun y hy => by
  obtain ⟨i, hi, rfl⟩ := List.getElem_of_mem hy
  rw [List.length_take] at hi
  rw [List.getElem_take]
  unfold Asc at ha
  exact List.pairwise_iff_getElem.1 ha i j (by omega) hj (by omega)
set_option maxHeartbeats 6400000 in
set_option maxRecDepth 100000 in
theorem put25 {w : World} {A : Option Addr} {l : List Ent} {n c : Nat} (ha : ItemsAt w A l) (hn : l.length = n) (hl : n ≤ 900) (hs : Asc l) (k : Sp) (v : Int) :
    Calls Try.prog 44 #[.slice A n c, .agg #[.int .i64 k.br, .int .i64 k.vol, .int .i64 k.blk, .int .u64 k.num], .int .u64 v] w (ItemsPost w (insE k v l)) := by
  have HA := Lib.hid ha
  have HN := Lib.hid hn
  have HS := Lib.hid hs
  have HL := Lib.hid hl
  clear ha hn hs
  go_enter Try.func44, Try.ntmps44
  have hbw : Below w.heap.size w (w.alloc (.cells #[.int .i64 k.br, .int .i64 k.vol, .int .i64 k.blk, .int .u64 k.num] 26)) := (Below.refl _ _).alloc (Nat.le_refl _) _
  have hbox := Blk.new w #[.int .i64 k.br, .int .i64 k.vol, .int .i64 k.blk, .int .u64 k.num] 26
  go_upto_block 0 with fail
  generalize w.alloc (.cells #[.int .i64 k.br, .int .i64 k.vol, .int .i64 k.blk, .int .u64 k.num] 26) = W at *
  have HBw := Lib.hid hbw
  have hzw : w.heap.size < W.heap.size := hbox.lt
  go_wp2_with fail
  go_loopw [7, 8, 9] (fun o d i X => Below W.heap.size W X ∧ PutRel25 W.heap.size k v l n o d i X) (fun _ _ i _ => (n - intOf i).toNat)
  case atStart => exact ⟨Below.refl _ _, 0, none, 0, rfl, Nat.zero_le _, by simp [dn], by simp [pt, dn], by simpa [pt, dn, its] using World.ownsRow_nil W W.heap.size 92 5⟩
  case round =>
    obtain ⟨hbW, j, Ao, co, rfl, hj, rfl, rfl, hown⟩ := hrel
    have hbr := HBw.out.trans (hbW.mono HBw.out.size)
    have HBr := Lib.hid hbr
    have HBW := Lib.hid hbW
    have HO := Lib.hid hown
    have hNl : (pt k v (l.take j)).length ≤ j + 1 := by
      have h1 := pt_len k v (l.take j)
      rw [List.length_take] at h1
      omega
    obtain ⟨K, hK⟩ : ∃ K, (pt k v (l.take j)).length = K := ⟨_, rfl⟩
    have HK := Lib.hid hK
    rw [hK] at hNl ⊢
    clear hown hK
    by_cases hjn : j < n
    · have hja : j < l.length := by rw [HN.out]; exact hjn
      obtain ⟨ga, oa, rfl, la, ca⟩ := HA.out (by omega)
      have hit := (ca j hja).below HBw.out la
      have HT := Lib.hid (take_lt HS.out hja)
      have HTk := Lib.hid (List.take_succ_eq_append_getElem hja)
      obtain ⟨x, hx⟩ : ∃ x, l[j] = x := ⟨_, rfl⟩
      rw [hx] at hit HT HTk
      have hgz : ga < W.heap.size := Nat.lt_of_lt_of_le la HBw.out.size
      have HS0 := Lib.hid hit
      have HGz := Lib.hid hgz
      obtain ⟨s0, s1, s2, s3, s4⟩ := hit.below hbW hgz
      obtain ⟨k0, k1, k2, k3, zk⟩ := box_cells hbox hbW
      have e1 : (0 : Int) ≤ (j : Int) := by omega
      have e2 : (j : Int) < (n : Int) := by omega
      have HE : ∀ W, _ := fun W => sp_eq x.1 k W
      clear hx ca la hja hbr hbW hgz hit
      have z0 := cls_cell s0
      have z1 := cls_cell s1
      have z2 := cls_cell s2
      have z3 := cls_cell s3
      have y0 := cls_cell k0
      have y1 := cls_cell k1
      have y2 := cls_cell k2
      have y3 := cls_cell k3
      have := cls_ne wr
      clear s0 s1 s2 s3 s4 k0 k1 k2 k3
      go_wp2_with fail
      refine wp_region_cls (S := Below wr.heap.size wr) (by kernel_rfl) (by kernel_rfl) (bel_drewN _ _ (n := 1)) ?_
      repeat (go_big_quiet_step (fail))
      refine wpQuiet_nil ?_
      rintro w5 ⟨⟨_, hx5⟩, rfl⟩
      try dsimp only
      have HX5 := Lib.hid hx5
      clear z0 z1 z2 z3 y0 y1 y2 y3 this HE hx5
      have HB5 := Lib.hid (HBW.out.trans (HX5.out.mono HBW.out.size))
      have HO5 : Hid (w5.ownsRow W.heap.size 92 5 (.slice Ao K co) K (its (pt k v (l.take j)))) := by rw [← HK.out]; exact own_stay HO.out (fun q hq => HX5.out.block q (own_lt HO.out q hq))
      obtain ⟨k0, k1, k2, k3, zk⟩ := box_cells hbox HB5.out
      by_cases hxy : x.1 = k
      · have f1 : decide (x.1 = k) = true := by simp [hxy]
        obtain ⟨p0, p1, p2⟩ := pt_eq (v := v) HT.out hxy
        have HP1 := Lib.hid p1
        have HP2 := Lib.hid p2
        obtain ⟨A', c', w', hr', ho', hb'⟩ := app_I1 W.heap.size (.slice Ao K co) K _ HO5.out HB5.out.size (by omega) (k, v) 67
        have HRun := Lib.hid hr'
        have HOx := Lib.hid ho'
        have HBx := Lib.hid (HB5.out.trans hb')
        rw [f1]
        clear hxy hr' ho' hb' f1 p0 p1 p2
        go_wp2_with (at_builtin; refine Lib.wpList_append_run _ rfl _ _ _ _ rfl _ _ rfl rfl _ _ HRun.out ?_)
        go_roundw
        case rel =>
          have hnl : (pt k v (l.take (j + 1))).length = K + 1 := by rw [HTk.out, ← HP2.out, List.length_append, HK.out]; rfl
          refine ⟨HBx.out, j + 1, A', c', by simp, hjn, by rw [HTk.out, HP1.out], by rw [hnl], ?_⟩
          rw [hnl, HTk.out, ← HP2.out]
          exact HOx.out
        case measure => (simp [intOf] <;> omega)
      · have f1 : decide (x.1 = k) = false := by simp [hxy]
        have HXy := Lib.hid hxy
        rw [f1]
        clear hxy f1
        have := cls_ne w5
        obtain ⟨s0, s1, s2, s3, s4⟩ := HS0.out.below HB5.out HGz.out
        have z0 := cls_cell s0
        have z1 := cls_cell s1
        have z2 := cls_cell s2
        have z3 := cls_cell s3
        have y0 := cls_cell k0
        have y1 := cls_cell k1
        have y2 := cls_cell k2
        have y3 := cls_cell k3
        have HBf : Hid (∀ X : Wd (Below w5.heap.size w5), Calls Try.prog 69 #[.agg #[.int .i64 k.br, .int .i64 k.vol, .int .i64 k.blk, .int .u64 k.num], .agg #[.int .i64 x.1.br, .int .i64 x.1.vol, .int .i64 x.1.blk, .int .u64 x.1.num]] X.w fun e w'' => e = .returned (.bool (lt k x.1)) ∧ ∃ m : Wd (Below w5.heap.size w5), w'' = m.w) := fun X => Calls.clsB (before25 k x.1 X.w) (Nat.le_refl _)
        clear s0 s1 s2 s3 s4
        cases hd : dn k (l.take j) with
        | true =>
          obtain ⟨p0, _, p1⟩ := pt_on (v := v) HT.out hd
          have HP := Lib.hid (And.intro p0 p1)
          clear p0 p1
          go_wp2_with fail
          refine wp_region_cls (S := Below w5.heap.size w5) (by kernel_rfl) (by kernel_rfl) (bel_drewN _ _ (n := 1)) ?_
          repeat (go_big_quiet_step (with_reducible (first | exact HBf.out _)))
          refine wpQuiet_nil ?_
          rintro w6 ⟨⟨_, hx6⟩, rfl⟩
          try dsimp only
          have HX6 := Lib.hid hx6
          clear z0 z1 z2 z3 y0 y1 y2 y3 this hx6 HBf k0 k1 k2 k3
          obtain ⟨s0, s1, s2, s3, s4⟩ := HS0.out.below (HB5.out.trans (HX6.out.mono HB5.out.size)) HGz.out
          have hO6 : w6.ownsRow W.heap.size 92 5 (.slice Ao K co) K (its (pt k v (l.take j))) := own_stay HO5.out (fun q hq => HX6.out.block q (own_lt HO5.out q hq))
          have hb6 := HB5.out.trans (HX6.out.mono HB5.out.size)
          obtain ⟨A', c', w', hr', ho', hb'⟩ := app_I1 W.heap.size (.slice Ao K co) K _ hO6 hb6.size (by omega) x 67
          have HRun := Lib.hid hr'
          have HOx := Lib.hid ho'
          have HBx := Lib.hid (hb6.trans hb')
          clear hr' ho' hb' hb6 hO6 hd
          go_wp2_with (at_builtin; refine Lib.wpList_append_run _ rfl _ _ _ _ rfl _ _ rfl rfl _ _ HRun.out ?_)
          go_roundw
          case rel =>
            have hnl : (pt k v (l.take (j + 1))).length = K + 1 := by rw [HTk.out, ← HP.out.2, List.length_append, HK.out]; rfl
            refine ⟨HBx.out, j + 1, A', c', by simp, hjn, by rw [HTk.out, HP.out.1], by rw [hnl], ?_⟩
            rw [hnl, HTk.out, ← HP.out.2]
            exact HOx.out
          case measure => (simp [intOf] <;> omega)
        | false =>
          go_wp2_with fail
          refine wp_region_cls (S := Below w5.heap.size w5) (by kernel_rfl) (by kernel_rfl) (bel_drewN _ _ (n := 1)) ?_
          repeat (go_big_quiet_step (with_reducible (first | exact HBf.out _)))
          refine wpQuiet_nil ?_
          rintro w6 ⟨⟨_, hx6⟩, rfl⟩
          try dsimp only
          have HX6 := Lib.hid hx6
          clear z0 z1 z2 z3 y0 y1 y2 y3 this hx6 HBf k0 k1 k2 k3
          have hO6 : w6.ownsRow W.heap.size 92 5 (.slice Ao K co) K (its (pt k v (l.take j))) := own_stay HO5.out (fun q hq => HX6.out.block q (own_lt HO5.out q hq))
          have hb6 := HB5.out.trans (HX6.out.mono HB5.out.size)
          have hS6 := HS0.out.below hb6 HGz.out
          have HD := Lib.hid hd
          clear hd
          cases hlt : lt k x.1 with
          | true =>
            obtain ⟨p0, p1⟩ := pt_gt (v := v) HD.out hlt
            have HP := Lib.hid (And.intro p0 p1)
            obtain ⟨k0, k1, k2, k3, zk⟩ := box_cells hbox hb6
            obtain ⟨A', c', w', hr', ho', hb'⟩ := app_I1 W.heap.size (.slice Ao K co) K _ hO6 hb6.size (by omega) (k, v) 67
            have hb7 := hb6.trans hb'
            obtain ⟨A2, c2, w2, hr2, ho2, hb2⟩ := app_I1 W.heap.size (.slice A' (K + 1) c') (K + 1) _ ho' hb7.size (by omega) x 67
            have HRun := Lib.hid hr'
            have HRun2 := Lib.hid hr2
            have HOx := Lib.hid ho2
            have HBx := Lib.hid (hb7.trans hb2)
            obtain ⟨s0, s1, s2, s3, s4⟩ := HS0.out.below hb7 HGz.out
            clear hr' ho' hb' hb6 hO6 p0 p1 hlt hr2 ho2 hb2 hb7 hS6
            go_wp2_with (at_builtin; first | refine Lib.wpList_append_run _ rfl _ _ _ _ rfl _ _ rfl rfl _ _ HRun.out ?_ | refine Lib.wpList_append_run _ rfl _ _ _ _ rfl _ _ rfl rfl _ _ HRun2.out ?_)
            go_roundw
            case rel =>
              have hnl : (pt k v (l.take (j + 1))).length = K + 1 + 1 := by rw [HTk.out, ← HP.out.2, List.length_append, List.length_append, HK.out]; rfl
              refine ⟨HBx.out, j + 1, A2, c2, by simp, hjn, by rw [HTk.out, HP.out.1], by rw [hnl], ?_⟩
              rw [hnl, HTk.out, ← HP.out.2]
              exact HOx.out
            case measure => (simp [intOf] <;> omega)
          | false =>
            obtain ⟨p0, p1⟩ := pt_lt (v := v) HD.out hlt HXy.out
            have HP := Lib.hid (And.intro p0 p1)
            obtain ⟨s0, s1, s2, s3, s4⟩ := hS6
            obtain ⟨A', c', w', hr', ho', hb'⟩ := app_I1 W.heap.size (.slice Ao K co) K _ hO6 hb6.size (by omega) x 67
            have HRun := Lib.hid hr'
            have HOx := Lib.hid ho'
            have HBx := Lib.hid (hb6.trans hb')
            clear hr' ho' hb' hb6 hO6 p0 p1 hlt
            go_wp2_with (at_builtin; refine Lib.wpList_append_run _ rfl _ _ _ _ rfl _ _ rfl rfl _ _ HRun.out ?_)
            go_roundw
            case rel =>
              have hnl : (pt k v (l.take (j + 1))).length = K + 1 := by rw [HTk.out, ← HP.out.2, List.length_append, HK.out]; rfl
              refine ⟨HBx.out, j + 1, A', c', by simp, hjn, by rw [HTk.out, HP.out.1], by rw [hnl], ?_⟩
              rw [hnl, HTk.out, ← HP.out.2]
              exact HOx.out
            case measure => (simp [intOf] <;> omega)
    · obtain rfl : j = n := by omega
      have htk : l.take j = l := List.take_of_length_le (by rw [HN.out]; exact Nat.le_refl _)
      rw [htk] at HO HK ⊢
      have hO : wr.ownsRow W.heap.size 92 5 (.slice Ao K co) K (its (pt k v l)) := by rw [← HK.out]; exact HO.out
      cases hd : dn k l with
      | true =>
        have hpt : pt k v l = insE k v l := by rw [pt, if_pos hd]
        have HPt := Lib.hid hpt
        clear hpt hd hbr hbW hO htk
        go_wp2_with fail
        go_ret
        obtain ⟨A', c', e, _, _, hit, hno⟩ := its_own HO.out rfl
        cases e
        rw [HPt.out] at hit hno
        refine ⟨Ao, co, ?_, hit, hno, HBr.out⟩
        rw [← HPt.out, HK.out]
        rfl
      | false =>
        have hpt : pt k v l = l := by rw [pt, if_neg (by rw [hd]; decide)]
        have hend := pt_end (v := v) hd
        have HPt := Lib.hid (And.intro hpt hend)
        obtain ⟨k0, k1, k2, k3, zk⟩ := box_cells hbox hbW
        obtain ⟨A', c', w', hr', ho', hb'⟩ := app_I1 W.heap.size (.slice Ao K co) K _ hO hbW.size (by omega) (k, v) 67
        have HRun := Lib.hid hr'
        have HOx := Lib.hid ho'
        have HBx := Lib.hid (hbW.trans hb')
        clear hpt hend hr' ho' hb' hd hbr hbW hO htk
        go_wp2_with (at_builtin; refine Lib.wpList_append_run _ rfl _ _ _ _ rfl _ _ rfl rfl _ _ HRun.out ?_)
        go_ret
        have hlen : (pt k v l ++ [(k, v)]).length = K + 1 := by rw [List.length_append, HK.out]; rfl
        obtain ⟨A2, c2, e, _, _, hit, hno⟩ := its_own HOx.out hlen
        cases e
        rw [HPt.out.1, HPt.out.2] at hit hlen
        refine ⟨A', c', ?_, hit, by rw [hlen]; exact hno, HBw.out.trans (HBx.out.mono HBw.out.size)⟩
        rw [hlen]
        rfl
end Go.Proofs.Ytainljbkejafcaa.N

/- Acts, and the entries they leave. (As NPlay has them for node's deeds.) -/
namespace Go.Proofs.Ytainljbkejafcaa.N
open Go.BigFrame Go.RowKit Go.Proofs.YtainljbkejafcaaW.PrintMore Go.Proofs.YtainljbkejafcaaW.PrintWords
set_option linter.unusedVariables false
set_option linter.unusedSimpArgs false
/-- A deed. -/
structure Dd where
  del : Bool
  k : Sp
  v : Int
def DeedAt (w : World) (b o : Nat) (d : Dd) : Prop := w.cell? ⟨b, o, none⟩ = some (.bool d.del) ∧ w.cell? ⟨b, o + 1, none⟩ = some (.int .i64 d.k.br) ∧ w.cell? ⟨b, o + 2, none⟩ = some (.int .i64 d.k.vol) ∧ w.cell? ⟨b, o + 3, none⟩ = some (.int .i64 d.k.blk) ∧ w.cell? ⟨b, o + 4, none⟩ = some (.int .u64 d.k.num) ∧ w.cell? ⟨b, o + 5, none⟩ = some (.int .u64 d.v)
def DeedsAt (w : World) (A : Option Addr) (l : List Dd) : Prop := 0 < l.length → ∃ b off, A = some ⟨b, off, none⟩ ∧ b < w.heap.size ∧ ∀ j (h : j < l.length), DeedAt w b (off + j * 6) l[j]
theorem DeedAt.below {w w' : World} {b o B : Nat} {d : Dd} (h : DeedAt w b o d) (hb : Below B w w') (hlt : b < B) : DeedAt w' b o d := by
  obtain ⟨a0, a1, a2, a3, a4, a5⟩ := h
  exact ⟨(hb.cell (p := ⟨b, _, none⟩) hlt).trans a0, (hb.cell (p := ⟨b, _, none⟩) hlt).trans a1, (hb.cell (p := ⟨b, _, none⟩) hlt).trans a2, (hb.cell (p := ⟨b, _, none⟩) hlt).trans a3, (hb.cell (p := ⟨b, _, none⟩) hlt).trans a4, (hb.cell (p := ⟨b, _, none⟩) hlt).trans a5⟩
theorem DeedsAt.below {w w' : World} {A : Option Addr} {l : List Dd} (h : DeedsAt w A l) (hb : Below w.heap.size w w') : DeedsAt w' A l := fun hl => by
  obtain ⟨b, off, e, hlt, hc⟩ := h hl
  exact ⟨b, off, e, Nat.lt_of_lt_of_le hlt hb.size, fun j hj => (hc j hj).below hb hlt⟩
def stepE (l : List Ent) (d : Dd) : List Ent := if d.del = true then delE d.k l else insE d.k d.v l
def playE (ds : List Dd) : List Ent := ds.foldl stepE []
theorem playE_succ {ds : List Dd} {j : Nat} (h : j < ds.length) : playE (ds.take (j + 1)) = stepE (playE (ds.take j)) ds[j] := by
  unfold playE; rw [List.take_succ_eq_append_getElem h, List.foldl_append]; rfl
theorem insE_len_le (k : Sp) (v : Int) : ∀ l : List Ent, (insE k v l).length ≤ l.length + 1
  | [] => by simp [insE]
  | x :: t => by
    rw [insE]
    have := insE_len_le k v t
    split
    · simp; omega
    · split <;> simp
theorem stepE_len (l : List Ent) (d : Dd) : (stepE l d).length ≤ l.length + 1 := by
  unfold stepE
  split
  · rw [delE_length]; split <;> omega
  · exact insE_len_le _ _ _
theorem stepE_asc {l : List Ent} (h : Asc l) (d : Dd) : Asc (stepE l d) := by
  unfold stepE
  split
  · exact delE_asc h
  · exact insE_asc h
theorem foldl_ok : ∀ (ds : List Dd) (l : List Ent), Asc l → Asc (ds.foldl stepE l) ∧ (ds.foldl stepE l).length ≤ l.length + ds.length
  | [], l, h => ⟨h, by simp⟩
  | d :: t, l, h => by
    obtain ⟨a, b⟩ := foldl_ok t (stepE l d) (stepE_asc h d)
    have := stepE_len l d
    exact ⟨a, by rw [List.foldl_cons, List.length_cons]; omega⟩
theorem playE_asc (ds : List Dd) : Asc (playE ds) := (foldl_ok ds [] List.Pairwise.nil).1
theorem playE_len (ds : List Dd) : (playE ds).length ≤ ds.length := by have := (foldl_ok ds [] List.Pairwise.nil).2; simpa [playE] using this
end Go.Proofs.Ytainljbkejafcaa.N
