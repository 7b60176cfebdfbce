/- TLeaf: joined by merge.py. -/
import Derived.Test.YtlackkhkaceblaaTBase
/- The way down a tree: leaf. -/
namespace Go.Proofs.Ytlackkhkaceblaa.N
open Go.BigFrame Go.RowKit Go.Proofs.YtlackkhkaceblaaW.PrintMore Go.Proofs.YtlackkhkaceblaaW.PrintWords
set_option linter.unusedVariables false
set_option linter.unusedSimpArgs false
/-- What stands behind: nothing, or a node with the first of it. -/
def NextAt (w : World) (nx : Option Addr) (post : List Ent) : Prop := (nx = none ∧ post = []) ∨ ∃ h q n m post', nx = some ⟨q, 0, none⟩ ∧ Nd w h q m n ∧ 0 < n ∧ n ≤ 4 ∧ post = m ++ post'
theorem NextAt.below {w w' : World} {nx : Option Addr} {post : List Ent} (h : NextAt w nx post) (hb : Below w.heap.size w w') : NextAt w' nx post := by
  rcases h with h | ⟨h, q, n, m, p, a, b, c⟩
  · exact .inl h
  · exact .inr ⟨h, q, n, m, p, a, b.below hb, c⟩
/-- A node on the way to a spot, and what stands ahead and behind. -/
structure Way (k : Sp) (l pre m post : List Ent) : Prop where
  cut : l = pre ++ m ++ post
  lo : ∀ y ∈ pre, lt y.1 k = true
  at' : pre ≠ [] → lt k (hd m) = false
  hi : ∀ y ∈ post, lt k y.1 = true
theorem Way.start (k : Sp) (l : List Ent) : Way k l [] l [] := ⟨by simp, (fun _ h => by cases h), (fun h => absurd rfl h), (fun _ h => by cases h)⟩
theorem hd_append {a b : List Ent} (h : a ≠ []) : hd (a ++ b) = hd a := by
  cases a with
  | nil => exact absurd rfl h
  | cons x t => rfl
theorem Way.down {k : Sp} {l pre post : List Ent} {ls : List (List Ent)} {i : Nat} {b : Bool} (hw : Way k l pre ls.flatten post) (ha : Asc l) (hne : ∀ m ∈ ls, m ≠ []) (hF : FindI k (ls.map hd) i b) (hi : i < ls.length) :
    Way k l (pre ++ (ls.take i).flatten) ls[i] ((ls.drop (i + 1)).flatten ++ post) := by
  have hal : Asc ls.flatten := by
    have := ha; rw [hw.cut] at this
    exact (asc_app (asc_app this).1).2.1
  have hs := way_sides hal hne hF hi
  refine ⟨?_, fun y hy => ?_, fun hp => ?_, fun y hy => ?_⟩
  · rw [hw.cut, flatten_cut hi]; simp
  · rcases List.mem_append.1 hy with h | h
    · exact hw.lo y h
    · exact hs.1 y h
  · rcases hF with ⟨h1, h2, _⟩ | ⟨rfl, _, _⟩
    · have h3 := (h2 h1).1
      rw [List.getElem_map] at h3
      rw [← Bool.not_eq_true]
      intro h
      have := ord_pos.2 h
      omega
    · simp at hp
      have := hw.at' hp
      rw [flatten_cut hi] at this
      simpa [hd_append (hne _ (List.getElem_mem hi))] using this
  · rcases List.mem_append.1 hy with h | h
    · exact hs.2 y h
    · exact hw.hi y h
theorem next_down {w : World} {h : Nat} {qs : List Nat} {ls : List (List Ent)} {nx : Option Addr} {post : List Ent} {i : Nat} (hk : All2 (Kid w h 2) qs ls) (hn : NextAt w nx post) (hi : i < qs.length) :
    (i + 1 < qs.length → ∀ hj : i + 1 < qs.length, NextAt w (some ⟨qs[i + 1], 0, none⟩) ((ls.drop (i + 1)).flatten ++ post)) ∧ (¬ i + 1 < qs.length → NextAt w nx ((ls.drop (i + 1)).flatten ++ post)) := by
  have hl := hk.length
  refine ⟨fun _ hj => ?_, fun hj => ?_⟩
  · obtain ⟨s, s2, s4, hkid⟩ := hk.get (i + 1) hj (by omega)
    rw [List.drop_eq_getElem_cons (show i + 1 < ls.length by omega), List.flatten_cons, List.append_assoc]
    exact .inr ⟨h, _, s, _, _, rfl, hkid, by omega, s4, rfl⟩
  · rw [List.drop_of_length_le (by omega)]
    simpa using hn
def DownT (w : World) (k : Sp) (l : List Ent) (xv nv : Value) (X : World) : Prop := ∃ (h q n : Nat) (m pre post : List Ent) (nx : Option Addr), xv = .pointer (some ⟨q, 0, none⟩) ∧ nv = .pointer nx ∧ Nd X h q m n ∧ 0 < n ∧ (0 < h → 2 ≤ n) ∧ n ≤ 4 ∧ Way k l pre m post ∧ NextAt X nx post ∧ Below w.heap.size w X
/-- The leaf in which the spot is, and the next node. -/
def LeafPost (w : World) (k : Sp) (l : List Ent) (e : Ending) (w' : World) : Prop := ∃ x nx, e = .returned (.tuple #[.pointer x, .pointer nx]) ∧ Below w.heap.size w w' ∧
  ((l = [] ∧ x = none ∧ nx = none) ∨ ∃ q m pre post, x = some ⟨q, 0, none⟩ ∧ Nd w' 0 q m m.length ∧ 0 < m.length ∧ m.length ≤ 4 ∧ Way k l pre m post ∧ NextAt w' nx post)
set_option maxHeartbeats 3200000 in
set_option maxRecDepth 100000 in
theorem leaf_tree {w : World} {p : Option Addr} {l : List Ent} (h : TreeAt w p l) (ha : Asc l) (k : Sp) :
    Calls Try.prog 41 #[.pointer p, .agg #[.int .i64 k.br, .int .i64 k.vol, .int .i64 k.blk, .int .u64 k.num]] w (LeafPost w k l) := by
  obtain ⟨r, hr, hroot⟩ := root_tree h
  have HR := Lib.hid hr
  have HA := Lib.hid ha
  have HRo := Lib.hid hroot
  clear hr ha hroot h
  go_enter Try.func41, Try.ntmps41
  go_wp2_with fail
  have hbw : Below w.heap.size w (w.alloc (.cells #[.int .i64 k.br, .int .i64 k.vol, .int .i64 k.blk, .int .u64 k.num] 46)) := (Below.refl _ _).alloc (Nat.le_refl _) _
  have hbox := heap_alloc_new w (.cells #[.int .i64 k.br, .int .i64 k.vol, .int .i64 k.blk, .int .u64 k.num] 46)
  refine (HRo.out _ hbw).mono ?_
  rintro e w1 ⟨rfl, rfl⟩
  have HB1 := Lib.hid hbw
  have HR1 := Lib.hid (HR.out.below hbw)
  have zk := (Array.getElem?_eq_some_iff.1 hbox).1
  generalize w.alloc (.cells #[.int .i64 k.br, .int .i64 k.vol, .int .i64 k.blk, .int .u64 k.num] 46) = W at *
  have k0 : W.cell? ⟨w.heap.size, 0, none⟩ = some (.int .i64 k.br) := by simp only [World.cell?, hbox]; rfl
  have k1 : W.cell? ⟨w.heap.size, 1, none⟩ = some (.int .i64 k.vol) := by simp only [World.cell?, hbox]; rfl
  have k2 : W.cell? ⟨w.heap.size, 2, none⟩ = some (.int .i64 k.blk) := by simp only [World.cell?, hbox]; rfl
  have k3 : W.cell? ⟨w.heap.size, 3, none⟩ = some (.int .u64 k.num) := by simp only [World.cell?, hbox]; rfl
  have HK : Hid (∀ X, Below W.heap.size W X → w.heap.size < X.heap.size ∧ X.cell? ⟨w.heap.size, 0, none⟩ = some (.int .i64 k.br) ∧ X.cell? ⟨w.heap.size, 1, none⟩ = some (.int .i64 k.vol) ∧ X.cell? ⟨w.heap.size, 2, none⟩ = some (.int .i64 k.blk) ∧ X.cell? ⟨w.heap.size, 3, none⟩ = some (.int .u64 k.num)) := fun X hX => ⟨Nat.lt_of_lt_of_le zk hX.size, bel_cell hX zk k0, bel_cell hX zk k1, bel_cell hX zk k2, bel_cell hX zk k3⟩
  clear hbw HRo HR k0 k1 k2 k3 zk hbox
  rcases HR1.out with ⟨rfl, rfl⟩ | ⟨q, h, n, rfl, hnd, h0, h2, h4⟩
  · go_wp2_with fail
    go_ret2
    exact ⟨_, _, rfl, HB1.out, .inl ⟨rfl, rfl, rfl⟩⟩
  · go_wp2_with fail
    go_loopw [4, 5] (fun x nx X => DownT W k l x nx X) (fun x _ X => hOf X x)
    case atStart => exact ⟨h, q, n, l, [], [], none, rfl, rfl, hnd, h0, h2, h4, Way.start k l, .inl ⟨rfl, rfl⟩, Below.refl _ _⟩
    case round =>
      obtain ⟨h, q, n, m, pre, post, nx, rfl, rfl, hnd, h0, h2, h4, hway, hnx, hbr⟩ := hrel
      have HN := Lib.hid hnd
      have HW := Lib.hid hway
      have HNx := Lib.hid hnx
      have HBr := Lib.hid hbr
      have hf := hOf_nd hnd
      have HHf := Lib.hid hf
      obtain ⟨zk, y0, y1, y2, y3⟩ := HK.out wr hbr
      clear hway hnx hbr hf
      cases h with
      | zero =>
        obtain ⟨hn, hL⟩ := hnd
        have HL := Lib.hid hL
        clear hL
        go_wp2_with fail
        refine (leaf_yes HL.out).mono ?_
        rintro e w2 ⟨rfl, rfl⟩
        go_wp2_with fail
        go_ret2
        exact ⟨_, _, rfl, HB1.out.trans (HBr.out.mono HB1.out.size), .inr ⟨q, m, pre, post, rfl, ⟨rfl, HL.out⟩, by omega, by omega, HW.out, HNx.out⟩⟩
      | succ h =>
        obtain ⟨qs, ls, hn, rfl, hI, hk⟩ := nd_succ.1 hnd
        have HI := Lib.hid hI
        have HKi := Lib.hid hk
        have hlen := hk.length
        clear hnd hk
        go_wp2_with fail
        refine (leaf_no HI.out).mono ?_
        rintro e w2 ⟨rfl, rfl⟩
        go_wp2_with fail
        refine (find_inner HI.out k (by rw [List.length_map]; omega)).mono ?_
        rintro e w3 ⟨i, b, rfl, hF, hb3⟩
        have HF := Lib.hid hF
        have hi := hF.lt (by rw [List.length_map]; omega)
        rw [List.length_map] at hi
        have hil : i < qs.length := by omega
        have HB3 := Lib.hid hb3
        obtain ⟨A, ca, C, cc, hin⟩ := HI.out.below hb3
        have c2 := hin.c2
        obtain ⟨b1, off, rfl, hblt, hcs⟩ := hin.kids hin.pos
        have hkid := hcs i hil
        have HIl := Lib.hid (show i < ls.length ∧ i < qs.length from ⟨hi, hil⟩)
        have e1 : (i : Int) + 1 ≤ 4 := by omega
        have e0 : (0 : Int) ≤ (i : Int) := by omega
        have HNum := Lib.hid (show n = qs.length ∧ 0 < n ∧ n ≤ 4 from ⟨hn, h0, h4⟩)
        rw [← hn] at c2
        clear hin hF hb3 hI y0 y1 y2 y3 hi
        by_cases hlast : i + 1 < qs.length
        · have hkid2 := hcs (i + 1) hlast
          have hnext := (next_down (i := i) HKi.out HNx.out HIl.out.2).1 hlast hlast
          have f1 : decide ((i : Int) + 1 < (n : Int)) = true := by simp; omega
          have e3 : (0 : Int) ≤ (i : Int) + 1 := by omega
          have e4 : (i : Int) + 1 < (n : Int) := by omega
          have e5 : (i : Int) < (n : Int) := by omega
          generalize hq1 : qs[i]'(_) = q1 at *
          generalize hq2 : qs[i + 1]'(_) = q2 at *
          have HNe := Lib.hid (hnext.below HB3.out)
          have HQ1 : Hid (∀ h : i < qs.length, qs[i]'h = q1) := fun _ => hq1
          clear hcs hnext hlast hil hn hlen hq1 hq2 h0 h2 h4
          go_wp2_with fail
          go_roundw
          case rel =>
            obtain ⟨s, s2, s4, hkd⟩ := HKi.out.get i HIl.out.2 HIl.out.1
            rw [HQ1.out _] at hkd
            exact ⟨h, q1, s, _, _, _, _, rfl, rfl, hkd.below HB3.out, by omega, fun _ => s2, s4, HW.out.down HA.out (kids_ne (by decide) HKi.out) HF.out HIl.out.1, HNe.out, HBr.out.trans (HB3.out.mono HBr.out.size)⟩
          case measure =>
            obtain ⟨s, s2, s4, hkd⟩ := HKi.out.get i HIl.out.2 HIl.out.1
            rw [HQ1.out _] at hkd
            rw [HHf.out, hOf_nd (hkd.below HB3.out)]
            omega
        · have hnext := (next_down (i := i) HKi.out HNx.out HIl.out.2).2 hlast
          have f1 : decide ((i : Int) + 1 < (n : Int)) = false := by simp; omega
          have e5 : (i : Int) < (n : Int) := by omega
          generalize hq1 : qs[i]'(_) = q1 at *
          have HNe := Lib.hid (hnext.below HB3.out)
          have HQ1 : Hid (∀ h : i < qs.length, qs[i]'h = q1) := fun _ => hq1
          clear hcs hnext hlast hil hn hlen hq1 h0 h2 h4
          go_wp2_with fail
          go_roundw
          case rel =>
            obtain ⟨s, s2, s4, hkd⟩ := HKi.out.get i HIl.out.2 HIl.out.1
            rw [HQ1.out _] at hkd
            exact ⟨h, q1, s, _, _, _, _, rfl, rfl, hkd.below HB3.out, by omega, fun _ => s2, s4, HW.out.down HA.out (kids_ne (by decide) HKi.out) HF.out HIl.out.1, HNe.out, HBr.out.trans (HB3.out.mono HBr.out.size)⟩
          case measure =>
            obtain ⟨s, s2, s4, hkd⟩ := HKi.out.get i HIl.out.2 HIl.out.1
            rw [HQ1.out _] at hkd
            rw [HHf.out, hOf_nd (hkd.below HB3.out)]
            omega
end Go.Proofs.Ytlackkhkaceblaa.N
