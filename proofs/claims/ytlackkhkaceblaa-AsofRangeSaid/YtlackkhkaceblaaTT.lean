/- TT: joined by merge.py. -/
import Derived.Test.YtlackkhkaceblaaTGet
import Derived.Test.YtlackkhkaceblaaNApp
import Derived.Test.YtlackkhkaceblaaNHeldZ
/- Put of a tree. -/
namespace Go.Proofs.Ytlackkhkaceblaa.N
open Go.BigFrame Go.RowKit Go.Proofs.YtlackkhkaceblaaW.PrintMore Go.Proofs.YtlackkhkaceblaaW.PrintWords
set_option linter.unusedVariables false
set_option linter.unusedSimpArgs false
theorem kept_blk {W W' : World} {row : Option Nat} {b : Nat} {cs : Array Value} {T : TypeId} (h : Blk W b cs T) (hg : W.grownBy W' row) (hne : some b ≠ row) : Blk W' b cs T := (hg.block b h.lt hne).trans h
/-- What node.Put left: one node, or two. -/
def PutL (X : World) (l : List Ent) (s : Nat) (ns : List Nat) (ls : List (List Ent)) (h lo n : Nat) : Prop :=
  s < X.heap.size ∧ (∀ j (hj : j < ns.length), X.cell? ⟨s, j, none⟩ = some (.pointer (some ⟨ns[j], 0, none⟩))) ∧ All2 (Kid X h lo) ns ls ∧ ls.flatten = l ∧ (ns.length = 1 ∨ (ns.length = 2 ∧ n = 4)) ∧ 0 < lo ∧ (0 < h → 2 ≤ lo) ∧ lo ≤ 2 ∧ lo = min n 2
/-- The new root's keys as far as j. -/
def PutRel (w1 : World) (nb s : Nat) (hs : List Sp) (i : Value) (X : World) : Prop := ∃ (j : Nat) (A : Option Addr) (c : Nat), i = .int .i64 j ∧ j ≤ 2 ∧ Blk X nb #[.slice A j c, .slice none 0 0, .slice (some ⟨s, 0, none⟩) 2 2] 72 ∧ X.ownsRow (nb + 1) 46 4 (.slice A j c) j (sps (hs.take j)) ∧ nb < X.heap.size ∧ Below nb w1 X
theorem put_endT {w1 X : World} {nb s h c n1 n2 q1 q2 : Nat} {A : Option Addr} {m1 m2 : List Ent} (hb : Blk X nb #[.slice A 2 c, .slice none 0 0, .slice (some ⟨s, 0, none⟩) 2 2] 72) (ho : X.ownsRow (nb + 1) 46 4 (.slice A 2 c) 2 (sps [hd m1, hd m2])) (hX : Below nb w1 X) (hw : w1.heap.size ≤ nb) (hs : s < w1.heap.size)
    (c0 : w1.cell? ⟨s, 0, none⟩ = some (.pointer (some ⟨q1, 0, none⟩))) (c1 : w1.cell? ⟨s, 1, none⟩ = some (.pointer (some ⟨q2, 0, none⟩))) (k1 : Nd w1 h q1 m1 n1) (k2 : Nd w1 h q2 m2 n2) (a1 : 2 ≤ n1 ∧ n1 ≤ 4) (a2 : 2 ≤ n2 ∧ n2 ≤ 4) : Nd X (h + 1) nb (m1 ++ m2) 2 := by
  have hX' : Below w1.heap.size w1 X := hX.mono hw
  obtain ⟨A', c', e, h1, h2, hsp⟩ := spots_own (l := [hd m1, hd m2]) ho
  cases e
  refine nd_succ.2 ⟨[q1, q2], [m1, m2], rfl, by simp, ⟨A, c, some ⟨s, 0, none⟩, 2, hb, hsp, fun _ => ⟨s, 0, rfl, Nat.lt_of_lt_of_le hs hX'.size, fun j hj => ?_⟩, h1, h2, by simp, by simp [maxLen], rfl, by simp⟩, ⟨n1, a1.1, a1.2, k1.below hX'⟩, ⟨n2, a2.1, a2.2, k2.below hX'⟩, trivial⟩
  have hj' : j < 2 := by simpa using hj
  rw [Nat.zero_add]
  match j, hj' with
  | 0, _ => exact bel_cell hX' hs c0
  | 1, _ => exact bel_cell hX' hs c1
set_option maxHeartbeats 6400000 in
set_option maxRecDepth 100000 in
theorem put_tree {w : World} {p : Option Addr} {l : List Ent} (h : TreeAt w p l) (ha : Asc l) (hl : l.length ≤ 1000) (k : Sp) (v : Int) :
    Calls Try.prog 34 #[.pointer p, .agg #[.int .i64 k.br, .int .i64 k.vol, .int .i64 k.blk, .int .u64 k.num], .int .u64 v] w fun e w' => ∃ p', e = .returned (.pointer p') ∧ TreeAt w' p' (insE k v l) ∧ Below w.heap.size w w' := by
  obtain ⟨r, hr, hroot⟩ := root_tree h
  have hbw : Below w.heap.size w (w.alloc (.cells #[.int .i64 k.br, .int .i64 k.vol, .int .i64 k.blk, .int .u64 k.num] 46)) := (Below.refl _ _).alloc (Nat.le_refl _) _
  have hbox := heap_alloc_new w (.cells #[.int .i64 k.br, .int .i64 k.vol, .int .i64 k.blk, .int .u64 k.num] 46)
  have HRo := Lib.hid hroot
  have HP : Hid (∀ X, Below w.heap.size w X → Calls Try.prog 49 #[.pointer r, .agg #[.int .i64 k.br, .int .i64 k.vol, .int .i64 k.blk, .int .u64 k.num], .int .u64 v] X (PutRoot X (insE k v l))) := fun X hX => put_root (hr.below hX) ha k v
  have HLe := Lib.hid (len_tree h)
  have HG : Hid (∀ X, Below w.heap.size w X → Calls Try.prog 28 #[.pointer p, .agg #[.int .i64 k.br, .int .i64 k.vol, .int .i64 k.blk, .int .u64 k.num]] X fun e w' => e = .returned (.tuple #[.int .u64 (valE k l), .bool (hasE k l)]) ∧ Below X.heap.size X w') := fun X hX => get_tree (h.below hX) ha k
  have HLn := Lib.hid (insE_length (k := k) (v := v) (l := l))
  have HL := Lib.hid hl
  clear h ha hl hr hroot
  go_enter Try.func34, Try.ntmps34
  go_wp2_with fail
  refine (HLe.out _ hbw).mono ?_
  rintro e w1 ⟨rfl, rfl⟩
  obtain ⟨k0, k1, k2, k3, zk⟩ := box_cells hbox (Below.refl _ _)
  have HG1 := Lib.hid (HG.out _ hbw)
  generalize w.alloc (.cells #[.int .i64 k.br, .int .i64 k.vol, .int .i64 k.blk, .int .u64 k.num] 46) = W at *
  have HBw := Lib.hid hbw
  have HBox := Lib.hid hbox
  clear hbox hbw HLe HG
  go_wp2_with fail
  refine HG1.out.mono ?_
  rintro e w1 ⟨rfl, hb1⟩
  have HB1 := Lib.hid (HBw.out.trans (hb1.mono HBw.out.size))
  have HBx1 : Hid (w1.heap[w.heap.size]? = _) := (hb1.block _ zk).trans HBox.out
  clear hb1 k0 k1 k2 k3 zk HG1 HBw
  go_upto_if 25 with fail
  go_cut [7, 9] from 16 (fun nv ov X => nv = .int .i64 ((insE k v l).length : Nat) ∧ X = w1)
  case first =>
    have e1 : (l.length : Int) ≤ 1000 := by have := HL.out; omega
    cases hh : hasE k l with
    | true =>
      have hln := HLn.out
      rw [hh] at hln
      simp only [if_true] at hln
      have HLl := Lib.hid hln
      clear hln hh HLn
      go_wp2_with fail
      all_goals go_meet
      all_goals exact ⟨by rw [HLl.out], rfl⟩
    | false =>
      have hln := HLn.out
      rw [hh] at hln
      simp only [Bool.false_eq_true, if_false] at hln
      have HLl := Lib.hid hln
      clear hln hh HLn
      go_wp2_with fail
      all_goals go_meet
      all_goals exact ⟨by rw [HLl.out]; simp, rfl⟩
  case rest =>
    obtain ⟨rfl, rfl⟩ := hcut
    have hbd : Below wc.heap.size wc (wc.drewN 1) := bel_drewN _ _ (n := 1)
    have HBd := Lib.hid (HB1.out.trans (hbd.mono HB1.out.size))
    have HRo1 := Lib.hid (HRo.out _ HBd.out)
    have HP1 := Lib.hid (HP.out _ HBd.out)
    obtain ⟨k0, k1, k2, k3, zk⟩ := box_cells HBx1.out (Below.refl _ _)
    obtain ⟨NL, hNL⟩ : ∃ NL, (insE k v l).length = NL := ⟨_, rfl⟩
    rw [hNL]
    have HNL := Lib.hid hNL
    clear hNL HRo HP hbd HLn
    go_upto_region 5 with fail
    go_cut [10] (fun lv X => Below w.heap.size w X ∧ ∃ s ns ls h lo n, lv = .slice (some ⟨s, 0, none⟩) ns.length ns.length ∧ PutL X (insE k v l) s ns ls h lo n)
    case first =>
      go_region_with (first | (go_at_call 40; refine HRo1.out.mono ?_; rintro e w1 ⟨rfl, rfl⟩) | (go_at_call 49; refine HP1.out.mono ?_; rintro e w1 ⟨h, lo, n, had, ⟨s, ns, ls, rfl, t1, t2, t3, t4, t5, t6, t7⟩, l0, l2, l3, l4⟩))
      all_goals go_wp2_with fail
      all_goals go_meet
      all_goals exact ⟨HBd.out.trans (t7.mono HBd.out.size), s, ns, ls, h, lo, n, rfl, t2, t3, t4, t5, by rcases t6 with t6 | t6; exact .inl t6; exact .inr ⟨t6.1, t6.2.1⟩, l0, l2, l3, l4⟩
    case rest =>
      obtain ⟨hB, s, ns, ls, h, lo, n, rfl, t2, t3, t4, t5, t6, l0, l2, l3, l4⟩ := hcut
      have HB := Lib.hid hB
      clear hB k0 k1 k2 k3 zk HRo1 HP1 HBd HB1 HBx1
      rcases t6 with h1 | ⟨h1, hn4⟩
      · match ns, ls, t4, h1 with
        | [q], [m], t4, _ =>
          have L4 := Lib.hid (And.intro l0 (And.intro l2 l4))
          clear l4 l0 l2 l3
          obtain ⟨x, x1, x2, x3⟩ := t4.1
          have c0 := t3 0 (by simp)
          have HX := Lib.hid x3
          have HT := Lib.hid t5
          have HXx := Lib.hid (And.intro x1 x2)
          clear t3 x3 t5 t4 x1 x2
          simp only [List.getElem_cons_zero, List.length_singleton] at c0 ⊢
          go_wp2_with fail
          go_ret
          refine ⟨some ⟨wc.heap.size, 0, none⟩, rfl, ?_, HB.out.alloc HB.out.size _⟩
          rw [← HNL.out]
          exact TreeAt.new (.inr ⟨q, h, x, rfl, by rw [← HT.out]; simpa using HX.out, by have := HXx.out; have := L4.out; omega, fun hh => by have := L4.out.2.1 hh; have := HXx.out; omega, HXx.out.2⟩)
      · match ns, ls, t4, h1 with
        | [q1, q2], [m1, m2], t4, _ =>
          obtain ⟨⟨x, x1, x2, x3⟩, ⟨y, y1, y2, y3⟩, _⟩ := t4
          have c0 := t3 0 (by simp)
          have c1 := t3 1 (by simp)
          simp only [List.getElem_cons_zero, List.getElem_cons_succ, List.length_cons, List.length_nil] at c0 c1 ⊢
          have hlo : lo = 2 := by omega
          subst hlo
          clear l4 hn4 h1 l0 l3 l2 t3
          have HX := Lib.hid (And.intro x3 (And.intro x1 x2))
          have HY := Lib.hid (And.intro y3 (And.intro y1 y2))
          have HT := Lib.hid t5
          have HK0 := Lib.hid c0
          have HK1 := Lib.hid c1
          have HS := Lib.hid t2
          have hLe : ∀ j (hj : j < 2), Hid (∀ X, Below wc.heap.size wc X → Calls Try.prog 48 #[.pointer (some ⟨[q1, q2][j], 0, none⟩)] X fun e w' => e = .returned (.tuple #[.agg #[.int .i64 [hd m1, hd m2][j].br, .int .i64 [hd m1, hd m2][j].vol, .int .i64 [hd m1, hd m2][j].blk, .int .u64 [hd m1, hd m2][j].num], .bool true]) ∧ Below X.heap.size X w') := fun j hj => fun X hX => by
            match j, hj with
            | 0, _ =>
              obtain ⟨ks, hk, hl, hh⟩ := x3.keys
              have := least_at (hk.below hX) (by omega) (by omega)
              rw [hh (by omega)] at this
              exact this
            | 1, _ =>
              obtain ⟨ks, hk, hl, hh⟩ := y3.keys
              have := least_at (hk.below hX) (by omega) (by omega)
              rw [hh (by omega)] at this
              exact this
          have hcs : ∀ j (hj : j < 2), wc.cell? ⟨s, j, none⟩ = some (.pointer (some ⟨[q1, q2][j], 0, none⟩)) := fun j hj => by
            match j, hj with
            | 0, _ => exact c0
            | 1, _ => exact c1
          have HLe := Lib.hid hLe
          have HCs := Lib.hid hcs
          clear x3 x1 x2 y3 y1 y2 t5 c0 c1 hLe hcs
          obtain ⟨w1, hw1⟩ : ∃ X, X = wc := ⟨wc, rfl⟩
          subst hw1
          obtain ⟨nb, hnb⟩ : ∃ nb, w1.heap.size = nb := ⟨_, rfl⟩
          have HNb := Lib.hid hnb
          go_upto_block 0 with fail
          have hbl := Blk.new w1 #[.slice none 0 0, .slice none 0 0, .slice (some ⟨s, 0, none⟩) 2 2] 72
          have hbe : Below nb w1 (w1.alloc (.cells #[.slice none 0 0, .slice none 0 0, .slice (some ⟨s, 0, none⟩) 2 2] 72)) := (Below.refl _ _).alloc (by omega) _
          have hsz : (w1.alloc (.cells #[.slice none 0 0, .slice none 0 0, .slice (some ⟨s, 0, none⟩) 2 2] 72)).heap.size = nb + 1 := by rw [World.size_alloc, hnb]
          rw [hnb] at hbl
          try rw [hnb]
          generalize w1.alloc (.cells #[.slice none 0 0, .slice none 0 0, .slice (some ⟨s, 0, none⟩) 2 2] 72) = W4 at *
          clear hnb t2
          go_wp2_with fail
          go_loopw [47] (fun i X => PutRel w1 nb s [hd m1, hd m2] i X) (fun i _ => (2 - intOf i).toNat)
          case atStart => exact ⟨0, none, 0, rfl, by omega, hbl, World.ownsRow_nil _ _ _ _, by omega, hbe⟩
          case round =>
            obtain ⟨j, A, c, rfl, hj, hBk, hown, hnz, hbr⟩ := hrel
            by_cases hj2 : j < 2
            · have e1 : (j : Int) < 2 := by omega
              have e0 : (0 : Int) ≤ (j : Int) := by omega
              have hpt := bel_cell (hbr.mono (by have := HNb.out; omega)) HS.out (HCs.out j hj2)
              have HLj := Lib.hid ((HLe.out j hj2).out wr (hbr.mono (by have := HNb.out; omega)))
              have hz0 : [hd m1, hd m2][j] = [hd m1, hd m2][j] := rfl
              obtain ⟨z, hz⟩ : ∃ z, [hd m1, hd m2][j] = z := ⟨_, rfl⟩
              have HZ : Hid ([hd m1, hd m2][j] = z) := hz
              rw [hz] at HLj
              obtain ⟨q, hq⟩ : ∃ q, [q1, q2][j] = q := ⟨_, rfl⟩
              rw [hq] at HLj hpt
              have HBr := Lib.hid hbr
              have HBk := Lib.hid hBk
              have HO := Lib.hid hown
              clear hbr hBk hown hz hq hz0
              go_wp2_with fail
              refine HLj.out.mono ?_
              rintro e w5 ⟨rfl, hb5⟩
              have hb6 : Below wr.heap.size wr (w5.alloc (.cells #[.int .i64 z.br, .int .i64 z.vol, .int .i64 z.blk, .int .u64 z.num] 46)) := hb5.alloc hb5.size _
              have hz5 : Blk (w5.alloc (.cells #[.int .i64 z.br, .int .i64 z.vol, .int .i64 z.blk, .int .u64 z.num] 46)) w5.heap.size #[.int .i64 z.br, .int .i64 z.vol, .int .i64 z.blk, .int .u64 z.num] 46 := Blk.new w5 _ _
              clear HLj hb5
              go_upto_region 13 with fail
              generalize w5.alloc (.cells #[.int .i64 z.br, .int .i64 z.vol, .int .i64 z.blk, .int .u64 z.num] 46) = W5 at *
              obtain ⟨zb, hzb⟩ : ∃ zb, w5.heap.size = zb := ⟨_, rfl⟩
              rw [hzb] at hz5 ⊢
              clear hzb
              have hO5 : W5.ownsRow (nb + 1) 46 4 (.slice A j c) j (sps ([hd m1, hd m2].take j)) := own_stay HO.out (fun q hq => hb6.block q (own_lt HO.out q hq))
              have hB5 := HBk.out.below hb6 hnz
              have hBe5 : Below nb w1 W5 := HBr.out.trans (hb6.mono (Nat.le_of_lt hnz))
              have lc0 : W5.cell? ⟨nb, 0, none⟩ = some (.slice A j c) := (hB5.cell 0).trans rfl
              have s0 : W5.cell? ⟨zb, 0, none⟩ = some (.int .i64 z.br) := (hz5.cell 0).trans rfl
              have s1 : W5.cell? ⟨zb, 1, none⟩ = some (.int .i64 z.vol) := (hz5.cell 1).trans rfl
              have s2 : W5.cell? ⟨zb, 2, none⟩ = some (.int .i64 z.blk) := (hz5.cell 2).trans rfl
              have s3 : W5.cell? ⟨zb, 3, none⟩ = some (.int .u64 z.num) := (hz5.cell 3).trans rfl
              have hnz5 : nb < W5.heap.size := Nat.lt_of_lt_of_le hnz hb6.size
              have held : ∀ X, Below W5.heap.size W5 X → (fun w' => w'.cell? ⟨nb, 0, none⟩ = some (.slice A j c) ∧ w'.cell? ⟨zb, 0, none⟩ = some (.int .i64 z.br) ∧ w'.cell? ⟨zb, 1, none⟩ = some (.int .i64 z.vol) ∧ w'.cell? ⟨zb, 2, none⟩ = some (.int .i64 z.blk) ∧ w'.cell? ⟨zb, 3, none⟩ = some (.int .u64 z.num)) X := fun X hX => ⟨bel_cell hX (World.block_lt_of_cell? _ _ lc0) lc0, bel_cell hX (World.block_lt_of_cell? _ _ s0) s0, bel_cell hX (World.block_lt_of_cell? _ _ s1) s1, bel_cell hX (World.block_lt_of_cell? _ _ s2) s2, bel_cell hX (World.block_lt_of_cell? _ _ s3) s3⟩
              have hb0 : Below W5.heap.size W5 W5.drew := bel_drewN _ _ (n := 1)
              refine Z_start [7, 10] (fun w' => w'.cell? ⟨nb, 0, none⟩ = some (.slice A j c) ∧ w'.cell? ⟨zb, 0, none⟩ = some (.int .i64 z.br) ∧ w'.cell? ⟨zb, 1, none⟩ = some (.int .i64 z.vol) ∧ w'.cell? ⟨zb, 2, none⟩ = some (.int .i64 z.blk) ∧ w'.cell? ⟨zb, 3, none⟩ = some (.int .u64 z.num)) (by kernel_rfl) ?_
              generalize World.drew W5 = X0 at *
              refine Z_free (i := 0) (v := ?_) rfl (by kernel_rfl) (by kernel_rfl) (by kernel_rfl) (by kernel_rfl) (fun _ _ _ h => h) (Or.inl ⟨by rfl, ?_⟩) (fun _ => held _ hb0) ?_
              rotate_left
              · (intro w' hSw; (try dsimp only at hSw); go_simp <;> (with_reducible rfl))
              try simp only [Act.put, List.setIfInBounds_toArray, List.set_cons_zero, List.set_cons_succ]
              refine Z_free (i := 1) (v := ?_) rfl (by kernel_rfl) (by kernel_rfl) (by kernel_rfl) (by kernel_rfl) (fun _ _ _ h => h) (Or.inl ⟨by rfl, ?_⟩) (fun _ => held _ hb0) ?_
              rotate_left
              · (intro w' hSw; (try dsimp only at hSw); go_simp <;> (with_reducible rfl))
              try simp only [Act.put, List.setIfInBounds_toArray, List.set_cons_zero, List.set_cons_succ]
              refine Z_take (i := 2) (v := ?_) [[4, 3, 2], [2]] rfl (by kernel_rfl) (by kernel_rfl) (by kernel_rfl) (by kernel_rfl) (by kernel_rfl) (fun _ _ _ h => h) (Or.inl ⟨by rfl, ?_⟩) (held _ hb0) ?_
              rotate_left
              · (intro w' hSw; (try dsimp only at hSw); go_simp <;> (with_reducible rfl))
              try simp only [Act.put, List.setIfInBounds_toArray, List.set_cons_zero, List.set_cons_succ]
              refine Z_take (i := 3) (v := ?_) [[4, 3], [3]] rfl (by kernel_rfl) (by kernel_rfl) (by kernel_rfl) (by kernel_rfl) (by kernel_rfl) (fun _ _ _ h => h) (Or.inl ⟨by rfl, ?_⟩) (held _ hb0) ?_
              rotate_left
              · (intro w' hSw; (try dsimp only at hSw); go_simp <;> (with_reducible rfl))
              try simp only [Act.put, List.setIfInBounds_toArray, List.set_cons_zero, List.set_cons_succ]
              refine Z_take (i := 4) (v := ?_) [[4], [4]] rfl (by kernel_rfl) (by kernel_rfl) (by kernel_rfl) (by kernel_rfl) (by kernel_rfl) (fun _ _ _ h => h) (Or.inl ⟨by rfl, ?_⟩) (held _ hb0) ?_
              rotate_left
              · (intro w' hSw; (try dsimp only at hSw); go_simp <;> (with_reducible rfl))
              try simp only [Act.put, List.setIfInBounds_toArray, List.set_cons_zero, List.set_cons_succ]
              refine Z_take (i := 5) (v := ?_) [[6, 5], [5]] rfl (by kernel_rfl) (by kernel_rfl) (by kernel_rfl) (by kernel_rfl) (by kernel_rfl) (fun _ _ _ h => h) (Or.inl ⟨by rfl, ?_⟩) (held _ hb0) ?_
              rotate_left
              · (intro w' hSw; (try dsimp only at hSw); go_simp <;> (with_reducible rfl))
              try simp only [Act.put, List.setIfInBounds_toArray, List.set_cons_zero, List.set_cons_succ]
              refine Z_one (i := 6) rfl (by kernel_rfl) (by rfl) (fun K hK => ?_)
              go_simp
              have hb1 : Below W5.heap.size W5 (World.alloc X0 (.cells #[.int .i64 z.br, .int .i64 z.vol, .int .i64 z.blk, .int .u64 z.num] 46)) := hb0.alloc hb0.size _
              have hsn := spot_new X0 z
              generalize hX1 : World.alloc X0 (.cells #[.int .i64 z.br, .int .i64 z.vol, .int .i64 z.blk, .int .u64 z.num] 46) = X1 at hb1 hsn ⊢
              obtain ⟨Z1, hZ1⟩ : ∃ Z, Z = X0.heap.size := ⟨_, rfl⟩
              rw [← hZ1] at hsn ⊢
              clear hX1 hZ1
              refine hK.out _ _ (fun _ => held _ hb1) ?_
              clear hK K
              try simp only [Act.put, List.setIfInBounds_toArray, List.set_cons_zero, List.set_cons_succ]
              refine Z_one (i := 7) rfl (by kernel_rfl) (by rfl) (fun K hK => ?_)
              refine app_S (.tmp 60) (.tmp 62) rfl (nb + 1) (.slice A j c) j ([hd m1, hd m2].take j) (by rfl) (own_stay hO5 (fun q hq => hb1.block q (own_lt hO5 q hq))) _ 1 _ [z] (by rfl) rfl hsn (fun e => by cases e) (j + 1) (by omega) (by omega) (Nat.le_trans hnz5 hb1.size) ?_
              intro A2 c2 X2 ho2 hg2 ha2 hc2
              have hP2 : Blk X2 nb #[.slice A j c, .slice none 0 0, .slice (some ⟨s, 0, none⟩) 2 2] 72 := kept_blk (hB5.below hb1 hnz5) hg2 (fun e => by have := own_ge hO5 nb e.symm; omega)
              refine hK.out _ _ (fun h => absurd h (none_of_not (by kernel_rfl))) ?_
              clear hK K
              try simp only [Act.put, List.setIfInBounds_toArray, List.set_cons_zero, List.set_cons_succ]
              refine Z_one (i := 8) rfl (by kernel_rfl) (by rfl) (fun K hK => ?_)
              go_simp
              refine hK.out _ _ (fun h => absurd h (none_of_not (by kernel_rfl))) ?_
              clear hK K
              try simp only [Act.put, List.setIfInBounds_toArray, List.set_cons_zero, List.set_cons_succ]
              refine Z_one (i := 9) rfl (by kernel_rfl) (by rfl) (fun K hK => ?_)
              go_simp
              refine hK.out _ _ (fun h => absurd h (none_of_not (by kernel_rfl))) ?_
              clear hK K
              try simp only [Act.put, List.setIfInBounds_toArray, List.set_cons_zero, List.set_cons_succ]
              refine Z_one (i := 10) rfl (by kernel_rfl) (by rfl) (fun K hK => ?_)
              have y0 : X2.cell? ⟨nb, 0, none⟩ = some (.slice A j c) := (hP2.cell 0).trans rfl
              have y1 := hP2.frozen 0
              go_simp
              clear y0 y1
              refine hK.out _ _ (fun h => absurd h (none_of_not (by kernel_rfl))) ?_
              clear hK K
              try simp only [Act.put, List.setIfInBounds_toArray, List.set_cons_zero, List.set_cons_succ]
              refine Z_done (by kernel_rfl) ?_ _
              go_wp2_with fail
              go_roundw
              case rel =>
                have hne : ∀ q, (Value.slice A2 (j + 1) c2).ownBlock = some q → q ≠ nb := fun q hq => by have := own_ge ho2 q hq; omega
                have hset := own_stay ho2 (w' := X2.setCell ⟨nb, 0, none⟩ (.slice A2 (j + 1) c2)) (fun q hq => Below.heap_setCell X2 ⟨nb, 0, none⟩ _ q (hne q hq))
                have hrel : PutRel w1 nb s [hd m1, hd m2] (.int .i64 ((j : Int) + 1)) (X2.setCell ⟨nb, 0, none⟩ (.slice A2 (j + 1) c2)) := by
                  refine ⟨j + 1, A2, c2, by simp, hj2, hP2.set (o := 0) _, ?_, by simpa using hP2.lt, ?_⟩
                  · rw [List.take_succ_eq_append_getElem (by simpa using hj2), HZ.out]
                    exact hset
                  · exact ((hBe5.trans (hb1.mono (Nat.le_of_lt hnz5))).trans (hc2.mono (Nat.le_succ _))).setCell (p := ⟨nb, 0, none⟩) (Nat.le_refl _) _
                first | exact hrel | exact ⟨_, _, _, _, hrel, rfl, rfl, rfl, rfl⟩
              case measure => (simp [intOf] <;> omega)
            · obtain rfl : j = 2 := by omega
              have HO := Lib.hid hown
              have HBk := Lib.hid hBk
              have HBr := Lib.hid hbr
              clear hown hBk hbr
              go_wp2_with fail
              go_ret
              have hwn : w1.heap.size ≤ nb := by have := HNb.out; omega
              refine ⟨some ⟨wr.heap.size, 0, none⟩, rfl, ?_, (HB.out.trans (HBr.out.mono (Nat.le_trans HB.out.size hwn))).alloc (by have := HB.out.size; have := HBr.out.size; omega) _⟩
              rw [← HNL.out]
              refine TreeAt.new (.inr ⟨nb, h + 1, 2, rfl, ?_, by omega, fun _ => by omega, by omega⟩)
              rw [← HT.out]
              simpa using put_endT HBk.out HO.out HBr.out hwn HS.out HK0.out HK1.out HX.out.1 HY.out.1 HX.out.2 HY.out.2
end Go.Proofs.Ytlackkhkaceblaa.N

/- Height and Looked of a tree; Del. -/
namespace Go.Proofs.Ytlackkhkaceblaa.N
open Go.BigFrame Go.RowKit Go.Proofs.YtlackkhkaceblaaW.PrintMore Go.Proofs.YtlackkhkaceblaaW.PrintWords
set_option linter.unusedVariables false
set_option linter.unusedSimpArgs false
theorem all2_tall2 {w : World} {h : Nat} (ih : ∀ {p n : Nat} {l : List Ent}, Nd w h p l n → 2 ≤ n → 2 ^ (h + 1) ≤ l.length) : ∀ {qs : List Nat} {ls : List (List Ent)}, All2 (Kid w h 2) qs ls → ls.length * 2 ^ (h + 1) ≤ ls.flatten.length
  | [], [], _ => by simp
  | q :: qs, l :: ls, hk => by
    obtain ⟨⟨s, s1, s2, s3⟩, ht⟩ := hk
    have a := ih s3 s1
    have b := all2_tall2 (fun {p n l} => @ih p n l) ht
    rw [List.flatten_cons, List.length_append, List.length_cons, Nat.succ_mul]
    omega
  | [], _ :: _, hk => hk.elim
  | _ :: _, [], hk => hk.elim
theorem nd_tall2 {w : World} : ∀ {h p n : Nat} {l : List Ent}, Nd w h p l n → 2 ≤ n → 2 ^ (h + 1) ≤ l.length
  | 0, p, n, l, hn, h0 => by have := hn.1; simp; omega
  | h + 1, p, n, l, hn, h2 => by
    obtain ⟨qs, ls, a, b, c, d⟩ := nd_succ.1 hn
    have hs := all2_tall2 (fun {p n l} (x : Nd w h p l n) y => nd_tall2 x y) d
    have := d.length
    have hm : 2 * 2 ^ (h + 1) ≤ ls.length * 2 ^ (h + 1) := Nat.mul_le_mul_right _ (by omega)
    rw [b, Nat.pow_succ]
    omega
/-- How many nodes stand on the way down. -/
def HiOf (w : World) (r : Option Addr) (H : Nat) : Prop := (r = none ∧ H = 0) ∨ ∃ q h n m, r = some ⟨q, 0, none⟩ ∧ Nd w h q m n ∧ H = h + 1
theorem root_hi {w : World} {r : Option Addr} {l : List Ent} (h : RootAt w r l) (ha : Asc l) : ∃ H, HiOf w r H ∧ (l = [] ↔ r = none) ∧ (l.length < 4 → H = min l.length 1) ∧ (4 ≤ l.length → 1 ≤ H ∧ 2 ^ H ≤ l.length) ∧ ∀ H', HiOf w r H' → H' = H := by
  rcases h with ⟨rfl, rfl⟩ | ⟨q, h, n, rfl, hnd, h0, h2, h4⟩
  · exact ⟨0, .inl ⟨rfl, rfl⟩, by simp, fun _ => rfl, (fun h => by simp at h), fun H' hh => by rcases hh with ⟨_, e⟩ | ⟨_, _, _, _, e, _⟩; exact e; cases e⟩
  · have hne := hnd.ne h0
    have h1 : 1 ≤ l.length := by
      cases l with
      | nil => exact absurd rfl hne
      | cons x t => simp
    have hp : 0 < h → 2 ^ (h + 1) ≤ l.length := fun hh => nd_tall2 hnd (h2 hh)
    refine ⟨h + 1, .inr ⟨q, h, n, l, rfl, hnd, rfl⟩, ⟨fun e => absurd e hne, fun e => by cases e⟩, fun hl => ?_, fun hl => ⟨by omega, ?_⟩, fun H' hh => ?_⟩
    · cases h with
      | zero => omega
      | succ h =>
        have := hp (by omega)
        have : 2 ^ 2 ≤ 2 ^ (h + 1 + 1) := Nat.pow_le_pow_right (by decide) (by omega)
        omega
    · cases h with
      | zero => simpa using (by omega : 2 ≤ l.length)
      | succ h => exact hp (by omega)
    · rcases hh with ⟨e, _⟩ | ⟨q', h', n', m', e, hn', e2⟩
      · cases e
      · cases e
        rw [e2, nd_uniq hn' hnd]
def HighRel (w : World) (H : Nat) (nv xv : Value) (X : World) : Prop := ∃ (h q n d : Nat) (m : List Ent), nv = .int .i64 d ∧ xv = .pointer (some ⟨q, 0, none⟩) ∧ Nd X h q m n ∧ 0 < n ∧ (0 < h → 2 ≤ n) ∧ n ≤ 4 ∧ d + h + 1 = H ∧ H ≤ 20 ∧ Below w.heap.size w X
def LookedRel (w : World) (H : Nat) (nv xv : Value) (X : World) : Prop := ∃ (h q n d : Nat) (m : List Ent), nv = .int .i64 d ∧ xv = .pointer (some ⟨q, 0, none⟩) ∧ Nd X h q m n ∧ 0 < n ∧ (0 < h → 2 ≤ n) ∧ n ≤ 4 ∧ d + h + 1 = H ∧ H ≤ 20 ∧ Below w.heap.size w X
/-- Del: the tree without the spot; the tree itself, if the spot isn't there. -/
def DelT (w : World) (p : Option Addr) (l : List Ent) (k : Sp) (e : Ending) (w' : World) : Prop := ∃ p', e = .returned (.pointer p') ∧ TreeAt w' p' (delE k l) ∧ Below w.heap.size w w' ∧ (hasE k l = false → p' = p)
theorem del_none (w : World) (k : Sp) : Calls Try.prog 60 #[.pointer none, .agg #[.int .i64 k.br, .int .i64 k.vol, .int .i64 k.blk, .int .u64 k.num]] w fun e w' => e = .returned (.tuple #[.pointer none, .bool false]) ∧ Below w.heap.size w w' := by
  go_enter Try.func60, Try.ntmps60
  go_wp2_with fail
  go_ret2
  exact ⟨rfl, (Below.refl _ _).alloc (Nat.le_refl _) _⟩
theorem Del_nil (w : World) (k : Sp) : Calls Try.prog 50 #[.pointer none, .agg #[.int .i64 k.br, .int .i64 k.vol, .int .i64 k.blk, .int .u64 k.num]] w fun e w' => e = .returned (.tuple #[.pointer none, .bool false]) ∧ Below w.heap.size w w' := by
  go_enter Try.func50, Try.ntmps50
  go_wp2_with fail
  refine (del_none _ k).mono ?_
  have hbw : Below w.heap.size w (w.alloc (.cells #[.int .i64 k.br, .int .i64 k.vol, .int .i64 k.blk, .int .u64 k.num] 46)) := (Below.refl _ _).alloc (Nat.le_refl _) _
  rintro e w1 ⟨rfl, hb⟩
  have HB := Lib.hid (hbw.trans (hb.mono hbw.size))
  clear hbw hb
  go_wp2_with fail
  go_ret2
  exact ⟨rfl, HB.out⟩
theorem Del_root {w : World} {r : Option Addr} {l : List Ent} (h : RootAt w r l) (ha : Asc l) (k : Sp) :
    Calls Try.prog 50 #[.pointer r, .agg #[.int .i64 k.br, .int .i64 k.vol, .int .i64 k.blk, .int .u64 k.num]] w (DelRoot w r l k) := by
  rcases h with ⟨rfl, rfl⟩ | ⟨q, h, n, rfl, hn, h0, h2, h4⟩
  · exact (Del_nil w k).mono fun e w' hp => .inl ⟨rfl, hp.1, hp.2⟩
  · exact Del_at hn h0 h2 h4 ha k
set_option maxHeartbeats 3200000 in
set_option maxRecDepth 100000 in
theorem del_tree {w : World} {p : Option Addr} {l : List Ent} (h : TreeAt w p l) (ha : Asc l) (hl : l.length ≤ 1000) (k : Sp) :
    Calls Try.prog 35 #[.pointer p, .agg #[.int .i64 k.br, .int .i64 k.vol, .int .i64 k.blk, .int .u64 k.num]] w (DelT w p l k) := by
  obtain ⟨r, hr, hroot⟩ := root_tree h
  have hbw : Below w.heap.size w (w.alloc (.cells #[.int .i64 k.br, .int .i64 k.vol, .int .i64 k.blk, .int .u64 k.num] 46)) := (Below.refl _ _).alloc (Nat.le_refl _) _
  have hbox := heap_alloc_new w (.cells #[.int .i64 k.br, .int .i64 k.vol, .int .i64 k.blk, .int .u64 k.num] 46)
  have HRo := Lib.hid hroot
  have HDe : Hid (∀ X, Below w.heap.size w X → Calls Try.prog 50 #[.pointer r, .agg #[.int .i64 k.br, .int .i64 k.vol, .int .i64 k.blk, .int .u64 k.num]] X fun e w' => ∃ r', e = .returned (.tuple #[.pointer r', .bool (hasE k l)]) ∧ Below X.heap.size X w' ∧ (hasE k l = false → r' = r) ∧ (hasE k l = true → RootAt w' r' (delE k l))) := fun X hX => (Del_root (hr.below hX) ha k).mono fun e w' hp => by
    rcases hp with ⟨a1, rfl, a3⟩ | ⟨a1, r', rfl, a4, a5⟩
    · exact ⟨r, by rw [a1], a3, fun _ => rfl, fun h => by rw [a1] at h; cases h⟩
    · exact ⟨r', by rw [a1], a5, fun h => (by rw [a1] at h; cases h), fun _ => a4⟩
  have HLe := Lib.hid (len_tree h)
  have HT := Lib.hid h
  have HL := Lib.hid hl
  clear h ha hl hr hroot
  go_enter Try.func35, Try.ntmps35
  go_upto_region 1 with fail
  generalize w.alloc (.cells #[.int .i64 k.br, .int .i64 k.vol, .int .i64 k.blk, .int .u64 k.num] 46) = W at *
  have hbd : Below W.heap.size W (W.drewN 1) := bel_drewN _ _ (n := 1)
  have HBw := Lib.hid hbw
  obtain ⟨k0, k1, k2, k3, zk⟩ := box_cells hbox (Below.refl _ _)
  have HRo1 := Lib.hid (HRo.out _ (hbw.trans (hbd.mono hbw.size)))
  have HD1 := Lib.hid (HDe.out _ (hbw.trans (hbd.mono hbw.size)))
  have HBd := Lib.hid (hbw.trans (hbd.mono hbw.size))
  clear hbox hbw hbd HRo HDe
  go_cut [5, 6] (fun rv ov X => Below w.heap.size w X ∧ ((hasE k l = false ∧ rv = .pointer r ∧ ov = .bool false) ∨ (hasE k l = true ∧ ∃ r', rv = .pointer r' ∧ ov = .bool true ∧ RootAt X r' (delE k l))))
  case first =>
    go_region_with (first | (go_at_call 40; refine HRo1.out.mono ?_; rintro e w1 ⟨rfl, rfl⟩) | (go_at_call 50; refine HD1.out.mono ?_; rintro e w1 ⟨r', rfl, a3, a4, a5⟩))
    all_goals go_wp2_with fail
    all_goals go_meet
    all_goals (
      refine ⟨HBd.out.trans (a3.mono HBd.out.size), ?_⟩
      cases hh : hasE k l
      · exact .inl ⟨rfl, by rw [a4 hh], rfl⟩
      · exact .inr ⟨rfl, _, rfl, rfl, a5 hh⟩)
  case rest =>
   obtain ⟨hB, hcase⟩ := hcut
   have HB := Lib.hid hB
   clear hB
   rcases hcase with ⟨a1, rfl, rfl⟩ | ⟨a1, r', rfl, rfl, a4⟩
   · have HA := Lib.hid a1
     clear a1
     go_wp2_with fail
     go_ret
     exact ⟨p, rfl, by rw [delE_none HA.out]; exact HT.out.below HB.out, HB.out, fun _ => rfl⟩
   · have HA := Lib.hid a1
     have HR := Lib.hid a4
     have HLn := Lib.hid (HLe.out wc HB.out)
     have hdl := delE_length (k := k) (l := l)
     rw [a1] at hdl
     have hlen : (delE k l).length = l.length - 1 := by simpa using hdl
     have hpos : 1 ≤ l.length := by
       cases l with
       | nil => simp [hasE] at a1
       | cons x t => simp
     have HDl := Lib.hid (And.intro hlen hpos)
     have e1 : (l.length : Int) ≤ 1000 := by have := HL.out; omega
     have e2 : (1 : Int) ≤ (l.length : Int) := by omega
     clear a1 a4 hdl hlen hpos
     go_wp2_with fail
     refine HLn.out.mono ?_
     rintro e w2 ⟨rfl, rfl⟩
     go_wp2_with fail
     go_ret
     have e3 : (l.length : Int) - 1 = ((delE k l).length : Nat) := by have := HDl.out; omega
     refine ⟨some ⟨wc.heap.size, 0, none⟩, rfl, ?_, HB.out.alloc HB.out.size _, fun h => by rw [HA.out] at h; cases h⟩
     rw [e3]
     exact TreeAt.new HR.out
end Go.Proofs.Ytlackkhkaceblaa.N
