/- TC: joined by merge.py. -/
import Derived.Test.YtainljbkejafcaaTA
import Derived.Test.YtainljbkejafcaaNLook
import Derived.Test.YtainljbkejafcaaNHeldZ
import Derived.WalkMore
import Derived.Shelf.RegionOpen
import Derived.RangeFuncNested
import Derived.TacticsInMore
import Derived.Shelf.Abstract
import Derived.RangeFuncBound
import Derived.Laws.EntriesVeiled
import Derived.RangeFuncCalls
import Derived.RangeFuncLeaves
import Derived.RangeFuncBox
import Derived.Test.YtainljbkejafcaaTB
import Derived.OwnWalkIn
import Derived.Outline
import Derived.Test.YtainljbkejafcaaNOpen
/- The walk of Range. -/
namespace Go.Proofs.Ytainljbkejafcaa.N
open Go.BigFrame Go.RowKit Go.Shelf Go.Proofs.YtainljbkejafcaaW.PrintMore Go.Proofs.YtainljbkejafcaaW.PrintWords
set_option linter.unusedVariables false
set_option linter.unusedSimpArgs false
attribute [local go_sem] Oper.semAt_some
/-- Those between two spots. -/
def selE (lo hi : Sp) (l : List Ent) : List Ent := l.filter (fun y => !lt y.1 lo && !lt hi y.1)
theorem selE_app (lo hi : Sp) (a b : List Ent) : selE lo hi (a ++ b) = selE lo hi a ++ selE lo hi b := List.filter_append ..
theorem selE_hi {lo hi : Sp} {l : List Ent} (h : ∀ y ∈ l, lt hi y.1 = true) : selE lo hi l = [] := List.filter_eq_nil_iff.2 (fun y hy => by simp [h y hy])
theorem selE_lo {lo hi : Sp} {l : List Ent} (h : ∀ y ∈ l, lt y.1 lo = true) : selE lo hi l = [] := List.filter_eq_nil_iff.2 (fun y hy => by simp [h y hy])
theorem selE_one {lo hi : Sp} {x : Ent} (h1 : lt hi x.1 = false) (h2 : lt x.1 lo = false) : selE lo hi [x] = [x] := by simp [selE, h1, h2]
/-- What a round keeps: blocks of cells of other types than the caller's. -/
def KeepT (bad : TypeId → Prop) (W W' : World) : Prop := ∀ (q : Nat) (cs : Array Value) (T : TypeId) (fz : Nat × Nat), W.heap[q]? = some (.cells cs T fz) → ¬ bad T → W'.heap[q]? = W.heap[q]?
def RK (bad : TypeId → Prop) (w0 W W' : World) : Prop := Below w0.heap.size W W' ∧ KeepT bad W W'
def spC (s : Sp) : Array Value := #[.int .i64 s.br, .int .i64 s.vol, .int .i64 s.blk, .int .u64 s.num]
/-- The boxes that the walk reads. -/
structure WInv (w0 W : World) (tb fb yb wb : Nat) (lo hi : Sp) (l : Nat) : Prop where
  b : Below w0.heap.size w0 W
  t : Blk W tb (spC hi) 26
  f : Blk W fb (spC lo) 26
  y : Blk W yb #[.func (.yield l) #[] #[]] 104
  k : Blk W wb #[.func (.func 75) #[] #[.pointer (some ⟨tb, 0, none⟩), .pointer (some ⟨fb, 0, none⟩), .pointer (some ⟨yb, 0, none⟩), .pointer (some ⟨wb, 0, none⟩)]] 125
section
variable {w0 W W' : World} {tb fb yb wb : Nat} {lo hi : Sp} {l : Nat}
theorem WInv.below (h : WInv w0 W tb fb yb wb lo hi l) (hb : Below W.heap.size W W') : WInv w0 W' tb fb yb wb lo hi l :=
  ⟨h.b.trans (hb.mono h.b.size), h.t.below hb h.t.lt, h.f.below hb h.f.lt, h.y.below hb h.y.lt, h.k.below hb h.k.lt⟩
theorem WInv.kept (h : WInv w0 W tb fb yb wb lo hi l) {bad : TypeId → Prop} (hb : RK bad w0 W W') (h1 : ¬ bad 26) (h2 : ¬ bad 104) (h3 : ¬ bad 125) : WInv w0 W' tb fb yb wb lo hi l :=
  ⟨h.b.trans hb.1, (hb.2 _ _ _ _ h.t h1).trans h.t, (hb.2 _ _ _ _ h.f h1).trans h.f, (hb.2 _ _ _ _ h.y h2).trans h.y, (hb.2 _ _ _ _ h.k h3).trans h.k⟩
end
theorem own_below {w w' : World} (h : Below w.heap.size w w') : w.grownBy w' none := ⟨h.os, h.tape, h.output, h.size, fun i hi _ => h.block i hi⟩
theorem ab_below {β : Type} {B : Nat} {J : β → World → Prop} (hJ : AbidesFrom B J) {s : β} {w w' : World} (h : J s w) (hb : Below w.heap.size w w') : J s w' := hJ s w w' none h (own_below hb) (fun r e => by cases e)
theorem yield_wide {n n' : Nat} {P : Program} {l : Nat} {args : Array Value} {W : World} {R : Ending → World → Prop} (h : YieldAt Fence.wide n P l args W R) : YieldAt Fence.wide n' P l args W R := by
  obtain ⟨fn, tmps, assign, body, h1, h2, h3⟩ := h
  exact ⟨fn, tmps, assign, body, h1, h2, fun c cs _ => h3 c cs (room_wide _)⟩
def encEnt (x : Ent) : Array Value := #[.agg #[.int .i64 x.1.br, .int .i64 x.1.vol, .int .i64 x.1.blk, .int .u64 x.1.num], .int .u64 x.2]
/-- How a walk over some entries ends. -/
def WPost (w0 : World) (tb fb yb wb : Nat) (lo hi : Sp) (l : Nat) (J Jx : List Ent → World → Prop) (pre m : List Ent) (e : Ending) (W' : World) : Prop :=
  (e = .returned (.bool true) ∧ J (pre ++ selE lo hi m) W' ∧ WInv w0 W' tb fb yb wb lo hi l) ∨ (e = .returned (.bool false) ∧ ∃ ys, ys <+: selE lo hi m ∧ Jx (pre ++ ys) W')
def LRel (w0 : World) (tb fb yb wb : Nat) (lo hi : Sp) (l : Nat) (J : List Ent → World → Prop) (pre : List Ent) (done : Nat → List Ent) (n : Nat) (i : Value) (X : World) : Prop := ∃ j : Nat, i = .int .i64 j ∧ j ≤ n ∧ J (pre ++ selE lo hi (done j)) X ∧ WInv w0 X tb fb yb wb lo hi l
set_option maxHeartbeats 6400000 in
set_option maxRecDepth 100000 in
theorem walk_nd {w0 : World} (bad : TypeId → Prop) (h1 : ¬ bad 26) (h2 : ¬ bad 104) (h3 : ¬ bad 125) (tb fb yb wb : Nat) (lo hi : Sp) (l N B : Nat) (J Jx : List Ent → World → Prop) (hJ : AbidesFrom B J)
    (hY : ∀ pre x W, J pre W → pre.length < N → YieldAt Fence.wide 0 Try.prog l (encEnt x) W fun e W' => (e = .returned (.bool true) ∧ J (pre ++ [x]) W' ∧ RK bad w0 W W') ∨ (e = .returned (.bool false) ∧ Jx (pre ++ [x]) W')) :
    ∀ (h : Nat) {q n : Nat} {m : List Ent}, Nd w0 h q m n → n ≤ 4 → 0 < n → Asc m → ∀ (X : World) (pre : List Ent), WInv w0 X tb fb yb wb lo hi l → J pre X → pre.length + (selE lo hi m).length ≤ N →
    Calls Try.prog 75 #[.pointer (some ⟨q, 0, none⟩), .pointer (some ⟨tb, 0, none⟩), .pointer (some ⟨fb, 0, none⟩), .pointer (some ⟨yb, 0, none⟩), .pointer (some ⟨wb, 0, none⟩)] X (WPost w0 tb fb yb wb lo hi l J Jx pre m) := by
  intro h
  induction h with
  | zero =>
    intro q n m hnd h4 h0 ha X pre hW hJ0 hN
    obtain ⟨hn, hL⟩ := hnd
    have HL := Lib.hid hL
    have HA := Lib.hid ha
    obtain ⟨KA, kca, KB, kcb, hh⟩ := hL
    have c0 := bel_cell hW.b hh.lt hh.c0
    rw [List.length_map, ← hn] at c0
    obtain ⟨kb, ko, rfl, lk, ck⟩ := hh.keys (by rw [List.length_map]; omega)
    obtain ⟨vb, vo, rfl, lv, cv⟩ := hh.vals (by rw [List.length_map]; omega)
    have HC := Lib.hid (And.intro ck cv)
    have HLt := Lib.hid (And.intro hh.lt (And.intro lk lv))
    have HC1 := Lib.hid hh.c1
    have HC0 := Lib.hid hh.c0
    have HNn := Lib.hid hn
    clear hh ck cv lk lv ha hn
    have HNN := Lib.hid hN
    clear hN
    go_enter Try.func75, Try.ntmps75
    go_wp2_with fail
    go_step3
    go_wp2_with fail
    go_step3
    go_wp2_with fail
    go_loopw [14] (fun i Y => LRel w0 tb fb yb wb lo hi l J pre (fun j => m.take j) n i Y) (fun i _ => (n - intOf i).toNat)
    case atStart => exact ⟨0, rfl, Nat.zero_le _, by simpa [selE] using hJ0, hW⟩
    case round =>
      obtain ⟨j, rfl, hj, hJs, hI⟩ := hrel
      dsimp only at hJs
      have HI := Lib.hid hI
      have HJs := Lib.hid hJs
      by_cases hjn : j < n
      · have hjm : j < m.length := by rw [← HNn.out]; exact hjn
        have HTk := Lib.hid (List.take_succ_eq_append_getElem hjm)
        have hdr := List.drop_eq_getElem_cons hjm
        have hasc := HA.out
        unfold Asc at hasc
        have hge : ∀ y ∈ m.drop (j + 1), lt m[j].1 y.1 = true := fun y hy => by
          have h2 : (m.drop j).Pairwise (fun a b => lt a.1 b.1 = true) := hasc.sublist (List.drop_sublist _ _)
          rw [hdr, List.pairwise_cons] at h2
          exact h2.1 y hy
        have HGe := Lib.hid hge
        have HDr := Lib.hid hdr
        obtain ⟨s0, s1, s2, s3⟩ := HC.out.1 j (by rw [List.length_map]; exact hjm)
        have v0 := HC.out.2 j (by rw [List.length_map]; exact hjm)
        rw [List.getElem_map] at s0 s1 s2 s3 v0
        obtain ⟨x, hx⟩ : ∃ x, m[j] = x := ⟨_, rfl⟩
        rw [hx] at s0 s1 s2 s3 v0 HTk HGe HDr
        have s0 := bel_cell hI.b HLt.out.2.1 s0
        have s1 := bel_cell hI.b HLt.out.2.1 s1
        have s2 := bel_cell hI.b HLt.out.2.1 s2
        have s3 := bel_cell hI.b HLt.out.2.1 s3
        have HV0 := Lib.hid v0
        have z0 : wr.cell? ⟨tb, 0, none⟩ = some (.int .i64 hi.br) := (hI.t.cell 0).trans rfl
        have z1 : wr.cell? ⟨tb, 1, none⟩ = some (.int .i64 hi.vol) := (hI.t.cell 1).trans rfl
        have z2 : wr.cell? ⟨tb, 2, none⟩ = some (.int .i64 hi.blk) := (hI.t.cell 2).trans rfl
        have z3 : wr.cell? ⟨tb, 3, none⟩ = some (.int .u64 hi.num) := (hI.t.cell 3).trans rfl
        have lz := hI.t.lt
        have e1 : (0 : Int) ≤ (j : Int) := by omega
        have e2 : (j : Int) < (n : Int) := by omega
        have hbA : Below wr.heap.size wr (wr.alloc (.cells (spC x.1) 26)) := (Below.refl _ _).alloc (Nat.le_refl _) _
        have hbk := Blk.new wr (spC x.1) 26
        have HbA := Lib.hid hbA
        have Hbk := Lib.hid hbk
        clear hx hdr hasc hge hjm v0 hJs hI hbA hbk
        go_wp2_with fail
        refine (before_at' hi x.1 _).mono ?_
        rintro e w3 ⟨rfl, hb3⟩
        have hb03 : Below wr.heap.size wr w3 := HbA.out.trans (hb3.mono HbA.out.size)
        have HI3 := Lib.hid (HI.out.below hb03)
        have HJ3 := Lib.hid (ab_below hJ HJs.out hb03)
        have Hbk3 : Hid (Blk w3 wr.heap.size (spC x.1) 26) := Hbk.out.below hb3 Hbk.out.lt
        clear hb3 hb03 s0 s1 s2 s3 z0 z1 z2 z3 lz
        cases hlt : lt hi x.1 with
        | true =>
          have hse : selE lo hi m = selE lo hi (m.take j) := by
            conv => lhs; rw [← List.take_append_drop j m]
            rw [selE_app, HDr.out, selE_hi (l := x :: m.drop (j + 1)) (fun y hy => ?_), List.append_nil]
            rcases List.mem_cons.1 hy with rfl | hy
            · exact hlt
            · exact lt_tra hlt (HGe.out y hy)
          have HSe := Lib.hid hse
          clear hse hlt
          go_wp2_with fail
          go_ret
          exact .inl ⟨rfl, by rw [HSe.out]; exact HJ3.out, HI3.out⟩
        | false =>
          have HLt1 := Lib.hid hlt
          clear hlt
          go_wp2_with fail
          refine (leaf_yes (HL.out.below HI3.out.b)).mono ?_
          rintro e w4 ⟨rfl, rfl⟩
          go_upto_region 6 with fail
          have k0 : w3.cell? ⟨wr.heap.size, 0, none⟩ = some (.int .i64 x.1.br) := (Hbk3.out.cell 0).trans rfl
          have k1 : w3.cell? ⟨wr.heap.size, 1, none⟩ = some (.int .i64 x.1.vol) := (Hbk3.out.cell 1).trans rfl
          have k2 : w3.cell? ⟨wr.heap.size, 2, none⟩ = some (.int .i64 x.1.blk) := (Hbk3.out.cell 2).trans rfl
          have k3 : w3.cell? ⟨wr.heap.size, 3, none⟩ = some (.int .u64 x.1.num) := (Hbk3.out.cell 3).trans rfl
          have f0 : w3.cell? ⟨fb, 0, none⟩ = some (.int .i64 lo.br) := (HI3.out.f.cell 0).trans rfl
          have f1 : w3.cell? ⟨fb, 1, none⟩ = some (.int .i64 lo.vol) := (HI3.out.f.cell 1).trans rfl
          have f2 : w3.cell? ⟨fb, 2, none⟩ = some (.int .i64 lo.blk) := (HI3.out.f.cell 2).trans rfl
          have f3 : w3.cell? ⟨fb, 3, none⟩ = some (.int .u64 lo.num) := (HI3.out.f.cell 3).trans rfl
          obtain ⟨zb, hzb⟩ : ∃ zb, wr.heap.size = zb := ⟨_, rfl⟩
          rw [hzb] at Hbk3 k0 k1 k2 k3 ⊢
          clear hzb
          have HBf := Lib.hid (fun X => before_at' x.1 lo X)
          cases hls : lt x.1 lo with
          | true =>
            rw [hls] at HBf
            have hse : selE lo hi (m.take (j + 1)) = selE lo hi (m.take j) := by
              rw [HTk.out, selE_app, selE_lo (l := [x]) (fun y hy => by rw [List.mem_singleton.1 hy]; exact hls), List.append_nil]
            have HTk2 := Lib.hid hse
            clear hse
            clear hls
            have z0 := cls_cell k0
            have z1 := cls_cell k1
            have z2 := cls_cell k2
            have z3 := cls_cell k3
            have y0 := cls_cell f0
            have y1 := cls_cell f1
            have y2 := cls_cell f2
            have y3 := cls_cell f3
            have HBe : Hid (∀ X : Wd (Below w3.heap.size w3), Calls Try.prog 20 #[.agg #[.int .i64 x.1.br, .int .i64 x.1.vol, .int .i64 x.1.blk, .int .u64 x.1.num], .agg #[.int .i64 lo.br, .int .i64 lo.vol, .int .i64 lo.blk, .int .u64 lo.num]] X.w fun e w'' => e = .returned (.bool true) ∧ ∃ m : Wd (Below w3.heap.size w3), w'' = m.w) := fun X => Calls.clsB (HBf.out X.w) (Nat.le_refl _)
            have := cls_ne w3
            clear k0 k1 k2 k3 f0 f1 f2 f3
            refine wp_region_cls (S := Below w3.heap.size w3) (by kernel_rfl) (by kernel_rfl) (bel_drewN _ _ (n := 1)) ?_
            repeat (go_big_quiet_step (with_reducible (first | exact HBe.out _)))
            refine wpQuiet_nil ?_
            rintro w5 ⟨⟨_, hx5⟩, rfl⟩
            try dsimp only
            have HI5 := Lib.hid (HI3.out.below hx5)
            have HJ5 := Lib.hid (ab_below hJ HJ3.out hx5)
            clear z0 z1 z2 z3 y0 y1 y2 y3 this HBe hx5
            go_wp2_with fail
            go_roundw
            case rel => exact ⟨j + 1, by simp, hjn, by dsimp only; rw [HTk2.out]; exact HJ5.out, HI5.out⟩
            case measure => (simp [intOf] <;> omega)
          | false =>
            rw [hls] at HBf
            have hse : selE lo hi (m.take (j + 1)) = selE lo hi (m.take j) ++ [x] := by rw [HTk.out, selE_app, selE_one HLt1.out hls]
            have HTk2 := Lib.hid hse
            have hlen : (pre ++ selE lo hi (m.take j)).length < N := by
              have h5 : selE lo hi m = selE lo hi (m.take (j + 1)) ++ selE lo hi (m.drop (j + 1)) := by rw [← selE_app, List.take_append_drop]
              have h6 := HNN.out
              rw [h5, hse] at h6
              simp only [List.length_append, List.length_singleton] at h6 ⊢
              omega
            have HYi : Hid (∀ W, J (pre ++ selE lo hi (m.take j)) W → YieldAt Fence.wide 5 Try.prog l (encEnt x) W fun e W' => ∃ b : Bool, e = .returned (.bool b) ∧ ((b = true ∧ J (pre ++ selE lo hi (m.take j) ++ [x]) W' ∧ RK bad w0 W W') ∨ (b = false ∧ Jx (pre ++ selE lo hi (m.take j) ++ [x]) W'))) := fun W hW => by
              refine YieldAt.mono (yield_wide (hY _ x W hW hlen)) (fun e W' hp => ?_)
              rcases hp with ⟨rfl, a, b⟩ | ⟨rfl, a⟩
              · exact ⟨true, rfl, .inl ⟨rfl, a, b⟩⟩
              · exact ⟨false, rfl, .inr ⟨rfl, a⟩⟩
            clear hls hse hlen
            have hmx : Try.prog.follows .mixedOrders = true := by kernel_rfl
            have c1 : w3.cell? ⟨q, 1, none⟩ = some _ := bel_cell HI3.out.b HLt.out.1 HC1.out
            rw [List.length_map, ← HNn.out] at c1
            have vv : w3.cell? ⟨vb, vo + j, none⟩ = some (.int .u64 x.2) := bel_cell HI3.out.b HLt.out.2.2 HV0.out
            have yy : w3.cell? ⟨yb, 0, none⟩ = some (.func (.yield l) #[] #[]) := (HI3.out.y.cell 0).trans rfl
            have hpx : selE lo hi (m.take j) ++ [x] <+: selE lo hi m := by
              rw [← HTk2.out]
              exact ⟨selE lo hi (m.drop (j + 1)), by rw [← selE_app, List.take_append_drop]⟩
            have HPx := Lib.hid hpx
            clear hpx
            go_cut [42] (fun bv Y => ∃ bY : Bool, bv = .bool (!bY) ∧ ((bY = true ∧ J (pre ++ selE lo hi (m.take j) ++ [x]) Y ∧ WInv w0 Y tb fb yb wb lo hi l) ∨ (bY = false ∧ Jx (pre ++ selE lo hi (m.take j) ++ [x]) Y)))
            case first =>
              have lyb := HI3.out.y.lt
              have lq : q < w3.heap.size := Nat.lt_of_lt_of_le HLt.out.1 HI3.out.b.size
              have lvb : vb < w3.heap.size := Nat.lt_of_lt_of_le HLt.out.2.2 HI3.out.b.size
              have lzb := Hbk3.out.lt
              refine (wpIn_wide (n := 6)).1 ?_
              gi_region_with_o (first | (refine ⟨trivial, (callsIn_wide.2 (HBf.out _)).mono ?_⟩; rintro e w5 ⟨rfl, hb5⟩; have hx5 : Below w3.heap.size w3 w5 := Below.trans (bel_drewN _ _ (n := 1)) hb5; have yy5 := bel_cell hx5 lyb yy; have c15 := bel_cell hx5 lq c1; have vv5 := bel_cell hx5 lvb vv; have k05 := bel_cell hx5 lzb k0; have k15 := bel_cell hx5 lzb k1; have k25 := bel_cell hx5 lzb k2; have k35 := bel_cell hx5 lzb k3; obtain ⟨fnY, tmpsY, assignY, bodyY, hyY, hRY⟩ := HYi.out w5 (ab_below hJ HJ3.out hx5); unfold encEnt at hyY; (try dsimp only at hyY)) | (refine hRY.mono ?_; rintro e w7 ⟨bY, rfl, hcase⟩))
              all_goals (
                go_wp2_with fail
                go_meet
                rcases hcase with ⟨rfl, hJ7, hk7⟩ | ⟨rfl, hJ7⟩
                · exact ⟨true, rfl, .inl ⟨rfl, hJ7, ((HI3.out.below hx5).kept hk7 h1 h2 h3)⟩⟩
                · exact ⟨false, rfl, .inr ⟨rfl, hJ7⟩⟩)
            case rest =>
              obtain ⟨bY, rfl, hcase⟩ := hcut
              clear k0 k1 k2 k3 f0 f1 f2 f3 c1 vv yy hmx HYi
              rcases hcase with ⟨rfl, hJ7, hW7⟩ | ⟨rfl, hJ7⟩
              · have HJ7 := Lib.hid hJ7
                have HW7 := Lib.hid hW7
                clear hJ7 hW7
                go_wp2_with fail
                go_roundw
                case rel => exact ⟨j + 1, by simp, hjn, by dsimp only; rw [HTk2.out, ← List.append_assoc]; exact HJ7.out, HW7.out⟩
                case measure => (simp [intOf] <;> omega)
              · have HJ7 := Lib.hid hJ7
                clear hJ7
                go_wp2_with fail
                go_ret
                exact .inr ⟨rfl, _, HPx.out, by rw [← List.append_assoc]; exact HJ7.out⟩
      · obtain rfl : j = n := by omega
        have htk : m.take j = m := List.take_of_length_le (by rw [HNn.out]; exact Nat.le_refl _)
        rw [htk] at HJs
        clear hJs hI htk
        go_wp2_with fail
        go_ret
        exact .inl ⟨rfl, HJs.out, HI.out⟩
  | succ h ih =>
    intro q n m hnd h4 h0 ha X pre hW hJ0 hN
    obtain ⟨qs, ls, hn, rfl, hI0, hk⟩ := nd_succ.1 hnd
    have HI0 := Lib.hid hI0
    have HKi := Lib.hid hk
    have HA := Lib.hid ha
    have HNn := Lib.hid hn
    have HNN := Lib.hid hN
    have hlen := hk.length
    have HLe := Lib.hid hlen
    obtain ⟨A, ca, C, cc, hin⟩ := hI0
    have c0 := bel_cell hW.b hin.lt hin.c0
    rw [List.length_map, ← hlen, ← hn] at c0
    obtain ⟨kb, ko, rfl, lk, ck⟩ := hin.keys (by rw [List.length_map]; omega)
    obtain ⟨pb, po, rfl, lp, cp⟩ := hin.kids hin.pos
    have HC := Lib.hid (And.intro ck cp)
    have HLt := Lib.hid (And.intro hin.lt (And.intro lk lp))
    have HC2 := Lib.hid hin.c2
    have HC0 : Hid (w0.cell? ⟨q, 0, none⟩ = some (.slice (some ⟨kb, ko, none⟩) n ca)) := by
      have := hin.c0
      rw [List.length_map, ← hlen, ← hn] at this
      exact this
    clear hin ck cp lk lp ha hn hN hnd hk hlen
    go_enter Try.func75, Try.ntmps75
    go_wp2_with fail
    go_step3
    go_wp2_with fail
    go_step3
    go_wp2_with fail
    go_loopw [14] (fun i Y => LRel w0 tb fb yb wb lo hi l J pre (fun j => (ls.take j).flatten) n i Y) (fun i _ => (n - intOf i).toNat)
    case atStart => exact ⟨0, rfl, Nat.zero_le _, by simpa [selE] using hJ0, hW⟩
    case round =>
      obtain ⟨j, rfl, hj, hJs, hI⟩ := hrel
      dsimp only at hJs
      have HI := Lib.hid hI
      have HJs := Lib.hid hJs
      by_cases hjn : j < n
      · have hjl : j < ls.length := by have := HNn.out; have := HLe.out; omega
        have hjq : j < qs.length := by have := HNn.out; omega
        have hne := kids_ne (by decide) HKi.out
        obtain ⟨y0, hy0, hyk⟩ := hd_mem (hne _ (List.getElem_mem hjl))
        have hcut := flatten_cut hjl
        have hasc := HA.out
        have hft := flat_take ls j hjl
        obtain ⟨s0, s1, s2, s3⟩ := HC.out.1 j (by rw [List.length_map]; exact hjl)
        rw [List.getElem_map] at s0 s1 s2 s3
        replace s0 := bel_cell hI.b HLt.out.2.1 s0
        replace s1 := bel_cell hI.b HLt.out.2.1 s1
        replace s2 := bel_cell hI.b HLt.out.2.1 s2
        replace s3 := bel_cell hI.b HLt.out.2.1 s3
        have hkc := HC.out.2 j hjq
        -- from the j-th kid on: nothing stands ahead of its first spot
        have hge : ∀ y ∈ ls[j] ++ (ls.drop (j + 1)).flatten, lt y.1 (hd ls[j]) = false := fun y hy => by
          have hall : Asc (ls[j] ++ (ls.drop (j + 1)).flatten) := by
            rw [hcut, List.append_assoc] at hasc
            exact (asc_app hasc).2.1
          have hl0 := hne _ (List.getElem_mem hjl)
          cases hl : ls[j] with
          | nil => exact absurd hl hl0
          | cons z t =>
            rw [hl] at hy hall
            rw [List.cons_append] at hy hall
            unfold Asc at hall
            rw [List.pairwise_cons] at hall
            rcases List.mem_cons.1 hy with rfl | hy
            · exact lt_irr _
            · exact lt_asy (hall.1 y hy)
        have hnx : ∀ (h : j + 1 < ls.length), ∀ y ∈ ls[j], lt y.1 (hd ls[j + 1]) = true := fun h y hy => by
          obtain ⟨z, hz, hzk⟩ := hd_mem (hne _ (List.getElem_mem h))
          rw [← hzk]
          have h7 : Asc ((ls.take (j + 1)).flatten ++ (ls.drop (j + 1)).flatten) := by rw [← List.flatten_append, List.take_append_drop]; exact hasc
          refine (asc_app h7).2.2 y ?_ z ?_
          · rw [hft]
            exact List.mem_append_right _ hy
          · rw [List.drop_eq_getElem_cons h, List.flatten_cons]
            exact List.mem_append_left _ hz
        have HJl := Lib.hid (And.intro hjl hjq)
        have HGe : Hid (∀ y ∈ ls[j]'(HJl.out.1) ++ (ls.drop (j + 1)).flatten, lt y.1 (hd (ls[j]'(HJl.out.1))) = false) := hge
        have HNx : Hid (∀ (h : j + 1 < ls.length), ∀ y ∈ ls[j]'(HJl.out.1), lt y.1 (hd ls[j + 1]) = true) := hnx
        have HCut : Hid (ls.flatten = (ls.take j).flatten ++ ls[j]'(HJl.out.1) ++ (ls.drop (j + 1)).flatten) := hcut
        have HFt : Hid ((ls.take (j + 1)).flatten = (ls.take j).flatten ++ ls[j]'(HJl.out.1)) := hft
        obtain ⟨x, hx⟩ : ∃ x, hd (ls[j]'(HJl.out.1)) = x := ⟨_, rfl⟩
        rw [hx] at s0 s1 s2 s3 HGe
        obtain ⟨qj, hqj⟩ : ∃ qj, qs[j] = qj := ⟨_, rfl⟩
        rw [hqj] at hkc
        have HQj : Hid (∀ h : j < qs.length, qs[j]'h = qj) := fun _ => hqj
        have HKc := Lib.hid hkc
        have z0 : wr.cell? ⟨tb, 0, none⟩ = some (.int .i64 hi.br) := (hI.t.cell 0).trans rfl
        have z1 : wr.cell? ⟨tb, 1, none⟩ = some (.int .i64 hi.vol) := (hI.t.cell 1).trans rfl
        have z2 : wr.cell? ⟨tb, 2, none⟩ = some (.int .i64 hi.blk) := (hI.t.cell 2).trans rfl
        have z3 : wr.cell? ⟨tb, 3, none⟩ = some (.int .u64 hi.num) := (hI.t.cell 3).trans rfl
        have lz := hI.t.lt
        have e1 : (0 : Int) ≤ (j : Int) := by omega
        have e2 : (j : Int) < (n : Int) := by omega
        have hbA : Below wr.heap.size wr (wr.alloc (.cells (spC x) 26)) := (Below.refl _ _).alloc (Nat.le_refl _) _
        have HbA := Lib.hid hbA
        clear hx hqj hcut hasc hft hge hnx hjl hjq hJs hI hbA hne hy0 hyk hkc
        go_wp2_with fail
        refine (before_at' hi x _).mono ?_
        rintro e w3 ⟨rfl, hb3⟩
        have hb03 : Below wr.heap.size wr w3 := HbA.out.trans (hb3.mono HbA.out.size)
        have HI3 := Lib.hid (HI.out.below hb03)
        have HJ3 := Lib.hid (ab_below hJ HJs.out hb03)
        clear hb3 hb03 s0 s1 s2 s3 z0 z1 z2 z3 lz
        cases hlt : lt hi x with
        | true =>
          have hse : selE lo hi ls.flatten = selE lo hi (ls.take j).flatten := by
            rw [HCut.out, List.append_assoc, selE_app, selE_hi (l := ls[j]'HJl.out.1 ++ (ls.drop (j + 1)).flatten) (fun y hy => ?_), List.append_nil]
            have h8 := HGe.out y hy
            rw [← Bool.not_eq_false]
            intro h9
            by_cases e : y.1 = x
            · rw [e, hlt] at h9; cases h9
            · have h10 : lt x y.1 = true := by
                rw [← Bool.not_eq_false]
                intro h11
                exact e (lt_tot h8 h11)
              rw [lt_tra hlt h10] at h9
              cases h9
          have HSe := Lib.hid hse
          clear hse hlt
          go_wp2_with fail
          go_ret
          exact .inl ⟨rfl, by rw [HSe.out]; exact HJ3.out, HI3.out⟩
        | false =>
          clear hlt
          go_wp2_with fail
          refine (leaf_no (HI0.out.below HI3.out.b)).mono ?_
          rintro e w4 ⟨rfl, rfl⟩
          go_upto_region 8 with fail
          have hs1 := HFt.out
          have f0 : w3.cell? ⟨fb, 0, none⟩ = some (.int .i64 lo.br) := (HI3.out.f.cell 0).trans rfl
          have f1 : w3.cell? ⟨fb, 1, none⟩ = some (.int .i64 lo.vol) := (HI3.out.f.cell 1).trans rfl
          have f2 : w3.cell? ⟨fb, 2, none⟩ = some (.int .i64 lo.blk) := (HI3.out.f.cell 2).trans rfl
          have f3 : w3.cell? ⟨fb, 3, none⟩ = some (.int .u64 lo.num) := (HI3.out.f.cell 3).trans rfl
          have cc0 := bel_cell HI3.out.b HLt.out.1 HC0.out
          have hseq : selE lo hi (ls.take (j + 1)).flatten = selE lo hi (ls.take j).flatten ++ selE lo hi (ls[j]'HJl.out.1) := by rw [HFt.out, selE_app]
          have HSeq := Lib.hid hseq
          clear hs1 hseq
          have y0 := cls_cell f0
          have y1 := cls_cell f1
          have y2 := cls_cell f2
          have y3 := cls_cell f3
          have ycc := cls_cell cc0
          have := cls_ne w3
          clear f0 f1 f2 f3 cc0
          go_cut [43] (fun bv Y => Below w3.heap.size w3 Y ∧ ∃ b : Bool, bv = .bool b ∧ (b = true → selE lo hi (ls[j]'HJl.out.1) = []))
          case first =>
            by_cases hlast : j + 1 < ls.length
            · obtain ⟨r0, r1, r2, r3⟩ := HC.out.1 (j + 1) (by rw [List.length_map]; exact hlast)
              rw [List.getElem_map] at r0 r1 r2 r3
              have hnx := HNx.out hlast
              obtain ⟨y, hy⟩ : ∃ y, hd (ls[j + 1]'hlast) = y := ⟨_, rfl⟩
              rw [hy] at r0 r1 r2 r3 hnx
              have z0 := cls_cell (bel_cell HI3.out.b HLt.out.2.1 r0)
              have z1 := cls_cell (bel_cell HI3.out.b HLt.out.2.1 r1)
              have z2 := cls_cell (bel_cell HI3.out.b HLt.out.2.1 r2)
              have z3 := cls_cell (bel_cell HI3.out.b HLt.out.2.1 r3)
              have hln : j + 1 < n := by have := HNn.out; have := HLe.out; omega
              have g1 : decide ((j : Int) + 1 < (n : Int)) = true := by simp; omega
              have g2 : (0 : Int) ≤ (j : Int) + 1 := by omega
              have g3 : (j : Int) + 1 < (n : Int) := by omega
              have g4 : (n : Int) ≤ 4 := by omega
              have HBe : Hid (∀ X : Wd (Below w3.heap.size w3), Calls Try.prog 20 #[.agg #[.int .i64 lo.br, .int .i64 lo.vol, .int .i64 lo.blk, .int .u64 lo.num], .agg #[.int .i64 y.br, .int .i64 y.vol, .int .i64 y.blk, .int .u64 y.num]] X.w fun e w'' => e = .returned (.bool (lt lo y)) ∧ ∃ m : Wd (Below w3.heap.size w3), w'' = m.w) := fun X => Calls.clsB (before_at' lo y X.w) (Nat.le_refl _)
              have HNy := Lib.hid hnx
              clear r0 r1 r2 r3 hnx hy hlast hln
              refine wp_region_cls (S := Below w3.heap.size w3) (by kernel_rfl) (by kernel_rfl) (bel_drewN _ _ (n := 1)) ?_
              repeat (go_big_quiet_step (with_reducible (first | exact HBe.out _)))
              refine wpQuiet_nil ?_
              rintro w5 ⟨⟨_, hx5⟩, rfl⟩
              try dsimp only
              go_wp2_with fail
              go_meet
              refine ⟨hx5, _, rfl, fun hb => ?_⟩
              refine selE_lo (fun y2 hy2 => ?_)
              have h8 := HNy.out y2 hy2
              have h9 : lt lo y = false := by simpa using hb
              by_cases e : y = lo
              · rw [← e]; exact h8
              · have h10 : lt y lo = true := by
                  rw [← Bool.not_eq_false]
                  intro h11
                  exact e (lt_tot h11 h9)
                exact lt_tra h8 h10
            · have hln : ¬ j + 1 < n := by have := HNn.out; have := HLe.out; omega
              have g1 : decide ((j : Int) + 1 < (n : Int)) = false := by simp; omega
              have g4 : (n : Int) ≤ 4 := by omega
              clear hlast hln
              refine wp_region_cls (S := Below w3.heap.size w3) (by kernel_rfl) (by kernel_rfl) (bel_drewN _ _ (n := 1)) ?_
              repeat (go_big_quiet_step (fail))
              refine wpQuiet_nil ?_
              rintro w5 ⟨⟨_, hx5⟩, rfl⟩
              try dsimp only
              go_wp2_with fail
              go_meet
              exact ⟨hx5, _, rfl, fun hb => by simp at hb⟩
          case rest =>
            obtain ⟨hx5, b, rfl, hskip⟩ := hcut
            have HX5 := Lib.hid hx5
            have HI5 := Lib.hid (HI3.out.below hx5)
            have HJ5 := Lib.hid (ab_below hJ HJ3.out hx5)
            have HSk := Lib.hid hskip
            clear hx5 hskip y0 y1 y2 y3 ycc this
            cases b with
            | true =>
              have hse : selE lo hi (ls.take (j + 1)).flatten = selE lo hi (ls.take j).flatten := by rw [HSeq.out, HSk.out rfl, List.append_nil]
              have HSe := Lib.hid hse
              clear hse
              go_wp2_with fail
              go_roundw
              case rel => exact ⟨j + 1, by simp, hjn, by dsimp only; rw [HSe.out]; exact HJ5.out, HI5.out⟩
              case measure => (simp [intOf] <;> omega)
            | false =>
              obtain ⟨s, s2, s4, hkd⟩ := HKi.out.get j HJl.out.2 HJl.out.1
              rw [HQj.out _] at hkd
              have hwhole : selE lo hi ls.flatten = selE lo hi (ls.take (j + 1)).flatten ++ selE lo hi (ls.drop (j + 1)).flatten := by rw [← selE_app, ← List.flatten_append, List.take_append_drop]
              have hN2 : (pre ++ selE lo hi (ls.take j).flatten).length + (selE lo hi (ls[j]'HJl.out.1)).length ≤ N := by
                have h6 := HNN.out
                rw [hwhole, HSeq.out] at h6
                simp only [List.length_append] at h6 ⊢
                omega
              have HWh := Lib.hid hwhole
              have HCa : Hid (∀ Y, Below wc.heap.size wc Y → Calls Try.prog 75 #[.pointer (some ⟨qj, 0, none⟩), .pointer (some ⟨tb, 0, none⟩), .pointer (some ⟨fb, 0, none⟩), .pointer (some ⟨yb, 0, none⟩), .pointer (some ⟨wb, 0, none⟩)] Y fun e w' => ∃ b : Bool, e = .returned (.bool b) ∧ ((b = true ∧ J (pre ++ selE lo hi (ls.take (j + 1)).flatten) w' ∧ WInv w0 w' tb fb yb wb lo hi l) ∨ (b = false ∧ ∃ ys, ys <+: selE lo hi ls.flatten ∧ Jx (pre ++ ys) w'))) := fun Y hY2 => by
                refine (ih hkd s4 (by omega) (asc_kid HA.out HJl.out.1) Y (pre ++ selE lo hi (ls.take j).flatten) (HI5.out.below hY2) (ab_below hJ HJ5.out hY2) hN2).mono fun e w' hp => ?_
                rcases hp with ⟨rfl, a, b⟩ | ⟨rfl, ys, hp, a⟩
                · exact ⟨true, rfl, .inl ⟨rfl, by rw [HSeq.out, ← List.append_assoc]; exact a, b⟩⟩
                · refine ⟨false, rfl, .inr ⟨rfl, selE lo hi (ls.take j).flatten ++ ys, ?_, by rw [← List.append_assoc]; exact a⟩⟩
                  obtain ⟨t, ht⟩ := hp
                  rw [HWh.out, HSeq.out, ← ht]
                  exact ⟨t ++ selE lo hi (ls.drop (j + 1)).flatten, by simp⟩
              have kw : wc.cell? ⟨wb, 0, none⟩ = some (.func (.func 75) #[] #[.pointer (some ⟨tb, 0, none⟩), .pointer (some ⟨fb, 0, none⟩), .pointer (some ⟨yb, 0, none⟩), .pointer (some ⟨wb, 0, none⟩)]) := (HI5.out.k.cell 0).trans rfl
              have kc := bel_cell HI5.out.b HLt.out.2.2 HKc.out
              have k2 := bel_cell HI5.out.b HLt.out.1 HC2.out
              rw [← HNn.out] at k2
              have lw := HI5.out.k.lt
              have lq : q < wc.heap.size := Nat.lt_of_lt_of_le HLt.out.1 HI5.out.b.size
              have lp : pb < wc.heap.size := Nat.lt_of_lt_of_le HLt.out.2.2 HI5.out.b.size
              clear hkd hwhole hN2
              go_upto_region 9 with fail
              have held : ∀ X, Below wc.heap.size wc X → (fun w' => w'.cell? ⟨wb, 0, none⟩ = some (.func (.func 75) #[] #[.pointer (some ⟨tb, 0, none⟩), .pointer (some ⟨fb, 0, none⟩), .pointer (some ⟨yb, 0, none⟩), .pointer (some ⟨wb, 0, none⟩)]) ∧ w'.cell? ⟨q, 2, none⟩ = some (.slice (some ⟨pb, po, none⟩) n cc) ∧ w'.cell? ⟨pb, po + j, none⟩ = some (.pointer (some ⟨qj, 0, none⟩))) X := fun X hX => ⟨bel_cell hX lw kw, bel_cell hX lq k2, bel_cell hX lp kc⟩
              have hb0 : Below wc.heap.size wc wc.drew := bel_drewN _ _ (n := 1)
              clear kw k2 kc
              refine Z_start [8] (fun w' => w'.cell? ⟨wb, 0, none⟩ = some (.func (.func 75) #[] #[.pointer (some ⟨tb, 0, none⟩), .pointer (some ⟨fb, 0, none⟩), .pointer (some ⟨yb, 0, none⟩), .pointer (some ⟨wb, 0, none⟩)]) ∧ w'.cell? ⟨q, 2, none⟩ = some (.slice (some ⟨pb, po, none⟩) n cc) ∧ w'.cell? ⟨pb, po + j, none⟩ = some (.pointer (some ⟨qj, 0, none⟩))) (by kernel_rfl) ?_
              generalize World.drew wc = X0 at *
              refine Z_free (i := 1) (v := ?_) rfl (by kernel_rfl) (by kernel_rfl) (by kernel_rfl) (by kernel_rfl) (fun _ _ _ h => h) (Or.inl ⟨by rfl, ?_⟩) (fun _ => held _ hb0) ?_
              rotate_left
              · (intro w' hSw; (try dsimp only at hSw); go_simp <;> (with_reducible rfl))
              try simp only [Act.put, List.setIfInBounds_toArray, List.set_cons_zero, List.set_cons_succ]
              refine Z_free (i := 5) (v := ?_) rfl (by kernel_rfl) (by kernel_rfl) (by kernel_rfl) (by kernel_rfl) (fun _ _ _ h => h) (Or.inl ⟨by rfl, ?_⟩) (fun _ => held _ hb0) ?_
              rotate_left
              · (intro w' hSw; (try dsimp only at hSw); go_simp <;> (with_reducible rfl))
              try simp only [Act.put, List.setIfInBounds_toArray, List.set_cons_zero, List.set_cons_succ]
              refine Z_take (i := 0) (v := ?_) [[0]] rfl (by kernel_rfl) (by kernel_rfl) (by kernel_rfl) (by kernel_rfl) (by kernel_rfl) (fun _ _ _ h => h) (Or.inl ⟨by rfl, ?_⟩) (held _ hb0) ?_
              rotate_left
              · (intro w' hSw; (try dsimp only at hSw); go_simp <;> (with_reducible rfl))
              try simp only [Act.put, List.setIfInBounds_toArray, List.set_cons_zero, List.set_cons_succ]
              refine Z_take (i := 2) (v := ?_) [[7, 6, 4, 3, 2]] rfl (by kernel_rfl) (by kernel_rfl) (by kernel_rfl) (by kernel_rfl) (by kernel_rfl) (fun _ _ _ h => h) (Or.inl ⟨by rfl, ?_⟩) (held _ hb0) ?_
              rotate_left
              · (intro w' hSw; (try dsimp only at hSw); go_simp <;> (with_reducible rfl))
              try simp only [Act.put, List.setIfInBounds_toArray, List.set_cons_zero, List.set_cons_succ]
              refine Z_take (i := 3) (v := ?_) [[7, 6, 4, 3]] rfl (by kernel_rfl) (by kernel_rfl) (by kernel_rfl) (by kernel_rfl) (by kernel_rfl) (fun _ _ _ h => h) (Or.inl ⟨by rfl, ?_⟩) (held _ hb0) ?_
              rotate_left
              · (intro w' hSw; (try dsimp only at hSw); go_simp <;> (with_reducible rfl))
              try simp only [Act.put, List.setIfInBounds_toArray, List.set_cons_zero, List.set_cons_succ]
              refine Z_take (i := 4) (v := ?_) [[7, 6, 4]] rfl (by kernel_rfl) (by kernel_rfl) (by kernel_rfl) (by kernel_rfl) (by kernel_rfl) (fun _ _ _ h => h) (Or.inl ⟨by rfl, ?_⟩) (held _ hb0) ?_
              rotate_left
              · (intro w' hSw; (try dsimp only at hSw); go_simp <;> (with_reducible rfl))
              try simp only [Act.put, List.setIfInBounds_toArray, List.set_cons_zero, List.set_cons_succ]
              refine Z_take (i := 6) (v := ?_) [[7, 6]] rfl (by kernel_rfl) (by kernel_rfl) (by kernel_rfl) (by kernel_rfl) (by kernel_rfl) (fun _ _ _ h => h) (Or.inl ⟨by rfl, ?_⟩) (held _ hb0) ?_
              rotate_left
              · (intro w' hSw; (try dsimp only at hSw); go_simp <;> (with_reducible rfl))
              try simp only [Act.put, List.setIfInBounds_toArray, List.set_cons_zero, List.set_cons_succ]
              refine Z_take (i := 7) (v := ?_) [[7]] rfl (by kernel_rfl) (by kernel_rfl) (by kernel_rfl) (by kernel_rfl) (by kernel_rfl) (fun _ _ _ h => h) (Or.inl ⟨by rfl, ?_⟩) (held _ hb0) ?_
              rotate_left
              · (intro w' hSw; (try dsimp only at hSw); go_simp <;> (with_reducible rfl))
              try simp only [Act.put, List.setIfInBounds_toArray, List.set_cons_zero, List.set_cons_succ]
              refine Z_one (i := 8) rfl (by kernel_rfl) (by rfl) (fun K hK => ?_)
              go_simp
              refine (HCa.out X0 hb0).mono ?_
              rintro e w7 ⟨bY, rfl, hcase⟩
              go_simp
              refine hK.out _ _ (fun h => absurd h (none_of_not (by kernel_rfl))) ?_
              clear hK K
              try simp only [Act.put, List.setIfInBounds_toArray, List.set_cons_zero, List.set_cons_succ]
              refine Z_one (i := 9) rfl (by kernel_rfl) (by rfl) (fun K hK => ?_)
              go_simp
              refine hK.out _ _ (fun h => absurd h (none_of_not (by kernel_rfl))) ?_
              clear hK K
              try simp only [Act.put, List.setIfInBounds_toArray, List.set_cons_zero, List.set_cons_succ]
              refine Z_one (i := 10) rfl (by kernel_rfl) (by rfl) (fun K hK => ?_)
              go_simp
              refine hK.out _ _ (fun h => absurd h (none_of_not (by kernel_rfl))) ?_
              clear hK K
              try simp only [Act.put, List.setIfInBounds_toArray, List.set_cons_zero, List.set_cons_succ]
              refine Z_done (by kernel_rfl) ?_ _
              rcases hcase with ⟨rfl, hJ7, hW7⟩ | ⟨rfl, ys, hp7, hJ7⟩
              · have HJ7 := Lib.hid hJ7
                have HW7 := Lib.hid hW7
                clear hJ7 hW7
                go_wp2_with fail
                go_roundw
                case rel => exact ⟨j + 1, by simp, hjn, HJ7.out, HW7.out⟩
                case measure => (simp [intOf] <;> omega)
              · have HJ7 := Lib.hid (And.intro hp7 hJ7)
                clear hJ7 hp7
                go_wp2_with fail
                go_ret
                exact .inr ⟨rfl, _, HJ7.out.1, HJ7.out.2⟩
      · obtain rfl : j = n := by omega
        have htk : ls.take j = ls := List.take_of_length_le (by have := HNn.out; have := HLe.out; omega)
        rw [htk] at HJs
        clear hJs hI htk
        go_wp2_with fail
        go_ret
        exact .inl ⟨rfl, HJs.out, HI.out⟩
end Go.Proofs.Ytainljbkejafcaa.N

/- Range, and the iterator that it hands back. -/
namespace Go.Proofs.Ytainljbkejafcaa.N
open Go.BigFrame Go.RowKit Go.Shelf Go.Proofs.YtainljbkejafcaaW.PrintMore Go.Proofs.YtainljbkejafcaaW.PrintWords
set_option linter.unusedVariables false
set_option linter.unusedSimpArgs false
theorem mkf : ∀ (fn : Fn) (first cap : Array Value) (w : World), (Instr.makeFunc fn first cap).run Try.prog w = .ok (.func fn first cap) w := fun _ _ _ _ => rfl
/-- Range: three boxes, and the function over them. -/
theorem range_tree (p : Option Addr) (lo hi : Sp) (w : World) : Calls Try.prog 54 #[.pointer p, .agg #[.int .i64 lo.br, .int .i64 lo.vol, .int .i64 lo.blk, .int .u64 lo.num], .agg #[.int .i64 hi.br, .int .i64 hi.vol, .int .i64 hi.blk, .int .u64 hi.num]] w fun e w' => ∃ xb fb tb, e = .returned (.func (.func 74) #[] #[.pointer (some ⟨tb, 0, none⟩), .pointer (some ⟨fb, 0, none⟩), .pointer (some ⟨xb, 0, none⟩)]) ∧ Below w.heap.size w w' ∧ Blk w' tb (spC hi) 26 ∧ Blk w' fb (spC lo) 26 ∧ Blk w' xb #[.pointer p] 66 := by
  have hmf := mkf
  go_enter Try.func54, Try.ntmps54
  go_wp2_with fail
  obtain ⟨W, hW, h1, h2, h3, hb⟩ := three_allocs w (.cells #[.pointer p] 66) (.cells (spC lo) 26) (.cells (spC hi) 26)
  unfold spC at hW
  rw [← hW]
  go_ret
  exact ⟨_, _, _, rfl, hb, h3, h2, h1⟩
set_option maxHeartbeats 3200000 in
set_option maxRecDepth 100000 in
/-- The iterator's contract. -/
theorem range_stops {w0 w : World} (bad : TypeId → Prop) (h1 : ¬ bad 26) (h2 : ¬ bad 104) (h3 : ¬ bad 125) (tb fb xb : Nat) (lo hi : Sp) (p : Option Addr) (l : List Ent) (ht : TreeAt w0 p l) (ha : Asc l) (hb : Below w0.heap.size w0 w)
    (bt : Blk w tb (spC hi) 26) (bf : Blk w fb (spC lo) 26) (bx : Blk w xb #[.pointer p] 66) (N : Nat) (hN : l.length ≤ N) :
    SeqStopsK Fence.wide 6 Try.prog 74 #[.pointer (some ⟨tb, 0, none⟩), .pointer (some ⟨fb, 0, none⟩), .pointer (some ⟨xb, 0, none⟩)] encEnt (RK bad w0) (fun xs => xs = selE lo hi l) (fun pre => pre <+: selE lo hi l) N w := by
  intro ln J Jx W hW hJ hJx hY h0
  refine callsIn_wide.2 ?_
  have hmf := mkf
  have HT := Lib.hid ht
  have HA := Lib.hid ha
  have HBw : Hid (Below w0.heap.size w0 W) := hb.trans (hW.mono hb.size)
  have Bt := Lib.hid (bt.below hW bt.lt)
  have Bf := Lib.hid (bf.below hW bf.lt)
  have Bx := Lib.hid (bx.below hW bx.lt)
  have HYd : Hid (∀ pre x W, J pre W → pre.length < N → YieldAt Fence.wide 0 Try.prog ln (encEnt x) W fun e W' => (e = .returned (.bool true) ∧ J (pre ++ [x]) W' ∧ RK bad w0 W W') ∨ (e = .returned (.bool false) ∧ Jx (pre ++ [x]) W')) := fun pre x W1 hj hl => yield_wide (hY pre x W1 hj hl)
  have HJ := Lib.hid hJ
  have HJ0 := Lib.hid h0
  have hsl : (selE lo hi l).length ≤ N := Nat.le_trans (List.length_filter_le _ _) hN
  have HSl := Lib.hid hsl
  clear ht ha hb bt bf bx hN hY hJ hJx h0 hW hsl
  obtain ⟨r, hr, hroot⟩ := root_tree HT.out
  have HR := Lib.hid hr
  have HRo := Lib.hid hroot
  clear hr hroot
  have hbw : Below W.heap.size W ((W.alloc (.cells #[.func (.yield ln) #[] #[]] 104)).alloc (.cells #[.func (.func 75) #[] #[.pointer (some ⟨tb, 0, none⟩), .pointer (some ⟨fb, 0, none⟩), .pointer (some ⟨W.heap.size, 0, none⟩), .pointer (some ⟨W.heap.size + 1, 0, none⟩)]] 125)) := ((Below.refl _ _).alloc (Nat.le_refl _) _).alloc (by simp) _
  have hy := (Blk.new W #[.func (.yield ln) #[] #[]] 104).alloc (.cells #[.func (.func 75) #[] #[.pointer (some ⟨tb, 0, none⟩), .pointer (some ⟨fb, 0, none⟩), .pointer (some ⟨W.heap.size, 0, none⟩), .pointer (some ⟨W.heap.size + 1, 0, none⟩)]] 125)
  have hk := Blk.new (W.alloc (.cells #[.func (.yield ln) #[] #[]] 104)) #[.func (.func 75) #[] #[.pointer (some ⟨tb, 0, none⟩), .pointer (some ⟨fb, 0, none⟩), .pointer (some ⟨W.heap.size, 0, none⟩), .pointer (some ⟨W.heap.size + 1, 0, none⟩)]] 125
  rw [World.size_alloc] at hk
  have x0 : W.cell? ⟨xb, 0, none⟩ = some (.pointer p) := (Bx.out.cell 0).trans rfl
  have lx := Bx.out.lt
  go_enter Try.func74, Try.ntmps74
  go_upto_region 3 with fail
  generalize (W.alloc (.cells #[.func (.yield ln) #[] #[]] 104)).alloc (.cells #[.func (.func 75) #[] #[.pointer (some ⟨tb, 0, none⟩), .pointer (some ⟨fb, 0, none⟩), .pointer (some ⟨W.heap.size, 0, none⟩), .pointer (some ⟨W.heap.size + 1, 0, none⟩)]] 125) = W2 at *
  have HB2 := Lib.hid (HBw.out.trans (hbw.mono HBw.out.size))
  have HI2 : Hid (WInv w0 W2 tb fb W.heap.size (W.heap.size + 1) lo hi ln) := ⟨HB2.out, Bt.out.below hbw Bt.out.lt, Bf.out.below hbw Bf.out.lt, hy, hk⟩
  have HJ2 := Lib.hid (ab_below HJ.out HJ0.out hbw)
  have x2 : W2.cell? ⟨xb, 0, none⟩ = some (.pointer p) := bel_cell hbw lx x0
  obtain ⟨yb, hyb⟩ : ∃ yb, W.heap.size = yb := ⟨_, rfl⟩
  obtain ⟨wb, hwb⟩ : ∃ wb, W.heap.size + 1 = wb := ⟨_, rfl⟩
  have w2 : W2.cell? ⟨wb, 0, none⟩ = some (.func (.func 75) #[] #[.pointer (some ⟨tb, 0, none⟩), .pointer (some ⟨fb, 0, none⟩), .pointer (some ⟨yb, 0, none⟩), .pointer (some ⟨wb, 0, none⟩)]) := by
    have := (hk.cell 0).trans rfl
    rw [hwb, hyb] at this
    exact this
  rw [hwb, hyb] at HI2
  rw [hwb, hyb]
  clear hbw hy hk hyb hwb x0 lx
  go_wp2_with fail
  refine (HRo.out W2 HB2.out).mono ?_
  rintro e w3 ⟨rfl, rfl⟩
  rcases HR.out with ⟨rfl, rfl⟩ | ⟨q, h, n, rfl, hnd, h0, h2', h4⟩
  · have hne : ∀ W, (binOp .neq 36 (.pointer none) (.pointer none)).run Try.prog W = .ok (.bool false) W := fun W => run_neq_pointer_nil W _ none (by rfl)
    go_wp2_with fail
    go_end0
    exact ⟨⟨_, rfl⟩, .inl ⟨[], rfl, HJ2.out⟩⟩
  · have HCa := Lib.hid (walk_nd bad h1 h2 h3 tb fb yb wb lo hi ln N W.heap.size J Jx HJ.out HYd.out h hnd h4 h0 HA.out W2 [] HI2.out HJ2.out (by simpa using HSl.out))
    clear hnd h0 h2' h4
    go_wp2_with fail
    refine HCa.out.mono ?_
    rintro e w4 (⟨rfl, hJ4, _⟩ | ⟨rfl, ys, hp, hJ4⟩)
    · have HJ4 := Lib.hid hJ4
      clear hJ4
      go_wp2_with fail
      go_end0
      exact ⟨⟨_, rfl⟩, .inl ⟨_, rfl, by simpa using HJ4.out⟩⟩
    · have HJ4 := Lib.hid (And.intro hp hJ4)
      clear hJ4 hp
      go_wp2_with fail
      go_end0
      exact ⟨⟨_, rfl⟩, .inr ⟨ys, HJ4.out.1, by simpa using HJ4.out.2⟩⟩
end Go.Proofs.Ytainljbkejafcaa.N

/- list and all of the tree's laws. -/
namespace Go.Proofs.Ytainljbkejafcaa.N
open Go.BigFrame Go.RowKit Go.Shelf Go.Proofs.YtainljbkejafcaaW.PrintMore Go.Proofs.YtainljbkejafcaaW.PrintWords
set_option linter.unusedVariables false
set_option linter.unusedSimpArgs false
attribute [local go_sem] Oper.semAt_some
set_option maxRecDepth 100000 in
/-- append of one item, which was built now: one block alone has changed. -/
theorem app_I2 {w : World} (B : Nat) (v : Value) (n : Nat) (l : List Ent) (hown : w.ownsRow B 92 5 v n (its l)) (hB : B ≤ w.heap.size) (hn : n ≤ 1000) (x : Ent) (ty : TypeId) :
    ∃ A' c' w', (Builtin.append_ #[67, 67] ty #[v, .slice (some ⟨w.heap.size, 0, none⟩) 1 1]).run Try.prog (w.alloc (.cells #[.int .i64 x.1.br, .int .i64 x.1.vol, .int .i64 x.1.blk, .int .u64 x.1.num, .int .u64 x.2] 92)) = .ok (.slice A' (n + 1) c') w' ∧ w'.ownsRow B 92 5 (.slice A' (n + 1) c') (n + 1) (its (l ++ [x])) ∧ Below B w w' ∧ (w.alloc (.cells #[.int .i64 x.1.br, .int .i64 x.1.vol, .int .i64 x.1.blk, .int .u64 x.1.num, .int .u64 x.2] 92)).grownBy w' v.ownBlock := by
  obtain ⟨i0, hi0, hz0, hz1, hz2⟩ := info_parts infoI
  have ho : (w.alloc (.cells #[.int .i64 x.1.br, .int .i64 x.1.vol, .int .i64 x.1.blk, .int .u64 x.1.num, .int .u64 x.2] 92)).ownsRow B 92 5 v n (its l) := own_stay hown (fun q hq => ((Below.refl w.heap.size w).alloc (Nat.le_refl _) _).block q (own_lt hown q hq))
  have hc := Blk.new w #[.int .i64 x.1.br, .int .i64 x.1.vol, .int .i64 x.1.blk, .int .u64 x.1.num, .int .u64 x.2] 92
  obtain ⟨v', w', r1, r2, r3, _, r4⟩ := run_append_own_at (P := Try.prog) (w.alloc (.cells #[.int .i64 x.1.br, .int .i64 x.1.vol, .int .i64 x.1.blk, .int .u64 x.1.num, .int .u64 x.2] 92)) B 67 ty 92 i0 (.agg #[.int .i64 0, .int .i64 0, .int .i64 0, .int .u64 0, .int .u64 0]) 5 40 Try.underlying67 hi0 hz0 hz1 hz2 rfl (by decide) v n (its l) ho ⟨w.heap.size, 0, none⟩ 1 1 (itV x) rfl (fun j u hj => by
    obtain ⟨hj1, hj2⟩ := List.getElem?_eq_some_iff.1 hj
    have hj5 : j < 5 := by simpa [itV] using hj1
    have ea : (⟨w.heap.size, 0, none⟩ : Addr).add j = ⟨w.heap.size, j, none⟩ := by
      unfold Addr.add
      split
      · subst_vars; rfl
      · simp
    rw [ea, hc.cell j, ← hj]
    simp [itV]) (by simp [itV, Value.oneCell']) (by simp only [maxLen]; omega) (by omega) (by rw [World.size_alloc]; omega)
  have hf : ∃ A' c', v' = .slice A' (n + 1) c' := by
    rcases r2.2 with ⟨rfl, e⟩ | ⟨g, cap, cur, rfl, _⟩
    · exact ⟨none, 0, by rw [e]⟩
    · exact ⟨_, cap, rfl⟩
  obtain ⟨A', c', rfl⟩ := hf
  refine ⟨A', c', w', r1, ?_, ((Below.refl B w).alloc hB _).grown r3 (by rw [World.size_alloc]; omega) (own_ge hown), r3⟩
  rw [its_app]
  simpa [its] using r2
theorem wpListIn_append_run {F : Fence} {n : Nat} {P : Program} {w : World} {ops : Array Oper} {rest : List Oper} {o : Oper} {a : Act} {Q : Exit → Act → World → Prop}
    (hg : o.guard = none) (s x : Operand) (t : TypeId) (hop : o.op = Op.call { callee := Callee.builtin Builtin.append, args := #[s, x], argTypes := #[t, t] })
    (vs vx v' : Value) (w' : World) (hs : a.eval s = vs) (hx : a.eval x = vx) (hrun : (Builtin.append_ #[t, t] o.type #[vs, vx]).run P w = .ok v' w') (hK : wpListIn F n P ops Q rest (a.put o.dst v') w') : wpListIn F n P ops Q (o :: rest) a w := by
  refine wpListIn_plain hg fun K hK' => ?_
  unfold Oper.wpIn
  refine ⟨?_, ?_⟩
  · simp [Oper.about, hop, resolve, Target.leads, Sem.run_pure]
  · rw [Oper.semAt_plain F _ _ (by rw [hop]; intro c hc'; cases hc')]
    simp [execOp, hop, resolve, invoke, builtin, hs, hx, hrun, Result.andThen]
    exact hK' _ _ hK
theorem own_cells {w : World} {B n k : Nat} {T : TypeId} {v : Value} {xs : List Value} (h : w.ownsRow B T k v n xs) : ∀ q, v.ownBlock = some q → ∃ cur, w.heap[q]? = some (.cells cur T (0, 0)) := fun q hq => by
  rcases h.2 with ⟨e, _⟩ | ⟨g, cap, cur, e, _, hh, _⟩
  · rw [e] at hq; cases hq
  · rw [e] at hq; simp only [Value.ownBlock, Option.some.injEq] at hq; subst hq; exact ⟨cur, hh⟩
theorem own_kept {w w' : World} {B n k : Nat} {T : TypeId} {v : Value} {xs : List Value} {row : Option Nat} (h : w.ownsRow B T k v n xs) (hg : w.grownBy w' row) (hr : ∀ r, row = some r → ∃ o : Obj, w.heap[r]? = some o ∧ o.isCells = false) : w'.ownsRow B T k v n xs :=
  own_stay h (fun q hq => by obtain ⟨cur, hc⟩ := own_cells h q hq; exact grownBy_keeps_cells hg hr hc rfl)
/-- What the loop has gathered. -/
def ListI (w : World) (z ob rb : Nat) (pre : List Ent) (W : World) : Prop := ((∃ A c, Blk W ob #[.slice A pre.length c] 67 ∧ W.ownsRow (ob + 1) 92 5 (.slice A pre.length c) pre.length (its pre)) ∧ Blk W rb #[.slice none 0 0] 67) ∧ Below w.heap.size w W ∧ z ≤ W.heap.size
theorem listI_own {w : World} {z ob rb B : Nat} (hB : w.heap.size ≤ B) : OwnFrom B (ListI w z ob rb) :=
  OwnFrom.and (Own.from (fun s A B row hs hg hr => by
    obtain ⟨⟨A1, c1, h1, h2⟩, h3⟩ := hs
    exact ⟨⟨A1, c1, h1.kept hg hr, own_kept h2 hg hr⟩, h3.kept hg hr⟩) _) (OwnFrom.and (ownFrom_below (Nat.le_refl _) hB) (Own.from (fun s A B row hs hg hr => Nat.le_trans hs hg.size) _))
def badT (T : TypeId) : Prop := T = 92 ∨ T = 67
theorem rk_t {bad : TypeId → Prop} {w0 A B C : World} (h : RK bad w0 A B) (k : RK bad w0 B C) : RK bad w0 A C :=
  ⟨h.1.trans k.1, fun q cs T fz hq hb => by
    have e := h.2 q cs T fz hq hb
    exact (k.2 q cs T fz (e.trans hq) hb).trans e⟩
theorem rk_b {bad : TypeId → Prop} {w0 w : World} (hn : w0.heap.size ≤ w.heap.size) (W : World) (l : Nat) (o o' : Obj) (hl : w.heap.size ≤ l) (h : W.heap[l]? = some o) (hc : o.isCells = false) (hw : o.isWalk = false) : RK bad w0 W (W.putObj l o') :=
  ⟨belowK_b hn W l o o' hl h hc hw, fun q cs T fz hq _ => World.putObj_heap_other (fun e => by rw [e, h] at hq; cases hq; cases hc)⟩
theorem list_round {w X w' : World} {z : Nat} {A A' : Option Addr} {c c' : Nat} {pre : List Ent} {x : Ent} {o : Obj} (hz : z ≤ X.heap.size) (hB : Below w.heap.size w X) (h1 : Blk X (w.heap.size + 1 + 1 + 1) #[.slice A pre.length c] 67) (h3 : Blk X (w.heap.size + 1 + 1) #[.slice none 0 0] 67)
    (h2 : X.ownsRow (w.heap.size + 1 + 1 + 1 + 1) 92 5 (.slice A pre.length c) pre.length (its pre)) (r2 : w'.ownsRow (w.heap.size + 1 + 1 + 1 + 1) 92 5 (.slice A' (pre.length + 1) c') (pre.length + 1) (its (pre ++ [x])))
    (r3 : Below (w.heap.size + 1 + 1 + 1 + 1) X w') (r4 : (X.alloc o).grownBy w' (Value.slice A pre.length c).ownBlock) :
    KeepsFrom z X (w'.setCell ⟨w.heap.size + 1 + 1 + 1, 0, none⟩ (.slice A' (pre.length + 1) c')) ∧ RK badT w X (w'.setCell ⟨w.heap.size + 1 + 1 + 1, 0, none⟩ (.slice A' (pre.length + 1) c')) ∧ ListI w z (w.heap.size + 1 + 1 + 1) (w.heap.size + 1 + 1) (pre ++ [x]) (w'.setCell ⟨w.heap.size + 1 + 1 + 1, 0, none⟩ (.slice A' (pre.length + 1) c')) := by
  have zB := hB.size
  have zr := r3.size
  have zo := h1.lt
  have hXY : Below w.heap.size X (w'.setCell ⟨w.heap.size + 1 + 1 + 1, 0, none⟩ (.slice A' (pre.length + 1) c')) := (r3.mono (by omega)).setCell (p := ⟨w.heap.size + 1 + 1 + 1, 0, none⟩) (by show w.heap.size ≤ w.heap.size + 1 + 1 + 1; omega) _
  have g1 : Blk w' (w.heap.size + 1 + 1 + 1) #[.slice A pre.length c] 67 := (r3.block _ (by omega)).trans h1
  have g3 : Blk w' (w.heap.size + 1 + 1) #[.slice none 0 0] 67 := (r3.block _ (by omega)).trans h3
  refine ⟨(((KeepsOthers.alloc X o).trans (KeepsOthers.of_grownBy r4 (fun j o' e ho => ?_))).trans (KeepsOthers.setCell _ _ _)).from _, ⟨hXY, ?_⟩, ⟨⟨A', c', ?_, ?_⟩, ?_⟩, hB.trans (hXY.mono (Nat.le_refl _)), ?_⟩
  · obtain ⟨cur, hc⟩ := own_cells h2 j e
    have hl := (Array.getElem?_eq_some_iff.1 hc).1
    rw [((Below.refl X.heap.size X).alloc (Nat.le_refl _) o).block j hl, hc] at ho
    cases ho
    rfl
  · intro q cs T fz hq hT
    have hl := (Array.getElem?_eq_some_iff.1 hq).1
    have e1 := ((Below.refl X.heap.size X).alloc (Nat.le_refl _) o).block q hl
    have e2 : w'.heap[q]? = (X.alloc o).heap[q]? := r4.block q (by rw [World.size_alloc]; omega) (fun e => by
      obtain ⟨cur, hc⟩ := own_cells h2 q e.symm
      rw [hq] at hc
      injection hc with hc
      injection hc with hc1 hc2 hc3
      exact hT (.inl hc2))
    have e3 : q ≠ w.heap.size + 1 + 1 + 1 := fun e => by
      rw [e, show X.heap[w.heap.size + 1 + 1 + 1]? = _ from h1] at hq
      injection hq with hc
      injection hc with hc1 hc2 hc3
      exact hT (.inr hc2.symm)
    rw [Below.heap_setCell _ ⟨w.heap.size + 1 + 1 + 1, 0, none⟩ _ q e3, e2, e1]
  · have := g1.set (o := 0) (.slice A' (pre.length + 1) c')
    simpa using this
  · have := own_stay r2 (w' := w'.setCell ⟨w.heap.size + 1 + 1 + 1, 0, none⟩ (.slice A' (pre.length + 1) c')) (fun q hq => Below.heap_setCell _ ⟨w.heap.size + 1 + 1 + 1, 0, none⟩ _ q (fun e => by have := own_ge r2 q hq; simp at e; omega))
    simpa using this
  · exact g3.other (by omega) _
  · exact Nat.le_trans hz (Nat.le_trans zr (by simp [World.setCell, World.putObj]; try exact Nat.le_refl _))
set_option maxHeartbeats 6400000 in
set_option maxRecDepth 100000 in
theorem list_tree {w : World} {p : Option Addr} {l : List Ent} (ht : TreeAt w p l) (ha : Asc l) (hl : l.length ≤ 150) (lo hi : Sp) :
    Calls Try.prog 53 #[.pointer p, .agg #[.int .i64 lo.br, .int .i64 lo.vol, .int .i64 lo.blk, .int .u64 lo.num], .agg #[.int .i64 hi.br, .int .i64 hi.vol, .int .i64 hi.blk, .int .u64 hi.num]] w fun e w' => ∃ A c, e = .returned (.slice A (selE lo hi l).length c) ∧ ItemsAt w' A (selE lo hi l) ∧ Below w.heap.size w w' := by
  have HT := Lib.hid ht
  have HA := Lib.hid ha
  have HL := Lib.hid hl
  clear ht ha hl
  refine (callsIn_wide (n := 7)).1 ?_
  have hro : Fence.wide.round = none := rfl
  refine callsIn_of_wp_marks Try.func53 rfl trivial ?_ hro
  simp only [Try.ntmps53, List.size_toArray, List.length_cons, List.length_nil, Nat.reduceAdd, Nat.reduceSub, Array.replicate_succ, Array.replicate_zero, List.push_toArray, List.append_toArray, List.nil_append, List.cons_append]
  gi_wp2_with fail
  obtain ⟨W, hW, b1, b2, b3, b4, hb⟩ := four_allocs w (.cells (spC lo) 26) (.cells (spC hi) 26) (.cells #[.slice none 0 0] 67) (.cells #[.slice none 0 0] 67)
  unfold spC at hW
  rw [← hW]
  clear hW
  refine ⟨trivial, (callsIn_wide.2 (range_tree p lo hi W)).mono ?_⟩
  rintro e w2 ⟨xb, fb, tb, rfl, hb2, bt, bf, bx⟩
  have hb02 : Below w.heap.size w w2 := hb.trans (hb2.mono hb.size)
  gi_wp2_with fail
  have hsz := hb02.size
  have B3 := Blk.below b3 hb2 (Array.getElem?_eq_some_iff.1 b3).1
  have B4 := Blk.below b4 hb2 (Array.getElem?_eq_some_iff.1 b4).1
  have lw : w.heap.size + 1 + 1 + 1 < w2.heap.size := B4.lt
  clear hb b1 b2 b3 b4 hb2
  refine wpIn_rangeFunc_ownH hro (by omega) (gf := 74) (lb := #[.pointer (some ⟨tb, 0, none⟩), .pointer (some ⟨fb, 0, none⟩), .pointer (some ⟨xb, 0, none⟩)]) rfl trivial (enters_of Try.func74 (by kernel_rfl) rfl)
    (range_stops badT (by unfold badT; decide) (by unfold badT; decide) (by unfold badT; decide) tb fb xb lo hi p l HT.out HA.out hb02 bt bf bx 150 HL.out) rk_t (rk_b hsz) (Below.refl _ _) (fun _ => rfl)
    (ListI w w2.heap.size (w.heap.size + 1 + 1 + 1) (w.heap.size + 1 + 1)) (fun _ _ _ => False)
    (listI_own hsz) (fun c => fun s A B row hs hg hr => hs.elim)
    ⟨⟨⟨none, 0, B4, World.ownsRow_nil _ _ _ _⟩, B3⟩, hb02, Nat.le_refl _⟩
    (fun x a' X => ∃ Bx, w2.heap.size ≤ Bx ∧ Blk X Bx (spC x.1) 26 ∧ a' = { tmps := #[.pointer p, .agg #[.int .i64 lo.br, .int .i64 lo.vol, .int .i64 lo.blk, .int .u64 lo.num], .agg #[.int .i64 hi.br, .int .i64 hi.vol, .int .i64 hi.blk, .int .u64 hi.num], undef, .pointer (some ⟨w.heap.size, 0, none⟩), .pointer (some ⟨w.heap.size + 1, 0, none⟩), .pointer (some ⟨w.heap.size + 1 + 1, 0, none⟩), .pointer (some ⟨w.heap.size + 1 + 1 + 1, 0, none⟩), .pointer (some ⟨Bx, 0, none⟩), .int .u64 x.2, .pointer p, .agg #[.int .i64 lo.br, .int .i64 lo.vol, .int .i64 lo.blk, .int .u64 lo.num], .agg #[.int .i64 hi.br, .int .i64 hi.vol, .int .i64 hi.blk, .int .u64 hi.num], .func (.func 74) #[] #[.pointer (some ⟨tb, 0, none⟩), .pointer (some ⟨fb, 0, none⟩), .pointer (some ⟨xb, 0, none⟩)], .agg #[.int .i64 x.1.br, .int .i64 x.1.vol, .int .i64 x.1.blk, .int .u64 x.1.num], .int .u64 x.2, undef, undef, undef, undef, undef, undef, undef, undef, undef, undef, undef], defers := [] })
    (fun x a' _ X Y row hs hg hr => by obtain ⟨Bx, h1, h2, h3⟩ := hs; exact ⟨Bx, h1, h2.kept hg (fun r e => (hr r e).2), h3⟩)
    ?assign ?body ?done ?stop
  case stop =>
    rintro D c pre X hD hsp hf hK
    exact hf.elim
  case assign =>
    rintro ln pre x X K ⟨⟨⟨A, c, h1, h2⟩, h3⟩, hB, hz⟩ hK
    have zX := hB.size
    have h2' := own_kept h2 (World.grownBy_alloc X (.cells #[.int .i64 0, .int .i64 0, .int .i64 0, .int .u64 0] 26) none) (fun r e => by cases e)
    unfold encEnt
    gi_wp2
    refine hK _ _ (KeepsFrom.trans ((KeepsOthers.alloc X _).from _) (KeepsFrom.refl _ _)) ⟨(Below.refl _ X).alloc zX _, fun q cs T fz hq _ => ((Below.refl X.heap.size X).alloc (Nat.le_refl _) _).block q (Array.getElem?_eq_some_iff.1 hq).1⟩ ⟨⟨⟨A, c, h1.alloc _, own_kept h2 (World.grownBy_alloc X _ none) (fun r e => by cases e)⟩, h3.alloc _⟩, hB.alloc zX _, by simp; omega⟩ ⟨X.heap.size, hz, Blk.new X _ _, rfl⟩
  case body =>
    rintro ln pre x a' X hln ⟨r, hr⟩ ⟨⟨⟨A, c, h1, h2⟩, h3⟩, hB, hz⟩ ⟨Bx, hBx, bX, rfl⟩ hlt
    unfold spC at bX
    have x0 := bX.cell 0
    have x1 := bX.cell 1
    have x2 := bX.cell 2
    have x3 := bX.cell 3
    have o0 := h1.cell 0
    have o1 := h1.frozen 0
    have zx := bX.lt
    have zo := h1.lt
    have hpl : pre.length ≤ 1000 := by omega
    obtain ⟨A', c', w', r1, r2, r3, r4⟩ := app_I2 (w.heap.size + 1 + 1 + 1 + 1) (.slice A pre.length c) pre.length pre h2 zo hpl x 67
    have hob : ∀ q, (Value.slice A pre.length c).ownBlock = some q → w.heap.size + 1 + 1 + 1 < q := fun q hq => own_ge h2 q hq
    have zr := r3.size
    have g1 : Blk w' (w.heap.size + 1 + 1 + 1) #[.slice A pre.length c] 67 := (r3.block _ (by omega)).trans h1
    have q0 := g1.cell 0
    have q1 := g1.frozen 0
    have hend := list_round hz hB h1 h3 h2 r2 r3 r4
    have hcmp : decide (200 < ((pre.length + 1 : Nat) : Int)) = false := by simp; omega
    have hcmpN : decide (200 < pre.length + 1) = false := by simp; omega
    clear h2 r2 r3 r4 g1 h1 h3
    gi_wp2_with (gi_at_builtin; refine wpListIn_append_run rfl _ _ _ rfl _ _ _ _ rfl rfl r1 ?_)
    try exact hend
  case done =>
    rintro D ys X hD rfl ⟨⟨⟨A, c, h1, h2⟩, h3⟩, hB, hz⟩ hK
    have o0 := h1.cell 0
    have o1 := h1.frozen 0
    have i0 := h3.cell 0
    have i1 := h3.frozen 0
    gi_wp2_with fail
    have hK' := (KeepsOthers.setCell X ⟨w.heap.size + 1 + 1, 0, none⟩ (.slice A (selE lo hi l).length c)).same D _ hK rfl
    have s3 := h3.set (o := 0) (.slice A (selE lo hi l).length c)
    have s2 := own_stay h2 (w' := X.setCell ⟨w.heap.size + 1 + 1, 0, none⟩ (.slice A (selE lo hi l).length c)) (fun q hq => Below.heap_setCell _ ⟨w.heap.size + 1 + 1, 0, none⟩ _ q (fun e => by have := own_ge h2 q hq; simp at e; omega))
    have hB2 := hB.setCell (p := ⟨w.heap.size + 1 + 1, 0, none⟩) (by show w.heap.size ≤ w.heap.size + 1 + 1; omega) (.slice A (selE lo hi l).length c)
    generalize X.setCell ⟨w.heap.size + 1 + 1, 0, none⟩ (.slice A (selE lo hi l).length c) = Y at *
    refine ⟨by simp, .inl ⟨_, _, rfl, run_takeDeferred hK', ?_⟩⟩
    have g3 := (s3.kept (grownBy_putObj' Y D (.deferred none)) (fun r e => by cases e; exact ⟨_, hK', rfl⟩)).cell 0
    have g2 := own_kept s2 (grownBy_putObj' Y D (.deferred none)) (fun r e => by cases e; exact ⟨_, hK', rfl⟩)
    refine ⟨.slice A (selE lo hi l).length c, ?_, A, c, rfl, ?_, hB2.trans (belowK_b (w := w) (Nat.le_refl _) _ D _ _ (by omega) hK' rfl rfl)⟩
    · rw [results_cT rfl]
      simp [go_sem, g3, Result.andThen]
    · obtain ⟨A', c', e, _, _, hit, _⟩ := its_own g2 rfl
      cases e
      exact hit
end Go.Proofs.Ytainljbkejafcaa.N

/- all of a tree's spots; what stands up to a spot, and from it on. -/
namespace Go.Proofs.Ytainljbkejafcaa.N
open Go.BigFrame Go.RowKit Go.Shelf Go.Proofs.YtainljbkejafcaaW.PrintMore Go.Proofs.YtainljbkejafcaaW.PrintWords
set_option linter.unusedVariables false
set_option linter.unusedSimpArgs false
def leastS : Sp := ⟨-9223372036854775808, -9223372036854775808, -9223372036854775808, 0⟩
def mostS : Sp := ⟨9223372036854775807, 9223372036854775807, 9223372036854775807, 18446744073709551615⟩
def AllOk (l : List Ent) : Prop := ∀ x ∈ l, x.1.ok
theorem lt_least {s : Sp} (h : s.ok) : lt s leastS = false := by
  obtain ⟨⟨a1, a2⟩, ⟨b1, b2⟩, ⟨c1, c2⟩, ⟨d1, d2⟩⟩ := h
  rw [lt_ordF]
  unfold ordS cmp3 leastS
  dsimp only
  repeat' split
  all_goals omega
theorem lt_most {s : Sp} (h : s.ok) : lt mostS s = false := by
  obtain ⟨⟨a1, a2⟩, ⟨b1, b2⟩, ⟨c1, c2⟩, ⟨d1, d2⟩⟩ := h
  rw [lt_ordF]
  unfold ordS cmp3 mostS
  dsimp only
  repeat' split
  all_goals omega
theorem sel_le {k : Sp} {l : List Ent} (h : AllOk l) : selE leastS k l = leE k l := List.filter_congr (fun x hx => by simp [lt_least (h x hx)])
theorem sel_ge {k : Sp} {l : List Ent} (h : AllOk l) : selE k mostS l = geE k l := List.filter_congr (fun x hx => by simp [lt_most (h x hx)])
theorem sel_all {l : List Ent} (h : AllOk l) : selE leastS mostS l = l := List.filter_eq_self.2 (fun x hx => by simp [lt_least (h x hx), lt_most (h x hx)])
theorem insE_ok {k : Sp} {v : Int} {l : List Ent} (hk : k.ok) (h : AllOk l) : AllOk (insE k v l) := fun x hx => by
  rcases insE_mem hx with rfl | hx
  · exact hk
  · exact h x hx
theorem delE_ok {k : Sp} {l : List Ent} (h : AllOk l) : AllOk (delE k l) := fun x hx => h x (delE_mem hx)
theorem stepE_ok {l : List Ent} {d : Dd} (hd : d.k.ok) (h : AllOk l) : AllOk (stepE l d) := by
  unfold stepE
  split
  · exact delE_ok h
  · exact insE_ok hd h
theorem foldl_allok : ∀ (ds : List Dd) (l : List Ent), (∀ d ∈ ds, d.k.ok) → AllOk l → AllOk (ds.foldl stepE l)
  | [], l, _, h => h
  | d :: t, l, hd, h => foldl_allok t (stepE l d) (fun x hx => hd x (by simp [hx])) (stepE_ok (hd d (by simp)) h)
theorem playE_ok {ds : List Dd} (h : ∀ j (hj : j < ds.length), ds[j].k.ok) : AllOk (playE ds) := foldl_allok ds [] (fun d hd => by
  obtain ⟨j, hj, rfl⟩ := List.getElem_of_mem hd
  exact h j hj) (fun x hx => by cases hx)
theorem parts_len {k : Sp} {l : List Ent} (ha : Asc l) : (leE k l).length + (geE k l).length = l.length + if hasE k l = true then 1 else 0 := by
  obtain ⟨h1, h2, h3, h4⟩ := findL_parts k ha
  have hh := findL_has k l
  have hlt := findL_lt k (l.map (·.1))
  rw [List.length_map, hh] at hlt
  rw [h1, h2, hh, List.length_take, List.length_drop]
  split
  · rename_i e; have := hlt e; omega
  · omega
theorem leE_mem {k : Sp} {l : List Ent} {x : Ent} : x ∈ leE k l ↔ x ∈ l ∧ lt k x.1 = false := by unfold leE; rw [List.mem_filter]; simp
theorem geE_mem {k : Sp} {l : List Ent} {x : Ent} : x ∈ geE k l ↔ x ∈ l ∧ lt x.1 k = false := by unfold geE; rw [List.mem_filter]; simp
theorem floor_mem {k : Sp} {l : List Ent} {x : Ent} (h : floorE k l = some x) : x ∈ leE k l := List.mem_of_getLast? h
theorem ceil_mem {k : Sp} {l : List Ent} {x : Ent} (h : ceilE k l = some x) : x ∈ geE k l := List.mem_of_head? h
theorem floor_has {k : Sp} {l : List Ent} (ha : Asc l) : hasE k l = true ↔ ∃ x, floorE k l = some x ∧ x.1 = k := by
  rw [hasE_iff ha]
  constructor
  · rintro ⟨x, hx, e⟩
    have hm : x ∈ leE k l := leE_mem.2 ⟨hx, by rw [e]; exact lt_irr k⟩
    have hne : leE k l ≠ [] := fun h => by rw [h] at hm; cases hm
    obtain ⟨y, hy⟩ : ∃ y, (leE k l).getLast? = some y := by
      cases h : (leE k l).getLast? with
      | none => exact absurd (List.getLast?_eq_none_iff.1 h) hne
      | some y => exact ⟨y, rfl⟩
    refine ⟨y, hy, ?_⟩
    have hyl := leE_mem.1 (List.mem_of_getLast? hy)
    have hA : Asc (leE k l) := List.Pairwise.filter _ ha
    rw [List.getLast?_eq_some_iff] at hy
    obtain ⟨ini, hi⟩ := hy
    rw [hi] at hm hA
    rcases List.mem_append.1 hm with hm | hm
    · have := (asc_app hA).2.2 x hm y (by simp)
      rw [e] at this
      rw [this] at hyl
      exact absurd hyl.2 (by simp)
    · simp at hm; rw [← hm]; exact e
  · rintro ⟨x, h, e⟩
    exact ⟨x, (leE_mem.1 (floor_mem h)).1, e⟩
theorem ceil_has {k : Sp} {l : List Ent} (ha : Asc l) : hasE k l = true ↔ ∃ x, ceilE k l = some x ∧ x.1 = k := by
  constructor
  · intro h
    obtain ⟨x, hx, e⟩ := (hasE_iff ha).1 h
    exact ⟨x, by rw [← e]; exact ceil_self ha hx, e⟩
  · rintro ⟨x, h, e⟩
    exact (hasE_iff ha).2 ⟨x, (geE_mem.1 (ceil_mem h)).1, e⟩
theorem all_tree {w : World} {p : Option Addr} {l : List Ent} (ht : TreeAt w p l) (ha : Asc l) (hl : l.length ≤ 150) (hok : AllOk l) :
    Calls Try.prog 47 #[.pointer p] w fun e w' => ∃ A c, e = .returned (.slice A l.length c) ∧ ItemsAt w' A l ∧ Below w.heap.size w w' := by
  have HT := Lib.hid ht
  have HA := Lib.hid ha
  have HL := Lib.hid hl
  have HS := Lib.hid (sel_all hok)
  clear ht ha hl hok
  go_enter Try.func47, Try.ntmps47
  go_upto_region 3 with fail
  have hb : Below w.heap.size w ((w.alloc (.cells (spC leastS) 26)).alloc (.cells (spC mostS) 26)) := ((Below.refl _ _).alloc (Nat.le_refl _) _).alloc (by simp) _
  have h1 := (Blk.new w (spC leastS) 26).alloc (.cells (spC mostS) 26)
  have h2 := Blk.new (w.alloc (.cells (spC leastS) 26)) (spC mostS) 26
  rw [World.size_alloc] at h2
  unfold spC leastS mostS at hb h1 h2
  dsimp only at hb h1 h2
  generalize (w.alloc (.cells _ 26)).alloc (.cells _ 26) = W at hb h1 h2 ⊢
  have HC := Lib.hid (list_tree (HT.out.below hb) HA.out HL.out leastS mostS)
  unfold leastS mostS at HC
  dsimp only at HC
  have x0 := h1.cell 0
  have x1 := h1.cell 1
  have x2 := h1.cell 2
  have x3 := h1.cell 3
  have y0 := h2.cell 0
  have y1 := h2.cell 1
  have y2 := h2.cell 2
  have y3 := h2.cell 3
  clear h1 h2
  go_wp2_with fail
  refine HC.out.mono ?_
  rintro e w2 ⟨A, c, rfl, hi, hb2⟩
  go_wp2_with fail
  go_ret
  have hs : selE ⟨-9223372036854775808, -9223372036854775808, -9223372036854775808, 0⟩ ⟨9223372036854775807, 9223372036854775807, 9223372036854775807, 18446744073709551615⟩ l = l := HS.out
  rw [hs] at hi ⊢
  exact ⟨A, c, rfl, hi, hb.trans (hb2.mono hb.size)⟩
end Go.Proofs.Ytainljbkejafcaa.N
