/- TWalk: joined by merge.py. -/
import Derived.Test.YtlackkhkaceblaaTPure
import Derived.Test.YtlackkhkaceblaaNLook
import Derived.Test.YtlackkhkaceblaaNHeldZ
import Derived.WalkMore
import Derived.Shelf.RegionOpen
import Derived.RangeFuncNested
import Derived.TacticsInMore
import Derived.Shelf.Abstract
/- The walk of Range. -/
namespace Go.Proofs.Ytlackkhkaceblaa.N
open Go.BigFrame Go.RowKit Go.Shelf Go.Proofs.YtlackkhkaceblaaW.PrintMore Go.Proofs.YtlackkhkaceblaaW.PrintWords
set_option linter.unusedVariables false
set_option linter.unusedSimpArgs false
attribute [local go_sem] Oper.semAt_some
/-- Those between two spots. -/
def selE (lo hi : Sp) (l : List Ent) : List Ent := l.filter (fun y => !lt y.1 lo && !lt hi y.1)
theorem selE_app (lo hi : Sp) (a b : List Ent) : selE lo hi (a ++ b) = selE lo hi a ++ selE lo hi b := List.filter_append ..
theorem selE_hi {lo hi : Sp} {l : List Ent} (h : ∀ y ∈ l, lt hi y.1 = true) : selE lo hi l = [] := List.filter_eq_nil_iff.2 (fun y hy => by simp [h y hy])
theorem selE_lo {lo hi : Sp} {l : List Ent} (h : ∀ y ∈ l, lt y.1 lo = true) : selE lo hi l = [] := List.filter_eq_nil_iff.2 (fun y hy => by simp [h y hy])
theorem selE_one {lo hi : Sp} {x : Ent} (h1 : lt hi x.1 = false) (h2 : lt x.1 lo = false) : selE lo hi [x] = [x] := by simp [selE, h1, h2]
/-- What a round keeps: blocks of cells of other types than the caller's. -/
def KeepT (bad : TypeId → Prop) (W W' : World) : Prop := ∀ (q : Nat) (cs : Array Value) (T : TypeId) (fz : Nat × Nat), W.heap[q]? = some (.cells cs T fz) → ¬ bad T → W'.heap[q]? = W.heap[q]?
def RK (bad : TypeId → Prop) (w0 W W' : World) : Prop := Below w0.heap.size W W' ∧ KeepT bad W W'
def spC (s : Sp) : Array Value := #[.int .i64 s.br, .int .i64 s.vol, .int .i64 s.blk, .int .u64 s.num]
/-- The boxes that the walk reads. -/
structure WInv (w0 W : World) (tb fb yb wb : Nat) (lo hi : Sp) (l : Nat) : Prop where
  b : Below w0.heap.size w0 W
  t : Blk W tb (spC hi) 46
  f : Blk W fb (spC lo) 46
  y : Blk W yb #[.func (.yield l) #[] #[]] 66
  k : Blk W wb #[.func (.func 37) #[] #[.pointer (some ⟨tb, 0, none⟩), .pointer (some ⟨fb, 0, none⟩), .pointer (some ⟨yb, 0, none⟩), .pointer (some ⟨wb, 0, none⟩)]] 67
section
variable {w0 W W' : World} {tb fb yb wb : Nat} {lo hi : Sp} {l : Nat}
theorem WInv.below (h : WInv w0 W tb fb yb wb lo hi l) (hb : Below W.heap.size W W') : WInv w0 W' tb fb yb wb lo hi l :=
  ⟨h.b.trans (hb.mono h.b.size), h.t.below hb h.t.lt, h.f.below hb h.f.lt, h.y.below hb h.y.lt, h.k.below hb h.k.lt⟩
theorem WInv.kept (h : WInv w0 W tb fb yb wb lo hi l) {bad : TypeId → Prop} (hb : RK bad w0 W W') (h1 : ¬ bad 46) (h2 : ¬ bad 66) (h3 : ¬ bad 67) : WInv w0 W' tb fb yb wb lo hi l :=
  ⟨h.b.trans hb.1, (hb.2 _ _ _ _ h.t h1).trans h.t, (hb.2 _ _ _ _ h.f h1).trans h.f, (hb.2 _ _ _ _ h.y h2).trans h.y, (hb.2 _ _ _ _ h.k h3).trans h.k⟩
end
theorem own_below {w w' : World} (h : Below w.heap.size w w') : w.grownBy w' none := ⟨h.os, h.tape, h.output, h.size, fun i hi _ => h.block i hi⟩
theorem ab_below {β : Type} {B : Nat} {J : β → World → Prop} (hJ : AbidesFrom B J) {s : β} {w w' : World} (h : J s w) (hb : Below w.heap.size w w') : J s w' := hJ s w w' none h (own_below hb) (fun r e => by cases e)
theorem yield_wide {n n' : Nat} {P : Program} {l : Nat} {args : Array Value} {W : World} {R : Ending → World → Prop} (h : YieldAt Fence.wide n P l args W R) : YieldAt Fence.wide n' P l args W R := by
  obtain ⟨fn, tmps, assign, body, h1, h2, h3⟩ := h
  exact ⟨fn, tmps, assign, body, h1, h2, fun c cs _ => h3 c cs (room_wide _)⟩
def encEnt (x : Ent) : Array Value := #[.agg #[.int .i64 x.1.br, .int .i64 x.1.vol, .int .i64 x.1.blk, .int .u64 x.1.num], .int .u64 x.2]
/-- How a walk over some entries ends. -/
def WPost (w0 : World) (tb fb yb wb : Nat) (lo hi : Sp) (l : Nat) (J Jx : List Ent → World → Prop) (pre m : List Ent) (e : Ending) (W' : World) : Prop :=
  (e = .returned (.bool true) ∧ J (pre ++ selE lo hi m) W' ∧ WInv w0 W' tb fb yb wb lo hi l) ∨ (e = .returned (.bool false) ∧ ∃ ys, ys <+: selE lo hi m ∧ Jx (pre ++ ys) W')
def LRel (w0 : World) (tb fb yb wb : Nat) (lo hi : Sp) (l : Nat) (J : List Ent → World → Prop) (pre : List Ent) (done : Nat → List Ent) (n : Nat) (i : Value) (X : World) : Prop := ∃ j : Nat, i = .int .i64 j ∧ j ≤ n ∧ J (pre ++ selE lo hi (done j)) X ∧ WInv w0 X tb fb yb wb lo hi l
set_option maxHeartbeats 6400000 in
set_option maxRecDepth 100000 in
theorem walk_nd {w0 : World} (bad : TypeId → Prop) (h1 : ¬ bad 46) (h2 : ¬ bad 66) (h3 : ¬ bad 67) (tb fb yb wb : Nat) (lo hi : Sp) (l N B : Nat) (J Jx : List Ent → World → Prop) (hJ : AbidesFrom B J)
    (hY : ∀ pre x W, J pre W → pre.length < N → YieldAt Fence.wide 0 Try.prog l (encEnt x) W fun e W' => (e = .returned (.bool true) ∧ J (pre ++ [x]) W' ∧ RK bad w0 W W') ∨ (e = .returned (.bool false) ∧ Jx (pre ++ [x]) W')) :
    ∀ (h : Nat) {q n : Nat} {m : List Ent}, Nd w0 h q m n → n ≤ 4 → 0 < n → Asc m → ∀ (X : World) (pre : List Ent), WInv w0 X tb fb yb wb lo hi l → J pre X → pre.length + (selE lo hi m).length ≤ N →
    Calls Try.prog 37 #[.pointer (some ⟨q, 0, none⟩), .pointer (some ⟨tb, 0, none⟩), .pointer (some ⟨fb, 0, none⟩), .pointer (some ⟨yb, 0, none⟩), .pointer (some ⟨wb, 0, none⟩)] X (WPost w0 tb fb yb wb lo hi l J Jx pre m) := by
  intro h
  induction h with
  | zero =>
    intro q n m hnd h4 h0 ha X pre hW hJ0 hN
    obtain ⟨hn, hL⟩ := hnd
    have HL := Lib.hid hL
    have HA := Lib.hid ha
    obtain ⟨KA, kca, KB, kcb, hh⟩ := hL
    have c0 := bel_cell hW.b hh.lt hh.c0
    rw [List.length_map, ← hn] at c0
    obtain ⟨kb, ko, rfl, lk, ck⟩ := hh.keys (by rw [List.length_map]; omega)
    obtain ⟨vb, vo, rfl, lv, cv⟩ := hh.vals (by rw [List.length_map]; omega)
    have HC := Lib.hid (And.intro ck cv)
    have HLt := Lib.hid (And.intro hh.lt (And.intro lk lv))
    have HC1 := Lib.hid hh.c1
    have HC0 := Lib.hid hh.c0
    have HNn := Lib.hid hn
    clear hh ck cv lk lv ha hn
    have HNN := Lib.hid hN
    clear hN
    go_enter Try.func37, Try.ntmps37
    go_wp2_with fail
    go_step3
    go_wp2_with fail
    go_step3
    go_wp2_with fail
    go_loopw [14] (fun i Y => LRel w0 tb fb yb wb lo hi l J pre (fun j => m.take j) n i Y) (fun i _ => (n - intOf i).toNat)
    case atStart => exact ⟨0, rfl, Nat.zero_le _, by simpa [selE] using hJ0, hW⟩
    case round =>
      obtain ⟨j, rfl, hj, hJs, hI⟩ := hrel
      dsimp only at hJs
      have HI := Lib.hid hI
      have HJs := Lib.hid hJs
      by_cases hjn : j < n
      · have hjm : j < m.length := by rw [← HNn.out]; exact hjn
        have HTk := Lib.hid (List.take_succ_eq_append_getElem hjm)
        have hdr := List.drop_eq_getElem_cons hjm
        have hasc := HA.out
        unfold Asc at hasc
        have hge : ∀ y ∈ m.drop (j + 1), lt m[j].1 y.1 = true := fun y hy => by
          have h2 : (m.drop j).Pairwise (fun a b => lt a.1 b.1 = true) := hasc.sublist (List.drop_sublist _ _)
          rw [hdr, List.pairwise_cons] at h2
          exact h2.1 y hy
        have HGe := Lib.hid hge
        have HDr := Lib.hid hdr
        obtain ⟨s0, s1, s2, s3⟩ := HC.out.1 j (by rw [List.length_map]; exact hjm)
        have v0 := HC.out.2 j (by rw [List.length_map]; exact hjm)
        rw [List.getElem_map] at s0 s1 s2 s3 v0
        obtain ⟨x, hx⟩ : ∃ x, m[j] = x := ⟨_, rfl⟩
        rw [hx] at s0 s1 s2 s3 v0 HTk HGe HDr
        have s0 := bel_cell hI.b HLt.out.2.1 s0
        have s1 := bel_cell hI.b HLt.out.2.1 s1
        have s2 := bel_cell hI.b HLt.out.2.1 s2
        have s3 := bel_cell hI.b HLt.out.2.1 s3
        have HV0 := Lib.hid v0
        have z0 : wr.cell? ⟨tb, 0, none⟩ = some (.int .i64 hi.br) := (hI.t.cell 0).trans rfl
        have z1 : wr.cell? ⟨tb, 1, none⟩ = some (.int .i64 hi.vol) := (hI.t.cell 1).trans rfl
        have z2 : wr.cell? ⟨tb, 2, none⟩ = some (.int .i64 hi.blk) := (hI.t.cell 2).trans rfl
        have z3 : wr.cell? ⟨tb, 3, none⟩ = some (.int .u64 hi.num) := (hI.t.cell 3).trans rfl
        have lz := hI.t.lt
        have e1 : (0 : Int) ≤ (j : Int) := by omega
        have e2 : (j : Int) < (n : Int) := by omega
        have hbA : Below wr.heap.size wr (wr.alloc (.cells (spC x.1) 46)) := (Below.refl _ _).alloc (Nat.le_refl _) _
        have hbk := Blk.new wr (spC x.1) 46
        have HbA := Lib.hid hbA
        have Hbk := Lib.hid hbk
        clear hx hdr hasc hge hjm v0 hJs hI hbA hbk
        go_wp2_with fail
        refine (before_at' hi x.1 _).mono ?_
        rintro e w3 ⟨rfl, hb3⟩
        have hb03 : Below wr.heap.size wr w3 := HbA.out.trans (hb3.mono HbA.out.size)
        have HI3 := Lib.hid (HI.out.below hb03)
        have HJ3 := Lib.hid (ab_below hJ HJs.out hb03)
        have Hbk3 : Hid (Blk w3 wr.heap.size (spC x.1) 46) := Hbk.out.below hb3 Hbk.out.lt
        clear hb3 hb03 s0 s1 s2 s3 z0 z1 z2 z3 lz
        cases hlt : lt hi x.1 with
        | true =>
          have hse : selE lo hi m = selE lo hi (m.take j) := by
            conv => lhs; rw [← List.take_append_drop j m]
            rw [selE_app, HDr.out, selE_hi (l := x :: m.drop (j + 1)) (fun y hy => ?_), List.append_nil]
            rcases List.mem_cons.1 hy with rfl | hy
            · exact hlt
            · exact lt_tra hlt (HGe.out y hy)
          have HSe := Lib.hid hse
          clear hse hlt
          go_wp2_with fail
          go_ret
          exact .inl ⟨rfl, by rw [HSe.out]; exact HJ3.out, HI3.out⟩
        | false =>
          have HLt1 := Lib.hid hlt
          clear hlt
          go_wp2_with fail
          refine (leaf_yes (HL.out.below HI3.out.b)).mono ?_
          rintro e w4 ⟨rfl, rfl⟩
          go_upto_region 6 with fail
          have k0 : w3.cell? ⟨wr.heap.size, 0, none⟩ = some (.int .i64 x.1.br) := (Hbk3.out.cell 0).trans rfl
          have k1 : w3.cell? ⟨wr.heap.size, 1, none⟩ = some (.int .i64 x.1.vol) := (Hbk3.out.cell 1).trans rfl
          have k2 : w3.cell? ⟨wr.heap.size, 2, none⟩ = some (.int .i64 x.1.blk) := (Hbk3.out.cell 2).trans rfl
          have k3 : w3.cell? ⟨wr.heap.size, 3, none⟩ = some (.int .u64 x.1.num) := (Hbk3.out.cell 3).trans rfl
          have f0 : w3.cell? ⟨fb, 0, none⟩ = some (.int .i64 lo.br) := (HI3.out.f.cell 0).trans rfl
          have f1 : w3.cell? ⟨fb, 1, none⟩ = some (.int .i64 lo.vol) := (HI3.out.f.cell 1).trans rfl
          have f2 : w3.cell? ⟨fb, 2, none⟩ = some (.int .i64 lo.blk) := (HI3.out.f.cell 2).trans rfl
          have f3 : w3.cell? ⟨fb, 3, none⟩ = some (.int .u64 lo.num) := (HI3.out.f.cell 3).trans rfl
          obtain ⟨zb, hzb⟩ : ∃ zb, wr.heap.size = zb := ⟨_, rfl⟩
          rw [hzb] at Hbk3 k0 k1 k2 k3 ⊢
          clear hzb
          have HBf := Lib.hid (fun X => before_at' x.1 lo X)
          cases hls : lt x.1 lo with
          | true =>
            rw [hls] at HBf
            have hse : selE lo hi (m.take (j + 1)) = selE lo hi (m.take j) := by
              rw [HTk.out, selE_app, selE_lo (l := [x]) (fun y hy => by rw [List.mem_singleton.1 hy]; exact hls), List.append_nil]
            have HTk2 := Lib.hid hse
            clear hse
            clear hls
            have z0 := cls_cell k0
            have z1 := cls_cell k1
            have z2 := cls_cell k2
            have z3 := cls_cell k3
            have y0 := cls_cell f0
            have y1 := cls_cell f1
            have y2 := cls_cell f2
            have y3 := cls_cell f3
            have HBe : Hid (∀ X : Wd (Below w3.heap.size w3), Calls Try.prog 38 #[.agg #[.int .i64 x.1.br, .int .i64 x.1.vol, .int .i64 x.1.blk, .int .u64 x.1.num], .agg #[.int .i64 lo.br, .int .i64 lo.vol, .int .i64 lo.blk, .int .u64 lo.num]] X.w fun e w'' => e = .returned (.bool true) ∧ ∃ m : Wd (Below w3.heap.size w3), w'' = m.w) := fun X => Calls.clsB (HBf.out X.w) (Nat.le_refl _)
            have := cls_ne w3
            clear k0 k1 k2 k3 f0 f1 f2 f3
            refine wp_region_cls (S := Below w3.heap.size w3) (by kernel_rfl) (by kernel_rfl) (bel_drewN _ _ (n := 1)) ?_
            repeat (go_big_quiet_step (with_reducible (first | exact HBe.out _)))
            refine wpQuiet_nil ?_
            rintro w5 ⟨⟨_, hx5⟩, rfl⟩
            try dsimp only
            have HI5 := Lib.hid (HI3.out.below hx5)
            have HJ5 := Lib.hid (ab_below hJ HJ3.out hx5)
            clear z0 z1 z2 z3 y0 y1 y2 y3 this HBe hx5
            go_wp2_with fail
            go_roundw
            case rel => exact ⟨j + 1, by simp, hjn, by dsimp only; rw [HTk2.out]; exact HJ5.out, HI5.out⟩
            case measure => (simp [intOf] <;> omega)
          | false =>
            rw [hls] at HBf
            have hse : selE lo hi (m.take (j + 1)) = selE lo hi (m.take j) ++ [x] := by rw [HTk.out, selE_app, selE_one HLt1.out hls]
            have HTk2 := Lib.hid hse
            have hlen : (pre ++ selE lo hi (m.take j)).length < N := by
              have h5 : selE lo hi m = selE lo hi (m.take (j + 1)) ++ selE lo hi (m.drop (j + 1)) := by rw [← selE_app, List.take_append_drop]
              have h6 := HNN.out
              rw [h5, hse] at h6
              simp only [List.length_append, List.length_singleton] at h6 ⊢
              omega
            have HYi : Hid (∀ W, J (pre ++ selE lo hi (m.take j)) W → YieldAt Fence.wide 5 Try.prog l (encEnt x) W fun e W' => ∃ b : Bool, e = .returned (.bool b) ∧ ((b = true ∧ J (pre ++ selE lo hi (m.take j) ++ [x]) W' ∧ RK bad w0 W W') ∨ (b = false ∧ Jx (pre ++ selE lo hi (m.take j) ++ [x]) W'))) := fun W hW => by
              refine YieldAt.mono (yield_wide (hY _ x W hW hlen)) (fun e W' hp => ?_)
              rcases hp with ⟨rfl, a, b⟩ | ⟨rfl, a⟩
              · exact ⟨true, rfl, .inl ⟨rfl, a, b⟩⟩
              · exact ⟨false, rfl, .inr ⟨rfl, a⟩⟩
            clear hls hse hlen
            have hmx : Try.prog.follows .mixedOrders = true := by kernel_rfl
            have c1 : w3.cell? ⟨q, 1, none⟩ = some _ := bel_cell HI3.out.b HLt.out.1 HC1.out
            rw [List.length_map, ← HNn.out] at c1
            have vv : w3.cell? ⟨vb, vo + j, none⟩ = some (.int .u64 x.2) := bel_cell HI3.out.b HLt.out.2.2 HV0.out
            have yy : w3.cell? ⟨yb, 0, none⟩ = some (.func (.yield l) #[] #[]) := (HI3.out.y.cell 0).trans rfl
            have hpx : selE lo hi (m.take j) ++ [x] <+: selE lo hi m := by
              rw [← HTk2.out]
              exact ⟨selE lo hi (m.drop (j + 1)), by rw [← selE_app, List.take_append_drop]⟩
            have HPx := Lib.hid hpx
            clear hpx
            go_cut [42] (fun bv Y => ∃ bY : Bool, bv = .bool (!bY) ∧ ((bY = true ∧ J (pre ++ selE lo hi (m.take j) ++ [x]) Y ∧ WInv w0 Y tb fb yb wb lo hi l) ∨ (bY = false ∧ Jx (pre ++ selE lo hi (m.take j) ++ [x]) Y)))
            case first =>
              have lyb := HI3.out.y.lt
              have lq : q < w3.heap.size := Nat.lt_of_lt_of_le HLt.out.1 HI3.out.b.size
              have lvb : vb < w3.heap.size := Nat.lt_of_lt_of_le HLt.out.2.2 HI3.out.b.size
              have lzb := Hbk3.out.lt
              refine (wpIn_wide (n := 6)).1 ?_
              gi_region_with_o (first | (refine ⟨trivial, (callsIn_wide.2 (HBf.out _)).mono ?_⟩; rintro e w5 ⟨rfl, hb5⟩; have hx5 : Below w3.heap.size w3 w5 := Below.trans (bel_drewN _ _ (n := 1)) hb5; have yy5 := bel_cell hx5 lyb yy; have c15 := bel_cell hx5 lq c1; have vv5 := bel_cell hx5 lvb vv; have k05 := bel_cell hx5 lzb k0; have k15 := bel_cell hx5 lzb k1; have k25 := bel_cell hx5 lzb k2; have k35 := bel_cell hx5 lzb k3; obtain ⟨fnY, tmpsY, assignY, bodyY, hyY, hRY⟩ := HYi.out w5 (ab_below hJ HJ3.out hx5); unfold encEnt at hyY; (try dsimp only at hyY)) | (refine hRY.mono ?_; rintro e w7 ⟨bY, rfl, hcase⟩))
              all_goals (
                go_wp2_with fail
                go_meet
                rcases hcase with ⟨rfl, hJ7, hk7⟩ | ⟨rfl, hJ7⟩
                · exact ⟨true, rfl, .inl ⟨rfl, hJ7, ((HI3.out.below hx5).kept hk7 h1 h2 h3)⟩⟩
                · exact ⟨false, rfl, .inr ⟨rfl, hJ7⟩⟩)
            case rest =>
              obtain ⟨bY, rfl, hcase⟩ := hcut
              clear k0 k1 k2 k3 f0 f1 f2 f3 c1 vv yy hmx HYi
              rcases hcase with ⟨rfl, hJ7, hW7⟩ | ⟨rfl, hJ7⟩
              · have HJ7 := Lib.hid hJ7
                have HW7 := Lib.hid hW7
                clear hJ7 hW7
                go_wp2_with fail
                go_roundw
                case rel => exact ⟨j + 1, by simp, hjn, by dsimp only; rw [HTk2.out, ← List.append_assoc]; exact HJ7.out, HW7.out⟩
                case measure => (simp [intOf] <;> omega)
              · have HJ7 := Lib.hid hJ7
                clear hJ7
                go_wp2_with fail
                go_ret
                exact .inr ⟨rfl, _, HPx.out, by rw [← List.append_assoc]; exact HJ7.out⟩
      · obtain rfl : j = n := by omega
        have htk : m.take j = m := List.take_of_length_le (by rw [HNn.out]; exact Nat.le_refl _)
        rw [htk] at HJs
        clear hJs hI htk
        go_wp2_with fail
        go_ret
        exact .inl ⟨rfl, HJs.out, HI.out⟩
  | succ h ih =>
    intro q n m hnd h4 h0 ha X pre hW hJ0 hN
    obtain ⟨qs, ls, hn, rfl, hI0, hk⟩ := nd_succ.1 hnd
    have HI0 := Lib.hid hI0
    have HKi := Lib.hid hk
    have HA := Lib.hid ha
    have HNn := Lib.hid hn
    have HNN := Lib.hid hN
    have hlen := hk.length
    have HLe := Lib.hid hlen
    obtain ⟨A, ca, C, cc, hin⟩ := hI0
    have c0 := bel_cell hW.b hin.lt hin.c0
    rw [List.length_map, ← hlen, ← hn] at c0
    obtain ⟨kb, ko, rfl, lk, ck⟩ := hin.keys (by rw [List.length_map]; omega)
    obtain ⟨pb, po, rfl, lp, cp⟩ := hin.kids hin.pos
    have HC := Lib.hid (And.intro ck cp)
    have HLt := Lib.hid (And.intro hin.lt (And.intro lk lp))
    have HC2 := Lib.hid hin.c2
    have HC0 : Hid (w0.cell? ⟨q, 0, none⟩ = some (.slice (some ⟨kb, ko, none⟩) n ca)) := by
      have := hin.c0
      rw [List.length_map, ← hlen, ← hn] at this
      exact this
    clear hin ck cp lk lp ha hn hN hnd hk hlen
    go_enter Try.func37, Try.ntmps37
    go_wp2_with fail
    go_step3
    go_wp2_with fail
    go_step3
    go_wp2_with fail
    go_loopw [14] (fun i Y => LRel w0 tb fb yb wb lo hi l J pre (fun j => (ls.take j).flatten) n i Y) (fun i _ => (n - intOf i).toNat)
    case atStart => exact ⟨0, rfl, Nat.zero_le _, by simpa [selE] using hJ0, hW⟩
    case round =>
      obtain ⟨j, rfl, hj, hJs, hI⟩ := hrel
      dsimp only at hJs
      have HI := Lib.hid hI
      have HJs := Lib.hid hJs
      by_cases hjn : j < n
      · have hjl : j < ls.length := by have := HNn.out; have := HLe.out; omega
        have hjq : j < qs.length := by have := HNn.out; omega
        have hne := kids_ne (by decide) HKi.out
        obtain ⟨y0, hy0, hyk⟩ := hd_mem (hne _ (List.getElem_mem hjl))
        have hcut := flatten_cut hjl
        have hasc := HA.out
        have hft := flat_take ls j hjl
        obtain ⟨s0, s1, s2, s3⟩ := HC.out.1 j (by rw [List.length_map]; exact hjl)
        rw [List.getElem_map] at s0 s1 s2 s3
        replace s0 := bel_cell hI.b HLt.out.2.1 s0
        replace s1 := bel_cell hI.b HLt.out.2.1 s1
        replace s2 := bel_cell hI.b HLt.out.2.1 s2
        replace s3 := bel_cell hI.b HLt.out.2.1 s3
        have hkc := HC.out.2 j hjq
        -- from the j-th kid on: nothing stands ahead of its first spot
        have hge : ∀ y ∈ ls[j] ++ (ls.drop (j + 1)).flatten, lt y.1 (hd ls[j]) = false := fun y hy => by
          have hall : Asc (ls[j] ++ (ls.drop (j + 1)).flatten) := by
            rw [hcut, List.append_assoc] at hasc
            exact (asc_app hasc).2.1
          have hl0 := hne _ (List.getElem_mem hjl)
          cases hl : ls[j] with
          | nil => exact absurd hl hl0
          | cons z t =>
            rw [hl] at hy hall
            rw [List.cons_append] at hy hall
            unfold Asc at hall
            rw [List.pairwise_cons] at hall
            rcases List.mem_cons.1 hy with rfl | hy
            · exact lt_irr _
            · exact lt_asy (hall.1 y hy)
        have hnx : ∀ (h : j + 1 < ls.length), ∀ y ∈ ls[j], lt y.1 (hd ls[j + 1]) = true := fun h y hy => by
          obtain ⟨z, hz, hzk⟩ := hd_mem (hne _ (List.getElem_mem h))
          rw [← hzk]
          have h7 : Asc ((ls.take (j + 1)).flatten ++ (ls.drop (j + 1)).flatten) := by rw [← List.flatten_append, List.take_append_drop]; exact hasc
          refine (asc_app h7).2.2 y ?_ z ?_
          · rw [hft]
            exact List.mem_append_right _ hy
          · rw [List.drop_eq_getElem_cons h, List.flatten_cons]
            exact List.mem_append_left _ hz
        have HJl := Lib.hid (And.intro hjl hjq)
        have HGe : Hid (∀ y ∈ ls[j]'(HJl.out.1) ++ (ls.drop (j + 1)).flatten, lt y.1 (hd (ls[j]'(HJl.out.1))) = false) := hge
        have HNx : Hid (∀ (h : j + 1 < ls.length), ∀ y ∈ ls[j]'(HJl.out.1), lt y.1 (hd ls[j + 1]) = true) := hnx
        have HCut : Hid (ls.flatten = (ls.take j).flatten ++ ls[j]'(HJl.out.1) ++ (ls.drop (j + 1)).flatten) := hcut
        have HFt : Hid ((ls.take (j + 1)).flatten = (ls.take j).flatten ++ ls[j]'(HJl.out.1)) := hft
        obtain ⟨x, hx⟩ : ∃ x, hd (ls[j]'(HJl.out.1)) = x := ⟨_, rfl⟩
        rw [hx] at s0 s1 s2 s3 HGe
        obtain ⟨qj, hqj⟩ : ∃ qj, qs[j] = qj := ⟨_, rfl⟩
        rw [hqj] at hkc
        have HQj : Hid (∀ h : j < qs.length, qs[j]'h = qj) := fun _ => hqj
        have HKc := Lib.hid hkc
        have z0 : wr.cell? ⟨tb, 0, none⟩ = some (.int .i64 hi.br) := (hI.t.cell 0).trans rfl
        have z1 : wr.cell? ⟨tb, 1, none⟩ = some (.int .i64 hi.vol) := (hI.t.cell 1).trans rfl
        have z2 : wr.cell? ⟨tb, 2, none⟩ = some (.int .i64 hi.blk) := (hI.t.cell 2).trans rfl
        have z3 : wr.cell? ⟨tb, 3, none⟩ = some (.int .u64 hi.num) := (hI.t.cell 3).trans rfl
        have lz := hI.t.lt
        have e1 : (0 : Int) ≤ (j : Int) := by omega
        have e2 : (j : Int) < (n : Int) := by omega
        have hbA : Below wr.heap.size wr (wr.alloc (.cells (spC x) 46)) := (Below.refl _ _).alloc (Nat.le_refl _) _
        have HbA := Lib.hid hbA
        clear hx hqj hcut hasc hft hge hnx hjl hjq hJs hI hbA hne hy0 hyk hkc
        go_wp2_with fail
        refine (before_at' hi x _).mono ?_
        rintro e w3 ⟨rfl, hb3⟩
        have hb03 : Below wr.heap.size wr w3 := HbA.out.trans (hb3.mono HbA.out.size)
        have HI3 := Lib.hid (HI.out.below hb03)
        have HJ3 := Lib.hid (ab_below hJ HJs.out hb03)
        clear hb3 hb03 s0 s1 s2 s3 z0 z1 z2 z3 lz
        cases hlt : lt hi x with
        | true =>
          have hse : selE lo hi ls.flatten = selE lo hi (ls.take j).flatten := by
            rw [HCut.out, List.append_assoc, selE_app, selE_hi (l := ls[j]'HJl.out.1 ++ (ls.drop (j + 1)).flatten) (fun y hy => ?_), List.append_nil]
            have h8 := HGe.out y hy
            rw [← Bool.not_eq_false]
            intro h9
            by_cases e : y.1 = x
            · rw [e, hlt] at h9; cases h9
            · have h10 : lt x y.1 = true := by
                rw [← Bool.not_eq_false]
                intro h11
                exact e (lt_tot h8 h11)
              rw [lt_tra hlt h10] at h9
              cases h9
          have HSe := Lib.hid hse
          clear hse hlt
          go_wp2_with fail
          go_ret
          exact .inl ⟨rfl, by rw [HSe.out]; exact HJ3.out, HI3.out⟩
        | false =>
          clear hlt
          go_wp2_with fail
          refine (leaf_no (HI0.out.below HI3.out.b)).mono ?_
          rintro e w4 ⟨rfl, rfl⟩
          go_upto_region 8 with fail
          have hs1 := HFt.out
          have f0 : w3.cell? ⟨fb, 0, none⟩ = some (.int .i64 lo.br) := (HI3.out.f.cell 0).trans rfl
          have f1 : w3.cell? ⟨fb, 1, none⟩ = some (.int .i64 lo.vol) := (HI3.out.f.cell 1).trans rfl
          have f2 : w3.cell? ⟨fb, 2, none⟩ = some (.int .i64 lo.blk) := (HI3.out.f.cell 2).trans rfl
          have f3 : w3.cell? ⟨fb, 3, none⟩ = some (.int .u64 lo.num) := (HI3.out.f.cell 3).trans rfl
          have cc0 := bel_cell HI3.out.b HLt.out.1 HC0.out
          have hseq : selE lo hi (ls.take (j + 1)).flatten = selE lo hi (ls.take j).flatten ++ selE lo hi (ls[j]'HJl.out.1) := by rw [HFt.out, selE_app]
          have HSeq := Lib.hid hseq
          clear hs1 hseq
          have y0 := cls_cell f0
          have y1 := cls_cell f1
          have y2 := cls_cell f2
          have y3 := cls_cell f3
          have ycc := cls_cell cc0
          have := cls_ne w3
          clear f0 f1 f2 f3 cc0
          go_cut [43] (fun bv Y => Below w3.heap.size w3 Y ∧ ∃ b : Bool, bv = .bool b ∧ (b = true → selE lo hi (ls[j]'HJl.out.1) = []))
          case first =>
            by_cases hlast : j + 1 < ls.length
            · obtain ⟨r0, r1, r2, r3⟩ := HC.out.1 (j + 1) (by rw [List.length_map]; exact hlast)
              rw [List.getElem_map] at r0 r1 r2 r3
              have hnx := HNx.out hlast
              obtain ⟨y, hy⟩ : ∃ y, hd (ls[j + 1]'hlast) = y := ⟨_, rfl⟩
              rw [hy] at r0 r1 r2 r3 hnx
              have z0 := cls_cell (bel_cell HI3.out.b HLt.out.2.1 r0)
              have z1 := cls_cell (bel_cell HI3.out.b HLt.out.2.1 r1)
              have z2 := cls_cell (bel_cell HI3.out.b HLt.out.2.1 r2)
              have z3 := cls_cell (bel_cell HI3.out.b HLt.out.2.1 r3)
              have hln : j + 1 < n := by have := HNn.out; have := HLe.out; omega
              have g1 : decide ((j : Int) + 1 < (n : Int)) = true := by simp; omega
              have g2 : (0 : Int) ≤ (j : Int) + 1 := by omega
              have g3 : (j : Int) + 1 < (n : Int) := by omega
              have g4 : (n : Int) ≤ 4 := by omega
              have HBe : Hid (∀ X : Wd (Below w3.heap.size w3), Calls Try.prog 38 #[.agg #[.int .i64 lo.br, .int .i64 lo.vol, .int .i64 lo.blk, .int .u64 lo.num], .agg #[.int .i64 y.br, .int .i64 y.vol, .int .i64 y.blk, .int .u64 y.num]] X.w fun e w'' => e = .returned (.bool (lt lo y)) ∧ ∃ m : Wd (Below w3.heap.size w3), w'' = m.w) := fun X => Calls.clsB (before_at' lo y X.w) (Nat.le_refl _)
              have HNy := Lib.hid hnx
              clear r0 r1 r2 r3 hnx hy hlast hln
              refine wp_region_cls (S := Below w3.heap.size w3) (by kernel_rfl) (by kernel_rfl) (bel_drewN _ _ (n := 1)) ?_
              repeat (go_big_quiet_step (with_reducible (first | exact HBe.out _)))
              refine wpQuiet_nil ?_
              rintro w5 ⟨⟨_, hx5⟩, rfl⟩
              try dsimp only
              go_wp2_with fail
              go_meet
              refine ⟨hx5, _, rfl, fun hb => ?_⟩
              refine selE_lo (fun y2 hy2 => ?_)
              have h8 := HNy.out y2 hy2
              have h9 : lt lo y = false := by simpa using hb
              by_cases e : y = lo
              · rw [← e]; exact h8
              · have h10 : lt y lo = true := by
                  rw [← Bool.not_eq_false]
                  intro h11
                  exact e (lt_tot h11 h9)
                exact lt_tra h8 h10
            · have hln : ¬ j + 1 < n := by have := HNn.out; have := HLe.out; omega
              have g1 : decide ((j : Int) + 1 < (n : Int)) = false := by simp; omega
              have g4 : (n : Int) ≤ 4 := by omega
              clear hlast hln
              refine wp_region_cls (S := Below w3.heap.size w3) (by kernel_rfl) (by kernel_rfl) (bel_drewN _ _ (n := 1)) ?_
              repeat (go_big_quiet_step (fail))
              refine wpQuiet_nil ?_
              rintro w5 ⟨⟨_, hx5⟩, rfl⟩
              try dsimp only
              go_wp2_with fail
              go_meet
              exact ⟨hx5, _, rfl, fun hb => by simp at hb⟩
          case rest =>
            obtain ⟨hx5, b, rfl, hskip⟩ := hcut
            have HX5 := Lib.hid hx5
            have HI5 := Lib.hid (HI3.out.below hx5)
            have HJ5 := Lib.hid (ab_below hJ HJ3.out hx5)
            have HSk := Lib.hid hskip
            clear hx5 hskip y0 y1 y2 y3 ycc this
            cases b with
            | true =>
              have hse : selE lo hi (ls.take (j + 1)).flatten = selE lo hi (ls.take j).flatten := by rw [HSeq.out, HSk.out rfl, List.append_nil]
              have HSe := Lib.hid hse
              clear hse
              go_wp2_with fail
              go_roundw
              case rel => exact ⟨j + 1, by simp, hjn, by dsimp only; rw [HSe.out]; exact HJ5.out, HI5.out⟩
              case measure => (simp [intOf] <;> omega)
            | false =>
              obtain ⟨s, s2, s4, hkd⟩ := HKi.out.get j HJl.out.2 HJl.out.1
              rw [HQj.out _] at hkd
              have hwhole : selE lo hi ls.flatten = selE lo hi (ls.take (j + 1)).flatten ++ selE lo hi (ls.drop (j + 1)).flatten := by rw [← selE_app, ← List.flatten_append, List.take_append_drop]
              have hN2 : (pre ++ selE lo hi (ls.take j).flatten).length + (selE lo hi (ls[j]'HJl.out.1)).length ≤ N := by
                have h6 := HNN.out
                rw [hwhole, HSeq.out] at h6
                simp only [List.length_append] at h6 ⊢
                omega
              have HWh := Lib.hid hwhole
              have HCa : Hid (∀ Y, Below wc.heap.size wc Y → Calls Try.prog 37 #[.pointer (some ⟨qj, 0, none⟩), .pointer (some ⟨tb, 0, none⟩), .pointer (some ⟨fb, 0, none⟩), .pointer (some ⟨yb, 0, none⟩), .pointer (some ⟨wb, 0, none⟩)] Y fun e w' => ∃ b : Bool, e = .returned (.bool b) ∧ ((b = true ∧ J (pre ++ selE lo hi (ls.take (j + 1)).flatten) w' ∧ WInv w0 w' tb fb yb wb lo hi l) ∨ (b = false ∧ ∃ ys, ys <+: selE lo hi ls.flatten ∧ Jx (pre ++ ys) w'))) := fun Y hY2 => by
                refine (ih hkd s4 (by omega) (asc_kid HA.out HJl.out.1) Y (pre ++ selE lo hi (ls.take j).flatten) (HI5.out.below hY2) (ab_below hJ HJ5.out hY2) hN2).mono fun e w' hp => ?_
                rcases hp with ⟨rfl, a, b⟩ | ⟨rfl, ys, hp, a⟩
                · exact ⟨true, rfl, .inl ⟨rfl, by rw [HSeq.out, ← List.append_assoc]; exact a, b⟩⟩
                · refine ⟨false, rfl, .inr ⟨rfl, selE lo hi (ls.take j).flatten ++ ys, ?_, by rw [← List.append_assoc]; exact a⟩⟩
                  obtain ⟨t, ht⟩ := hp
                  rw [HWh.out, HSeq.out, ← ht]
                  exact ⟨t ++ selE lo hi (ls.drop (j + 1)).flatten, by simp⟩
              have kw : wc.cell? ⟨wb, 0, none⟩ = some (.func (.func 37) #[] #[.pointer (some ⟨tb, 0, none⟩), .pointer (some ⟨fb, 0, none⟩), .pointer (some ⟨yb, 0, none⟩), .pointer (some ⟨wb, 0, none⟩)]) := (HI5.out.k.cell 0).trans rfl
              have kc := bel_cell HI5.out.b HLt.out.2.2 HKc.out
              have k2 := bel_cell HI5.out.b HLt.out.1 HC2.out
              rw [← HNn.out] at k2
              have lw := HI5.out.k.lt
              have lq : q < wc.heap.size := Nat.lt_of_lt_of_le HLt.out.1 HI5.out.b.size
              have lp : pb < wc.heap.size := Nat.lt_of_lt_of_le HLt.out.2.2 HI5.out.b.size
              clear hkd hwhole hN2
              go_upto_region 9 with fail
              have held : ∀ X, Below wc.heap.size wc X → (fun w' => w'.cell? ⟨wb, 0, none⟩ = some (.func (.func 37) #[] #[.pointer (some ⟨tb, 0, none⟩), .pointer (some ⟨fb, 0, none⟩), .pointer (some ⟨yb, 0, none⟩), .pointer (some ⟨wb, 0, none⟩)]) ∧ w'.cell? ⟨q, 2, none⟩ = some (.slice (some ⟨pb, po, none⟩) n cc) ∧ w'.cell? ⟨pb, po + j, none⟩ = some (.pointer (some ⟨qj, 0, none⟩))) X := fun X hX => ⟨bel_cell hX lw kw, bel_cell hX lq k2, bel_cell hX lp kc⟩
              have hb0 : Below wc.heap.size wc wc.drew := bel_drewN _ _ (n := 1)
              clear kw k2 kc
              refine Z_start [8] (fun w' => w'.cell? ⟨wb, 0, none⟩ = some (.func (.func 37) #[] #[.pointer (some ⟨tb, 0, none⟩), .pointer (some ⟨fb, 0, none⟩), .pointer (some ⟨yb, 0, none⟩), .pointer (some ⟨wb, 0, none⟩)]) ∧ w'.cell? ⟨q, 2, none⟩ = some (.slice (some ⟨pb, po, none⟩) n cc) ∧ w'.cell? ⟨pb, po + j, none⟩ = some (.pointer (some ⟨qj, 0, none⟩))) (by kernel_rfl) ?_
              generalize World.drew wc = X0 at *
              refine Z_free (i := 1) (v := ?_) rfl (by kernel_rfl) (by kernel_rfl) (by kernel_rfl) (by kernel_rfl) (fun _ _ _ h => h) (Or.inl ⟨by rfl, ?_⟩) (fun _ => held _ hb0) ?_
              rotate_left
              · (intro w' hSw; (try dsimp only at hSw); go_simp <;> (with_reducible rfl))
              try simp only [Act.put, List.setIfInBounds_toArray, List.set_cons_zero, List.set_cons_succ]
              refine Z_free (i := 5) (v := ?_) rfl (by kernel_rfl) (by kernel_rfl) (by kernel_rfl) (by kernel_rfl) (fun _ _ _ h => h) (Or.inl ⟨by rfl, ?_⟩) (fun _ => held _ hb0) ?_
              rotate_left
              · (intro w' hSw; (try dsimp only at hSw); go_simp <;> (with_reducible rfl))
              try simp only [Act.put, List.setIfInBounds_toArray, List.set_cons_zero, List.set_cons_succ]
              refine Z_take (i := 0) (v := ?_) [[0]] rfl (by kernel_rfl) (by kernel_rfl) (by kernel_rfl) (by kernel_rfl) (by kernel_rfl) (fun _ _ _ h => h) (Or.inl ⟨by rfl, ?_⟩) (held _ hb0) ?_
              rotate_left
              · (intro w' hSw; (try dsimp only at hSw); go_simp <;> (with_reducible rfl))
              try simp only [Act.put, List.setIfInBounds_toArray, List.set_cons_zero, List.set_cons_succ]
              refine Z_take (i := 2) (v := ?_) [[7, 6, 4, 3, 2]] rfl (by kernel_rfl) (by kernel_rfl) (by kernel_rfl) (by kernel_rfl) (by kernel_rfl) (fun _ _ _ h => h) (Or.inl ⟨by rfl, ?_⟩) (held _ hb0) ?_
              rotate_left
              · (intro w' hSw; (try dsimp only at hSw); go_simp <;> (with_reducible rfl))
              try simp only [Act.put, List.setIfInBounds_toArray, List.set_cons_zero, List.set_cons_succ]
              refine Z_take (i := 3) (v := ?_) [[7, 6, 4, 3]] rfl (by kernel_rfl) (by kernel_rfl) (by kernel_rfl) (by kernel_rfl) (by kernel_rfl) (fun _ _ _ h => h) (Or.inl ⟨by rfl, ?_⟩) (held _ hb0) ?_
              rotate_left
              · (intro w' hSw; (try dsimp only at hSw); go_simp <;> (with_reducible rfl))
              try simp only [Act.put, List.setIfInBounds_toArray, List.set_cons_zero, List.set_cons_succ]
              refine Z_take (i := 4) (v := ?_) [[7, 6, 4]] rfl (by kernel_rfl) (by kernel_rfl) (by kernel_rfl) (by kernel_rfl) (by kernel_rfl) (fun _ _ _ h => h) (Or.inl ⟨by rfl, ?_⟩) (held _ hb0) ?_
              rotate_left
              · (intro w' hSw; (try dsimp only at hSw); go_simp <;> (with_reducible rfl))
              try simp only [Act.put, List.setIfInBounds_toArray, List.set_cons_zero, List.set_cons_succ]
              refine Z_take (i := 6) (v := ?_) [[7, 6]] rfl (by kernel_rfl) (by kernel_rfl) (by kernel_rfl) (by kernel_rfl) (by kernel_rfl) (fun _ _ _ h => h) (Or.inl ⟨by rfl, ?_⟩) (held _ hb0) ?_
              rotate_left
              · (intro w' hSw; (try dsimp only at hSw); go_simp <;> (with_reducible rfl))
              try simp only [Act.put, List.setIfInBounds_toArray, List.set_cons_zero, List.set_cons_succ]
              refine Z_take (i := 7) (v := ?_) [[7]] rfl (by kernel_rfl) (by kernel_rfl) (by kernel_rfl) (by kernel_rfl) (by kernel_rfl) (fun _ _ _ h => h) (Or.inl ⟨by rfl, ?_⟩) (held _ hb0) ?_
              rotate_left
              · (intro w' hSw; (try dsimp only at hSw); go_simp <;> (with_reducible rfl))
              try simp only [Act.put, List.setIfInBounds_toArray, List.set_cons_zero, List.set_cons_succ]
              refine Z_one (i := 8) rfl (by kernel_rfl) (by rfl) (fun K hK => ?_)
              go_simp
              refine (HCa.out X0 hb0).mono ?_
              rintro e w7 ⟨bY, rfl, hcase⟩
              go_simp
              refine hK.out _ _ (fun h => absurd h (none_of_not (by kernel_rfl))) ?_
              clear hK K
              try simp only [Act.put, List.setIfInBounds_toArray, List.set_cons_zero, List.set_cons_succ]
              refine Z_one (i := 9) rfl (by kernel_rfl) (by rfl) (fun K hK => ?_)
              go_simp
              refine hK.out _ _ (fun h => absurd h (none_of_not (by kernel_rfl))) ?_
              clear hK K
              try simp only [Act.put, List.setIfInBounds_toArray, List.set_cons_zero, List.set_cons_succ]
              refine Z_one (i := 10) rfl (by kernel_rfl) (by rfl) (fun K hK => ?_)
              go_simp
              refine hK.out _ _ (fun h => absurd h (none_of_not (by kernel_rfl))) ?_
              clear hK K
              try simp only [Act.put, List.setIfInBounds_toArray, List.set_cons_zero, List.set_cons_succ]
              refine Z_done (by kernel_rfl) ?_ _
              rcases hcase with ⟨rfl, hJ7, hW7⟩ | ⟨rfl, ys, hp7, hJ7⟩
              · have HJ7 := Lib.hid hJ7
                have HW7 := Lib.hid hW7
                clear hJ7 hW7
                go_wp2_with fail
                go_roundw
                case rel => exact ⟨j + 1, by simp, hjn, HJ7.out, HW7.out⟩
                case measure => (simp [intOf] <;> omega)
              · have HJ7 := Lib.hid (And.intro hp7 hJ7)
                clear hJ7 hp7
                go_wp2_with fail
                go_ret
                exact .inr ⟨rfl, _, HJ7.out.1, HJ7.out.2⟩
      · obtain rfl : j = n := by omega
        have htk : ls.take j = ls := List.take_of_length_le (by have := HNn.out; have := HLe.out; omega)
        rw [htk] at HJs
        clear hJs hI htk
        go_wp2_with fail
        go_ret
        exact .inl ⟨rfl, HJs.out, HI.out⟩
end Go.Proofs.Ytlackkhkaceblaa.N
