/- TRange: joined by merge.py. -/
import Derived.Test.YtlackkhkaceblaaTWalk
import Derived.RangeFuncBound
import Derived.Laws.EntriesVeiled
import Derived.RangeFuncCalls
import Derived.RangeFuncLeaves
import Derived.RangeFuncBox
/- Range, and the iterator that it hands back. -/
namespace Go.Proofs.Ytlackkhkaceblaa.N
open Go.BigFrame Go.RowKit Go.Shelf Go.Proofs.YtlackkhkaceblaaW.PrintMore Go.Proofs.YtlackkhkaceblaaW.PrintWords
set_option linter.unusedVariables false
set_option linter.unusedSimpArgs false
theorem mkf : ∀ (fn : Fn) (first cap : Array Value) (w : World), (Instr.makeFunc fn first cap).run Try.prog w = .ok (.func fn first cap) w := fun _ _ _ _ => rfl
/-- Range: three boxes, and the function over them. -/
theorem range_tree (p : Option Addr) (lo hi : Sp) (w : World) : Calls Try.prog 20 #[.pointer p, .agg #[.int .i64 lo.br, .int .i64 lo.vol, .int .i64 lo.blk, .int .u64 lo.num], .agg #[.int .i64 hi.br, .int .i64 hi.vol, .int .i64 hi.blk, .int .u64 hi.num]] w fun e w' => ∃ xb fb tb, e = .returned (.func (.func 36) #[] #[.pointer (some ⟨tb, 0, none⟩), .pointer (some ⟨fb, 0, none⟩), .pointer (some ⟨xb, 0, none⟩)]) ∧ Below w.heap.size w w' ∧ Blk w' tb (spC hi) 46 ∧ Blk w' fb (spC lo) 46 ∧ Blk w' xb #[.pointer p] 42 := by
  have hmf := mkf
  go_enter Try.func20, Try.ntmps20
  go_wp2_with fail
  obtain ⟨W, hW, h1, h2, h3, hb⟩ := three_allocs w (.cells #[.pointer p] 42) (.cells (spC lo) 46) (.cells (spC hi) 46)
  unfold spC at hW
  rw [← hW]
  go_ret
  exact ⟨_, _, _, rfl, hb, h3, h2, h1⟩
set_option maxHeartbeats 3200000 in
set_option maxRecDepth 100000 in
/-- The iterator's contract. -/
theorem range_stops {w0 w : World} (bad : TypeId → Prop) (h1 : ¬ bad 46) (h2 : ¬ bad 66) (h3 : ¬ bad 67) (tb fb xb : Nat) (lo hi : Sp) (p : Option Addr) (l : List Ent) (ht : TreeAt w0 p l) (ha : Asc l) (hb : Below w0.heap.size w0 w)
    (bt : Blk w tb (spC hi) 46) (bf : Blk w fb (spC lo) 46) (bx : Blk w xb #[.pointer p] 42) (N : Nat) (hN : l.length ≤ N) :
    SeqStopsK Fence.wide 6 Try.prog 36 #[.pointer (some ⟨tb, 0, none⟩), .pointer (some ⟨fb, 0, none⟩), .pointer (some ⟨xb, 0, none⟩)] encEnt (RK bad w0) (fun xs => xs = selE lo hi l) (fun pre => pre <+: selE lo hi l) N w := by
  intro ln J Jx W hW hJ hJx hY h0
  refine callsIn_wide.2 ?_
  have hmf := mkf
  have HT := Lib.hid ht
  have HA := Lib.hid ha
  have HBw : Hid (Below w0.heap.size w0 W) := hb.trans (hW.mono hb.size)
  have Bt := Lib.hid (bt.below hW bt.lt)
  have Bf := Lib.hid (bf.below hW bf.lt)
  have Bx := Lib.hid (bx.below hW bx.lt)
  have HYd : Hid (∀ pre x W, J pre W → pre.length < N → YieldAt Fence.wide 0 Try.prog ln (encEnt x) W fun e W' => (e = .returned (.bool true) ∧ J (pre ++ [x]) W' ∧ RK bad w0 W W') ∨ (e = .returned (.bool false) ∧ Jx (pre ++ [x]) W')) := fun pre x W1 hj hl => yield_wide (hY pre x W1 hj hl)
  have HJ := Lib.hid hJ
  have HJ0 := Lib.hid h0
  have hsl : (selE lo hi l).length ≤ N := Nat.le_trans (List.length_filter_le _ _) hN
  have HSl := Lib.hid hsl
  clear ht ha hb bt bf bx hN hY hJ hJx h0 hW hsl
  obtain ⟨r, hr, hroot⟩ := root_tree HT.out
  have HR := Lib.hid hr
  have HRo := Lib.hid hroot
  clear hr hroot
  have hbw : Below W.heap.size W ((W.alloc (.cells #[.func (.yield ln) #[] #[]] 66)).alloc (.cells #[.func (.func 37) #[] #[.pointer (some ⟨tb, 0, none⟩), .pointer (some ⟨fb, 0, none⟩), .pointer (some ⟨W.heap.size, 0, none⟩), .pointer (some ⟨W.heap.size + 1, 0, none⟩)]] 67)) := ((Below.refl _ _).alloc (Nat.le_refl _) _).alloc (by simp) _
  have hy := (Blk.new W #[.func (.yield ln) #[] #[]] 66).alloc (.cells #[.func (.func 37) #[] #[.pointer (some ⟨tb, 0, none⟩), .pointer (some ⟨fb, 0, none⟩), .pointer (some ⟨W.heap.size, 0, none⟩), .pointer (some ⟨W.heap.size + 1, 0, none⟩)]] 67)
  have hk := Blk.new (W.alloc (.cells #[.func (.yield ln) #[] #[]] 66)) #[.func (.func 37) #[] #[.pointer (some ⟨tb, 0, none⟩), .pointer (some ⟨fb, 0, none⟩), .pointer (some ⟨W.heap.size, 0, none⟩), .pointer (some ⟨W.heap.size + 1, 0, none⟩)]] 67
  rw [World.size_alloc] at hk
  have x0 : W.cell? ⟨xb, 0, none⟩ = some (.pointer p) := (Bx.out.cell 0).trans rfl
  have lx := Bx.out.lt
  go_enter Try.func36, Try.ntmps36
  go_upto_region 3 with fail
  generalize (W.alloc (.cells #[.func (.yield ln) #[] #[]] 66)).alloc (.cells #[.func (.func 37) #[] #[.pointer (some ⟨tb, 0, none⟩), .pointer (some ⟨fb, 0, none⟩), .pointer (some ⟨W.heap.size, 0, none⟩), .pointer (some ⟨W.heap.size + 1, 0, none⟩)]] 67) = W2 at *
  have HB2 := Lib.hid (HBw.out.trans (hbw.mono HBw.out.size))
  have HI2 : Hid (WInv w0 W2 tb fb W.heap.size (W.heap.size + 1) lo hi ln) := ⟨HB2.out, Bt.out.below hbw Bt.out.lt, Bf.out.below hbw Bf.out.lt, hy, hk⟩
  have HJ2 := Lib.hid (ab_below HJ.out HJ0.out hbw)
  have x2 : W2.cell? ⟨xb, 0, none⟩ = some (.pointer p) := bel_cell hbw lx x0
  obtain ⟨yb, hyb⟩ : ∃ yb, W.heap.size = yb := ⟨_, rfl⟩
  obtain ⟨wb, hwb⟩ : ∃ wb, W.heap.size + 1 = wb := ⟨_, rfl⟩
  have w2 : W2.cell? ⟨wb, 0, none⟩ = some (.func (.func 37) #[] #[.pointer (some ⟨tb, 0, none⟩), .pointer (some ⟨fb, 0, none⟩), .pointer (some ⟨yb, 0, none⟩), .pointer (some ⟨wb, 0, none⟩)]) := by
    have := (hk.cell 0).trans rfl
    rw [hwb, hyb] at this
    exact this
  rw [hwb, hyb] at HI2
  rw [hwb, hyb]
  clear hbw hy hk hyb hwb x0 lx
  go_wp2_with fail
  refine (HRo.out W2 HB2.out).mono ?_
  rintro e w3 ⟨rfl, rfl⟩
  rcases HR.out with ⟨rfl, rfl⟩ | ⟨q, h, n, rfl, hnd, h0, h2', h4⟩
  · have hne : ∀ W, (binOp .neq 68 (.pointer none) (.pointer none)).run Try.prog W = .ok (.bool false) W := fun W => run_neq_pointer_nil W _ none (by rfl)
    go_wp2_with fail
    go_end0
    exact ⟨⟨_, rfl⟩, .inl ⟨[], rfl, HJ2.out⟩⟩
  · have HCa := Lib.hid (walk_nd bad h1 h2 h3 tb fb yb wb lo hi ln N W.heap.size J Jx HJ.out HYd.out h hnd h4 h0 HA.out W2 [] HI2.out HJ2.out (by simpa using HSl.out))
    clear hnd h0 h2' h4
    go_wp2_with fail
    refine HCa.out.mono ?_
    rintro e w4 (⟨rfl, hJ4, _⟩ | ⟨rfl, ys, hp, hJ4⟩)
    · have HJ4 := Lib.hid hJ4
      clear hJ4
      go_wp2_with fail
      go_end0
      exact ⟨⟨_, rfl⟩, .inl ⟨_, rfl, by simpa using HJ4.out⟩⟩
    · have HJ4 := Lib.hid (And.intro hp hJ4)
      clear hJ4 hp
      go_wp2_with fail
      go_end0
      exact ⟨⟨_, rfl⟩, .inr ⟨ys, HJ4.out.1, by simpa using HJ4.out.2⟩⟩
end Go.Proofs.Ytlackkhkaceblaa.N
