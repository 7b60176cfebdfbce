/- Find on a node with kids: the last key that does not stand behind the spot. -/
import Derived.Test.YtainljbkejafcaaNKids
import Derived.RangeFuncNested
import Derived.RangeFuncBound
import Derived.RangeFuncCalls
import Derived.RangeFuncLeaves
import Derived.RangeFuncBox
import Derived.Shelf.Abstract
import Derived.Shelf.RegionOpen
import Derived.OwnWalkIn
import Derived.TacticsInMore
import Derived.LoopNIn
import Derived.LoopIn
import Derived.Outline
namespace Go.Proofs.Ytainljbkejafcaa.N
open Go.RowKit Go.Shelf
set_option linter.unusedVariables false
set_option linter.unusedSimpArgs false
attribute [local go_sem] Oper.semAt_some
def sp0 : Sp := ⟨0, 0, 0, 0⟩
/-- What Backward hands over in its j-th round. -/
def backOf (ks : List Sp) (j : Nat) : Nat × Sp := (ks.length - 1 - j, (ks[ks.length - 1 - j]?).getD sp0)
def upto (ks : List Sp) (n : Nat) : List (Nat × Sp) := (List.range n).map (backOf ks)
theorem upto_succ (ks : List Sp) (n : Nat) : upto ks (n + 1) = upto ks n ++ [backOf ks n] := by simp [upto, List.range_succ]
theorem upto_length (ks : List Sp) (n : Nat) : (upto ks n).length = n := by simp [upto]
def encBack (x : Nat × Sp) : Array Value := #[.int .i64 (x.1 : Int), .agg #[.int .i64 x.2.br, .int .i64 x.2.vol, .int .i64 x.2.blk, .int .u64 x.2.num]]
set_option maxRecDepth 100000 in
set_option maxHeartbeats 2000000 in
theorem back1_in (F : Fence) (n : Nat) (hf : F.fn 79) (hro : F.round = none) (hn : 1 ≤ n) (l Bs n₀ b off cap : Nat) (ks : List Sp) (hk : ks.length ≤ 1000) (hb : b < n₀) (hBn : Bs < n₀) (J Jx : List (Nat × Sp) → World → Prop)
    (hY : ∀ pre x W, J pre W → pre.length < ks.length → YieldAt F (n - 1) Try.prog l (encBack x) W fun e W' =>
      (e = .returned (.bool true) ∧ J (pre ++ [x]) W' ∧ Below n₀ W W') ∨ (e = .returned (.bool false) ∧ Jx (pre ++ [x]) W'))
    (W : World) (hBs : W.cell? ⟨Bs, 0, none⟩ = some (.slice (some ⟨b, off, none⟩) ks.length cap)) (hc : ∀ j (h : j < ks.length), SpAt W b (off + j * 4) ks[j]) (h0 : J [] W) :
    CallsIn F n Try.prog 79 #[.func (.yield l) #[] #[], .pointer (some ⟨Bs, 0, none⟩)] W fun e W' => (∃ v, e = .returned v) ∧
      ((∃ ys, ys = upto ks ks.length ∧ J ys W') ∨ (∃ pre, (∃ m, m ≤ ks.length ∧ pre = upto ks m) ∧ Jx pre W')) := by
  have HC := Lib.hid hc
  clear hc
  obtain ⟨N, hN⟩ : ∃ N, ks.length = N := ⟨_, rfl⟩
  rw [hN] at hBs hY hk ⊢
  have HN := Lib.hid hN
  clear hN
  refine callsIn_of_wp Try.func79 rfl hf ?_ hro
  simp only [Try.ntmps79, List.size_toArray, List.length_cons, List.length_nil, Nat.reduceAdd, Nat.reduceSub, Array.replicate_succ, Array.replicate_zero, List.push_toArray, List.append_toArray, List.nil_append, List.cons_append]
  gi_wp2
  gi_loopw [3] (fun i wr => ∃ m : Nat, m ≤ N ∧ i = .int .i64 ((m : Int) - 1) ∧ J (upto ks (N - m)) wr ∧ Below n₀ W wr)
    (fun i _ => (intOf i + 1).toNat)
  case atStart => exact ⟨N, Nat.le_refl _, by first | rfl | go_num, by rw [Nat.sub_self]; exact h0, Below.refl _ _⟩
  case round =>
    obtain ⟨m, hm, rfl, hJs, hnx⟩ := hrel
    have hBs' := (hnx.cell (p := ⟨Bs, 0, none⟩) hBn).trans hBs
    cases m with
    | zero =>
      gi_wp2
      go_end0
      exact ⟨⟨_, rfl⟩, .inl ⟨_, rfl, hJs⟩⟩
    | succ j =>
      have ej : ((j + 1 : Nat) : Int) - 1 = (j : Int) := by omega
      rw [ej]
      clear ej
      have hjl : j < ks.length := by rw [HN.out]; omega
      obtain ⟨x0, x1, x2, x3⟩ := HC.out j hjl
      have y0 := (hnx.cell (p := ⟨b, off + j * 4, none⟩) hb).trans x0
      have y1 := (hnx.cell (p := ⟨b, off + j * 4 + 1, none⟩) hb).trans x1
      have y2 := (hnx.cell (p := ⟨b, off + j * 4 + 2, none⟩) hb).trans x2
      have y3 := (hnx.cell (p := ⟨b, off + j * 4 + 3, none⟩) hb).trans x3
      clear x0 x1 x2 x3
      have hbk : Hid (backOf ks (N - (j + 1)) = (j, ks[j])) := by
        have e : ks.length - 1 - (N - (j + 1)) = j := by rw [HN.out]; omega
        show backOf ks (N - (j + 1)) = (j, ks[j])
        unfold backOf
        rw [e]
        simp [List.getElem?_eq_getElem hjl]
      obtain ⟨fn, tmps, assign, body, hy, hR⟩ := hY _ (j, ks[j]) wr hJs (by rw [upto_length]; omega)
      unfold encBack at hy
      dsimp only at hy
      generalize ks[j] = x at *
      have e1 : (0 : Int) ≤ (j : Int) := by omega
      have e2 : (j : Int) < (N : Int) := by omega
      gi_wp2
      refine hR.mono ?_
      rintro e W3 (⟨rfl, hJ3, hk3⟩ | ⟨rfl, hJx3⟩)
      · gi_wp2
        go_roundw
        case rel => exact ⟨j, by omega, by first | rfl | go_num, by rw [show N - j = N - (j + 1) + 1 by omega, upto_succ, hbk.out]; exact hJ3, hnx.trans hk3⟩
        case measure => (simp [intOf] <;> omega)
      · gi_wp2
        refine bodyPost_ret (results_none rfl _ _ _) rfl ?_
        exact ⟨⟨_, rfl⟩, .inr ⟨_, ⟨N - j, by omega, by rw [show N - j = N - (j + 1) + 1 by omega, upto_succ, hbk.out]⟩, hJx3⟩⟩
theorem back_stops (F : Fence) (n : Nat) (hf : F.fn 79) (hro : F.round = none) (hn : 1 ≤ n) (Bs n₀ b off cap : Nat) (ks : List Sp) (hk : ks.length ≤ 1000) (w : World) (hb : b < n₀) (hBs : Bs < n₀) (hn₀ : n₀ ≤ w.heap.size)
    (hc : w.cell? ⟨Bs, 0, none⟩ = some (.slice (some ⟨b, off, none⟩) ks.length cap)) (hI : ∀ j (h : j < ks.length), SpAt w b (off + j * 4) ks[j]) :
    SeqStopsK F n Try.prog 79 #[.pointer (some ⟨Bs, 0, none⟩)] encBack (Below n₀) (fun ys => ys = upto ks ks.length)
      (fun pre => ∃ m, m ≤ ks.length ∧ pre = upto ks m) ks.length w := fun l J Jx W hW _ _ hY h0 =>
  back1_in F n hf hro hn l Bs n₀ b off cap ks hk hb hBs J Jx hY W ((hW.cell (p := ⟨Bs, 0, none⟩) (by show Bs < _; omega)).trans hc) (fun j hj => (hI j hj).below hW (by omega)) h0
set_option maxHeartbeats 1000000 in
theorem back_in (F : Fence) (n : Nat) (h6 : F.fn 57) (hro : F.round = none) (a : Option Addr) (len cap : Nat) (w : World) :
    CallsIn F n Try.prog 57 #[.slice a len cap] w fun e w' => e = .returned (.func (.func 79) #[] #[.pointer (some ⟨w.heap.size, 0, none⟩)]) ∧ w' = w.alloc (.cells #[.slice a len cap] 30) := by
  refine callsIn_of_wp Try.func57 rfl h6 ?_ hro
  simp only [Try.ntmps57, List.size_toArray, List.length_cons, List.length_nil, Nat.reduceAdd, Nat.reduceSub, Array.replicate_succ, Array.replicate_zero, List.push_toArray, List.append_toArray, List.nil_append, List.cons_append]
  gi_wp2
  go_ret
  exact ⟨rfl, rfl⟩
/-- Where Find stands among the keys of a node with kids. -/
def FindI (k : Sp) (ks : List Sp) (i : Nat) (b : Bool) : Prop :=
  (i < ks.length ∧ (∀ h : i < ks.length, ordS ks[i] k ≤ 0 ∧ b = (ordS ks[i] k == 0)) ∧ ∀ j (h : j < ks.length), i < j → 0 < ordS ks[j] k) ∨ (i = 0 ∧ b = false ∧ ∀ j (h : j < ks.length), 0 < ordS ks[j] k)
def FindPost (w : World) (k : Sp) (ks : List Sp) (e : Ending) (w' : World) : Prop := ∃ i b, e = .returned (.tuple #[.int .i64 (i : Nat), .bool b]) ∧ FindI k ks i b ∧ Below w.heap.size w w'
/-- A block of cells lies as it lay. -/
def Blk (W : World) (b : Nat) (cs : Array Value) (T : TypeId) : Prop := W.heap[b]? = some (.cells cs T (0, 0))
theorem Blk.lt {W : World} {b : Nat} {cs : Array Value} {T : TypeId} (h : Blk W b cs T) : b < W.heap.size := (Array.getElem?_eq_some_iff.1 h).1
theorem Blk.cell {W : World} {b : Nat} {cs : Array Value} {T : TypeId} (h : Blk W b cs T) (o : Nat) : W.cell? ⟨b, o, none⟩ = cs[o]? := by
  simp only [World.cell?, show W.heap[b]? = some (.cells cs T (0, 0)) from h]; rfl
theorem Blk.frozen {W : World} {b : Nat} {cs : Array Value} {T : TypeId} (h : Blk W b cs T) (o : Nat) : W.frozen? ⟨b, o, none⟩ = false := by
  simp only [World.frozen?, show W.heap[b]? = some (.cells cs T (0, 0)) from h]; simp
theorem Blk.new (W : World) (cs : Array Value) (T : TypeId) : Blk (W.alloc (.cells cs T)) W.heap.size cs T := heap_alloc_new W _
theorem Blk.alloc {W : World} {b : Nat} {cs : Array Value} {T : TypeId} (h : Blk W b cs T) (o : Obj) : Blk (W.alloc o) b cs T := (Below.heap_alloc W o b h.lt).trans h
theorem Blk.below {B : Nat} {W W' : World} {b : Nat} {cs : Array Value} {T : TypeId} (h : Blk W b cs T) (hb : Below B W W') (hlt : b < B) : Blk W' b cs T := (hb.block b hlt).trans h
theorem Blk.other {W : World} {b c o : Nat} {cs : Array Value} {T : TypeId} (h : Blk W b cs T) (hne : b ≠ c) (v : Value) : Blk (W.setCell ⟨c, o, none⟩ v) b cs T := (Below.heap_setCell W ⟨c, o, none⟩ v b hne).trans h
theorem Blk.set {W : World} {b o : Nat} {cs : Array Value} {T : TypeId} (h : Blk W b cs T) (v : Value) : Blk (W.setCell ⟨b, o, none⟩ v) b (cs.setIfInBounds o v) T := set_at h
theorem blk_own {β : Type} (b : Nat) (cs : Array Value) (T : TypeId) : Own (fun (_ : β) W => Blk W b cs T) := fun s A B row hs hg hr => (grownBy_keeps_cells hg hr hs rfl).trans hs
theorem Blk.kept {W W' : World} {row : Option Nat} {b : Nat} {cs : Array Value} {T : TypeId} (h : Blk W b cs T) (hg : W.grownBy W' row) (hrow : ∀ r, row = some r → ∃ o : Obj, W.heap[r]? = some o ∧ o.isCells = false) : Blk W' b cs T := (grownBy_keeps_cells hg hrow h rfl).trans h
def FRel (w : World) (z : Nat) (k : Sp) (pre : List (Nat × Sp)) (W : World) : Prop := (((∀ x ∈ pre, 0 < ordS x.2 k) ∧ Blk W w.heap.size #[.int .i64 k.br, .int .i64 k.vol, .int .i64 k.blk, .int .u64 k.num] 26) ∧ Blk W (w.heap.size + 1) #[.int .i64 0] 3 ∧ Blk W (w.heap.size + 1 + 1) #[.bool false] 4) ∧ Below w.heap.size w W ∧ z ≤ W.heap.size
def FStop (w : World) (k : Sp) (c : Code) (pre : List (Nat × Sp)) (W : World) : Prop := ((c = .ret ∧ ∃ ini last, pre = ini ++ [last] ∧ (∀ x ∈ ini, 0 < ordS x.2 k) ∧ ordS last.2 k ≤ 0 ∧ Blk W (w.heap.size + 1) #[.int .i64 (last.1 : Int)] 3 ∧ Blk W (w.heap.size + 1 + 1) #[.bool (ordS last.2 k == 0)] 4)) ∧ Below w.heap.size w W
theorem keeps_of_below {X Y : World} (h : Below X.heap.size X Y) : KeepsOthers X Y := ⟨h.size, fun j o hj _ => (h.block j (Array.getElem?_eq_some_iff.1 hj).1).trans hj⟩
theorem upto_mem {ks : List Sp} {n : Nat} {x : Nat × Sp} (h : x ∈ upto ks n) : ∃ j, j < n ∧ x = backOf ks j := by
  unfold upto at h
  obtain ⟨j, hj, rfl⟩ := List.mem_map.1 h
  exact ⟨j, List.mem_range.1 hj, rfl⟩
theorem backOf_of {ks : List Sp} {j : Nat} (h : j < ks.length) : backOf ks (ks.length - 1 - j) = (j, ks[j]) := by
  unfold backOf
  have e : ks.length - 1 - (ks.length - 1 - j) = j := by omega
  rw [e]
  simp [List.getElem?_eq_getElem h]
theorem mem_upto {ks : List Sp} {n j : Nat} (h : j < ks.length) (hn : ks.length - 1 - j < n) : (j, ks[j]) ∈ upto ks n := by
  unfold upto
  exact List.mem_map.2 ⟨ks.length - 1 - j, List.mem_range.2 hn, backOf_of h⟩
/-- All came, and none stands ahead. -/
theorem findI_none {k : Sp} {ks : List Sp} (h : ∀ x ∈ upto ks ks.length, 0 < ordS x.2 k) : FindI k ks 0 false :=
  .inr ⟨rfl, rfl, fun j hj => h _ (mem_upto hj (by omega))⟩
theorem findI_some {k : Sp} {ks : List Sp} {m : Nat} {ini : List (Nat × Sp)} {last : Nat × Sp} (hm : m ≤ ks.length) (e : upto ks m = ini ++ [last]) (hi : ∀ x ∈ ini, 0 < ordS x.2 k) (hl : ordS last.2 k ≤ 0) :
    FindI k ks last.1 (ordS last.2 k == 0) := by
  cases m with
  | zero => simp [upto] at e
  | succ n =>
    rw [upto_succ] at e
    obtain ⟨rfl, e5⟩ := List.append_inj' e rfl
    obtain rfl : backOf ks n = last := by simpa using e5
    have hn : ks.length - 1 - n < ks.length := by omega
    have eb : backOf ks n = (ks.length - 1 - n, ks[ks.length - 1 - n]) := by
      unfold backOf
      simp [List.getElem?_eq_getElem hn]
    rw [eb] at hl ⊢
    refine .inl ⟨hn, fun _ => ⟨hl, rfl⟩, fun j hj hlt => hi _ (mem_upto hj ?_)⟩
    simp only at hlt
    omega
set_option maxHeartbeats 3200000 in
set_option maxRecDepth 100000 in
theorem find_inner {w : World} {p : Nat} {ks : List Sp} {qs : List Nat} (h : Inner w p ks qs) (k : Sp) (hk : ks.length ≤ 1000) :
    Calls Try.prog 23 #[.pointer (some ⟨p, 0, none⟩), .agg #[.int .i64 k.br, .int .i64 k.vol, .int .i64 k.blk, .int .u64 k.num]] w (FindPost w k ks) := by
  have HI := Lib.hid h
  obtain ⟨A, ca, plc, plt, hs, hca, hcm⟩ := h.keysOf
  have h0 : 0 < ks.length := by obtain ⟨_, _, _, _, h⟩ := h; have := h.len; have := h.pos; omega
  obtain ⟨b, off, rfl, hlt, hcs⟩ := hs h0
  have HC := Lib.hid hcs
  have HM := Lib.hid (And.intro hca hcm)
  clear hs hcs h hca hcm
  have HO := fun W => Lib.hid (fun x => order_at' x k W)
  refine (callsIn_wide (n := 6)).1 ?_
  have hro : Fence.wide.round = none := rfl
  refine callsIn_of_wp_marks Try.func23 rfl trivial ?_ hro
  simp only [Try.ntmps23, List.size_toArray, List.length_cons, List.length_nil, Nat.reduceAdd, Nat.reduceSub, Array.replicate_succ, Array.replicate_zero, List.push_toArray, List.append_toArray, List.nil_append, List.cons_append]
  gi_wp2_with fail
  obtain ⟨W, hW, h1, h2, h3, hb⟩ := three_allocs w (.cells #[.int .i64 k.br, .int .i64 k.vol, .int .i64 k.blk, .int .u64 k.num] 26) (.cells #[.int .i64 0] 3) (.cells #[.bool false] 4)
  rw [← hW]
  clear hW
  refine ⟨trivial, (callsIn_wide.2 (leaf_no (HI.out.below hb))).mono ?_⟩
  rintro e w2 ⟨rfl, rfl⟩
  have c0 := (hb.cell (p := ⟨p, 0, none⟩) plt).trans plc
  gi_wp2_with fail
  refine ⟨trivial, (back_in _ _ trivial hro _ _ _ _).mono ?_⟩
  rintro e w2 ⟨rfl, rfl⟩
  gi_wp2_with fail
  have hsz := hb.size
  have bS := Blk.new W #[.slice (some ⟨b, off, none⟩) ks.length ca] 30
  have hb4 : Below w.heap.size w (W.alloc (.cells #[.slice (some ⟨b, off, none⟩) ks.length ca] 30)) := hb.alloc hsz _
  have b1 : Blk (W.alloc (.cells #[.slice (some ⟨b, off, none⟩) ks.length ca] 30)) w.heap.size #[.int .i64 k.br, .int .i64 k.vol, .int .i64 k.blk, .int .u64 k.num] 26 := Blk.alloc h1 _
  have b2 : Blk (W.alloc (.cells #[.slice (some ⟨b, off, none⟩) ks.length ca] 30)) (w.heap.size + 1) #[.int .i64 0] 3 := Blk.alloc h2 _
  have b3 : Blk (W.alloc (.cells #[.slice (some ⟨b, off, none⟩) ks.length ca] 30)) (w.heap.size + 1 + 1) #[.bool false] 4 := Blk.alloc h3 _
  have l3 : w.heap.size + 1 + 1 < W.heap.size := (Array.getElem?_eq_some_iff.1 h3).1
  have hs4 : W.heap.size < (W.alloc (.cells #[.slice (some ⟨b, off, none⟩) ks.length ca] 30)).heap.size := by simp
  generalize W.alloc (.cells #[.slice (some ⟨b, off, none⟩) ks.length ca] 30) = W0 at *
  refine wpIn_rangeFunc_ownH hro (by omega) (gf := 79) (lb := #[.pointer (some ⟨W.heap.size, 0, none⟩)]) rfl trivial (enters_of Try.func79 (by kernel_rfl) rfl)
    (back_stops Fence.wide _ trivial hro (by omega) W.heap.size W0.heap.size b off ca ks hk W0 (by omega) hs4 (Nat.le_refl _) (bS.cell 0) (fun j hj => (HC.out j hj).below hb4 hlt)) belowK_t (belowK_b (Nat.le_refl _)) (Below.refl _ _) (fun _ => rfl)
    (FRel w W0.heap.size k) (FStop w k)
    (OwnFrom.and (OwnFrom.and (Own.from (fun s A B row hs hg hr => ⟨hs.1, hs.2.kept hg hr⟩) _) (Own.from (fun s A B row hs hg hr => ⟨hs.1.kept hg hr, hs.2.kept hg hr⟩) _)) (OwnFrom.and (ownFrom_below (Nat.le_refl _) (by omega)) (Own.from (fun s A B row hs hg hr => Nat.le_trans hs hg.size) _)))
    (fun c => OwnFrom.and (Own.from (fun s A B row hs hg hr => by obtain ⟨hc, ini, last, e1, e2, e3, e4, e5⟩ := hs; exact ⟨hc, ini, last, e1, e2, e3, e4.kept hg hr, e5.kept hg hr⟩) _) (ownFrom_below (Nat.le_refl _) (by omega)))
    ⟨⟨⟨by simp, b1⟩, b2, b3⟩, hb4, Nat.le_refl _⟩
    (fun x a' X => ∃ Bx, W0.heap.size ≤ Bx ∧ Blk X Bx #[.int .i64 x.2.br, .int .i64 x.2.vol, .int .i64 x.2.blk, .int .u64 x.2.num] 26 ∧ a' = { tmps := #[.pointer (some ⟨p, 0, none⟩), .agg #[.int .i64 k.br, .int .i64 k.vol, .int .i64 k.blk, .int .u64 k.num], undef, .pointer (some ⟨w.heap.size, 0, none⟩), .pointer (some ⟨w.heap.size + 1, 0, none⟩), .pointer (some ⟨w.heap.size + 1 + 1, 0, none⟩), undef, undef, undef, .int .i64 (x.1 : Int), .pointer (some ⟨Bx, 0, none⟩), undef, .pointer (some ⟨p, 0, none⟩), .bool false, .pointer (some ⟨p, 0, none⟩), .bool false, undef, undef, undef, undef, undef, undef, undef, undef, undef, undef, undef, undef, undef, undef, undef, undef, undef, undef, undef, undef, undef, undef, undef, undef, .pointer (some ⟨p, 0, none⟩), .pointer (some ⟨p, 0, none⟩), .pointer (some ⟨p, 0, none⟩), .slice (some ⟨b, off, none⟩) ks.length ca, .func (.func 79) #[] #[.pointer (some ⟨W.heap.size, 0, none⟩)], .int .i64 (x.1 : Int), .agg #[.int .i64 x.2.br, .int .i64 x.2.vol, .int .i64 x.2.blk, .int .u64 x.2.num], undef, undef, undef, undef, undef, undef, undef, undef], defers := [] })
    (fun x a' _ X Y row hs hg hr => by obtain ⟨Bx, h1, h2, h3⟩ := hs; exact ⟨Bx, h1, h2.kept hg (fun r e => (hr r e).2), h3⟩)
    ?assign ?body ?done ?stop
  case assign =>
    rintro l pre x X K ⟨⟨⟨r1, r2⟩, r3, r4⟩, hB, hz⟩ hK
    have zX := hB.size
    unfold encBack
    gi_wp2
    refine hK _ _ (KeepsFrom.trans ((KeepsOthers.alloc X _).from _) (KeepsFrom.refl _ _)) ((Below.refl _ X).alloc hz _) ⟨⟨⟨r1, r2.alloc _⟩, r3.alloc _, r4.alloc _⟩, hB.alloc zX _, by simp; omega⟩ ⟨X.heap.size, hz, Blk.new X _ _, rfl⟩
  case body =>
    rintro l pre x a' X hl ⟨r, hr⟩ ⟨⟨⟨r1, r2⟩, r3, r4⟩, hB, hz⟩ ⟨Bx, hBx, bX, rfl⟩ hlt
    have k0 := r2.cell 0
    have k1 := r2.cell 1
    have k2 := r2.cell 2
    have k3 := r2.cell 3
    have x0 := bX.cell 0
    have x1 := bX.cell 1
    have x2 := bX.cell 2
    have x3 := bX.cell 3
    have zx := bX.lt
    have zk := r2.lt
    gi_wp2_with fail
    refine ⟨trivial, (CallsIn.inRound l (callsIn_wide.2 (order_at' x.2 k X))).mono ?_⟩
    rintro e w3 ⟨rfl, hb3⟩
    have z3 := hb3.size
    have i3 := r3.below hb3 r3.lt
    have f3 := r4.below hb3 r4.lt
    have B3 : Below w.heap.size w w3 := hB.trans (hb3.mono hB.size)
    have i0 := i3.cell 0
    have i1 := i3.frozen 0
    have f0 := f3.cell 0
    have f1 := f3.frozen 0
    have hz3 : W0.heap.size ≤ w3.heap.size := Nat.le_trans hz z3
    by_cases d : ordS x.2 k ≤ 0
    · have D : Hid (ordS x.2 k ≤ 0) := d
      have d' : decide (ordS x.2 k ≤ 0) = true := by simpa using d
      clear d
      generalize hgc : ordS x.2 k = c at *
      have HG := Lib.hid hgc
      clear hgc
      gi_wp2_with fail
      refine ⟨((keeps_of_below hb3).trans ((KeepsOthers.setCell _ _ _).trans (KeepsOthers.setCell _ _ _))).from _, ⟨rfl, pre, x, rfl, r1, by rw [HG.out]; exact D.out, ?_, ?_⟩, (B3.setCell (p := ⟨w.heap.size + 1, 0, none⟩) (by simp) _).setCell (p := ⟨w.heap.size + 1 + 1, 0, none⟩) (by simp; omega) _⟩
      · exact (i3.set _).other (by omega) _
      · rw [HG.out]; exact (f3.other (by omega) _).set _
    · have D : Hid (0 < ordS x.2 k) := by show 0 < _; omega
      have d' : decide (ordS x.2 k ≤ 0) = false := by simpa using d
      clear d
      have k3' := r2.below hb3 r2.lt
      gi_wp2_with fail
      exact ⟨(keeps_of_below hb3).from _, hb3.mono hz, ⟨⟨fun y hy => by
        rcases List.mem_append.1 hy with hy | hy
        · exact r1 y hy
        · simp at hy; subst hy; exact D.out, k3'⟩, i3, f3⟩, B3, hz3⟩
  case done =>
    rintro D ys X hD rfl ⟨⟨⟨r1, r2⟩, r3, r4⟩, hB, hz⟩ hK
    have i0 := r3.cell 0
    have i1 := r3.frozen 0
    have f0 := r4.cell 0
    have f1 := r4.frozen 0
    gi_wp2_with fail
    have hK' := ((KeepsOthers.setCell X ⟨w.heap.size + 1, 0, none⟩ (.int .i64 0)).trans (KeepsOthers.setCell _ ⟨w.heap.size + 1 + 1, 0, none⟩ (.bool false))).same D _ hK rfl
    have s3 := ((r3.set (o := 0) (.int .i64 0)).other (c := w.heap.size + 1 + 1) (o := 0) (by omega) (.bool false))
    have s4 := ((r4.other (c := w.heap.size + 1) (o := 0) (by omega) (.int .i64 0)).set (o := 0) (.bool false))
    have hB2 := (hB.setCell (p := ⟨w.heap.size + 1, 0, none⟩) (by simp) (.int .i64 0)).setCell (p := ⟨w.heap.size + 1 + 1, 0, none⟩) (by simp; omega) (.bool false)
    generalize (X.setCell ⟨w.heap.size + 1, 0, none⟩ (.int .i64 0)).setCell ⟨w.heap.size + 1 + 1, 0, none⟩ (.bool false) = Y at *
    refine ⟨by simp, .inl ⟨_, _, rfl, run_takeDeferred hK', ?_⟩⟩
    have g3 := (s3.kept (grownBy_putObj' Y D (.deferred none)) (fun r e => by cases e; exact ⟨_, hK', rfl⟩)).cell 0
    have g4 := (s4.kept (grownBy_putObj' Y D (.deferred none)) (fun r e => by cases e; exact ⟨_, hK', rfl⟩)).cell 0
    refine ⟨.tuple #[.int .i64 0, .bool false], ?_, 0, false, rfl, findI_none r1, hB2.trans (belowK_b (w := w) (Nat.le_refl _) _ D _ _ (by omega) hK' rfl rfl)⟩
    rw [results_cell_cell rfl]
    simp [go_sem, g3, g4, Result.andThen]
  case stop =>
    rintro D c pre X hD ⟨m, hm, rfl⟩ ⟨⟨rfl, ini, last, e1, e2, e3, r3, r4⟩, hB⟩ hK
    have hF := findI_some hm e1 e2 e3
    gi_wp2_with fail
    refine ⟨by simp, .inl ⟨_, _, rfl, run_takeDeferred hK, ?_⟩⟩
    have g3 := (r3.kept (grownBy_putObj' X D (.deferred none)) (fun r e => by cases e; exact ⟨_, hK, rfl⟩)).cell 0
    have g4 := (r4.kept (grownBy_putObj' X D (.deferred none)) (fun r e => by cases e; exact ⟨_, hK, rfl⟩)).cell 0
    refine ⟨.tuple #[.int .i64 last.1, .bool (ordS last.2 k == 0)], ?_, last.1, _, rfl, hF, hB.trans (belowK_b (w := w) (Nat.le_refl _) _ D _ _ (by omega) hK rfl rfl)⟩
    rw [results_cell_cell rfl]
    simp [go_sem, g3, g4, Result.andThen]
end Go.Proofs.Ytainljbkejafcaa.N
