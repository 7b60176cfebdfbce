/- Spots, and the walks of order, Before and the document's Before. -/
import Derived.Test.YtainljbkejafcaaProg
import Derived.Tactics
import Derived.Tactics2
import Derived.WalkKit
import Derived.WalkSpells
import Derived.LoopTactic
import Derived.OwnWalk
import Derived.Laws.Pointers
import Derived.Laws.OwnMore
import Derived.Laws.ResultCell
import Derived.Maps.AppendAt
import Derived.KernelRfl
import Derived.Below
import Derived.Lib.Hide
import Derived.IntWalk
import Derived.Deep.RegionHeld3
import Derived.Deep.QuietTactic
import Derived.Deep.DeepCutAuto
import Derived.BigQuiet
import Derived.Deep.RegionLaw
namespace Go.Proofs.Ytainljbkejafcaa.N
open Go.RowKit
set_option linter.unusedVariables false
set_option linter.unusedSimpArgs false
theorem bcell {W w1 : World} (hb : Below W.heap.size W w1) : (∀ b o, b < W.heap.size → w1.cell? ⟨b, o, none⟩ = W.cell? ⟨b, o, none⟩) ∧ (∀ b o, b < W.heap.size → w1.frozen? ⟨b, o, none⟩ = W.frozen? ⟨b, o, none⟩) :=
  ⟨fun b o h => hb.cell (p := ⟨b, o, none⟩) h, fun b o h => hb.frozen (p := ⟨b, o, none⟩) h⟩
theorem bel_drewN (B : Nat) (w : World) {n : Nat} : Below B w (w.drewN n) := ⟨rfl, rfl, rfl, Nat.le_refl _, fun _ _ => rfl⟩
theorem bel_undrew {w w' : World} (h : Below w.drew.heap.size w.drew w') : Below w.heap.size w w' := (bel_drewN w.heap.size w (n := 1)).trans h
theorem set_at {w : World} {g o : Nat} {c : Array Value} {T : TypeId} {fr : Nat × Nat} {v : Value} (h : w.heap[g]? = some (.cells c T fr)) : (w.setCell ⟨g, o, none⟩ v).heap[g]? = some (.cells (c.setIfInBounds o v) T fr) := by
  simp only [World.setCell, Array.getElem?_modify, if_true]
  rw [h]
  rfl
/-- A spot. -/
structure Sp where
  br : Int
  vol : Int
  blk : Int
  num : Int
deriving DecidableEq
def Sp.v (s : Sp) : Value := .agg #[.int .i64 s.br, .int .i64 s.vol, .int .i64 s.blk, .int .u64 s.num]
def Sp.cs (s : Sp) : List Value := [.int .i64 s.br, .int .i64 s.vol, .int .i64 s.blk, .int .u64 s.num]
def cmp3 (x y : Int) : Int := if x < y then -1 else if y < x then 1 else 0
/-- The order of two spots: below, at, above nought. -/
def ordS (a b : Sp) : Int := if cmp3 a.br b.br ≠ 0 then cmp3 a.br b.br else if cmp3 a.vol b.vol ≠ 0 then cmp3 a.vol b.vol else if cmp3 a.blk b.blk ≠ 0 then cmp3 a.blk b.blk else cmp3 a.num b.num
theorem compI_at (x y : Int) (w : World) : Calls Try.prog 77 #[.int .i64 x, .int .i64 y] w fun e w' => e = .returned (.int .i64 (cmp3 x y)) ∧ w = w' := by
  unfold cmp3
  by_cases c : x < y
  · rw [if_pos c]
    go_enter Try.func77, Try.ntmps77
    go_wp2
    go_ret
    exact ⟨rfl, rfl⟩
  · rw [if_neg c]
    by_cases d : y < x
    · rw [if_pos d]
      go_enter Try.func77, Try.ntmps77
      go_wp2
      go_ret
      exact ⟨rfl, rfl⟩
    · rw [if_neg d]
      go_enter Try.func77, Try.ntmps77
      go_wp2
      go_ret
      exact ⟨rfl, rfl⟩
theorem compU_at (x y : Int) (w : World) : Calls Try.prog 78 #[.int .u64 x, .int .u64 y] w fun e w' => e = .returned (.int .i64 (cmp3 x y)) ∧ w = w' := by
  unfold cmp3
  by_cases c : x < y
  · rw [if_pos c]
    go_enter Try.func78, Try.ntmps78
    go_wp2
    go_ret
    exact ⟨rfl, rfl⟩
  · rw [if_neg c]
    by_cases d : y < x
    · rw [if_pos d]
      go_enter Try.func78, Try.ntmps78
      go_wp2
      go_ret
      exact ⟨rfl, rfl⟩
    · rw [if_neg d]
      go_enter Try.func78, Try.ntmps78
      go_wp2
      go_ret
      exact ⟨rfl, rfl⟩
def orL : List Int → Int
  | [] => 0
  | x :: xs => if x = 0 then orL xs else x
theorem orL_drop (l : List Int) (n : Nat) (h : n < l.length) : orL (l.drop n) = if l[n] = 0 then orL (l.drop (n + 1)) else l[n] := by
  rw [List.drop_eq_getElem_cons h]; rfl
theorem or_at (g : Nat) (l : List Int) (w : World) (hl : l.length ≤ 100) (hg : ∀ j (h : j < l.length), w.cell? ⟨g, j, none⟩ = some (.int .i64 l[j])) :
    Calls Try.prog 76 #[.slice (some ⟨g, 0, none⟩) l.length l.length] w fun e w' => e = .returned (.int .i64 (orL l)) ∧ w = w' := by
  have HG := Lib.hid hg
  clear hg
  go_enter Try.func76, Try.ntmps76
  go_wp2_with fail
  go_loopw [8] (fun i wr => w = wr ∧ ∃ n : Nat, i = .int .i64 n ∧ n ≤ l.length ∧ orL l = orL (l.drop n)) (fun i _ => (l.length - intOf i).toNat)
  case atStart => exact ⟨rfl, 0, rfl, by omega, rfl⟩
  case round =>
    obtain ⟨rfl, n, rfl, hn, ho⟩ := hrel
    by_cases cc : n < l.length
    · have y := HG.out n cc
      have HO := Lib.hid (ho.trans (orL_drop l n cc))
      have e1 : (0 : Int) ≤ (n : Int) := by omega
      have e2 : (n : Int) < (l.length : Int) := by omega
      clear ho
      by_cases d : l[n] = 0
      · rw [if_pos d] at HO
        rw [d] at y
        go_wp2_with fail
        go_roundw
        case rel => exact ⟨by trivial, n + 1, by simp, by omega, HO.out⟩
        case measure => simp [intOf]; omega
      · rw [if_neg d] at HO
        have D : (l[n] == 0) = false := by simpa using d
        go_wp2_with fail
        go_ret
        exact ⟨by rw [HO.out]; rfl, rfl⟩
    · obtain rfl : n = l.length := by omega
      rw [List.drop_length] at ho
      go_wp2_with fail
      go_ret
      exact ⟨by rw [ho]; rfl, rfl⟩
theorem or_new (x0 x1 x2 x3 : Int) (W : World) : Calls Try.prog 76 #[.slice (some ⟨W.heap.size, 0, none⟩) 4 4] (W.alloc (.cells #[.int .i64 x0, .int .i64 x1, .int .i64 x2, .int .i64 x3] 3)).drew fun e w' => e = .returned (.int .i64 (orL [x0, x1, x2, x3])) ∧ (W.alloc (.cells #[.int .i64 x0, .int .i64 x1, .int .i64 x2, .int .i64 x3] 3)).drew = w' := by
  have h := heap_alloc_new W (.cells #[.int .i64 x0, .int .i64 x1, .int .i64 x2, .int .i64 x3] 3)
  have h : (W.alloc (.cells #[.int .i64 x0, .int .i64 x1, .int .i64 x2, .int .i64 x3] 3)).drew.heap[W.heap.size]? = some (.cells #[.int .i64 x0, .int .i64 x1, .int .i64 x2, .int .i64 x3] 3) := h
  refine or_at W.heap.size [x0, x1, x2, x3] _ (by simp) (fun j hj => ?_)
  match j, hj with
  | 0, _ => simp only [World.cell?, h]; rfl
  | 1, _ => simp only [World.cell?, h]; rfl
  | 2, _ => simp only [World.cell?, h]; rfl
  | 3, _ => simp only [World.cell?, h]; rfl
theorem ordS_or (a b : Sp) : ordS a b = orL [cmp3 a.br b.br, cmp3 a.vol b.vol, cmp3 a.blk b.blk, cmp3 a.num b.num] := by
  unfold ordS orL orL orL orL orL
  by_cases c1 : cmp3 a.br b.br = 0 <;> by_cases c2 : cmp3 a.vol b.vol = 0 <;> by_cases c3 : cmp3 a.blk b.blk = 0 <;> by_cases c4 : cmp3 a.num b.num = 0 <;> simp [c1, c2, c3, c4]
/-- The four cells of a spot. -/
def SpAt (w : World) (b o : Nat) (s : Sp) : Prop := w.cell? ⟨b, o, none⟩ = some (.int .i64 s.br) ∧ w.cell? ⟨b, o + 1, none⟩ = some (.int .i64 s.vol) ∧ w.cell? ⟨b, o + 2, none⟩ = some (.int .i64 s.blk) ∧ w.cell? ⟨b, o + 3, none⟩ = some (.int .u64 s.num)
theorem SpAt.below {w w' : World} {b o : Nat} {s : Sp} (h : SpAt w b o s) (hb : Below w.heap.size w w') (hl : b < w.heap.size) : SpAt w' b o s :=
  ⟨(hb.cell (p := ⟨b, _, none⟩) hl).trans h.1, (hb.cell (p := ⟨b, _, none⟩) hl).trans h.2.1, (hb.cell (p := ⟨b, _, none⟩) hl).trans h.2.2.1, (hb.cell (p := ⟨b, _, none⟩) hl).trans h.2.2.2⟩
/-- Two spots in boxes. -/
theorem two_boxes (w : World) (a b : Sp) : ∃ W, W = (w.alloc (.cells a.cs.toArray 26)).alloc (.cells b.cs.toArray 26) ∧ SpAt W w.heap.size 0 a ∧ SpAt W (w.heap.size + 1) 0 b ∧ Below w.heap.size w W ∧ w.heap.size + 1 < W.heap.size := by
  have h1 := heap_alloc_new w (.cells a.cs.toArray 26)
  have h2 := heap_alloc_new (w.alloc (.cells a.cs.toArray 26)) (.cells b.cs.toArray 26)
  have h3 : ((w.alloc (.cells a.cs.toArray 26)).alloc (.cells b.cs.toArray 26)).heap[w.heap.size]? = some (.cells a.cs.toArray 26) := (Below.heap_alloc _ _ _ (by simp)).trans h1
  simp only [World.size_alloc] at h2
  refine ⟨_, rfl, ⟨?_, ?_, ?_, ?_⟩, ⟨?_, ?_, ?_, ?_⟩, ((Below.refl _ _).alloc (Nat.le_refl _) _).alloc (by simp) _, by simp⟩
  all_goals first
    | (simp only [World.cell?, h3]; rfl)
    | (simp only [World.cell?, h2]; rfl)
theorem two_allocs (W : World) (o1 o2 : Obj) : ((W.alloc o1).alloc o2).drew.heap[W.heap.size]? = some o1 ∧ ((W.alloc o1).alloc o2).drew.heap[W.heap.size + 1]? = some o2 ∧ Below W.heap.size W ((W.alloc o1).alloc o2).drew := by
  have h1 := heap_alloc_new W o1
  have h2 := heap_alloc_new (W.alloc o1) o2
  simp only [World.size_alloc] at h2
  exact ⟨(Below.heap_alloc _ _ _ (by simp)).trans h1, h2, (((Below.refl _ _).alloc (Nat.le_refl _) _).alloc (by simp) _).trans (bel_drewN _ _ (n := 1))⟩
set_option maxHeartbeats 3200000 in
set_option maxRecDepth 100000 in
theorem order_at (a b : Sp) (w : World) : Calls Try.prog 56 #[a.v, b.v] w fun e w' => e = .returned (.int .i64 (ordS a b)) ∧ Below w.heap.size w w' := by
  unfold Sp.v
  go_enter Try.func56, Try.ntmps56
  go_wp2_with fail
  obtain ⟨W, hW, ⟨a0, a1, a2, a3⟩, ⟨b0, b1, b2, b3⟩, hb, hlt⟩ := two_boxes w a b
  simp only [Sp.cs] at hW
  rw [← hW]
  clear hW
  have hlp : w.heap.size < W.heap.size := by omega
  have hpw : w.heap.size ≤ w.heap.size := Nat.le_refl _
  generalize w.heap.size + 1 = q at *
  generalize hp : w.heap.size = p at *
  simp only [Nat.zero_add] at a1 a2 a3 b1 b2 b3
  have np := World.new_ne W ⟨p, 0, none⟩ a0
  have nq := World.new_ne W ⟨q, 0, none⟩ b0
  simp only at np nq
  go_cut [5, 6] (fun s5 s6 wx => ∃ x y : Nat, s5 = .pointer (some ⟨x, 0, none⟩) ∧ s6 = .pointer (some ⟨y, 0, none⟩) ∧ wx.cell? ⟨x, 0, none⟩ = some (.int .i64 a.br) ∧ wx.cell? ⟨x, 1, none⟩ = some (.int .i64 a.vol) ∧ wx.cell? ⟨x, 2, none⟩ = some (.int .i64 a.blk) ∧ wx.cell? ⟨y, 0, none⟩ = some (.int .i64 b.br) ∧ wx.cell? ⟨y, 1, none⟩ = some (.int .i64 b.vol) ∧ wx.cell? ⟨y, 2, none⟩ = some (.int .i64 b.blk) ∧ wx.cell? ⟨p, 3, none⟩ = some (.int .u64 a.num) ∧ wx.cell? ⟨q, 3, none⟩ = some (.int .u64 b.num) ∧ Below p w wx)
  case first =>
    go_region_held3 (fun w' => w'.cell? ⟨p, 0, none⟩ = some (.int .i64 a.br) ∧ w'.cell? ⟨p, 1, none⟩ = some (.int .i64 a.vol) ∧ w'.cell? ⟨p, 2, none⟩ = some (.int .i64 a.blk) ∧ w'.cell? ⟨p, 3, none⟩ = some (.int .u64 a.num) ∧ w'.cell? ⟨q, 0, none⟩ = some (.int .i64 b.br) ∧ w'.cell? ⟨q, 1, none⟩ = some (.int .i64 b.vol) ∧ w'.cell? ⟨q, 2, none⟩ = some (.int .i64 b.blk) ∧ w'.cell? ⟨q, 3, none⟩ = some (.int .u64 b.num)) (go_keep) (fail)
    · obtain ⟨h1, h2, h3⟩ := two_allocs W (.cells #[.int .i64 a.br, .int .i64 a.vol, .int .i64 a.blk] 23) (.cells #[.int .i64 b.br, .int .i64 b.vol, .int .i64 b.blk] 23)
      go_wp2_with fail
      go_meet
      exact ⟨_, _, rfl, rfl, by simp only [World.cell?, h1]; rfl, by simp only [World.cell?, h1]; rfl, by simp only [World.cell?, h1]; rfl, by simp only [World.cell?, h2]; rfl, by simp only [World.cell?, h2]; rfl, by simp only [World.cell?, h2]; rfl, (h3.cell (p := ⟨p, 3, none⟩) hlp).trans a3, (h3.cell (p := ⟨q, 3, none⟩) hlt).trans b3, hb.trans (h3.mono (Nat.le_of_lt hlp))⟩
    · obtain ⟨h1, h2, h3⟩ := two_allocs W (.cells #[.int .i64 b.br, .int .i64 b.vol, .int .i64 b.blk] 23) (.cells #[.int .i64 a.br, .int .i64 a.vol, .int .i64 a.blk] 23)
      go_wp2_with fail
      go_meet
      exact ⟨_, _, rfl, rfl, by simp only [World.cell?, h2]; rfl, by simp only [World.cell?, h2]; rfl, by simp only [World.cell?, h2]; rfl, by simp only [World.cell?, h1]; rfl, by simp only [World.cell?, h1]; rfl, by simp only [World.cell?, h1]; rfl, (h3.cell (p := ⟨p, 3, none⟩) hlp).trans a3, (h3.cell (p := ⟨q, 3, none⟩) hlt).trans b3, hb.trans (h3.mono (Nat.le_of_lt hlp))⟩
  case rest =>
    obtain ⟨x, y, rfl, rfl, x0, x1, x2, y0, y1, y2, p3, q3, hbx⟩ := hcut
    clear a0 a1 a2 a3 b0 b1 b2 b3 np nq hb hlp hlt
    go_wp2_with fail
    go_region_held3 (fun w' => w'.cell? ⟨x, 0, none⟩ = some (.int .i64 a.br) ∧ w'.cell? ⟨x, 1, none⟩ = some (.int .i64 a.vol) ∧ w'.cell? ⟨x, 2, none⟩ = some (.int .i64 a.blk) ∧ w'.cell? ⟨y, 0, none⟩ = some (.int .i64 b.br) ∧ w'.cell? ⟨y, 1, none⟩ = some (.int .i64 b.vol) ∧ w'.cell? ⟨y, 2, none⟩ = some (.int .i64 b.blk) ∧ w'.cell? ⟨p, 3, none⟩ = some (.int .u64 a.num) ∧ w'.cell? ⟨q, 3, none⟩ = some (.int .u64 b.num)) (go_keep)
      (first
      | (go_at_call 77; refine (compI_at _ _ _).mono ?_; rintro e w' ⟨rfl, rfl⟩)
      | (go_at_call 78; refine (compU_at _ _ _).mono ?_; rintro e w' ⟨rfl, rfl⟩)
      | (go_at_call 76; refine (or_new _ _ _ _ _).mono ?_; rintro e w' ⟨rfl, rfl⟩))
    go_wp2_with fail
    go_ret
    have hz := hbx.size
    subst hp
    exact ⟨by rw [ordS_or]; rfl, (hbx.trans (((Below.refl _ _).alloc (by omega) _).trans (bel_drewN _ _ (n := 1))))⟩
end Go.Proofs.Ytainljbkejafcaa.N
