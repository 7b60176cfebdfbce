/- The walks of sort.Search at upto's closure, of upto, Before and Within. -/
import Derived.Test.YteeokbcnjibpfaaGNew
namespace Go.Proofs.Yteeokbcnjibpfaa.G
open Go.RowKit
set_option linter.unusedVariables false
set_option linter.unusedSimpArgs false
/-- A slice of numbers that lies below 'base' (or nowhere, if it is empty). -/
def NumsAt (w : World) (base : Nat) (A : Option Addr) (l : List Int) : Prop :=
  0 < l.length → ∃ b off, A = some ⟨b, off, none⟩ ∧ b < base ∧ ∀ j (h : j < l.length), w.cell? ⟨b, off + j, none⟩ = some (.int .u64 l[j])
theorem NumsAt.below {w w' : World} {base : Nat} {A : Option Addr} {l : List Int} (h : NumsAt w base A l) (hb : Below base w w') : NumsAt w' base A l := fun hl => by
  obtain ⟨b, off, e, hlt, hc⟩ := h hl
  exact ⟨b, off, e, hlt, fun j hj => (hb.cell (p := ⟨b, off + j, none⟩) hlt).trans (hc j hj)⟩
theorem NumsAt.lift {w : World} {base base' : Nat} {A : Option Addr} {l : List Int} (h : NumsAt w base A l) (hb : base ≤ base') : NumsAt w base' A l := fun hl => by
  obtain ⟨b, off, e, hlt, hc⟩ := h hl
  exact ⟨b, off, e, by omega, hc⟩
/-- An owned row reads as numbers. -/
theorem numsAt_own {w : World} {B : Nat} {v : Value} {l : List Int} (h : w.ownsRow B 23 1 v l.length (u64s l)) : ∃ A c, v = .slice A l.length c ∧ l.length ≤ c ∧ NumsAt w w.heap.size A l := by
  rcases h.2 with ⟨rfl, e⟩ | ⟨g, cap, cur, rfl, hg, hh, hle, _⟩
  · exact ⟨none, 0, by rw [e], by omega, fun hl => by omega⟩
  · refine ⟨some ⟨g, 0, none⟩, cap, rfl, hle, fun hl => ⟨g, 0, rfl, (Array.getElem?_eq_some_iff.1 hh).1, fun j hj => ?_⟩⟩
    rw [Nat.zero_add, h.cellAt j (by omega)]
    simp [u64s, List.getElem?_eq_getElem hj]
/-- How many numbers are not above a moment, from the front. -/
def cnt (m : Int) : List Int → Nat
  | [] => 0
  | x :: xs => if x ≤ m then 1 + cnt m xs else 0
theorem cnt_le (m : Int) : ∀ l, cnt m l ≤ l.length
  | [] => by simp [cnt]
  | x :: xs => by have := cnt_le m xs; simp only [cnt, List.length_cons]; split <;> omega
theorem cnt_lo (m : Int) : ∀ (l : List Int) (j : Nat) (h : j < l.length), j < cnt m l → l[j] ≤ m
  | [], j, h, _ => by simp at h
  | x :: xs, 0, h, hj => by
    simp only [cnt] at hj
    by_cases c : x ≤ m
    · exact c
    · rw [if_neg c] at hj; omega
  | x :: xs, j + 1, h, hj => by
    simp only [cnt] at hj
    by_cases c : x ≤ m
    · rw [if_pos c] at hj
      exact cnt_lo m xs j (by simpa using h) (by omega)
    · rw [if_neg c] at hj; omega
theorem cnt_hi (m : Int) : ∀ (l : List Int) (j : Nat) (h : j < l.length), l.Pairwise (· < ·) → cnt m l ≤ j → ¬ l[j] ≤ m
  | [], j, h, _, _ => by simp at h
  | x :: xs, 0, h, hp, hj => by
    simp only [cnt] at hj
    by_cases c : x ≤ m
    · rw [if_pos c] at hj; omega
    · exact c
  | x :: xs, j + 1, h, hp, hj => by
    simp only [cnt] at hj
    obtain ⟨h1, h2⟩ := List.pairwise_cons.mp hp
    by_cases c : x ≤ m
    · rw [if_pos c] at hj
      exact cnt_hi m xs j (by simpa using h) h2 (by omega)
    · have hj' : j < xs.length := by simpa using h
      have := h1 xs[j] (List.getElem_mem hj')
      simp only [List.getElem_cons_succ]; omega
theorem bel_drewN (B : Nat) (w : World) {n : Nat} : Below B w (w.drewN n) := ⟨rfl, rfl, rfl, Nat.le_refl _, fun _ _ => rfl⟩
set_option maxHeartbeats 800000 in
theorem clos_at (m : Int) (b1 b2 : Nat) (A : Option Addr) (c : Nat) (l : List Int) (w : World) (hl : l.length ≤ 1000) (hA : NumsAt w w.heap.size A l) (j : Nat) (hj : j < l.length)
    (h1 : w.cell? ⟨b1, 0, none⟩ = some (.slice A l.length c)) (h2 : w.cell? ⟨b2, 0, none⟩ = some (.int .u64 m)) :
    Calls Try.prog 28 #[.int .i64 j, .pointer (some ⟨b1, 0, none⟩), .pointer (some ⟨b2, 0, none⟩)] w fun e w' => e = .returned (.bool (decide (m < l[j]))) ∧ ∃ n, w' = w.drewN n := by
  obtain ⟨b, off, rfl, hb, hc⟩ := hA (by omega)
  have hcj := hc j hj
  have e1 : (0 : Int) ≤ (j : Int) := by omega
  have e2 : (j : Int) < (l.length : Int) := by omega
  clear hA hc
  go_enter Try.func28, Try.ntmps28
  go_wp2_with fail
  go_quiet (fail)
  go_wp2
  go_ret
  exact ⟨rfl, _, rfl⟩
def SearchRel (m : Int) (l : List Int) (w : World) (i j : Value) (wr : World) : Prop := ∃ (a b q : Nat), wr = w.drewN q ∧ i = .int .i64 a ∧ j = .int .i64 b ∧ a ≤ cnt m l ∧ cnt m l ≤ b ∧ b ≤ l.length
set_option maxHeartbeats 3200000 in
set_option maxRecDepth 100000 in
theorem search_at (m : Int) (b1 b2 : Nat) (A : Option Addr) (c : Nat) (l : List Int) (w : World) (hp : Hid (l.Pairwise (· < ·))) (hl : l.length ≤ 1000) (hA : Hid (NumsAt w w.heap.size A l))
    (h1 : w.cell? ⟨b1, 0, none⟩ = some (.slice A l.length c)) (h2 : w.cell? ⟨b2, 0, none⟩ = some (.int .u64 m)) :
    Calls Try.prog 27 #[.int .i64 l.length, .func (Fn.func 28) #[] #[.pointer (some ⟨b1, 0, none⟩), .pointer (some ⟨b2, 0, none⟩)]] w fun e w' => e = .returned (.int .i64 (cnt m l)) ∧ ∃ n, w' = w.drewN n := by
  have hcl := cnt_le m l
  go_enter Try.func27, Try.ntmps27
  go_wp2_with fail
  go_loopw [5, 6] (fun i j wr => SearchRel m l w i j wr) (fun i j _ => (intOf j - intOf i).toNat)
  case atStart => exact ⟨0, l.length, 0, rfl, rfl, rfl, by omega, hcl, by omega⟩
  case round =>
    obtain ⟨x, y, q, rfl, rfl, rfl, hx, hy, hyl⟩ := hrel
    have h1' : (w.drewN q).cell? ⟨b1, 0, none⟩ = some (.slice A l.length c) := h1
    have h2' : (w.drewN q).cell? ⟨b2, 0, none⟩ = some (.int .u64 m) := h2
    have hA' : Hid (NumsAt (w.drewN q) (w.drewN q).heap.size A l) := hA.out
    by_cases cc : x < y
    · have he : ((x : Int) + (y : Int)) / 2 = (((x + y) / 2 : Nat) : Int) := by omega
      have hh1 : x ≤ (x + y) / 2 := by omega
      have hh2 : (x + y) / 2 < y := by omega
      have hlt : (x + y) / 2 < l.length := by omega
      have HE := Lib.hid he
      have hlo := cnt_lo m l ((x + y) / 2) hlt
      have hhi := cnt_hi m l ((x + y) / 2) hlt hp.out
      have HX : Hid ((x + y) / 2 < cnt m l ↔ ¬ m < l[(x + y) / 2]) := by
        constructor
        · intro h; have := hlo h; omega
        · intro h
          by_cases d : (x + y) / 2 < cnt m l
          · exact d
          · exact absurd (by omega) (hhi (by omega))
      clear he hlo hhi
      by_cases d : m < l[(x + y) / 2]
      · have D := decide_eq_true d
        have hcn : cnt m l ≤ (x + y) / 2 := by
          by_cases z : (x + y) / 2 < cnt m l
          · exact absurd d (HX.out.1 z)
          · omega
        clear d
        go_wp2_with fail
        rw [HE.out]
        refine (clos_at m b1 b2 A c l _ hl hA'.out _ hlt h1' h2').mono ?_
        rintro e w' ⟨rfl, q', rfl⟩
        rw [D]
        go_wp2_with fail
        go_roundw
        case rel => exact ⟨x, (x + y) / 2, q + q', rfl, rfl, rfl, hx, hcn, by omega⟩
        case measure => simp [intOf]; omega
      · have D := decide_eq_false d
        have hcn : (x + y) / 2 < cnt m l := HX.out.2 d
        clear d
        go_wp2_with fail
        rw [HE.out]
        refine (clos_at m b1 b2 A c l _ hl hA'.out _ hlt h1' h2').mono ?_
        rintro e w' ⟨rfl, q', rfl⟩
        rw [D]
        go_wp2_with fail
        go_roundw
        case rel => exact ⟨(x + y) / 2 + 1, y, q + q', rfl, by go_num, rfl, by omega, hy, hyl⟩
        case measure => simp [intOf]; omega
    · obtain rfl : y = x := by omega
      have E := Lib.hid (show cnt m l = y by omega)
      clear hx hy hcl
      go_wp2_with fail
      go_ret
      exact ⟨by rw [E.out]; rfl, q, rfl⟩
/-- The last of numbers that is not above a moment; 0 if there is none. -/
def lastUp (m : Int) (l : List Int) : Int := if h : 0 < cnt m l then l[cnt m l - 1]'(by have := cnt_le m l; omega) else 0
theorem box2_cells (w : World) (x y : Value) (T1 T2 : TypeId) : ((w.alloc (.cells #[x] T1)).alloc (.cells #[y] T2)).cell? ⟨w.heap.size, 0, none⟩ = some x ∧ ((w.alloc (.cells #[x] T1)).alloc (.cells #[y] T2)).cell? ⟨w.heap.size + 1, 0, none⟩ = some y := by
  refine ⟨?_, ?_⟩
  · rw [World.cell?_alloc_past _ _ _ (by simp), World.cell?_alloc_at _ _ _ _ rfl]; rfl
  · rw [World.cell?_alloc_at _ _ _ _ (by simp)]; rfl
set_option maxHeartbeats 1600000 in
set_option maxRecDepth 100000 in
theorem upto_at (m : Int) (A : Option Addr) (c : Nat) (l : List Int) (w : World) (hp : l.Pairwise (· < ·)) (hl : l.length ≤ 1000) (hA : NumsAt w w.heap.size A l) :
    Calls Try.prog 24 #[.slice A l.length c, .int .u64 m] w fun e w' => e = .returned (.tuple #[.int .u64 (lastUp m l), .bool (decide (0 < cnt m l))]) ∧ Below w.heap.size w w' := by
  have hmf : ∀ (fn : Fn) (first cap : Array Value) (w : World), (Instr.makeFunc fn first cap).run Try.prog w = .ok (.func fn first cap) w := fun _ _ _ _ => rfl
  have hcl := cnt_le m l
  have HP := Lib.hid hp
  have HA := Lib.hid hA
  clear hp hA
  have hB : Below w.heap.size w ((w.alloc (.cells #[.slice A l.length c] 29)).alloc (.cells #[.int .u64 m] 23)) := ((Below.refl _ _).alloc (Nat.le_refl _) _).alloc (by simp) _
  obtain ⟨k1, k2⟩ := box2_cells w (.slice A l.length c) (.int .u64 m) 29 23
  have hS := Lib.hid (search_at m w.heap.size (w.heap.size + 1) A c l _ HP hl ((HA.out.below hB).lift hB.size) k1 k2)
  by_cases cc : cnt m l = 0
  · have e1 : lastUp m l = 0 := by unfold lastUp; rw [dif_neg (by omega)]
    rw [e1]
    have D : decide (0 < cnt m l) = false := decide_eq_false (by omega)
    rw [D]
    have CC := Lib.hid cc
    clear e1 D cc k1 k2
    go_enter Try.func24, Try.ntmps24
    go_wp2_with fail
    refine hS.out.mono ?_
    rintro e w' ⟨rfl, nq, rfl⟩
    rw [CC.out]
    go_wp2_with fail
    go_ret2
    exact ⟨rfl, hB.trans (bel_drewN _ _)⟩
  · have e1 : lastUp m l = l[cnt m l - 1]'(by omega) := by unfold lastUp; rw [dif_pos (by omega)]
    rw [e1]
    have D : decide (0 < cnt m l) = true := decide_eq_true (by omega)
    rw [D]
    clear e1 D
    obtain ⟨b, off, rfl, hbl, hc⟩ := HA.out (by omega)
    have hck := hc (cnt m l - 1) (by omega)
    have hck2 := (hB.cell (p := ⟨b, off + (cnt m l - 1), none⟩) hbl).trans hck
    clear hc hck
    go_enter Try.func24, Try.ntmps24
    go_wp2_with fail
    refine hS.out.mono ?_
    rintro e w' ⟨rfl, nq, rfl⟩
    go_wp2_with fail
    go_ret2
    exact ⟨rfl, hB.trans (bel_drewN _ _)⟩
end Go.Proofs.Yteeokbcnjibpfaa.G
