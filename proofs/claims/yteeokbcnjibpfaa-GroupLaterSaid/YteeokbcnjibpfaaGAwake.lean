/- A group alone behind its deeds; the walk of awake. -/
import Derived.Test.YteeokbcnjibpfaaGPlay
namespace Go.Proofs.Yteeokbcnjibpfaa.G
open Go.RowKit Go.Proofs.YteeokbcnjibpfaaW.PrintMore Go.Proofs.YteeokbcnjibpfaaW.PrintWords
set_option linter.unusedVariables false
set_option linter.unusedSimpArgs false
def GAt (w : World) (B g gv V : Nat) (acc : List (Int × Int)) : Prop := ∃ R, Grp w B g gv V R (rowsOf V acc) (lastN acc)
theorem GAt.below {w w' : World} {B g gv V : Nat} {a : List (Int × Int)} (h : GAt w B g gv V a) (hb : Below w.heap.size w w') : GAt w' B g gv V a := by
  obtain ⟨R, h⟩ := h; exact ⟨R, h.below hb⟩
theorem GAt.drewN {w : World} {B g gv V : Nat} {a : List (Int × Int)} (h : GAt w B g gv V a) (n : Nat) : GAt (w.drewN n) B g gv V a := h.below (bel_drewN _ _)
theorem At.g {w : World} {B g gv x V : Nat} {a b : List (Int × Int)} (h : At w B g gv x V a b) : GAt w B g gv V a := by
  obtain ⟨R, rv, h⟩ := h; exact ⟨R, h.grp⟩
theorem gat_new {w : World} {B g gv V : Nat} (h : Grp w B g gv V (fun _ => nilS) (fun _ => []) 0) : GAt w B g gv V [] := ⟨_, h⟩
def GDeed (w : World) (B g gv V : Nat) (a : List (Int × Int)) (e : Ending) (w' : World) : Prop := e = .returned (.int .i64 0) ∧ GAt w' B g gv V a ∧ Below B w w'
theorem gat_wrote {w : World} {B g gv V : Nat} {a : List (Int × Int)} (h : GAt w B g gv V a) (ha : a.length ≤ 1000) (vol num : Int) (p1 : 0 ≤ vol) (p2 : vol < V) (hV : V ≤ 8) (h0 : 0 ≤ num) (h1 : num ≤ 65535) (hn : nextE (lastN a) num = 0) :
    Calls Try.prog 20 #[.pointer (some ⟨g, 0, none⟩), .int .i64 vol, .int .u64 num] w (GDeed w B g gv V (a ++ [(vol, num)])) := by
  obtain ⟨R, h⟩ := h
  obtain ⟨i, rfl⟩ : ∃ i : Nat, vol = i := ⟨vol.toNat, by omega⟩
  have hs : slot V i = i := by unfold slot; rw [if_neg (by omega)]; omega
  have hL := rows_len V a i
  refine (wrote_yes h i (by omega) hV num h0 h1 (by omega) hn).mono ?_
  rintro e' w' ⟨rfl, v', hg, hb, _⟩
  refine ⟨rfl, ⟨upd R i v', ?_⟩, hb⟩
  rw [rows_add V a i num (by omega) p2, hs, lastN_app]
  exact hg
theorem gat_barrier {w : World} {B g gv V : Nat} {a : List (Int × Int)} (h : GAt w B g gv V a) (ha : a.length ≤ 1000) (num : Int) (h0 : 0 ≤ num) (h1 : num ≤ 65535) (hn : nextE (lastN a) num = 0) :
    Calls Try.prog 21 #[.pointer (some ⟨g, 0, none⟩), .int .u64 num] w (GDeed w B g gv V (a ++ [(-1, num)])) := by
  obtain ⟨R, h⟩ := h
  have hs : slot V (-1) = V := by simp [slot]
  have hL := rows_len V a V
  refine (barrier_yes h num h0 h1 (by omega) hn).mono ?_
  rintro e' w' ⟨rfl, v', hg, hb, _⟩
  refine ⟨rfl, ⟨upd R V v', ?_⟩, hb⟩
  rw [rows_add V a (-1) num (by omega) (by omega), hs, lastN_app]
  exact hg
def cutList (m : Int) (V : Nat) (acc : List (Int × Int)) : List Int := (List.range V).map fun i => lastUp m (rowsOf V acc i)
theorem cutList_len (m : Int) (V : Nat) (acc : List (Int × Int)) : (cutList m V acc).length = V := by simp [cutList]
def CutAns (w : World) (m : Int) (V : Nat) (acc : List (Int × Int)) (e : Ending) (w' : World) : Prop := ∃ c, e = .returned (.tuple #[.agg #[.int .u64 m, .slice (some ⟨c, 0, none⟩) V V], .bool true]) ∧ w.heap.size ≤ c ∧ w'.heap[c]? = some (.cells (u64s (cutList m V acc)).toArray 23 (0, 0)) ∧ Below w.heap.size w w'
theorem cutNums {w : World} {c : Nat} {l : List Int} (h : w.heap[c]? = some (.cells (u64s l).toArray 23 (0, 0))) : NumsAt w w.heap.size (some ⟨c, 0, none⟩) l := fun hl =>
  ⟨c, 0, rfl, (Array.getElem?_eq_some_iff.1 h).1, fun j hj => by simp [World.cell?, h, u64s, hj]⟩
theorem gat_cut {w : World} {B g gv V : Nat} {a : List (Int × Int)} (h : GAt w B g gv V a) (hG : Good V a) (ha : a.length ≤ 1000) (m : Int) (hm : 0 < m) (hm2 : m ≤ 18446744073709551615) (hV : V ≤ 8) :
    Calls Try.prog 13 #[.pointer (some ⟨g, 0, none⟩), .int .u64 m] w (CutAns w m V a) := by
  obtain ⟨R, h⟩ := h
  refine (cut_at h m hm hm2 hV (fun i _ => rows_sorted hG i) (fun i _ => by have := rows_len V a i; omega)).mono ?_
  rintro e' w' ⟨c, rfl, hc, hh, hb⟩
  refine ⟨c, rfl, hc, ?_, hb⟩
  rw [hh]
  have : cutCells m (rowsOf V a) V V = (u64s (cutList m V a)).toArray := by
    unfold cutCells u64s cutList
    rw [List.map_map]
    congr 1
    apply List.map_congr_left
    intro j hj
    rw [List.mem_range] at hj
    rw [if_pos hj]; rfl
  rw [this]
def acc4 : List (Int × Int) := [(0, 1), (1, 2), (-1, 3), (0, 4)]
theorem good4 : Good 2 acc4 := ⟨by decide, by decide, by decide⟩
theorem cut43 : cutList 3 2 acc4 = [1, 2] := by decide
theorem cut49 : cutList 9 2 acc4 = [4, 2] := by decide
theorem wp1 : WithinP 3 9 [1, 2] [4, 2] := ⟨rfl, by omega, fun j h1 h2 => by
  match j with
  | 0 => simp
  | 1 => simp
  | j + 2 => exact absurd h1 (by simp)⟩
set_option maxHeartbeats 3200000 in
set_option maxRecDepth 100000 in
theorem awake_ok (w : World) : Calls Try.prog 11 #[] w fun e w' => e = .returned (.bool true) ∧ Below w.heap.size w w' := by
  go_enter Try.func11, Try.ntmps11
  go_wp2_with fail
  refine (new_at 2 2 _ (by decide) (by omega) (by omega)).mono ?_
  rintro e w1 ⟨g, gv, rfl, hg1, hb1⟩
  have a0 := gat_new hg1
  clear hg1
  go_wp2_with fail
  refine (gat_wrote a0 (by decide) 0 1 (by omega) (by omega) (by omega) (by omega) (by omega) (by decide)).mono ?_
  rintro e w2 ⟨rfl, a1, hb2⟩
  go_wp2_with fail
  refine (gat_wrote a1 (by decide) 1 2 (by omega) (by omega) (by omega) (by omega) (by omega) (by decide)).mono ?_
  rintro e w3 ⟨rfl, a2, hb3⟩
  go_wp2_with fail
  refine (gat_barrier a2 (by decide) 3 (by omega) (by omega) (by decide)).mono ?_
  rintro e w4 ⟨rfl, a3, hb4⟩
  go_wp2_with fail
  refine (gat_wrote a3 (by decide) 0 4 (by omega) (by omega) (by omega) (by omega) (by omega) (by decide)).mono ?_
  rintro e w5 ⟨rfl, a4, hb5⟩
  have A4 : GAt w5 w.heap.size g gv 2 acc4 := a4
  have B4 : Below w.heap.size w w5 := (((hb1.trans hb2).trans hb3).trans hb4).trans hb5
  clear a0 a1 a2 a3 a4 hb1 hb2 hb3 hb4 hb5
  go_wp2_with fail
  refine (gat_cut A4 good4 (by decide) 3 (by omega) (by omega) (by omega)).mono ?_
  rintro e w6 ⟨c1, rfl, hc1, hh1, hb6⟩
  rw [cut43] at hh1
  have z6 : w5.heap.size ≤ w6.heap.size := hb6.size
  go_wp2_with fail
  have hB7 : Below w5.heap.size w5 (w6.alloc (.cells #[.int .u64 3, .slice (some ⟨c1, 0, none⟩) 2 2] 31)) := hb6.alloc z6 _
  refine (gat_cut (A4.below hB7) good4 (by decide) 9 (by omega) (by omega) (by omega)).mono ?_
  rintro e w8 ⟨c2, rfl, hc2, hh2, hb8⟩
  rw [cut49] at hh2
  have lt1 := (Array.getElem?_eq_some_iff.1 hh1).1
  have s6 : (w6.alloc (.cells #[.int .u64 3, .slice (some ⟨c1, 0, none⟩) 2 2] 31)).heap.size = w6.heap.size + 1 := by simp
  have hh1' := (hb8.block c1 (by omega)).trans ((Below.heap_alloc _ _ _ lt1).trans hh1)
  have hbox := (hb8.block w6.heap.size (by omega)).trans (heap_alloc_new w6 _)
  have z8 : w6.heap.size + 1 ≤ w8.heap.size := by rw [← s6]; exact hb8.size
  have z8' : w6.heap.size < w8.heap.size := by omega
  have HB8 : Below w.heap.size w w8 := B4.trans ((hB7.trans (hb8.mono (by omega))).mono B4.size)
  have k1 : w8.cell? ⟨w6.heap.size, 0, none⟩ = some (.int .u64 3) := by simp [World.cell?, hbox]
  have k2 : w8.cell? ⟨w6.heap.size, 1, none⟩ = some (.slice (some ⟨c1, 0, none⟩) 2 2) := by simp [World.cell?, hbox]
  have n1 := Lib.hid (cutNums hh1')
  have n2 := Lib.hid (cutNums hh2)
  have lt2 := (Array.getElem?_eq_some_iff.1 hh2).1
  have zA : w6.heap.size < w8.heap.size + 1 := by omega
  have zB : w6.heap.size < w8.heap.size + 1 + 1 := by omega
  have zC : w8.heap.size < w8.heap.size + 1 + 1 := by omega
  have HB9 : Below w8.heap.size w8 ((w8.alloc (.cells #[.int .u64 9, .slice (some ⟨c2, 0, none⟩) 2 2] 31)).alloc (.cells #[.int .u64 1, .int .u64 2] 23)) := ((Below.refl _ _).alloc (Nat.le_refl _) _).alloc (by simp) _
  have m1 : NumsAt ((w8.alloc (.cells #[.int .u64 9, .slice (some ⟨c2, 0, none⟩) 2 2] 31)).alloc (.cells #[.int .u64 1, .int .u64 2] 23)) _ (some ⟨w8.heap.size + 1, 0, none⟩) [1, 2] := cutNums (by
    have := heap_alloc_new (w8.alloc (.cells #[.int .u64 9, .slice (some ⟨c2, 0, none⟩) 2 2] 31)) (.cells #[.int .u64 1, .int .u64 2] 23)
    simpa [u64s] using this)
  have S1 := Lib.hid (same_at (some ⟨c1, 0, none⟩) (some ⟨w8.heap.size + 1, 0, none⟩) 2 2 [1, 2] [1, 2] (by decide) (by decide) ((n1.out.below HB9).lift HB9.size) m1)
  clear m1
  clear hb6 hb8 hB7 s6 hh1 hbox A4 B4 hc2
  go_wp2_with fail
  refine S1.out.mono ?_
  rintro e w10 ⟨rfl, q, rfl⟩
  rw [show sameN [1, 2] [1, 2] = 1 from rfl]
  have HBX : Below w8.heap.size w8 ((((w8.alloc (.cells #[.int .u64 9, .slice (some ⟨c2, 0, none⟩) 2 2] 31)).alloc (.cells #[.int .u64 1, .int .u64 2] 23)).drewN q).alloc (.cells #[.int .u64 4, .int .u64 2] 23)) := (HB9.trans (bel_drewN _ _)).alloc (by have := HB9.size; exact this) _
  have m2 : NumsAt ((((w8.alloc (.cells #[.int .u64 9, .slice (some ⟨c2, 0, none⟩) 2 2] 31)).alloc (.cells #[.int .u64 1, .int .u64 2] 23)).drewN q).alloc (.cells #[.int .u64 4, .int .u64 2] 23)) _ (some ⟨w8.heap.size + 1 + 1, 0, none⟩) [4, 2] := cutNums (by
    have := heap_alloc_new (((w8.alloc (.cells #[.int .u64 9, .slice (some ⟨c2, 0, none⟩) 2 2] 31)).alloc (.cells #[.int .u64 1, .int .u64 2] 23)).drewN q) (.cells #[.int .u64 4, .int .u64 2] 23)
    simpa [u64s] using this)
  have N1 := Lib.hid ((n1.out.below HBX).lift HBX.size)
  have N2 := Lib.hid ((n2.out.below HBX).lift HBX.size)
  have S2 := Lib.hid (same_at (some ⟨c2, 0, none⟩) (some ⟨w8.heap.size + 1 + 1, 0, none⟩) 2 2 [4, 2] [4, 2] (by decide) (by decide) N2.out m2)
  clear m2
  go_wp2_with fail
  refine S2.out.mono ?_
  rintro e w11 ⟨rfl, q2, rfl⟩
  rw [show sameN [4, 2] [4, 2] = 1 from rfl]
  have HBY : Below w8.heap.size w8 (((((w8.alloc (.cells #[.int .u64 9, .slice (some ⟨c2, 0, none⟩) 2 2] 31)).alloc (.cells #[.int .u64 1, .int .u64 2] 23)).drewN q).alloc (.cells #[.int .u64 4, .int .u64 2] 23)).drewN q2) := HBX.trans (bel_drewN _ _)
  have M1 : NumsAt (((((w8.alloc (.cells #[.int .u64 9, .slice (some ⟨c2, 0, none⟩) 2 2] 31)).alloc (.cells #[.int .u64 1, .int .u64 2] 23)).drewN q).alloc (.cells #[.int .u64 4, .int .u64 2] 23)).drewN q2) (((((w8.alloc (.cells #[.int .u64 9, .slice (some ⟨c2, 0, none⟩) 2 2] 31)).alloc (.cells #[.int .u64 1, .int .u64 2] 23)).drewN q).alloc (.cells #[.int .u64 4, .int .u64 2] 23)).drewN q2).heap.size (some ⟨c1, 0, none⟩) [1, 2] := (n1.out.below HBY).lift HBY.size
  have M2 : NumsAt (((((w8.alloc (.cells #[.int .u64 9, .slice (some ⟨c2, 0, none⟩) 2 2] 31)).alloc (.cells #[.int .u64 1, .int .u64 2] 23)).drewN q).alloc (.cells #[.int .u64 4, .int .u64 2] 23)).drewN q2) (((((w8.alloc (.cells #[.int .u64 9, .slice (some ⟨c2, 0, none⟩) 2 2] 31)).alloc (.cells #[.int .u64 1, .int .u64 2] 23)).drewN q).alloc (.cells #[.int .u64 4, .int .u64 2] 23)).drewN q2).heap.size (some ⟨c2, 0, none⟩) [4, 2] := (n2.out.below HBY).lift HBY.size
  go_wp2_with fail
  refine (within_at (w := ((((w8.alloc (.cells #[.int .u64 9, .slice (some ⟨c2, 0, none⟩) 2 2] 31)).alloc (.cells #[.int .u64 1, .int .u64 2] 23)).drewN q).alloc (.cells #[.int .u64 4, .int .u64 2] 23)).drewN q2) 3 9 (some ⟨c1, 0, none⟩) (some ⟨c2, 0, none⟩) 2 2 [1, 2] [4, 2] (by decide) (by decide) M1 M2).mono ?_
  rintro e w12 ⟨b1, rfl, hw1, hb12⟩
  obtain rfl : b1 = true := hw1.2 wp1
  clear M1 M2
  have HBZ : Below w8.heap.size w8 w12 := HBY.trans (hb12.mono HBY.size)
  have zX : w8.heap.size < (((((w8.alloc (.cells #[.int .u64 9, .slice (some ⟨c2, 0, none⟩) 2 2] 31)).alloc (.cells #[.int .u64 1, .int .u64 2] 23)).drewN q).alloc (.cells #[.int .u64 4, .int .u64 2] 23)).drewN q2).heap.size := by show w8.heap.size < ((((w8.alloc (.cells #[.int .u64 9, .slice (some ⟨c2, 0, none⟩) 2 2] 31)).alloc (.cells #[.int .u64 1, .int .u64 2] 23)).drewN q).alloc (.cells #[.int .u64 4, .int .u64 2] 23)).heap.size; simp; omega
  have gX : (((((w8.alloc (.cells #[.int .u64 9, .slice (some ⟨c2, 0, none⟩) 2 2] 31)).alloc (.cells #[.int .u64 1, .int .u64 2] 23)).drewN q).alloc (.cells #[.int .u64 4, .int .u64 2] 23)).drewN q2).heap[w8.heap.size]? = some (.cells #[.int .u64 9, .slice (some ⟨c2, 0, none⟩) 2 2] 31) := by
    show ((((w8.alloc (.cells #[.int .u64 9, .slice (some ⟨c2, 0, none⟩) 2 2] 31)).alloc (.cells #[.int .u64 1, .int .u64 2] 23)).drewN q).alloc (.cells #[.int .u64 4, .int .u64 2] 23)).heap[w8.heap.size]? = _
    rw [Below.heap_alloc _ _ _ (by show w8.heap.size < ((w8.alloc (.cells #[.int .u64 9, .slice (some ⟨c2, 0, none⟩) 2 2] 31)).alloc (.cells #[.int .u64 1, .int .u64 2] 23)).heap.size; simp; omega)]
    show ((w8.alloc (.cells #[.int .u64 9, .slice (some ⟨c2, 0, none⟩) 2 2] 31)).alloc (.cells #[.int .u64 1, .int .u64 2] 23)).heap[w8.heap.size]? = _
    rw [Below.heap_alloc _ _ _ (by simp), heap_alloc_new]
  have gZ := (hb12.block _ zX).trans gX
  have k3 : w12.cell? ⟨w8.heap.size, 0, none⟩ = some (.int .u64 9) := by simp [World.cell?, gZ]
  have k4 : w12.cell? ⟨w8.heap.size, 1, none⟩ = some (.slice (some ⟨c2, 0, none⟩) 2 2) := by simp [World.cell?, gZ]
  have k5 := (HBZ.cell (p := ⟨w6.heap.size, 0, none⟩) z8').trans k1
  have k6 := (HBZ.cell (p := ⟨w6.heap.size, 1, none⟩) z8').trans k2
  clear gX gZ zX
  have M1 : NumsAt w12 w12.heap.size (some ⟨c1, 0, none⟩) [1, 2] := (n1.out.below HBZ).lift HBZ.size
  have M2 : NumsAt w12 w12.heap.size (some ⟨c2, 0, none⟩) [4, 2] := (n2.out.below HBZ).lift HBZ.size
  have S3 := Lib.hid (within_at (w := w12) 9 3 (some ⟨c2, 0, none⟩) (some ⟨c1, 0, none⟩) 2 2 [4, 2] [1, 2] (by decide) (by decide) M2 M1)
  clear M1 M2
  have HBW : Below w.heap.size w w12 := HB8.trans (HBZ.mono HB8.size)
  have HBs := HBZ.size
  have HB8s := HB8.size
  clear hb12 HBX HBY HB9 HB8 HBZ
  go_wp2_with fail
  refine S3.out.mono ?_
  rintro e w13 ⟨b2, rfl, hw2, hb13⟩
  obtain rfl : b2 = false := by
    cases b2
    · rfl
    · exact absurd (hw2.1 rfl).2.1 (by decide)
  go_wp2_with fail
  go_ret
  exact ⟨rfl, HBW.trans (hb13.mono HBW.size)⟩
end Go.Proofs.Yteeokbcnjibpfaa.G
