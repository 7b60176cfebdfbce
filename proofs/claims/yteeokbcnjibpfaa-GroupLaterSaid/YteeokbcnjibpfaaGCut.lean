/- The walks of Cut and Within. -/
import Derived.Test.YteeokbcnjibpfaaGMore
namespace Go.Proofs.Yteeokbcnjibpfaa.G
open Go.RowKit Go.Proofs.YteeokbcnjibpfaaW.PrintMore Go.Proofs.YteeokbcnjibpfaaW.PrintWords
set_option linter.unusedVariables false
set_option linter.unusedSimpArgs false
theorem bcell {W w1 : World} (hb : Below W.heap.size W w1) : (∀ b o, b < W.heap.size → w1.cell? ⟨b, o, none⟩ = W.cell? ⟨b, o, none⟩) ∧ (∀ b o, b < W.heap.size → w1.frozen? ⟨b, o, none⟩ = W.frozen? ⟨b, o, none⟩) :=
  ⟨fun b o h => hb.cell (p := ⟨b, o, none⟩) h, fun b o h => hb.frozen (p := ⟨b, o, none⟩) h⟩
def cutCells (m : Int) (L : Nat → List Int) (V n : Nat) : Array Value := ((List.range V).map fun j => if j < n then .int .u64 (lastUp m (L j)) else .int .u64 0).toArray
theorem cutCells_zero (m : Int) (L : Nat → List Int) (V : Nat) : madeCells #[Value.int .u64 0] V = cutCells m L V 0 := by
  apply Array.ext
  · simp [madeCells, cutCells]
  · intro i h1 h2
    simp [madeCells, cutCells, Nat.mod_one]
theorem cutCells_set (m : Int) (L : Nat → List Int) (V n : Nat) (hn : n < V) : (cutCells m L V n).setIfInBounds n (.int .u64 (lastUp m (L n))) = cutCells m L V (n + 1) := by
  unfold cutCells
  rw [map_upd _ _ _ _ hn]
  congr 1
  apply List.map_congr_left
  intro j _
  by_cases c : j = n
  · subst c; rw [upd_at, if_pos (by omega)]
  · rw [upd_ne c]
    by_cases d : j < n
    · rw [if_pos d, if_pos (by omega)]
    · rw [if_neg d, if_neg (by omega)]
def CutRel (w : World) (m : Int) (L : Nat → List Int) (V : Nat) (i : Value) (wr : World) : Prop := ∃ n : Nat, i = .int .i64 n ∧ n ≤ V ∧ Below w.heap.size w wr ∧
  wr.heap[w.heap.size]? = some (.cells #[.int .u64 0, .slice none 0 0] 31 (0, 0)) ∧
  wr.heap[w.heap.size + 1]? = some (.cells (cutCells m L V n) 23 (0, 0)) ∧
  wr.heap[w.heap.size + 1 + 1]? = some (.cells #[.int .u64 m, .slice (some ⟨w.heap.size + 1, 0, none⟩) V V] 31 (0, 0))
theorem cutRel_step {w wr w1 : World} {m : Int} {L : Nat → List Int} {V n : Nat} (hb : Below w.heap.size w wr)
    (K : wr.heap[w.heap.size]? = some (.cells #[.int .u64 0, .slice none 0 0] 31 (0, 0)) ∧ wr.heap[w.heap.size + 1]? = some (.cells (cutCells m L V n) 23 (0, 0)) ∧ wr.heap[w.heap.size + 1 + 1]? = some (.cells #[.int .u64 m, .slice (some ⟨w.heap.size + 1, 0, none⟩) V V] 31 (0, 0)))
    (hb2 : Below wr.heap.size wr w1) (cc : n < V) : CutRel w m L V (.int .i64 ((n : Int) + 1)) (w1.setCell ⟨w.heap.size + 1, n, none⟩ (.int .u64 (lastUp m (L n)))) := by
  obtain ⟨k0, k1, k2⟩ := K
  have z0 : w.heap.size + 1 + 1 < wr.heap.size := (Array.getElem?_eq_some_iff.1 k2).1
  refine ⟨n + 1, by simp, by omega, (hb.trans (hb2.mono (by omega))).setCell (by simp) _, ?_, ?_, ?_⟩
  · rw [Below.heap_setCell _ _ _ _ (by simp), hb2.block _ (by omega), k0]
  · rw [← cutCells_set m L V n cc]
    exact set_at ((hb2.block _ (by omega)).trans k1)
  · rw [Below.heap_setCell _ _ _ _ (by simp), hb2.block _ (by omega), k2]
def CutPost (w : World) (m : Int) (L : Nat → List Int) (V : Nat) (e : Ending) (w' : World) : Prop := ∃ c, e = .returned (.tuple #[.agg #[.int .u64 m, .slice (some ⟨c, 0, none⟩) V V], .bool true]) ∧ w.heap.size ≤ c ∧ w'.heap[c]? = some (.cells (cutCells m L V V) 23 (0, 0)) ∧ Below w.heap.size w w'
set_option maxHeartbeats 3200000 in
set_option maxRecDepth 100000 in
theorem cut_at {w : World} {B g gv V : Nat} {R : Nat → Value} {L : Nat → List Int} {last : Int} (h : Grp w B g gv V R L last) (m : Int) (hm : 0 < m) (hm2 : m ≤ 18446744073709551615) (hV : V ≤ 8) (hp : ∀ i, i < V → (L i).Pairwise (· < ·)) (hl : ∀ i, i < V → (L i).length ≤ 1000) :
    Calls Try.prog 13 #[.pointer (some ⟨g, 0, none⟩), .int .u64 m] w (CutPost w m L V) := by
  have hmk := print_make_of (P := Try.prog) 29 23 (.int .u64 0) 8 Try.underlying29 infoU rfl (by decide) V (by omega)
  have hc0 := h.c0
  have hglt := h.glt
  have hglt1 : g < w.heap.size + 1 := by omega
  have hglt2 : g < w.heap.size + 1 + 1 := by omega
  have hm0 : (m == 0) = false := by simp; omega
  have HG := Lib.hid h
  have HP := Lib.hid hp
  have HL := Lib.hid hl
  clear h hp hl
  go_enter Try.func13, Try.ntmps13
  go_wp2_with fail
  go_loopw [29] (fun i wr => CutRel w m L V i wr) (fun i _ => (V - intOf i).toNat)
  case atStart =>
    refine ⟨0, rfl, by omega, ((Below.refl _ _).alloc (Nat.le_refl _) _).alloc (by simp) _ |>.alloc (by simp; omega) _, ?_, ?_, ?_⟩
    · rw [Below.heap_alloc _ _ _ (by simp; omega), Below.heap_alloc _ _ _ (by simp), heap_alloc_new]
    · rw [Below.heap_alloc _ _ _ (by simp), ← cutCells_zero]
      have := heap_alloc_new (w.alloc (.cells #[.int .u64 0, .slice none 0 0] 31)) (.cells (madeCells #[Value.int .u64 0] V) 23)
      simpa using this
    · have := heap_alloc_new ((w.alloc (.cells #[.int .u64 0, .slice none 0 0] 31)).alloc (.cells (madeCells #[Value.int .u64 0] V) 23)) (.cells #[.int .u64 m, .slice (some ⟨w.heap.size + 1, 0, none⟩) V V] 31)
      simpa using this
  case round =>
    obtain ⟨n, rfl, hn, hb, k0, k1, k2⟩ := hrel
    have z0 : w.heap.size + 1 + 1 < wr.heap.size := (Array.getElem?_eq_some_iff.1 k2).1
    have z1 : w.heap.size + 1 < wr.heap.size := by omega
    have z2 : w.heap.size < wr.heap.size := by omega
    have K := Lib.hid (And.intro k0 (And.intro k1 k2))
    have c20 : wr.cell? ⟨w.heap.size + 1 + 1, 0, none⟩ = some (.int .u64 m) := by simp [World.cell?, k2]
    have c21 : wr.cell? ⟨w.heap.size + 1 + 1, 1, none⟩ = some (.slice (some ⟨w.heap.size + 1, 0, none⟩) V V) := by simp [World.cell?, k2]
    have c00 : wr.cell? ⟨w.heap.size, 0, none⟩ = some (.int .u64 0) := by simp [World.cell?, k0]
    have c01 : wr.cell? ⟨w.heap.size, 1, none⟩ = some (.slice none 0 0) := by simp [World.cell?, k0]
    have f00 : wr.frozen? ⟨w.heap.size, 0, none⟩ = false := by simp [World.frozen?, k0]
    have f01 : wr.frozen? ⟨w.heap.size, 1, none⟩ = false := by simp [World.frozen?, k0]
    clear k0 k1 k2
    by_cases cc : n < V
    · have hgv := (HG.out.below hb).cv n cc
      obtain ⟨A, c, e, hc, hA⟩ := numsAt_own ((HG.out.below hb).row n (by omega))
      rw [e] at hgv
      have HA := Lib.hid hA
      have e1 : (0 : Int) ≤ (n : Int) := by omega
      have e2 : (n : Int) < (V : Int) := by omega
      clear e hA
      have cs : (cutCells m L V n).size = V := by simp [cutCells]
      have c1n : wr.cell? ⟨w.heap.size + 1, n, none⟩ = some ((cutCells m L V n)[n]'(by omega)) := by simp [World.cell?, K.out.2.1, cs, cc]
      have f1n : wr.frozen? ⟨w.heap.size + 1, n, none⟩ = false := by simp [World.frozen?, K.out.2.1]
      go_wp2_with fail
      go_region_with (first | (go_at_call 24; go_loud (refine (upto_at m A c (L n) wr.drew (HP.out n cc) (HL.out n cc) HA.out).mono ?_; rintro e w1 ⟨rfl, hb1⟩; have hb2 : Below wr.heap.size wr w1 := Below.trans (bel_drewN wr.heap.size wr (n := 1)) hb1; clear hb1; obtain ⟨hcc, hff⟩ := bcell hb2)))
      all_goals (go_wp2_with fail; go_roundw; (case rel => exact cutRel_step hb K.out hb2 cc); (case measure => simp [intOf]; omega))
    · obtain rfl : n = V := by omega
      go_wp2_with fail
      (try simp only [Exit.inBlock, Exit.then])
      refine bodyPost_ret (v := .tuple #[.agg #[.int .u64 m, .slice (some ⟨w.heap.size + 1, 0, none⟩) n n], .bool true]) (by rw [results_cell_tmp rfl]; go_simp) rfl ?_
      refine ⟨_, rfl, by omega, ?_, ?_⟩
      · rw [Below.heap_setCell _ _ _ _ (by simp), Below.heap_setCell _ _ _ _ (by simp), K.out.2.1]
      · exact (hb.setCell (by simp) _).setCell (by simp) _
/-- What 'Within' answers. -/
def WithinP (ma mb : Int) (la lb : List Int) : Prop := la.length = lb.length ∧ ma ≤ mb ∧ ∀ j (h1 : j < la.length) (h2 : j < lb.length), la[j] ≤ lb[j]
def WithinPost (w : World) (ma mb : Int) (la lb : List Int) (e : Ending) (w' : World) : Prop := ∃ b, e = .returned (.bool b) ∧ (b = true ↔ WithinP ma mb la lb) ∧ Below w.heap.size w w'
def WithinRel (w : World) (ma mb : Int) (la lb : List Int) (N : Nat) (va vb i : Value) (wr : World) : Prop := ∃ n : Nat, i = .int .i64 n ∧ n ≤ N ∧ Below w.heap.size w wr ∧
  wr.heap[w.heap.size]? = some (.cells #[.int .u64 ma, va] 31 (0, 0)) ∧ wr.heap[w.heap.size + 1]? = some (.cells #[.int .u64 mb, vb] 31 (0, 0)) ∧
  (∀ j (h1 : j < la.length) (h2 : j < lb.length), j < n → la[j] ≤ lb[j])
set_option maxHeartbeats 3200000 in
set_option maxRecDepth 100000 in
theorem within_same {w : World} (ma mb : Int) (b1 b2 : Option Addr) (k1 k2 : Nat) (la lb : List Int) (N : Nat) (hla : la.length = N) (hlb : lb.length = N) (hN : N ≤ 1000) (ha : NumsAt w w.heap.size b1 la) (hb : NumsAt w w.heap.size b2 lb) (hm : ¬ mb < ma) :
    Calls Try.prog 14 #[.agg #[.int .u64 ma, .slice b1 N k1], .agg #[.int .u64 mb, .slice b2 N k2]] w (WithinPost w ma mb la lb) := by
  have HA := Lib.hid ha
  have HB := Lib.hid hb
  have HLA := Lib.hid hla
  have HLB := Lib.hid hlb
  clear ha hb hla hlb
  go_enter Try.func14, Try.ntmps14
  go_wp2_with fail
  go_loopw [24] (fun i wr => WithinRel w ma mb la lb N (.slice b1 N k1) (.slice b2 N k2) i wr) (fun i _ => (N - intOf i).toNat)
  case atStart =>
    refine ⟨0, rfl, by omega, ((Below.refl _ _).alloc (Nat.le_refl _) _).alloc (by simp) _, ?_, ?_, fun j _ _ h => absurd h (by omega)⟩
    · rw [Below.heap_alloc _ _ _ (by simp), heap_alloc_new]
    · have := heap_alloc_new (w.alloc (.cells #[.int .u64 ma, .slice b1 N k1] 31)) (.cells #[.int .u64 mb, .slice b2 N k2] 31)
      simpa using this
  case round =>
    obtain ⟨n, rfl, hn, hbw, h0, h1, hlo⟩ := hrel
    have HLO := Lib.hid hlo
    have z0 : w.heap.size + 1 < wr.heap.size := (Array.getElem?_eq_some_iff.1 h1).1
    have c01 : wr.cell? ⟨w.heap.size, 1, none⟩ = some (.slice b1 N k1) := by simp [World.cell?, h0]
    have c11 : wr.cell? ⟨w.heap.size + 1, 1, none⟩ = some (.slice b2 N k2) := by simp [World.cell?, h1]
    have K := Lib.hid (And.intro h0 h1)
    clear h0 h1 hlo
    by_cases cc : n < N
    · have hna : n < la.length := by rw [HLA.out]; exact cc
      have hnb : n < lb.length := by rw [HLB.out]; exact cc
      obtain ⟨a1, o1, rfl, l1, q1⟩ := HA.out (by omega)
      obtain ⟨a2, o2, rfl, l2, q2⟩ := HB.out (by omega)
      have x1 := (hbw.cell (p := ⟨a1, o1 + n, none⟩) l1).trans (q1 n hna)
      have x2 := (hbw.cell (p := ⟨a2, o2 + n, none⟩) l2).trans (q2 n hnb)
      have e1 : (0 : Int) ≤ (n : Int) := by omega
      have e2 : (n : Int) < (N : Int) := by omega
      clear q1 q2
      by_cases d : lb[n] < la[n]
      · go_wp2_with fail
        go_ret
        exact ⟨false, rfl, ⟨fun h => by simp at h, fun h => absurd (h.2.2 n hna hnb) (by omega)⟩, hbw⟩
      · go_wp2_with fail
        go_roundw
        case rel => exact ⟨n + 1, by simp, by omega, hbw, K.out.1, K.out.2, fun j h1 h2 hj => if e : j = n then by subst e; omega else HLO.out j h1 h2 (by omega)⟩
        case measure => simp [intOf]; omega
    · obtain rfl : n = N := by omega
      go_wp2_with fail
      go_ret
      exact ⟨true, rfl, ⟨fun _ => ⟨HLA.out.trans HLB.out.symm, by omega, fun j h1 h2 => HLO.out j h1 h2 (by rw [HLA.out] at h1; exact h1)⟩, fun _ => rfl⟩, hbw⟩
set_option maxHeartbeats 800000 in
theorem within_at {w : World} (ma mb : Int) (b1 b2 : Option Addr) (k1 k2 : Nat) (la lb : List Int) (hla : la.length ≤ 1000) (hlb : lb.length ≤ 1000) (ha : NumsAt w w.heap.size b1 la) (hb : NumsAt w w.heap.size b2 lb) :
    Calls Try.prog 14 #[.agg #[.int .u64 ma, .slice b1 la.length k1], .agg #[.int .u64 mb, .slice b2 lb.length k2]] w (WithinPost w ma mb la lb) := by
  by_cases e : la.length = lb.length
  · by_cases d : mb < ma
    · clear ha hb
      rw [e]
      have E := Lib.hid e
      clear e hla
      go_enter Try.func14, Try.ntmps14
      go_wp2_with fail
      go_ret
      exact ⟨false, rfl, ⟨fun h => by simp at h, fun h => absurd h.2.1 (by omega)⟩, ((Below.refl _ _).alloc (Nat.le_refl _) _).alloc (by simp) _⟩
    · rw [e]
      exact within_same ma mb b1 b2 k1 k2 la lb lb.length e rfl hlb ha hb d
  · clear ha hb
    go_enter Try.func14, Try.ntmps14
    go_wp2_with fail
    go_ret
    exact ⟨false, rfl, ⟨fun h => by simp at h, fun h => absurd h.1 e⟩, ((Below.refl _ _).alloc (Nat.le_refl _) _).alloc (by simp) _⟩
end Go.Proofs.Yteeokbcnjibpfaa.G
