/- The walk of GroupHolds. -/
import Derived.Test.YteeokbcnjibpfaaGLaw
namespace Go.Proofs.Yteeokbcnjibpfaa.G
open Go.RowKit Go.Proofs.YteeokbcnjibpfaaW.PrintMore Go.Proofs.YteeokbcnjibpfaaW.PrintWords
set_option linter.unusedVariables false
set_option linter.unusedSimpArgs false
/-- What holds of the first n places. -/
def UpTo (la lb : List Int) (n : Nat) : Prop := ∀ j (h1 : j < la.length) (h2 : j < lb.length), j < n → la[j] ≤ lb[j]
def HoldsT (ma mb : Int) (la lb : List Int) (N M n : Nat) (t : Bool) : Prop := t = true ↔ N = M ∧ ma ≤ mb ∧ UpTo la lb n
def HoldsRel (w1 : World) (ma mb : Int) (la lb : List Int) (N M : Nat) (want i : Value) (wr : World) : Prop := ∃ (n : Nat) (t : Bool), i = .int .i64 n ∧ n ≤ N ∧ n ≤ M ∧ want = .bool t ∧ HoldsT ma mb la lb N M n t ∧ Below w1.heap.size w1 wr
theorem upTo_succ {la lb : List Int} {n : Nat} (h1 : n < la.length) (h2 : n < lb.length) : UpTo la lb (n + 1) ↔ UpTo la lb n ∧ la[n] ≤ lb[n] :=
  ⟨fun h => ⟨fun j a b c => h j a b (by omega), h n h1 h2 (by omega)⟩, fun h j a b c => if e : j = n then by subst e; exact h.2 else h.1 j a b (by omega)⟩
theorem holds_step {w1 wr : World} {ma mb : Int} {la lb : List Int} {N M n : Nat} {t : Bool} (t' : Bool) (q : Nat) (hbw : Below w1.heap.size w1 wr) (h1 : n < la.length) (h2 : n < lb.length) (hN : n < N) (hM : n < M) (ht : HoldsT ma mb la lb N M n t) (he : t' = (t && decide (la[n] ≤ lb[n]))) :
    HoldsRel w1 ma mb la lb N M (.bool t') (.int .i64 ((n : Int) + 1)) (wr.drewN q) := by
  refine ⟨n + 1, t', by simp, by omega, by omega, rfl, ?_, hbw.trans (bel_drewN _ _)⟩
  unfold HoldsT at ht ⊢
  subst he
  rw [upTo_succ h1 h2]
  simp only [Bool.and_eq_true, decide_eq_true_eq, ht]
  exact ⟨fun ⟨⟨a, b, c⟩, d⟩ => ⟨a, b, c, d⟩, fun ⟨a, b, c, d⟩ => ⟨⟨a, b, c⟩, d⟩⟩
theorem holds_end {ma mb : Int} {la lb : List Int} {N M n : Nat} {t b : Bool} (hla : la.length = N) (hlb : lb.length = M) (h1 : n ≤ N) (h2 : n ≤ M) (hn : n = N ∨ n = M) (ht : HoldsT ma mb la lb N M n t) (hb : b = true ↔ WithinP ma mb la lb) : b = t := by
  rw [Bool.eq_iff_iff, hb]
  unfold HoldsT at ht
  rw [ht]
  subst hla hlb
  unfold WithinP
  exact ⟨fun ⟨a, b, c⟩ => ⟨a, b, fun j h1 h2 _ => c j h1 h2⟩, fun ⟨a, b, c⟩ => ⟨a, b, fun j h1 h2 => c j h1 h2 (by omega)⟩⟩
theorem within_any {w w' : World} (hw : Below w.heap.size w w') (ma mb : Int) (b1 b2 : Option Addr) (k1 k2 : Nat) (la lb : List Int) {N M : Nat} (hla : la.length = N) (hlb : lb.length = M) (hN : N ≤ 1000) (hM : M ≤ 1000) (ha : NumsAt w w.heap.size b1 la) (hb : NumsAt w w.heap.size b2 lb) :
    Calls Try.prog 14 #[.agg #[.int .u64 ma, .slice b1 N k1], .agg #[.int .u64 mb, .slice b2 M k2]] w' (WithinPost w' ma mb la lb) := by
  subst hla hlb
  exact within_at ma mb b1 b2 k1 k2 la lb hN hM ((ha.below hw).lift hw.size) ((hb.below hw).lift hw.size)
set_option maxHeartbeats 3200000 in
set_option maxRecDepth 100000 in
theorem holds_at (ma mb : Int) (A1 A2 : Option Addr) (k1 k2 : Nat) (la lb : List Int) (N M : Nat) (w : World) (ha : NumsAt w w.heap.size A1 la) (hb : NumsAt w w.heap.size A2 lb) (hla : la.length = N) (hlb : lb.length = M) (hN : N ≤ maxLen) (hM : M ≤ maxLen) :
    Calls Try.prog 5 #[.agg #[.int .u64 ma, .slice A1 N k1], .agg #[.int .u64 mb, .slice A2 M k2]] w fun e w' => e = .returned (.bool true) ∧ Below w.heap.size w w' := by
  have HA := Lib.hid ha
  have HB := Lib.hid hb
  have HLA := Lib.hid hla
  have HLB := Lib.hid hlb
  simp only [maxLen] at hN hM
  clear ha hb hla hlb
  go_enter Try.func5, Try.ntmps5
  go_wp2_with fail
  refine (awake_ok _).mono ?_
  rintro e w1 ⟨rfl, hb1⟩
  have z0 : w.heap.size + 1 + 1 ≤ w1.heap.size := by have := hb1.size; simpa using this
  have g0 : w1.heap[w.heap.size]? = some (.cells #[.int .u64 ma, .slice A1 N k1] 31) := by
    rw [hb1.block _ (by simp; omega), Below.heap_alloc _ _ _ (by simp), heap_alloc_new]
  have g1 : w1.heap[w.heap.size + 1]? = some (.cells #[.int .u64 mb, .slice A2 M k2] 31) := by
    rw [hb1.block _ (by simp)]
    have := heap_alloc_new (w.alloc (.cells #[.int .u64 ma, .slice A1 N k1] 31)) (.cells #[.int .u64 mb, .slice A2 M k2] 31)
    simpa using this
  have hB : Below w.heap.size w w1 := ((Below.refl _ _).alloc (Nat.le_refl _) _ |>.alloc (by simp) _).trans (hb1.mono (by simp; omega))
  clear hb1
  have c00 : w1.cell? ⟨w.heap.size, 0, none⟩ = some (.int .u64 ma) := by simp [World.cell?, g0]
  have c01 : w1.cell? ⟨w.heap.size, 1, none⟩ = some (.slice A1 N k1) := by simp [World.cell?, g0]
  have c10 : w1.cell? ⟨w.heap.size + 1, 0, none⟩ = some (.int .u64 mb) := by simp [World.cell?, g1]
  have c11 : w1.cell? ⟨w.heap.size + 1, 1, none⟩ = some (.slice A2 M k2) := by simp [World.cell?, g1]
  clear g0 g1
  by_cases d1 : 20 < N
  · go_wp2_with fail
    go_ret
    exact ⟨rfl, hB⟩
  by_cases d2 : 20 < M
  · go_wp2_with fail
    go_ret
    exact ⟨rfl, hB⟩
  by_cases d3 : N = M
  · subst d3
    go_wp2_with fail
    go_loopw [5, 6] (fun want i wr => HoldsRel w1 ma mb la lb N N want i wr) (fun _ i _ => (N - intOf i).toNat)
    case atStart => exact ⟨0, _, rfl, by omega, by omega, rfl, ⟨fun h => ⟨rfl, by simpa using h, fun j _ _ h => absurd h (by omega)⟩, fun h => by simpa using h.2.1⟩, Below.refl _ _⟩
    case round =>
      obtain ⟨n, t, rfl, hn, hm, rfl, HT, hbw⟩ := hrel
      obtain ⟨bc, bf⟩ := bcell hbw
      have zz := hbw.size
      have HW := hB.trans (hbw.mono hB.size)
      have q00 := (bc w.heap.size 0 (by omega)).trans c00
      have q01 := (bc w.heap.size 1 (by omega)).trans c01
      have q10 := (bc (w.heap.size + 1) 0 (by omega)).trans c10
      have q11 := (bc (w.heap.size + 1) 1 (by omega)).trans c11
      clear bc bf
      by_cases cn : n < N
      · by_cases cm : n < N
        · have hna : n < la.length := by rw [HLA.out]; exact cn
          have hnb : n < lb.length := by rw [HLB.out]; exact cm
          obtain ⟨a1, o1, rfl, l1, p1⟩ := HA.out (by omega)
          obtain ⟨a2, o2, rfl, l2, p2⟩ := HB.out (by omega)
          have x1 := (HW.cell (p := ⟨a1, o1 + n, none⟩) l1).trans (p1 n hna)
          have x2 := (HW.cell (p := ⟨a2, o2 + n, none⟩) l2).trans (p2 n hnb)
          have e1 : (0 : Int) ≤ (n : Int) := by omega
          have e2 : (n : Int) < (N : Int) := by omega
          have e3 : (n : Int) < (N : Int) := by omega
          clear p1 p2
          cases t
          · go_wp2_with fail
            go_quiet (fail)
            go_wp2_with fail
            go_roundw
            case rel => exact holds_step _ _ hbw hna hnb cn cm HT (by simp)
            case measure => simp [intOf]; omega
          · by_cases cd : la[n] ≤ lb[n]
            · go_wp2_with fail
              go_quiet (fail)
              go_wp2_with fail
              go_roundw
              case rel => exact holds_step _ _ hbw hna hnb cn cm HT (by simp; omega)
              case measure => simp [intOf]; omega
            · go_wp2_with fail
              go_quiet (fail)
              go_wp2_with fail
              go_roundw
              case rel => exact holds_step _ _ hbw hna hnb cn cm HT (by simp)
              case measure => simp [intOf]; omega
        · exact absurd cn cm
      · have CN := Lib.hid (show n = N ∨ n = N by omega)
        (
          go_wp2_with fail
          refine (within_any HW ma mb A1 A2 k1 k2 la lb HLA.out HLB.out (by omega) (by omega) HA.out HB.out).mono ?_
          rintro e w2 ⟨b, rfl, hiff, hb2⟩
          obtain rfl := holds_end HLA.out HLB.out hn hm CN.out HT hiff
          clear HT hiff
          have hF := HW.trans (hb2.mono HW.size)
          cases b
          · go_wp2_with fail
            go_ret
            exact ⟨rfl, hF⟩
          · go_wp2_with fail
            go_ret
            exact ⟨rfl, hF⟩
        )
  · go_wp2_with fail
    go_loopw [5, 6] (fun want i wr => HoldsRel w1 ma mb la lb N M want i wr) (fun _ i _ => (N - intOf i).toNat)
    case atStart => exact ⟨0, _, rfl, by omega, by omega, rfl, ⟨fun h => by simp at h, fun h => absurd h.1 d3⟩, Below.refl _ _⟩
    case round =>
      obtain ⟨n, t, rfl, hn, hm, rfl, HT, hbw⟩ := hrel
      obtain ⟨bc, bf⟩ := bcell hbw
      have zz := hbw.size
      have HW := hB.trans (hbw.mono hB.size)
      have q00 := (bc w.heap.size 0 (by omega)).trans c00
      have q01 := (bc w.heap.size 1 (by omega)).trans c01
      have q10 := (bc (w.heap.size + 1) 0 (by omega)).trans c10
      have q11 := (bc (w.heap.size + 1) 1 (by omega)).trans c11
      clear bc bf
      by_cases cn : n < N
      · by_cases cm : n < M
        · have hna : n < la.length := by rw [HLA.out]; exact cn
          have hnb : n < lb.length := by rw [HLB.out]; exact cm
          obtain ⟨a1, o1, rfl, l1, p1⟩ := HA.out (by omega)
          obtain ⟨a2, o2, rfl, l2, p2⟩ := HB.out (by omega)
          have x1 := (HW.cell (p := ⟨a1, o1 + n, none⟩) l1).trans (p1 n hna)
          have x2 := (HW.cell (p := ⟨a2, o2 + n, none⟩) l2).trans (p2 n hnb)
          have e1 : (0 : Int) ≤ (n : Int) := by omega
          have e2 : (n : Int) < (N : Int) := by omega
          have e3 : (n : Int) < (M : Int) := by omega
          clear p1 p2
          cases t
          · go_wp2_with fail
            go_quiet (fail)
            go_wp2_with fail
            go_roundw
            case rel => exact holds_step _ _ hbw hna hnb cn cm HT (by simp)
            case measure => simp [intOf]; omega
          · by_cases cd : la[n] ≤ lb[n]
            · go_wp2_with fail
              go_quiet (fail)
              go_wp2_with fail
              go_roundw
              case rel => exact holds_step _ _ hbw hna hnb cn cm HT (by simp; omega)
              case measure => simp [intOf]; omega
            · go_wp2_with fail
              go_quiet (fail)
              go_wp2_with fail
              go_roundw
              case rel => exact holds_step _ _ hbw hna hnb cn cm HT (by simp)
              case measure => simp [intOf]; omega
        · first
          | skip
          have CN := Lib.hid (show n = N ∨ n = M by omega)
          go_wp2_with fail
          refine (within_any HW ma mb A1 A2 k1 k2 la lb HLA.out HLB.out (by omega) (by omega) HA.out HB.out).mono ?_
          rintro e w2 ⟨b, rfl, hiff, hb2⟩
          obtain rfl := holds_end HLA.out HLB.out hn hm CN.out HT hiff
          clear HT hiff
          have hF := HW.trans (hb2.mono HW.size)
          cases b
          · go_wp2_with fail
            go_ret
            exact ⟨rfl, hF⟩
          · go_wp2_with fail
            go_ret
            exact ⟨rfl, hF⟩
      · have CN := Lib.hid (show n = N ∨ n = M by omega)
        (
          go_wp2_with fail
          refine (within_any HW ma mb A1 A2 k1 k2 la lb HLA.out HLB.out (by omega) (by omega) HA.out HB.out).mono ?_
          rintro e w2 ⟨b, rfl, hiff, hb2⟩
          obtain rfl := holds_end HLA.out HLB.out hn hm CN.out HT hiff
          clear HT hiff
          have hF := HW.trans (hb2.mono HW.size)
          cases b
          · go_wp2_with fail
            go_ret
            exact ⟨rfl, hF⟩
          · go_wp2_with fail
            go_ret
            exact ⟨rfl, hF⟩
        )
end Go.Proofs.Yteeokbcnjibpfaa.G
