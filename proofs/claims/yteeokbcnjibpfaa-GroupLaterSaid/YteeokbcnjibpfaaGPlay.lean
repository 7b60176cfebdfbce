/- The walk of play. -/
import Derived.Test.YteeokbcnjibpfaaGBoth
namespace Go.Proofs.Yteeokbcnjibpfaa.G
open Go.RowKit Go.Proofs.YteeokbcnjibpfaaW.PrintMore Go.Proofs.YteeokbcnjibpfaaW.PrintWords
set_option linter.unusedVariables false
set_option linter.unusedSimpArgs false
/-- A slice of events below a base. -/
def EvAt (w : World) (base : Nat) (A : Option Addr) (l : List (Int × Int)) : Prop :=
  0 < l.length → ∃ b off, A = some ⟨b, off, none⟩ ∧ b < base ∧ ∀ j (h : j < l.length), w.cell? ⟨b, off + j * 2, none⟩ = some (.int .i64 l[j].1) ∧ w.cell? ⟨b, off + j * 2 + 1, none⟩ = some (.int .u64 l[j].2)
def Ranged (l : List (Int × Int)) : Prop := ∀ i (h : i < l.length), (-9223372036854775808 ≤ l[i].1 ∧ l[i].1 ≤ 9223372036854775807) ∧ 0 ≤ l[i].2 ∧ l[i].2 ≤ 18446744073709551615
theorem At.drew {w : World} {B g gv x V : Nat} {a b : List (Int × Int)} (h : At w B g gv x V a b) : At w.drew B g gv x V a b := h.below (bel_drewN _ _ (n := 1))
theorem bel_drew {B : Nat} {w w' : World} (h : Below B w.drew w') : Below B w w' := (bel_drewN B w (n := 1)).trans h
def PlayPost (w : World) (V : Nat) (l : List (Int × Int)) (e : Ending) (w' : World) : Prop := ∃ g gv x, e = .returned (.tuple #[.pointer (some ⟨g, 0, none⟩), .pointer (some ⟨x, 0, none⟩), .int .i64 1]) ∧ At w' w.heap.size g gv x V (accs V l) (accs V l) ∧ Below w.heap.size w w'
theorem addE_in (V : Nat) (a : List (Int × Int)) (vol num : Int) : 0 ≤ addE V a vol num ∧ addE V a vol num ≤ 15 := by
  unfold addE; split
  · omega
  · split <;> omega
theorem addE_low (V : Nat) (a : List (Int × Int)) (vol num : Int) (h : vol < -1) : addE V a vol num = 2 := if_pos (.inl h)
def PlayRel (w : World) (g gv x V : Nat) (l : List (Int × Int)) (ok i : Value) (wr : World) : Prop := ok = .int .i64 1 ∧ ∃ k : Nat, i = .int .i64 k ∧ k ≤ l.length ∧ Below w.heap.size w wr ∧ At wr w.heap.size g gv x V (accs V (l.take k)) (accs V (l.take k))
set_option maxHeartbeats 3200000 in
set_option maxRecDepth 100000 in
theorem play_at (v : Int) (V : Nat) (A : Option Addr) (c : Nat) (l : List (Int × Int)) (w : World) (hv : -9223372036854775808 ≤ v) (hv' : v ≤ 9223372036854775807) (hV : volsOf v = V) (hl : l.length ≤ 100) (hA : EvAt w w.heap.size A l) (hR : Ranged l) :
    Calls Try.prog 12 #[.int .i64 v, .slice A l.length c] w (PlayPost w V l) := by
  have HA := Lib.hid hA
  have HR := Lib.hid hR
  have hV8 : V ≤ 8 := hV ▸ volsOf_le v
  have HV := Lib.hid hV
  clear hA hR hV
  go_enter Try.func12, Try.ntmps12
  go_wp2_with (first | (go_at_call 19; refine (new_at v V _ HV.out hv hv').mono ?_; rintro e w1 ⟨g, gv, rfl, hg1, hb1⟩) | (go_at_call 22; refine (rnew_at v V _ HV.out hv hv').mono ?_; rintro e w2 ⟨x, rfl, hx2, hr2, hb2⟩))
  have h0 : At w2 w.heap.size g gv x V [] [] := ⟨_, _, both_new hg1 hb1.size hr2 hx2 hb2⟩
  have hB : Below w.heap.size w w2 := hb1.trans (hb2.mono hb1.size)
  clear hg1 hr2 hb1 hb2
  go_loopw [9, 10] (fun ok i wr => PlayRel w g gv x V l ok i wr) (fun _ i _ => (l.length - intOf i).toNat)
  case atStart => exact ⟨rfl, 0, rfl, by omega, hB, h0⟩
  case round =>
    obtain ⟨rfl, k, rfl, hk, hb, hat⟩ := hrel
    by_cases cc : k < l.length
    · obtain ⟨b, off, rfl, hlt, hcs⟩ := HA.out (by omega)
      have hacc := accs_good V (l.take k)
      have hlen : (accs V (l.take k)).length ≤ 1000 := by have := accs_len V (l.take k); simp at this; omega
      obtain ⟨vol, num, y1, y2, r1, r2, r3, r4, st⟩ : ∃ vol num, wr.cell? ⟨b, off + k * 2, none⟩ = some (.int .i64 vol) ∧ wr.cell? ⟨b, off + k * 2 + 1, none⟩ = some (.int .u64 num) ∧ -9223372036854775808 ≤ vol ∧ vol ≤ 9223372036854775807 ∧ 0 ≤ num ∧ num ≤ 18446744073709551615 ∧ accs V (l.take (k + 1)) = stepAcc V (accs V (l.take k)) (vol, num) :=
        ⟨l[k].1, l[k].2, (hb.cell (p := ⟨b, off + k * 2, none⟩) hlt).trans (hcs k cc).1, (hb.cell (p := ⟨b, off + k * 2 + 1, none⟩) hlt).trans (hcs k cc).2, (HR.out k cc).1.1, (HR.out k cc).1.2, (HR.out k cc).2.1, (HR.out k cc).2.2, accs_step V l k cc⟩
      generalize accs V (l.take k) = acc at *
      have ST := Lib.hid st
      have HG := Lib.hid hacc
      have HL := Lib.hid hlen
      have HAT := Lib.hid hat
      have e1 : (0 : Int) ≤ (k : Int) := by omega
      have e2 : (k : Int) < (l.length : Int) := by omega
      obtain ⟨n1, n2⟩ := addE_in V acc vol num
      have HN1 := Lib.hid n1
      clear st hacc hlen hat hcs
      by_cases d : vol = -1
      · subst d
        go_wp2_with (first | (go_at_call 21; refine (at_barrier HAT.out HG.out HL.out num r3 r4).mono ?_; rintro e w1 ⟨rfl, ha1, hb1⟩; have y1' := (hb1.cell (p := ⟨b, off + k * 2, none⟩) hlt).trans y1; have y2' := (hb1.cell (p := ⟨b, off + k * 2 + 1, none⟩) hlt).trans y2))
        go_region_with (first | (go_at_call 23; refine (at_add ha1.drew HL.out (-1) num (by omega) (by omega) hV8 r3 r4).mono ?_; rintro e w3 ⟨rfl, ha3, hb3⟩; replace hb3 := bel_drew hb3))
        all_goals (go_wp2_with fail; go_roundw; (case rel => exact ⟨rfl, k + 1, by simp, by omega, (hb.trans hb1).trans hb3, by rw [ST.out]; exact ha3⟩); (case measure => simp [intOf]; omega))
      · by_cases d2 : vol < -1
        · have D : (vol == -1) = false := by simpa using d
          have ES := Lib.hid (addE_low V acc vol num d2)
          go_wp2_with fail
          go_region_with (first | (go_at_call 20; refine (at_low HAT.out.drew vol num (by omega) r1 hV8 r3 r4).mono ?_; rintro e w1 ⟨rfl, ha1, hb1⟩; replace hb1 := bel_drew hb1; have y1' := (hb1.cell (p := ⟨b, off + k * 2, none⟩) hlt).trans y1; have y2' := (hb1.cell (p := ⟨b, off + k * 2 + 1, none⟩) hlt).trans y2))
          all_goals (go_wp2_with fail; go_roundw; (case rel => exact ⟨rfl, k + 1, by simp, by omega, hb.trans hb1, by rw [ST.out, stepAcc_no (by rw [ES.out]; decide)]; exact ha1⟩); (case measure => simp [intOf]; omega))
        · have D : (vol == -1) = false := by simpa using d
          have d3 : 0 ≤ vol := by omega
          go_wp2_with fail
          go_region_with (first | (go_at_call 20; refine (at_wrote HAT.out.drew HG.out HL.out vol num d3 r2 hV8 r3 r4).mono ?_; rintro e w1 ⟨rfl, ha1, hb1⟩; replace hb1 := bel_drew hb1; have y1' := (hb1.cell (p := ⟨b, off + k * 2, none⟩) hlt).trans y1; have y2' := (hb1.cell (p := ⟨b, off + k * 2 + 1, none⟩) hlt).trans y2))
          all_goals (
            go_wp2_with fail
            go_region_with (first | (go_at_call 23; refine (at_add ha1.drew HL.out vol num (by omega) (by omega) hV8 r3 r4).mono ?_; rintro e w3 ⟨rfl, ha3, hb3⟩; replace hb3 := bel_drew hb3))
            all_goals (go_wp2_with fail; go_roundw; (case rel => exact ⟨rfl, k + 1, by simp, by omega, (hb.trans hb1).trans hb3, by rw [ST.out]; exact ha3⟩); (case measure => simp [intOf]; omega))
            )
    · obtain rfl : k = l.length := by omega
      go_wp2_with fail
      go_ret3
      exact ⟨g, gv, x, rfl, by simpa using hat, hb⟩
end Go.Proofs.Yteeokbcnjibpfaa.G
