/- The walk of SegmentLies: it answers true, whatever the two bytes and the number. -/
import Derived.Test.YtpmcohpffbhknaaSLies
import Derived.Test.YtpmcohpffbhknaaSPure
import Derived.Deep.RegionHeld3
namespace Go.Proofs.Ytpmcohpffbhknaa.S
open Go.RowKit Go.Proofs.Ytpmcohpffbhknaa.PSegmentLies Go.Proofs.Ytpmcohpffbhknaa.SP
set_option linter.unusedVariables false
set_option linter.unusedSimpArgs false
theorem bcell {W w1 : World} (hb : Below W.heap.size W w1) : (∀ b o, b < W.heap.size → w1.cell? ⟨b, o, none⟩ = W.cell? ⟨b, o, none⟩) ∧ (∀ b o, b < W.heap.size → w1.frozen? ⟨b, o, none⟩ = W.frozen? ⟨b, o, none⟩) :=
  ⟨fun b o h => hb.cell (p := ⟨b, o, none⟩) h, fun b o h => hb.frozen (p := ⟨b, o, none⟩) h⟩
set_option maxHeartbeats 3200000 in
set_option maxRecDepth 100000 in
theorem law_at (x y n : Int) (w : World) (hx : 0 ≤ x) (hx' : x ≤ 255) (hy : 0 ≤ y) (hy' : y ≤ 255) :
    Calls Try.prog 9 #[.int .u8 x, .int .u8 y, .int .i64 n] w fun e w' => e = .returned (.bool true) ∧ Below w.heap.size w w' := by
  have aw := Lib.hid awake_ok
  obtain ⟨a, ha⟩ : ∃ a : Nat, (a : Int) = 3 + x % 62 := ⟨(3 + x % 62).toNat, by omega⟩
  obtain ⟨b, hb⟩ : ∃ b : Nat, (b : Int) = 1 + y % 32 := ⟨(1 + y % 32).toNat, by omega⟩
  have hok : Hid (ok a b) := by show ok a b; unfold ok; omega
  have ea : Hid (3 + x % 62 = (a : Int)) := ha.symm
  have eb : Hid (1 + y % 32 = (b : Int)) := hb.symm
  have a1 : 3 ≤ a := by omega
  have a2 : a ≤ 64 := by omega
  have b1 : 1 ≤ b := by omega
  have b2 : b ≤ 32 := by omega
  clear ha hb
  go_enter Try.func9, Try.ntmps9
  go_wp2_with fail
  refine (erewhilelaw14_awake.calls true _ aw.out).mono ?_
  rintro e w1 ⟨rfl, hb1⟩
  go_wp2_with fail
  rw [ea.out, eb.out]
  have q1 : (w1.alloc (.cells #[.int .i64 a, .int .i64 b] 23)).cell? ⟨w1.heap.size, 0, none⟩ = some (.int .i64 a) := by rw [World.cell?_alloc_at _ _ _ _ rfl]; rfl
  have q2 : (w1.alloc (.cells #[.int .i64 a, .int .i64 b] 23)).cell? ⟨w1.heap.size, 1, none⟩ = some (.int .i64 b) := by rw [World.cell?_alloc_at _ _ _ _ rfl]; rfl
  have q3 : w1.heap.size < (w1.alloc (.cells #[.int .i64 a, .int .i64 b] 23)).heap.size := by simp
  have B1 : Below w.heap.size w (w1.alloc (.cells #[.int .i64 a, .int .i64 b] 23)) := hb1.alloc hb1.size _
  generalize w1.alloc (.cells #[.int .i64 a, .int .i64 b] 23) = W at *
  generalize w1.heap.size = g0 at *
  clear hb1 ea eb hx hx' hy hy'
  refine (lies_ok a b _ a2 b2).mono ?_
  rintro e w2 ⟨v, rfl, hown, hb2⟩
  obtain ⟨g, cap, cur, rfl, hg, hh, hn, hcap, hcs, hct⟩ := hown.2.resolve_left (fun h => by omega)
  have hat := hown.cellAt
  obtain ⟨hc2, hf2⟩ := bcell hb2
  have q4 : g0 < w2.heap.size := by have := hb2.size; omega
  have hgl : g < w2.heap.size := (Array.getElem?_eq_some_iff.1 hh).1
  have hm := SP.mulb (i := (a : Int)) (b := (b : Int)) (by omega) (by omega) (by omega) (by omega)
  have ecast : ((a * b : Nat) : Int) = (a : Int) * (b : Int) := Int.natCast_mul a b
  have hmn : a * b ≤ 2048 := by omega
  have B2 := B1.trans (hb2.mono B1.size)
  have hcat := Lib.hid hat
  have hlen : Hid (2 + (a : Int) * (b : Int) = ((a * b + 2 : Nat) : Int)) := by show _ = _; omega
  clear hat hown hh hn hcap hcs hct
  go_wp2_with fail
  refine (segment_Shape_Sectors.calls a b (2 + (a : Int) * (b : Int)) _ (sectors_yes hok.out)).mono ?_
  rintro e w3 ⟨rfl, hb3⟩
  rw [hlen.out]
  obtain ⟨hc3, hf3⟩ := bcell hb3
  have q5 : g0 < w3.heap.size := by have := hb3.size; omega
  have hgl3 : g < w3.heap.size := by have := hb3.size; omega
  have B3 := B2.trans (hb3.mono B2.size)
  clear ecast
  go_wp2_with fail
  have cases4 : n < 0 ∨ (∃ j : Nat, n = j ∧ j < 2) ∨ (∃ j : Nat, n = j ∧ 2 ≤ j ∧ j < a * b + 2) ∨ (∃ j : Nat, n = j ∧ a * b + 2 ≤ j) := by
    by_cases c : n < 0
    · exact .inl c
    · obtain ⟨j, rfl⟩ : ∃ j : Nat, n = j := ⟨n.toNat, by omega⟩
      by_cases c1 : j < 2
      · exact .inr (.inl ⟨j, rfl, c1⟩)
      · by_cases c2 : j < a * b + 2
        · exact .inr (.inr (.inl ⟨j, rfl, by omega, c2⟩))
        · exact .inr (.inr (.inr ⟨j, rfl, by omega⟩))
  rcases cases4 with c | ⟨j, rfl, c⟩ | ⟨j, rfl, c, c'⟩ | ⟨j, rfl, c⟩
  · refine (segment_Shape_Of.calls a b n 0 0 false _ (of_no (by omega))).mono ?_
    rintro e w4 ⟨rfl, hb4⟩
    go_wp2_with fail
    go_ret
    exact ⟨rfl, B3.trans (hb4.mono B3.size)⟩
  · refine (segment_Shape_Of.calls a b j 0 0 false _ (of_no (by omega))).mono ?_
    rintro e w4 ⟨rfl, hb4⟩
    have q6 : w4.cell? ⟨g, j * 2, none⟩ = some (.int .i64 (-1)) := by
      rw [(hb4.cell (p := ⟨g, j * 2, none⟩) hgl3), hc3 _ _ hgl, hcat.out _ (by omega), cellsUp_neg _ _ _ (by omega)]
    go_wp2_with fail
    go_ret
    exact ⟨rfl, B3.trans (hb4.mono B3.size)⟩
  · have facts : ∃ p r : Nat, p < a ∧ r < b ∧ segment_Shape_Of.f a b j = some ((p : Int), (r : Int), true) ∧ segment_Shape_Sector.f a b p r = some ((j : Int), true) ∧
        (cellsUp b (a * b))[j * 2]? = some (.int .i64 p) ∧ (cellsUp b (a * b))[j * 2 + 1]? = some (.int .i64 r) := by
      obtain ⟨t, rfl⟩ : ∃ t, j = t + 2 := ⟨j - 2, by omega⟩
      have ht : t < a * b := by omega
      have e0 : (((t + 2 : Nat) : Int) - 2) = (t : Int) := by omega
      have hd : (((t + 2 : Nat) : Int) - 2) / (b : Int) = ((t / b : Nat) : Int) := by rw [e0]; exact (Int.natCast_ediv t b).symm
      have hr : (((t + 2 : Nat) : Int) - 2) % (b : Int) = ((t % b : Nat) : Int) := by rw [e0]; exact (Int.natCast_emod t b).symm
      have hof := of_yes (n := ((t + 2 : Nat) : Int)) hok.out (by omega) (by have := hlen.out; omega)
      rw [hd, hr] at hof
      have d1 : t / b < a := Nat.div_lt_of_lt_mul (by rw [Nat.mul_comm]; exact ht)
      have d2 : t % b < b := Nat.mod_lt _ (by omega)
      have hdm : 2 + ((t / b : Nat) : Int) * (b : Int) + ((t % b : Nat) : Int) = ((t + 2 : Nat) : Int) := by
        have e := Nat.div_add_mod t b
        have e2 : ((b * (t / b) + t % b : Nat) : Int) = (t : Int) := by rw [e]
        rw [Int.natCast_add, Int.natCast_mul, Int.mul_comm] at e2
        omega
      have hsec := sector_yes (a := (a : Int)) (b := (b : Int)) (i := ((t / b : Nat) : Int)) (k := ((t % b : Nat) : Int)) hok.out (Int.natCast_nonneg _) (Int.ofNat_lt.2 d1) (Int.natCast_nonneg _) (Int.ofNat_lt.2 d2)
      rw [hdm] at hsec
      have hcc := cellsUp_at b (a * b) t ht
      rw [Nat.mul_comm 2 (t + 2)] at hcc
      exact ⟨_, _, d1, d2, hof, hsec, hcc.1, hcc.2⟩
    obtain ⟨p, r, d1, d2, hof, hsec, hcc1, hcc2⟩ := facts
    have hof := Lib.hid hof
    have hsec := Lib.hid hsec
    refine (segment_Shape_Of.calls a b _ _ _ _ _ hof.out).mono ?_
    rintro e w4 ⟨rfl, hb4⟩
    have q6 : w4.cell? ⟨g, j * 2, none⟩ = some (.int .i64 p) := by
      rw [(hb4.cell (p := ⟨g, j * 2, none⟩) hgl3), hc3 _ _ hgl, hcat.out _ (by omega), hcc1]
    have q7 : w4.cell? ⟨g, j * 2 + 1, none⟩ = some (.int .i64 r) := by
      rw [(hb4.cell (p := ⟨g, j * 2 + 1, none⟩) hgl3), hc3 _ _ hgl, hcat.out _ (by omega), hcc2]
    have q8 : w4.cell? ⟨g0, 0, none⟩ = some (.int .i64 a) := by rw [(hb4.cell (p := ⟨g0, 0, none⟩) q5), hc3 _ _ q4, hc2 _ _ q3, q1]
    have q9 : w4.cell? ⟨g0, 1, none⟩ = some (.int .i64 b) := by rw [(hb4.cell (p := ⟨g0, 1, none⟩) q5), hc3 _ _ q4, hc2 _ _ q3, q2]
    have B4 := B3.trans (hb4.mono B3.size)
    have l1 : g0 < w4.heap.size := by have := hb4.size; omega
    have l2 : g < w4.heap.size := by have := hb4.size; omega
    clear hc2 hf2 hc3 hf3 q1 q2 q3 q4 hgl hgl3 hcc1 hcc2 hb2 hb3 hb4 hcat
    go_wp2_with fail
    go_region_held3 (fun w' => w'.cell? ⟨g0, 0, none⟩ = some (.int .i64 a) ∧ w'.cell? ⟨g0, 1, none⟩ = some (.int .i64 b) ∧ w'.cell? ⟨g, j * 2, none⟩ = some (.int .i64 p) ∧ w'.cell? ⟨g, j * 2 + 1, none⟩ = some (.int .i64 r))
      (first | go_keep | exact ⟨k1, k2, k3, k4⟩)
      ((go_at_call 14; refine (segment_Shape_Sector.calls a b _ _ _ _ _ hsec.out).mono ?_; rintro e w5 ⟨rfl, hb5⟩; have k1 := (hb5.cell (p := ⟨g0, 0, none⟩) l1).trans q8; have k2 := (hb5.cell (p := ⟨g0, 1, none⟩) l1).trans q9; have k3 := (hb5.cell (p := ⟨g, j * 2, none⟩) l2).trans q6; have k4 := (hb5.cell (p := ⟨g, j * 2 + 1, none⟩) l2).trans q7))
    all_goals go_wp2
    all_goals go_ret
    all_goals exact ⟨rfl, B4.drew.trans (hb5.mono B4.size)⟩
  · refine (segment_Shape_Of.calls a b j 0 0 false _ (of_no (by have := hlen.out; omega))).mono ?_
    rintro e w4 ⟨rfl, hb4⟩
    go_wp2_with fail
    go_ret
    exact ⟨rfl, B3.trans (hb4.mono B3.size)⟩
end Go.Proofs.Ytpmcohpffbhknaa.S
