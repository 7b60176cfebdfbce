/- The law NodePlays. -/
import Derived.Test.YtjeebbolnanmkaaNPlay
import Derived.Test.YtjeebbolnanmkaaNAwake
namespace Go.Proofs.Ytjeebbolnanmkaa.N
open Go.RowKit Go.Proofs.YtjeebbolnanmkaaW.PrintMore Go.Proofs.YtjeebbolnanmkaaW.PrintWords
set_option linter.unusedVariables false
set_option linter.unusedSimpArgs false
set_option maxHeartbeats 1600000 in
set_option maxRecDepth 100000 in
theorem plays_ok {w : World} {A : Option Addr} {c : Nat} {ds : List Dd} (hd : DeedsAt w A ds) :
    Calls Try.prog 5 #[.slice A ds.length c] w fun e w' => e = .returned (.bool true) ∧ Below w.heap.size w w' := by
  have HD := Lib.hid hd
  obtain ⟨N, hN⟩ : ∃ N, ds.length = N := ⟨_, rfl⟩
  have HN := Lib.hid hN
  rw [hN]
  clear hd hN
  go_enter Try.func5, Try.ntmps5
  go_wp2_with fail
  refine (awake_ok w).mono ?_
  rintro e w1 ⟨rfl, hb1⟩
  by_cases hn : N ≤ 60
  · have hg : decide ((60 : Int) < (N : Int)) = false := by simp; omega
    have HP : Hid (Calls Try.prog 21 #[.slice A N c] w1 (PlayPost w1 (playE ds))) := by
      have := play_at (c := c) (HD.out.below hb1) (by rw [HN.out]; exact hn)
      rw [HN.out] at this
      exact this
    go_wp2_with fail
    refine HP.out.mono ?_
    rintro e w2 ⟨r, L, rfl, hr, hl, hb2, _⟩
    go_wp2_with fail
    go_ret
    exact ⟨rfl, hb1.trans (hb2.mono hb1.size)⟩
  · have hg : decide ((60 : Int) < (N : Int)) = true := by simp; omega
    go_wp2_with fail
    go_ret
    exact ⟨rfl, hb1⟩
end Go.Proofs.Ytjeebbolnanmkaa.N
