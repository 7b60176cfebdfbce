/- Grow and Concat for spots and numbers. -/
import Derived.Test.YtainljbkejafcaaNCat
namespace Go.Proofs.Ytainljbkejafcaa.N
open Go.RowKit Go.Proofs.YtainljbkejafcaaW.PrintMore Go.Proofs.YtainljbkejafcaaW.PrintWords
set_option linter.unusedVariables false
set_option linter.unusedSimpArgs false
set_option maxHeartbeats 1600000 in
set_option maxRecDepth 100000 in
theorem grow_S (w : World) (n : Nat) (hn : n ≤ 1000) : Calls Try.prog 98 #[.slice none 0 0, .int .i64 n] w fun e w' => ∃ v, e = .returned v ∧ w'.ownsRow w.heap.size 26 4 v 0 [] ∧ Below w.heap.size w w' := by
  obtain ⟨i0, hi0, hz0, hz1, hz2⟩ := info_parts infoSp
  by_cases h0 : n = 0
  · subst h0
    go_enter Try.func98, Try.ntmps98
    go_wp2_with fail
    go_ret
    exact ⟨_, rfl, ⟨rfl, .inl ⟨rfl, rfl⟩⟩, Below.refl _ _⟩
  · have e1 : (0 : Int) < (n : Int) := by omega
    have e2 : ¬ ((n : Int) < 0) := by omega
    have HR := Lib.hid (fun ty => Lib.run_append_grow_zeros w 30 3 ty 26 i0 (.agg #[.int .i64 0, .int .i64 0, .int .i64 0, .int .u64 0]) .i64 .i64 Try.underlying30 Try.underlying3 hi0 hz0 none 0 0 [] (by exact run_firstCells_none w.drew i0.size 0 0 0) n (by omega) (by omega) (by omega) (by omega) (by rw [hz2]; omega) (by rw [hz2]; exact growslice_fits (by omega) (by omega)))
    have hg1 := grownCap_ge w (0 + n) 0 26
    have hg2 := grownCap_le_maxLen w (0 + n) 0 26 (by unfold maxLen; omega)
    unfold maxLen at hg2
    generalize hG : grownCap w (0 + n) 0 26 = G at *
    have HG := Lib.hid hG
    clear hG
    have e3 : ¬ (G = 0) := by omega
    go_enter Try.func98, Try.ntmps98
    go_wp2_with (at_builtin; refine Lib.wpList_append_run _ rfl _ _ _ _ rfl _ _ rfl rfl _ _ (HR.out _) ?_)
    go_ret
    refine ⟨_, rfl, ⟨rfl, .inr ⟨w.heap.size, G, _, rfl, Nat.le_refl _, heap_alloc_new w.drew _, by omega, by simp only [maxLen]; omega, ?_, by simp⟩⟩, ((bel_drewN w.heap.size w (n := 1)).alloc (Nat.le_refl _) _)⟩
    simp only [Builtin.zeroCells, Value.cells]
    simp
    omega
set_option maxHeartbeats 3200000 in
set_option maxRecDepth 100000 in
theorem concat_S {w : World} (B cc : Nat) (ls : List (List Sp)) (hm : ls.length ≤ 4) (hl : ls.flatten.length ≤ 1000) (hB : B < w.heap.size)
    (hc : ∀ j (h : j < ls.length), ∃ A c, w.cell? ⟨B, j, none⟩ = some (.slice A (ls[j]).length c) ∧ SpotsAt w A ls[j] ∧ (A = none → (ls[j]).length = 0 ∧ c = 0)) :
    Calls Try.prog 94 #[.slice (some ⟨B, 0, none⟩) ls.length cc] w fun e w' => ∃ v, e = .returned v ∧ w'.ownsRow w.heap.size 26 4 v ls.flatten.length (sps ls.flatten) ∧ Below w.heap.size w w' := by
  have HC := Lib.hid hc
  have HL := Lib.hid hl
  clear hc hl
  obtain ⟨N, hN⟩ : ∃ N, ls.length = N := ⟨_, rfl⟩
  have HN := Lib.hid hN
  rw [hN] at hm ⊢
  clear hN
  go_enter Try.func94, Try.ntmps94
  go_wp2_with fail
  go_loop [3, 11] (fun s i => ∃ j : Nat, j ≤ N ∧ i = .int .i64 j ∧ s = .int .i64 (flen ls j : Nat)) (fun _ i => (N - intOf i).toNat)
  case atStart => exact ⟨0, Nat.zero_le _, rfl, rfl⟩
  case round =>
    obtain ⟨j, hj, rfl, rfl⟩ := hrel
    by_cases hlt : j < N
    · obtain ⟨A, c, hcell, _, _⟩ := HC.out j (by rw [HN.out]; exact hlt)
      have hb2 : flen ls (j + 1) ≤ 1000 := Nat.le_trans (flen_le ls (j + 1)) HL.out
      have he : Hid (flen ls (j + 1) = flen ls j + (ls[j]'(by rw [HN.out]; exact hlt)).length) := flen_succ ls j _
      have hb3 : flen ls j + (ls[j]'(by rw [HN.out]; exact hlt)).length ≤ 1000 := by have := he.out; omega
      generalize ls[j]'(_) = y at *
      generalize hF : flen ls (j + 1) = F at *
      have HF := Lib.hid hF
      clear hF
      generalize flen ls j = E at *
      generalize y.length = M at *
      have e1 : ¬ ((E : Int) + (M : Int) < 0) := by omega
      have e2 : (j : Int) < (N : Int) := by omega
      have e3 : (0 : Int) ≤ (j : Int) := by omega
      go_wp2_with fail
      go_round
      case rel => exact ⟨j + 1, by omega, by go_num, by rw [HF.out, he.out]; go_num⟩
      case measure => (simp [intOf] <;> omega)
    · obtain rfl : j = N := by omega
      have hfl : Hid ((ls.take j).flatten = ls.flatten) := by show _ = _; rw [List.take_of_length_le (by rw [HN.out]; exact Nat.le_refl _)]
      have hfe : Hid (flen ls j = ls.flatten.length) := by show _ = _; rw [← flen_all, HN.out]
      rw [hfe.out]
      have hb2 := HL.out
      have HG := fun W => Lib.hid (grow_S W ls.flatten.length hb2)
      generalize hE : ls.flatten.length = E at *
      have HE := Lib.hid hE
      clear hE
      go_wp2_with fail
      refine (HG _).out.mono ?_
      rintro e w1 ⟨v0, rfl, hown0, hb0⟩
      go_wp2_with fail
      go_loopw [6, 27] (fun v i wr => ∃ k : Nat, k ≤ j ∧ i = .int .i64 k ∧ wr.ownsRow w.heap.size 26 4 v (flen ls k) (sps (ls.take k).flatten) ∧ Below w.heap.size w wr) (fun _ i _ => (j - intOf i).toNat)
      case atStart => exact ⟨0, Nat.zero_le _, rfl, hown0, hb0⟩
      case round =>
        obtain ⟨k, hk, rfl, hown, hb⟩ := hrel
        have hbz := hb.size
        by_cases hlt2 : k < j
        · obtain ⟨A, c, hcell, hat, hnil⟩ := HC.out k (by rw [HN.out]; exact hlt2)
          have hcell' := (hb.cell (p := ⟨B, k, none⟩) hB).trans hcell
          have hat' := hat.below (hb.mono (Nat.le_refl _))
          have hts := Lib.hid (flat_take ls k (by rw [HN.out]; exact hlt2))
          have hb4 : flen ls (k + 1) ≤ 1000 := Nat.le_trans (by have := flen_le ls (k + 1); rw [HE.out] at this; exact this) HL.out
          have he : Hid (flen ls (k + 1) = flen ls k + (ls[k]'(by rw [HN.out]; exact hlt2)).length) := flen_succ ls k _
          have hb3 : flen ls k + (ls[k]'(by rw [HN.out]; exact hlt2)).length ≤ 1000 := by have := he.out; omega
          clear hcell hat
          generalize ls[k]'(_) = y at *
          have HT := Lib.hid hnil
          have HAt := Lib.hid hat'
          have e2 : (k : Int) < (j : Int) := by omega
          have e3 : (0 : Int) ≤ (k : Int) := by omega
          obtain ⟨M, hM⟩ : ∃ M, y.length = M := ⟨_, rfl⟩
          rw [hM] at hcell'
          have HM := Lib.hid hM
          rcases hown.2 with ⟨hv, hv0⟩ | ⟨gg, cap, cur, hv, _⟩
          all_goals
            subst hv
            clear hnil hat' hM
            try clear hv0
            go_wp2_with (at_builtin; refine wpList_plain rfl fun _ hK => ?_; refine app_S (.tmp 31) (.tmp 32) rfl w.heap.size _ _ _ (by rfl) hown A M c y (by rfl) HM.out HAt.out (by rw [← HM.out]; exact HT.out) _ rfl (by rw [← HM.out]; omega) hbz ?_; intro A1 c1 w2 hown2 hgr2 hat2 hbl2; refine hK _ _ ?_)
            go_roundw
            case rel => exact ⟨k + 1, by omega, by go_num, by rw [hts.out, he.out, HM.out]; exact hown2, hb.trans hbl2⟩
            case measure => (simp [intOf] <;> omega)
        · obtain rfl : k = j := by omega
          go_wp2_with fail
          go_ret
          rw [hfl.out, hfe.out] at hown
          exact ⟨_, rfl, by rw [HE.out]; exact hown, hb⟩
set_option maxHeartbeats 1600000 in
set_option maxRecDepth 100000 in
theorem grow_U (w : World) (n : Nat) (hn : n ≤ 1000) : Calls Try.prog 99 #[.slice none 0 0, .int .i64 n] w fun e w' => ∃ v, e = .returned v ∧ w'.ownsRow w.heap.size 24 1 v 0 [] ∧ Below w.heap.size w w' := by
  obtain ⟨i0, hi0, hz0, hz1, hz2⟩ := info_parts infoU
  by_cases h0 : n = 0
  · subst h0
    go_enter Try.func99, Try.ntmps99
    go_wp2_with fail
    go_ret
    exact ⟨_, rfl, ⟨rfl, .inl ⟨rfl, rfl⟩⟩, Below.refl _ _⟩
  · have e1 : (0 : Int) < (n : Int) := by omega
    have e2 : ¬ ((n : Int) < 0) := by omega
    have HR := Lib.hid (fun ty => Lib.run_append_grow_zeros w 32 3 ty 24 i0 (.int .u64 0) .i64 .i64 Try.underlying32 Try.underlying3 hi0 hz0 none 0 0 [] (by exact run_firstCells_none w.drew i0.size 0 0 0) n (by omega) (by omega) (by omega) (by omega) (by rw [hz2]; omega) (by rw [hz2]; exact growslice_fits (by omega) (by omega)))
    have hg1 := grownCap_ge w (0 + n) 0 24
    have hg2 := grownCap_le_maxLen w (0 + n) 0 24 (by unfold maxLen; omega)
    unfold maxLen at hg2
    generalize hG : grownCap w (0 + n) 0 24 = G at *
    have HG := Lib.hid hG
    clear hG
    have e3 : ¬ (G = 0) := by omega
    go_enter Try.func99, Try.ntmps99
    go_wp2_with (at_builtin; refine Lib.wpList_append_run _ rfl _ _ _ _ rfl _ _ rfl rfl _ _ (HR.out _) ?_)
    go_ret
    refine ⟨_, rfl, ⟨rfl, .inr ⟨w.heap.size, G, _, rfl, Nat.le_refl _, heap_alloc_new w.drew _, by omega, by simp only [maxLen]; omega, ?_, by simp⟩⟩, ((bel_drewN w.heap.size w (n := 1)).alloc (Nat.le_refl _) _)⟩
    simp only [Builtin.zeroCells, Value.cells]
    simp
    omega
set_option maxHeartbeats 3200000 in
set_option maxRecDepth 100000 in
theorem concat_U {w : World} (B cc : Nat) (ls : List (List Int)) (hm : ls.length ≤ 4) (hl : ls.flatten.length ≤ 1000) (hB : B < w.heap.size)
    (hc : ∀ j (h : j < ls.length), ∃ A c, w.cell? ⟨B, j, none⟩ = some (.slice A (ls[j]).length c) ∧ ValsAt w A ls[j] ∧ (A = none → (ls[j]).length = 0 ∧ c = 0)) :
    Calls Try.prog 95 #[.slice (some ⟨B, 0, none⟩) ls.length cc] w fun e w' => ∃ v, e = .returned v ∧ w'.ownsRow w.heap.size 24 1 v ls.flatten.length (u64s ls.flatten) ∧ Below w.heap.size w w' := by
  have HC := Lib.hid hc
  have HL := Lib.hid hl
  clear hc hl
  obtain ⟨N, hN⟩ : ∃ N, ls.length = N := ⟨_, rfl⟩
  have HN := Lib.hid hN
  rw [hN] at hm ⊢
  clear hN
  go_enter Try.func95, Try.ntmps95
  go_wp2_with fail
  go_loop [3, 11] (fun s i => ∃ j : Nat, j ≤ N ∧ i = .int .i64 j ∧ s = .int .i64 (flen ls j : Nat)) (fun _ i => (N - intOf i).toNat)
  case atStart => exact ⟨0, Nat.zero_le _, rfl, rfl⟩
  case round =>
    obtain ⟨j, hj, rfl, rfl⟩ := hrel
    by_cases hlt : j < N
    · obtain ⟨A, c, hcell, _, _⟩ := HC.out j (by rw [HN.out]; exact hlt)
      have hb2 : flen ls (j + 1) ≤ 1000 := Nat.le_trans (flen_le ls (j + 1)) HL.out
      have he : Hid (flen ls (j + 1) = flen ls j + (ls[j]'(by rw [HN.out]; exact hlt)).length) := flen_succ ls j _
      have hb3 : flen ls j + (ls[j]'(by rw [HN.out]; exact hlt)).length ≤ 1000 := by have := he.out; omega
      generalize ls[j]'(_) = y at *
      generalize hF : flen ls (j + 1) = F at *
      have HF := Lib.hid hF
      clear hF
      generalize flen ls j = E at *
      generalize y.length = M at *
      have e1 : ¬ ((E : Int) + (M : Int) < 0) := by omega
      have e2 : (j : Int) < (N : Int) := by omega
      have e3 : (0 : Int) ≤ (j : Int) := by omega
      go_wp2_with fail
      go_round
      case rel => exact ⟨j + 1, by omega, by go_num, by rw [HF.out, he.out]; go_num⟩
      case measure => (simp [intOf] <;> omega)
    · obtain rfl : j = N := by omega
      have hfl : Hid ((ls.take j).flatten = ls.flatten) := by show _ = _; rw [List.take_of_length_le (by rw [HN.out]; exact Nat.le_refl _)]
      have hfe : Hid (flen ls j = ls.flatten.length) := by show _ = _; rw [← flen_all, HN.out]
      rw [hfe.out]
      have hb2 := HL.out
      have HG := fun W => Lib.hid (grow_U W ls.flatten.length hb2)
      generalize hE : ls.flatten.length = E at *
      have HE := Lib.hid hE
      clear hE
      go_wp2_with fail
      refine (HG _).out.mono ?_
      rintro e w1 ⟨v0, rfl, hown0, hb0⟩
      go_wp2_with fail
      go_loopw [6, 27] (fun v i wr => ∃ k : Nat, k ≤ j ∧ i = .int .i64 k ∧ wr.ownsRow w.heap.size 24 1 v (flen ls k) (u64s (ls.take k).flatten) ∧ Below w.heap.size w wr) (fun _ i _ => (j - intOf i).toNat)
      case atStart => exact ⟨0, Nat.zero_le _, rfl, hown0, hb0⟩
      case round =>
        obtain ⟨k, hk, rfl, hown, hb⟩ := hrel
        have hbz := hb.size
        by_cases hlt2 : k < j
        · obtain ⟨A, c, hcell, hat, hnil⟩ := HC.out k (by rw [HN.out]; exact hlt2)
          have hcell' := (hb.cell (p := ⟨B, k, none⟩) hB).trans hcell
          have hat' := hat.below (hb.mono (Nat.le_refl _))
          have hts := Lib.hid (flat_take ls k (by rw [HN.out]; exact hlt2))
          have hb4 : flen ls (k + 1) ≤ 1000 := Nat.le_trans (by have := flen_le ls (k + 1); rw [HE.out] at this; exact this) HL.out
          have he : Hid (flen ls (k + 1) = flen ls k + (ls[k]'(by rw [HN.out]; exact hlt2)).length) := flen_succ ls k _
          have hb3 : flen ls k + (ls[k]'(by rw [HN.out]; exact hlt2)).length ≤ 1000 := by have := he.out; omega
          clear hcell hat
          generalize ls[k]'(_) = y at *
          have HT := Lib.hid hnil
          have HAt := Lib.hid hat'
          have e2 : (k : Int) < (j : Int) := by omega
          have e3 : (0 : Int) ≤ (k : Int) := by omega
          obtain ⟨M, hM⟩ : ∃ M, y.length = M := ⟨_, rfl⟩
          rw [hM] at hcell'
          have HM := Lib.hid hM
          rcases hown.2 with ⟨hv, hv0⟩ | ⟨gg, cap, cur, hv, _⟩
          all_goals
            subst hv
            clear hnil hat' hM
            try clear hv0
            go_wp2_with (at_builtin; refine wpList_plain rfl fun _ hK => ?_; refine app_U (.tmp 31) (.tmp 32) rfl w.heap.size _ _ _ (by rfl) hown A M c y (by rfl) HM.out HAt.out (by rw [← HM.out]; exact HT.out) _ rfl (by rw [← HM.out]; omega) hbz ?_; intro A1 c1 w2 hown2 hgr2 hat2 hbl2; refine hK _ _ ?_)
            go_roundw
            case rel => exact ⟨k + 1, by omega, by go_num, by rw [hts.out, he.out, HM.out]; exact hown2, hb.trans hbl2⟩
            case measure => (simp [intOf] <;> omega)
        · obtain rfl : k = j := by omega
          go_wp2_with fail
          go_ret
          rw [hfl.out, hfe.out] at hown
          exact ⟨_, rfl, by rw [HE.out]; exact hown, hb⟩
end Go.Proofs.Ytainljbkejafcaa.N
