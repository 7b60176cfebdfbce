/- The law NodeStays. -/
import Derived.Test.YtjeebbolnanmkaaNPlay
import Derived.Test.YtjeebbolnanmkaaNAwake
import Derived.Test.YtjeebbolnanmkaaNCopy
import Derived.Test.YtjeebbolnanmkaaNCls
namespace Go.Proofs.Ytjeebbolnanmkaa.N
open Go.BigFrame Go.RowKit Go.Proofs.YtjeebbolnanmkaaW.PrintMore Go.Proofs.YtjeebbolnanmkaaW.PrintWords
set_option linter.unusedVariables false
set_option linter.unusedSimpArgs false
theorem wf_u8 {n : Int} (h : (Lit.int .u8 n).wf = true) : 0 ≤ n ∧ n ≤ 255 := by
  simp [Lit.wf, IntKind.min, IntKind.max, IntKind.bits, IntKind.signed] at h
  omega
theorem DeedsAt.take {w : World} {A : Option Addr} {l : List Dd} (h : DeedsAt w A l) (j : Nat) : DeedsAt w A (l.take j) := fun hl => by
  rw [List.length_take] at hl
  obtain ⟨b, off, e, hlt, hc⟩ := h (by omega)
  exact ⟨b, off, e, hlt, fun i hi => by rw [List.getElem_take]; exact hc i (by rw [List.length_take] at hi; omega)⟩
def StayRel (w : World) (N : Nat) (m i : Value) (wr : World) : Prop := ∃ (j : Nat) (rr : Option Addr) (l : List Ent), i = .int .i64 j ∧ m = .pointer rr ∧ j ≤ N ∧ RootAt wr rr l ∧ Asc l ∧ Below w.heap.size w wr
set_option maxHeartbeats 6400000 in
set_option maxRecDepth 100000 in
theorem stays_ok {w : World} {A : Option Addr} {c : Nat} {ds : List Dd} (hd : DeedsAt w A ds) (hc : ds.length ≤ c) {cut : Int} (hcw : (Lit.int .u8 cut).wf = true) :
    Calls Try.prog 6 #[.slice A ds.length c, .int .u8 cut] w fun e w' => e = .returned (.bool true) ∧ Below w.heap.size w w' := by
  have HD := Lib.hid hd
  obtain ⟨hc0, hc1⟩ := wf_u8 hcw
  obtain ⟨N, hN⟩ : ∃ N, ds.length = N := ⟨_, rfl⟩
  have HN0 := Lib.hid hN
  rw [hN] at hc ⊢
  obtain ⟨a, rfl⟩ : ∃ a : Nat, cut = (a : Int) := ⟨cut.toNat, by omega⟩
  clear hd hN hcw
  go_enter Try.func6, Try.ntmps6
  go_wp2_with fail
  refine (awake_ok w).mono ?_
  rintro e w1 ⟨rfl, hb1⟩
  have HB1 := Lib.hid hb1
  by_cases hn : 40 < N
  · have hg : decide ((40 : Int) < (N : Int)) = true := by simp; omega
    go_wp2_with fail
    go_ret
    exact ⟨rfl, HB1.out⟩
  by_cases hn0 : N = 0
  · subst hn0
    go_wp2_with fail
    go_ret
    exact ⟨rfl, HB1.out⟩
  have hg : decide ((40 : Int) < (N : Int)) = false := by simp; omega
  have hg0 : ((N : Int) == 0) = false := by rw [beq_eq_false_iff_ne]; omega
  have hg1 : (N : Int) ≠ 0 := by omega
  have hg2 : (N == 0) = false := by rw [beq_eq_false_iff_ne]; omega
  obtain ⟨k, hk⟩ : ∃ k, a % N = k := ⟨_, rfl⟩
  have hkN : k < N := by rw [← hk]; exact Nat.mod_lt _ (by omega)
  have q0 : IntKind.i64.wrap (a : Int) = (a : Int) := by rw [IntKind.wrap_i64]; omega
  have q1 : Int.tmod (a : Int) (N : Int) = (k : Int) := by rw [Int.tmod_eq_emod_of_nonneg (by omega)]; omega
  have q2 : IntKind.i64.wrap (k : Int) = (k : Int) := by rw [IntKind.wrap_i64]; omega
  have q3 : (0 : Int) ≤ (k : Int) := by omega
  have q4 : (k : Int) ≤ (N : Int) := by omega
  have q5 : (k : Int) ≤ (c : Int) := by omega
  have htk : (ds.take k).length = k := by rw [List.length_take, HN0.out]; omega
  have HP : Hid (Calls Try.prog 21 #[.slice A k c] w1 (PlayPost w1 (playE (ds.take k)))) := by
    have := play_at (c := c) ((HD.out.below hb1).take k) (by rw [htk]; omega)
    rw [htk] at this
    exact this
  clear hk htk hb1
  go_wp2_with fail
  refine HP.out.mono ?_
  rintro e w2 ⟨r, L, rfl, hr, hl, hb2, hwL⟩
  have HB2 := Lib.hid (HB1.out.trans (hb2.mono HB1.out.size))
  have HA := Lib.hid (playE_asc (ds.take k))
  have hlen : (playE (ds.take k)).length ≤ 40 := by have := playE_len (ds.take k); rw [List.length_take] at this; omega
  have HR := Lib.hid hr
  have HL := Lib.hid hl
  generalize playE (ds.take k) = l at *
  obtain ⟨M, hM⟩ : ∃ M, l.length = M := ⟨_, rfl⟩
  have HM := Lib.hid hM
  clear hr hl hb2 HP q0 q1 q2 hM
  go_wp2_with fail
  go_cut [9] (fun p wx => ∃ P, p = .pointer (some ⟨P, 0, none⟩) ∧ ListR wx P l ∧ Below w2.heap.size w2 wx)
  case first =>
    obtain ⟨A0, ca, A1, cb, lc0, lc1, hs, hv, n1, n2⟩ := HL.out.rows HM.out
    have hLz := HL.out.lt
    have hM40 : M ≤ 40 := by rw [← HM.out]; exact hlen
    have HSs := Lib.hid hs
    have HSv := Lib.hid hv
    clear hs hv
    have held : ∀ X, Below w2.heap.size w2 X → (fun w' => w'.cell? ⟨L, 0, none⟩ = some (.slice A0 M ca) ∧ w'.cell? ⟨L, 1, none⟩ = some (.slice A1 M cb)) X := fun X hX => ⟨(hX.cell (p := ⟨L, 0, none⟩) hLz).trans lc0, (hX.cell (p := ⟨L, 1, none⟩) hLz).trans lc1⟩
    have cp0 : Cp w2 w2.drew none none none := ⟨bel_drewN _ _ (n := 1), trivial, trivial, trivial, (fun q hq => by cases hq), (fun q hq => by cases hq), (fun q hq => by cases hq)⟩
    refine E_start 14 (fun w' => w'.cell? ⟨L, 0, none⟩ = some (.slice A0 M ca) ∧ w'.cell? ⟨L, 1, none⟩ = some (.slice A1 M cb)) (by kernel_rfl) ?_
    generalize World.drew w2 = X0 at *
    refine E_take (i := 1) (v := ?_) [1] rfl (by kernel_rfl) (by kernel_rfl) (by kernel_rfl) (by kernel_rfl) (by kernel_rfl) rfl (fun _ _ _ h => h) (Or.inl ⟨by rfl, ?_⟩) (held _ cp0.b) ?_
    rotate_left
    · (intro w' hSw; (try dsimp only at hSw); go_simp <;> (with_reducible rfl))
    try simp only [Act.put, List.setIfInBounds_toArray, List.set_cons_zero, List.set_cons_succ]
    refine E_take (i := 2) (v := ?_) [2] rfl (by kernel_rfl) (by kernel_rfl) (by kernel_rfl) (by kernel_rfl) (by kernel_rfl) rfl (fun _ _ _ h => h) (Or.inl ⟨by rfl, ?_⟩) (held _ cp0.b) ?_
    rotate_left
    · (intro w' hSw; (try dsimp only at hSw); go_simp <;> (with_reducible rfl))
    try simp only [Act.put, List.setIfInBounds_toArray, List.set_cons_zero, List.set_cons_succ]
    refine E_take (i := 3) (v := ?_) [3] rfl (by kernel_rfl) (by kernel_rfl) (by kernel_rfl) (by kernel_rfl) (by kernel_rfl) rfl (fun _ _ _ h => h) (Or.inl ⟨by rfl, ?_⟩) (held _ cp0.b) ?_
    rotate_left
    · (intro w' hSw; (try dsimp only at hSw); go_simp <;> (with_reducible rfl))
    try simp only [Act.put, List.setIfInBounds_toArray, List.set_cons_zero, List.set_cons_succ]
    refine E_take (i := 4) (v := ?_) [4] rfl (by kernel_rfl) (by kernel_rfl) (by kernel_rfl) (by kernel_rfl) (by kernel_rfl) rfl (fun _ _ _ h => h) (Or.inl ⟨by rfl, ?_⟩) (held _ cp0.b) ?_
    rotate_left
    · (intro w' hSw; (try dsimp only at hSw); go_simp <;> (with_reducible rfl))
    try simp only [Act.put, List.setIfInBounds_toArray, List.set_cons_zero, List.set_cons_succ]
    refine E_take (i := 7) (v := ?_) [7] rfl (by kernel_rfl) (by kernel_rfl) (by kernel_rfl) (by kernel_rfl) (by kernel_rfl) rfl (fun _ _ _ h => h) (Or.inl ⟨by rfl, ?_⟩) (held _ cp0.b) ?_
    rotate_left
    · (intro w' hSw; (try dsimp only at hSw); go_simp <;> (with_reducible rfl))
    try simp only [Act.put, List.setIfInBounds_toArray, List.set_cons_zero, List.set_cons_succ]
    refine E_take (i := 8) (v := ?_) [8] rfl (by kernel_rfl) (by kernel_rfl) (by kernel_rfl) (by kernel_rfl) (by kernel_rfl) rfl (fun _ _ _ h => h) (Or.inl ⟨by rfl, ?_⟩) (held _ cp0.b) ?_
    rotate_left
    · (intro w' hSw; (try dsimp only at hSw); go_simp <;> (with_reducible rfl))
    try simp only [Act.put, List.setIfInBounds_toArray, List.set_cons_zero, List.set_cons_succ]
    refine E_take (i := 9) (v := ?_) [9] rfl (by kernel_rfl) (by kernel_rfl) (by kernel_rfl) (by kernel_rfl) (by kernel_rfl) rfl (fun _ _ _ h => h) (Or.inl ⟨by rfl, ?_⟩) (held _ cp0.b) ?_
    rotate_left
    · (intro w' hSw; (try dsimp only at hSw); go_simp <;> (with_reducible rfl))
    try simp only [Act.put, List.setIfInBounds_toArray, List.set_cons_zero, List.set_cons_succ]
    refine E_take (i := 10) (v := ?_) [10] rfl (by kernel_rfl) (by kernel_rfl) (by kernel_rfl) (by kernel_rfl) (by kernel_rfl) rfl (fun _ _ _ h => h) (Or.inl ⟨by rfl, ?_⟩) (held _ cp0.b) ?_
    rotate_left
    · (intro w' hSw; (try dsimp only at hSw); go_simp <;> (with_reducible rfl))
    try simp only [Act.put, List.setIfInBounds_toArray, List.set_cons_zero, List.set_cons_succ]
    refine E_three (i := 0) (j := 6) (m := 13) rfl rfl rfl (by kernel_rfl) (by rfl) (by rfl) (by rfl) (fun K hK => ?_) (fun K hK => ?_) (fun K hK => ?_)
    · go_simp
      have cp1 := cp0.kNew
      clear cp0
      generalize hX1 : World.alloc X0 (.cells #[] 26) = X1 at *
      refine hK.out _ _ (fun _ => held _ cp1.b) ?_
      clear hK K
      try simp only [Act.put, List.setIfInBounds_toArray, List.set_cons_zero, List.set_cons_succ]
      refine E_three (i := 5) (j := 6) (m := 13) rfl rfl rfl (by kernel_rfl) (by rfl) (by rfl) (by rfl) (fun K hK => ?_) (fun K hK => ?_) (fun K hK => ?_)
      · refine app_S (.tmp 37) (.tmp 41) rfl w2.heap.size (.slice (some ⟨X0.heap.size, 0, none⟩) 0 0) 0 [] (by rfl) cp1.kp _ M _ (l.map (·.1)) (by rfl) (by rw [List.length_map]; exact HM.out) (HSs.out.below cp1.b) n1 M (by omega) (by omega) cp1.b.size ?_
        intro A2 c2 X2 ho2 hg2 ha2 hc2
        rw [List.nil_append] at ho2
        have cp2 := cp1.kApp (by rw [List.length_map, HM.out]; exact ho2) hg2 ha2 hc2
        clear cp1 ho2 hg2 ha2 hc2
        refine hK.out _ _ (fun _ => held _ cp2.b) ?_
        clear hK K
        try simp only [Act.put, List.setIfInBounds_toArray, List.set_cons_zero, List.set_cons_succ]
        refine E_two (i := 6) (j := 13) rfl rfl (by kernel_rfl) (by rfl) (by rfl) (fun K hK => ?_) (fun K hK => ?_)
        · go_simp
          have cp3 := cp2.vNew
          clear cp2
          generalize hX3 : World.alloc X2 (.cells #[] 24) = X3 at *
          refine hK.out _ _ (fun _ => held _ cp3.b) ?_
          clear hK K
          try simp only [Act.put, List.setIfInBounds_toArray, List.set_cons_zero, List.set_cons_succ]
          refine E_two (i := 11) (j := 13) rfl rfl (by kernel_rfl) (by rfl) (by rfl) (fun K hK => ?_) (fun K hK => ?_)
          · refine app_U (.tmp 43) (.tmp 47) rfl w2.heap.size (.slice (some ⟨X2.heap.size, 0, none⟩) 0 0) 0 [] (by rfl) cp3.vp _ M _ (l.map (·.2)) (by rfl) (by rw [List.length_map]; exact HM.out) (HSv.out.below cp3.b) n2 M (by omega) (by omega) cp3.b.size ?_
            intro A4 c4 X4 ho4 hg4 ha4 hc4
            rw [List.nil_append] at ho4
            have cp4 := cp3.vApp (by rw [List.length_map, HM.out]; exact ho4) hg4 ha4 hc4
            clear cp3 ho4 hg4 ha4 hc4
            refine hK.out _ _ (fun _ => held _ cp4.b) ?_
            clear hK K
            try simp only [Act.put, List.setIfInBounds_toArray, List.set_cons_zero, List.set_cons_succ]
            refine E_take (i := 12) (v := ?_) [12] rfl (by kernel_rfl) (by kernel_rfl) (by kernel_rfl) (by kernel_rfl) (by kernel_rfl) rfl (fun _ _ _ h => h) (Or.inl ⟨by rfl, ?_⟩) (held _ cp4.b) ?_
            rotate_left
            · (intro w' hSw; (try dsimp only at hSw); go_simp <;> (with_reducible rfl))
            try simp only [Act.put, List.setIfInBounds_toArray, List.set_cons_zero, List.set_cons_succ]
            refine E_one (i := 13) rfl (by kernel_rfl) (by rfl) (fun K hK => ?_)
            go_simp
            have cp5 := cp4.pNew
            clear cp4
            generalize hX5 : World.alloc X4 (.cells #[.slice none 0 0, .slice none 0 0] 34) = X5 at *
            refine hK.out _ _ (fun _ => held _ cp5.b) ?_
            clear hK K
            try simp only [Act.put, List.setIfInBounds_toArray, List.set_cons_zero, List.set_cons_succ]
            refine E_one (i := 14) rfl (by kernel_rfl) (by rfl) (fun K hK => ?_)
            have hP := cp5.pp.2
            have y0 : X5.cell? ⟨X4.heap.size, 0, none⟩ = some (.slice none 0 0) := by simp only [World.cell?, hP]; rfl
            have y1 : X5.cell? ⟨X4.heap.size, 1, none⟩ = some (.slice none 0 0) := by simp only [World.cell?, hP]; rfl
            have y2 : X5.frozen? ⟨X4.heap.size, 0, none⟩ = false := by simp only [World.frozen?, hP]; simp
            have y3 : X5.frozen? ⟨X4.heap.size, 1, none⟩ = false := by simp only [World.frozen?, hP]; simp
            clear hP
            go_simp
            refine hK.out _ _ (fun h => absurd rfl h) ?_
            clear hK K
            try simp only [Act.put, List.setIfInBounds_toArray, List.set_cons_zero, List.set_cons_succ]
            refine E_done (by kernel_rfl) ?_ _
            go_wp2_with fail
            all_goals go_meet
            all_goals (obtain ⟨d1, d2⟩ := cp5.done (N := M); exact ⟨X4.heap.size, rfl, d1, d2⟩)
          · go_simp
            have cp7 := cp3.pNew
            clear cp3
            generalize hX7 : World.alloc X3 (.cells #[.slice none 0 0, .slice none 0 0] 34) = X7 at *
            refine hK.out _ _ (fun _ => held _ cp7.b) ?_
            clear hK K
            try simp only [Act.put, List.setIfInBounds_toArray, List.set_cons_zero, List.set_cons_succ]
            refine E_one (i := 11) rfl (by kernel_rfl) (by rfl) (fun K hK => ?_)
            refine app_U (.tmp 43) (.tmp 47) rfl w2.heap.size (.slice (some ⟨X2.heap.size, 0, none⟩) 0 0) 0 [] (by rfl) cp7.vp _ M _ (l.map (·.2)) (by rfl) (by rw [List.length_map]; exact HM.out) (HSv.out.below cp7.b) n2 M (by omega) (by omega) cp7.b.size ?_
            intro A8 c8 X8 ho8 hg8 ha8 hc8
            rw [List.nil_append] at ho8
            have cp8 := cp7.vApp (by rw [List.length_map, HM.out]; exact ho8) hg8 ha8 hc8
            clear cp7 ho8 hg8 ha8 hc8
            refine hK.out _ _ (fun _ => held _ cp8.b) ?_
            clear hK K
            try simp only [Act.put, List.setIfInBounds_toArray, List.set_cons_zero, List.set_cons_succ]
            refine E_take (i := 12) (v := ?_) [12] rfl (by kernel_rfl) (by kernel_rfl) (by kernel_rfl) (by kernel_rfl) (by kernel_rfl) rfl (fun _ _ _ h => h) (Or.inl ⟨by rfl, ?_⟩) (held _ cp8.b) ?_
            rotate_left
            · (intro w' hSw; (try dsimp only at hSw); go_simp <;> (with_reducible rfl))
            try simp only [Act.put, List.setIfInBounds_toArray, List.set_cons_zero, List.set_cons_succ]
            refine E_one (i := 14) rfl (by kernel_rfl) (by rfl) (fun K hK => ?_)
            have hP := cp8.pp.2
            have y0 : X8.cell? ⟨X3.heap.size, 0, none⟩ = some (.slice none 0 0) := by simp only [World.cell?, hP]; rfl
            have y1 : X8.cell? ⟨X3.heap.size, 1, none⟩ = some (.slice none 0 0) := by simp only [World.cell?, hP]; rfl
            have y2 : X8.frozen? ⟨X3.heap.size, 0, none⟩ = false := by simp only [World.frozen?, hP]; simp
            have y3 : X8.frozen? ⟨X3.heap.size, 1, none⟩ = false := by simp only [World.frozen?, hP]; simp
            clear hP
            go_simp
            refine hK.out _ _ (fun h => absurd rfl h) ?_
            clear hK K
            try simp only [Act.put, List.setIfInBounds_toArray, List.set_cons_zero, List.set_cons_succ]
            refine E_done (by kernel_rfl) ?_ _
            go_wp2_with fail
            all_goals go_meet
            all_goals (obtain ⟨d1, d2⟩ := cp8.done (N := M); exact ⟨X3.heap.size, rfl, d1, d2⟩)
        · go_simp
          have cp10 := cp2.pNew
          clear cp2
          generalize hX10 : World.alloc X2 (.cells #[.slice none 0 0, .slice none 0 0] 34) = X10 at *
          refine hK.out _ _ (fun _ => held _ cp10.b) ?_
          clear hK K
          try simp only [Act.put, List.setIfInBounds_toArray, List.set_cons_zero, List.set_cons_succ]
          refine E_one (i := 6) rfl (by kernel_rfl) (by rfl) (fun K hK => ?_)
          go_simp
          have cp11 := cp10.vNew
          clear cp10
          generalize hX11 : World.alloc X10 (.cells #[] 24) = X11 at *
          refine hK.out _ _ (fun _ => held _ cp11.b) ?_
          clear hK K
          try simp only [Act.put, List.setIfInBounds_toArray, List.set_cons_zero, List.set_cons_succ]
          refine E_one (i := 11) rfl (by kernel_rfl) (by rfl) (fun K hK => ?_)
          refine app_U (.tmp 43) (.tmp 47) rfl w2.heap.size (.slice (some ⟨X10.heap.size, 0, none⟩) 0 0) 0 [] (by rfl) cp11.vp _ M _ (l.map (·.2)) (by rfl) (by rw [List.length_map]; exact HM.out) (HSv.out.below cp11.b) n2 M (by omega) (by omega) cp11.b.size ?_
          intro A12 c12 X12 ho12 hg12 ha12 hc12
          rw [List.nil_append] at ho12
          have cp12 := cp11.vApp (by rw [List.length_map, HM.out]; exact ho12) hg12 ha12 hc12
          clear cp11 ho12 hg12 ha12 hc12
          refine hK.out _ _ (fun _ => held _ cp12.b) ?_
          clear hK K
          try simp only [Act.put, List.setIfInBounds_toArray, List.set_cons_zero, List.set_cons_succ]
          refine E_take (i := 12) (v := ?_) [12] rfl (by kernel_rfl) (by kernel_rfl) (by kernel_rfl) (by kernel_rfl) (by kernel_rfl) rfl (fun _ _ _ h => h) (Or.inl ⟨by rfl, ?_⟩) (held _ cp12.b) ?_
          rotate_left
          · (intro w' hSw; (try dsimp only at hSw); go_simp <;> (with_reducible rfl))
          try simp only [Act.put, List.setIfInBounds_toArray, List.set_cons_zero, List.set_cons_succ]
          refine E_one (i := 14) rfl (by kernel_rfl) (by rfl) (fun K hK => ?_)
          have hP := cp12.pp.2
          have y0 : X12.cell? ⟨X2.heap.size, 0, none⟩ = some (.slice none 0 0) := by simp only [World.cell?, hP]; rfl
          have y1 : X12.cell? ⟨X2.heap.size, 1, none⟩ = some (.slice none 0 0) := by simp only [World.cell?, hP]; rfl
          have y2 : X12.frozen? ⟨X2.heap.size, 0, none⟩ = false := by simp only [World.frozen?, hP]; simp
          have y3 : X12.frozen? ⟨X2.heap.size, 1, none⟩ = false := by simp only [World.frozen?, hP]; simp
          clear hP
          go_simp
          refine hK.out _ _ (fun h => absurd rfl h) ?_
          clear hK K
          try simp only [Act.put, List.setIfInBounds_toArray, List.set_cons_zero, List.set_cons_succ]
          refine E_done (by kernel_rfl) ?_ _
          go_wp2_with fail
          all_goals go_meet
          all_goals (obtain ⟨d1, d2⟩ := cp12.done (N := M); exact ⟨X2.heap.size, rfl, d1, d2⟩)
      · go_simp
        have cp14 := cp1.vNew
        clear cp1
        generalize hX14 : World.alloc X1 (.cells #[] 24) = X14 at *
        refine hK.out _ _ (fun _ => held _ cp14.b) ?_
        clear hK K
        try simp only [Act.put, List.setIfInBounds_toArray, List.set_cons_zero, List.set_cons_succ]
        refine E_two (i := 5) (j := 13) rfl rfl (by kernel_rfl) (by rfl) (by rfl) (fun K hK => ?_) (fun K hK => ?_)
        · refine app_S (.tmp 37) (.tmp 41) rfl w2.heap.size (.slice (some ⟨X0.heap.size, 0, none⟩) 0 0) 0 [] (by rfl) cp14.kp _ M _ (l.map (·.1)) (by rfl) (by rw [List.length_map]; exact HM.out) (HSs.out.below cp14.b) n1 M (by omega) (by omega) cp14.b.size ?_
          intro A15 c15 X15 ho15 hg15 ha15 hc15
          rw [List.nil_append] at ho15
          have cp15 := cp14.kApp (by rw [List.length_map, HM.out]; exact ho15) hg15 ha15 hc15
          clear cp14 ho15 hg15 ha15 hc15
          refine hK.out _ _ (fun _ => held _ cp15.b) ?_
          clear hK K
          try simp only [Act.put, List.setIfInBounds_toArray, List.set_cons_zero, List.set_cons_succ]
          refine E_two (i := 11) (j := 13) rfl rfl (by kernel_rfl) (by rfl) (by rfl) (fun K hK => ?_) (fun K hK => ?_)
          · refine app_U (.tmp 43) (.tmp 47) rfl w2.heap.size (.slice (some ⟨X1.heap.size, 0, none⟩) 0 0) 0 [] (by rfl) cp15.vp _ M _ (l.map (·.2)) (by rfl) (by rw [List.length_map]; exact HM.out) (HSv.out.below cp15.b) n2 M (by omega) (by omega) cp15.b.size ?_
            intro A16 c16 X16 ho16 hg16 ha16 hc16
            rw [List.nil_append] at ho16
            have cp16 := cp15.vApp (by rw [List.length_map, HM.out]; exact ho16) hg16 ha16 hc16
            clear cp15 ho16 hg16 ha16 hc16
            refine hK.out _ _ (fun _ => held _ cp16.b) ?_
            clear hK K
            try simp only [Act.put, List.setIfInBounds_toArray, List.set_cons_zero, List.set_cons_succ]
            refine E_take (i := 12) (v := ?_) [12] rfl (by kernel_rfl) (by kernel_rfl) (by kernel_rfl) (by kernel_rfl) (by kernel_rfl) rfl (fun _ _ _ h => h) (Or.inl ⟨by rfl, ?_⟩) (held _ cp16.b) ?_
            rotate_left
            · (intro w' hSw; (try dsimp only at hSw); go_simp <;> (with_reducible rfl))
            try simp only [Act.put, List.setIfInBounds_toArray, List.set_cons_zero, List.set_cons_succ]
            refine E_one (i := 13) rfl (by kernel_rfl) (by rfl) (fun K hK => ?_)
            go_simp
            have cp17 := cp16.pNew
            clear cp16
            generalize hX17 : World.alloc X16 (.cells #[.slice none 0 0, .slice none 0 0] 34) = X17 at *
            refine hK.out _ _ (fun _ => held _ cp17.b) ?_
            clear hK K
            try simp only [Act.put, List.setIfInBounds_toArray, List.set_cons_zero, List.set_cons_succ]
            refine E_one (i := 14) rfl (by kernel_rfl) (by rfl) (fun K hK => ?_)
            have hP := cp17.pp.2
            have y0 : X17.cell? ⟨X16.heap.size, 0, none⟩ = some (.slice none 0 0) := by simp only [World.cell?, hP]; rfl
            have y1 : X17.cell? ⟨X16.heap.size, 1, none⟩ = some (.slice none 0 0) := by simp only [World.cell?, hP]; rfl
            have y2 : X17.frozen? ⟨X16.heap.size, 0, none⟩ = false := by simp only [World.frozen?, hP]; simp
            have y3 : X17.frozen? ⟨X16.heap.size, 1, none⟩ = false := by simp only [World.frozen?, hP]; simp
            clear hP
            go_simp
            refine hK.out _ _ (fun h => absurd rfl h) ?_
            clear hK K
            try simp only [Act.put, List.setIfInBounds_toArray, List.set_cons_zero, List.set_cons_succ]
            refine E_done (by kernel_rfl) ?_ _
            go_wp2_with fail
            all_goals go_meet
            all_goals (obtain ⟨d1, d2⟩ := cp17.done (N := M); exact ⟨X16.heap.size, rfl, d1, d2⟩)
          · go_simp
            have cp19 := cp15.pNew
            clear cp15
            generalize hX19 : World.alloc X15 (.cells #[.slice none 0 0, .slice none 0 0] 34) = X19 at *
            refine hK.out _ _ (fun _ => held _ cp19.b) ?_
            clear hK K
            try simp only [Act.put, List.setIfInBounds_toArray, List.set_cons_zero, List.set_cons_succ]
            refine E_one (i := 11) rfl (by kernel_rfl) (by rfl) (fun K hK => ?_)
            refine app_U (.tmp 43) (.tmp 47) rfl w2.heap.size (.slice (some ⟨X1.heap.size, 0, none⟩) 0 0) 0 [] (by rfl) cp19.vp _ M _ (l.map (·.2)) (by rfl) (by rw [List.length_map]; exact HM.out) (HSv.out.below cp19.b) n2 M (by omega) (by omega) cp19.b.size ?_
            intro A20 c20 X20 ho20 hg20 ha20 hc20
            rw [List.nil_append] at ho20
            have cp20 := cp19.vApp (by rw [List.length_map, HM.out]; exact ho20) hg20 ha20 hc20
            clear cp19 ho20 hg20 ha20 hc20
            refine hK.out _ _ (fun _ => held _ cp20.b) ?_
            clear hK K
            try simp only [Act.put, List.setIfInBounds_toArray, List.set_cons_zero, List.set_cons_succ]
            refine E_take (i := 12) (v := ?_) [12] rfl (by kernel_rfl) (by kernel_rfl) (by kernel_rfl) (by kernel_rfl) (by kernel_rfl) rfl (fun _ _ _ h => h) (Or.inl ⟨by rfl, ?_⟩) (held _ cp20.b) ?_
            rotate_left
            · (intro w' hSw; (try dsimp only at hSw); go_simp <;> (with_reducible rfl))
            try simp only [Act.put, List.setIfInBounds_toArray, List.set_cons_zero, List.set_cons_succ]
            refine E_one (i := 14) rfl (by kernel_rfl) (by rfl) (fun K hK => ?_)
            have hP := cp20.pp.2
            have y0 : X20.cell? ⟨X15.heap.size, 0, none⟩ = some (.slice none 0 0) := by simp only [World.cell?, hP]; rfl
            have y1 : X20.cell? ⟨X15.heap.size, 1, none⟩ = some (.slice none 0 0) := by simp only [World.cell?, hP]; rfl
            have y2 : X20.frozen? ⟨X15.heap.size, 0, none⟩ = false := by simp only [World.frozen?, hP]; simp
            have y3 : X20.frozen? ⟨X15.heap.size, 1, none⟩ = false := by simp only [World.frozen?, hP]; simp
            clear hP
            go_simp
            refine hK.out _ _ (fun h => absurd rfl h) ?_
            clear hK K
            try simp only [Act.put, List.setIfInBounds_toArray, List.set_cons_zero, List.set_cons_succ]
            refine E_done (by kernel_rfl) ?_ _
            go_wp2_with fail
            all_goals go_meet
            all_goals (obtain ⟨d1, d2⟩ := cp20.done (N := M); exact ⟨X15.heap.size, rfl, d1, d2⟩)
        · go_simp
          have cp22 := cp14.pNew
          clear cp14
          generalize hX22 : World.alloc X14 (.cells #[.slice none 0 0, .slice none 0 0] 34) = X22 at *
          refine hK.out _ _ (fun _ => held _ cp22.b) ?_
          clear hK K
          try simp only [Act.put, List.setIfInBounds_toArray, List.set_cons_zero, List.set_cons_succ]
          refine E_one (i := 5) rfl (by kernel_rfl) (by rfl) (fun K hK => ?_)
          refine app_S (.tmp 37) (.tmp 41) rfl w2.heap.size (.slice (some ⟨X0.heap.size, 0, none⟩) 0 0) 0 [] (by rfl) cp22.kp _ M _ (l.map (·.1)) (by rfl) (by rw [List.length_map]; exact HM.out) (HSs.out.below cp22.b) n1 M (by omega) (by omega) cp22.b.size ?_
          intro A23 c23 X23 ho23 hg23 ha23 hc23
          rw [List.nil_append] at ho23
          have cp23 := cp22.kApp (by rw [List.length_map, HM.out]; exact ho23) hg23 ha23 hc23
          clear cp22 ho23 hg23 ha23 hc23
          refine hK.out _ _ (fun _ => held _ cp23.b) ?_
          clear hK K
          try simp only [Act.put, List.setIfInBounds_toArray, List.set_cons_zero, List.set_cons_succ]
          refine E_one (i := 11) rfl (by kernel_rfl) (by rfl) (fun K hK => ?_)
          refine app_U (.tmp 43) (.tmp 47) rfl w2.heap.size (.slice (some ⟨X1.heap.size, 0, none⟩) 0 0) 0 [] (by rfl) cp23.vp _ M _ (l.map (·.2)) (by rfl) (by rw [List.length_map]; exact HM.out) (HSv.out.below cp23.b) n2 M (by omega) (by omega) cp23.b.size ?_
          intro A24 c24 X24 ho24 hg24 ha24 hc24
          rw [List.nil_append] at ho24
          have cp24 := cp23.vApp (by rw [List.length_map, HM.out]; exact ho24) hg24 ha24 hc24
          clear cp23 ho24 hg24 ha24 hc24
          refine hK.out _ _ (fun _ => held _ cp24.b) ?_
          clear hK K
          try simp only [Act.put, List.setIfInBounds_toArray, List.set_cons_zero, List.set_cons_succ]
          refine E_take (i := 12) (v := ?_) [12] rfl (by kernel_rfl) (by kernel_rfl) (by kernel_rfl) (by kernel_rfl) (by kernel_rfl) rfl (fun _ _ _ h => h) (Or.inl ⟨by rfl, ?_⟩) (held _ cp24.b) ?_
          rotate_left
          · (intro w' hSw; (try dsimp only at hSw); go_simp <;> (with_reducible rfl))
          try simp only [Act.put, List.setIfInBounds_toArray, List.set_cons_zero, List.set_cons_succ]
          refine E_one (i := 14) rfl (by kernel_rfl) (by rfl) (fun K hK => ?_)
          have hP := cp24.pp.2
          have y0 : X24.cell? ⟨X14.heap.size, 0, none⟩ = some (.slice none 0 0) := by simp only [World.cell?, hP]; rfl
          have y1 : X24.cell? ⟨X14.heap.size, 1, none⟩ = some (.slice none 0 0) := by simp only [World.cell?, hP]; rfl
          have y2 : X24.frozen? ⟨X14.heap.size, 0, none⟩ = false := by simp only [World.frozen?, hP]; simp
          have y3 : X24.frozen? ⟨X14.heap.size, 1, none⟩ = false := by simp only [World.frozen?, hP]; simp
          clear hP
          go_simp
          refine hK.out _ _ (fun h => absurd rfl h) ?_
          clear hK K
          try simp only [Act.put, List.setIfInBounds_toArray, List.set_cons_zero, List.set_cons_succ]
          refine E_done (by kernel_rfl) ?_ _
          go_wp2_with fail
          all_goals go_meet
          all_goals (obtain ⟨d1, d2⟩ := cp24.done (N := M); exact ⟨X14.heap.size, rfl, d1, d2⟩)
      · go_simp
        have cp26 := cp1.pNew
        clear cp1
        generalize hX26 : World.alloc X1 (.cells #[.slice none 0 0, .slice none 0 0] 34) = X26 at *
        refine hK.out _ _ (fun _ => held _ cp26.b) ?_
        clear hK K
        try simp only [Act.put, List.setIfInBounds_toArray, List.set_cons_zero, List.set_cons_succ]
        refine E_two (i := 5) (j := 6) rfl rfl (by kernel_rfl) (by rfl) (by rfl) (fun K hK => ?_) (fun K hK => ?_)
        · refine app_S (.tmp 37) (.tmp 41) rfl w2.heap.size (.slice (some ⟨X0.heap.size, 0, none⟩) 0 0) 0 [] (by rfl) cp26.kp _ M _ (l.map (·.1)) (by rfl) (by rw [List.length_map]; exact HM.out) (HSs.out.below cp26.b) n1 M (by omega) (by omega) cp26.b.size ?_
          intro A27 c27 X27 ho27 hg27 ha27 hc27
          rw [List.nil_append] at ho27
          have cp27 := cp26.kApp (by rw [List.length_map, HM.out]; exact ho27) hg27 ha27 hc27
          clear cp26 ho27 hg27 ha27 hc27
          refine hK.out _ _ (fun _ => held _ cp27.b) ?_
          clear hK K
          try simp only [Act.put, List.setIfInBounds_toArray, List.set_cons_zero, List.set_cons_succ]
          refine E_one (i := 6) rfl (by kernel_rfl) (by rfl) (fun K hK => ?_)
          go_simp
          have cp28 := cp27.vNew
          clear cp27
          generalize hX28 : World.alloc X27 (.cells #[] 24) = X28 at *
          refine hK.out _ _ (fun _ => held _ cp28.b) ?_
          clear hK K
          try simp only [Act.put, List.setIfInBounds_toArray, List.set_cons_zero, List.set_cons_succ]
          refine E_one (i := 11) rfl (by kernel_rfl) (by rfl) (fun K hK => ?_)
          refine app_U (.tmp 43) (.tmp 47) rfl w2.heap.size (.slice (some ⟨X27.heap.size, 0, none⟩) 0 0) 0 [] (by rfl) cp28.vp _ M _ (l.map (·.2)) (by rfl) (by rw [List.length_map]; exact HM.out) (HSv.out.below cp28.b) n2 M (by omega) (by omega) cp28.b.size ?_
          intro A29 c29 X29 ho29 hg29 ha29 hc29
          rw [List.nil_append] at ho29
          have cp29 := cp28.vApp (by rw [List.length_map, HM.out]; exact ho29) hg29 ha29 hc29
          clear cp28 ho29 hg29 ha29 hc29
          refine hK.out _ _ (fun _ => held _ cp29.b) ?_
          clear hK K
          try simp only [Act.put, List.setIfInBounds_toArray, List.set_cons_zero, List.set_cons_succ]
          refine E_take (i := 12) (v := ?_) [12] rfl (by kernel_rfl) (by kernel_rfl) (by kernel_rfl) (by kernel_rfl) (by kernel_rfl) rfl (fun _ _ _ h => h) (Or.inl ⟨by rfl, ?_⟩) (held _ cp29.b) ?_
          rotate_left
          · (intro w' hSw; (try dsimp only at hSw); go_simp <;> (with_reducible rfl))
          try simp only [Act.put, List.setIfInBounds_toArray, List.set_cons_zero, List.set_cons_succ]
          refine E_one (i := 14) rfl (by kernel_rfl) (by rfl) (fun K hK => ?_)
          have hP := cp29.pp.2
          have y0 : X29.cell? ⟨X1.heap.size, 0, none⟩ = some (.slice none 0 0) := by simp only [World.cell?, hP]; rfl
          have y1 : X29.cell? ⟨X1.heap.size, 1, none⟩ = some (.slice none 0 0) := by simp only [World.cell?, hP]; rfl
          have y2 : X29.frozen? ⟨X1.heap.size, 0, none⟩ = false := by simp only [World.frozen?, hP]; simp
          have y3 : X29.frozen? ⟨X1.heap.size, 1, none⟩ = false := by simp only [World.frozen?, hP]; simp
          clear hP
          go_simp
          refine hK.out _ _ (fun h => absurd rfl h) ?_
          clear hK K
          try simp only [Act.put, List.setIfInBounds_toArray, List.set_cons_zero, List.set_cons_succ]
          refine E_done (by kernel_rfl) ?_ _
          go_wp2_with fail
          all_goals go_meet
          all_goals (obtain ⟨d1, d2⟩ := cp29.done (N := M); exact ⟨X1.heap.size, rfl, d1, d2⟩)
        · go_simp
          have cp31 := cp26.vNew
          clear cp26
          generalize hX31 : World.alloc X26 (.cells #[] 24) = X31 at *
          refine hK.out _ _ (fun _ => held _ cp31.b) ?_
          clear hK K
          try simp only [Act.put, List.setIfInBounds_toArray, List.set_cons_zero, List.set_cons_succ]
          refine E_one (i := 5) rfl (by kernel_rfl) (by rfl) (fun K hK => ?_)
          refine app_S (.tmp 37) (.tmp 41) rfl w2.heap.size (.slice (some ⟨X0.heap.size, 0, none⟩) 0 0) 0 [] (by rfl) cp31.kp _ M _ (l.map (·.1)) (by rfl) (by rw [List.length_map]; exact HM.out) (HSs.out.below cp31.b) n1 M (by omega) (by omega) cp31.b.size ?_
          intro A32 c32 X32 ho32 hg32 ha32 hc32
          rw [List.nil_append] at ho32
          have cp32 := cp31.kApp (by rw [List.length_map, HM.out]; exact ho32) hg32 ha32 hc32
          clear cp31 ho32 hg32 ha32 hc32
          refine hK.out _ _ (fun _ => held _ cp32.b) ?_
          clear hK K
          try simp only [Act.put, List.setIfInBounds_toArray, List.set_cons_zero, List.set_cons_succ]
          refine E_one (i := 11) rfl (by kernel_rfl) (by rfl) (fun K hK => ?_)
          refine app_U (.tmp 43) (.tmp 47) rfl w2.heap.size (.slice (some ⟨X26.heap.size, 0, none⟩) 0 0) 0 [] (by rfl) cp32.vp _ M _ (l.map (·.2)) (by rfl) (by rw [List.length_map]; exact HM.out) (HSv.out.below cp32.b) n2 M (by omega) (by omega) cp32.b.size ?_
          intro A33 c33 X33 ho33 hg33 ha33 hc33
          rw [List.nil_append] at ho33
          have cp33 := cp32.vApp (by rw [List.length_map, HM.out]; exact ho33) hg33 ha33 hc33
          clear cp32 ho33 hg33 ha33 hc33
          refine hK.out _ _ (fun _ => held _ cp33.b) ?_
          clear hK K
          try simp only [Act.put, List.setIfInBounds_toArray, List.set_cons_zero, List.set_cons_succ]
          refine E_take (i := 12) (v := ?_) [12] rfl (by kernel_rfl) (by kernel_rfl) (by kernel_rfl) (by kernel_rfl) (by kernel_rfl) rfl (fun _ _ _ h => h) (Or.inl ⟨by rfl, ?_⟩) (held _ cp33.b) ?_
          rotate_left
          · (intro w' hSw; (try dsimp only at hSw); go_simp <;> (with_reducible rfl))
          try simp only [Act.put, List.setIfInBounds_toArray, List.set_cons_zero, List.set_cons_succ]
          refine E_one (i := 14) rfl (by kernel_rfl) (by rfl) (fun K hK => ?_)
          have hP := cp33.pp.2
          have y0 : X33.cell? ⟨X1.heap.size, 0, none⟩ = some (.slice none 0 0) := by simp only [World.cell?, hP]; rfl
          have y1 : X33.cell? ⟨X1.heap.size, 1, none⟩ = some (.slice none 0 0) := by simp only [World.cell?, hP]; rfl
          have y2 : X33.frozen? ⟨X1.heap.size, 0, none⟩ = false := by simp only [World.frozen?, hP]; simp
          have y3 : X33.frozen? ⟨X1.heap.size, 1, none⟩ = false := by simp only [World.frozen?, hP]; simp
          clear hP
          go_simp
          refine hK.out _ _ (fun h => absurd rfl h) ?_
          clear hK K
          try simp only [Act.put, List.setIfInBounds_toArray, List.set_cons_zero, List.set_cons_succ]
          refine E_done (by kernel_rfl) ?_ _
          go_wp2_with fail
          all_goals go_meet
          all_goals (obtain ⟨d1, d2⟩ := cp33.done (N := M); exact ⟨X1.heap.size, rfl, d1, d2⟩)
    · go_simp
      have cp35 := cp0.vNew
      clear cp0
      generalize hX35 : World.alloc X0 (.cells #[] 24) = X35 at *
      refine hK.out _ _ (fun _ => held _ cp35.b) ?_
      clear hK K
      try simp only [Act.put, List.setIfInBounds_toArray, List.set_cons_zero, List.set_cons_succ]
      refine E_two (i := 0) (j := 13) rfl rfl (by kernel_rfl) (by rfl) (by rfl) (fun K hK => ?_) (fun K hK => ?_)
      · go_simp
        have cp36 := cp35.kNew
        clear cp35
        generalize hX36 : World.alloc X35 (.cells #[] 26) = X36 at *
        refine hK.out _ _ (fun _ => held _ cp36.b) ?_
        clear hK K
        try simp only [Act.put, List.setIfInBounds_toArray, List.set_cons_zero, List.set_cons_succ]
        refine E_two (i := 5) (j := 13) rfl rfl (by kernel_rfl) (by rfl) (by rfl) (fun K hK => ?_) (fun K hK => ?_)
        · refine app_S (.tmp 37) (.tmp 41) rfl w2.heap.size (.slice (some ⟨X35.heap.size, 0, none⟩) 0 0) 0 [] (by rfl) cp36.kp _ M _ (l.map (·.1)) (by rfl) (by rw [List.length_map]; exact HM.out) (HSs.out.below cp36.b) n1 M (by omega) (by omega) cp36.b.size ?_
          intro A37 c37 X37 ho37 hg37 ha37 hc37
          rw [List.nil_append] at ho37
          have cp37 := cp36.kApp (by rw [List.length_map, HM.out]; exact ho37) hg37 ha37 hc37
          clear cp36 ho37 hg37 ha37 hc37
          refine hK.out _ _ (fun _ => held _ cp37.b) ?_
          clear hK K
          try simp only [Act.put, List.setIfInBounds_toArray, List.set_cons_zero, List.set_cons_succ]
          refine E_two (i := 11) (j := 13) rfl rfl (by kernel_rfl) (by rfl) (by rfl) (fun K hK => ?_) (fun K hK => ?_)
          · refine app_U (.tmp 43) (.tmp 47) rfl w2.heap.size (.slice (some ⟨X0.heap.size, 0, none⟩) 0 0) 0 [] (by rfl) cp37.vp _ M _ (l.map (·.2)) (by rfl) (by rw [List.length_map]; exact HM.out) (HSv.out.below cp37.b) n2 M (by omega) (by omega) cp37.b.size ?_
            intro A38 c38 X38 ho38 hg38 ha38 hc38
            rw [List.nil_append] at ho38
            have cp38 := cp37.vApp (by rw [List.length_map, HM.out]; exact ho38) hg38 ha38 hc38
            clear cp37 ho38 hg38 ha38 hc38
            refine hK.out _ _ (fun _ => held _ cp38.b) ?_
            clear hK K
            try simp only [Act.put, List.setIfInBounds_toArray, List.set_cons_zero, List.set_cons_succ]
            refine E_take (i := 12) (v := ?_) [12] rfl (by kernel_rfl) (by kernel_rfl) (by kernel_rfl) (by kernel_rfl) (by kernel_rfl) rfl (fun _ _ _ h => h) (Or.inl ⟨by rfl, ?_⟩) (held _ cp38.b) ?_
            rotate_left
            · (intro w' hSw; (try dsimp only at hSw); go_simp <;> (with_reducible rfl))
            try simp only [Act.put, List.setIfInBounds_toArray, List.set_cons_zero, List.set_cons_succ]
            refine E_one (i := 13) rfl (by kernel_rfl) (by rfl) (fun K hK => ?_)
            go_simp
            have cp39 := cp38.pNew
            clear cp38
            generalize hX39 : World.alloc X38 (.cells #[.slice none 0 0, .slice none 0 0] 34) = X39 at *
            refine hK.out _ _ (fun _ => held _ cp39.b) ?_
            clear hK K
            try simp only [Act.put, List.setIfInBounds_toArray, List.set_cons_zero, List.set_cons_succ]
            refine E_one (i := 14) rfl (by kernel_rfl) (by rfl) (fun K hK => ?_)
            have hP := cp39.pp.2
            have y0 : X39.cell? ⟨X38.heap.size, 0, none⟩ = some (.slice none 0 0) := by simp only [World.cell?, hP]; rfl
            have y1 : X39.cell? ⟨X38.heap.size, 1, none⟩ = some (.slice none 0 0) := by simp only [World.cell?, hP]; rfl
            have y2 : X39.frozen? ⟨X38.heap.size, 0, none⟩ = false := by simp only [World.frozen?, hP]; simp
            have y3 : X39.frozen? ⟨X38.heap.size, 1, none⟩ = false := by simp only [World.frozen?, hP]; simp
            clear hP
            go_simp
            refine hK.out _ _ (fun h => absurd rfl h) ?_
            clear hK K
            try simp only [Act.put, List.setIfInBounds_toArray, List.set_cons_zero, List.set_cons_succ]
            refine E_done (by kernel_rfl) ?_ _
            go_wp2_with fail
            all_goals go_meet
            all_goals (obtain ⟨d1, d2⟩ := cp39.done (N := M); exact ⟨X38.heap.size, rfl, d1, d2⟩)
          · go_simp
            have cp41 := cp37.pNew
            clear cp37
            generalize hX41 : World.alloc X37 (.cells #[.slice none 0 0, .slice none 0 0] 34) = X41 at *
            refine hK.out _ _ (fun _ => held _ cp41.b) ?_
            clear hK K
            try simp only [Act.put, List.setIfInBounds_toArray, List.set_cons_zero, List.set_cons_succ]
            refine E_one (i := 11) rfl (by kernel_rfl) (by rfl) (fun K hK => ?_)
            refine app_U (.tmp 43) (.tmp 47) rfl w2.heap.size (.slice (some ⟨X0.heap.size, 0, none⟩) 0 0) 0 [] (by rfl) cp41.vp _ M _ (l.map (·.2)) (by rfl) (by rw [List.length_map]; exact HM.out) (HSv.out.below cp41.b) n2 M (by omega) (by omega) cp41.b.size ?_
            intro A42 c42 X42 ho42 hg42 ha42 hc42
            rw [List.nil_append] at ho42
            have cp42 := cp41.vApp (by rw [List.length_map, HM.out]; exact ho42) hg42 ha42 hc42
            clear cp41 ho42 hg42 ha42 hc42
            refine hK.out _ _ (fun _ => held _ cp42.b) ?_
            clear hK K
            try simp only [Act.put, List.setIfInBounds_toArray, List.set_cons_zero, List.set_cons_succ]
            refine E_take (i := 12) (v := ?_) [12] rfl (by kernel_rfl) (by kernel_rfl) (by kernel_rfl) (by kernel_rfl) (by kernel_rfl) rfl (fun _ _ _ h => h) (Or.inl ⟨by rfl, ?_⟩) (held _ cp42.b) ?_
            rotate_left
            · (intro w' hSw; (try dsimp only at hSw); go_simp <;> (with_reducible rfl))
            try simp only [Act.put, List.setIfInBounds_toArray, List.set_cons_zero, List.set_cons_succ]
            refine E_one (i := 14) rfl (by kernel_rfl) (by rfl) (fun K hK => ?_)
            have hP := cp42.pp.2
            have y0 : X42.cell? ⟨X37.heap.size, 0, none⟩ = some (.slice none 0 0) := by simp only [World.cell?, hP]; rfl
            have y1 : X42.cell? ⟨X37.heap.size, 1, none⟩ = some (.slice none 0 0) := by simp only [World.cell?, hP]; rfl
            have y2 : X42.frozen? ⟨X37.heap.size, 0, none⟩ = false := by simp only [World.frozen?, hP]; simp
            have y3 : X42.frozen? ⟨X37.heap.size, 1, none⟩ = false := by simp only [World.frozen?, hP]; simp
            clear hP
            go_simp
            refine hK.out _ _ (fun h => absurd rfl h) ?_
            clear hK K
            try simp only [Act.put, List.setIfInBounds_toArray, List.set_cons_zero, List.set_cons_succ]
            refine E_done (by kernel_rfl) ?_ _
            go_wp2_with fail
            all_goals go_meet
            all_goals (obtain ⟨d1, d2⟩ := cp42.done (N := M); exact ⟨X37.heap.size, rfl, d1, d2⟩)
        · go_simp
          have cp44 := cp36.pNew
          clear cp36
          generalize hX44 : World.alloc X36 (.cells #[.slice none 0 0, .slice none 0 0] 34) = X44 at *
          refine hK.out _ _ (fun _ => held _ cp44.b) ?_
          clear hK K
          try simp only [Act.put, List.setIfInBounds_toArray, List.set_cons_zero, List.set_cons_succ]
          refine E_one (i := 5) rfl (by kernel_rfl) (by rfl) (fun K hK => ?_)
          refine app_S (.tmp 37) (.tmp 41) rfl w2.heap.size (.slice (some ⟨X35.heap.size, 0, none⟩) 0 0) 0 [] (by rfl) cp44.kp _ M _ (l.map (·.1)) (by rfl) (by rw [List.length_map]; exact HM.out) (HSs.out.below cp44.b) n1 M (by omega) (by omega) cp44.b.size ?_
          intro A45 c45 X45 ho45 hg45 ha45 hc45
          rw [List.nil_append] at ho45
          have cp45 := cp44.kApp (by rw [List.length_map, HM.out]; exact ho45) hg45 ha45 hc45
          clear cp44 ho45 hg45 ha45 hc45
          refine hK.out _ _ (fun _ => held _ cp45.b) ?_
          clear hK K
          try simp only [Act.put, List.setIfInBounds_toArray, List.set_cons_zero, List.set_cons_succ]
          refine E_one (i := 11) rfl (by kernel_rfl) (by rfl) (fun K hK => ?_)
          refine app_U (.tmp 43) (.tmp 47) rfl w2.heap.size (.slice (some ⟨X0.heap.size, 0, none⟩) 0 0) 0 [] (by rfl) cp45.vp _ M _ (l.map (·.2)) (by rfl) (by rw [List.length_map]; exact HM.out) (HSv.out.below cp45.b) n2 M (by omega) (by omega) cp45.b.size ?_
          intro A46 c46 X46 ho46 hg46 ha46 hc46
          rw [List.nil_append] at ho46
          have cp46 := cp45.vApp (by rw [List.length_map, HM.out]; exact ho46) hg46 ha46 hc46
          clear cp45 ho46 hg46 ha46 hc46
          refine hK.out _ _ (fun _ => held _ cp46.b) ?_
          clear hK K
          try simp only [Act.put, List.setIfInBounds_toArray, List.set_cons_zero, List.set_cons_succ]
          refine E_take (i := 12) (v := ?_) [12] rfl (by kernel_rfl) (by kernel_rfl) (by kernel_rfl) (by kernel_rfl) (by kernel_rfl) rfl (fun _ _ _ h => h) (Or.inl ⟨by rfl, ?_⟩) (held _ cp46.b) ?_
          rotate_left
          · (intro w' hSw; (try dsimp only at hSw); go_simp <;> (with_reducible rfl))
          try simp only [Act.put, List.setIfInBounds_toArray, List.set_cons_zero, List.set_cons_succ]
          refine E_one (i := 14) rfl (by kernel_rfl) (by rfl) (fun K hK => ?_)
          have hP := cp46.pp.2
          have y0 : X46.cell? ⟨X36.heap.size, 0, none⟩ = some (.slice none 0 0) := by simp only [World.cell?, hP]; rfl
          have y1 : X46.cell? ⟨X36.heap.size, 1, none⟩ = some (.slice none 0 0) := by simp only [World.cell?, hP]; rfl
          have y2 : X46.frozen? ⟨X36.heap.size, 0, none⟩ = false := by simp only [World.frozen?, hP]; simp
          have y3 : X46.frozen? ⟨X36.heap.size, 1, none⟩ = false := by simp only [World.frozen?, hP]; simp
          clear hP
          go_simp
          refine hK.out _ _ (fun h => absurd rfl h) ?_
          clear hK K
          try simp only [Act.put, List.setIfInBounds_toArray, List.set_cons_zero, List.set_cons_succ]
          refine E_done (by kernel_rfl) ?_ _
          go_wp2_with fail
          all_goals go_meet
          all_goals (obtain ⟨d1, d2⟩ := cp46.done (N := M); exact ⟨X36.heap.size, rfl, d1, d2⟩)
      · go_simp
        have cp48 := cp35.pNew
        clear cp35
        generalize hX48 : World.alloc X35 (.cells #[.slice none 0 0, .slice none 0 0] 34) = X48 at *
        refine hK.out _ _ (fun _ => held _ cp48.b) ?_
        clear hK K
        try simp only [Act.put, List.setIfInBounds_toArray, List.set_cons_zero, List.set_cons_succ]
        refine E_one (i := 0) rfl (by kernel_rfl) (by rfl) (fun K hK => ?_)
        go_simp
        have cp49 := cp48.kNew
        clear cp48
        generalize hX49 : World.alloc X48 (.cells #[] 26) = X49 at *
        refine hK.out _ _ (fun _ => held _ cp49.b) ?_
        clear hK K
        try simp only [Act.put, List.setIfInBounds_toArray, List.set_cons_zero, List.set_cons_succ]
        refine E_one (i := 5) rfl (by kernel_rfl) (by rfl) (fun K hK => ?_)
        refine app_S (.tmp 37) (.tmp 41) rfl w2.heap.size (.slice (some ⟨X48.heap.size, 0, none⟩) 0 0) 0 [] (by rfl) cp49.kp _ M _ (l.map (·.1)) (by rfl) (by rw [List.length_map]; exact HM.out) (HSs.out.below cp49.b) n1 M (by omega) (by omega) cp49.b.size ?_
        intro A50 c50 X50 ho50 hg50 ha50 hc50
        rw [List.nil_append] at ho50
        have cp50 := cp49.kApp (by rw [List.length_map, HM.out]; exact ho50) hg50 ha50 hc50
        clear cp49 ho50 hg50 ha50 hc50
        refine hK.out _ _ (fun _ => held _ cp50.b) ?_
        clear hK K
        try simp only [Act.put, List.setIfInBounds_toArray, List.set_cons_zero, List.set_cons_succ]
        refine E_one (i := 11) rfl (by kernel_rfl) (by rfl) (fun K hK => ?_)
        refine app_U (.tmp 43) (.tmp 47) rfl w2.heap.size (.slice (some ⟨X0.heap.size, 0, none⟩) 0 0) 0 [] (by rfl) cp50.vp _ M _ (l.map (·.2)) (by rfl) (by rw [List.length_map]; exact HM.out) (HSv.out.below cp50.b) n2 M (by omega) (by omega) cp50.b.size ?_
        intro A51 c51 X51 ho51 hg51 ha51 hc51
        rw [List.nil_append] at ho51
        have cp51 := cp50.vApp (by rw [List.length_map, HM.out]; exact ho51) hg51 ha51 hc51
        clear cp50 ho51 hg51 ha51 hc51
        refine hK.out _ _ (fun _ => held _ cp51.b) ?_
        clear hK K
        try simp only [Act.put, List.setIfInBounds_toArray, List.set_cons_zero, List.set_cons_succ]
        refine E_take (i := 12) (v := ?_) [12] rfl (by kernel_rfl) (by kernel_rfl) (by kernel_rfl) (by kernel_rfl) (by kernel_rfl) rfl (fun _ _ _ h => h) (Or.inl ⟨by rfl, ?_⟩) (held _ cp51.b) ?_
        rotate_left
        · (intro w' hSw; (try dsimp only at hSw); go_simp <;> (with_reducible rfl))
        try simp only [Act.put, List.setIfInBounds_toArray, List.set_cons_zero, List.set_cons_succ]
        refine E_one (i := 14) rfl (by kernel_rfl) (by rfl) (fun K hK => ?_)
        have hP := cp51.pp.2
        have y0 : X51.cell? ⟨X35.heap.size, 0, none⟩ = some (.slice none 0 0) := by simp only [World.cell?, hP]; rfl
        have y1 : X51.cell? ⟨X35.heap.size, 1, none⟩ = some (.slice none 0 0) := by simp only [World.cell?, hP]; rfl
        have y2 : X51.frozen? ⟨X35.heap.size, 0, none⟩ = false := by simp only [World.frozen?, hP]; simp
        have y3 : X51.frozen? ⟨X35.heap.size, 1, none⟩ = false := by simp only [World.frozen?, hP]; simp
        clear hP
        go_simp
        refine hK.out _ _ (fun h => absurd rfl h) ?_
        clear hK K
        try simp only [Act.put, List.setIfInBounds_toArray, List.set_cons_zero, List.set_cons_succ]
        refine E_done (by kernel_rfl) ?_ _
        go_wp2_with fail
        all_goals go_meet
        all_goals (obtain ⟨d1, d2⟩ := cp51.done (N := M); exact ⟨X35.heap.size, rfl, d1, d2⟩)
    · go_simp
      have cp53 := cp0.pNew
      clear cp0
      generalize hX53 : World.alloc X0 (.cells #[.slice none 0 0, .slice none 0 0] 34) = X53 at *
      refine hK.out _ _ (fun _ => held _ cp53.b) ?_
      clear hK K
      try simp only [Act.put, List.setIfInBounds_toArray, List.set_cons_zero, List.set_cons_succ]
      refine E_two (i := 0) (j := 6) rfl rfl (by kernel_rfl) (by rfl) (by rfl) (fun K hK => ?_) (fun K hK => ?_)
      · go_simp
        have cp54 := cp53.kNew
        clear cp53
        generalize hX54 : World.alloc X53 (.cells #[] 26) = X54 at *
        refine hK.out _ _ (fun _ => held _ cp54.b) ?_
        clear hK K
        try simp only [Act.put, List.setIfInBounds_toArray, List.set_cons_zero, List.set_cons_succ]
        refine E_two (i := 5) (j := 6) rfl rfl (by kernel_rfl) (by rfl) (by rfl) (fun K hK => ?_) (fun K hK => ?_)
        · refine app_S (.tmp 37) (.tmp 41) rfl w2.heap.size (.slice (some ⟨X53.heap.size, 0, none⟩) 0 0) 0 [] (by rfl) cp54.kp _ M _ (l.map (·.1)) (by rfl) (by rw [List.length_map]; exact HM.out) (HSs.out.below cp54.b) n1 M (by omega) (by omega) cp54.b.size ?_
          intro A55 c55 X55 ho55 hg55 ha55 hc55
          rw [List.nil_append] at ho55
          have cp55 := cp54.kApp (by rw [List.length_map, HM.out]; exact ho55) hg55 ha55 hc55
          clear cp54 ho55 hg55 ha55 hc55
          refine hK.out _ _ (fun _ => held _ cp55.b) ?_
          clear hK K
          try simp only [Act.put, List.setIfInBounds_toArray, List.set_cons_zero, List.set_cons_succ]
          refine E_one (i := 6) rfl (by kernel_rfl) (by rfl) (fun K hK => ?_)
          go_simp
          have cp56 := cp55.vNew
          clear cp55
          generalize hX56 : World.alloc X55 (.cells #[] 24) = X56 at *
          refine hK.out _ _ (fun _ => held _ cp56.b) ?_
          clear hK K
          try simp only [Act.put, List.setIfInBounds_toArray, List.set_cons_zero, List.set_cons_succ]
          refine E_one (i := 11) rfl (by kernel_rfl) (by rfl) (fun K hK => ?_)
          refine app_U (.tmp 43) (.tmp 47) rfl w2.heap.size (.slice (some ⟨X55.heap.size, 0, none⟩) 0 0) 0 [] (by rfl) cp56.vp _ M _ (l.map (·.2)) (by rfl) (by rw [List.length_map]; exact HM.out) (HSv.out.below cp56.b) n2 M (by omega) (by omega) cp56.b.size ?_
          intro A57 c57 X57 ho57 hg57 ha57 hc57
          rw [List.nil_append] at ho57
          have cp57 := cp56.vApp (by rw [List.length_map, HM.out]; exact ho57) hg57 ha57 hc57
          clear cp56 ho57 hg57 ha57 hc57
          refine hK.out _ _ (fun _ => held _ cp57.b) ?_
          clear hK K
          try simp only [Act.put, List.setIfInBounds_toArray, List.set_cons_zero, List.set_cons_succ]
          refine E_take (i := 12) (v := ?_) [12] rfl (by kernel_rfl) (by kernel_rfl) (by kernel_rfl) (by kernel_rfl) (by kernel_rfl) rfl (fun _ _ _ h => h) (Or.inl ⟨by rfl, ?_⟩) (held _ cp57.b) ?_
          rotate_left
          · (intro w' hSw; (try dsimp only at hSw); go_simp <;> (with_reducible rfl))
          try simp only [Act.put, List.setIfInBounds_toArray, List.set_cons_zero, List.set_cons_succ]
          refine E_one (i := 14) rfl (by kernel_rfl) (by rfl) (fun K hK => ?_)
          have hP := cp57.pp.2
          have y0 : X57.cell? ⟨X0.heap.size, 0, none⟩ = some (.slice none 0 0) := by simp only [World.cell?, hP]; rfl
          have y1 : X57.cell? ⟨X0.heap.size, 1, none⟩ = some (.slice none 0 0) := by simp only [World.cell?, hP]; rfl
          have y2 : X57.frozen? ⟨X0.heap.size, 0, none⟩ = false := by simp only [World.frozen?, hP]; simp
          have y3 : X57.frozen? ⟨X0.heap.size, 1, none⟩ = false := by simp only [World.frozen?, hP]; simp
          clear hP
          go_simp
          refine hK.out _ _ (fun h => absurd rfl h) ?_
          clear hK K
          try simp only [Act.put, List.setIfInBounds_toArray, List.set_cons_zero, List.set_cons_succ]
          refine E_done (by kernel_rfl) ?_ _
          go_wp2_with fail
          all_goals go_meet
          all_goals (obtain ⟨d1, d2⟩ := cp57.done (N := M); exact ⟨X0.heap.size, rfl, d1, d2⟩)
        · go_simp
          have cp59 := cp54.vNew
          clear cp54
          generalize hX59 : World.alloc X54 (.cells #[] 24) = X59 at *
          refine hK.out _ _ (fun _ => held _ cp59.b) ?_
          clear hK K
          try simp only [Act.put, List.setIfInBounds_toArray, List.set_cons_zero, List.set_cons_succ]
          refine E_one (i := 5) rfl (by kernel_rfl) (by rfl) (fun K hK => ?_)
          refine app_S (.tmp 37) (.tmp 41) rfl w2.heap.size (.slice (some ⟨X53.heap.size, 0, none⟩) 0 0) 0 [] (by rfl) cp59.kp _ M _ (l.map (·.1)) (by rfl) (by rw [List.length_map]; exact HM.out) (HSs.out.below cp59.b) n1 M (by omega) (by omega) cp59.b.size ?_
          intro A60 c60 X60 ho60 hg60 ha60 hc60
          rw [List.nil_append] at ho60
          have cp60 := cp59.kApp (by rw [List.length_map, HM.out]; exact ho60) hg60 ha60 hc60
          clear cp59 ho60 hg60 ha60 hc60
          refine hK.out _ _ (fun _ => held _ cp60.b) ?_
          clear hK K
          try simp only [Act.put, List.setIfInBounds_toArray, List.set_cons_zero, List.set_cons_succ]
          refine E_one (i := 11) rfl (by kernel_rfl) (by rfl) (fun K hK => ?_)
          refine app_U (.tmp 43) (.tmp 47) rfl w2.heap.size (.slice (some ⟨X54.heap.size, 0, none⟩) 0 0) 0 [] (by rfl) cp60.vp _ M _ (l.map (·.2)) (by rfl) (by rw [List.length_map]; exact HM.out) (HSv.out.below cp60.b) n2 M (by omega) (by omega) cp60.b.size ?_
          intro A61 c61 X61 ho61 hg61 ha61 hc61
          rw [List.nil_append] at ho61
          have cp61 := cp60.vApp (by rw [List.length_map, HM.out]; exact ho61) hg61 ha61 hc61
          clear cp60 ho61 hg61 ha61 hc61
          refine hK.out _ _ (fun _ => held _ cp61.b) ?_
          clear hK K
          try simp only [Act.put, List.setIfInBounds_toArray, List.set_cons_zero, List.set_cons_succ]
          refine E_take (i := 12) (v := ?_) [12] rfl (by kernel_rfl) (by kernel_rfl) (by kernel_rfl) (by kernel_rfl) (by kernel_rfl) rfl (fun _ _ _ h => h) (Or.inl ⟨by rfl, ?_⟩) (held _ cp61.b) ?_
          rotate_left
          · (intro w' hSw; (try dsimp only at hSw); go_simp <;> (with_reducible rfl))
          try simp only [Act.put, List.setIfInBounds_toArray, List.set_cons_zero, List.set_cons_succ]
          refine E_one (i := 14) rfl (by kernel_rfl) (by rfl) (fun K hK => ?_)
          have hP := cp61.pp.2
          have y0 : X61.cell? ⟨X0.heap.size, 0, none⟩ = some (.slice none 0 0) := by simp only [World.cell?, hP]; rfl
          have y1 : X61.cell? ⟨X0.heap.size, 1, none⟩ = some (.slice none 0 0) := by simp only [World.cell?, hP]; rfl
          have y2 : X61.frozen? ⟨X0.heap.size, 0, none⟩ = false := by simp only [World.frozen?, hP]; simp
          have y3 : X61.frozen? ⟨X0.heap.size, 1, none⟩ = false := by simp only [World.frozen?, hP]; simp
          clear hP
          go_simp
          refine hK.out _ _ (fun h => absurd rfl h) ?_
          clear hK K
          try simp only [Act.put, List.setIfInBounds_toArray, List.set_cons_zero, List.set_cons_succ]
          refine E_done (by kernel_rfl) ?_ _
          go_wp2_with fail
          all_goals go_meet
          all_goals (obtain ⟨d1, d2⟩ := cp61.done (N := M); exact ⟨X0.heap.size, rfl, d1, d2⟩)
      · go_simp
        have cp63 := cp53.vNew
        clear cp53
        generalize hX63 : World.alloc X53 (.cells #[] 24) = X63 at *
        refine hK.out _ _ (fun _ => held _ cp63.b) ?_
        clear hK K
        try simp only [Act.put, List.setIfInBounds_toArray, List.set_cons_zero, List.set_cons_succ]
        refine E_one (i := 0) rfl (by kernel_rfl) (by rfl) (fun K hK => ?_)
        go_simp
        have cp64 := cp63.kNew
        clear cp63
        generalize hX64 : World.alloc X63 (.cells #[] 26) = X64 at *
        refine hK.out _ _ (fun _ => held _ cp64.b) ?_
        clear hK K
        try simp only [Act.put, List.setIfInBounds_toArray, List.set_cons_zero, List.set_cons_succ]
        refine E_one (i := 5) rfl (by kernel_rfl) (by rfl) (fun K hK => ?_)
        refine app_S (.tmp 37) (.tmp 41) rfl w2.heap.size (.slice (some ⟨X63.heap.size, 0, none⟩) 0 0) 0 [] (by rfl) cp64.kp _ M _ (l.map (·.1)) (by rfl) (by rw [List.length_map]; exact HM.out) (HSs.out.below cp64.b) n1 M (by omega) (by omega) cp64.b.size ?_
        intro A65 c65 X65 ho65 hg65 ha65 hc65
        rw [List.nil_append] at ho65
        have cp65 := cp64.kApp (by rw [List.length_map, HM.out]; exact ho65) hg65 ha65 hc65
        clear cp64 ho65 hg65 ha65 hc65
        refine hK.out _ _ (fun _ => held _ cp65.b) ?_
        clear hK K
        try simp only [Act.put, List.setIfInBounds_toArray, List.set_cons_zero, List.set_cons_succ]
        refine E_one (i := 11) rfl (by kernel_rfl) (by rfl) (fun K hK => ?_)
        refine app_U (.tmp 43) (.tmp 47) rfl w2.heap.size (.slice (some ⟨X53.heap.size, 0, none⟩) 0 0) 0 [] (by rfl) cp65.vp _ M _ (l.map (·.2)) (by rfl) (by rw [List.length_map]; exact HM.out) (HSv.out.below cp65.b) n2 M (by omega) (by omega) cp65.b.size ?_
        intro A66 c66 X66 ho66 hg66 ha66 hc66
        rw [List.nil_append] at ho66
        have cp66 := cp65.vApp (by rw [List.length_map, HM.out]; exact ho66) hg66 ha66 hc66
        clear cp65 ho66 hg66 ha66 hc66
        refine hK.out _ _ (fun _ => held _ cp66.b) ?_
        clear hK K
        try simp only [Act.put, List.setIfInBounds_toArray, List.set_cons_zero, List.set_cons_succ]
        refine E_take (i := 12) (v := ?_) [12] rfl (by kernel_rfl) (by kernel_rfl) (by kernel_rfl) (by kernel_rfl) (by kernel_rfl) rfl (fun _ _ _ h => h) (Or.inl ⟨by rfl, ?_⟩) (held _ cp66.b) ?_
        rotate_left
        · (intro w' hSw; (try dsimp only at hSw); go_simp <;> (with_reducible rfl))
        try simp only [Act.put, List.setIfInBounds_toArray, List.set_cons_zero, List.set_cons_succ]
        refine E_one (i := 14) rfl (by kernel_rfl) (by rfl) (fun K hK => ?_)
        have hP := cp66.pp.2
        have y0 : X66.cell? ⟨X0.heap.size, 0, none⟩ = some (.slice none 0 0) := by simp only [World.cell?, hP]; rfl
        have y1 : X66.cell? ⟨X0.heap.size, 1, none⟩ = some (.slice none 0 0) := by simp only [World.cell?, hP]; rfl
        have y2 : X66.frozen? ⟨X0.heap.size, 0, none⟩ = false := by simp only [World.frozen?, hP]; simp
        have y3 : X66.frozen? ⟨X0.heap.size, 1, none⟩ = false := by simp only [World.frozen?, hP]; simp
        clear hP
        go_simp
        refine hK.out _ _ (fun h => absurd rfl h) ?_
        clear hK K
        try simp only [Act.put, List.setIfInBounds_toArray, List.set_cons_zero, List.set_cons_succ]
        refine E_done (by kernel_rfl) ?_ _
        go_wp2_with fail
        all_goals go_meet
        all_goals (obtain ⟨d1, d2⟩ := cp66.done (N := M); exact ⟨X0.heap.size, rfl, d1, d2⟩)
  case rest =>
    obtain ⟨P, rfl, hlR, hb3⟩ := hcut
    have HLR := Lib.hid hlR
    have HB3 := Lib.hid (HB2.out.trans (hb3.mono HB2.out.size))
    have HR3 := Lib.hid (HR.out.below hb3)
    clear hlR hb3 HR HL
    go_wp2_with fail
    go_loopw [10, 11] (fun m i wr => StayRel wc N m i wr) (fun _ i _ => (N - intOf i).toNat)
    case atStart => exact ⟨k, r, l, rfl, rfl, Nat.le_of_lt hkN, HR3.out, HA.out, Below.refl _ _⟩
    case round =>
      obtain ⟨j, rr, l2, rfl, rfl, hj, hr2, ha2, hbr⟩ := hrel
      have HB := Lib.hid hbr
      have HR2 := Lib.hid hr2
      have HA2 := Lib.hid ha2
      by_cases hjn : j < N
      · have hjd : j < ds.length := by rw [HN0.out]; exact hjn
        have hbW := HB3.out.trans (hbr.mono HB3.out.size)
        obtain ⟨b, off, rfl, hb, hcs⟩ := HD.out (by omega)
        obtain ⟨d0, d1, d2, d3, d4, d5⟩ := (hcs j hjd).below hbW hb
        generalize ds[j] = d at *
        have e1 : (0 : Int) ≤ (j : Int) := by omega
        have e2 : (j : Int) < (N : Int) := by omega
        have HJ : Hid (j + 1 ≤ N) := hjn
        clear hbW hcs ha2 hbr
        cases hdel : d.del with
        | true =>
          rw [hdel] at d0
          rcases hr2 with ⟨rfl, rfl⟩ | ⟨q, h, n, rfl, hn, h0, h2, h4⟩
          · go_wp2_with fail
            go_roundw
            case rel => exact ⟨j + 1, none, [], by simp, rfl, HJ.out, HR2.out, HA2.out, HB.out⟩
            case measure => (simp [intOf] <;> omega)
          · have HDel := Lib.hid (Del_at hn h0 h2 h4 HA2.out d.k)
            clear hn h0 h2 h4
            go_wp2_with fail
            refine HDel.out.mono ?_
            rintro e w5 hp
            rcases hp with ⟨hh, rfl, hb5⟩ | ⟨hh, r', rfl, hr5, hb5⟩
            · go_wp2_with fail
              go_roundw
              case rel => exact ⟨j + 1, _, l2, by simp, rfl, HJ.out, HR2.out.below hb5, HA2.out, HB.out.trans (hb5.mono HB.out.size)⟩
              case measure => (simp [intOf] <;> omega)
            · go_wp2_with fail
              go_roundw
              case rel => exact ⟨j + 1, r', _, by simp, rfl, HJ.out, hr5, delE_asc HA2.out, HB.out.trans (hb5.mono HB.out.size)⟩
              case measure => (simp [intOf] <;> omega)
        | false =>
          rw [hdel] at d0
          clear hr2
          have HG := Lib.hid (grow_at (HR2.out.below (bel_drewN _ _ (n := 1))) HA2.out d.k d.v)
          go_wp2_with fail
          refine wp_region_held_drew (S := (fun X => X.cell? ⟨b, off + j * 6 + 1, none⟩ = some (.int .i64 d.k.br) ∧ X.cell? ⟨b, off + j * 6 + 2, none⟩ = some (.int .i64 d.k.vol) ∧ X.cell? ⟨b, off + j * 6 + 3, none⟩ = some (.int .i64 d.k.blk) ∧ X.cell? ⟨b, off + j * 6 + 4, none⟩ = some (.int .u64 d.k.num) ∧ X.cell? ⟨b, off + j * 6 + 5, none⟩ = some (.int .u64 d.v))) (by kernel_rfl) ⟨d1, d2, d3, d4, d5⟩ (fun hHeld => ?_)
          refine take_at (i := 0) (v := ?_) rfl (by kernel_rfl) (by kernel_rfl) (by kernel_rfl) (fun _ _ _ h => h) (Or.inl ⟨by rfl, ?_⟩) (by assumption) ?_
          rotate_left
          · (intro w' hSw; (try dsimp only at hSw); go_simp <;> (with_reducible rfl))
          try simp only [Act.put, List.setIfInBounds_toArray, List.set_cons_zero, List.set_cons_succ]
          refine take_at (i := 1) (v := ?_) rfl (by kernel_rfl) (by kernel_rfl) (by kernel_rfl) (fun _ _ _ h => h) (Or.inl ⟨by rfl, ?_⟩) (by assumption) ?_
          rotate_left
          · (intro w' hSw; (try dsimp only at hSw); go_simp <;> (with_reducible rfl))
          try simp only [Act.put, List.setIfInBounds_toArray, List.set_cons_zero, List.set_cons_succ]
          refine take_at (i := 2) (v := ?_) rfl (by kernel_rfl) (by kernel_rfl) (by kernel_rfl) (fun _ _ _ h => h) (Or.inl ⟨by rfl, ?_⟩) (by assumption) ?_
          rotate_left
          · (intro w' hSw; (try dsimp only at hSw); go_simp <;> (with_reducible rfl))
          try simp only [Act.put, List.setIfInBounds_toArray, List.set_cons_zero, List.set_cons_succ]
          refine take_at (i := 3) (v := ?_) rfl (by kernel_rfl) (by kernel_rfl) (by kernel_rfl) (fun _ _ _ h => h) (Or.inl ⟨by rfl, ?_⟩) (by assumption) ?_
          rotate_left
          · (intro w' hSw; (try dsimp only at hSw); go_simp <;> (with_reducible rfl))
          try simp only [Act.put, List.setIfInBounds_toArray, List.set_cons_zero, List.set_cons_succ]
          refine take_at (i := 4) (v := ?_) rfl (by kernel_rfl) (by kernel_rfl) (by kernel_rfl) (fun _ _ _ h => h) (Or.inl ⟨by rfl, ?_⟩) (by assumption) ?_
          rotate_left
          · (intro w' hSw; (try dsimp only at hSw); go_simp <;> (with_reducible rfl))
          try simp only [Act.put, List.setIfInBounds_toArray, List.set_cons_zero, List.set_cons_succ]
          refine take_at (i := 5) (v := ?_) rfl (by kernel_rfl) (by kernel_rfl) (by kernel_rfl) (fun _ _ _ h => h) (Or.inl ⟨by rfl, ?_⟩) (by assumption) ?_
          rotate_left
          · (intro w' hSw; (try dsimp only at hSw); go_simp <;> (with_reducible rfl))
          try simp only [Act.put, List.setIfInBounds_toArray, List.set_cons_zero, List.set_cons_succ]
          refine take_at (i := 6) (v := ?_) rfl (by kernel_rfl) (by kernel_rfl) (by kernel_rfl) (fun _ _ _ h => h) (Or.inl ⟨by rfl, ?_⟩) (by assumption) ?_
          rotate_left
          · (intro w' hSw; (try dsimp only at hSw); go_simp <;> (with_reducible rfl))
          try simp only [Act.put, List.setIfInBounds_toArray, List.set_cons_zero, List.set_cons_succ]
          refine take_at (i := 7) (v := ?_) rfl (by kernel_rfl) (by kernel_rfl) (by kernel_rfl) (fun _ _ _ h => h) (Or.inl ⟨by rfl, ?_⟩) (by assumption) ?_
          rotate_left
          · (intro w' hSw; (try dsimp only at hSw); go_simp <;> (with_reducible rfl))
          try simp only [Act.put, List.setIfInBounds_toArray, List.set_cons_zero, List.set_cons_succ]
          refine take_at (i := 8) (v := ?_) rfl (by kernel_rfl) (by kernel_rfl) (by kernel_rfl) (fun _ _ _ h => h) (Or.inl ⟨by rfl, ?_⟩) (by assumption) ?_
          rotate_left
          · (intro w' hSw; (try dsimp only at hSw); go_simp <;> (with_reducible rfl))
          try simp only [Act.put, List.setIfInBounds_toArray, List.set_cons_zero, List.set_cons_succ]
          refine take_at (i := 9) (v := ?_) rfl (by kernel_rfl) (by kernel_rfl) (by kernel_rfl) (fun _ _ _ h => h) (Or.inl ⟨by rfl, ?_⟩) (by assumption) ?_
          rotate_left
          · (intro w' hSw; (try dsimp only at hSw); go_simp <;> (with_reducible rfl))
          try simp only [Act.put, List.setIfInBounds_toArray, List.set_cons_zero, List.set_cons_succ]
          refine take_at (i := 10) (v := ?_) rfl (by kernel_rfl) (by kernel_rfl) (by kernel_rfl) (fun _ _ _ h => h) (Or.inl ⟨by rfl, ?_⟩) (by assumption) ?_
          rotate_left
          · (intro w' hSw; (try dsimp only at hSw); go_simp <;> (with_reducible rfl))
          try simp only [Act.put, List.setIfInBounds_toArray, List.set_cons_zero, List.set_cons_succ]
          refine one_at (i := 11) rfl (by kernel_rfl) (by rfl) (fun K hK => ?_)
          go_simp
          go_at_call 23
          refine HG.out.mono ?_
          rintro e w5 ⟨rr5, rfl, hr5, hb5⟩
          have zb := World.block_lt_of_cell? _ _ d1
          have hb6 : Below wr.heap.size wr w5 := (bel_drewN _ _ (n := 1)).trans hb5
          refine hK.out _ _ ⟨bel_cell hb6 zb d1, bel_cell hb6 zb d2, bel_cell hb6 zb d3, bel_cell hb6 zb d4, bel_cell hb6 zb d5⟩ (fun hHeld2 => ?_)
          clear hK K
          try simp only [Act.put, List.setIfInBounds_toArray, List.set_cons_zero, List.set_cons_succ]
          refine take_at (i := 12) (v := ?_) rfl (by kernel_rfl) (by kernel_rfl) (by kernel_rfl) (fun _ _ _ h => h) (Or.inl ⟨by rfl, ?_⟩) (by assumption) ?_
          rotate_left
          · (intro w' hSw; (try dsimp only at hSw); go_simp <;> (with_reducible rfl))
          try simp only [Act.put, List.setIfInBounds_toArray, List.set_cons_zero, List.set_cons_succ]
          refine wpAnyH_done (by kernel_rfl) ?_ _
          try simp only [Act.put, List.setIfInBounds_toArray, List.set_cons_zero, List.set_cons_succ]
          have HR5 := Lib.hid hr5
          have HB5 := Lib.hid hb6
          clear hr5 hb5 hb6
          go_wp2_with fail
          go_roundw
          case rel => exact ⟨j + 1, rr5, _, by simp, rfl, HJ.out, HR5.out, insE_asc HA2.out, HB.out.trans (HB5.out.mono HB.out.size)⟩
          case measure => (simp [intOf] <;> omega)
      · have HS := Lib.hid (sameR_at (HR3.out.below hbr) (HLR.out.below hbr) (by omega) HA.out)
        clear hr2 ha2 hbr
        have e2 : decide ((j : Int) < (N : Int)) = false := by simp; omega
        obtain rfl : j = N := by omega
        go_wp2_with fail
        refine HS.out.mono ?_
        rintro e w9 ⟨rfl, hb9⟩
        go_wp2_with fail
        go_ret
        have hb39 := HB3.out.trans ((HB.out.trans (hb9.mono HB.out.size)).mono HB3.out.size)
        exact ⟨rfl, hb39⟩
end Go.Proofs.Ytjeebbolnanmkaa.N
