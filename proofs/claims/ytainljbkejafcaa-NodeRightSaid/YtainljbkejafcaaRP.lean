/- RP: joined by merge.py. -/
import Derived.Test.YtainljbkejafcaaNList
import Derived.Test.YtainljbkejafcaaNPut
import Derived.Test.YtainljbkejafcaaNPure
import Derived.Test.YtainljbkejafcaaNGrow
/- The document's Put: where a spot is not there. -/
namespace Go.Proofs.Ytainljbkejafcaa.N
open Go.RowKit Go.Proofs.YtainljbkejafcaaW.PrintMore Go.Proofs.YtainljbkejafcaaW.PrintWords
set_option linter.unusedVariables false
set_option linter.unusedSimpArgs false
set_option maxHeartbeats 3200000 in
set_option maxRecDepth 100000 in
theorem rput_new {w : World} {L B : Nat} {ks : List Sp} {vs : List Int} {kv vv : Value} (h : ListAt w L B ks vs kv vv) (hB : B ≤ w.heap.size) (k : Sp) (v : Int) (hk : ks.length ≤ 1000) (i : Nat) (hf : findL k ks = (i, false)) (hi : i ≤ ks.length) :
    Calls Try.prog 22 #[.pointer (some ⟨L, 0, none⟩), k.v, .int .u64 v] w (RPut w L B (ks.take i ++ [k] ++ ks.drop i) (vs.take i ++ [v] ++ vs.drop i)) := by
  unfold Sp.v
  obtain ⟨KS, hKS⟩ : ∃ KS, ks.take i ++ [k] ++ ks.drop i = KS := ⟨_, rfl⟩
  obtain ⟨VS, hVS⟩ : ∃ VS, vs.take i ++ [v] ++ vs.drop i = VS := ⟨_, rfl⟩
  rw [hKS, hVS]
  have HKS := Lib.hid hKS
  have HVS := Lib.hid hVS
  clear hKS hVS
  have HL := Lib.hid h
  have lL := h.lt
  obtain ⟨A, cc, rfl, hc1, hc2, hsA⟩ := spots_own h.keys
  have hp := h.hp
  have HS := Lib.hid hsA
  clear hsA h
  go_enter Try.func22, Try.ntmps22
  go_wp2_with fail
  have hk1 := heap_alloc_new w (.cells #[.int .i64 k.br, .int .i64 k.vol, .int .i64 k.blk, .int .u64 k.num] 26)
  have hbw : Below w.heap.size w (w.alloc (.cells #[.int .i64 k.br, .int .i64 k.vol, .int .i64 k.blk, .int .u64 k.num] 26)) := (Below.refl _ _).alloc (Nat.le_refl _) _
  have zk : w.heap.size < (w.alloc (.cells #[.int .i64 k.br, .int .i64 k.vol, .int .i64 k.blk, .int .u64 k.num] 26)).heap.size := by simp
  generalize w.alloc (.cells #[.int .i64 k.br, .int .i64 k.vol, .int .i64 k.blk, .int .u64 k.num] 26) = W at *
  refine (rfind_at ((hbw.block L lL).trans hp) (HS.out.below hbw) k (by omega)).mono ?_
  rintro e w1 ⟨rfl, hb1⟩
  simp only [hf]
  have hpz : w.heap.size < w1.heap.size := Nat.lt_of_lt_of_le zk hb1.size
  have hk2 := (hb1.block _ zk).trans hk1
  have HBW : Hid (Below w.heap.size w w1) := hbw.trans (hb1.mono hbw.size)
  have hL1 := (HBW.out.block L lL).trans hp
  have hLz : L < w1.heap.size := by omega
  have HL1 := Lib.hid (HL.out.below HBW.out)
  have HS1 := Lib.hid (HS.out.below HBW.out)
  clear hbw hb1 hk1 zk hp
  generalize hpk : w.heap.size = pk at *
  have k0 : w1.cell? ⟨pk, 0, none⟩ = some (.int .i64 k.br) := by simp only [World.cell?, hk2]; rfl
  have k1 : w1.cell? ⟨pk, 1, none⟩ = some (.int .i64 k.vol) := by simp only [World.cell?, hk2]; rfl
  have k2 : w1.cell? ⟨pk, 2, none⟩ = some (.int .i64 k.blk) := by simp only [World.cell?, hk2]; rfl
  have k3 : w1.cell? ⟨pk, 3, none⟩ = some (.int .u64 k.num) := by simp only [World.cell?, hk2]; rfl
  have HFr : w1.frozen? ⟨L, 0, none⟩ = false := by simp only [World.frozen?, hL1]; simp
  have dc : w1.cell? ⟨L, 0, none⟩ = some (.slice A ks.length cc) := by simp only [World.cell?, hL1]; rfl
  obtain ⟨N, hN⟩ : ∃ N, ks.length = N := ⟨_, rfl⟩
  have HN := Lib.hid hN
  rw [hN] at dc hi hk hc1
  go_wp2_with fail
  go_cut [] (fun wx => ∃ A' c', wx.heap[L]? = some (.cells #[.slice A' (N + 1) c', vv] 34 (0, 0)) ∧ wx.ownsRow w1.heap.size 26 4 (.slice A' (N + 1) c') (N + 1) (sps (ks.take i ++ [k] ++ ks.drop i)) ∧ w1.grownBy wx (some L))
  case first =>
    have hsA := HS1.out
    have e1 : (0 : Int) ≤ (i : Int) := by omega
    have e2 : (i : Int) ≤ (N : Int) := by omega
    have e3 : (i : Int) ≤ (cc : Int) := by omega
    have e4 : (N : Int) ≤ (cc : Int) := by omega
    have hl1 : (ks.take i).length = i := by rw [List.length_take, HN.out]; omega
    have hl2 : (ks.drop i).length = N - i := by rw [List.length_drop, HN.out]
    obtain ⟨m2, hm2⟩ : ∃ m, N - i = m := ⟨_, rfl⟩
    rw [hm2] at hl2
    rcases row_form HL1.out.keys with ⟨e, n0⟩ | ⟨g, c, e, hgc, hcm, hgB⟩
    · injection e with ea eb ec
      subst ea ec
      obtain rfl : N = 0 := by omega
      obtain rfl : i = 0 := by omega
      have hy1 := spots_take hsA 0
      have hy2 : SpotsAt w1 none (ks.drop 0) := fun h => by simp at h; omega
      have hn1 : (none : Option Addr) = none → 0 = 0 ∧ 0 = 0 := fun _ => ⟨rfl, rfl⟩
      have hn2 := hn1
      obtain rfl : m2 = 0 := by omega
      generalize ks.take 0 = y1 at *
      generalize ks.drop 0 = y2 at *
      have held : ∀ X, Below w1.heap.size w1 X → (fun w' => w'.cell? ⟨L, 0, none⟩ = some (.slice none 0 0) ∧ w'.cell? ⟨pk, 0, none⟩ = some (.int .i64 k.br) ∧ w'.cell? ⟨pk, 1, none⟩ = some (.int .i64 k.vol) ∧ w'.cell? ⟨pk, 2, none⟩ = some (.int .i64 k.blk) ∧ w'.cell? ⟨pk, 3, none⟩ = some (.int .u64 k.num)) X := fun X hX => ⟨(hX.cell (p := ⟨L, 0, none⟩) hLz).trans dc, (hX.cell (p := ⟨pk, _, none⟩) hpz).trans k0, (hX.cell (p := ⟨pk, _, none⟩) hpz).trans k1, (hX.cell (p := ⟨pk, _, none⟩) hpz).trans k2, (hX.cell (p := ⟨pk, _, none⟩) hpz).trans k3⟩
      have hb0 : Below w1.heap.size w1 w1.drew := bel_drewN _ _ (n := 1)
      refine E_start 21 (fun w' => w'.cell? ⟨L, 0, none⟩ = some (.slice none 0 0) ∧ w'.cell? ⟨pk, 0, none⟩ = some (.int .i64 k.br) ∧ w'.cell? ⟨pk, 1, none⟩ = some (.int .i64 k.vol) ∧ w'.cell? ⟨pk, 2, none⟩ = some (.int .i64 k.blk) ∧ w'.cell? ⟨pk, 3, none⟩ = some (.int .u64 k.num)) (by kernel_rfl) ?_
      generalize World.drew w1 = X0 at *
      refine E_take (i := 0) (v := ?_) [0] rfl (by kernel_rfl) (by kernel_rfl) (by kernel_rfl) (by kernel_rfl) (by kernel_rfl) rfl (fun _ _ _ h => h) (Or.inl ⟨by rfl, ?_⟩) (held _ hb0) ?_
      rotate_left
      · (intro w' hSw; (try dsimp only at hSw); go_simp <;> (with_reducible rfl))
      try simp only [Act.put, List.setIfInBounds_toArray, List.set_cons_zero, List.set_cons_succ]
      refine E_take (i := 2) (v := ?_) [2] rfl (by kernel_rfl) (by kernel_rfl) (by kernel_rfl) (by kernel_rfl) (by kernel_rfl) rfl (fun _ _ _ h => h) (Or.inl ⟨by rfl, ?_⟩) (held _ hb0) ?_
      rotate_left
      · (intro w' hSw; (try dsimp only at hSw); go_simp <;> (with_reducible rfl))
      try simp only [Act.put, List.setIfInBounds_toArray, List.set_cons_zero, List.set_cons_succ]
      refine E_take (i := 3) (v := ?_) [3] rfl (by kernel_rfl) (by kernel_rfl) (by kernel_rfl) (by kernel_rfl) (by kernel_rfl) rfl (fun _ _ _ h => h) (Or.inl ⟨by rfl, ?_⟩) (held _ hb0) ?_
      rotate_left
      · (intro w' hSw; (try dsimp only at hSw); go_simp <;> (with_reducible rfl))
      try simp only [Act.put, List.setIfInBounds_toArray, List.set_cons_zero, List.set_cons_succ]
      refine E_take (i := 4) (v := ?_) [4] rfl (by kernel_rfl) (by kernel_rfl) (by kernel_rfl) (by kernel_rfl) (by kernel_rfl) rfl (fun _ _ _ h => h) (Or.inl ⟨by rfl, ?_⟩) (held _ hb0) ?_
      rotate_left
      · (intro w' hSw; (try dsimp only at hSw); go_simp <;> (with_reducible rfl))
      try simp only [Act.put, List.setIfInBounds_toArray, List.set_cons_zero, List.set_cons_succ]
      refine E_take (i := 5) (v := ?_) [5] rfl (by kernel_rfl) (by kernel_rfl) (by kernel_rfl) (by kernel_rfl) (by kernel_rfl) rfl (fun _ _ _ h => h) (Or.inl ⟨by rfl, ?_⟩) (held _ hb0) ?_
      rotate_left
      · (intro w' hSw; (try dsimp only at hSw); go_simp <;> (with_reducible rfl))
      try simp only [Act.put, List.setIfInBounds_toArray, List.set_cons_zero, List.set_cons_succ]
      refine E_take (i := 6) (v := ?_) [6] rfl (by kernel_rfl) (by kernel_rfl) (by kernel_rfl) (by kernel_rfl) (by kernel_rfl) rfl (fun _ _ _ h => h) (Or.inl ⟨by rfl, ?_⟩) (held _ hb0) ?_
      rotate_left
      · (intro w' hSw; (try dsimp only at hSw); go_simp <;> (with_reducible rfl))
      try simp only [Act.put, List.setIfInBounds_toArray, List.set_cons_zero, List.set_cons_succ]
      refine E_take (i := 7) (v := ?_) [7] rfl (by kernel_rfl) (by kernel_rfl) (by kernel_rfl) (by kernel_rfl) (by kernel_rfl) rfl (fun _ _ _ h => h) (Or.inl ⟨by rfl, ?_⟩) (held _ hb0) ?_
      rotate_left
      · (intro w' hSw; (try dsimp only at hSw); go_simp <;> (with_reducible rfl))
      try simp only [Act.put, List.setIfInBounds_toArray, List.set_cons_zero, List.set_cons_succ]
      refine E_take (i := 9) (v := ?_) [9] rfl (by kernel_rfl) (by kernel_rfl) (by kernel_rfl) (by kernel_rfl) (by kernel_rfl) rfl (fun _ _ _ h => h) (Or.inl ⟨by rfl, ?_⟩) (held _ hb0) ?_
      rotate_left
      · (intro w' hSw; (try dsimp only at hSw); go_simp <;> (with_reducible rfl))
      try simp only [Act.put, List.setIfInBounds_toArray, List.set_cons_zero, List.set_cons_succ]
      refine E_take (i := 12) (v := ?_) [12] rfl (by kernel_rfl) (by kernel_rfl) (by kernel_rfl) (by kernel_rfl) (by kernel_rfl) rfl (fun _ _ _ h => h) (Or.inl ⟨by rfl, ?_⟩) (held _ hb0) ?_
      rotate_left
      · (intro w' hSw; (try dsimp only at hSw); go_simp <;> (with_reducible rfl))
      try simp only [Act.put, List.setIfInBounds_toArray, List.set_cons_zero, List.set_cons_succ]
      refine E_take (i := 13) (v := ?_) [13] rfl (by kernel_rfl) (by kernel_rfl) (by kernel_rfl) (by kernel_rfl) (by kernel_rfl) rfl (fun _ _ _ h => h) (Or.inl ⟨by rfl, ?_⟩) (held _ hb0) ?_
      rotate_left
      · (intro w' hSw; (try dsimp only at hSw); go_simp <;> (with_reducible rfl))
      try simp only [Act.put, List.setIfInBounds_toArray, List.set_cons_zero, List.set_cons_succ]
      refine E_take (i := 14) (v := ?_) [14] rfl (by kernel_rfl) (by kernel_rfl) (by kernel_rfl) (by kernel_rfl) (by kernel_rfl) rfl (fun _ _ _ h => h) (Or.inl ⟨by rfl, ?_⟩) (held _ hb0) ?_
      rotate_left
      · (intro w' hSw; (try dsimp only at hSw); go_simp <;> (with_reducible rfl))
      try simp only [Act.put, List.setIfInBounds_toArray, List.set_cons_zero, List.set_cons_succ]
      refine E_take (i := 15) (v := ?_) [15] rfl (by kernel_rfl) (by kernel_rfl) (by kernel_rfl) (by kernel_rfl) (by kernel_rfl) rfl (fun _ _ _ h => h) (Or.inl ⟨by rfl, ?_⟩) (held _ hb0) ?_
      rotate_left
      · (intro w' hSw; (try dsimp only at hSw); go_simp <;> (with_reducible rfl))
      try simp only [Act.put, List.setIfInBounds_toArray, List.set_cons_zero, List.set_cons_succ]
      refine E_take (i := 16) (v := ?_) [16] rfl (by kernel_rfl) (by kernel_rfl) (by kernel_rfl) (by kernel_rfl) (by kernel_rfl) rfl (fun _ _ _ h => h) (Or.inl ⟨by rfl, ?_⟩) (held _ hb0) ?_
      rotate_left
      · (intro w' hSw; (try dsimp only at hSw); go_simp <;> (with_reducible rfl))
      try simp only [Act.put, List.setIfInBounds_toArray, List.set_cons_zero, List.set_cons_succ]
      refine E_take (i := 17) (v := ?_) [17] rfl (by kernel_rfl) (by kernel_rfl) (by kernel_rfl) (by kernel_rfl) (by kernel_rfl) rfl (fun _ _ _ h => h) (Or.inl ⟨by rfl, ?_⟩) (held _ hb0) ?_
      rotate_left
      · (intro w' hSw; (try dsimp only at hSw); go_simp <;> (with_reducible rfl))
      try simp only [Act.put, List.setIfInBounds_toArray, List.set_cons_zero, List.set_cons_succ]
      refine E_two (i := 1) (j := 10) rfl rfl (by kernel_rfl) (by rfl) (by rfl) (fun K hK => ?_) (fun K hK => ?_)
      · go_simp
        have ho1 := own_base (empty_own X0 26 4 (by decide)) hb0.size
        have hb1 := hb0.alloc hb0.size (.cells #[] 26)
        have hz1 := Lib.hid (World.size_alloc X0 (.cells #[] 26))
        generalize hX1 : World.alloc X0 (.cells #[] 26) = X1 at *
        refine hK.out _ _ (fun _ => held _ hb1) ?_
        clear hK K
        try simp only [Act.put, List.setIfInBounds_toArray, List.set_cons_zero, List.set_cons_succ]
        refine E_two (i := 8) (j := 10) rfl rfl (by kernel_rfl) (by rfl) (by rfl) (fun K hK => ?_) (fun K hK => ?_)
        · refine app_S (.tmp 32) (.tmp 38) rfl w1.heap.size _ (0) ([]) (by rfl) ho1 _ (0) _ (y1) (by rfl) hl1 (hy1.below hb1) hn1 (0) (by omega) (by omega) hb1.size ?_
          intro A2 c2 X2 ho2 hg2 ha2 hc2
          have hb2 := hb1.trans hc2
          refine hK.out _ _ (fun _ => held _ hb2) ?_
          clear hK K
          try simp only [Act.put, List.setIfInBounds_toArray, List.set_cons_zero, List.set_cons_succ]
          refine E_one (i := 10) rfl (by kernel_rfl) (by rfl) (fun K hK => ?_)
          go_simp
          have hs3 := spot_new X2 k
          have hb3 := hb2.alloc hb2.size (.cells #[.int .i64 k.br, .int .i64 k.vol, .int .i64 k.blk, .int .u64 k.num] 26)
          have hz3 := Lib.hid (World.size_alloc X2 (.cells #[.int .i64 k.br, .int .i64 k.vol, .int .i64 k.blk, .int .u64 k.num] 26))
          have hq3 := ho2.alloc (.cells #[.int .i64 k.br, .int .i64 k.vol, .int .i64 k.blk, .int .u64 k.num] 26)
          generalize hX3 : World.alloc X2 (.cells #[.int .i64 k.br, .int .i64 k.vol, .int .i64 k.blk, .int .u64 k.num] 26) = X3 at *
          refine hK.out _ _ (fun _ => held _ hb3) ?_
          clear hK K
          try simp only [Act.put, List.setIfInBounds_toArray, List.set_cons_zero, List.set_cons_succ]
          refine E_one (i := 11) rfl (by kernel_rfl) (by rfl) (fun K hK => ?_)
          refine app_S (.tmp 39) (.tmp 41) rfl w1.heap.size _ (0) ([] ++ y1) (by rfl) hq3 _ (1) 1 ([k]) (by rfl) rfl hs3 (fun e => by cases e) (1) (by omega) (by omega) hb3.size ?_
          intro A4 c4 X4 ho4 hg4 ha4 hc4
          have hb4 := hb3.trans hc4
          refine hK.out _ _ (fun _ => held _ hb4) ?_
          clear hK K
          try simp only [Act.put, List.setIfInBounds_toArray, List.set_cons_zero, List.set_cons_succ]
          refine E_one (i := 18) rfl (by kernel_rfl) (by rfl) (fun K hK => ?_)
          refine app_S (.tmp 42) (.tmp 48) rfl w1.heap.size _ (1) ([] ++ y1 ++ [k]) (by rfl) ho4 _ (0) _ (y2) (by rfl) hl2 (hy2.below hb4) hn2 (1) (by omega) (by omega) hb4.size ?_
          intro A5 c5 X5 ho5 hg5 ha5 hc5
          have hb5 := hb4.trans hc5
          refine hK.out _ _ (fun _ => held _ hb5) ?_
          clear hK K
          try simp only [Act.put, List.setIfInBounds_toArray, List.set_cons_zero, List.set_cons_succ]
          refine E_take (i := 19) (v := ?_) [20, 19] rfl (by kernel_rfl) (by kernel_rfl) (by kernel_rfl) (by kernel_rfl) (by kernel_rfl) rfl (fun _ _ _ h => h) (Or.inl ⟨by rfl, ?_⟩) (held _ hb5) ?_
          rotate_left
          · (intro w' hSw; (try dsimp only at hSw); go_simp <;> (with_reducible rfl))
          try simp only [Act.put, List.setIfInBounds_toArray, List.set_cons_zero, List.set_cons_succ]
          refine E_take (i := 20) (v := ?_) [20] rfl (by kernel_rfl) (by kernel_rfl) (by kernel_rfl) (by kernel_rfl) (by kernel_rfl) rfl (fun _ _ _ h => h) (Or.inl ⟨by rfl, ?_⟩) (held _ hb5) ?_
          rotate_left
          · (intro w' hSw; (try dsimp only at hSw); go_simp <;> (with_reducible rfl))
          try simp only [Act.put, List.setIfInBounds_toArray, List.set_cons_zero, List.set_cons_succ]
          refine E_one (i := 21) rfl (by kernel_rfl) (by rfl) (fun K hK => ?_)
          have hfr := (hb5.frozen (p := ⟨L, 0, none⟩) hLz).trans HFr
          obtain ⟨qc, q0, q1, q2, q3⟩ := held _ hb5
          go_simp
          refine hK.out _ _ (fun h => absurd rfl h) ?_
          clear hK K
          try simp only [Act.put, List.setIfInBounds_toArray, List.set_cons_zero, List.set_cons_succ]
          refine E_done (by kernel_rfl) ?_ _
          go_wp2_with fail
          all_goals (
          go_meet
          have hLb := (hb5.block L hLz).trans hL1
          have hw5 := ownsRow_setCell_below ho5 (a := ⟨L, 0, none⟩) hLz (.slice A5 (1) c5)
          exact ⟨A5, c5, set_at (o := 0) hLb, by rw [List.nil_append] at hw5; exact hw5, grown_set (below_grown hb5 rfl) _⟩)
        · go_simp
          have hs7 := spot_new X1 k
          have hb7 := hb1.alloc hb1.size (.cells #[.int .i64 k.br, .int .i64 k.vol, .int .i64 k.blk, .int .u64 k.num] 26)
          have hz7 := Lib.hid (World.size_alloc X1 (.cells #[.int .i64 k.br, .int .i64 k.vol, .int .i64 k.blk, .int .u64 k.num] 26))
          have hq7 := ho1.alloc (.cells #[.int .i64 k.br, .int .i64 k.vol, .int .i64 k.blk, .int .u64 k.num] 26)
          generalize hX7 : World.alloc X1 (.cells #[.int .i64 k.br, .int .i64 k.vol, .int .i64 k.blk, .int .u64 k.num] 26) = X7 at *
          refine hK.out _ _ (fun _ => held _ hb7) ?_
          clear hK K
          try simp only [Act.put, List.setIfInBounds_toArray, List.set_cons_zero, List.set_cons_succ]
          refine E_one (i := 8) rfl (by kernel_rfl) (by rfl) (fun K hK => ?_)
          refine app_S (.tmp 32) (.tmp 38) rfl w1.heap.size _ (0) ([]) (by rfl) hq7 _ (0) _ (y1) (by rfl) hl1 (hy1.below hb7) hn1 (0) (by omega) (by omega) hb7.size ?_
          intro A8 c8 X8 ho8 hg8 ha8 hc8
          have hb8 := hb7.trans hc8
          have hr8 := hs7.grown hg8 (fun b off e => by cases e; simp only [Value.ownBlock, ne_eq, Option.some.injEq]; have := hz1.out; have := hz7.out; omega)
          refine hK.out _ _ (fun _ => held _ hb8) ?_
          clear hK K
          try simp only [Act.put, List.setIfInBounds_toArray, List.set_cons_zero, List.set_cons_succ]
          refine E_one (i := 11) rfl (by kernel_rfl) (by rfl) (fun K hK => ?_)
          refine app_S (.tmp 39) (.tmp 41) rfl w1.heap.size _ (0) ([] ++ y1) (by rfl) ho8 _ (1) 1 ([k]) (by rfl) rfl hr8 (fun e => by cases e) (1) (by omega) (by omega) hb8.size ?_
          intro A9 c9 X9 ho9 hg9 ha9 hc9
          have hb9 := hb8.trans hc9
          refine hK.out _ _ (fun _ => held _ hb9) ?_
          clear hK K
          try simp only [Act.put, List.setIfInBounds_toArray, List.set_cons_zero, List.set_cons_succ]
          refine E_one (i := 18) rfl (by kernel_rfl) (by rfl) (fun K hK => ?_)
          refine app_S (.tmp 42) (.tmp 48) rfl w1.heap.size _ (1) ([] ++ y1 ++ [k]) (by rfl) ho9 _ (0) _ (y2) (by rfl) hl2 (hy2.below hb9) hn2 (1) (by omega) (by omega) hb9.size ?_
          intro A10 c10 X10 ho10 hg10 ha10 hc10
          have hb10 := hb9.trans hc10
          refine hK.out _ _ (fun _ => held _ hb10) ?_
          clear hK K
          try simp only [Act.put, List.setIfInBounds_toArray, List.set_cons_zero, List.set_cons_succ]
          refine E_take (i := 19) (v := ?_) [20, 19] rfl (by kernel_rfl) (by kernel_rfl) (by kernel_rfl) (by kernel_rfl) (by kernel_rfl) rfl (fun _ _ _ h => h) (Or.inl ⟨by rfl, ?_⟩) (held _ hb10) ?_
          rotate_left
          · (intro w' hSw; (try dsimp only at hSw); go_simp <;> (with_reducible rfl))
          try simp only [Act.put, List.setIfInBounds_toArray, List.set_cons_zero, List.set_cons_succ]
          refine E_take (i := 20) (v := ?_) [20] rfl (by kernel_rfl) (by kernel_rfl) (by kernel_rfl) (by kernel_rfl) (by kernel_rfl) rfl (fun _ _ _ h => h) (Or.inl ⟨by rfl, ?_⟩) (held _ hb10) ?_
          rotate_left
          · (intro w' hSw; (try dsimp only at hSw); go_simp <;> (with_reducible rfl))
          try simp only [Act.put, List.setIfInBounds_toArray, List.set_cons_zero, List.set_cons_succ]
          refine E_one (i := 21) rfl (by kernel_rfl) (by rfl) (fun K hK => ?_)
          have hfr := (hb10.frozen (p := ⟨L, 0, none⟩) hLz).trans HFr
          obtain ⟨qc, q0, q1, q2, q3⟩ := held _ hb10
          go_simp
          refine hK.out _ _ (fun h => absurd rfl h) ?_
          clear hK K
          try simp only [Act.put, List.setIfInBounds_toArray, List.set_cons_zero, List.set_cons_succ]
          refine E_done (by kernel_rfl) ?_ _
          go_wp2_with fail
          all_goals (
          go_meet
          have hLb := (hb10.block L hLz).trans hL1
          have hw5 := ownsRow_setCell_below ho10 (a := ⟨L, 0, none⟩) hLz (.slice A10 (1) c10)
          exact ⟨A10, c10, set_at (o := 0) hLb, by rw [List.nil_append] at hw5; exact hw5, grown_set (below_grown hb10 rfl) _⟩)
      · go_simp
        have hs12 := spot_new X0 k
        have hb12 := hb0.alloc hb0.size (.cells #[.int .i64 k.br, .int .i64 k.vol, .int .i64 k.blk, .int .u64 k.num] 26)
        have hz12 := Lib.hid (World.size_alloc X0 (.cells #[.int .i64 k.br, .int .i64 k.vol, .int .i64 k.blk, .int .u64 k.num] 26))
        generalize hX12 : World.alloc X0 (.cells #[.int .i64 k.br, .int .i64 k.vol, .int .i64 k.blk, .int .u64 k.num] 26) = X12 at *
        refine hK.out _ _ (fun _ => held _ hb12) ?_
        clear hK K
        try simp only [Act.put, List.setIfInBounds_toArray, List.set_cons_zero, List.set_cons_succ]
        refine E_one (i := 1) rfl (by kernel_rfl) (by rfl) (fun K hK => ?_)
        go_simp
        have ho13 := own_base (empty_own X12 26 4 (by decide)) hb12.size
        have hb13 := hb12.alloc hb12.size (.cells #[] 26)
        have hz13 := Lib.hid (World.size_alloc X12 (.cells #[] 26))
        have hr13 := hs12.below ((Below.refl _ _).alloc (Nat.le_refl _) (.cells #[] 26))
        generalize hX13 : World.alloc X12 (.cells #[] 26) = X13 at *
        refine hK.out _ _ (fun _ => held _ hb13) ?_
        clear hK K
        try simp only [Act.put, List.setIfInBounds_toArray, List.set_cons_zero, List.set_cons_succ]
        refine E_one (i := 8) rfl (by kernel_rfl) (by rfl) (fun K hK => ?_)
        refine app_S (.tmp 32) (.tmp 38) rfl w1.heap.size _ (0) ([]) (by rfl) ho13 _ (0) _ (y1) (by rfl) hl1 (hy1.below hb13) hn1 (0) (by omega) (by omega) hb13.size ?_
        intro A14 c14 X14 ho14 hg14 ha14 hc14
        have hb14 := hb13.trans hc14
        have hr14 := hr13.grown hg14 (fun b off e => by cases e; simp only [Value.ownBlock, ne_eq, Option.some.injEq]; have := hz12.out; have := hz13.out; omega)
        refine hK.out _ _ (fun _ => held _ hb14) ?_
        clear hK K
        try simp only [Act.put, List.setIfInBounds_toArray, List.set_cons_zero, List.set_cons_succ]
        refine E_one (i := 11) rfl (by kernel_rfl) (by rfl) (fun K hK => ?_)
        refine app_S (.tmp 39) (.tmp 41) rfl w1.heap.size _ (0) ([] ++ y1) (by rfl) ho14 _ (1) 1 ([k]) (by rfl) rfl hr14 (fun e => by cases e) (1) (by omega) (by omega) hb14.size ?_
        intro A15 c15 X15 ho15 hg15 ha15 hc15
        have hb15 := hb14.trans hc15
        refine hK.out _ _ (fun _ => held _ hb15) ?_
        clear hK K
        try simp only [Act.put, List.setIfInBounds_toArray, List.set_cons_zero, List.set_cons_succ]
        refine E_one (i := 18) rfl (by kernel_rfl) (by rfl) (fun K hK => ?_)
        refine app_S (.tmp 42) (.tmp 48) rfl w1.heap.size _ (1) ([] ++ y1 ++ [k]) (by rfl) ho15 _ (0) _ (y2) (by rfl) hl2 (hy2.below hb15) hn2 (1) (by omega) (by omega) hb15.size ?_
        intro A16 c16 X16 ho16 hg16 ha16 hc16
        have hb16 := hb15.trans hc16
        refine hK.out _ _ (fun _ => held _ hb16) ?_
        clear hK K
        try simp only [Act.put, List.setIfInBounds_toArray, List.set_cons_zero, List.set_cons_succ]
        refine E_take (i := 19) (v := ?_) [20, 19] rfl (by kernel_rfl) (by kernel_rfl) (by kernel_rfl) (by kernel_rfl) (by kernel_rfl) rfl (fun _ _ _ h => h) (Or.inl ⟨by rfl, ?_⟩) (held _ hb16) ?_
        rotate_left
        · (intro w' hSw; (try dsimp only at hSw); go_simp <;> (with_reducible rfl))
        try simp only [Act.put, List.setIfInBounds_toArray, List.set_cons_zero, List.set_cons_succ]
        refine E_take (i := 20) (v := ?_) [20] rfl (by kernel_rfl) (by kernel_rfl) (by kernel_rfl) (by kernel_rfl) (by kernel_rfl) rfl (fun _ _ _ h => h) (Or.inl ⟨by rfl, ?_⟩) (held _ hb16) ?_
        rotate_left
        · (intro w' hSw; (try dsimp only at hSw); go_simp <;> (with_reducible rfl))
        try simp only [Act.put, List.setIfInBounds_toArray, List.set_cons_zero, List.set_cons_succ]
        refine E_one (i := 21) rfl (by kernel_rfl) (by rfl) (fun K hK => ?_)
        have hfr := (hb16.frozen (p := ⟨L, 0, none⟩) hLz).trans HFr
        obtain ⟨qc, q0, q1, q2, q3⟩ := held _ hb16
        go_simp
        refine hK.out _ _ (fun h => absurd rfl h) ?_
        clear hK K
        try simp only [Act.put, List.setIfInBounds_toArray, List.set_cons_zero, List.set_cons_succ]
        refine E_done (by kernel_rfl) ?_ _
        go_wp2_with fail
        all_goals (
        go_meet
        have hLb := (hb16.block L hLz).trans hL1
        have hw5 := ownsRow_setCell_below ho16 (a := ⟨L, 0, none⟩) hLz (.slice A16 (1) c16)
        exact ⟨A16, c16, set_at (o := 0) hLb, by rw [List.nil_append] at hw5; exact hw5, grown_set (below_grown hb16 rfl) _⟩)
    · cases e
      have hy1 := spots_take hsA i
      have hy2 : SpotsAt w1 (if cc = i then some ⟨g, 0, none⟩ else some ⟨g, i * 4, none⟩) (ks.drop i) := by
        split
        · exact fun h => by omega
        · have := spots_drop hsA i
          rwa [Nat.zero_add] at this
      have hn2 : (if cc = i then some (⟨g, 0, none⟩ : Addr) else some ⟨g, i * 4, none⟩) = none → m2 = 0 ∧ cc - i = 0 := by split <;> simp
      have hn1 : (some (⟨g, 0, none⟩ : Addr) = none → i = 0 ∧ cc = 0) := fun e => by cases e
      generalize ks.take i = y1 at *
      generalize ks.drop i = y2 at *
      have held : ∀ X, Below w1.heap.size w1 X → (fun w' => w'.cell? ⟨L, 0, none⟩ = some (.slice (some ⟨g, 0, none⟩) N cc) ∧ w'.cell? ⟨pk, 0, none⟩ = some (.int .i64 k.br) ∧ w'.cell? ⟨pk, 1, none⟩ = some (.int .i64 k.vol) ∧ w'.cell? ⟨pk, 2, none⟩ = some (.int .i64 k.blk) ∧ w'.cell? ⟨pk, 3, none⟩ = some (.int .u64 k.num)) X := fun X hX => ⟨(hX.cell (p := ⟨L, 0, none⟩) hLz).trans dc, (hX.cell (p := ⟨pk, _, none⟩) hpz).trans k0, (hX.cell (p := ⟨pk, _, none⟩) hpz).trans k1, (hX.cell (p := ⟨pk, _, none⟩) hpz).trans k2, (hX.cell (p := ⟨pk, _, none⟩) hpz).trans k3⟩
      have hb0 : Below w1.heap.size w1 w1.drew := bel_drewN _ _ (n := 1)
      refine E_start 21 (fun w' => w'.cell? ⟨L, 0, none⟩ = some (.slice (some ⟨g, 0, none⟩) N cc) ∧ w'.cell? ⟨pk, 0, none⟩ = some (.int .i64 k.br) ∧ w'.cell? ⟨pk, 1, none⟩ = some (.int .i64 k.vol) ∧ w'.cell? ⟨pk, 2, none⟩ = some (.int .i64 k.blk) ∧ w'.cell? ⟨pk, 3, none⟩ = some (.int .u64 k.num)) (by kernel_rfl) ?_
      generalize World.drew w1 = X0 at *
      refine E_take (i := 0) (v := ?_) [0] rfl (by kernel_rfl) (by kernel_rfl) (by kernel_rfl) (by kernel_rfl) (by kernel_rfl) rfl (fun _ _ _ h => h) (Or.inl ⟨by rfl, ?_⟩) (held _ hb0) ?_
      rotate_left
      · (intro w' hSw; (try dsimp only at hSw); go_simp <;> (with_reducible rfl))
      try simp only [Act.put, List.setIfInBounds_toArray, List.set_cons_zero, List.set_cons_succ]
      refine E_take (i := 2) (v := ?_) [2] rfl (by kernel_rfl) (by kernel_rfl) (by kernel_rfl) (by kernel_rfl) (by kernel_rfl) rfl (fun _ _ _ h => h) (Or.inl ⟨by rfl, ?_⟩) (held _ hb0) ?_
      rotate_left
      · (intro w' hSw; (try dsimp only at hSw); go_simp <;> (with_reducible rfl))
      try simp only [Act.put, List.setIfInBounds_toArray, List.set_cons_zero, List.set_cons_succ]
      refine E_take (i := 3) (v := ?_) [3] rfl (by kernel_rfl) (by kernel_rfl) (by kernel_rfl) (by kernel_rfl) (by kernel_rfl) rfl (fun _ _ _ h => h) (Or.inl ⟨by rfl, ?_⟩) (held _ hb0) ?_
      rotate_left
      · (intro w' hSw; (try dsimp only at hSw); go_simp <;> (with_reducible rfl))
      try simp only [Act.put, List.setIfInBounds_toArray, List.set_cons_zero, List.set_cons_succ]
      refine E_take (i := 4) (v := ?_) [4] rfl (by kernel_rfl) (by kernel_rfl) (by kernel_rfl) (by kernel_rfl) (by kernel_rfl) rfl (fun _ _ _ h => h) (Or.inl ⟨by rfl, ?_⟩) (held _ hb0) ?_
      rotate_left
      · (intro w' hSw; (try dsimp only at hSw); go_simp <;> (with_reducible rfl))
      try simp only [Act.put, List.setIfInBounds_toArray, List.set_cons_zero, List.set_cons_succ]
      refine E_take (i := 5) (v := ?_) [5] rfl (by kernel_rfl) (by kernel_rfl) (by kernel_rfl) (by kernel_rfl) (by kernel_rfl) rfl (fun _ _ _ h => h) (Or.inl ⟨by rfl, ?_⟩) (held _ hb0) ?_
      rotate_left
      · (intro w' hSw; (try dsimp only at hSw); go_simp <;> (with_reducible rfl))
      try simp only [Act.put, List.setIfInBounds_toArray, List.set_cons_zero, List.set_cons_succ]
      refine E_take (i := 6) (v := ?_) [6] rfl (by kernel_rfl) (by kernel_rfl) (by kernel_rfl) (by kernel_rfl) (by kernel_rfl) rfl (fun _ _ _ h => h) (Or.inl ⟨by rfl, ?_⟩) (held _ hb0) ?_
      rotate_left
      · (intro w' hSw; (try dsimp only at hSw); go_simp <;> (with_reducible rfl))
      try simp only [Act.put, List.setIfInBounds_toArray, List.set_cons_zero, List.set_cons_succ]
      refine E_take (i := 7) (v := ?_) [7] rfl (by kernel_rfl) (by kernel_rfl) (by kernel_rfl) (by kernel_rfl) (by kernel_rfl) rfl (fun _ _ _ h => h) (Or.inl ⟨by rfl, ?_⟩) (held _ hb0) ?_
      rotate_left
      · (intro w' hSw; (try dsimp only at hSw); go_simp <;> (with_reducible rfl))
      try simp only [Act.put, List.setIfInBounds_toArray, List.set_cons_zero, List.set_cons_succ]
      refine E_take (i := 9) (v := ?_) [9] rfl (by kernel_rfl) (by kernel_rfl) (by kernel_rfl) (by kernel_rfl) (by kernel_rfl) rfl (fun _ _ _ h => h) (Or.inl ⟨by rfl, ?_⟩) (held _ hb0) ?_
      rotate_left
      · (intro w' hSw; (try dsimp only at hSw); go_simp <;> (with_reducible rfl))
      try simp only [Act.put, List.setIfInBounds_toArray, List.set_cons_zero, List.set_cons_succ]
      refine E_take (i := 12) (v := ?_) [12] rfl (by kernel_rfl) (by kernel_rfl) (by kernel_rfl) (by kernel_rfl) (by kernel_rfl) rfl (fun _ _ _ h => h) (Or.inl ⟨by rfl, ?_⟩) (held _ hb0) ?_
      rotate_left
      · (intro w' hSw; (try dsimp only at hSw); go_simp <;> (with_reducible rfl))
      try simp only [Act.put, List.setIfInBounds_toArray, List.set_cons_zero, List.set_cons_succ]
      refine E_take (i := 13) (v := ?_) [13] rfl (by kernel_rfl) (by kernel_rfl) (by kernel_rfl) (by kernel_rfl) (by kernel_rfl) rfl (fun _ _ _ h => h) (Or.inl ⟨by rfl, ?_⟩) (held _ hb0) ?_
      rotate_left
      · (intro w' hSw; (try dsimp only at hSw); go_simp <;> (with_reducible rfl))
      try simp only [Act.put, List.setIfInBounds_toArray, List.set_cons_zero, List.set_cons_succ]
      refine E_take (i := 14) (v := ?_) [14] rfl (by kernel_rfl) (by kernel_rfl) (by kernel_rfl) (by kernel_rfl) (by kernel_rfl) rfl (fun _ _ _ h => h) (Or.inl ⟨by rfl, ?_⟩) (held _ hb0) ?_
      rotate_left
      · (intro w' hSw; (try dsimp only at hSw); go_simp <;> (with_reducible rfl))
      try simp only [Act.put, List.setIfInBounds_toArray, List.set_cons_zero, List.set_cons_succ]
      refine E_take (i := 15) (v := ?_) [15] rfl (by kernel_rfl) (by kernel_rfl) (by kernel_rfl) (by kernel_rfl) (by kernel_rfl) rfl (fun _ _ _ h => h) (Or.inl ⟨by rfl, ?_⟩) (held _ hb0) ?_
      rotate_left
      · (intro w' hSw; (try dsimp only at hSw); go_simp <;> (with_reducible rfl))
      try simp only [Act.put, List.setIfInBounds_toArray, List.set_cons_zero, List.set_cons_succ]
      refine E_take (i := 16) (v := ?_) [16] rfl (by kernel_rfl) (by kernel_rfl) (by kernel_rfl) (by kernel_rfl) (by kernel_rfl) rfl (fun _ _ _ h => h) (Or.inl ⟨by rfl, ?_⟩) (held _ hb0) ?_
      rotate_left
      · (intro w' hSw; (try dsimp only at hSw); go_simp <;> (with_reducible rfl))
      try simp only [Act.put, List.setIfInBounds_toArray, List.set_cons_zero, List.set_cons_succ]
      refine E_take (i := 17) (v := ?_) [17] rfl (by kernel_rfl) (by kernel_rfl) (by kernel_rfl) (by kernel_rfl) (by kernel_rfl) rfl (fun _ _ _ h => h) (Or.inl ⟨by rfl, ?_⟩) (held _ hb0) ?_
      rotate_left
      · (intro w' hSw; (try dsimp only at hSw); go_simp <;> (with_reducible rfl))
      try simp only [Act.put, List.setIfInBounds_toArray, List.set_cons_zero, List.set_cons_succ]
      refine E_two (i := 1) (j := 10) rfl rfl (by kernel_rfl) (by rfl) (by rfl) (fun K hK => ?_) (fun K hK => ?_)
      · go_simp
        have ho1 := own_base (empty_own X0 26 4 (by decide)) hb0.size
        have hb1 := hb0.alloc hb0.size (.cells #[] 26)
        have hz1 := Lib.hid (World.size_alloc X0 (.cells #[] 26))
        generalize hX1 : World.alloc X0 (.cells #[] 26) = X1 at *
        refine hK.out _ _ (fun _ => held _ hb1) ?_
        clear hK K
        try simp only [Act.put, List.setIfInBounds_toArray, List.set_cons_zero, List.set_cons_succ]
        refine E_two (i := 8) (j := 10) rfl rfl (by kernel_rfl) (by rfl) (by rfl) (fun K hK => ?_) (fun K hK => ?_)
        · refine app_S (.tmp 32) (.tmp 38) rfl w1.heap.size _ (0) ([]) (by rfl) ho1 _ (i) _ (y1) (by rfl) hl1 (hy1.below hb1) hn1 (i) (by omega) (by omega) hb1.size ?_
          intro A2 c2 X2 ho2 hg2 ha2 hc2
          have hb2 := hb1.trans hc2
          refine hK.out _ _ (fun _ => held _ hb2) ?_
          clear hK K
          try simp only [Act.put, List.setIfInBounds_toArray, List.set_cons_zero, List.set_cons_succ]
          refine E_one (i := 10) rfl (by kernel_rfl) (by rfl) (fun K hK => ?_)
          go_simp
          have hs3 := spot_new X2 k
          have hb3 := hb2.alloc hb2.size (.cells #[.int .i64 k.br, .int .i64 k.vol, .int .i64 k.blk, .int .u64 k.num] 26)
          have hz3 := Lib.hid (World.size_alloc X2 (.cells #[.int .i64 k.br, .int .i64 k.vol, .int .i64 k.blk, .int .u64 k.num] 26))
          have hq3 := ho2.alloc (.cells #[.int .i64 k.br, .int .i64 k.vol, .int .i64 k.blk, .int .u64 k.num] 26)
          generalize hX3 : World.alloc X2 (.cells #[.int .i64 k.br, .int .i64 k.vol, .int .i64 k.blk, .int .u64 k.num] 26) = X3 at *
          refine hK.out _ _ (fun _ => held _ hb3) ?_
          clear hK K
          try simp only [Act.put, List.setIfInBounds_toArray, List.set_cons_zero, List.set_cons_succ]
          refine E_one (i := 11) rfl (by kernel_rfl) (by rfl) (fun K hK => ?_)
          refine app_S (.tmp 39) (.tmp 41) rfl w1.heap.size _ (i) ([] ++ y1) (by rfl) hq3 _ (1) 1 ([k]) (by rfl) rfl hs3 (fun e => by cases e) (i + 1) (by omega) (by omega) hb3.size ?_
          intro A4 c4 X4 ho4 hg4 ha4 hc4
          have hb4 := hb3.trans hc4
          refine hK.out _ _ (fun _ => held _ hb4) ?_
          clear hK K
          try simp only [Act.put, List.setIfInBounds_toArray, List.set_cons_zero, List.set_cons_succ]
          refine E_one (i := 18) rfl (by kernel_rfl) (by rfl) (fun K hK => ?_)
          refine app_S (.tmp 42) (.tmp 48) rfl w1.heap.size _ (i + 1) ([] ++ y1 ++ [k]) (by rfl) ho4 _ (m2) _ (y2) (by rfl) hl2 (hy2.below hb4) hn2 (N + 1) (by omega) (by omega) hb4.size ?_
          intro A5 c5 X5 ho5 hg5 ha5 hc5
          have hb5 := hb4.trans hc5
          refine hK.out _ _ (fun _ => held _ hb5) ?_
          clear hK K
          try simp only [Act.put, List.setIfInBounds_toArray, List.set_cons_zero, List.set_cons_succ]
          refine E_take (i := 19) (v := ?_) [20, 19] rfl (by kernel_rfl) (by kernel_rfl) (by kernel_rfl) (by kernel_rfl) (by kernel_rfl) rfl (fun _ _ _ h => h) (Or.inl ⟨by rfl, ?_⟩) (held _ hb5) ?_
          rotate_left
          · (intro w' hSw; (try dsimp only at hSw); go_simp <;> (with_reducible rfl))
          try simp only [Act.put, List.setIfInBounds_toArray, List.set_cons_zero, List.set_cons_succ]
          refine E_take (i := 20) (v := ?_) [20] rfl (by kernel_rfl) (by kernel_rfl) (by kernel_rfl) (by kernel_rfl) (by kernel_rfl) rfl (fun _ _ _ h => h) (Or.inl ⟨by rfl, ?_⟩) (held _ hb5) ?_
          rotate_left
          · (intro w' hSw; (try dsimp only at hSw); go_simp <;> (with_reducible rfl))
          try simp only [Act.put, List.setIfInBounds_toArray, List.set_cons_zero, List.set_cons_succ]
          refine E_one (i := 21) rfl (by kernel_rfl) (by rfl) (fun K hK => ?_)
          have hfr := (hb5.frozen (p := ⟨L, 0, none⟩) hLz).trans HFr
          obtain ⟨qc, q0, q1, q2, q3⟩ := held _ hb5
          go_simp
          refine hK.out _ _ (fun h => absurd rfl h) ?_
          clear hK K
          try simp only [Act.put, List.setIfInBounds_toArray, List.set_cons_zero, List.set_cons_succ]
          refine E_done (by kernel_rfl) ?_ _
          go_wp2_with fail
          all_goals (
          go_meet
          have hLb := (hb5.block L hLz).trans hL1
          have hw5 := ownsRow_setCell_below ho5 (a := ⟨L, 0, none⟩) hLz (.slice A5 (N + 1) c5)
          exact ⟨A5, c5, set_at (o := 0) hLb, by rw [List.nil_append] at hw5; exact hw5, grown_set (below_grown hb5 rfl) _⟩)
        · go_simp
          have hs7 := spot_new X1 k
          have hb7 := hb1.alloc hb1.size (.cells #[.int .i64 k.br, .int .i64 k.vol, .int .i64 k.blk, .int .u64 k.num] 26)
          have hz7 := Lib.hid (World.size_alloc X1 (.cells #[.int .i64 k.br, .int .i64 k.vol, .int .i64 k.blk, .int .u64 k.num] 26))
          have hq7 := ho1.alloc (.cells #[.int .i64 k.br, .int .i64 k.vol, .int .i64 k.blk, .int .u64 k.num] 26)
          generalize hX7 : World.alloc X1 (.cells #[.int .i64 k.br, .int .i64 k.vol, .int .i64 k.blk, .int .u64 k.num] 26) = X7 at *
          refine hK.out _ _ (fun _ => held _ hb7) ?_
          clear hK K
          try simp only [Act.put, List.setIfInBounds_toArray, List.set_cons_zero, List.set_cons_succ]
          refine E_one (i := 8) rfl (by kernel_rfl) (by rfl) (fun K hK => ?_)
          refine app_S (.tmp 32) (.tmp 38) rfl w1.heap.size _ (0) ([]) (by rfl) hq7 _ (i) _ (y1) (by rfl) hl1 (hy1.below hb7) hn1 (i) (by omega) (by omega) hb7.size ?_
          intro A8 c8 X8 ho8 hg8 ha8 hc8
          have hb8 := hb7.trans hc8
          have hr8 := hs7.grown hg8 (fun b off e => by cases e; simp only [Value.ownBlock, ne_eq, Option.some.injEq]; have := hz1.out; have := hz7.out; omega)
          refine hK.out _ _ (fun _ => held _ hb8) ?_
          clear hK K
          try simp only [Act.put, List.setIfInBounds_toArray, List.set_cons_zero, List.set_cons_succ]
          refine E_one (i := 11) rfl (by kernel_rfl) (by rfl) (fun K hK => ?_)
          refine app_S (.tmp 39) (.tmp 41) rfl w1.heap.size _ (i) ([] ++ y1) (by rfl) ho8 _ (1) 1 ([k]) (by rfl) rfl hr8 (fun e => by cases e) (i + 1) (by omega) (by omega) hb8.size ?_
          intro A9 c9 X9 ho9 hg9 ha9 hc9
          have hb9 := hb8.trans hc9
          refine hK.out _ _ (fun _ => held _ hb9) ?_
          clear hK K
          try simp only [Act.put, List.setIfInBounds_toArray, List.set_cons_zero, List.set_cons_succ]
          refine E_one (i := 18) rfl (by kernel_rfl) (by rfl) (fun K hK => ?_)
          refine app_S (.tmp 42) (.tmp 48) rfl w1.heap.size _ (i + 1) ([] ++ y1 ++ [k]) (by rfl) ho9 _ (m2) _ (y2) (by rfl) hl2 (hy2.below hb9) hn2 (N + 1) (by omega) (by omega) hb9.size ?_
          intro A10 c10 X10 ho10 hg10 ha10 hc10
          have hb10 := hb9.trans hc10
          refine hK.out _ _ (fun _ => held _ hb10) ?_
          clear hK K
          try simp only [Act.put, List.setIfInBounds_toArray, List.set_cons_zero, List.set_cons_succ]
          refine E_take (i := 19) (v := ?_) [20, 19] rfl (by kernel_rfl) (by kernel_rfl) (by kernel_rfl) (by kernel_rfl) (by kernel_rfl) rfl (fun _ _ _ h => h) (Or.inl ⟨by rfl, ?_⟩) (held _ hb10) ?_
          rotate_left
          · (intro w' hSw; (try dsimp only at hSw); go_simp <;> (with_reducible rfl))
          try simp only [Act.put, List.setIfInBounds_toArray, List.set_cons_zero, List.set_cons_succ]
          refine E_take (i := 20) (v := ?_) [20] rfl (by kernel_rfl) (by kernel_rfl) (by kernel_rfl) (by kernel_rfl) (by kernel_rfl) rfl (fun _ _ _ h => h) (Or.inl ⟨by rfl, ?_⟩) (held _ hb10) ?_
          rotate_left
          · (intro w' hSw; (try dsimp only at hSw); go_simp <;> (with_reducible rfl))
          try simp only [Act.put, List.setIfInBounds_toArray, List.set_cons_zero, List.set_cons_succ]
          refine E_one (i := 21) rfl (by kernel_rfl) (by rfl) (fun K hK => ?_)
          have hfr := (hb10.frozen (p := ⟨L, 0, none⟩) hLz).trans HFr
          obtain ⟨qc, q0, q1, q2, q3⟩ := held _ hb10
          go_simp
          refine hK.out _ _ (fun h => absurd rfl h) ?_
          clear hK K
          try simp only [Act.put, List.setIfInBounds_toArray, List.set_cons_zero, List.set_cons_succ]
          refine E_done (by kernel_rfl) ?_ _
          go_wp2_with fail
          all_goals (
          go_meet
          have hLb := (hb10.block L hLz).trans hL1
          have hw5 := ownsRow_setCell_below ho10 (a := ⟨L, 0, none⟩) hLz (.slice A10 (N + 1) c10)
          exact ⟨A10, c10, set_at (o := 0) hLb, by rw [List.nil_append] at hw5; exact hw5, grown_set (below_grown hb10 rfl) _⟩)
      · go_simp
        have hs12 := spot_new X0 k
        have hb12 := hb0.alloc hb0.size (.cells #[.int .i64 k.br, .int .i64 k.vol, .int .i64 k.blk, .int .u64 k.num] 26)
        have hz12 := Lib.hid (World.size_alloc X0 (.cells #[.int .i64 k.br, .int .i64 k.vol, .int .i64 k.blk, .int .u64 k.num] 26))
        generalize hX12 : World.alloc X0 (.cells #[.int .i64 k.br, .int .i64 k.vol, .int .i64 k.blk, .int .u64 k.num] 26) = X12 at *
        refine hK.out _ _ (fun _ => held _ hb12) ?_
        clear hK K
        try simp only [Act.put, List.setIfInBounds_toArray, List.set_cons_zero, List.set_cons_succ]
        refine E_one (i := 1) rfl (by kernel_rfl) (by rfl) (fun K hK => ?_)
        go_simp
        have ho13 := own_base (empty_own X12 26 4 (by decide)) hb12.size
        have hb13 := hb12.alloc hb12.size (.cells #[] 26)
        have hz13 := Lib.hid (World.size_alloc X12 (.cells #[] 26))
        have hr13 := hs12.below ((Below.refl _ _).alloc (Nat.le_refl _) (.cells #[] 26))
        generalize hX13 : World.alloc X12 (.cells #[] 26) = X13 at *
        refine hK.out _ _ (fun _ => held _ hb13) ?_
        clear hK K
        try simp only [Act.put, List.setIfInBounds_toArray, List.set_cons_zero, List.set_cons_succ]
        refine E_one (i := 8) rfl (by kernel_rfl) (by rfl) (fun K hK => ?_)
        refine app_S (.tmp 32) (.tmp 38) rfl w1.heap.size _ (0) ([]) (by rfl) ho13 _ (i) _ (y1) (by rfl) hl1 (hy1.below hb13) hn1 (i) (by omega) (by omega) hb13.size ?_
        intro A14 c14 X14 ho14 hg14 ha14 hc14
        have hb14 := hb13.trans hc14
        have hr14 := hr13.grown hg14 (fun b off e => by cases e; simp only [Value.ownBlock, ne_eq, Option.some.injEq]; have := hz12.out; have := hz13.out; omega)
        refine hK.out _ _ (fun _ => held _ hb14) ?_
        clear hK K
        try simp only [Act.put, List.setIfInBounds_toArray, List.set_cons_zero, List.set_cons_succ]
        refine E_one (i := 11) rfl (by kernel_rfl) (by rfl) (fun K hK => ?_)
        refine app_S (.tmp 39) (.tmp 41) rfl w1.heap.size _ (i) ([] ++ y1) (by rfl) ho14 _ (1) 1 ([k]) (by rfl) rfl hr14 (fun e => by cases e) (i + 1) (by omega) (by omega) hb14.size ?_
        intro A15 c15 X15 ho15 hg15 ha15 hc15
        have hb15 := hb14.trans hc15
        refine hK.out _ _ (fun _ => held _ hb15) ?_
        clear hK K
        try simp only [Act.put, List.setIfInBounds_toArray, List.set_cons_zero, List.set_cons_succ]
        refine E_one (i := 18) rfl (by kernel_rfl) (by rfl) (fun K hK => ?_)
        refine app_S (.tmp 42) (.tmp 48) rfl w1.heap.size _ (i + 1) ([] ++ y1 ++ [k]) (by rfl) ho15 _ (m2) _ (y2) (by rfl) hl2 (hy2.below hb15) hn2 (N + 1) (by omega) (by omega) hb15.size ?_
        intro A16 c16 X16 ho16 hg16 ha16 hc16
        have hb16 := hb15.trans hc16
        refine hK.out _ _ (fun _ => held _ hb16) ?_
        clear hK K
        try simp only [Act.put, List.setIfInBounds_toArray, List.set_cons_zero, List.set_cons_succ]
        refine E_take (i := 19) (v := ?_) [20, 19] rfl (by kernel_rfl) (by kernel_rfl) (by kernel_rfl) (by kernel_rfl) (by kernel_rfl) rfl (fun _ _ _ h => h) (Or.inl ⟨by rfl, ?_⟩) (held _ hb16) ?_
        rotate_left
        · (intro w' hSw; (try dsimp only at hSw); go_simp <;> (with_reducible rfl))
        try simp only [Act.put, List.setIfInBounds_toArray, List.set_cons_zero, List.set_cons_succ]
        refine E_take (i := 20) (v := ?_) [20] rfl (by kernel_rfl) (by kernel_rfl) (by kernel_rfl) (by kernel_rfl) (by kernel_rfl) rfl (fun _ _ _ h => h) (Or.inl ⟨by rfl, ?_⟩) (held _ hb16) ?_
        rotate_left
        · (intro w' hSw; (try dsimp only at hSw); go_simp <;> (with_reducible rfl))
        try simp only [Act.put, List.setIfInBounds_toArray, List.set_cons_zero, List.set_cons_succ]
        refine E_one (i := 21) rfl (by kernel_rfl) (by rfl) (fun K hK => ?_)
        have hfr := (hb16.frozen (p := ⟨L, 0, none⟩) hLz).trans HFr
        obtain ⟨qc, q0, q1, q2, q3⟩ := held _ hb16
        go_simp
        refine hK.out _ _ (fun h => absurd rfl h) ?_
        clear hK K
        try simp only [Act.put, List.setIfInBounds_toArray, List.set_cons_zero, List.set_cons_succ]
        refine E_done (by kernel_rfl) ?_ _
        go_wp2_with fail
        all_goals (
        go_meet
        have hLb := (hb16.block L hLz).trans hL1
        have hw5 := ownsRow_setCell_below ho16 (a := ⟨L, 0, none⟩) hLz (.slice A16 (N + 1) c16)
        exact ⟨A16, c16, set_at (o := 0) hLb, by rw [List.nil_append] at hw5; exact hw5, grown_set (below_grown hb16 rfl) _⟩)
  case rest =>
    obtain ⟨A5, c5, hLx, hox, hgx⟩ := hcut
    have hvv : wc.ownsRow B 24 1 vv vs.length (u64s vs) := own_stay HL1.out.vals (fun q hq => hgx.block q (own_lt HL1.out.vals q hq) (fun e => by have := own_ge HL1.out.vals q hq; have := HL1.out.base; cases e; omega))
    have hBw : B ≤ w1.heap.size := by omega
    have hwc := hgx.size
    have HGX : Hid (w1.grownBy wc (some L)) := hgx
    have hvl : vs.length = N := by rw [HL.out.len, HN.out]
    have HF := row_form hvv
    obtain ⟨A, cc, rfl, hc1, hc2, hsA⟩ := vals_own hvv
    clear k0 k1 k2 k3 hk2 HFr dc hgx hpz hvv
    replace hL1 := hLx
    have hLz2 : L < wc.heap.size := by omega
    have HFr : wc.frozen? ⟨L, 1, none⟩ = false := by simp only [World.frozen?, hL1]; simp
    have dc : wc.cell? ⟨L, 1, none⟩ = some (.slice A vs.length cc) := by simp only [World.cell?, hL1]; rfl
    rw [hvl] at dc hc1 HF
    have hLw := hLz
    clear hLz
    have hLz := hLz2
    have e1 : (0 : Int) ≤ (i : Int) := by omega
    have e2 : (i : Int) ≤ (N : Int) := by omega
    have e3 : (i : Int) ≤ (cc : Int) := by omega
    have e4 : (N : Int) ≤ (cc : Int) := by omega
    have hl1 : (vs.take i).length = i := by rw [List.length_take, hvl]; omega
    have hl2 : (vs.drop i).length = N - i := by rw [List.length_drop, hvl]
    obtain ⟨m2, hm2⟩ : ∃ m, N - i = m := ⟨_, rfl⟩
    rw [hm2] at hl2
    obtain ⟨i0, hi0⟩ : ∃ x, x = i := ⟨_, rfl⟩
    obtain ⟨N0, hN0⟩ : ∃ x, x = N := ⟨_, rfl⟩
    rw [← hi0] at hox
    have HI := Lib.hid hi0
    have HN2 := Lib.hid hN0
    go_wp2_with fail
    rcases HF with ⟨e, n0⟩ | ⟨g, c, e, hgc, hcm, hgB⟩
    · injection e with ea eb ec
      subst ea ec
      obtain rfl : N = 0 := by omega
      obtain rfl : i = 0 := by omega
      have hy1 := vals_take hsA 0
      have hy2 : ValsAt wc none (vs.drop 0) := fun h => by simp at h; omega
      have hn1 : (none : Option Addr) = none → 0 = 0 ∧ 0 = 0 := fun _ => ⟨rfl, rfl⟩
      have hn2 := hn1
      obtain rfl : m2 = 0 := by omega
      generalize vs.take 0 = y1 at *
      generalize vs.drop 0 = y2 at *
      have held : ∀ X, Below wc.heap.size wc X → (fun w' => w'.cell? ⟨L, 1, none⟩ = some (.slice none 0 0)) X := fun X hX => (hX.cell (p := ⟨L, 1, none⟩) hLz).trans dc
      have hb0 : Below wc.heap.size wc wc.drew := bel_drewN _ _ (n := 1)
      refine E_start 21 (fun w' => w'.cell? ⟨L, 1, none⟩ = some (.slice none 0 0)) (by kernel_rfl) ?_
      generalize World.drew wc = X0 at *
      refine E_take (i := 0) (v := ?_) [0] rfl (by kernel_rfl) (by kernel_rfl) (by kernel_rfl) (by kernel_rfl) (by kernel_rfl) rfl (fun _ _ _ h => h) (Or.inl ⟨by rfl, ?_⟩) (held _ hb0) ?_
      rotate_left
      · (intro w' hSw; (try dsimp only at hSw); go_simp <;> (with_reducible rfl))
      try simp only [Act.put, List.setIfInBounds_toArray, List.set_cons_zero, List.set_cons_succ]
      refine E_take (i := 2) (v := ?_) [2] rfl (by kernel_rfl) (by kernel_rfl) (by kernel_rfl) (by kernel_rfl) (by kernel_rfl) rfl (fun _ _ _ h => h) (Or.inl ⟨by rfl, ?_⟩) (held _ hb0) ?_
      rotate_left
      · (intro w' hSw; (try dsimp only at hSw); go_simp <;> (with_reducible rfl))
      try simp only [Act.put, List.setIfInBounds_toArray, List.set_cons_zero, List.set_cons_succ]
      refine E_take (i := 3) (v := ?_) [3] rfl (by kernel_rfl) (by kernel_rfl) (by kernel_rfl) (by kernel_rfl) (by kernel_rfl) rfl (fun _ _ _ h => h) (Or.inl ⟨by rfl, ?_⟩) (held _ hb0) ?_
      rotate_left
      · (intro w' hSw; (try dsimp only at hSw); go_simp <;> (with_reducible rfl))
      try simp only [Act.put, List.setIfInBounds_toArray, List.set_cons_zero, List.set_cons_succ]
      refine E_take (i := 4) (v := ?_) [4] rfl (by kernel_rfl) (by kernel_rfl) (by kernel_rfl) (by kernel_rfl) (by kernel_rfl) rfl (fun _ _ _ h => h) (Or.inl ⟨by rfl, ?_⟩) (held _ hb0) ?_
      rotate_left
      · (intro w' hSw; (try dsimp only at hSw); go_simp <;> (with_reducible rfl))
      try simp only [Act.put, List.setIfInBounds_toArray, List.set_cons_zero, List.set_cons_succ]
      refine E_take (i := 5) (v := ?_) [5] rfl (by kernel_rfl) (by kernel_rfl) (by kernel_rfl) (by kernel_rfl) (by kernel_rfl) rfl (fun _ _ _ h => h) (Or.inl ⟨by rfl, ?_⟩) (held _ hb0) ?_
      rotate_left
      · (intro w' hSw; (try dsimp only at hSw); go_simp <;> (with_reducible rfl))
      try simp only [Act.put, List.setIfInBounds_toArray, List.set_cons_zero, List.set_cons_succ]
      refine E_take (i := 6) (v := ?_) [6] rfl (by kernel_rfl) (by kernel_rfl) (by kernel_rfl) (by kernel_rfl) (by kernel_rfl) rfl (fun _ _ _ h => h) (Or.inl ⟨by rfl, ?_⟩) (held _ hb0) ?_
      rotate_left
      · (intro w' hSw; (try dsimp only at hSw); go_simp <;> (with_reducible rfl))
      try simp only [Act.put, List.setIfInBounds_toArray, List.set_cons_zero, List.set_cons_succ]
      refine E_take (i := 7) (v := ?_) [7] rfl (by kernel_rfl) (by kernel_rfl) (by kernel_rfl) (by kernel_rfl) (by kernel_rfl) rfl (fun _ _ _ h => h) (Or.inl ⟨by rfl, ?_⟩) (held _ hb0) ?_
      rotate_left
      · (intro w' hSw; (try dsimp only at hSw); go_simp <;> (with_reducible rfl))
      try simp only [Act.put, List.setIfInBounds_toArray, List.set_cons_zero, List.set_cons_succ]
      refine E_take (i := 9) (v := ?_) [9] rfl (by kernel_rfl) (by kernel_rfl) (by kernel_rfl) (by kernel_rfl) (by kernel_rfl) rfl (fun _ _ _ h => h) (Or.inl ⟨by rfl, ?_⟩) (held _ hb0) ?_
      rotate_left
      · (intro w' hSw; (try dsimp only at hSw); go_simp <;> (with_reducible rfl))
      try simp only [Act.put, List.setIfInBounds_toArray, List.set_cons_zero, List.set_cons_succ]
      refine E_take (i := 12) (v := ?_) [12] rfl (by kernel_rfl) (by kernel_rfl) (by kernel_rfl) (by kernel_rfl) (by kernel_rfl) rfl (fun _ _ _ h => h) (Or.inl ⟨by rfl, ?_⟩) (held _ hb0) ?_
      rotate_left
      · (intro w' hSw; (try dsimp only at hSw); go_simp <;> (with_reducible rfl))
      try simp only [Act.put, List.setIfInBounds_toArray, List.set_cons_zero, List.set_cons_succ]
      refine E_take (i := 13) (v := ?_) [13] rfl (by kernel_rfl) (by kernel_rfl) (by kernel_rfl) (by kernel_rfl) (by kernel_rfl) rfl (fun _ _ _ h => h) (Or.inl ⟨by rfl, ?_⟩) (held _ hb0) ?_
      rotate_left
      · (intro w' hSw; (try dsimp only at hSw); go_simp <;> (with_reducible rfl))
      try simp only [Act.put, List.setIfInBounds_toArray, List.set_cons_zero, List.set_cons_succ]
      refine E_take (i := 14) (v := ?_) [14] rfl (by kernel_rfl) (by kernel_rfl) (by kernel_rfl) (by kernel_rfl) (by kernel_rfl) rfl (fun _ _ _ h => h) (Or.inl ⟨by rfl, ?_⟩) (held _ hb0) ?_
      rotate_left
      · (intro w' hSw; (try dsimp only at hSw); go_simp <;> (with_reducible rfl))
      try simp only [Act.put, List.setIfInBounds_toArray, List.set_cons_zero, List.set_cons_succ]
      refine E_take (i := 15) (v := ?_) [15] rfl (by kernel_rfl) (by kernel_rfl) (by kernel_rfl) (by kernel_rfl) (by kernel_rfl) rfl (fun _ _ _ h => h) (Or.inl ⟨by rfl, ?_⟩) (held _ hb0) ?_
      rotate_left
      · (intro w' hSw; (try dsimp only at hSw); go_simp <;> (with_reducible rfl))
      try simp only [Act.put, List.setIfInBounds_toArray, List.set_cons_zero, List.set_cons_succ]
      refine E_take (i := 16) (v := ?_) [16] rfl (by kernel_rfl) (by kernel_rfl) (by kernel_rfl) (by kernel_rfl) (by kernel_rfl) rfl (fun _ _ _ h => h) (Or.inl ⟨by rfl, ?_⟩) (held _ hb0) ?_
      rotate_left
      · (intro w' hSw; (try dsimp only at hSw); go_simp <;> (with_reducible rfl))
      try simp only [Act.put, List.setIfInBounds_toArray, List.set_cons_zero, List.set_cons_succ]
      refine E_take (i := 17) (v := ?_) [17] rfl (by kernel_rfl) (by kernel_rfl) (by kernel_rfl) (by kernel_rfl) (by kernel_rfl) rfl (fun _ _ _ h => h) (Or.inl ⟨by rfl, ?_⟩) (held _ hb0) ?_
      rotate_left
      · (intro w' hSw; (try dsimp only at hSw); go_simp <;> (with_reducible rfl))
      try simp only [Act.put, List.setIfInBounds_toArray, List.set_cons_zero, List.set_cons_succ]
      refine E_two (i := 1) (j := 10) rfl rfl (by kernel_rfl) (by rfl) (by rfl) (fun K hK => ?_) (fun K hK => ?_)
      · go_simp
        have ho1 := own_base (empty_own X0 24 1 (by decide)) hb0.size
        have hb1 := hb0.alloc hb0.size (.cells #[] 24)
        have hz1 := Lib.hid (World.size_alloc X0 (.cells #[] 24))
        generalize hX1 : World.alloc X0 (.cells #[] 24) = X1 at *
        refine hK.out _ _ (fun _ => held _ hb1) ?_
        clear hK K
        try simp only [Act.put, List.setIfInBounds_toArray, List.set_cons_zero, List.set_cons_succ]
        refine E_two (i := 8) (j := 10) rfl rfl (by kernel_rfl) (by rfl) (by rfl) (fun K hK => ?_) (fun K hK => ?_)
        · refine app_U (.tmp 53) (.tmp 59) rfl wc.heap.size _ (0) ([]) (by rfl) ho1 _ (0) _ (y1) (by rfl) hl1 (hy1.below hb1) hn1 (0) (by omega) (by omega) hb1.size ?_
          intro A2 c2 X2 ho2 hg2 ha2 hc2
          have hb2 := hb1.trans hc2
          refine hK.out _ _ (fun _ => held _ hb2) ?_
          clear hK K
          try simp only [Act.put, List.setIfInBounds_toArray, List.set_cons_zero, List.set_cons_succ]
          refine E_one (i := 10) rfl (by kernel_rfl) (by rfl) (fun K hK => ?_)
          go_simp
          have hs3 := val_new X2 v
          have hb3 := hb2.alloc hb2.size (.cells #[.int .u64 v] 24)
          have hz3 := Lib.hid (World.size_alloc X2 (.cells #[.int .u64 v] 24))
          have hq3 := ho2.alloc (.cells #[.int .u64 v] 24)
          generalize hX3 : World.alloc X2 (.cells #[.int .u64 v] 24) = X3 at *
          refine hK.out _ _ (fun _ => held _ hb3) ?_
          clear hK K
          try simp only [Act.put, List.setIfInBounds_toArray, List.set_cons_zero, List.set_cons_succ]
          refine E_one (i := 11) rfl (by kernel_rfl) (by rfl) (fun K hK => ?_)
          refine app_U (.tmp 60) (.tmp 62) rfl wc.heap.size _ (0) ([] ++ y1) (by rfl) hq3 _ (1) 1 ([v]) (by rfl) rfl hs3 (fun e => by cases e) (1) (by omega) (by omega) hb3.size ?_
          intro A4 c4 X4 ho4 hg4 ha4 hc4
          have hb4 := hb3.trans hc4
          refine hK.out _ _ (fun _ => held _ hb4) ?_
          clear hK K
          try simp only [Act.put, List.setIfInBounds_toArray, List.set_cons_zero, List.set_cons_succ]
          refine E_one (i := 18) rfl (by kernel_rfl) (by rfl) (fun K hK => ?_)
          refine app_U (.tmp 63) (.tmp 69) rfl wc.heap.size _ (1) ([] ++ y1 ++ [v]) (by rfl) ho4 _ (0) _ (y2) (by rfl) hl2 (hy2.below hb4) hn2 (1) (by omega) (by omega) hb4.size ?_
          intro A5 c5 X5 ho5 hg5 ha5 hc5
          have hb5 := hb4.trans hc5
          refine hK.out _ _ (fun _ => held _ hb5) ?_
          clear hK K
          try simp only [Act.put, List.setIfInBounds_toArray, List.set_cons_zero, List.set_cons_succ]
          refine E_take (i := 19) (v := ?_) [20, 19] rfl (by kernel_rfl) (by kernel_rfl) (by kernel_rfl) (by kernel_rfl) (by kernel_rfl) rfl (fun _ _ _ h => h) (Or.inl ⟨by rfl, ?_⟩) (held _ hb5) ?_
          rotate_left
          · (intro w' hSw; (try dsimp only at hSw); go_simp <;> (with_reducible rfl))
          try simp only [Act.put, List.setIfInBounds_toArray, List.set_cons_zero, List.set_cons_succ]
          refine E_take (i := 20) (v := ?_) [20] rfl (by kernel_rfl) (by kernel_rfl) (by kernel_rfl) (by kernel_rfl) (by kernel_rfl) rfl (fun _ _ _ h => h) (Or.inl ⟨by rfl, ?_⟩) (held _ hb5) ?_
          rotate_left
          · (intro w' hSw; (try dsimp only at hSw); go_simp <;> (with_reducible rfl))
          try simp only [Act.put, List.setIfInBounds_toArray, List.set_cons_zero, List.set_cons_succ]
          refine E_one (i := 21) rfl (by kernel_rfl) (by rfl) (fun K hK => ?_)
          have hfr := (hb5.frozen (p := ⟨L, 1, none⟩) hLz).trans HFr
          obtain qc := held _ hb5
          go_simp
          refine hK.out _ _ (fun h => absurd rfl h) ?_
          clear hK K
          try simp only [Act.put, List.setIfInBounds_toArray, List.set_cons_zero, List.set_cons_succ]
          refine E_done (by kernel_rfl) ?_ _
          go_wp2_with fail
          all_goals (
          refine bodyPost_ret (v := .tuple #[]) (by rw [results_none rfl]) rfl ?_
          have hLb := (hb5.block L hLz).trans hL1
          have hLs := set_at (o := 1) (v := .slice A5 (1) c5) hLb
          have hw5 := ownsRow_setCell_below ho5 (a := ⟨L, 1, none⟩) hLz (.slice A5 (1) c5)
          rw [List.nil_append] at hw5
          have hox5 := own_stay hox (fun q hq => (set_off (L := L) (o := 1) (.slice A5 (1) c5) (fun e => by have := own_ge hox q hq; omega)).trans (hb5.block q (own_lt hox q hq)))
          have hgf := grown_set (o := 1) (HGX.out.trans (below_grown hb5 rfl)) (.slice A5 (1) c5)
          have hi0 := HI.out
          subst hi0
          have hKS := HKS.out
          have hVS := HVS.out
          have hN2 := HN2.out
          have hN3 := HN.out
          have ek : KS.length = ks.length + 1 := by rw [← hKS, List.length_append, List.length_append, List.length_take, List.length_drop, List.length_singleton]; omega
          rw [hN3] at ek
          have ev : VS.length = 1 := by rw [← hVS, List.length_append, List.length_append, hl1, hl2, List.length_singleton] <;> omega
          rw [hKS] at hox5
          rw [hVS] at hw5
          exact ⟨_, _, rfl, ⟨hLs, by rw [ek]; exact own_base hox5 (by omega), by rw [ev]; exact own_base hw5 (by omega), by rw [ek, ev] <;> omega, HL1.out.base, fun q hq hq2 => by have := own_lt hox q hq; have := own_ge ho5 q hq2; omega⟩, (below_grown HBW.out hpk).trans hgf⟩)
        · go_simp
          have hs7 := val_new X1 v
          have hb7 := hb1.alloc hb1.size (.cells #[.int .u64 v] 24)
          have hz7 := Lib.hid (World.size_alloc X1 (.cells #[.int .u64 v] 24))
          have hq7 := ho1.alloc (.cells #[.int .u64 v] 24)
          generalize hX7 : World.alloc X1 (.cells #[.int .u64 v] 24) = X7 at *
          refine hK.out _ _ (fun _ => held _ hb7) ?_
          clear hK K
          try simp only [Act.put, List.setIfInBounds_toArray, List.set_cons_zero, List.set_cons_succ]
          refine E_one (i := 8) rfl (by kernel_rfl) (by rfl) (fun K hK => ?_)
          refine app_U (.tmp 53) (.tmp 59) rfl wc.heap.size _ (0) ([]) (by rfl) hq7 _ (0) _ (y1) (by rfl) hl1 (hy1.below hb7) hn1 (0) (by omega) (by omega) hb7.size ?_
          intro A8 c8 X8 ho8 hg8 ha8 hc8
          have hb8 := hb7.trans hc8
          have hr8 := hs7.grown hg8 (fun b off e => by cases e; simp only [Value.ownBlock, ne_eq, Option.some.injEq]; have := hz1.out; have := hz7.out; omega)
          refine hK.out _ _ (fun _ => held _ hb8) ?_
          clear hK K
          try simp only [Act.put, List.setIfInBounds_toArray, List.set_cons_zero, List.set_cons_succ]
          refine E_one (i := 11) rfl (by kernel_rfl) (by rfl) (fun K hK => ?_)
          refine app_U (.tmp 60) (.tmp 62) rfl wc.heap.size _ (0) ([] ++ y1) (by rfl) ho8 _ (1) 1 ([v]) (by rfl) rfl hr8 (fun e => by cases e) (1) (by omega) (by omega) hb8.size ?_
          intro A9 c9 X9 ho9 hg9 ha9 hc9
          have hb9 := hb8.trans hc9
          refine hK.out _ _ (fun _ => held _ hb9) ?_
          clear hK K
          try simp only [Act.put, List.setIfInBounds_toArray, List.set_cons_zero, List.set_cons_succ]
          refine E_one (i := 18) rfl (by kernel_rfl) (by rfl) (fun K hK => ?_)
          refine app_U (.tmp 63) (.tmp 69) rfl wc.heap.size _ (1) ([] ++ y1 ++ [v]) (by rfl) ho9 _ (0) _ (y2) (by rfl) hl2 (hy2.below hb9) hn2 (1) (by omega) (by omega) hb9.size ?_
          intro A10 c10 X10 ho10 hg10 ha10 hc10
          have hb10 := hb9.trans hc10
          refine hK.out _ _ (fun _ => held _ hb10) ?_
          clear hK K
          try simp only [Act.put, List.setIfInBounds_toArray, List.set_cons_zero, List.set_cons_succ]
          refine E_take (i := 19) (v := ?_) [20, 19] rfl (by kernel_rfl) (by kernel_rfl) (by kernel_rfl) (by kernel_rfl) (by kernel_rfl) rfl (fun _ _ _ h => h) (Or.inl ⟨by rfl, ?_⟩) (held _ hb10) ?_
          rotate_left
          · (intro w' hSw; (try dsimp only at hSw); go_simp <;> (with_reducible rfl))
          try simp only [Act.put, List.setIfInBounds_toArray, List.set_cons_zero, List.set_cons_succ]
          refine E_take (i := 20) (v := ?_) [20] rfl (by kernel_rfl) (by kernel_rfl) (by kernel_rfl) (by kernel_rfl) (by kernel_rfl) rfl (fun _ _ _ h => h) (Or.inl ⟨by rfl, ?_⟩) (held _ hb10) ?_
          rotate_left
          · (intro w' hSw; (try dsimp only at hSw); go_simp <;> (with_reducible rfl))
          try simp only [Act.put, List.setIfInBounds_toArray, List.set_cons_zero, List.set_cons_succ]
          refine E_one (i := 21) rfl (by kernel_rfl) (by rfl) (fun K hK => ?_)
          have hfr := (hb10.frozen (p := ⟨L, 1, none⟩) hLz).trans HFr
          obtain qc := held _ hb10
          go_simp
          refine hK.out _ _ (fun h => absurd rfl h) ?_
          clear hK K
          try simp only [Act.put, List.setIfInBounds_toArray, List.set_cons_zero, List.set_cons_succ]
          refine E_done (by kernel_rfl) ?_ _
          go_wp2_with fail
          all_goals (
          refine bodyPost_ret (v := .tuple #[]) (by rw [results_none rfl]) rfl ?_
          have hLb := (hb10.block L hLz).trans hL1
          have hLs := set_at (o := 1) (v := .slice A10 (1) c10) hLb
          have hw5 := ownsRow_setCell_below ho10 (a := ⟨L, 1, none⟩) hLz (.slice A10 (1) c10)
          rw [List.nil_append] at hw5
          have hox5 := own_stay hox (fun q hq => (set_off (L := L) (o := 1) (.slice A10 (1) c10) (fun e => by have := own_ge hox q hq; omega)).trans (hb10.block q (own_lt hox q hq)))
          have hgf := grown_set (o := 1) (HGX.out.trans (below_grown hb10 rfl)) (.slice A10 (1) c10)
          have hi0 := HI.out
          subst hi0
          have hKS := HKS.out
          have hVS := HVS.out
          have hN2 := HN2.out
          have hN3 := HN.out
          have ek : KS.length = ks.length + 1 := by rw [← hKS, List.length_append, List.length_append, List.length_take, List.length_drop, List.length_singleton]; omega
          rw [hN3] at ek
          have ev : VS.length = 1 := by rw [← hVS, List.length_append, List.length_append, hl1, hl2, List.length_singleton] <;> omega
          rw [hKS] at hox5
          rw [hVS] at hw5
          exact ⟨_, _, rfl, ⟨hLs, by rw [ek]; exact own_base hox5 (by omega), by rw [ev]; exact own_base hw5 (by omega), by rw [ek, ev] <;> omega, HL1.out.base, fun q hq hq2 => by have := own_lt hox q hq; have := own_ge ho10 q hq2; omega⟩, (below_grown HBW.out hpk).trans hgf⟩)
      · go_simp
        have hs12 := val_new X0 v
        have hb12 := hb0.alloc hb0.size (.cells #[.int .u64 v] 24)
        have hz12 := Lib.hid (World.size_alloc X0 (.cells #[.int .u64 v] 24))
        generalize hX12 : World.alloc X0 (.cells #[.int .u64 v] 24) = X12 at *
        refine hK.out _ _ (fun _ => held _ hb12) ?_
        clear hK K
        try simp only [Act.put, List.setIfInBounds_toArray, List.set_cons_zero, List.set_cons_succ]
        refine E_one (i := 1) rfl (by kernel_rfl) (by rfl) (fun K hK => ?_)
        go_simp
        have ho13 := own_base (empty_own X12 24 1 (by decide)) hb12.size
        have hb13 := hb12.alloc hb12.size (.cells #[] 24)
        have hz13 := Lib.hid (World.size_alloc X12 (.cells #[] 24))
        have hr13 := hs12.below ((Below.refl _ _).alloc (Nat.le_refl _) (.cells #[] 24))
        generalize hX13 : World.alloc X12 (.cells #[] 24) = X13 at *
        refine hK.out _ _ (fun _ => held _ hb13) ?_
        clear hK K
        try simp only [Act.put, List.setIfInBounds_toArray, List.set_cons_zero, List.set_cons_succ]
        refine E_one (i := 8) rfl (by kernel_rfl) (by rfl) (fun K hK => ?_)
        refine app_U (.tmp 53) (.tmp 59) rfl wc.heap.size _ (0) ([]) (by rfl) ho13 _ (0) _ (y1) (by rfl) hl1 (hy1.below hb13) hn1 (0) (by omega) (by omega) hb13.size ?_
        intro A14 c14 X14 ho14 hg14 ha14 hc14
        have hb14 := hb13.trans hc14
        have hr14 := hr13.grown hg14 (fun b off e => by cases e; simp only [Value.ownBlock, ne_eq, Option.some.injEq]; have := hz12.out; have := hz13.out; omega)
        refine hK.out _ _ (fun _ => held _ hb14) ?_
        clear hK K
        try simp only [Act.put, List.setIfInBounds_toArray, List.set_cons_zero, List.set_cons_succ]
        refine E_one (i := 11) rfl (by kernel_rfl) (by rfl) (fun K hK => ?_)
        refine app_U (.tmp 60) (.tmp 62) rfl wc.heap.size _ (0) ([] ++ y1) (by rfl) ho14 _ (1) 1 ([v]) (by rfl) rfl hr14 (fun e => by cases e) (1) (by omega) (by omega) hb14.size ?_
        intro A15 c15 X15 ho15 hg15 ha15 hc15
        have hb15 := hb14.trans hc15
        refine hK.out _ _ (fun _ => held _ hb15) ?_
        clear hK K
        try simp only [Act.put, List.setIfInBounds_toArray, List.set_cons_zero, List.set_cons_succ]
        refine E_one (i := 18) rfl (by kernel_rfl) (by rfl) (fun K hK => ?_)
        refine app_U (.tmp 63) (.tmp 69) rfl wc.heap.size _ (1) ([] ++ y1 ++ [v]) (by rfl) ho15 _ (0) _ (y2) (by rfl) hl2 (hy2.below hb15) hn2 (1) (by omega) (by omega) hb15.size ?_
        intro A16 c16 X16 ho16 hg16 ha16 hc16
        have hb16 := hb15.trans hc16
        refine hK.out _ _ (fun _ => held _ hb16) ?_
        clear hK K
        try simp only [Act.put, List.setIfInBounds_toArray, List.set_cons_zero, List.set_cons_succ]
        refine E_take (i := 19) (v := ?_) [20, 19] rfl (by kernel_rfl) (by kernel_rfl) (by kernel_rfl) (by kernel_rfl) (by kernel_rfl) rfl (fun _ _ _ h => h) (Or.inl ⟨by rfl, ?_⟩) (held _ hb16) ?_
        rotate_left
        · (intro w' hSw; (try dsimp only at hSw); go_simp <;> (with_reducible rfl))
        try simp only [Act.put, List.setIfInBounds_toArray, List.set_cons_zero, List.set_cons_succ]
        refine E_take (i := 20) (v := ?_) [20] rfl (by kernel_rfl) (by kernel_rfl) (by kernel_rfl) (by kernel_rfl) (by kernel_rfl) rfl (fun _ _ _ h => h) (Or.inl ⟨by rfl, ?_⟩) (held _ hb16) ?_
        rotate_left
        · (intro w' hSw; (try dsimp only at hSw); go_simp <;> (with_reducible rfl))
        try simp only [Act.put, List.setIfInBounds_toArray, List.set_cons_zero, List.set_cons_succ]
        refine E_one (i := 21) rfl (by kernel_rfl) (by rfl) (fun K hK => ?_)
        have hfr := (hb16.frozen (p := ⟨L, 1, none⟩) hLz).trans HFr
        obtain qc := held _ hb16
        go_simp
        refine hK.out _ _ (fun h => absurd rfl h) ?_
        clear hK K
        try simp only [Act.put, List.setIfInBounds_toArray, List.set_cons_zero, List.set_cons_succ]
        refine E_done (by kernel_rfl) ?_ _
        go_wp2_with fail
        all_goals (
        refine bodyPost_ret (v := .tuple #[]) (by rw [results_none rfl]) rfl ?_
        have hLb := (hb16.block L hLz).trans hL1
        have hLs := set_at (o := 1) (v := .slice A16 (1) c16) hLb
        have hw5 := ownsRow_setCell_below ho16 (a := ⟨L, 1, none⟩) hLz (.slice A16 (1) c16)
        rw [List.nil_append] at hw5
        have hox5 := own_stay hox (fun q hq => (set_off (L := L) (o := 1) (.slice A16 (1) c16) (fun e => by have := own_ge hox q hq; omega)).trans (hb16.block q (own_lt hox q hq)))
        have hgf := grown_set (o := 1) (HGX.out.trans (below_grown hb16 rfl)) (.slice A16 (1) c16)
        have hi0 := HI.out
        subst hi0
        have hKS := HKS.out
        have hVS := HVS.out
        have hN2 := HN2.out
        have hN3 := HN.out
        have ek : KS.length = ks.length + 1 := by rw [← hKS, List.length_append, List.length_append, List.length_take, List.length_drop, List.length_singleton]; omega
        rw [hN3] at ek
        have ev : VS.length = 1 := by rw [← hVS, List.length_append, List.length_append, hl1, hl2, List.length_singleton] <;> omega
        rw [hKS] at hox5
        rw [hVS] at hw5
        exact ⟨_, _, rfl, ⟨hLs, by rw [ek]; exact own_base hox5 (by omega), by rw [ev]; exact own_base hw5 (by omega), by rw [ek, ev] <;> omega, HL1.out.base, fun q hq hq2 => by have := own_lt hox q hq; have := own_ge ho16 q hq2; omega⟩, (below_grown HBW.out hpk).trans hgf⟩)
    · cases e
      have hy1 := vals_take hsA i
      have hy2 : ValsAt wc (if cc = i then some ⟨g, 0, none⟩ else some ⟨g, i, none⟩) (vs.drop i) := by
        split
        · exact fun h => by omega
        · have := vals_drop hsA i
          rwa [Nat.zero_add] at this
      have hn2 : (if cc = i then some (⟨g, 0, none⟩ : Addr) else some ⟨g, i, none⟩) = none → m2 = 0 ∧ cc - i = 0 := by split <;> simp
      have hn1 : (some (⟨g, 0, none⟩ : Addr) = none → i = 0 ∧ cc = 0) := fun e => by cases e
      generalize vs.take i = y1 at *
      generalize vs.drop i = y2 at *
      have held : ∀ X, Below wc.heap.size wc X → (fun w' => w'.cell? ⟨L, 1, none⟩ = some (.slice (some ⟨g, 0, none⟩) N cc)) X := fun X hX => (hX.cell (p := ⟨L, 1, none⟩) hLz).trans dc
      have hb0 : Below wc.heap.size wc wc.drew := bel_drewN _ _ (n := 1)
      refine E_start 21 (fun w' => w'.cell? ⟨L, 1, none⟩ = some (.slice (some ⟨g, 0, none⟩) N cc)) (by kernel_rfl) ?_
      generalize World.drew wc = X0 at *
      refine E_take (i := 0) (v := ?_) [0] rfl (by kernel_rfl) (by kernel_rfl) (by kernel_rfl) (by kernel_rfl) (by kernel_rfl) rfl (fun _ _ _ h => h) (Or.inl ⟨by rfl, ?_⟩) (held _ hb0) ?_
      rotate_left
      · (intro w' hSw; (try dsimp only at hSw); go_simp <;> (with_reducible rfl))
      try simp only [Act.put, List.setIfInBounds_toArray, List.set_cons_zero, List.set_cons_succ]
      refine E_take (i := 2) (v := ?_) [2] rfl (by kernel_rfl) (by kernel_rfl) (by kernel_rfl) (by kernel_rfl) (by kernel_rfl) rfl (fun _ _ _ h => h) (Or.inl ⟨by rfl, ?_⟩) (held _ hb0) ?_
      rotate_left
      · (intro w' hSw; (try dsimp only at hSw); go_simp <;> (with_reducible rfl))
      try simp only [Act.put, List.setIfInBounds_toArray, List.set_cons_zero, List.set_cons_succ]
      refine E_take (i := 3) (v := ?_) [3] rfl (by kernel_rfl) (by kernel_rfl) (by kernel_rfl) (by kernel_rfl) (by kernel_rfl) rfl (fun _ _ _ h => h) (Or.inl ⟨by rfl, ?_⟩) (held _ hb0) ?_
      rotate_left
      · (intro w' hSw; (try dsimp only at hSw); go_simp <;> (with_reducible rfl))
      try simp only [Act.put, List.setIfInBounds_toArray, List.set_cons_zero, List.set_cons_succ]
      refine E_take (i := 4) (v := ?_) [4] rfl (by kernel_rfl) (by kernel_rfl) (by kernel_rfl) (by kernel_rfl) (by kernel_rfl) rfl (fun _ _ _ h => h) (Or.inl ⟨by rfl, ?_⟩) (held _ hb0) ?_
      rotate_left
      · (intro w' hSw; (try dsimp only at hSw); go_simp <;> (with_reducible rfl))
      try simp only [Act.put, List.setIfInBounds_toArray, List.set_cons_zero, List.set_cons_succ]
      refine E_take (i := 5) (v := ?_) [5] rfl (by kernel_rfl) (by kernel_rfl) (by kernel_rfl) (by kernel_rfl) (by kernel_rfl) rfl (fun _ _ _ h => h) (Or.inl ⟨by rfl, ?_⟩) (held _ hb0) ?_
      rotate_left
      · (intro w' hSw; (try dsimp only at hSw); go_simp <;> (with_reducible rfl))
      try simp only [Act.put, List.setIfInBounds_toArray, List.set_cons_zero, List.set_cons_succ]
      refine E_take (i := 6) (v := ?_) [6] rfl (by kernel_rfl) (by kernel_rfl) (by kernel_rfl) (by kernel_rfl) (by kernel_rfl) rfl (fun _ _ _ h => h) (Or.inl ⟨by rfl, ?_⟩) (held _ hb0) ?_
      rotate_left
      · (intro w' hSw; (try dsimp only at hSw); go_simp <;> (with_reducible rfl))
      try simp only [Act.put, List.setIfInBounds_toArray, List.set_cons_zero, List.set_cons_succ]
      refine E_take (i := 7) (v := ?_) [7] rfl (by kernel_rfl) (by kernel_rfl) (by kernel_rfl) (by kernel_rfl) (by kernel_rfl) rfl (fun _ _ _ h => h) (Or.inl ⟨by rfl, ?_⟩) (held _ hb0) ?_
      rotate_left
      · (intro w' hSw; (try dsimp only at hSw); go_simp <;> (with_reducible rfl))
      try simp only [Act.put, List.setIfInBounds_toArray, List.set_cons_zero, List.set_cons_succ]
      refine E_take (i := 9) (v := ?_) [9] rfl (by kernel_rfl) (by kernel_rfl) (by kernel_rfl) (by kernel_rfl) (by kernel_rfl) rfl (fun _ _ _ h => h) (Or.inl ⟨by rfl, ?_⟩) (held _ hb0) ?_
      rotate_left
      · (intro w' hSw; (try dsimp only at hSw); go_simp <;> (with_reducible rfl))
      try simp only [Act.put, List.setIfInBounds_toArray, List.set_cons_zero, List.set_cons_succ]
      refine E_take (i := 12) (v := ?_) [12] rfl (by kernel_rfl) (by kernel_rfl) (by kernel_rfl) (by kernel_rfl) (by kernel_rfl) rfl (fun _ _ _ h => h) (Or.inl ⟨by rfl, ?_⟩) (held _ hb0) ?_
      rotate_left
      · (intro w' hSw; (try dsimp only at hSw); go_simp <;> (with_reducible rfl))
      try simp only [Act.put, List.setIfInBounds_toArray, List.set_cons_zero, List.set_cons_succ]
      refine E_take (i := 13) (v := ?_) [13] rfl (by kernel_rfl) (by kernel_rfl) (by kernel_rfl) (by kernel_rfl) (by kernel_rfl) rfl (fun _ _ _ h => h) (Or.inl ⟨by rfl, ?_⟩) (held _ hb0) ?_
      rotate_left
      · (intro w' hSw; (try dsimp only at hSw); go_simp <;> (with_reducible rfl))
      try simp only [Act.put, List.setIfInBounds_toArray, List.set_cons_zero, List.set_cons_succ]
      refine E_take (i := 14) (v := ?_) [14] rfl (by kernel_rfl) (by kernel_rfl) (by kernel_rfl) (by kernel_rfl) (by kernel_rfl) rfl (fun _ _ _ h => h) (Or.inl ⟨by rfl, ?_⟩) (held _ hb0) ?_
      rotate_left
      · (intro w' hSw; (try dsimp only at hSw); go_simp <;> (with_reducible rfl))
      try simp only [Act.put, List.setIfInBounds_toArray, List.set_cons_zero, List.set_cons_succ]
      refine E_take (i := 15) (v := ?_) [15] rfl (by kernel_rfl) (by kernel_rfl) (by kernel_rfl) (by kernel_rfl) (by kernel_rfl) rfl (fun _ _ _ h => h) (Or.inl ⟨by rfl, ?_⟩) (held _ hb0) ?_
      rotate_left
      · (intro w' hSw; (try dsimp only at hSw); go_simp <;> (with_reducible rfl))
      try simp only [Act.put, List.setIfInBounds_toArray, List.set_cons_zero, List.set_cons_succ]
      refine E_take (i := 16) (v := ?_) [16] rfl (by kernel_rfl) (by kernel_rfl) (by kernel_rfl) (by kernel_rfl) (by kernel_rfl) rfl (fun _ _ _ h => h) (Or.inl ⟨by rfl, ?_⟩) (held _ hb0) ?_
      rotate_left
      · (intro w' hSw; (try dsimp only at hSw); go_simp <;> (with_reducible rfl))
      try simp only [Act.put, List.setIfInBounds_toArray, List.set_cons_zero, List.set_cons_succ]
      refine E_take (i := 17) (v := ?_) [17] rfl (by kernel_rfl) (by kernel_rfl) (by kernel_rfl) (by kernel_rfl) (by kernel_rfl) rfl (fun _ _ _ h => h) (Or.inl ⟨by rfl, ?_⟩) (held _ hb0) ?_
      rotate_left
      · (intro w' hSw; (try dsimp only at hSw); go_simp <;> (with_reducible rfl))
      try simp only [Act.put, List.setIfInBounds_toArray, List.set_cons_zero, List.set_cons_succ]
      refine E_two (i := 1) (j := 10) rfl rfl (by kernel_rfl) (by rfl) (by rfl) (fun K hK => ?_) (fun K hK => ?_)
      · go_simp
        have ho1 := own_base (empty_own X0 24 1 (by decide)) hb0.size
        have hb1 := hb0.alloc hb0.size (.cells #[] 24)
        have hz1 := Lib.hid (World.size_alloc X0 (.cells #[] 24))
        generalize hX1 : World.alloc X0 (.cells #[] 24) = X1 at *
        refine hK.out _ _ (fun _ => held _ hb1) ?_
        clear hK K
        try simp only [Act.put, List.setIfInBounds_toArray, List.set_cons_zero, List.set_cons_succ]
        refine E_two (i := 8) (j := 10) rfl rfl (by kernel_rfl) (by rfl) (by rfl) (fun K hK => ?_) (fun K hK => ?_)
        · refine app_U (.tmp 53) (.tmp 59) rfl wc.heap.size _ (0) ([]) (by rfl) ho1 _ (i) _ (y1) (by rfl) hl1 (hy1.below hb1) hn1 (i) (by omega) (by omega) hb1.size ?_
          intro A2 c2 X2 ho2 hg2 ha2 hc2
          have hb2 := hb1.trans hc2
          refine hK.out _ _ (fun _ => held _ hb2) ?_
          clear hK K
          try simp only [Act.put, List.setIfInBounds_toArray, List.set_cons_zero, List.set_cons_succ]
          refine E_one (i := 10) rfl (by kernel_rfl) (by rfl) (fun K hK => ?_)
          go_simp
          have hs3 := val_new X2 v
          have hb3 := hb2.alloc hb2.size (.cells #[.int .u64 v] 24)
          have hz3 := Lib.hid (World.size_alloc X2 (.cells #[.int .u64 v] 24))
          have hq3 := ho2.alloc (.cells #[.int .u64 v] 24)
          generalize hX3 : World.alloc X2 (.cells #[.int .u64 v] 24) = X3 at *
          refine hK.out _ _ (fun _ => held _ hb3) ?_
          clear hK K
          try simp only [Act.put, List.setIfInBounds_toArray, List.set_cons_zero, List.set_cons_succ]
          refine E_one (i := 11) rfl (by kernel_rfl) (by rfl) (fun K hK => ?_)
          refine app_U (.tmp 60) (.tmp 62) rfl wc.heap.size _ (i) ([] ++ y1) (by rfl) hq3 _ (1) 1 ([v]) (by rfl) rfl hs3 (fun e => by cases e) (i + 1) (by omega) (by omega) hb3.size ?_
          intro A4 c4 X4 ho4 hg4 ha4 hc4
          have hb4 := hb3.trans hc4
          refine hK.out _ _ (fun _ => held _ hb4) ?_
          clear hK K
          try simp only [Act.put, List.setIfInBounds_toArray, List.set_cons_zero, List.set_cons_succ]
          refine E_one (i := 18) rfl (by kernel_rfl) (by rfl) (fun K hK => ?_)
          refine app_U (.tmp 63) (.tmp 69) rfl wc.heap.size _ (i + 1) ([] ++ y1 ++ [v]) (by rfl) ho4 _ (m2) _ (y2) (by rfl) hl2 (hy2.below hb4) hn2 (N + 1) (by omega) (by omega) hb4.size ?_
          intro A5 c5 X5 ho5 hg5 ha5 hc5
          have hb5 := hb4.trans hc5
          refine hK.out _ _ (fun _ => held _ hb5) ?_
          clear hK K
          try simp only [Act.put, List.setIfInBounds_toArray, List.set_cons_zero, List.set_cons_succ]
          refine E_take (i := 19) (v := ?_) [20, 19] rfl (by kernel_rfl) (by kernel_rfl) (by kernel_rfl) (by kernel_rfl) (by kernel_rfl) rfl (fun _ _ _ h => h) (Or.inl ⟨by rfl, ?_⟩) (held _ hb5) ?_
          rotate_left
          · (intro w' hSw; (try dsimp only at hSw); go_simp <;> (with_reducible rfl))
          try simp only [Act.put, List.setIfInBounds_toArray, List.set_cons_zero, List.set_cons_succ]
          refine E_take (i := 20) (v := ?_) [20] rfl (by kernel_rfl) (by kernel_rfl) (by kernel_rfl) (by kernel_rfl) (by kernel_rfl) rfl (fun _ _ _ h => h) (Or.inl ⟨by rfl, ?_⟩) (held _ hb5) ?_
          rotate_left
          · (intro w' hSw; (try dsimp only at hSw); go_simp <;> (with_reducible rfl))
          try simp only [Act.put, List.setIfInBounds_toArray, List.set_cons_zero, List.set_cons_succ]
          refine E_one (i := 21) rfl (by kernel_rfl) (by rfl) (fun K hK => ?_)
          have hfr := (hb5.frozen (p := ⟨L, 1, none⟩) hLz).trans HFr
          obtain qc := held _ hb5
          go_simp
          refine hK.out _ _ (fun h => absurd rfl h) ?_
          clear hK K
          try simp only [Act.put, List.setIfInBounds_toArray, List.set_cons_zero, List.set_cons_succ]
          refine E_done (by kernel_rfl) ?_ _
          go_wp2_with fail
          all_goals (
          refine bodyPost_ret (v := .tuple #[]) (by rw [results_none rfl]) rfl ?_
          have hLb := (hb5.block L hLz).trans hL1
          have hLs := set_at (o := 1) (v := .slice A5 (N + 1) c5) hLb
          have hw5 := ownsRow_setCell_below ho5 (a := ⟨L, 1, none⟩) hLz (.slice A5 (N + 1) c5)
          rw [List.nil_append] at hw5
          have hox5 := own_stay hox (fun q hq => (set_off (L := L) (o := 1) (.slice A5 (N + 1) c5) (fun e => by have := own_ge hox q hq; omega)).trans (hb5.block q (own_lt hox q hq)))
          have hgf := grown_set (o := 1) (HGX.out.trans (below_grown hb5 rfl)) (.slice A5 (N + 1) c5)
          have hi0 := HI.out
          subst hi0
          have hKS := HKS.out
          have hVS := HVS.out
          have hN2 := HN2.out
          have hN3 := HN.out
          have ek : KS.length = ks.length + 1 := by rw [← hKS, List.length_append, List.length_append, List.length_take, List.length_drop, List.length_singleton]; omega
          rw [hN3] at ek
          have ev : VS.length = N + 1 := by rw [← hVS, List.length_append, List.length_append, hl1, hl2, List.length_singleton] <;> omega
          rw [hKS] at hox5
          rw [hVS] at hw5
          exact ⟨_, _, rfl, ⟨hLs, by rw [ek]; exact own_base hox5 (by omega), by rw [ev]; exact own_base hw5 (by omega), by rw [ek, ev] <;> omega, HL1.out.base, fun q hq hq2 => by have := own_lt hox q hq; have := own_ge ho5 q hq2; omega⟩, (below_grown HBW.out hpk).trans hgf⟩)
        · go_simp
          have hs7 := val_new X1 v
          have hb7 := hb1.alloc hb1.size (.cells #[.int .u64 v] 24)
          have hz7 := Lib.hid (World.size_alloc X1 (.cells #[.int .u64 v] 24))
          have hq7 := ho1.alloc (.cells #[.int .u64 v] 24)
          generalize hX7 : World.alloc X1 (.cells #[.int .u64 v] 24) = X7 at *
          refine hK.out _ _ (fun _ => held _ hb7) ?_
          clear hK K
          try simp only [Act.put, List.setIfInBounds_toArray, List.set_cons_zero, List.set_cons_succ]
          refine E_one (i := 8) rfl (by kernel_rfl) (by rfl) (fun K hK => ?_)
          refine app_U (.tmp 53) (.tmp 59) rfl wc.heap.size _ (0) ([]) (by rfl) hq7 _ (i) _ (y1) (by rfl) hl1 (hy1.below hb7) hn1 (i) (by omega) (by omega) hb7.size ?_
          intro A8 c8 X8 ho8 hg8 ha8 hc8
          have hb8 := hb7.trans hc8
          have hr8 := hs7.grown hg8 (fun b off e => by cases e; simp only [Value.ownBlock, ne_eq, Option.some.injEq]; have := hz1.out; have := hz7.out; omega)
          refine hK.out _ _ (fun _ => held _ hb8) ?_
          clear hK K
          try simp only [Act.put, List.setIfInBounds_toArray, List.set_cons_zero, List.set_cons_succ]
          refine E_one (i := 11) rfl (by kernel_rfl) (by rfl) (fun K hK => ?_)
          refine app_U (.tmp 60) (.tmp 62) rfl wc.heap.size _ (i) ([] ++ y1) (by rfl) ho8 _ (1) 1 ([v]) (by rfl) rfl hr8 (fun e => by cases e) (i + 1) (by omega) (by omega) hb8.size ?_
          intro A9 c9 X9 ho9 hg9 ha9 hc9
          have hb9 := hb8.trans hc9
          refine hK.out _ _ (fun _ => held _ hb9) ?_
          clear hK K
          try simp only [Act.put, List.setIfInBounds_toArray, List.set_cons_zero, List.set_cons_succ]
          refine E_one (i := 18) rfl (by kernel_rfl) (by rfl) (fun K hK => ?_)
          refine app_U (.tmp 63) (.tmp 69) rfl wc.heap.size _ (i + 1) ([] ++ y1 ++ [v]) (by rfl) ho9 _ (m2) _ (y2) (by rfl) hl2 (hy2.below hb9) hn2 (N + 1) (by omega) (by omega) hb9.size ?_
          intro A10 c10 X10 ho10 hg10 ha10 hc10
          have hb10 := hb9.trans hc10
          refine hK.out _ _ (fun _ => held _ hb10) ?_
          clear hK K
          try simp only [Act.put, List.setIfInBounds_toArray, List.set_cons_zero, List.set_cons_succ]
          refine E_take (i := 19) (v := ?_) [20, 19] rfl (by kernel_rfl) (by kernel_rfl) (by kernel_rfl) (by kernel_rfl) (by kernel_rfl) rfl (fun _ _ _ h => h) (Or.inl ⟨by rfl, ?_⟩) (held _ hb10) ?_
          rotate_left
          · (intro w' hSw; (try dsimp only at hSw); go_simp <;> (with_reducible rfl))
          try simp only [Act.put, List.setIfInBounds_toArray, List.set_cons_zero, List.set_cons_succ]
          refine E_take (i := 20) (v := ?_) [20] rfl (by kernel_rfl) (by kernel_rfl) (by kernel_rfl) (by kernel_rfl) (by kernel_rfl) rfl (fun _ _ _ h => h) (Or.inl ⟨by rfl, ?_⟩) (held _ hb10) ?_
          rotate_left
          · (intro w' hSw; (try dsimp only at hSw); go_simp <;> (with_reducible rfl))
          try simp only [Act.put, List.setIfInBounds_toArray, List.set_cons_zero, List.set_cons_succ]
          refine E_one (i := 21) rfl (by kernel_rfl) (by rfl) (fun K hK => ?_)
          have hfr := (hb10.frozen (p := ⟨L, 1, none⟩) hLz).trans HFr
          obtain qc := held _ hb10
          go_simp
          refine hK.out _ _ (fun h => absurd rfl h) ?_
          clear hK K
          try simp only [Act.put, List.setIfInBounds_toArray, List.set_cons_zero, List.set_cons_succ]
          refine E_done (by kernel_rfl) ?_ _
          go_wp2_with fail
          all_goals (
          refine bodyPost_ret (v := .tuple #[]) (by rw [results_none rfl]) rfl ?_
          have hLb := (hb10.block L hLz).trans hL1
          have hLs := set_at (o := 1) (v := .slice A10 (N + 1) c10) hLb
          have hw5 := ownsRow_setCell_below ho10 (a := ⟨L, 1, none⟩) hLz (.slice A10 (N + 1) c10)
          rw [List.nil_append] at hw5
          have hox5 := own_stay hox (fun q hq => (set_off (L := L) (o := 1) (.slice A10 (N + 1) c10) (fun e => by have := own_ge hox q hq; omega)).trans (hb10.block q (own_lt hox q hq)))
          have hgf := grown_set (o := 1) (HGX.out.trans (below_grown hb10 rfl)) (.slice A10 (N + 1) c10)
          have hi0 := HI.out
          subst hi0
          have hKS := HKS.out
          have hVS := HVS.out
          have hN2 := HN2.out
          have hN3 := HN.out
          have ek : KS.length = ks.length + 1 := by rw [← hKS, List.length_append, List.length_append, List.length_take, List.length_drop, List.length_singleton]; omega
          rw [hN3] at ek
          have ev : VS.length = N + 1 := by rw [← hVS, List.length_append, List.length_append, hl1, hl2, List.length_singleton] <;> omega
          rw [hKS] at hox5
          rw [hVS] at hw5
          exact ⟨_, _, rfl, ⟨hLs, by rw [ek]; exact own_base hox5 (by omega), by rw [ev]; exact own_base hw5 (by omega), by rw [ek, ev] <;> omega, HL1.out.base, fun q hq hq2 => by have := own_lt hox q hq; have := own_ge ho10 q hq2; omega⟩, (below_grown HBW.out hpk).trans hgf⟩)
      · go_simp
        have hs12 := val_new X0 v
        have hb12 := hb0.alloc hb0.size (.cells #[.int .u64 v] 24)
        have hz12 := Lib.hid (World.size_alloc X0 (.cells #[.int .u64 v] 24))
        generalize hX12 : World.alloc X0 (.cells #[.int .u64 v] 24) = X12 at *
        refine hK.out _ _ (fun _ => held _ hb12) ?_
        clear hK K
        try simp only [Act.put, List.setIfInBounds_toArray, List.set_cons_zero, List.set_cons_succ]
        refine E_one (i := 1) rfl (by kernel_rfl) (by rfl) (fun K hK => ?_)
        go_simp
        have ho13 := own_base (empty_own X12 24 1 (by decide)) hb12.size
        have hb13 := hb12.alloc hb12.size (.cells #[] 24)
        have hz13 := Lib.hid (World.size_alloc X12 (.cells #[] 24))
        have hr13 := hs12.below ((Below.refl _ _).alloc (Nat.le_refl _) (.cells #[] 24))
        generalize hX13 : World.alloc X12 (.cells #[] 24) = X13 at *
        refine hK.out _ _ (fun _ => held _ hb13) ?_
        clear hK K
        try simp only [Act.put, List.setIfInBounds_toArray, List.set_cons_zero, List.set_cons_succ]
        refine E_one (i := 8) rfl (by kernel_rfl) (by rfl) (fun K hK => ?_)
        refine app_U (.tmp 53) (.tmp 59) rfl wc.heap.size _ (0) ([]) (by rfl) ho13 _ (i) _ (y1) (by rfl) hl1 (hy1.below hb13) hn1 (i) (by omega) (by omega) hb13.size ?_
        intro A14 c14 X14 ho14 hg14 ha14 hc14
        have hb14 := hb13.trans hc14
        have hr14 := hr13.grown hg14 (fun b off e => by cases e; simp only [Value.ownBlock, ne_eq, Option.some.injEq]; have := hz12.out; have := hz13.out; omega)
        refine hK.out _ _ (fun _ => held _ hb14) ?_
        clear hK K
        try simp only [Act.put, List.setIfInBounds_toArray, List.set_cons_zero, List.set_cons_succ]
        refine E_one (i := 11) rfl (by kernel_rfl) (by rfl) (fun K hK => ?_)
        refine app_U (.tmp 60) (.tmp 62) rfl wc.heap.size _ (i) ([] ++ y1) (by rfl) ho14 _ (1) 1 ([v]) (by rfl) rfl hr14 (fun e => by cases e) (i + 1) (by omega) (by omega) hb14.size ?_
        intro A15 c15 X15 ho15 hg15 ha15 hc15
        have hb15 := hb14.trans hc15
        refine hK.out _ _ (fun _ => held _ hb15) ?_
        clear hK K
        try simp only [Act.put, List.setIfInBounds_toArray, List.set_cons_zero, List.set_cons_succ]
        refine E_one (i := 18) rfl (by kernel_rfl) (by rfl) (fun K hK => ?_)
        refine app_U (.tmp 63) (.tmp 69) rfl wc.heap.size _ (i + 1) ([] ++ y1 ++ [v]) (by rfl) ho15 _ (m2) _ (y2) (by rfl) hl2 (hy2.below hb15) hn2 (N + 1) (by omega) (by omega) hb15.size ?_
        intro A16 c16 X16 ho16 hg16 ha16 hc16
        have hb16 := hb15.trans hc16
        refine hK.out _ _ (fun _ => held _ hb16) ?_
        clear hK K
        try simp only [Act.put, List.setIfInBounds_toArray, List.set_cons_zero, List.set_cons_succ]
        refine E_take (i := 19) (v := ?_) [20, 19] rfl (by kernel_rfl) (by kernel_rfl) (by kernel_rfl) (by kernel_rfl) (by kernel_rfl) rfl (fun _ _ _ h => h) (Or.inl ⟨by rfl, ?_⟩) (held _ hb16) ?_
        rotate_left
        · (intro w' hSw; (try dsimp only at hSw); go_simp <;> (with_reducible rfl))
        try simp only [Act.put, List.setIfInBounds_toArray, List.set_cons_zero, List.set_cons_succ]
        refine E_take (i := 20) (v := ?_) [20] rfl (by kernel_rfl) (by kernel_rfl) (by kernel_rfl) (by kernel_rfl) (by kernel_rfl) rfl (fun _ _ _ h => h) (Or.inl ⟨by rfl, ?_⟩) (held _ hb16) ?_
        rotate_left
        · (intro w' hSw; (try dsimp only at hSw); go_simp <;> (with_reducible rfl))
        try simp only [Act.put, List.setIfInBounds_toArray, List.set_cons_zero, List.set_cons_succ]
        refine E_one (i := 21) rfl (by kernel_rfl) (by rfl) (fun K hK => ?_)
        have hfr := (hb16.frozen (p := ⟨L, 1, none⟩) hLz).trans HFr
        obtain qc := held _ hb16
        go_simp
        refine hK.out _ _ (fun h => absurd rfl h) ?_
        clear hK K
        try simp only [Act.put, List.setIfInBounds_toArray, List.set_cons_zero, List.set_cons_succ]
        refine E_done (by kernel_rfl) ?_ _
        go_wp2_with fail
        all_goals (
        refine bodyPost_ret (v := .tuple #[]) (by rw [results_none rfl]) rfl ?_
        have hLb := (hb16.block L hLz).trans hL1
        have hLs := set_at (o := 1) (v := .slice A16 (N + 1) c16) hLb
        have hw5 := ownsRow_setCell_below ho16 (a := ⟨L, 1, none⟩) hLz (.slice A16 (N + 1) c16)
        rw [List.nil_append] at hw5
        have hox5 := own_stay hox (fun q hq => (set_off (L := L) (o := 1) (.slice A16 (N + 1) c16) (fun e => by have := own_ge hox q hq; omega)).trans (hb16.block q (own_lt hox q hq)))
        have hgf := grown_set (o := 1) (HGX.out.trans (below_grown hb16 rfl)) (.slice A16 (N + 1) c16)
        have hi0 := HI.out
        subst hi0
        have hKS := HKS.out
        have hVS := HVS.out
        have hN2 := HN2.out
        have hN3 := HN.out
        have ek : KS.length = ks.length + 1 := by rw [← hKS, List.length_append, List.length_append, List.length_take, List.length_drop, List.length_singleton]; omega
        rw [hN3] at ek
        have ev : VS.length = N + 1 := by rw [← hVS, List.length_append, List.length_append, hl1, hl2, List.length_singleton] <;> omega
        rw [hKS] at hox5
        rw [hVS] at hw5
        exact ⟨_, _, rfl, ⟨hLs, by rw [ek]; exact own_base hox5 (by omega), by rw [ev]; exact own_base hw5 (by omega), by rw [ek, ev] <;> omega, HL1.out.base, fun q hq hq2 => by have := own_lt hox q hq; have := own_ge ho16 q hq2; omega⟩, (below_grown HBW.out hpk).trans hgf⟩)
end Go.Proofs.Ytainljbkejafcaa.N

/- The document's Del: where a spot is there. -/
namespace Go.Proofs.Ytainljbkejafcaa.N
open Go.RowKit Go.Proofs.YtainljbkejafcaaW.PrintMore Go.Proofs.YtainljbkejafcaaW.PrintWords
set_option linter.unusedVariables false
set_option linter.unusedSimpArgs false
def RDelP (w : World) (L B : Nat) (b : Bool) (ks : List Sp) (vs : List Int) (e : Ending) (w' : World) : Prop := ∃ kv vv, e = .returned (.bool b) ∧ ListAt w' L B ks vs kv vv ∧ w.grownBy w' (some L)
set_option maxHeartbeats 3200000 in
set_option maxRecDepth 100000 in
theorem rdel_no {w : World} {L B : Nat} {ks : List Sp} {vs : List Int} {kv vv : Value} (h : ListAt w L B ks vs kv vv) (k : Sp) (hk : ks.length ≤ 1000) (i : Nat) (hf : findL k ks = (i, false)) :
    Calls Try.prog 59 #[.pointer (some ⟨L, 0, none⟩), k.v] w (RDelP w L B false ks vs) := by
  unfold Sp.v
  have HL := Lib.hid h
  have lL := h.lt
  obtain ⟨A, cc, rfl, hc1, hc2, hsA⟩ := spots_own h.keys
  have hp := h.hp
  have HS := Lib.hid hsA
  clear hsA h
  go_enter Try.func59, Try.ntmps59
  go_wp2_with fail
  have hbw : Below w.heap.size w (w.alloc (.cells #[.int .i64 k.br, .int .i64 k.vol, .int .i64 k.blk, .int .u64 k.num] 26)) := (Below.refl _ _).alloc (Nat.le_refl _) _
  generalize w.alloc (.cells #[.int .i64 k.br, .int .i64 k.vol, .int .i64 k.blk, .int .u64 k.num] 26) = W at *
  refine (rfind_at ((hbw.block L lL).trans hp) (HS.out.below hbw) k (by omega)).mono ?_
  rintro e w1 ⟨rfl, hb1⟩
  simp only [hf]
  have HBW : Hid (Below w.heap.size w w1) := hbw.trans (hb1.mono hbw.size)
  clear hbw hb1
  go_wp2_with fail
  go_ret
  exact ⟨_, _, rfl, HL.out.below HBW.out, below_grown HBW.out rfl⟩
set_option maxHeartbeats 3200000 in
set_option maxRecDepth 100000 in
theorem rdel_yes {w : World} {L B : Nat} {ks : List Sp} {vs : List Int} {kv vv : Value} (h : ListAt w L B ks vs kv vv) (hB : B ≤ w.heap.size) (k : Sp) (hk : ks.length ≤ 1000) (i : Nat) (hf : findL k ks = (i, true)) (hi : i < ks.length) :
    Calls Try.prog 59 #[.pointer (some ⟨L, 0, none⟩), k.v] w (RDelP w L B true (ks.take i ++ ks.drop (i + 1)) (vs.take i ++ vs.drop (i + 1))) := by
  unfold Sp.v
  obtain ⟨KS, hKS⟩ : ∃ KS, ks.take i ++ ks.drop (i + 1) = KS := ⟨_, rfl⟩
  obtain ⟨VS, hVS⟩ : ∃ VS, vs.take i ++ vs.drop (i + 1) = VS := ⟨_, rfl⟩
  rw [hKS, hVS]
  have HKS := Lib.hid hKS
  have HVS := Lib.hid hVS
  clear hKS hVS
  have HL := Lib.hid h
  have lL := h.lt
  obtain ⟨A, cc, rfl, hc1, hc2, hsA⟩ := spots_own h.keys
  have hp := h.hp
  have HS := Lib.hid hsA
  clear hsA h
  go_enter Try.func59, Try.ntmps59
  go_wp2_with fail
  have hbw : Below w.heap.size w (w.alloc (.cells #[.int .i64 k.br, .int .i64 k.vol, .int .i64 k.blk, .int .u64 k.num] 26)) := (Below.refl _ _).alloc (Nat.le_refl _) _
  have zk : w.heap.size < (w.alloc (.cells #[.int .i64 k.br, .int .i64 k.vol, .int .i64 k.blk, .int .u64 k.num] 26)).heap.size := by simp
  generalize w.alloc (.cells #[.int .i64 k.br, .int .i64 k.vol, .int .i64 k.blk, .int .u64 k.num] 26) = W at *
  refine (rfind_at ((hbw.block L lL).trans hp) (HS.out.below hbw) k (by omega)).mono ?_
  rintro e w1 ⟨rfl, hb1⟩
  simp only [hf]
  have hpz : w.heap.size < w1.heap.size := Nat.lt_of_lt_of_le zk hb1.size
  have HBW : Hid (Below w.heap.size w w1) := hbw.trans (hb1.mono hbw.size)
  have hL1 := (HBW.out.block L lL).trans hp
  have hLz : L < w1.heap.size := by omega
  have HL1 := Lib.hid (HL.out.below HBW.out)
  have HS1 := Lib.hid (HS.out.below HBW.out)
  clear hbw hb1 zk hp
  generalize hpk : w.heap.size = pk at *
  have HFr : w1.frozen? ⟨L, 0, none⟩ = false := by simp only [World.frozen?, hL1]; simp
  have dc : w1.cell? ⟨L, 0, none⟩ = some (.slice A ks.length cc) := by simp only [World.cell?, hL1]; rfl
  obtain ⟨N, hN⟩ : ∃ N, ks.length = N := ⟨_, rfl⟩
  have HN := Lib.hid hN
  rw [hN] at dc hi hk hc1
  obtain ⟨j, hj⟩ : ∃ j, i + 1 = j := ⟨_, rfl⟩
  obtain ⟨R, hR⟩ : ∃ R, N - 1 = R := ⟨_, rfl⟩
  have HR0 := Lib.hid hR
  have HKJ : Hid (ks.take i ++ ks.drop j = KS) := by rw [← hj]; exact HKS
  have HVJ : Hid (vs.take i ++ vs.drop j = VS) := by rw [← hj]; exact HVS
  go_wp2_with fail
  go_cut [] (fun wx => ∃ A' c', wx.heap[L]? = some (.cells #[.slice A' R c', vv] 34 (0, 0)) ∧ wx.ownsRow w1.heap.size 26 4 (.slice A' R c') R (sps (ks.take i ++ ks.drop j)) ∧ w1.grownBy wx (some L))
  case first =>
    have hsA := HS1.out
    have e1 : (0 : Int) ≤ (i : Int) := by omega
    have e2 : (i : Int) ≤ (N : Int) := by omega
    have e3 : (i : Int) ≤ (cc : Int) := by omega
    have e4 : (N : Int) ≤ (cc : Int) := by omega
    have e5 : (0 : Int) ≤ (j : Int) := by omega
    have e6 : (j : Int) ≤ (N : Int) := by omega
    have e7 : IntKind.i64.wrap (j : Int) = (j : Int) := by rw [IntKind.wrap_i64]; omega
    have e8 : (i : Int) + 1 = (j : Int) := by omega
    have hl1 : (ks.take i).length = i := by rw [List.length_take, HN.out]; omega
    have hl2 : (ks.drop j).length = N - j := by rw [List.length_drop, HN.out]
    obtain ⟨m2, hm2⟩ : ∃ m, N - j = m := ⟨_, rfl⟩
    rw [hm2] at hl2
    rcases row_form HL1.out.keys with ⟨e, n0⟩ | ⟨g, c, e, hgc, hcm, hgB⟩
    · exfalso; have := HN.out; omega
    · cases e
      have hy1 := spots_take hsA i
      have hy2 : SpotsAt w1 (if cc = j then some ⟨g, 0, none⟩ else some ⟨g, j * 4, none⟩) (ks.drop j) := by
        split
        · exact fun h => by omega
        · have := spots_drop hsA j
          rwa [Nat.zero_add] at this
      have hn2 : (if cc = j then some (⟨g, 0, none⟩ : Addr) else some ⟨g, j * 4, none⟩) = none → m2 = 0 ∧ cc - j = 0 := by split <;> simp
      have hn1 : (some (⟨g, 0, none⟩ : Addr) = none → i = 0 ∧ cc = 0) := fun e => by cases e
      generalize ks.take i = y1 at *
      generalize ks.drop j = y2 at *
      have held : ∀ X, Below w1.heap.size w1 X → (fun w' => w'.cell? ⟨L, 0, none⟩ = some (.slice (some ⟨g, 0, none⟩) N cc)) X := fun X hX => (hX.cell (p := ⟨L, 0, none⟩) hLz).trans dc
      have hb0 : Below w1.heap.size w1 w1.drew := bel_drewN _ _ (n := 1)
      refine E_start 19 (fun w' => w'.cell? ⟨L, 0, none⟩ = some (.slice (some ⟨g, 0, none⟩) N cc)) (by kernel_rfl) ?_
      generalize World.drew w1 = X0 at *
      refine E_take (i := 0) (v := ?_) [0] rfl (by kernel_rfl) (by kernel_rfl) (by kernel_rfl) (by kernel_rfl) (by kernel_rfl) rfl (fun _ _ _ h => h) (Or.inl ⟨by rfl, ?_⟩) (held _ hb0) ?_
      rotate_left
      · (intro w' hSw; (try dsimp only at hSw); go_simp <;> (with_reducible rfl))
      try simp only [Act.put, List.setIfInBounds_toArray, List.set_cons_zero, List.set_cons_succ]
      refine E_take (i := 2) (v := ?_) [2] rfl (by kernel_rfl) (by kernel_rfl) (by kernel_rfl) (by kernel_rfl) (by kernel_rfl) rfl (fun _ _ _ h => h) (Or.inl ⟨by rfl, ?_⟩) (held _ hb0) ?_
      rotate_left
      · (intro w' hSw; (try dsimp only at hSw); go_simp <;> (with_reducible rfl))
      try simp only [Act.put, List.setIfInBounds_toArray, List.set_cons_zero, List.set_cons_succ]
      refine E_take (i := 3) (v := ?_) [3] rfl (by kernel_rfl) (by kernel_rfl) (by kernel_rfl) (by kernel_rfl) (by kernel_rfl) rfl (fun _ _ _ h => h) (Or.inl ⟨by rfl, ?_⟩) (held _ hb0) ?_
      rotate_left
      · (intro w' hSw; (try dsimp only at hSw); go_simp <;> (with_reducible rfl))
      try simp only [Act.put, List.setIfInBounds_toArray, List.set_cons_zero, List.set_cons_succ]
      refine E_take (i := 4) (v := ?_) [4] rfl (by kernel_rfl) (by kernel_rfl) (by kernel_rfl) (by kernel_rfl) (by kernel_rfl) rfl (fun _ _ _ h => h) (Or.inl ⟨by rfl, ?_⟩) (held _ hb0) ?_
      rotate_left
      · (intro w' hSw; (try dsimp only at hSw); go_simp <;> (with_reducible rfl))
      try simp only [Act.put, List.setIfInBounds_toArray, List.set_cons_zero, List.set_cons_succ]
      refine E_take (i := 5) (v := ?_) [5] rfl (by kernel_rfl) (by kernel_rfl) (by kernel_rfl) (by kernel_rfl) (by kernel_rfl) rfl (fun _ _ _ h => h) (Or.inl ⟨by rfl, ?_⟩) (held _ hb0) ?_
      rotate_left
      · (intro w' hSw; (try dsimp only at hSw); go_simp <;> (with_reducible rfl))
      try simp only [Act.put, List.setIfInBounds_toArray, List.set_cons_zero, List.set_cons_succ]
      refine E_take (i := 6) (v := ?_) [6] rfl (by kernel_rfl) (by kernel_rfl) (by kernel_rfl) (by kernel_rfl) (by kernel_rfl) rfl (fun _ _ _ h => h) (Or.inl ⟨by rfl, ?_⟩) (held _ hb0) ?_
      rotate_left
      · (intro w' hSw; (try dsimp only at hSw); go_simp <;> (with_reducible rfl))
      try simp only [Act.put, List.setIfInBounds_toArray, List.set_cons_zero, List.set_cons_succ]
      refine E_take (i := 7) (v := ?_) [7] rfl (by kernel_rfl) (by kernel_rfl) (by kernel_rfl) (by kernel_rfl) (by kernel_rfl) rfl (fun _ _ _ h => h) (Or.inl ⟨by rfl, ?_⟩) (held _ hb0) ?_
      rotate_left
      · (intro w' hSw; (try dsimp only at hSw); go_simp <;> (with_reducible rfl))
      try simp only [Act.put, List.setIfInBounds_toArray, List.set_cons_zero, List.set_cons_succ]
      refine E_take (i := 9) (v := ?_) [9] rfl (by kernel_rfl) (by kernel_rfl) (by kernel_rfl) (by kernel_rfl) (by kernel_rfl) rfl (fun _ _ _ h => h) (Or.inl ⟨by rfl, ?_⟩) (held _ hb0) ?_
      rotate_left
      · (intro w' hSw; (try dsimp only at hSw); go_simp <;> (with_reducible rfl))
      try simp only [Act.put, List.setIfInBounds_toArray, List.set_cons_zero, List.set_cons_succ]
      refine E_take (i := 10) (v := ?_) [10] rfl (by kernel_rfl) (by kernel_rfl) (by kernel_rfl) (by kernel_rfl) (by kernel_rfl) rfl (fun _ _ _ h => h) (Or.inl ⟨by rfl, ?_⟩) (held _ hb0) ?_
      rotate_left
      · (intro w' hSw; (try dsimp only at hSw); go_simp <;> (with_reducible rfl))
      try simp only [Act.put, List.setIfInBounds_toArray, List.set_cons_zero, List.set_cons_succ]
      refine E_take (i := 11) (v := ?_) [11] rfl (by kernel_rfl) (by kernel_rfl) (by kernel_rfl) (by kernel_rfl) (by kernel_rfl) rfl (fun _ _ _ h => h) (Or.inl ⟨by rfl, ?_⟩) (held _ hb0) ?_
      rotate_left
      · (intro w' hSw; (try dsimp only at hSw); go_simp <;> (with_reducible rfl))
      try simp only [Act.put, List.setIfInBounds_toArray, List.set_cons_zero, List.set_cons_succ]
      refine E_take (i := 12) (v := ?_) [12] rfl (by kernel_rfl) (by kernel_rfl) (by kernel_rfl) (by kernel_rfl) (by kernel_rfl) rfl (fun _ _ _ h => h) (Or.inl ⟨by rfl, ?_⟩) (held _ hb0) ?_
      rotate_left
      · (intro w' hSw; (try dsimp only at hSw); go_simp <;> (with_reducible rfl))
      try simp only [Act.put, List.setIfInBounds_toArray, List.set_cons_zero, List.set_cons_succ]
      refine E_take (i := 13) (v := ?_) [13] rfl (by kernel_rfl) (by kernel_rfl) (by kernel_rfl) (by kernel_rfl) (by kernel_rfl) rfl (fun _ _ _ h => h) (Or.inl ⟨by rfl, ?_⟩) (held _ hb0) ?_
      rotate_left
      · (intro w' hSw; (try dsimp only at hSw); go_simp <;> (with_reducible rfl))
      try simp only [Act.put, List.setIfInBounds_toArray, List.set_cons_zero, List.set_cons_succ]
      refine E_take (i := 14) (v := ?_) [14] rfl (by kernel_rfl) (by kernel_rfl) (by kernel_rfl) (by kernel_rfl) (by kernel_rfl) rfl (fun _ _ _ h => h) (Or.inl ⟨by rfl, ?_⟩) (held _ hb0) ?_
      rotate_left
      · (intro w' hSw; (try dsimp only at hSw); go_simp <;> (with_reducible rfl))
      try simp only [Act.put, List.setIfInBounds_toArray, List.set_cons_zero, List.set_cons_succ]
      refine E_take (i := 15) (v := ?_) [15] rfl (by kernel_rfl) (by kernel_rfl) (by kernel_rfl) (by kernel_rfl) (by kernel_rfl) rfl (fun _ _ _ h => h) (Or.inl ⟨by rfl, ?_⟩) (held _ hb0) ?_
      rotate_left
      · (intro w' hSw; (try dsimp only at hSw); go_simp <;> (with_reducible rfl))
      try simp only [Act.put, List.setIfInBounds_toArray, List.set_cons_zero, List.set_cons_succ]
      refine E_one (i := 1) rfl (by kernel_rfl) (by rfl) (fun K hK => ?_)
      go_simp
      have ho1 := own_base (empty_own X0 26 4 (by decide)) hb0.size
      have hb1 := hb0.alloc hb0.size (.cells #[] 26)
      have hz1 := Lib.hid (World.size_alloc X0 (.cells #[] 26))
      generalize hX1 : World.alloc X0 (.cells #[] 26) = X1 at *
      refine hK.out _ _ (fun _ => held _ hb1) ?_
      clear hK K
      try simp only [Act.put, List.setIfInBounds_toArray, List.set_cons_zero, List.set_cons_succ]
      refine E_one (i := 8) rfl (by kernel_rfl) (by rfl) (fun K hK => ?_)
      refine app_S (.tmp 16) (.tmp 22) rfl w1.heap.size _ (0) ([]) (by rfl) ho1 _ (i) _ (y1) (by rfl) hl1 (hy1.below hb1) hn1 (i) (by omega) (by omega) hb1.size ?_
      intro A2 c2 X2 ho2 hg2 ha2 hc2
      have hb2 := hb1.trans hc2
      refine hK.out _ _ (fun _ => held _ hb2) ?_
      clear hK K
      try simp only [Act.put, List.setIfInBounds_toArray, List.set_cons_zero, List.set_cons_succ]
      refine E_one (i := 16) rfl (by kernel_rfl) (by rfl) (fun K hK => ?_)
      refine app_S (.tmp 23) (.tmp 30) rfl w1.heap.size _ (i) ([] ++ y1) (by rfl) ho2 _ (m2) _ (y2) (by rfl) hl2 (hy2.below hb2) hn2 (R) (by omega) (by omega) hb2.size ?_
      intro A3 c3 X3 ho3 hg3 ha3 hc3
      have hb3 := hb2.trans hc3
      refine hK.out _ _ (fun _ => held _ hb3) ?_
      clear hK K
      try simp only [Act.put, List.setIfInBounds_toArray, List.set_cons_zero, List.set_cons_succ]
      refine E_take (i := 17) (v := ?_) [18, 17] rfl (by kernel_rfl) (by kernel_rfl) (by kernel_rfl) (by kernel_rfl) (by kernel_rfl) rfl (fun _ _ _ h => h) (Or.inl ⟨by rfl, ?_⟩) (held _ hb3) ?_
      rotate_left
      · (intro w' hSw; (try dsimp only at hSw); go_simp <;> (with_reducible rfl))
      try simp only [Act.put, List.setIfInBounds_toArray, List.set_cons_zero, List.set_cons_succ]
      refine E_take (i := 18) (v := ?_) [18] rfl (by kernel_rfl) (by kernel_rfl) (by kernel_rfl) (by kernel_rfl) (by kernel_rfl) rfl (fun _ _ _ h => h) (Or.inl ⟨by rfl, ?_⟩) (held _ hb3) ?_
      rotate_left
      · (intro w' hSw; (try dsimp only at hSw); go_simp <;> (with_reducible rfl))
      try simp only [Act.put, List.setIfInBounds_toArray, List.set_cons_zero, List.set_cons_succ]
      refine E_one (i := 19) rfl (by kernel_rfl) (by rfl) (fun K hK => ?_)
      have hfr := (hb3.frozen (p := ⟨L, 0, none⟩) hLz).trans HFr
      obtain qc := held _ hb3
      go_simp
      refine hK.out _ _ (fun h => absurd rfl h) ?_
      clear hK K
      try simp only [Act.put, List.setIfInBounds_toArray, List.set_cons_zero, List.set_cons_succ]
      refine E_done (by kernel_rfl) ?_ _
      go_wp2_with fail
      all_goals (
      go_meet
      have hLb := (hb3.block L hLz).trans hL1
      have hw5 := ownsRow_setCell_below ho3 (a := ⟨L, 0, none⟩) hLz (.slice A3 (R) c3)
      exact ⟨A3, c3, set_at (o := 0) hLb, by rw [List.nil_append] at hw5; exact hw5, grown_set (below_grown hb3 rfl) _⟩)
  case rest =>
    obtain ⟨A5, c5, hLx, hox, hgx⟩ := hcut
    have hvv : wc.ownsRow B 24 1 vv vs.length (u64s vs) := own_stay HL1.out.vals (fun q hq => hgx.block q (own_lt HL1.out.vals q hq) (fun e => by have := own_ge HL1.out.vals q hq; have := HL1.out.base; cases e; omega))
    have hBw : B ≤ w1.heap.size := by omega
    have hwc := hgx.size
    have HGX : Hid (w1.grownBy wc (some L)) := hgx
    have hvl : vs.length = N := by rw [HL.out.len, HN.out]
    have HF := row_form hvv
    obtain ⟨A, cc, rfl, hc1, hc2, hsA⟩ := vals_own hvv
    clear HFr dc hgx hpz hvv
    replace hL1 := hLx
    have hLz2 : L < wc.heap.size := by omega
    have HFr : wc.frozen? ⟨L, 1, none⟩ = false := by simp only [World.frozen?, hL1]; simp
    have dc : wc.cell? ⟨L, 1, none⟩ = some (.slice A vs.length cc) := by simp only [World.cell?, hL1]; rfl
    rw [hvl] at dc hc1 HF
    have hLw := hLz
    clear hLz
    have hLz := hLz2
    have e1 : (0 : Int) ≤ (i : Int) := by omega
    have e2 : (i : Int) ≤ (N : Int) := by omega
    have e3 : (i : Int) ≤ (cc : Int) := by omega
    have e4 : (N : Int) ≤ (cc : Int) := by omega
    have e5 : (0 : Int) ≤ (j : Int) := by omega
    have e6 : (j : Int) ≤ (N : Int) := by omega
    have e7 : IntKind.i64.wrap (j : Int) = (j : Int) := by rw [IntKind.wrap_i64]; omega
    have e8 : (i : Int) + 1 = (j : Int) := by omega
    have hl1 : (vs.take i).length = i := by rw [List.length_take, hvl]; omega
    have hl2 : (vs.drop j).length = N - j := by rw [List.length_drop, hvl]
    obtain ⟨m2, hm2⟩ : ∃ m, N - j = m := ⟨_, rfl⟩
    rw [hm2] at hl2
    obtain ⟨i0, hi0⟩ : ∃ x, x = i := ⟨_, rfl⟩
    obtain ⟨N0, hN0⟩ : ∃ x, x = N := ⟨_, rfl⟩
    obtain ⟨R0, hR0⟩ : ∃ x, x = R := ⟨_, rfl⟩
    rw [← hi0, ← hR0] at hox
    rw [← hR0] at hL1
    have HI := Lib.hid hi0
    have HN2 := Lib.hid hN0
    have HR : Hid (R0 = N - 1 ∧ i < N ∧ j = i + 1 ∧ R0 = R) := by exact ⟨by omega, by omega, by omega, hR0⟩
    clear hR0 hi0 hN0
    go_wp2_with fail
    rcases HF with ⟨e, n0⟩ | ⟨g, c, e, hgc, hcm, hgB⟩
    · exfalso; omega
    · cases e
      have hy1 := vals_take hsA i
      have hy2 : ValsAt wc (if cc = j then some ⟨g, 0, none⟩ else some ⟨g, j, none⟩) (vs.drop j) := by
        split
        · exact fun h => by omega
        · have := vals_drop hsA j
          rwa [Nat.zero_add] at this
      have hn2 : (if cc = j then some (⟨g, 0, none⟩ : Addr) else some ⟨g, j, none⟩) = none → m2 = 0 ∧ cc - j = 0 := by split <;> simp
      have hn1 : (some (⟨g, 0, none⟩ : Addr) = none → i = 0 ∧ cc = 0) := fun e => by cases e
      generalize vs.take i = y1 at *
      generalize vs.drop j = y2 at *
      have held : ∀ X, Below wc.heap.size wc X → (fun w' => w'.cell? ⟨L, 1, none⟩ = some (.slice (some ⟨g, 0, none⟩) N cc)) X := fun X hX => (hX.cell (p := ⟨L, 1, none⟩) hLz).trans dc
      have hb0 : Below wc.heap.size wc wc.drew := bel_drewN _ _ (n := 1)
      refine E_start 19 (fun w' => w'.cell? ⟨L, 1, none⟩ = some (.slice (some ⟨g, 0, none⟩) N cc)) (by kernel_rfl) ?_
      generalize World.drew wc = X0 at *
      refine E_take (i := 0) (v := ?_) [0] rfl (by kernel_rfl) (by kernel_rfl) (by kernel_rfl) (by kernel_rfl) (by kernel_rfl) rfl (fun _ _ _ h => h) (Or.inl ⟨by rfl, ?_⟩) (held _ hb0) ?_
      rotate_left
      · (intro w' hSw; (try dsimp only at hSw); go_simp <;> (with_reducible rfl))
      try simp only [Act.put, List.setIfInBounds_toArray, List.set_cons_zero, List.set_cons_succ]
      refine E_take (i := 2) (v := ?_) [2] rfl (by kernel_rfl) (by kernel_rfl) (by kernel_rfl) (by kernel_rfl) (by kernel_rfl) rfl (fun _ _ _ h => h) (Or.inl ⟨by rfl, ?_⟩) (held _ hb0) ?_
      rotate_left
      · (intro w' hSw; (try dsimp only at hSw); go_simp <;> (with_reducible rfl))
      try simp only [Act.put, List.setIfInBounds_toArray, List.set_cons_zero, List.set_cons_succ]
      refine E_take (i := 3) (v := ?_) [3] rfl (by kernel_rfl) (by kernel_rfl) (by kernel_rfl) (by kernel_rfl) (by kernel_rfl) rfl (fun _ _ _ h => h) (Or.inl ⟨by rfl, ?_⟩) (held _ hb0) ?_
      rotate_left
      · (intro w' hSw; (try dsimp only at hSw); go_simp <;> (with_reducible rfl))
      try simp only [Act.put, List.setIfInBounds_toArray, List.set_cons_zero, List.set_cons_succ]
      refine E_take (i := 4) (v := ?_) [4] rfl (by kernel_rfl) (by kernel_rfl) (by kernel_rfl) (by kernel_rfl) (by kernel_rfl) rfl (fun _ _ _ h => h) (Or.inl ⟨by rfl, ?_⟩) (held _ hb0) ?_
      rotate_left
      · (intro w' hSw; (try dsimp only at hSw); go_simp <;> (with_reducible rfl))
      try simp only [Act.put, List.setIfInBounds_toArray, List.set_cons_zero, List.set_cons_succ]
      refine E_take (i := 5) (v := ?_) [5] rfl (by kernel_rfl) (by kernel_rfl) (by kernel_rfl) (by kernel_rfl) (by kernel_rfl) rfl (fun _ _ _ h => h) (Or.inl ⟨by rfl, ?_⟩) (held _ hb0) ?_
      rotate_left
      · (intro w' hSw; (try dsimp only at hSw); go_simp <;> (with_reducible rfl))
      try simp only [Act.put, List.setIfInBounds_toArray, List.set_cons_zero, List.set_cons_succ]
      refine E_take (i := 6) (v := ?_) [6] rfl (by kernel_rfl) (by kernel_rfl) (by kernel_rfl) (by kernel_rfl) (by kernel_rfl) rfl (fun _ _ _ h => h) (Or.inl ⟨by rfl, ?_⟩) (held _ hb0) ?_
      rotate_left
      · (intro w' hSw; (try dsimp only at hSw); go_simp <;> (with_reducible rfl))
      try simp only [Act.put, List.setIfInBounds_toArray, List.set_cons_zero, List.set_cons_succ]
      refine E_take (i := 7) (v := ?_) [7] rfl (by kernel_rfl) (by kernel_rfl) (by kernel_rfl) (by kernel_rfl) (by kernel_rfl) rfl (fun _ _ _ h => h) (Or.inl ⟨by rfl, ?_⟩) (held _ hb0) ?_
      rotate_left
      · (intro w' hSw; (try dsimp only at hSw); go_simp <;> (with_reducible rfl))
      try simp only [Act.put, List.setIfInBounds_toArray, List.set_cons_zero, List.set_cons_succ]
      refine E_take (i := 9) (v := ?_) [9] rfl (by kernel_rfl) (by kernel_rfl) (by kernel_rfl) (by kernel_rfl) (by kernel_rfl) rfl (fun _ _ _ h => h) (Or.inl ⟨by rfl, ?_⟩) (held _ hb0) ?_
      rotate_left
      · (intro w' hSw; (try dsimp only at hSw); go_simp <;> (with_reducible rfl))
      try simp only [Act.put, List.setIfInBounds_toArray, List.set_cons_zero, List.set_cons_succ]
      refine E_take (i := 10) (v := ?_) [10] rfl (by kernel_rfl) (by kernel_rfl) (by kernel_rfl) (by kernel_rfl) (by kernel_rfl) rfl (fun _ _ _ h => h) (Or.inl ⟨by rfl, ?_⟩) (held _ hb0) ?_
      rotate_left
      · (intro w' hSw; (try dsimp only at hSw); go_simp <;> (with_reducible rfl))
      try simp only [Act.put, List.setIfInBounds_toArray, List.set_cons_zero, List.set_cons_succ]
      refine E_take (i := 11) (v := ?_) [11] rfl (by kernel_rfl) (by kernel_rfl) (by kernel_rfl) (by kernel_rfl) (by kernel_rfl) rfl (fun _ _ _ h => h) (Or.inl ⟨by rfl, ?_⟩) (held _ hb0) ?_
      rotate_left
      · (intro w' hSw; (try dsimp only at hSw); go_simp <;> (with_reducible rfl))
      try simp only [Act.put, List.setIfInBounds_toArray, List.set_cons_zero, List.set_cons_succ]
      refine E_take (i := 12) (v := ?_) [12] rfl (by kernel_rfl) (by kernel_rfl) (by kernel_rfl) (by kernel_rfl) (by kernel_rfl) rfl (fun _ _ _ h => h) (Or.inl ⟨by rfl, ?_⟩) (held _ hb0) ?_
      rotate_left
      · (intro w' hSw; (try dsimp only at hSw); go_simp <;> (with_reducible rfl))
      try simp only [Act.put, List.setIfInBounds_toArray, List.set_cons_zero, List.set_cons_succ]
      refine E_take (i := 13) (v := ?_) [13] rfl (by kernel_rfl) (by kernel_rfl) (by kernel_rfl) (by kernel_rfl) (by kernel_rfl) rfl (fun _ _ _ h => h) (Or.inl ⟨by rfl, ?_⟩) (held _ hb0) ?_
      rotate_left
      · (intro w' hSw; (try dsimp only at hSw); go_simp <;> (with_reducible rfl))
      try simp only [Act.put, List.setIfInBounds_toArray, List.set_cons_zero, List.set_cons_succ]
      refine E_take (i := 14) (v := ?_) [14] rfl (by kernel_rfl) (by kernel_rfl) (by kernel_rfl) (by kernel_rfl) (by kernel_rfl) rfl (fun _ _ _ h => h) (Or.inl ⟨by rfl, ?_⟩) (held _ hb0) ?_
      rotate_left
      · (intro w' hSw; (try dsimp only at hSw); go_simp <;> (with_reducible rfl))
      try simp only [Act.put, List.setIfInBounds_toArray, List.set_cons_zero, List.set_cons_succ]
      refine E_take (i := 15) (v := ?_) [15] rfl (by kernel_rfl) (by kernel_rfl) (by kernel_rfl) (by kernel_rfl) (by kernel_rfl) rfl (fun _ _ _ h => h) (Or.inl ⟨by rfl, ?_⟩) (held _ hb0) ?_
      rotate_left
      · (intro w' hSw; (try dsimp only at hSw); go_simp <;> (with_reducible rfl))
      try simp only [Act.put, List.setIfInBounds_toArray, List.set_cons_zero, List.set_cons_succ]
      refine E_one (i := 1) rfl (by kernel_rfl) (by rfl) (fun K hK => ?_)
      go_simp
      have ho1 := own_base (empty_own X0 24 1 (by decide)) hb0.size
      have hb1 := hb0.alloc hb0.size (.cells #[] 24)
      have hz1 := Lib.hid (World.size_alloc X0 (.cells #[] 24))
      generalize hX1 : World.alloc X0 (.cells #[] 24) = X1 at *
      refine hK.out _ _ (fun _ => held _ hb1) ?_
      clear hK K
      try simp only [Act.put, List.setIfInBounds_toArray, List.set_cons_zero, List.set_cons_succ]
      refine E_one (i := 8) rfl (by kernel_rfl) (by rfl) (fun K hK => ?_)
      refine app_U (.tmp 35) (.tmp 41) rfl wc.heap.size _ (0) ([]) (by rfl) ho1 _ (i) _ (y1) (by rfl) hl1 (hy1.below hb1) hn1 (i) (by omega) (by omega) hb1.size ?_
      intro A2 c2 X2 ho2 hg2 ha2 hc2
      have hb2 := hb1.trans hc2
      refine hK.out _ _ (fun _ => held _ hb2) ?_
      clear hK K
      try simp only [Act.put, List.setIfInBounds_toArray, List.set_cons_zero, List.set_cons_succ]
      refine E_one (i := 16) rfl (by kernel_rfl) (by rfl) (fun K hK => ?_)
      refine app_U (.tmp 42) (.tmp 49) rfl wc.heap.size _ (i) ([] ++ y1) (by rfl) ho2 _ (m2) _ (y2) (by rfl) hl2 (hy2.below hb2) hn2 (R) (by omega) (by omega) hb2.size ?_
      intro A3 c3 X3 ho3 hg3 ha3 hc3
      have hb3 := hb2.trans hc3
      refine hK.out _ _ (fun _ => held _ hb3) ?_
      clear hK K
      try simp only [Act.put, List.setIfInBounds_toArray, List.set_cons_zero, List.set_cons_succ]
      refine E_take (i := 17) (v := ?_) [18, 17] rfl (by kernel_rfl) (by kernel_rfl) (by kernel_rfl) (by kernel_rfl) (by kernel_rfl) rfl (fun _ _ _ h => h) (Or.inl ⟨by rfl, ?_⟩) (held _ hb3) ?_
      rotate_left
      · (intro w' hSw; (try dsimp only at hSw); go_simp <;> (with_reducible rfl))
      try simp only [Act.put, List.setIfInBounds_toArray, List.set_cons_zero, List.set_cons_succ]
      refine E_take (i := 18) (v := ?_) [18] rfl (by kernel_rfl) (by kernel_rfl) (by kernel_rfl) (by kernel_rfl) (by kernel_rfl) rfl (fun _ _ _ h => h) (Or.inl ⟨by rfl, ?_⟩) (held _ hb3) ?_
      rotate_left
      · (intro w' hSw; (try dsimp only at hSw); go_simp <;> (with_reducible rfl))
      try simp only [Act.put, List.setIfInBounds_toArray, List.set_cons_zero, List.set_cons_succ]
      refine E_one (i := 19) rfl (by kernel_rfl) (by rfl) (fun K hK => ?_)
      have hfr := (hb3.frozen (p := ⟨L, 1, none⟩) hLz).trans HFr
      obtain qc := held _ hb3
      go_simp
      refine hK.out _ _ (fun h => absurd rfl h) ?_
      clear hK K
      try simp only [Act.put, List.setIfInBounds_toArray, List.set_cons_zero, List.set_cons_succ]
      refine E_done (by kernel_rfl) ?_ _
      go_wp2_with fail
      all_goals (
      go_ret
      have hLb := (hb3.block L hLz).trans hL1
      have hLs := set_at (o := 1) (v := .slice A3 (R) c3) hLb
      have hw5 := ownsRow_setCell_below ho3 (a := ⟨L, 1, none⟩) hLz (.slice A3 (R) c3)
      rw [List.nil_append] at hw5
      have hox5 := own_stay hox (fun q hq => (set_off (L := L) (o := 1) (.slice A3 (R) c3) (fun e => by have := own_ge hox q hq; omega)).trans (hb3.block q (own_lt hox q hq)))
      have hgf := grown_set (o := 1) (HGX.out.trans (below_grown hb3 rfl)) (.slice A3 (R) c3)
      have hi0 := HI.out
      subst hi0
      have hKS := HKS.out
      have hVS := HVS.out
      have hN2 := HN2.out
      have hN3 := HN.out
      have ek : KS.length = R0 := by rw [← hKS, List.length_append, List.length_take, List.length_drop, hN3]; have := HR.out; omega
      have ev : VS.length = R := by rw [← HVJ.out, List.length_append, hl1, hl2]; have := HR.out; omega
      rw [HKJ.out] at hox5
      rw [HVJ.out] at hw5
      exact ⟨_, _, rfl, ⟨hLs, by rw [ek]; exact own_base hox5 (by omega), by rw [ev]; exact own_base hw5 (by omega), by rw [ek, ev]; exact HR.out.2.2.2.symm, HL1.out.base, fun q hq hq2 => by have := own_lt hox q hq; have := own_ge ho3 q hq2; omega⟩, (below_grown HBW.out hpk).trans hgf⟩)
end Go.Proofs.Ytainljbkejafcaa.N

/- The document's Put where a spot is there; Put and Del on a list of entries. -/
namespace Go.Proofs.Ytainljbkejafcaa.N
open Go.RowKit Go.Proofs.YtainljbkejafcaaW.PrintMore Go.Proofs.YtainljbkejafcaaW.PrintWords
set_option linter.unusedVariables false
set_option linter.unusedSimpArgs false
theorem u64_set {X : World} {B n c g i : Nat} {vs : List Int} (h : X.ownsRow B 24 1 (.slice (some ⟨g, 0, none⟩) n c) n (u64s vs)) (v : Int) :
    (X.setCell ⟨g, i, none⟩ (.int .u64 v)).ownsRow B 24 1 (.slice (some ⟨g, 0, none⟩) n c) n (u64s (vs.set i v)) := by
  obtain ⟨hl, h⟩ := h
  refine ⟨by simpa [u64s] using hl, ?_⟩
  rcases h with ⟨e, _⟩ | ⟨g', cap, cur, e, h1, h2, h3, h4, h5, h6⟩
  · cases e
  · cases e
    refine .inr ⟨g, c, cur.setIfInBounds i (.int .u64 v), rfl, h1, set_at h2, h3, h4, by rw [Array.size_setIfInBounds]; exact h5, ?_⟩
    rw [Array.toList_setIfInBounds, List.take_set, h6]
    simp [u64s, List.map_set]
/-- What stands after the new row is stored in the list. -/
theorem put_row {w1 Wa w2 : World} {N L i : Nat} {v1 kv vv : Value} {vs : List Int} (hown : w2.ownsRow w1.heap.size 24 1 v1 N (u64s vs)) (hgr : Wa.grownBy w2 (some w1.heap.size)) (h0 : 0 < N)
    (hL : Wa.heap[L]? = some (.cells #[kv, vv] 34 (0, 0))) (hLz : L < w1.heap.size) (hwa : w1.heap.size ≤ Wa.heap.size) (hi : i < N) (hvl : vs.length = N) :
    ∃ g2 c2, v1 = .slice (some ⟨g2, 0, none⟩) N c2 ∧ w2.frozen? ⟨L, 1, none⟩ = false ∧ w2.cell? ⟨L, 1, none⟩ = some vv ∧ (w2.setCell ⟨L, 1, none⟩ (.slice (some ⟨g2, 0, none⟩) N c2)).cell? ⟨L, 1, none⟩ = some (.slice (some ⟨g2, 0, none⟩) N c2) ∧
      (w2.setCell ⟨L, 1, none⟩ (.slice (some ⟨g2, 0, none⟩) N c2)).frozen? ⟨g2, i, none⟩ = false ∧ (∃ u, (w2.setCell ⟨L, 1, none⟩ (.slice (some ⟨g2, 0, none⟩) N c2)).cell? ⟨g2, i, none⟩ = some (.int .u64 u)) ∧
      Hid (w1.heap.size ≤ g2) ∧ Hid (∀ v, ((w2.setCell ⟨L, 1, none⟩ (.slice (some ⟨g2, 0, none⟩) N c2)).setCell ⟨g2, i, none⟩ (.int .u64 v)).heap[L]? = some (.cells #[kv, .slice (some ⟨g2, 0, none⟩) N c2] 34 (0, 0)) ∧ ((w2.setCell ⟨L, 1, none⟩ (.slice (some ⟨g2, 0, none⟩) N c2)).setCell ⟨g2, i, none⟩ (.int .u64 v)).ownsRow w1.heap.size 24 1 (.slice (some ⟨g2, 0, none⟩) N c2) N (u64s (vs.set i v)) ∧ Wa.heap.size ≤ ((w2.setCell ⟨L, 1, none⟩ (.slice (some ⟨g2, 0, none⟩) N c2)).setCell ⟨g2, i, none⟩ (.int .u64 v)).heap.size ∧
        ∀ k, k < w1.heap.size → k ≠ L → ((w2.setCell ⟨L, 1, none⟩ (.slice (some ⟨g2, 0, none⟩) N c2)).setCell ⟨g2, i, none⟩ (.int .u64 v)).heap[k]? = Wa.heap[k]?) ∧ Hid (w2.os = Wa.os ∧ w2.tape = Wa.tape ∧ w2.output = Wa.output) := by
  rcases row_form hown with ⟨e, n0⟩ | ⟨g2, c2, rfl, hgc, hcm, hgB⟩
  · omega
  have hLa := (Array.getElem?_eq_some_iff.1 hL).1
  have hL2 := (hgr.block L hLa (fun e => by cases e; omega)).trans hL
  have hown3 := ownsRow_setCell_below hown (a := ⟨L, 1, none⟩) hLz (.slice (some ⟨g2, 0, none⟩) N c2)
  have hL3 := set_at (o := 1) (v := .slice (some ⟨g2, 0, none⟩) N c2) hL2
  refine ⟨g2, c2, rfl, by simp only [World.frozen?, hL2]; simp, by simp only [World.cell?, hL2]; rfl, by simp only [World.cell?, hL3]; rfl, ?_, ?_, hgB, fun v => ⟨?_, u64_set hown3 v, ?_, fun k hk hkL => ?_⟩, hgr.os, hgr.tape, hgr.output⟩
  · rcases hown3.2 with ⟨e, _⟩ | ⟨g', cap, cur, e, h1, h2, h3, h4, h5, h6⟩
    · cases e
    · cases e
      simp only [World.frozen?, h2]; simp
  · have hl3 := hown3.cellAt i (by omega)
    exact ⟨vs[i]'(by omega), by rw [hl3]; simp [u64s, List.getElem?_eq_getElem (show i < vs.length by omega)]⟩
  · rw [set_off _ (show L ≠ g2 by omega)]
    exact hL3
  · simp only [World.setCell, Array.size_modify]
    exact hgr.size
  · rw [set_off _ (show k ≠ g2 by omega), set_off _ hkL]
    exact hgr.block k (Nat.lt_of_lt_of_le hk (by omega)) (fun e => by cases e; omega)
set_option maxHeartbeats 3200000 in
set_option maxRecDepth 100000 in
theorem rput_had {w : World} {L B : Nat} {ks : List Sp} {vs : List Int} {kv vv : Value} (h : ListAt w L B ks vs kv vv) (hB : B ≤ w.heap.size) (k : Sp) (v : Int) (hk : ks.length ≤ 1000) (i : Nat) (hf : findL k ks = (i, true)) (hi : i < ks.length) :
    Calls Try.prog 22 #[.pointer (some ⟨L, 0, none⟩), k.v, .int .u64 v] w (RPut w L B ks (vs.set i v)) := by
  unfold Sp.v
  have HL := Lib.hid h
  have lL := h.lt
  obtain ⟨A, cc, rfl, hc1, hc2, hsA⟩ := spots_own h.keys
  have hp := h.hp
  have HS := Lib.hid hsA
  clear hsA h
  go_enter Try.func22, Try.ntmps22
  go_wp2_with fail
  have hbw : Below w.heap.size w (w.alloc (.cells #[.int .i64 k.br, .int .i64 k.vol, .int .i64 k.blk, .int .u64 k.num] 26)) := (Below.refl _ _).alloc (Nat.le_refl _) _
  generalize w.alloc (.cells #[.int .i64 k.br, .int .i64 k.vol, .int .i64 k.blk, .int .u64 k.num] 26) = W at *
  refine (rfind_at ((hbw.block L lL).trans hp) (HS.out.below hbw) k (by omega)).mono ?_
  rintro e w1 ⟨rfl, hb1⟩
  simp only [hf]
  have HBW : Hid (Below w.heap.size w w1) := hbw.trans (hb1.mono hbw.size)
  have hL1 := (HBW.out.block L lL).trans hp
  have hLz : L < w1.heap.size := (Array.getElem?_eq_some_iff.1 hL1).1
  have HL1 := Lib.hid (HL.out.below HBW.out)
  have hvl : vs.length = ks.length := HL.out.len
  have hBz : B ≤ w1.heap.size := Nat.le_trans hB HBW.out.size
  clear hbw hb1 hp
  obtain ⟨N, hN⟩ : ∃ N, ks.length = N := ⟨_, rfl⟩
  have HN := Lib.hid hN
  rw [hN] at hi hk hc1 hvl hL1
  have hvals := HL1.out.vals
  rw [hvl] at hvals
  rcases row_form hvals with ⟨e, n0⟩ | ⟨g, c, rfl, hgc, hcm, hgB⟩
  · omega
  obtain ⟨i0, hi0, hz0, hz1, hz2⟩ := info_parts infoU
  have fm : 0 + N ≤ maxLen := by simp only [maxLen]; omega
  have fb : (0 + N) * 8 ≤ 140737488355328 := by omega
  have HV := Lib.hid (hvals.alloc (.cells #[] 24))
  have HE := Lib.hid (empty_own w1 24 1 (by decide))
  have hXL : (w1.alloc (.cells #[] 24)).heap[L]? = some (.cells #[.slice A N cc, .slice (some ⟨g, 0, none⟩) N c] 34 (0, 0)) := (Below.heap_alloc w1 (.cells #[] 24) L hLz).trans hL1
  have hXb : Below w1.heap.size w1 (w1.alloc (.cells #[] 24)) := (Below.refl _ _).alloc (Nat.le_refl _) _
  have dc : (w1.alloc (.cells #[] 24)).cell? ⟨L, 1, none⟩ = some (.slice (some ⟨g, 0, none⟩) N c) := by simp only [World.cell?, hXL]; rfl
  have HK := Lib.hid HL1.out.keys
  have Hsz := Lib.hid (World.size_alloc w1 (.cells #[] 24))
  have HW1 : Hid (w1.heap.size ≤ (w1.alloc (.cells #[] 24)).heap.size) := hXb.size
  have HXb := Lib.hid hXb
  have HXL := Lib.hid hXL
  have ho : Hid (∃ q, q = w1.heap.size) := ⟨_, rfl⟩
  clear hvals hL1 hXL hXb
  have e1 : (0 : Int) ≤ (i : Int) := by omega
  have e2 : (i : Int) < (N : Int) := by omega
  have HLz := Lib.hid hLz
  have HBz := Lib.hid hBz
  go_wp2_with (at_builtin; refine list_both rfl (.tmp 16) (.tmp 20) 32 rfl w1.heap.size B 24 i0 (.int .u64 0) 1 8 Try.underlying32 hi0 hz0 hz1 hz2 rfl (by decide) _ _ _ (by rfl) HE.out _ N (u64s vs) (by rfl) HV.out (u64s_one vs) fm fb HW1.out ?_; intro v1 w2 hown1 hgr1 hat1; rw [Nat.zero_add, List.nil_append] at hown1; obtain ⟨g2, c2, rfl, hf1, hf2, hg1, hg2, ⟨u3, hg3⟩, HOwn, HG, HOs⟩ := put_row hown1 hgr1 (by omega) HXL.out HLz.out HW1.out hi hvl; clear hown1 hgr1 hat1 hi0 hz0 hz1 hz2 dc)
  refine bodyPost_ret (v := .tuple #[]) (by rw [results_none rfl]) rfl ?_
  obtain ⟨hL4, hO4, hZ4, hB4⟩ := HG.out v
  have hN1 := HN.out
  have hk1 := HK.out
  have hbd := HL.out.base
  have hX := HXb.out
  have hsz := HBW.out.size
  have hstay : ∀ q, q < w1.heap.size → q ≠ L → _ := fun q hq hqL => (hB4 q hq hqL).trans (hX.block q hq)
  rw [hN1] at hk1
  refine ⟨_, _, rfl, ⟨hL4, ?_, ?_, by rw [List.length_set, hvl, hN1], hbd, fun q hq hq2 => ?_⟩, ?_⟩
  · rw [hN1]
    exact own_stay hk1 (fun q hq => hstay q (own_lt hk1 q hq) (fun e => by have := own_ge hk1 q hq; omega))
  · rw [List.length_set, hvl]
    exact own_base hO4 hBz
  · have := own_lt hk1 q hq
    have := own_ge hO4 q hq2
    omega
  · exact ⟨HOs.out.1.trans (hX.os.trans HBW.out.os), HOs.out.2.1.trans (hX.tape.trans HBW.out.tape), HOs.out.2.2.trans (hX.output.trans HBW.out.output), by have := HW1.out; omega, fun q hq hqL => (hstay q (by omega) (fun e => hqL (by rw [e]))).trans (HBW.out.block q hq)⟩
/-- The list of the entries l. -/
def ListE (w : World) (L : Nat) (l : List Ent) : Prop := ∃ kv vv, ListAt w L (L + 1) (l.map (·.1)) (l.map (·.2)) kv vv
theorem ListE.lt {w : World} {L : Nat} {l : List Ent} (h : ListE w L l) : L < w.heap.size := by obtain ⟨_, _, h⟩ := h; exact h.lt
theorem ListE.below {w w' : World} {L : Nat} {l : List Ent} (h : ListE w L l) (hb : Below w.heap.size w w') : ListE w' L l := by obtain ⟨kv, vv, h⟩ := h; exact ⟨kv, vv, h.below hb⟩
def RPutE (w : World) (L : Nat) (l : List Ent) (e : Ending) (w' : World) : Prop := e = .returned (.tuple #[]) ∧ ListE w' L l ∧ w.grownBy w' (some L)
theorem rput_at {w : World} {L : Nat} {l : List Ent} (h : ListE w L l) (k : Sp) (v : Int) (hl : l.length ≤ 1000) :
    Calls Try.prog 22 #[.pointer (some ⟨L, 0, none⟩), k.v, .int .u64 v] w (RPutE w L (insE k v l)) := by
  have hz := h.lt
  obtain ⟨kv, vv, h⟩ := h
  have hle := findL_le k (l.map (·.1))
  have hhas := findL_has k l
  cases hh : hasE k l with
  | true =>
    obtain ⟨e1, e2⟩ := insE_had k v l hh
    have hlt := findL_lt k (l.map (·.1)) (by rw [hhas, hh])
    refine (rput_had h hz k v (by rw [List.length_map]; exact hl) _ (Prod.ext rfl (hhas.trans hh)) hlt).mono fun e w' hp => ?_
    obtain ⟨kv', vv', a, b, c⟩ := hp
    exact ⟨a, ⟨kv', vv', by rw [e1, e2]; exact b⟩, c⟩
  | false =>
    obtain ⟨e1, e2⟩ := insE_new k v l hh
    refine (rput_new h hz k v (by rw [List.length_map]; exact hl) _ (Prod.ext rfl (hhas.trans hh)) hle).mono fun e w' hp => ?_
    obtain ⟨kv', vv', a, b, c⟩ := hp
    exact ⟨a, ⟨kv', vv', by rw [e1, e2]; exact b⟩, c⟩
def RDelE (w : World) (L : Nat) (k : Sp) (l : List Ent) (e : Ending) (w' : World) : Prop := e = .returned (.bool (hasE k l)) ∧ ListE w' L (delE k l) ∧ w.grownBy w' (some L)
theorem rdel_at {w : World} {L : Nat} {l : List Ent} (h : ListE w L l) (k : Sp) (hl : l.length ≤ 1000) :
    Calls Try.prog 59 #[.pointer (some ⟨L, 0, none⟩), k.v] w (RDelE w L k l) := by
  have hz := h.lt
  obtain ⟨kv, vv, h⟩ := h
  have hhas := findL_has k l
  cases hh : hasE k l with
  | true =>
    obtain ⟨e1, e2⟩ := delE_had k l hh
    have hlt := findL_lt k (l.map (·.1)) (by rw [hhas, hh])
    refine (rdel_yes h hz k (by rw [List.length_map]; exact hl) _ (Prod.ext rfl (hhas.trans hh)) hlt).mono fun e w' hp => ?_
    obtain ⟨kv', vv', a, b, c⟩ := hp
    exact ⟨by rw [hh]; exact a, ⟨kv', vv', by rw [e1, e2]; exact b⟩, c⟩
  | false =>
    refine (rdel_no h k (by rw [List.length_map]; exact hl) _ (Prod.ext rfl (hhas.trans hh))).mono fun e w' hp => ?_
    obtain ⟨kv', vv', a, b, c⟩ := hp
    exact ⟨by rw [hh]; exact a, ⟨kv', vv', by rw [delE_none hh]; exact b⟩, c⟩
end Go.Proofs.Ytainljbkejafcaa.N

/- A tree stays where a list changes; a tree is not high. -/
namespace Go.Proofs.Ytainljbkejafcaa.N
open Go.RowKit Go.Proofs.YtainljbkejafcaaW.PrintMore Go.Proofs.YtainljbkejafcaaW.PrintWords
set_option linter.unusedVariables false
set_option linter.unusedSimpArgs false
/-- The block of a list. -/
def LBlock (w : World) (L : Nat) : Prop := ∃ a n c a' n' c', w.heap[L]? = some (.cells #[.slice a n c, .slice a' n' c'] 34 (0, 0))
theorem ListE.block {w : World} {L : Nat} {l : List Ent} (h : ListE w L l) : LBlock w L := by
  obtain ⟨kv, vv, h⟩ := h
  have hp := h.hp
  rcases row_form h.keys with ⟨e, _⟩ | ⟨g, c, e, _⟩ <;> rcases row_form h.vals with ⟨e', _⟩ | ⟨g', c', e', _⟩ <;> subst e e' <;> exact ⟨_, _, _, _, _, _, hp⟩
theorem cell_apart {w : World} {L b off : Nat} {v : Value} (hL : LBlock w L) (h : w.cell? ⟨b, off, none⟩ = some v) (hv : ∀ a n c, v ≠ .slice a n c) : b ≠ L := by
  rintro rfl
  obtain ⟨a, n, c, a', n', c', hp⟩ := hL
  simp only [World.cell?, hp] at h
  match off with
  | 0 => exact hv a n c (by simpa using h.symm)
  | 1 => exact hv a' n' c' (by simpa using h.symm)
  | k + 2 => simp at h
theorem node_apart {w : World} {L p : Nat} {x y z : Value} (hL : LBlock w L) (h : w.heap[p]? = some (.cells #[x, y, z] 39 (0, 0))) : p ≠ L := by
  rintro rfl
  obtain ⟨a, n, c, a', n', c', hp⟩ := hL
  rw [hp] at h
  simp at h
section
variable {w w' : World} {L : Nat} (hL : LBlock w L) (hg : w.grownBy w' (some L))
include hL hg
theorem cell_grown {b off : Nat} {v : Value} (hb : b < w.heap.size) (h : w.cell? ⟨b, off, none⟩ = some v) (hv : ∀ a n c, v ≠ .slice a n c) : w'.cell? ⟨b, off, none⟩ = some v :=
  (World.cell?_of_block (hg.block b hb (fun e => cell_apart hL h hv (by injection e)))).trans h
theorem SpotsAt.grownL {A : Option Addr} {l : List Sp} (h : SpotsAt w A l) : SpotsAt w' A l := fun hl => by
  obtain ⟨b, off, e, hlt, hc⟩ := h hl
  have hz := hg.size
  exact ⟨b, off, e, by omega, fun j hj => by
    obtain ⟨a0, a1, a2, a3⟩ := hc j hj
    exact ⟨cell_grown hL hg hlt a0 (fun _ _ _ e => by cases e), cell_grown hL hg hlt a1 (fun _ _ _ e => by cases e), cell_grown hL hg hlt a2 (fun _ _ _ e => by cases e), cell_grown hL hg hlt a3 (fun _ _ _ e => by cases e)⟩⟩
theorem ValsAt.grownL {A : Option Addr} {l : List Int} (h : ValsAt w A l) : ValsAt w' A l := fun hl => by
  obtain ⟨b, off, e, hlt, hc⟩ := h hl
  have hz := hg.size
  exact ⟨b, off, e, by omega, fun j hj => cell_grown hL hg hlt (hc j hj) (fun _ _ _ e => by cases e)⟩
theorem KidsAt.grownL {A : Option Addr} {l : List Nat} (h : KidsAt w A l) : KidsAt w' A l := fun hl => by
  obtain ⟨b, off, e, hlt, hc⟩ := h hl
  have hz := hg.size
  exact ⟨b, off, e, by omega, fun j hj => cell_grown hL hg hlt (hc j hj) (fun _ _ _ e => by cases e)⟩
theorem Leaf.grownL {p : Nat} {ks : List Sp} {vs : List Int} (h : Leaf w p ks vs) : Leaf w' p ks vs := by
  obtain ⟨A, ca, B, cb, h⟩ := h
  exact ⟨A, ca, B, cb, { h with hp := (hg.block p h.lt (fun e => node_apart hL h.hp (by injection e))).trans h.hp, keys := h.keys.grownL hL hg, vals := h.vals.grownL hL hg }⟩
theorem Inner.grownL {p : Nat} {ks : List Sp} {qs : List Nat} (h : Inner w p ks qs) : Inner w' p ks qs := by
  obtain ⟨A, ca, B, cb, h⟩ := h
  exact ⟨A, ca, B, cb, { h with hp := (hg.block p h.lt (fun e => node_apart hL h.hp (by injection e))).trans h.hp, keys := h.keys.grownL hL hg, kids := h.kids.grownL hL hg }⟩
theorem Nd.grownL : ∀ {h p n : Nat} {l : List Ent}, Nd w h p l n → Nd w' h p l n
  | 0, p, n, l, hn => ⟨hn.1, hn.2.grownL hL hg⟩
  | h + 1, p, n, l, hn => by
    obtain ⟨qs, ls, a, b, c, d⟩ := nd_succ.1 hn
    exact nd_succ.2 ⟨qs, ls, a, b, c.grownL hL hg, d.imp (fun q m hk => by obtain ⟨s, s1, s2, s3⟩ := hk; exact ⟨s, s1, s2, Nd.grownL s3⟩)⟩
theorem RootAt.grownL {r : Option Addr} {l : List Ent} (h : RootAt w r l) : RootAt w' r l := by
  rcases h with h | ⟨q, h, n, a, b, c⟩
  · exact .inl h
  · exact .inr ⟨q, h, n, a, b.grownL hL hg, c⟩
end
theorem all2_sum {w : World} {h : Nat} (ih : ∀ {p n : Nat} {l : List Ent}, Nd w h p l n → 0 < n → (0 < h → 2 ≤ n) → 2 ^ h ≤ l.length) : ∀ {qs : List Nat} {ls : List (List Ent)}, All2 (Kid w h 2) qs ls → ls.length * 2 ^ h ≤ ls.flatten.length
  | [], [], _ => by simp
  | q :: qs, l :: ls, hk => by
    obtain ⟨⟨s, s1, s2, s3⟩, ht⟩ := hk
    have a := ih s3 (by omega) (fun _ => s1)
    have b := all2_sum (fun {p n l} => @ih p n l) ht
    rw [List.flatten_cons, List.length_append, List.length_cons, Nat.succ_mul]
    omega
  | [], _ :: _, hk => hk.elim
  | _ :: _, [], hk => hk.elim
theorem Nd.high {w : World} : ∀ {h p n : Nat} {l : List Ent}, Nd w h p l n → 0 < n → (0 < h → 2 ≤ n) → 2 ^ h ≤ l.length
  | 0, p, n, l, hn, h0, _ => by have := hn.1; simp; omega
  | h + 1, p, n, l, hn, h0, h2 => by
    obtain ⟨qs, ls, a, b, c, d⟩ := nd_succ.1 hn
    have hs := all2_sum (fun {p n l} (x : Nd w h p l n) y z => Nd.high x y z) d
    have := d.length
    have h2' := h2 (by omega)
    have hm : 2 * 2 ^ h ≤ ls.length * 2 ^ h := Nat.mul_le_mul_right _ (by omega)
    rw [b, Nat.pow_succ]
    omega
end Go.Proofs.Ytainljbkejafcaa.N
