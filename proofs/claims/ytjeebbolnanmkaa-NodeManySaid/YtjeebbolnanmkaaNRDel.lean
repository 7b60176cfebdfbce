/- The document's Del: where a spot is there. -/
import Derived.Test.YtjeebbolnanmkaaNRPut
namespace Go.Proofs.Ytjeebbolnanmkaa.N
open Go.RowKit Go.Proofs.YtjeebbolnanmkaaW.PrintMore Go.Proofs.YtjeebbolnanmkaaW.PrintWords
set_option linter.unusedVariables false
set_option linter.unusedSimpArgs false
def RDelP (w : World) (L B : Nat) (b : Bool) (ks : List Sp) (vs : List Int) (e : Ending) (w' : World) : Prop := ∃ kv vv, e = .returned (.bool b) ∧ ListAt w' L B ks vs kv vv ∧ w.grownBy w' (some L)
set_option maxHeartbeats 3200000 in
set_option maxRecDepth 100000 in
theorem rdel_no {w : World} {L B : Nat} {ks : List Sp} {vs : List Int} {kv vv : Value} (h : ListAt w L B ks vs kv vv) (k : Sp) (hk : ks.length ≤ 1000) (i : Nat) (hf : findL k ks = (i, false)) :
    Calls Try.prog 30 #[.pointer (some ⟨L, 0, none⟩), k.v] w (RDelP w L B false ks vs) := by
  unfold Sp.v
  have HL := Lib.hid h
  have lL := h.lt
  obtain ⟨A, cc, rfl, hc1, hc2, hsA⟩ := spots_own h.keys
  have hp := h.hp
  have HS := Lib.hid hsA
  clear hsA h
  go_enter Try.func30, Try.ntmps30
  go_wp2_with fail
  have hbw : Below w.heap.size w (w.alloc (.cells #[.int .i64 k.br, .int .i64 k.vol, .int .i64 k.blk, .int .u64 k.num] 26)) := (Below.refl _ _).alloc (Nat.le_refl _) _
  generalize w.alloc (.cells #[.int .i64 k.br, .int .i64 k.vol, .int .i64 k.blk, .int .u64 k.num] 26) = W at *
  refine (rfind_at ((hbw.block L lL).trans hp) (HS.out.below hbw) k (by omega)).mono ?_
  rintro e w1 ⟨rfl, hb1⟩
  simp only [hf]
  have HBW : Hid (Below w.heap.size w w1) := hbw.trans (hb1.mono hbw.size)
  clear hbw hb1
  go_wp2_with fail
  go_ret
  exact ⟨_, _, rfl, HL.out.below HBW.out, below_grown HBW.out rfl⟩
set_option maxHeartbeats 3200000 in
set_option maxRecDepth 100000 in
theorem rdel_yes {w : World} {L B : Nat} {ks : List Sp} {vs : List Int} {kv vv : Value} (h : ListAt w L B ks vs kv vv) (hB : B ≤ w.heap.size) (k : Sp) (hk : ks.length ≤ 1000) (i : Nat) (hf : findL k ks = (i, true)) (hi : i < ks.length) :
    Calls Try.prog 30 #[.pointer (some ⟨L, 0, none⟩), k.v] w (RDelP w L B true (ks.take i ++ ks.drop (i + 1)) (vs.take i ++ vs.drop (i + 1))) := by
  unfold Sp.v
  obtain ⟨KS, hKS⟩ : ∃ KS, ks.take i ++ ks.drop (i + 1) = KS := ⟨_, rfl⟩
  obtain ⟨VS, hVS⟩ : ∃ VS, vs.take i ++ vs.drop (i + 1) = VS := ⟨_, rfl⟩
  rw [hKS, hVS]
  have HKS := Lib.hid hKS
  have HVS := Lib.hid hVS
  clear hKS hVS
  have HL := Lib.hid h
  have lL := h.lt
  obtain ⟨A, cc, rfl, hc1, hc2, hsA⟩ := spots_own h.keys
  have hp := h.hp
  have HS := Lib.hid hsA
  clear hsA h
  go_enter Try.func30, Try.ntmps30
  go_wp2_with fail
  have hbw : Below w.heap.size w (w.alloc (.cells #[.int .i64 k.br, .int .i64 k.vol, .int .i64 k.blk, .int .u64 k.num] 26)) := (Below.refl _ _).alloc (Nat.le_refl _) _
  have zk : w.heap.size < (w.alloc (.cells #[.int .i64 k.br, .int .i64 k.vol, .int .i64 k.blk, .int .u64 k.num] 26)).heap.size := by simp
  generalize w.alloc (.cells #[.int .i64 k.br, .int .i64 k.vol, .int .i64 k.blk, .int .u64 k.num] 26) = W at *
  refine (rfind_at ((hbw.block L lL).trans hp) (HS.out.below hbw) k (by omega)).mono ?_
  rintro e w1 ⟨rfl, hb1⟩
  simp only [hf]
  have hpz : w.heap.size < w1.heap.size := Nat.lt_of_lt_of_le zk hb1.size
  have HBW : Hid (Below w.heap.size w w1) := hbw.trans (hb1.mono hbw.size)
  have hL1 := (HBW.out.block L lL).trans hp
  have hLz : L < w1.heap.size := by omega
  have HL1 := Lib.hid (HL.out.below HBW.out)
  have HS1 := Lib.hid (HS.out.below HBW.out)
  clear hbw hb1 zk hp
  generalize hpk : w.heap.size = pk at *
  have HFr : w1.frozen? ⟨L, 0, none⟩ = false := by simp only [World.frozen?, hL1]; simp
  have dc : w1.cell? ⟨L, 0, none⟩ = some (.slice A ks.length cc) := by simp only [World.cell?, hL1]; rfl
  obtain ⟨N, hN⟩ : ∃ N, ks.length = N := ⟨_, rfl⟩
  have HN := Lib.hid hN
  rw [hN] at dc hi hk hc1
  obtain ⟨j, hj⟩ : ∃ j, i + 1 = j := ⟨_, rfl⟩
  obtain ⟨R, hR⟩ : ∃ R, N - 1 = R := ⟨_, rfl⟩
  have HR0 := Lib.hid hR
  have HKJ : Hid (ks.take i ++ ks.drop j = KS) := by rw [← hj]; exact HKS
  have HVJ : Hid (vs.take i ++ vs.drop j = VS) := by rw [← hj]; exact HVS
  go_wp2_with fail
  go_cut [] (fun wx => ∃ A' c', wx.heap[L]? = some (.cells #[.slice A' R c', vv] 34 (0, 0)) ∧ wx.ownsRow w1.heap.size 26 4 (.slice A' R c') R (sps (ks.take i ++ ks.drop j)) ∧ w1.grownBy wx (some L))
  case first =>
    have hsA := HS1.out
    have e1 : (0 : Int) ≤ (i : Int) := by omega
    have e2 : (i : Int) ≤ (N : Int) := by omega
    have e3 : (i : Int) ≤ (cc : Int) := by omega
    have e4 : (N : Int) ≤ (cc : Int) := by omega
    have e5 : (0 : Int) ≤ (j : Int) := by omega
    have e6 : (j : Int) ≤ (N : Int) := by omega
    have e7 : IntKind.i64.wrap (j : Int) = (j : Int) := by rw [IntKind.wrap_i64]; omega
    have e8 : (i : Int) + 1 = (j : Int) := by omega
    have hl1 : (ks.take i).length = i := by rw [List.length_take, HN.out]; omega
    have hl2 : (ks.drop j).length = N - j := by rw [List.length_drop, HN.out]
    obtain ⟨m2, hm2⟩ : ∃ m, N - j = m := ⟨_, rfl⟩
    rw [hm2] at hl2
    rcases row_form HL1.out.keys with ⟨e, n0⟩ | ⟨g, c, e, hgc, hcm, hgB⟩
    · exfalso; have := HN.out; omega
    · cases e
      have hy1 := spots_take hsA i
      have hy2 : SpotsAt w1 (if cc = j then some ⟨g, 0, none⟩ else some ⟨g, j * 4, none⟩) (ks.drop j) := by
        split
        · exact fun h => by omega
        · have := spots_drop hsA j
          rwa [Nat.zero_add] at this
      have hn2 : (if cc = j then some (⟨g, 0, none⟩ : Addr) else some ⟨g, j * 4, none⟩) = none → m2 = 0 ∧ cc - j = 0 := by split <;> simp
      have hn1 : (some (⟨g, 0, none⟩ : Addr) = none → i = 0 ∧ cc = 0) := fun e => by cases e
      generalize ks.take i = y1 at *
      generalize ks.drop j = y2 at *
      have held : ∀ X, Below w1.heap.size w1 X → (fun w' => w'.cell? ⟨L, 0, none⟩ = some (.slice (some ⟨g, 0, none⟩) N cc)) X := fun X hX => (hX.cell (p := ⟨L, 0, none⟩) hLz).trans dc
      have hb0 : Below w1.heap.size w1 w1.drew := bel_drewN _ _ (n := 1)
      refine E_start 19 (fun w' => w'.cell? ⟨L, 0, none⟩ = some (.slice (some ⟨g, 0, none⟩) N cc)) (by kernel_rfl) ?_
      generalize World.drew w1 = X0 at *
      refine E_take (i := 0) (v := ?_) [0] rfl (by kernel_rfl) (by kernel_rfl) (by kernel_rfl) (by kernel_rfl) (by kernel_rfl) rfl (fun _ _ _ h => h) (Or.inl ⟨by rfl, ?_⟩) (held _ hb0) ?_
      rotate_left
      · (intro w' hSw; (try dsimp only at hSw); go_simp <;> (with_reducible rfl))
      try simp only [Act.put, List.setIfInBounds_toArray, List.set_cons_zero, List.set_cons_succ]
      refine E_take (i := 2) (v := ?_) [2] rfl (by kernel_rfl) (by kernel_rfl) (by kernel_rfl) (by kernel_rfl) (by kernel_rfl) rfl (fun _ _ _ h => h) (Or.inl ⟨by rfl, ?_⟩) (held _ hb0) ?_
      rotate_left
      · (intro w' hSw; (try dsimp only at hSw); go_simp <;> (with_reducible rfl))
      try simp only [Act.put, List.setIfInBounds_toArray, List.set_cons_zero, List.set_cons_succ]
      refine E_take (i := 3) (v := ?_) [3] rfl (by kernel_rfl) (by kernel_rfl) (by kernel_rfl) (by kernel_rfl) (by kernel_rfl) rfl (fun _ _ _ h => h) (Or.inl ⟨by rfl, ?_⟩) (held _ hb0) ?_
      rotate_left
      · (intro w' hSw; (try dsimp only at hSw); go_simp <;> (with_reducible rfl))
      try simp only [Act.put, List.setIfInBounds_toArray, List.set_cons_zero, List.set_cons_succ]
      refine E_take (i := 4) (v := ?_) [4] rfl (by kernel_rfl) (by kernel_rfl) (by kernel_rfl) (by kernel_rfl) (by kernel_rfl) rfl (fun _ _ _ h => h) (Or.inl ⟨by rfl, ?_⟩) (held _ hb0) ?_
      rotate_left
      · (intro w' hSw; (try dsimp only at hSw); go_simp <;> (with_reducible rfl))
      try simp only [Act.put, List.setIfInBounds_toArray, List.set_cons_zero, List.set_cons_succ]
      refine E_take (i := 5) (v := ?_) [5] rfl (by kernel_rfl) (by kernel_rfl) (by kernel_rfl) (by kernel_rfl) (by kernel_rfl) rfl (fun _ _ _ h => h) (Or.inl ⟨by rfl, ?_⟩) (held _ hb0) ?_
      rotate_left
      · (intro w' hSw; (try dsimp only at hSw); go_simp <;> (with_reducible rfl))
      try simp only [Act.put, List.setIfInBounds_toArray, List.set_cons_zero, List.set_cons_succ]
      refine E_take (i := 6) (v := ?_) [6] rfl (by kernel_rfl) (by kernel_rfl) (by kernel_rfl) (by kernel_rfl) (by kernel_rfl) rfl (fun _ _ _ h => h) (Or.inl ⟨by rfl, ?_⟩) (held _ hb0) ?_
      rotate_left
      · (intro w' hSw; (try dsimp only at hSw); go_simp <;> (with_reducible rfl))
      try simp only [Act.put, List.setIfInBounds_toArray, List.set_cons_zero, List.set_cons_succ]
      refine E_take (i := 7) (v := ?_) [7] rfl (by kernel_rfl) (by kernel_rfl) (by kernel_rfl) (by kernel_rfl) (by kernel_rfl) rfl (fun _ _ _ h => h) (Or.inl ⟨by rfl, ?_⟩) (held _ hb0) ?_
      rotate_left
      · (intro w' hSw; (try dsimp only at hSw); go_simp <;> (with_reducible rfl))
      try simp only [Act.put, List.setIfInBounds_toArray, List.set_cons_zero, List.set_cons_succ]
      refine E_take (i := 9) (v := ?_) [9] rfl (by kernel_rfl) (by kernel_rfl) (by kernel_rfl) (by kernel_rfl) (by kernel_rfl) rfl (fun _ _ _ h => h) (Or.inl ⟨by rfl, ?_⟩) (held _ hb0) ?_
      rotate_left
      · (intro w' hSw; (try dsimp only at hSw); go_simp <;> (with_reducible rfl))
      try simp only [Act.put, List.setIfInBounds_toArray, List.set_cons_zero, List.set_cons_succ]
      refine E_take (i := 10) (v := ?_) [10] rfl (by kernel_rfl) (by kernel_rfl) (by kernel_rfl) (by kernel_rfl) (by kernel_rfl) rfl (fun _ _ _ h => h) (Or.inl ⟨by rfl, ?_⟩) (held _ hb0) ?_
      rotate_left
      · (intro w' hSw; (try dsimp only at hSw); go_simp <;> (with_reducible rfl))
      try simp only [Act.put, List.setIfInBounds_toArray, List.set_cons_zero, List.set_cons_succ]
      refine E_take (i := 11) (v := ?_) [11] rfl (by kernel_rfl) (by kernel_rfl) (by kernel_rfl) (by kernel_rfl) (by kernel_rfl) rfl (fun _ _ _ h => h) (Or.inl ⟨by rfl, ?_⟩) (held _ hb0) ?_
      rotate_left
      · (intro w' hSw; (try dsimp only at hSw); go_simp <;> (with_reducible rfl))
      try simp only [Act.put, List.setIfInBounds_toArray, List.set_cons_zero, List.set_cons_succ]
      refine E_take (i := 12) (v := ?_) [12] rfl (by kernel_rfl) (by kernel_rfl) (by kernel_rfl) (by kernel_rfl) (by kernel_rfl) rfl (fun _ _ _ h => h) (Or.inl ⟨by rfl, ?_⟩) (held _ hb0) ?_
      rotate_left
      · (intro w' hSw; (try dsimp only at hSw); go_simp <;> (with_reducible rfl))
      try simp only [Act.put, List.setIfInBounds_toArray, List.set_cons_zero, List.set_cons_succ]
      refine E_take (i := 13) (v := ?_) [13] rfl (by kernel_rfl) (by kernel_rfl) (by kernel_rfl) (by kernel_rfl) (by kernel_rfl) rfl (fun _ _ _ h => h) (Or.inl ⟨by rfl, ?_⟩) (held _ hb0) ?_
      rotate_left
      · (intro w' hSw; (try dsimp only at hSw); go_simp <;> (with_reducible rfl))
      try simp only [Act.put, List.setIfInBounds_toArray, List.set_cons_zero, List.set_cons_succ]
      refine E_take (i := 14) (v := ?_) [14] rfl (by kernel_rfl) (by kernel_rfl) (by kernel_rfl) (by kernel_rfl) (by kernel_rfl) rfl (fun _ _ _ h => h) (Or.inl ⟨by rfl, ?_⟩) (held _ hb0) ?_
      rotate_left
      · (intro w' hSw; (try dsimp only at hSw); go_simp <;> (with_reducible rfl))
      try simp only [Act.put, List.setIfInBounds_toArray, List.set_cons_zero, List.set_cons_succ]
      refine E_take (i := 15) (v := ?_) [15] rfl (by kernel_rfl) (by kernel_rfl) (by kernel_rfl) (by kernel_rfl) (by kernel_rfl) rfl (fun _ _ _ h => h) (Or.inl ⟨by rfl, ?_⟩) (held _ hb0) ?_
      rotate_left
      · (intro w' hSw; (try dsimp only at hSw); go_simp <;> (with_reducible rfl))
      try simp only [Act.put, List.setIfInBounds_toArray, List.set_cons_zero, List.set_cons_succ]
      refine E_one (i := 1) rfl (by kernel_rfl) (by rfl) (fun K hK => ?_)
      go_simp
      have ho1 := own_base (empty_own X0 26 4 (by decide)) hb0.size
      have hb1 := hb0.alloc hb0.size (.cells #[] 26)
      have hz1 := Lib.hid (World.size_alloc X0 (.cells #[] 26))
      generalize hX1 : World.alloc X0 (.cells #[] 26) = X1 at *
      refine hK.out _ _ (fun _ => held _ hb1) ?_
      clear hK K
      try simp only [Act.put, List.setIfInBounds_toArray, List.set_cons_zero, List.set_cons_succ]
      refine E_one (i := 8) rfl (by kernel_rfl) (by rfl) (fun K hK => ?_)
      refine app_S (.tmp 16) (.tmp 22) rfl w1.heap.size _ (0) ([]) (by rfl) ho1 _ (i) _ (y1) (by rfl) hl1 (hy1.below hb1) hn1 (i) (by omega) (by omega) hb1.size ?_
      intro A2 c2 X2 ho2 hg2 ha2 hc2
      have hb2 := hb1.trans hc2
      refine hK.out _ _ (fun _ => held _ hb2) ?_
      clear hK K
      try simp only [Act.put, List.setIfInBounds_toArray, List.set_cons_zero, List.set_cons_succ]
      refine E_one (i := 16) rfl (by kernel_rfl) (by rfl) (fun K hK => ?_)
      refine app_S (.tmp 23) (.tmp 30) rfl w1.heap.size _ (i) ([] ++ y1) (by rfl) ho2 _ (m2) _ (y2) (by rfl) hl2 (hy2.below hb2) hn2 (R) (by omega) (by omega) hb2.size ?_
      intro A3 c3 X3 ho3 hg3 ha3 hc3
      have hb3 := hb2.trans hc3
      refine hK.out _ _ (fun _ => held _ hb3) ?_
      clear hK K
      try simp only [Act.put, List.setIfInBounds_toArray, List.set_cons_zero, List.set_cons_succ]
      refine E_take (i := 17) (v := ?_) [18, 17] rfl (by kernel_rfl) (by kernel_rfl) (by kernel_rfl) (by kernel_rfl) (by kernel_rfl) rfl (fun _ _ _ h => h) (Or.inl ⟨by rfl, ?_⟩) (held _ hb3) ?_
      rotate_left
      · (intro w' hSw; (try dsimp only at hSw); go_simp <;> (with_reducible rfl))
      try simp only [Act.put, List.setIfInBounds_toArray, List.set_cons_zero, List.set_cons_succ]
      refine E_take (i := 18) (v := ?_) [18] rfl (by kernel_rfl) (by kernel_rfl) (by kernel_rfl) (by kernel_rfl) (by kernel_rfl) rfl (fun _ _ _ h => h) (Or.inl ⟨by rfl, ?_⟩) (held _ hb3) ?_
      rotate_left
      · (intro w' hSw; (try dsimp only at hSw); go_simp <;> (with_reducible rfl))
      try simp only [Act.put, List.setIfInBounds_toArray, List.set_cons_zero, List.set_cons_succ]
      refine E_one (i := 19) rfl (by kernel_rfl) (by rfl) (fun K hK => ?_)
      have hfr := (hb3.frozen (p := ⟨L, 0, none⟩) hLz).trans HFr
      obtain qc := held _ hb3
      go_simp
      refine hK.out _ _ (fun h => absurd rfl h) ?_
      clear hK K
      try simp only [Act.put, List.setIfInBounds_toArray, List.set_cons_zero, List.set_cons_succ]
      refine E_done (by kernel_rfl) ?_ _
      go_wp2_with fail
      all_goals (
      go_meet
      have hLb := (hb3.block L hLz).trans hL1
      have hw5 := ownsRow_setCell_below ho3 (a := ⟨L, 0, none⟩) hLz (.slice A3 (R) c3)
      exact ⟨A3, c3, set_at (o := 0) hLb, by rw [List.nil_append] at hw5; exact hw5, grown_set (below_grown hb3 rfl) _⟩)
  case rest =>
    obtain ⟨A5, c5, hLx, hox, hgx⟩ := hcut
    have hvv : wc.ownsRow B 24 1 vv vs.length (u64s vs) := own_stay HL1.out.vals (fun q hq => hgx.block q (own_lt HL1.out.vals q hq) (fun e => by have := own_ge HL1.out.vals q hq; have := HL1.out.base; cases e; omega))
    have hBw : B ≤ w1.heap.size := by omega
    have hwc := hgx.size
    have HGX : Hid (w1.grownBy wc (some L)) := hgx
    have hvl : vs.length = N := by rw [HL.out.len, HN.out]
    have HF := row_form hvv
    obtain ⟨A, cc, rfl, hc1, hc2, hsA⟩ := vals_own hvv
    clear HFr dc hgx hpz hvv
    replace hL1 := hLx
    have hLz2 : L < wc.heap.size := by omega
    have HFr : wc.frozen? ⟨L, 1, none⟩ = false := by simp only [World.frozen?, hL1]; simp
    have dc : wc.cell? ⟨L, 1, none⟩ = some (.slice A vs.length cc) := by simp only [World.cell?, hL1]; rfl
    rw [hvl] at dc hc1 HF
    have hLw := hLz
    clear hLz
    have hLz := hLz2
    have e1 : (0 : Int) ≤ (i : Int) := by omega
    have e2 : (i : Int) ≤ (N : Int) := by omega
    have e3 : (i : Int) ≤ (cc : Int) := by omega
    have e4 : (N : Int) ≤ (cc : Int) := by omega
    have e5 : (0 : Int) ≤ (j : Int) := by omega
    have e6 : (j : Int) ≤ (N : Int) := by omega
    have e7 : IntKind.i64.wrap (j : Int) = (j : Int) := by rw [IntKind.wrap_i64]; omega
    have e8 : (i : Int) + 1 = (j : Int) := by omega
    have hl1 : (vs.take i).length = i := by rw [List.length_take, hvl]; omega
    have hl2 : (vs.drop j).length = N - j := by rw [List.length_drop, hvl]
    obtain ⟨m2, hm2⟩ : ∃ m, N - j = m := ⟨_, rfl⟩
    rw [hm2] at hl2
    obtain ⟨i0, hi0⟩ : ∃ x, x = i := ⟨_, rfl⟩
    obtain ⟨N0, hN0⟩ : ∃ x, x = N := ⟨_, rfl⟩
    obtain ⟨R0, hR0⟩ : ∃ x, x = R := ⟨_, rfl⟩
    rw [← hi0, ← hR0] at hox
    rw [← hR0] at hL1
    have HI := Lib.hid hi0
    have HN2 := Lib.hid hN0
    have HR : Hid (R0 = N - 1 ∧ i < N ∧ j = i + 1 ∧ R0 = R) := by exact ⟨by omega, by omega, by omega, hR0⟩
    clear hR0 hi0 hN0
    go_wp2_with fail
    rcases HF with ⟨e, n0⟩ | ⟨g, c, e, hgc, hcm, hgB⟩
    · exfalso; omega
    · cases e
      have hy1 := vals_take hsA i
      have hy2 : ValsAt wc (if cc = j then some ⟨g, 0, none⟩ else some ⟨g, j, none⟩) (vs.drop j) := by
        split
        · exact fun h => by omega
        · have := vals_drop hsA j
          rwa [Nat.zero_add] at this
      have hn2 : (if cc = j then some (⟨g, 0, none⟩ : Addr) else some ⟨g, j, none⟩) = none → m2 = 0 ∧ cc - j = 0 := by split <;> simp
      have hn1 : (some (⟨g, 0, none⟩ : Addr) = none → i = 0 ∧ cc = 0) := fun e => by cases e
      generalize vs.take i = y1 at *
      generalize vs.drop j = y2 at *
      have held : ∀ X, Below wc.heap.size wc X → (fun w' => w'.cell? ⟨L, 1, none⟩ = some (.slice (some ⟨g, 0, none⟩) N cc)) X := fun X hX => (hX.cell (p := ⟨L, 1, none⟩) hLz).trans dc
      have hb0 : Below wc.heap.size wc wc.drew := bel_drewN _ _ (n := 1)
      refine E_start 19 (fun w' => w'.cell? ⟨L, 1, none⟩ = some (.slice (some ⟨g, 0, none⟩) N cc)) (by kernel_rfl) ?_
      generalize World.drew wc = X0 at *
      refine E_take (i := 0) (v := ?_) [0] rfl (by kernel_rfl) (by kernel_rfl) (by kernel_rfl) (by kernel_rfl) (by kernel_rfl) rfl (fun _ _ _ h => h) (Or.inl ⟨by rfl, ?_⟩) (held _ hb0) ?_
      rotate_left
      · (intro w' hSw; (try dsimp only at hSw); go_simp <;> (with_reducible rfl))
      try simp only [Act.put, List.setIfInBounds_toArray, List.set_cons_zero, List.set_cons_succ]
      refine E_take (i := 2) (v := ?_) [2] rfl (by kernel_rfl) (by kernel_rfl) (by kernel_rfl) (by kernel_rfl) (by kernel_rfl) rfl (fun _ _ _ h => h) (Or.inl ⟨by rfl, ?_⟩) (held _ hb0) ?_
      rotate_left
      · (intro w' hSw; (try dsimp only at hSw); go_simp <;> (with_reducible rfl))
      try simp only [Act.put, List.setIfInBounds_toArray, List.set_cons_zero, List.set_cons_succ]
      refine E_take (i := 3) (v := ?_) [3] rfl (by kernel_rfl) (by kernel_rfl) (by kernel_rfl) (by kernel_rfl) (by kernel_rfl) rfl (fun _ _ _ h => h) (Or.inl ⟨by rfl, ?_⟩) (held _ hb0) ?_
      rotate_left
      · (intro w' hSw; (try dsimp only at hSw); go_simp <;> (with_reducible rfl))
      try simp only [Act.put, List.setIfInBounds_toArray, List.set_cons_zero, List.set_cons_succ]
      refine E_take (i := 4) (v := ?_) [4] rfl (by kernel_rfl) (by kernel_rfl) (by kernel_rfl) (by kernel_rfl) (by kernel_rfl) rfl (fun _ _ _ h => h) (Or.inl ⟨by rfl, ?_⟩) (held _ hb0) ?_
      rotate_left
      · (intro w' hSw; (try dsimp only at hSw); go_simp <;> (with_reducible rfl))
      try simp only [Act.put, List.setIfInBounds_toArray, List.set_cons_zero, List.set_cons_succ]
      refine E_take (i := 5) (v := ?_) [5] rfl (by kernel_rfl) (by kernel_rfl) (by kernel_rfl) (by kernel_rfl) (by kernel_rfl) rfl (fun _ _ _ h => h) (Or.inl ⟨by rfl, ?_⟩) (held _ hb0) ?_
      rotate_left
      · (intro w' hSw; (try dsimp only at hSw); go_simp <;> (with_reducible rfl))
      try simp only [Act.put, List.setIfInBounds_toArray, List.set_cons_zero, List.set_cons_succ]
      refine E_take (i := 6) (v := ?_) [6] rfl (by kernel_rfl) (by kernel_rfl) (by kernel_rfl) (by kernel_rfl) (by kernel_rfl) rfl (fun _ _ _ h => h) (Or.inl ⟨by rfl, ?_⟩) (held _ hb0) ?_
      rotate_left
      · (intro w' hSw; (try dsimp only at hSw); go_simp <;> (with_reducible rfl))
      try simp only [Act.put, List.setIfInBounds_toArray, List.set_cons_zero, List.set_cons_succ]
      refine E_take (i := 7) (v := ?_) [7] rfl (by kernel_rfl) (by kernel_rfl) (by kernel_rfl) (by kernel_rfl) (by kernel_rfl) rfl (fun _ _ _ h => h) (Or.inl ⟨by rfl, ?_⟩) (held _ hb0) ?_
      rotate_left
      · (intro w' hSw; (try dsimp only at hSw); go_simp <;> (with_reducible rfl))
      try simp only [Act.put, List.setIfInBounds_toArray, List.set_cons_zero, List.set_cons_succ]
      refine E_take (i := 9) (v := ?_) [9] rfl (by kernel_rfl) (by kernel_rfl) (by kernel_rfl) (by kernel_rfl) (by kernel_rfl) rfl (fun _ _ _ h => h) (Or.inl ⟨by rfl, ?_⟩) (held _ hb0) ?_
      rotate_left
      · (intro w' hSw; (try dsimp only at hSw); go_simp <;> (with_reducible rfl))
      try simp only [Act.put, List.setIfInBounds_toArray, List.set_cons_zero, List.set_cons_succ]
      refine E_take (i := 10) (v := ?_) [10] rfl (by kernel_rfl) (by kernel_rfl) (by kernel_rfl) (by kernel_rfl) (by kernel_rfl) rfl (fun _ _ _ h => h) (Or.inl ⟨by rfl, ?_⟩) (held _ hb0) ?_
      rotate_left
      · (intro w' hSw; (try dsimp only at hSw); go_simp <;> (with_reducible rfl))
      try simp only [Act.put, List.setIfInBounds_toArray, List.set_cons_zero, List.set_cons_succ]
      refine E_take (i := 11) (v := ?_) [11] rfl (by kernel_rfl) (by kernel_rfl) (by kernel_rfl) (by kernel_rfl) (by kernel_rfl) rfl (fun _ _ _ h => h) (Or.inl ⟨by rfl, ?_⟩) (held _ hb0) ?_
      rotate_left
      · (intro w' hSw; (try dsimp only at hSw); go_simp <;> (with_reducible rfl))
      try simp only [Act.put, List.setIfInBounds_toArray, List.set_cons_zero, List.set_cons_succ]
      refine E_take (i := 12) (v := ?_) [12] rfl (by kernel_rfl) (by kernel_rfl) (by kernel_rfl) (by kernel_rfl) (by kernel_rfl) rfl (fun _ _ _ h => h) (Or.inl ⟨by rfl, ?_⟩) (held _ hb0) ?_
      rotate_left
      · (intro w' hSw; (try dsimp only at hSw); go_simp <;> (with_reducible rfl))
      try simp only [Act.put, List.setIfInBounds_toArray, List.set_cons_zero, List.set_cons_succ]
      refine E_take (i := 13) (v := ?_) [13] rfl (by kernel_rfl) (by kernel_rfl) (by kernel_rfl) (by kernel_rfl) (by kernel_rfl) rfl (fun _ _ _ h => h) (Or.inl ⟨by rfl, ?_⟩) (held _ hb0) ?_
      rotate_left
      · (intro w' hSw; (try dsimp only at hSw); go_simp <;> (with_reducible rfl))
      try simp only [Act.put, List.setIfInBounds_toArray, List.set_cons_zero, List.set_cons_succ]
      refine E_take (i := 14) (v := ?_) [14] rfl (by kernel_rfl) (by kernel_rfl) (by kernel_rfl) (by kernel_rfl) (by kernel_rfl) rfl (fun _ _ _ h => h) (Or.inl ⟨by rfl, ?_⟩) (held _ hb0) ?_
      rotate_left
      · (intro w' hSw; (try dsimp only at hSw); go_simp <;> (with_reducible rfl))
      try simp only [Act.put, List.setIfInBounds_toArray, List.set_cons_zero, List.set_cons_succ]
      refine E_take (i := 15) (v := ?_) [15] rfl (by kernel_rfl) (by kernel_rfl) (by kernel_rfl) (by kernel_rfl) (by kernel_rfl) rfl (fun _ _ _ h => h) (Or.inl ⟨by rfl, ?_⟩) (held _ hb0) ?_
      rotate_left
      · (intro w' hSw; (try dsimp only at hSw); go_simp <;> (with_reducible rfl))
      try simp only [Act.put, List.setIfInBounds_toArray, List.set_cons_zero, List.set_cons_succ]
      refine E_one (i := 1) rfl (by kernel_rfl) (by rfl) (fun K hK => ?_)
      go_simp
      have ho1 := own_base (empty_own X0 24 1 (by decide)) hb0.size
      have hb1 := hb0.alloc hb0.size (.cells #[] 24)
      have hz1 := Lib.hid (World.size_alloc X0 (.cells #[] 24))
      generalize hX1 : World.alloc X0 (.cells #[] 24) = X1 at *
      refine hK.out _ _ (fun _ => held _ hb1) ?_
      clear hK K
      try simp only [Act.put, List.setIfInBounds_toArray, List.set_cons_zero, List.set_cons_succ]
      refine E_one (i := 8) rfl (by kernel_rfl) (by rfl) (fun K hK => ?_)
      refine app_U (.tmp 35) (.tmp 41) rfl wc.heap.size _ (0) ([]) (by rfl) ho1 _ (i) _ (y1) (by rfl) hl1 (hy1.below hb1) hn1 (i) (by omega) (by omega) hb1.size ?_
      intro A2 c2 X2 ho2 hg2 ha2 hc2
      have hb2 := hb1.trans hc2
      refine hK.out _ _ (fun _ => held _ hb2) ?_
      clear hK K
      try simp only [Act.put, List.setIfInBounds_toArray, List.set_cons_zero, List.set_cons_succ]
      refine E_one (i := 16) rfl (by kernel_rfl) (by rfl) (fun K hK => ?_)
      refine app_U (.tmp 42) (.tmp 49) rfl wc.heap.size _ (i) ([] ++ y1) (by rfl) ho2 _ (m2) _ (y2) (by rfl) hl2 (hy2.below hb2) hn2 (R) (by omega) (by omega) hb2.size ?_
      intro A3 c3 X3 ho3 hg3 ha3 hc3
      have hb3 := hb2.trans hc3
      refine hK.out _ _ (fun _ => held _ hb3) ?_
      clear hK K
      try simp only [Act.put, List.setIfInBounds_toArray, List.set_cons_zero, List.set_cons_succ]
      refine E_take (i := 17) (v := ?_) [18, 17] rfl (by kernel_rfl) (by kernel_rfl) (by kernel_rfl) (by kernel_rfl) (by kernel_rfl) rfl (fun _ _ _ h => h) (Or.inl ⟨by rfl, ?_⟩) (held _ hb3) ?_
      rotate_left
      · (intro w' hSw; (try dsimp only at hSw); go_simp <;> (with_reducible rfl))
      try simp only [Act.put, List.setIfInBounds_toArray, List.set_cons_zero, List.set_cons_succ]
      refine E_take (i := 18) (v := ?_) [18] rfl (by kernel_rfl) (by kernel_rfl) (by kernel_rfl) (by kernel_rfl) (by kernel_rfl) rfl (fun _ _ _ h => h) (Or.inl ⟨by rfl, ?_⟩) (held _ hb3) ?_
      rotate_left
      · (intro w' hSw; (try dsimp only at hSw); go_simp <;> (with_reducible rfl))
      try simp only [Act.put, List.setIfInBounds_toArray, List.set_cons_zero, List.set_cons_succ]
      refine E_one (i := 19) rfl (by kernel_rfl) (by rfl) (fun K hK => ?_)
      have hfr := (hb3.frozen (p := ⟨L, 1, none⟩) hLz).trans HFr
      obtain qc := held _ hb3
      go_simp
      refine hK.out _ _ (fun h => absurd rfl h) ?_
      clear hK K
      try simp only [Act.put, List.setIfInBounds_toArray, List.set_cons_zero, List.set_cons_succ]
      refine E_done (by kernel_rfl) ?_ _
      go_wp2_with fail
      all_goals (
      go_ret
      have hLb := (hb3.block L hLz).trans hL1
      have hLs := set_at (o := 1) (v := .slice A3 (R) c3) hLb
      have hw5 := ownsRow_setCell_below ho3 (a := ⟨L, 1, none⟩) hLz (.slice A3 (R) c3)
      rw [List.nil_append] at hw5
      have hox5 := own_stay hox (fun q hq => (set_off (L := L) (o := 1) (.slice A3 (R) c3) (fun e => by have := own_ge hox q hq; omega)).trans (hb3.block q (own_lt hox q hq)))
      have hgf := grown_set (o := 1) (HGX.out.trans (below_grown hb3 rfl)) (.slice A3 (R) c3)
      have hi0 := HI.out
      subst hi0
      have hKS := HKS.out
      have hVS := HVS.out
      have hN2 := HN2.out
      have hN3 := HN.out
      have ek : KS.length = R0 := by rw [← hKS, List.length_append, List.length_take, List.length_drop, hN3]; have := HR.out; omega
      have ev : VS.length = R := by rw [← HVJ.out, List.length_append, hl1, hl2]; have := HR.out; omega
      rw [HKJ.out] at hox5
      rw [HVJ.out] at hw5
      exact ⟨_, _, rfl, ⟨hLs, by rw [ek]; exact own_base hox5 (by omega), by rw [ev]; exact own_base hw5 (by omega), by rw [ek, ev]; exact HR.out.2.2.2.symm, HL1.out.base, fun q hq hq2 => by have := own_lt hox q hq; have := own_ge ho3 q hq2; omega⟩, (below_grown HBW.out hpk).trans hgf⟩)
end Go.Proofs.Ytjeebbolnanmkaa.N
