/- way, size; over, kidHalves; Clone of kids. -/
import Derived.Test.YtainljbkejafcaaNCat
import Derived.Test.YtainljbkejafcaaNFindI
namespace Go.Proofs.Ytainljbkejafcaa.N
open Go.RowKit Go.Proofs.YtainljbkejafcaaW.PrintMore Go.Proofs.YtainljbkejafcaaW.PrintWords
set_option linter.unusedVariables false
set_option linter.unusedSimpArgs false
def WayPost (w : World) (k : Sp) (ks : List Sp) (e : Ending) (w' : World) : Prop := ∃ i b, e = .returned (.int .i64 (i : Nat)) ∧ FindI k ks i b ∧ i < ks.length ∧ Below w.heap.size w w'
theorem FindI.lt {k : Sp} {ks : List Sp} {i : Nat} {b : Bool} (h : FindI k ks i b) (h0 : 0 < ks.length) : i < ks.length := by
  rcases h with h | h
  · exact h.1
  · omega
set_option maxHeartbeats 1600000 in
set_option maxRecDepth 100000 in
theorem way_at {w : World} {p : Nat} {ks : List Sp} {qs : List Nat} (h : Inner w p ks qs) (k : Sp) (hk : ks.length ≤ 1000) :
    Calls Try.prog 65 #[.pointer (some ⟨p, 0, none⟩), .agg #[.int .i64 k.br, .int .i64 k.vol, .int .i64 k.blk, .int .u64 k.num]] w (WayPost w k ks) := by
  have HI := Lib.hid h
  have hlen : qs.length = ks.length ∧ 0 < ks.length := by obtain ⟨_, _, _, _, h⟩ := h; have := h.len; have := h.pos; omega
  have HL := Lib.hid hlen
  clear h hlen
  go_enter Try.func65, Try.ntmps65
  go_wp2_with fail
  have hbw : Below w.heap.size w (w.alloc (.cells #[.int .i64 k.br, .int .i64 k.vol, .int .i64 k.blk, .int .u64 k.num] 26)) := (Below.refl _ _).alloc (Nat.le_refl _) _
  refine (find_inner (HI.out.below hbw) k hk).mono ?_
  rintro e w1 ⟨i, b, rfl, hF, hb⟩
  have hlt := hF.lt HL.out.2
  have HF := Lib.hid hF
  have hb1 : Below w.heap.size w w1 := hbw.trans (hb.mono hbw.size)
  obtain ⟨A, ca, C, cc, hin⟩ := HI.out.below hb1
  have c2 := hin.c2
  have e1 : ((i : Int)) ≤ (qs.length : Int) - 1 := by have := HL.out.1; omega
  have e2 : 0 < qs.length := by have := HL.out; omega
  clear hF hin hb hbw
  obtain ⟨N, hN⟩ : ∃ N, qs.length = N + 1 := ⟨qs.length - 1, by omega⟩
  rw [hN] at c2 e1
  have e3 : (i : Int) ≤ (N : Int) := by omega
  have e4 : (N : Int) ≤ 1000 := by have := HL.out.1; omega
  clear hN e1 e2
  go_wp2_with fail
  go_ret
  exact ⟨i, b, by first | rfl | (congr 2; omega), HF.out, hlt, hb1⟩
theorem size_leaf {w : World} {p : Nat} {ks : List Sp} {vs : List Int} (h : Leaf w p ks vs) : Calls Try.prog 83 #[.pointer (some ⟨p, 0, none⟩)] w fun e w' => e = .returned (.int .i64 ks.length) ∧ w = w' := by
  have HL := Lib.hid h
  obtain ⟨A, ca, c0, _⟩ := h.keysOf
  clear h
  go_enter Try.func83, Try.ntmps83
  go_wp2_with fail
  refine (leaf_yes HL.out).mono ?_
  rintro e w2 ⟨rfl, rfl⟩
  go_wp2_with fail
  go_ret
  exact ⟨rfl, rfl⟩
theorem size_inner {w : World} {p : Nat} {ks : List Sp} {qs : List Nat} (h : Inner w p ks qs) : Calls Try.prog 83 #[.pointer (some ⟨p, 0, none⟩)] w fun e w' => e = .returned (.int .i64 qs.length) ∧ w = w' := by
  have HL := Lib.hid h
  obtain ⟨A, ca, C, cc, h⟩ := h
  have c2 := h.c2
  clear h
  go_enter Try.func83, Try.ntmps83
  go_wp2_with fail
  refine (leaf_no HL.out).mono ?_
  rintro e w2 ⟨rfl, rfl⟩
  go_wp2_with fail
  go_ret
  exact ⟨rfl, rfl⟩
/-- The kids' first keys. -/
def Heads (w : World) (qs : List Nat) (hs : List Sp) : Prop := hs.length = qs.length ∧ ∀ j (h : j < qs.length) (h' : j < hs.length), ∃ ks, KeysOf w qs[j] ks ∧ ks.length ≤ 1000 ∧ ∃ h0 : 0 < ks.length, ks[0] = hs[j]
theorem Heads.below {w w' : World} {qs : List Nat} {hs : List Sp} (h : Heads w qs hs) (hb : Below w.heap.size w w') : Heads w' qs hs :=
  ⟨h.1, fun j hj hj' => by obtain ⟨ks, a, b⟩ := h.2 j hj hj'; exact ⟨ks, a.below hb, b⟩⟩
theorem Heads.least {w : World} {qs : List Nat} {hs : List Sp} (h : Heads w qs hs) {j : Nat} (hj : j < qs.length) (hj' : j < hs.length) :
    Calls Try.prog 25 #[.pointer (some ⟨qs[j], 0, none⟩)] w fun e w' => e = .returned (.tuple #[.agg #[.int .i64 hs[j].br, .int .i64 hs[j].vol, .int .i64 hs[j].blk, .int .u64 hs[j].num], .bool true]) ∧ Below w.heap.size w w' := by
  obtain ⟨ks, a, b, h0, e⟩ := h.2 j hj hj'
  rw [← e]
  exact least_at a h0 b
def OverPost (w : World) (hs : List Sp) (qs : List Nat) (e : Ending) (w' : World) : Prop := ∃ p, e = .returned (.pointer (some ⟨p, 0, none⟩)) ∧ Inner w' p hs qs ∧ w.heap.size ≤ p ∧ Below w.heap.size w w'
set_option maxHeartbeats 6400000 in
set_option maxRecDepth 100000 in
theorem over_at {w : World} {b off c : Nat} {qs : List Nat} {hs : List Sp} (hb : b < w.heap.size) (hq : ∀ j (h : j < qs.length), w.cell? ⟨b, off + j, none⟩ = some (.pointer (some ⟨qs[j], 0, none⟩))) (hh : Heads w qs hs) (h0 : 0 < qs.length) (hn : qs.length ≤ 1000) (hc : qs.length ≤ c) (hcm : c ≤ maxLen) :
    Calls Try.prog 85 #[.slice (some ⟨b, off, none⟩) qs.length c] w (OverPost w hs qs) := by
  have HQ := Lib.hid hq
  have HH := Lib.hid hh
  have HM := Lib.hid (And.intro hc hcm)
  have HL := Lib.hid hh.1
  clear hq hh hc hcm
  obtain ⟨N, hN⟩ : ∃ N, qs.length = N := ⟨_, rfl⟩
  have HN := Lib.hid hN
  rw [hN] at h0 hn ⊢
  clear hN
  go_enter Try.func85, Try.ntmps85
  go_wp2_with fail
  have hP := heap_alloc_new w (.cells #[.slice none 0 0, .slice none 0 0, .slice (some ⟨b, off, none⟩) N c] 39)
  have hbw : Below w.heap.size w (w.alloc (.cells #[.slice none 0 0, .slice none 0 0, .slice (some ⟨b, off, none⟩) N c] 39)) := (Below.refl _ _).alloc (Nat.le_refl _) _
  obtain ⟨P0, hP0⟩ : ∃ P0, w.heap.size = P0 := ⟨_, rfl⟩
  have hs0 : P0 < (w.alloc (.cells #[.slice none 0 0, .slice none 0 0, .slice (some ⟨b, off, none⟩) N c] 39)).heap.size := by rw [← hP0]; simp
  rw [hP0] at hP hbw hb ⊢
  have HP := Lib.hid hP0
  clear hP0
  generalize w.alloc (.cells #[.slice none 0 0, .slice none 0 0, .slice (some ⟨b, off, none⟩) N c] 39) = W at *
  go_loopw [13] (fun i wr => ∃ j : Nat, j ≤ N ∧ i = .int .i64 j ∧ ∃ A1 c1, wr.heap[P0]? = some (.cells #[.slice A1 j c1, .slice none 0 0, .slice (some ⟨b, off, none⟩) N c] 39 (0, 0)) ∧ wr.ownsRow (P0 + 1) 26 4 (.slice A1 j c1) j (sps (hs.take j)) ∧ Below P0 w wr) (fun i _ => (N - intOf i).toNat)
  case atStart => exact ⟨0, Nat.zero_le _, rfl, none, 0, hP, ⟨rfl, .inl ⟨rfl, rfl⟩⟩, hbw⟩
  case round =>
    obtain ⟨j, hj, rfl, A1, c1, hPr, own, hbr⟩ := hrel
    have hPz := (Array.getElem?_eq_some_iff.1 hPr).1
    by_cases hlt : j < N
    · have hjq : j < qs.length := by rw [HN.out]; exact hlt
      have hjh : j < hs.length := by rw [HL.out]; exact hjq
      have hcell := (hbr.cell (p := ⟨b, off + j, none⟩) hb).trans (HQ.out j hjq)
      have hle := Lib.hid (HH.out.least hjq hjh)
      have hbr' : Below w.heap.size w wr := by rw [HP.out]; exact hbr
      have HLe := Lib.hid ((HH.out.below hbr').least hjq hjh)
      have htk : Hid (hs.take (j + 1) = hs.take j ++ [hs[j]]) := List.take_succ_eq_append_getElem hjh
      clear hle hbr'
      generalize hs[j] = y at *
      generalize qs[j] = q at *
      have e1 : (0 : Int) ≤ (j : Int) := by omega
      have e2 : (j : Int) < (N : Int) := by omega
      go_wp2_with fail
      refine HLe.out.mono ?_
      rintro e w3 ⟨rfl, hb3⟩
      go_wp2_with fail
      have hzb := hb3.size
      have hP3 := (hb3.block P0 hPz).trans hPr
      have own3 := own_stay own (fun q hq => hb3.block q (own_lt own q hq))
      have hltA : ∀ g, (Value.slice A1 j c1).ownBlock = some g → P0 < g ∧ g < w3.heap.size := fun g hg => ⟨own_ge own g hg, Nat.lt_of_lt_of_le (own_lt own g hg) hzb⟩
      have hbx := heap_alloc_new w3 (.cells #[.int .i64 y.br, .int .i64 y.vol, .int .i64 y.blk, .int .u64 y.num] 26)
      have hPx := (Below.heap_alloc w3 (.cells #[.int .i64 y.br, .int .i64 y.vol, .int .i64 y.blk, .int .u64 y.num] 26) P0 (by omega)).trans hP3
      have ownx := own3.alloc (.cells #[.int .i64 y.br, .int .i64 y.vol, .int .i64 y.blk, .int .u64 y.num] 26)
      have hbx' : Below P0 w (w3.alloc (.cells #[.int .i64 y.br, .int .i64 y.vol, .int .i64 y.blk, .int .u64 y.num] 26)) := (hbr.trans (hb3.mono (by omega))).alloc (by omega) _
      have hszx : w3.heap.size < (w3.alloc (.cells #[.int .i64 y.br, .int .i64 y.vol, .int .i64 y.blk, .int .u64 y.num] 26)).heap.size := by simp
      have hPz3 : P0 < w3.heap.size := by omega
      clear own own3 hPr hP3 hb3 hbr hzb hPz hcell
      obtain ⟨Bx, hBx⟩ : ∃ Bx, w3.heap.size = Bx := ⟨_, rfl⟩
      rw [hBx] at hbx hltA hszx hPz3 ⊢
      clear hBx
      generalize w3.alloc (.cells #[.int .i64 y.br, .int .i64 y.vol, .int .i64 y.blk, .int .u64 y.num] 26) = W6 at *
      have hP1 : W6.drew.heap[P0]? = some (.cells #[.slice A1 j c1, .slice none 0 0, .slice (some ⟨b, off, none⟩) N c] 39 (0, 0)) := hPx
      have hB1 : W6.drew.heap[Bx]? = some (.cells #[.int .i64 y.br, .int .i64 y.vol, .int .i64 y.blk, .int .u64 y.num] 26) := hbx
      have own0 : W6.drew.ownsRow (P0 + 1) 26 4 (.slice A1 j c1) j (sps (hs.take j)) := ownx
      have hbr0 : Below P0 w W6.drew := hbx'.trans (bel_drewN _ _ (n := 1))
      have hP0 : P0 < W6.drew.heap.size := by show P0 < W6.heap.size; omega
      have hBx0 : Bx < W6.drew.heap.size := hszx
      have held1 : ∀ X, Below W6.drew.heap.size W6.drew X → (fun w' => w'.cell? ⟨P0, 0, none⟩ = some (.slice A1 j c1) ∧ w'.cell? ⟨Bx, 0, none⟩ = some (.int .i64 y.br) ∧ w'.cell? ⟨Bx, 1, none⟩ = some (.int .i64 y.vol) ∧ w'.cell? ⟨Bx, 2, none⟩ = some (.int .i64 y.blk) ∧ w'.cell? ⟨Bx, 3, none⟩ = some (.int .u64 y.num)) X := fun X hX => ⟨(hX.cell (p := ⟨P0, 0, none⟩) hP0).trans (by simp only [World.cell?, hP1]; rfl), (hX.cell (p := ⟨Bx, 0, none⟩) hBx0).trans (by simp only [World.cell?, hB1]; rfl), (hX.cell (p := ⟨Bx, 1, none⟩) hBx0).trans (by simp only [World.cell?, hB1]; rfl), (hX.cell (p := ⟨Bx, 2, none⟩) hBx0).trans (by simp only [World.cell?, hB1]; rfl), (hX.cell (p := ⟨Bx, 3, none⟩) hBx0).trans (by simp only [World.cell?, hB1]; rfl)⟩
      have held2 : ∀ X Y, Below W6.drew.heap.size W6.drew X → X.grownBy Y (Value.slice A1 j c1).ownBlock → (fun w' => w'.cell? ⟨P0, 0, none⟩ = some (.slice A1 j c1) ∧ w'.cell? ⟨Bx, 0, none⟩ = some (.int .i64 y.br) ∧ w'.cell? ⟨Bx, 1, none⟩ = some (.int .i64 y.vol) ∧ w'.cell? ⟨Bx, 2, none⟩ = some (.int .i64 y.blk) ∧ w'.cell? ⟨Bx, 3, none⟩ = some (.int .u64 y.num)) Y := fun X Y hX hg => by
        obtain ⟨s0, s1, s2, s3, s4⟩ := held1 X hX
        have hz := hX.size
        have a1 := hg.block P0 (by omega) (fun e => by have := hltA P0 e.symm; omega)
        have a2 := hg.block Bx (by omega) (fun e => by have := hltA Bx e.symm; omega)
        exact ⟨(World.cell?_of_block a1).trans s0, (World.cell?_of_block a2).trans s1, (World.cell?_of_block a2).trans s2, (World.cell?_of_block a2).trans s3, (World.cell?_of_block a2).trans s4⟩
      have S0 := held1 _ (Below.refl _ _)
      clear hbx hPx ownx hbx' hszx
      refine E_start 10 (fun w' => w'.cell? ⟨P0, 0, none⟩ = some (.slice A1 j c1) ∧ w'.cell? ⟨Bx, 0, none⟩ = some (.int .i64 y.br) ∧ w'.cell? ⟨Bx, 1, none⟩ = some (.int .i64 y.vol) ∧ w'.cell? ⟨Bx, 2, none⟩ = some (.int .i64 y.blk) ∧ w'.cell? ⟨Bx, 3, none⟩ = some (.int .u64 y.num)) (by kernel_rfl) ?_
      generalize hX0 : World.drew W6 = X0 at *
      refine E_take (i := 0) (v := ?_) [0] rfl (by kernel_rfl) (by kernel_rfl) (by kernel_rfl) (by kernel_rfl) (by kernel_rfl) rfl (fun _ _ _ h => h) (Or.inl ⟨by rfl, ?_⟩) (S0) ?_
      rotate_left
      · (intro w' hSw; (try dsimp only at hSw); go_simp <;> (with_reducible rfl))
      try simp only [Act.put, List.setIfInBounds_toArray, List.set_cons_zero, List.set_cons_succ]
      refine E_take (i := 1) (v := ?_) [1] rfl (by kernel_rfl) (by kernel_rfl) (by kernel_rfl) (by kernel_rfl) (by kernel_rfl) rfl (fun _ _ _ h => h) (Or.inl ⟨by rfl, ?_⟩) (S0) ?_
      rotate_left
      · (intro w' hSw; (try dsimp only at hSw); go_simp <;> (with_reducible rfl))
      try simp only [Act.put, List.setIfInBounds_toArray, List.set_cons_zero, List.set_cons_succ]
      refine E_take (i := 2) (v := ?_) [2] rfl (by kernel_rfl) (by kernel_rfl) (by kernel_rfl) (by kernel_rfl) (by kernel_rfl) rfl (fun _ _ _ h => h) (Or.inl ⟨by rfl, ?_⟩) (S0) ?_
      rotate_left
      · (intro w' hSw; (try dsimp only at hSw); go_simp <;> (with_reducible rfl))
      try simp only [Act.put, List.setIfInBounds_toArray, List.set_cons_zero, List.set_cons_succ]
      refine E_take (i := 3) (v := ?_) [3] rfl (by kernel_rfl) (by kernel_rfl) (by kernel_rfl) (by kernel_rfl) (by kernel_rfl) rfl (fun _ _ _ h => h) (Or.inl ⟨by rfl, ?_⟩) (S0) ?_
      rotate_left
      · (intro w' hSw; (try dsimp only at hSw); go_simp <;> (with_reducible rfl))
      try simp only [Act.put, List.setIfInBounds_toArray, List.set_cons_zero, List.set_cons_succ]
      refine E_take (i := 4) (v := ?_) [4] rfl (by kernel_rfl) (by kernel_rfl) (by kernel_rfl) (by kernel_rfl) (by kernel_rfl) rfl (fun _ _ _ h => h) (Or.inl ⟨by rfl, ?_⟩) (S0) ?_
      rotate_left
      · (intro w' hSw; (try dsimp only at hSw); go_simp <;> (with_reducible rfl))
      try simp only [Act.put, List.setIfInBounds_toArray, List.set_cons_zero, List.set_cons_succ]
      refine E_take (i := 5) (v := ?_) [5] rfl (by kernel_rfl) (by kernel_rfl) (by kernel_rfl) (by kernel_rfl) (by kernel_rfl) rfl (fun _ _ _ h => h) (Or.inl ⟨by rfl, ?_⟩) (S0) ?_
      rotate_left
      · (intro w' hSw; (try dsimp only at hSw); go_simp <;> (with_reducible rfl))
      try simp only [Act.put, List.setIfInBounds_toArray, List.set_cons_zero, List.set_cons_succ]
      refine E_one (i := 6) rfl (by kernel_rfl) (by rfl) (fun K hK => ?_)
      go_simp
      have hs1 := spot_new X0 y
      have hc1 : Below X0.heap.size X0 (X0.alloc (.cells #[.int .i64 y.br, .int .i64 y.vol, .int .i64 y.blk, .int .u64 y.num] 26)) := (Below.refl _ _).alloc (Nat.le_refl _) _
      have ho1 := own0.alloc (.cells #[.int .i64 y.br, .int .i64 y.vol, .int .i64 y.blk, .int .u64 y.num] 26)
      generalize hX1 : World.alloc X0 (.cells #[.int .i64 y.br, .int .i64 y.vol, .int .i64 y.blk, .int .u64 y.num] 26) = X1 at *
      have hb1 : Below X0.heap.size X0 X1 := hc1
      refine hK.out _ _ (fun _ => held1 _ hb1) ?_
      clear hK K
      try simp only [Act.put, List.setIfInBounds_toArray, List.set_cons_zero, List.set_cons_succ]
      refine E_one (i := 7) rfl (by kernel_rfl) (by rfl) (fun K hK => ?_)
      have hz1 := hb1.size
      refine app_S (.tmp 26) (.tmp 28) rfl (P0 + 1) _ j _ (by rfl) ho1 _ 1 1 [y] (by rfl) rfl hs1 (fun e => by cases e) (j + 1) rfl (by omega) (by omega) ?_
      intro A2 c2 X2 ho2 hg2 ha2 hc2
      have S2 := held2 X1 X2 hb1 hg2
      refine hK.out _ _ (fun _ => S2) ?_
      clear hK K
      try simp only [Act.put, List.setIfInBounds_toArray, List.set_cons_zero, List.set_cons_succ]
      refine E_take (i := 8) (v := ?_) [9, 8] rfl (by kernel_rfl) (by kernel_rfl) (by kernel_rfl) (by kernel_rfl) (by kernel_rfl) rfl (fun _ _ _ h => h) (Or.inl ⟨by rfl, ?_⟩) (S2) ?_
      rotate_left
      · (intro w' hSw; (try dsimp only at hSw); go_simp <;> (with_reducible rfl))
      try simp only [Act.put, List.setIfInBounds_toArray, List.set_cons_zero, List.set_cons_succ]
      refine E_take (i := 9) (v := ?_) [9] rfl (by kernel_rfl) (by kernel_rfl) (by kernel_rfl) (by kernel_rfl) (by kernel_rfl) rfl (fun _ _ _ h => h) (Or.inl ⟨by rfl, ?_⟩) (S2) ?_
      rotate_left
      · (intro w' hSw; (try dsimp only at hSw); go_simp <;> (with_reducible rfl))
      try simp only [Act.put, List.setIfInBounds_toArray, List.set_cons_zero, List.set_cons_succ]
      refine E_one (i := 10) rfl (by kernel_rfl) (by rfl) (fun K hK => ?_)
      have S3 := S2
      obtain ⟨qc, _, _, _, _⟩ := S3
      have hlt1 := (Array.getElem?_eq_some_iff.1 hP1).1
      have hP2 : X2.heap[P0]? = _ := (hc2.block P0 (by omega)).trans ((hb1.block P0 hP0).trans hP1)
      have hfr : X2.frozen? ⟨P0, 0, none⟩ = false := by simp only [World.frozen?, hP2]; simp
      go_simp
      refine hK.out _ _ (fun h => absurd rfl h) ?_
      clear hK K
      try simp only [Act.put, List.setIfInBounds_toArray, List.set_cons_zero, List.set_cons_succ]
      refine E_done (by kernel_rfl) ?_ _
      go_wp2_with fail
      go_roundw
      case rel => exact ⟨j + 1, by omega, by go_num, A2, c2, set_at (o := 0) hP2, by rw [htk.out]; exact ownsRow_setCell_below ho2 (a := ⟨P0, 0, none⟩) (Nat.lt_succ_self P0) _, ((hbr0.trans (hb1.mono (by omega))).trans (hc2.mono (by omega))).setCell (p := ⟨P0, 0, none⟩) (Nat.le_refl _) _⟩
      case measure => (simp [intOf] <;> omega)
    · obtain rfl : j = N := by omega
      go_wp2_with fail
      go_ret
      have hl := HL.out
      have hnn := HN.out
      have ht : hs.take j = hs := List.take_of_length_le (by omega)
      rw [ht] at own
      obtain ⟨A', c', e, ec1, ec2, hsp⟩ := spots_own (l := hs) (by rw [show hs.length = j by omega]; exact own)
      injection e with ea eb ec
      subst ea ec
      exact ⟨P0, rfl, ⟨A1, c1, some ⟨b, off, none⟩, c, by rw [hl, hnn]; exact hPr, hsp, fun _ => ⟨b, off, rfl, by have := hbr.size; omega, fun i hi => (hbr.cell (p := ⟨b, off + i, none⟩) hb).trans (HQ.out i hi)⟩, ec1, ec2, HM.out.1, HM.out.2, hl.symm, by omega⟩, by rw [HP.out]; exact Nat.le_refl _, by rw [HP.out]; exact hbr⟩
def OneI (w : World) (hs : List Sp) (qs : List Nat) (e : Ending) (w' : World) : Prop := ∃ s p, e = .returned (.slice (some ⟨s, 0, none⟩) 1 1) ∧ w'.cell? ⟨s, 0, none⟩ = some (.pointer (some ⟨p, 0, none⟩)) ∧ w.heap.size ≤ s ∧ s < w'.heap.size ∧ Inner w' p hs qs ∧ w.heap.size ≤ p ∧ Below w.heap.size w w'
def TwoI (w : World) (hs1 hs2 : List Sp) (qs1 qs2 : List Nat) (e : Ending) (w' : World) : Prop := ∃ s p q, e = .returned (.slice (some ⟨s, 0, none⟩) 2 2) ∧ w'.cell? ⟨s, 0, none⟩ = some (.pointer (some ⟨p, 0, none⟩)) ∧ w'.cell? ⟨s, 1, none⟩ = some (.pointer (some ⟨q, 0, none⟩)) ∧ w.heap.size ≤ s ∧ s < w'.heap.size ∧ Inner w' p hs1 qs1 ∧ Inner w' q hs2 qs2 ∧ w.heap.size ≤ p ∧ w.heap.size ≤ q ∧ Below w.heap.size w w'
theorem Heads.take {w : World} {qs : List Nat} {hs : List Sp} (h : Heads w qs hs) (n : Nat) : Heads w (qs.take n) (hs.take n) :=
  ⟨by rw [List.length_take, List.length_take, h.1], fun j hj hj' => by
    rw [List.length_take] at hj hj'
    obtain ⟨ks, a, b, h0, e⟩ := h.2 j (by omega) (by omega)
    exact ⟨ks, by rw [List.getElem_take]; exact a, b, h0, by rw [List.getElem_take]; exact e⟩⟩
theorem Heads.drop {w : World} {qs : List Nat} {hs : List Sp} (h : Heads w qs hs) (n : Nat) : Heads w (qs.drop n) (hs.drop n) :=
  ⟨by rw [List.length_drop, List.length_drop, h.1], fun j hj hj' => by
    rw [List.length_drop] at hj hj'
    obtain ⟨ks, a, b, h0, e⟩ := h.2 (n + j) (by omega) (by omega)
    exact ⟨ks, by rw [List.getElem_drop]; exact a, b, h0, by rw [List.getElem_drop]; exact e⟩⟩
set_option maxHeartbeats 1600000 in
set_option maxRecDepth 100000 in
theorem kidHalves_one {w : World} {b off c : Nat} {qs : List Nat} {hs : List Sp} (hb : b < w.heap.size) (hq : ∀ j (h : j < qs.length), w.cell? ⟨b, off + j, none⟩ = some (.pointer (some ⟨qs[j], 0, none⟩))) (hh : Heads w qs hs) (h0 : 0 < qs.length) (hn : qs.length ≤ 4) (hc : qs.length ≤ c) (hcm : c ≤ maxLen) :
    Calls Try.prog 66 #[.slice (some ⟨b, off, none⟩) qs.length c] w (OneI w hs qs) := by
  have HO := Lib.hid (over_at hb hq hh h0 (by omega) hc hcm)
  clear hq hh hcm
  go_enter Try.func66, Try.ntmps66
  go_wp2_with fail
  refine HO.out.mono ?_
  rintro e w1 ⟨p, rfl, hI, hp, hb1⟩
  go_wp2_with fail
  go_ret
  have hz := hb1.size
  have hbl : Below w1.heap.size w1 (w1.alloc (.cells #[.pointer (some ⟨p, 0, none⟩)] 36)) := (Below.refl _ _).alloc (Nat.le_refl _) _
  have hs := heap_alloc_new w1 (.cells #[.pointer (some ⟨p, 0, none⟩)] 36)
  exact ⟨w1.heap.size, p, rfl, by simp only [World.cell?, hs]; rfl, hz, (Array.getElem?_eq_some_iff.1 hs).1, hI.below hbl, hp, hb1.trans (hbl.mono hz)⟩
set_option maxHeartbeats 3200000 in
set_option maxRecDepth 100000 in
theorem kidHalves_two {w : World} {b off c : Nat} {qs : List Nat} {hs : List Sp} (hb : b < w.heap.size) (hq : ∀ j (h : j < qs.length), w.cell? ⟨b, off + j, none⟩ = some (.pointer (some ⟨qs[j], 0, none⟩))) (hh : Heads w qs hs) (h4 : 4 < qs.length) (hn : qs.length ≤ 1000) (hc : qs.length ≤ c) (hcm : c ≤ maxLen) :
    Calls Try.prog 66 #[.slice (some ⟨b, off, none⟩) qs.length c] w (TwoI w (hs.take ((qs.length + 1) / 2)) (hs.drop ((qs.length + 1) / 2)) (qs.take ((qs.length + 1) / 2)) (qs.drop ((qs.length + 1) / 2))) := by
  unfold maxLen at hcm
  obtain ⟨N, hN⟩ : ∃ N, qs.length = N := ⟨_, rfl⟩
  rw [hN] at h4 hn hc ⊢
  obtain ⟨h, hh2⟩ : ∃ h, (N + 1) / 2 = h := ⟨_, rfl⟩
  have hq2 : ((N : Int) + 1).tdiv 2 = (h : Int) := by rw [Int.tdiv_eq_ediv_of_nonneg (by omega)]; omega
  have h1 : 0 < h := by omega
  have h2 : h ≤ N := by omega
  have h3 : h < N := by omega
  rw [hh2]
  have l1 : (qs.take h).length = h := by rw [List.length_take, hN]; omega
  have l2 : (qs.drop h).length = N - h := by rw [List.length_drop, hN]
  have HO1 : Hid (∀ X, Below w.heap.size w X → Calls Try.prog 85 #[.slice (some ⟨b, off, none⟩) h h] X (OverPost X (hs.take h) (qs.take h))) := fun X hX => by
    have := over_at (w := X) (b := b) (off := off) (c := h) (qs := qs.take h) (hs := hs.take h) (Nat.lt_of_lt_of_le hb hX.size) (fun j hj => by rw [List.getElem_take]; exact (hX.cell (p := ⟨b, off + j, none⟩) hb).trans (hq j (by rw [l1] at hj; omega))) ((hh.take h).below hX) (by omega) (by omega) (by omega) (by unfold maxLen; omega)
    rw [l1] at this
    exact this
  have HO2 : Hid (∀ X, Below w.heap.size w X → Calls Try.prog 85 #[.slice (some ⟨b, off + h, none⟩) (N - h) (c - h)] X (OverPost X (hs.drop h) (qs.drop h))) := fun X hX => by
    have := over_at (w := X) (b := b) (off := off + h) (c := c - h) (qs := qs.drop h) (hs := hs.drop h) (Nat.lt_of_lt_of_le hb hX.size) (fun j hj => by rw [List.getElem_drop, Nat.add_assoc]; exact (hX.cell (p := ⟨b, off + (h + j), none⟩) hb).trans (hq (h + j) (by rw [l2] at hj; omega))) ((hh.drop h).below hX) (by omega) (by omega) (by omega) (by unfold maxLen; omega)
    rw [l2] at this
    exact this
  clear hq hh hN l1 l2 hh2
  have n1 : ¬ (c = h) := by omega
  have i1 : (0 : Int) ≤ (h : Int) := by omega
  have i2 : (h : Int) ≤ (N : Int) := by omega
  have i3 : (h : Int) ≤ (c : Int) := by omega
  have d4 : decide ((N : Int) ≤ 4) = false := by simp; omega
  go_enter Try.func66, Try.ntmps66
  go_wp2_with fail
  go_region_held3 (fun _ => True) (trivial)
    (first
    | ((with_reducible refine (HO1.out _ ?_).mono ?_); (· exact bel_drewN _ _ (n := 1)); rintro e w1 ⟨p1, rfl, hI1, hp1, hb1⟩)
    | ((with_reducible refine (HO2.out _ ?_).mono ?_); (· exact (bel_drewN _ _ (n := 1)).trans hb1); rintro e w2 ⟨p2, rfl, hI2, hp2, hb2⟩))
  go_wp2_with fail
  go_ret
  replace hb1 := bel_undrew hb1
  have z1 := hb1.size
  have z2 := hb2.size
  have hbl : Below w2.heap.size w2 (w2.alloc (.cells #[.pointer (some ⟨p1, 0, none⟩), .pointer (some ⟨p2, 0, none⟩)] 36)) := (Below.refl _ _).alloc (Nat.le_refl _) _
  have hs := heap_alloc_new w2 (.cells #[.pointer (some ⟨p1, 0, none⟩), .pointer (some ⟨p2, 0, none⟩)] 36)
  exact ⟨w2.heap.size, p1, p2, rfl, by simp only [World.cell?, hs]; rfl, by simp only [World.cell?, hs]; rfl, by omega, (Array.getElem?_eq_some_iff.1 hs).1, (hI1.below hb2).below hbl, hI2.below hbl, hp1, by omega, (hb1.trans (hb2.mono z1)).trans (hbl.mono (by omega))⟩
set_option maxHeartbeats 1600000 in
set_option maxRecDepth 100000 in
theorem clone_kids {w : World} (b off ca : Nat) (l : List Nat) (hl : l.length ≤ 1000) (h0 : 0 < l.length) (hb : b < w.heap.size) (hc : ∀ j (h : j < l.length), w.cell? ⟨b, off + j, none⟩ = some (.pointer (some ⟨l[j], 0, none⟩))) :
    Calls Try.prog 82 #[.slice (some ⟨b, off, none⟩) l.length ca] w fun e w' => ∃ v, e = .returned v ∧ w'.ownsRow w.heap.size 36 1 v l.length (kps l) ∧ Below w.heap.size w w' := by
  have hbl : Below w.heap.size w (w.alloc (.cells #[] 36)) := (Below.refl _ _).alloc (Nat.le_refl _) _
  have hK : KidsAt (w.alloc (.cells #[] 36)) (some ⟨b, off, none⟩) l := KidsAt.below (fun _ => ⟨b, off, rfl, hb, hc⟩) hbl
  have HC := Lib.hid hK
  have HB := Lib.hid hbl
  clear hc hK hbl
  obtain ⟨N, hN⟩ : ∃ N, l.length = N := ⟨_, rfl⟩
  have HN := Lib.hid hN
  rw [hN] at hl h0 ⊢
  clear hN
  have he : ∀ W : World, (binOp .eql 37 (.slice (some ⟨b, off, none⟩) N ca) (.slice none 0 0)).run Try.prog W = .ok (.bool false) W := fun _ => rfl
  go_enter Try.func82, Try.ntmps82
  go_wp2_with (at_builtin; refine wpList_plain rfl fun _ hK => ?_; refine app_K (.tmp 5) (.tmp 6) rfl w.heap.size _ 0 [] (by rfl) (empty_own w _ 1 (by decide)) (some ⟨b, off, none⟩) N ca l (by rfl) HN.out HC.out (fun e => by cases e) N (by omega) (by omega) (by simp) ?_; intro A1 c1 w2 hown2 hgr2 hat2 hbl2; refine hK _ _ ?_)
  go_ret
  exact ⟨_, rfl, hown2, HB.out.trans hbl2⟩
end Go.Proofs.Ytainljbkejafcaa.N
