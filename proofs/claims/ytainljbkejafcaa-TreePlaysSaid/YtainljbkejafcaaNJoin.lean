/- Put on any node; join of two nodes. -/
import Derived.Test.YtainljbkejafcaaNNd
import Derived.Test.YtainljbkejafcaaNCat2
namespace Go.Proofs.Ytainljbkejafcaa.N
open Go.RowKit Go.Proofs.YtainljbkejafcaaW.PrintMore Go.Proofs.YtainljbkejafcaaW.PrintWords
set_option linter.unusedVariables false
set_option linter.unusedSimpArgs false
theorem put_nd (k : Sp) (v : Int) : ∀ (h : Nat) {w : World} {p n : Nat} {l : List Ent}, Nd w h p l n → 0 < n → (0 < h → 2 ≤ n) → n ≤ 4 → Asc l →
    Calls Try.prog 33 #[.pointer (some ⟨p, 0, none⟩), k.v, .int .u64 v] w (NdsPost w h (min n 2) (insE k v l) (PutR n (hasE k l)))
  | 0, w, p, n, l, hn, h0, _, h4, _ => put_leaf hn h0 h4 k v
  | h + 1, w, p, n, l, hn, h0, h2, h4, ha => by
    have h2' := h2 (by omega)
    rw [show min n 2 = 2 by omega]
    refine put_inner hn h2' h4 ha k v (fun X q m u hq m2 m4 hu => ?_)
    have := put_nd k v h hq (by omega) (fun _ => m2) m4 hu
    rwa [show min m 2 = 2 by omega] at this
/-- Concat of two nodes' kids, and what follows. -/
theorem cat2 {w : World} {b off c b2 off2 c2 h : Nat} {qs rs : List Nat} {ls ms : List (List Ent)} (hb : b < w.heap.size) (hq : ∀ j (h : j < qs.length), w.cell? ⟨b, off + j, none⟩ = some (.pointer (some ⟨qs[j], 0, none⟩))) (hk : All2 (Kid w h 2) qs ls)
    (hb2 : b2 < w.heap.size) (hr : ∀ j (h : j < rs.length), w.cell? ⟨b2, off2 + j, none⟩ = some (.pointer (some ⟨rs[j], 0, none⟩))) (hm : All2 (Kid w h 2) rs ms) (h2 : 2 ≤ qs.length + rs.length) (h8 : qs.length + rs.length ≤ 8) :
    Calls Try.prog 67 #[.slice (some ⟨w.heap.size, 0, none⟩) 2 2] (w.alloc (.cells #[.slice (some ⟨b, off, none⟩) qs.length c, .slice (some ⟨b2, off2, none⟩) rs.length c2] 37))
      (CatPost w (fun e w' => NdsPost w (h + 1) 2 (ls.flatten ++ ms.flatten) (fun m => m = 1 ∨ m = 2) e w')) := by
  have hbl : Below w.heap.size w (w.alloc (.cells #[.slice (some ⟨b, off, none⟩) qs.length c, .slice (some ⟨b2, off2, none⟩) rs.length c2] 37)) := (Below.refl _ _).alloc (Nat.le_refl _) _
  have hnew := heap_alloc_new w (.cells #[.slice (some ⟨b, off, none⟩) qs.length c, .slice (some ⟨b2, off2, none⟩) rs.length c2] 37)
  have hsz : w.heap.size < (w.alloc (.cells #[.slice (some ⟨b, off, none⟩) qs.length c, .slice (some ⟨b2, off2, none⟩) rs.length c2] 37)).heap.size := by simp
  generalize w.alloc (.cells #[.slice (some ⟨b, off, none⟩) qs.length c, .slice (some ⟨b2, off2, none⟩) rs.length c2] 37) = X at *
  have hfl : [qs, rs].flatten = qs ++ rs := by simp
  have hlen : (qs ++ rs).length = qs.length + rs.length := List.length_append
  refine (cat_kids w.heap.size 2 [qs, rs] (by simp) (by rw [hfl, hlen]; omega) (by rw [hfl, hlen]; omega) hsz ?_).mono ?_
  · intro j hj
    match j, hj with
    | 0, _ => exact ⟨some ⟨b, off, none⟩, c, by simp only [World.cell?, hnew]; rfl, KidsAt.below (fun _ => ⟨b, off, rfl, hb, hq⟩) hbl, fun e => by cases e⟩
    | 1, _ => exact ⟨some ⟨b2, off2, none⟩, c2, by simp only [World.cell?, hnew]; rfl, KidsAt.below (fun _ => ⟨b2, off2, rfl, hb2, hr⟩) hbl, fun e => by cases e⟩
  · rintro e w4 ⟨b4, o4, c4, rfl, hb4, hq4, hc4, hm4, hbl4⟩
    have hB : Below w.heap.size w w4 := hbl.trans (hbl4.mono (Nat.le_of_lt hsz))
    have hall : All2 (Kid w4 h 2) [qs, rs].flatten (ls ++ ms) := by
      rw [hfl]
      exact (hk.append hm).imp (fun q m hq => hq.below hB)
    have hQ : [qs, rs].flatten.length = qs.length + rs.length := by rw [hfl, hlen]
    generalize [qs, rs].flatten = Q at *
    refine ⟨b4, o4, c4, Q.length, rfl, ?_, hB⟩
    show Calls _ _ _ _ _
    refine (halves_nds hb4 hq4 hall (by omega) (by omega) hc4 hm4 2 (Nat.le_refl _) (by omega)).mono fun e w' hp => ⟨_, hp.choose_spec.choose_spec.choose_spec.1, ?_, hp.choose_spec.choose_spec.choose_spec.2.2.2.2.2.2.2⟩
    have := NdsPost.base hp hB
    rw [List.flatten_append] at this
    exact this.imp (fun m hm => by omega)
set_option maxHeartbeats 1600000 in
set_option maxRecDepth 100000 in
theorem join_inner {w : World} {h a b n m : Nat} {l u : List Ent} (ha : Nd w (h + 1) a l n) (hb : Nd w (h + 1) b u m) (h2 : 2 ≤ n + m) (h8 : n + m ≤ 8) :
    Calls Try.prog 84 #[.pointer (some ⟨a, 0, none⟩), .pointer (some ⟨b, 0, none⟩)] w (NdsPost w (h + 1) 2 (l ++ u) (fun x => x = 1 ∨ x = 2)) := by
  obtain ⟨qs, ls, rfl, rfl, hI, hk⟩ := nd_succ.1 ha
  obtain ⟨rs, ms, rfl, rfl, hJ, hm⟩ := nd_succ.1 hb
  have HI := Lib.hid hI
  have HJ := Lib.hid hJ
  obtain ⟨_, _, C, cc, hin⟩ := hI
  obtain ⟨_, _, D, dd, hjn⟩ := hJ
  obtain ⟨b1, o1, rfl, hb1, hc1⟩ := hin.kids hin.pos
  obtain ⟨b2, o2, rfl, hb2, hc2⟩ := hjn.kids hjn.pos
  have sa := hin.c2
  have sb := hjn.c2
  have la := hin.lt
  have lb := hjn.lt
  have HC : Hid (∀ X, Below w.heap.size w X → Calls Try.prog 67 #[.slice (some ⟨X.heap.size, 0, none⟩) 2 2] (X.alloc (.cells #[.slice (some ⟨b1, o1, none⟩) qs.length cc, .slice (some ⟨b2, o2, none⟩) rs.length dd] 37)) (CatPost X (NdsPost w (h + 1) 2 (ls.flatten ++ ms.flatten) (fun x => x = 1 ∨ x = 2)))) := fun X hX => by
    have hz := hX.size
    refine (cat2 (w := X) (c := cc) (c2 := dd) (by omega) (fun j hj => (hX.cell (p := ⟨b1, o1 + j, none⟩) hb1).trans (hc1 j hj)) (hk.imp (fun q m hq => hq.below hX)) (by omega) (fun j hj => (hX.cell (p := ⟨b2, o2 + j, none⟩) hb2).trans (hc2 j hj)) (hm.imp (fun q m hq => hq.below hX)) h2 h8).mono ?_
    rintro e w4 ⟨b4, o4, c4, N4, rfl, hn4, hb4⟩
    refine ⟨b4, o4, c4, N4, rfl, ?_, hb4⟩
    show Calls _ _ _ _ _
    refine hn4.out.mono ?_
    rintro e w5 ⟨x, hx, hp, hb5⟩
    exact ⟨x, hx, hp.base hX, hb5⟩
  have HC2 : Hid (Calls Try.prog 67 #[.slice (some ⟨w.heap.size, 0, none⟩) 2 2] (w.alloc (.cells #[.slice (some ⟨b1, o1, none⟩) qs.length cc, .slice (some ⟨b2, o2, none⟩) rs.length dd] 37)).drew (CatPost w.drew (NdsPost w (h + 1) 2 (ls.flatten ++ ms.flatten) (fun x => x = 1 ∨ x = 2)))) := HC.out w.drew (bel_drewN _ _ (n := 1))
  clear HC
  clear ha hb hk hm hin hjn hc1 hc2 h2 h8
  generalize qs.length = N at *
  generalize rs.length = M at *
  go_enter Try.func84, Try.ntmps84
  go_wp2_with fail
  refine (leaf_no HI.out).mono ?_
  rintro e w1 ⟨rfl, rfl⟩
  go_wp2_with fail
  refine (leaf_no HJ.out).mono ?_
  rintro e w1 ⟨rfl, rfl⟩
  go_wp2_with fail
  refine (leaf_no HI.out).mono ?_
  rintro e w1 ⟨rfl, rfl⟩
  go_wp2_with fail
  go_region_held3 (fun w' => w'.cell? ⟨a, 2, none⟩ = some (.slice (some ⟨b1, o1, none⟩) N cc) ∧ w'.cell? ⟨b, 2, none⟩ = some (.slice (some ⟨b2, o2, none⟩) M dd)) (go_keep)
    (first
    | (go_at_call 67; refine HC2.out.mono ?_; rintro e w4 ⟨b4, o4, c4, N4, rfl, hn4, hb4⟩; replace hb4 := bel_undrew hb4; obtain ⟨bc4, bf4⟩ := bcell hb4; have z4 := hb4.size; have hp4 := Nat.lt_of_lt_of_le la z4; have hbb4 := Nat.lt_of_lt_of_le lb z4)
    | (go_at_call 66; refine hn4.out.mono ?_; rintro e w5 ⟨v5, rfl, hp5, hb5⟩; obtain ⟨bc5, bf5⟩ := bcell hb5; have z5 := hb5.size))
  go_wp2_with fail
  go_ret
  exact hp5
set_option maxHeartbeats 1600000 in
set_option maxRecDepth 100000 in
theorem join_leaf {w : World} {a b : Nat} {l u : List Ent} (ha : Leaf w a (l.map (·.1)) (l.map (·.2))) (hb : Leaf w b (u.map (·.1)) (u.map (·.2))) (h1 : 0 < l.length) (h2 : 0 < u.length) (h3 : 2 ≤ l.length + u.length) (h8 : l.length + u.length ≤ 5) :
    Calls Try.prog 84 #[.pointer (some ⟨a, 0, none⟩), .pointer (some ⟨b, 0, none⟩)] w (NdsPost w 0 2 (l ++ u) (fun x => x = 1 ∨ x = 2)) := by
  have HA := Lib.hid ha
  have HB := Lib.hid hb
  have HL := Lib.hid (And.intro h3 h8)
  have l1 : (l.map (·.1)).length = l.length := by simp
  have l2 : (u.map (·.1)).length = u.length := by simp
  have l3 : (l.map (·.2)).length = l.length := by simp
  have l4 : (u.map (·.2)).length = u.length := by simp
  have HF1 : ∀ X, Below w.heap.size w X → Hid (Calls Try.prog 61 #[.pointer (some ⟨a, 0, none⟩)] X (LeafsPost X (l.map (·.1)) (l.map (·.2)))) := fun X hX => leafs_at (ha.below hX) (by omega) (by omega) (by omega)
  have HF2 : ∀ X, Below w.heap.size w X → Hid (Calls Try.prog 61 #[.pointer (some ⟨b, 0, none⟩)] X (LeafsPost X (u.map (·.1)) (u.map (·.2)))) := fun X hX => leafs_at (hb.below hX) (by omega) (by omega) (by omega)
  clear ha hb
  have HP : Hid (∀ e w', PutPost w (l.map (·.1) ++ u.map (·.1)) (l.map (·.2) ++ u.map (·.2)) e w' → NdsPost w 0 2 (l ++ u) (fun x => x = 1 ∨ x = 2) e w') := fun e w' hp => by
    have e1 : (l ++ u).map (·.1) = l.map (·.1) ++ u.map (·.1) := List.map_append
    have e2 : (l ++ u).map (·.2) = l.map (·.2) ++ u.map (·.2) := List.map_append
    have e3 : (l ++ u).length = l.length + u.length := List.length_append
    unfold PutPost at hp
    rw [List.length_append, l1, l2] at hp
    split at hp
    · exact leaf_one (l := l ++ u) hp e1 e2 2 (by omega) (by omega) _ (.inl rfl)
    · exact leaf_two (l' := l ++ u) hp e1 e2 2 (by omega) (by omega) _ (.inr rfl)
  generalize hks : l.map (·.1) = ks at *
  generalize hus : u.map (·.1) = us at *
  generalize hvs : l.map (·.2) = vs at *
  generalize hws : u.map (·.2) = ws at *
  have HG := Lib.hid (And.intro hks (And.intro hus (And.intro hvs hws)))
  clear hks hus hvs hws
  have L1 := Lib.hid l1; have L2 := Lib.hid l2; have L3 := Lib.hid l3; have L4 := Lib.hid l4
  clear l1 l2 l3 l4
  go_enter Try.func84, Try.ntmps84
  go_wp2_with fail
  refine (leaf_yes HA.out).mono ?_
  rintro e w1 ⟨rfl, rfl⟩
  go_wp2_with fail
  refine (leaf_yes HB.out).mono ?_
  rintro e w1 ⟨rfl, rfl⟩
  go_wp2_with fail
  refine (leaf_yes HA.out).mono ?_
  rintro e w1 ⟨rfl, rfl⟩
  go_wp2_with fail
  refine (HF1 _ (Below.refl _ _)).out.mono ?_
  rintro e w1 ⟨kv, vv, rfl, hk1, hv1, _, hb1⟩
  rw [L1.out] at hk1 hv1
  have HK1 := Lib.hid hk1
  have HV1 := Lib.hid hv1
  have HB1 := Lib.hid hb1
  clear hk1 hv1 hb1
  go_wp2_with fail
  refine (HF2 _ HB1.out).out.mono ?_
  rintro e w2 ⟨lv, wv, rfl, hk2, hv2, _, hb2⟩
  rw [L2.out] at hk2 hv2
  have z2 := hb2.size
  have hk1' := own_stay HK1.out (fun q hq => hb2.block q (own_lt HK1.out q hq))
  have hv1' := own_stay HV1.out (fun q hq => hb2.block q (own_lt HV1.out q hq))
  have z1 := HB1.out.size
  have hbw2 : Below w.heap.size w w2 := HB1.out.trans (hb2.mono z1)
  rw [← L1.out] at hk1'
  rw [← L2.out] at hk2
  rw [← L3.out] at hv1'
  rw [← L4.out] at hv2
  obtain ⟨A1, c1, rfl, a1, a2, sk1⟩ := spots_own hk1'
  obtain ⟨A2, c2, rfl, a3, a4, sk2⟩ := spots_own hk2
  obtain ⟨A3, c3, rfl, a5, a6, sv1⟩ := vals_own hv1'
  obtain ⟨A4, c4, rfl, a7, a8, sv2⟩ := vals_own hv2
  have n1 : A1 = none → ks.length = 0 ∧ c1 = 0 := fun e => by obtain ⟨_, _, e2, _⟩ := sk1 (by rw [L1.out]; exact h1); rw [e] at e2; cases e2
  have n2 : A2 = none → us.length = 0 ∧ c2 = 0 := fun e => by obtain ⟨_, _, e2, _⟩ := sk2 (by rw [L2.out]; exact h2); rw [e] at e2; cases e2
  have n3 : A3 = none → vs.length = 0 ∧ c3 = 0 := fun e => by obtain ⟨_, _, e2, _⟩ := sv1 (by rw [L3.out]; exact h1); rw [e] at e2; cases e2
  have n4 : A4 = none → ws.length = 0 ∧ c4 = 0 := fun e => by obtain ⟨_, _, e2, _⟩ := sv2 (by rw [L4.out]; exact h2); rw [e] at e2; cases e2
  have hCS : Hid (∀ X, Below w2.heap.size w2 X → Calls Try.prog 94 #[.slice (some ⟨X.heap.size, 0, none⟩) 2 2] (X.alloc (.cells #[.slice A1 ks.length c1, .slice A2 us.length c2] 30)) (fun e w' => ∃ A c, e = .returned (.slice A (l.length + u.length) c) ∧ l.length + u.length ≤ c ∧ c ≤ maxLen ∧ SpotsAt w' A (ks ++ us) ∧ Below X.heap.size X w')) := fun X hX => by
    have hbl : Below X.heap.size X (X.alloc (.cells #[.slice A1 ks.length c1, .slice A2 us.length c2] 30)) := (Below.refl _ _).alloc (Nat.le_refl _) _
    have hnew := heap_alloc_new X (.cells #[.slice A1 ks.length c1, .slice A2 us.length c2] 30)
    have hsz : X.heap.size < (X.alloc (.cells #[.slice A1 ks.length c1, .slice A2 us.length c2] 30)).heap.size := by simp
    generalize X.alloc (.cells #[.slice A1 ks.length c1, .slice A2 us.length c2] 30) = Y at *
    have hfl : [ks, us].flatten = ks ++ us := by simp
    have hlen : (ks ++ us).length = l.length + u.length := by rw [List.length_append, L1.out, L2.out]
    refine (concat_S X.heap.size 2 [ks, us] (by simp) (by rw [hfl, hlen]; omega) hsz ?_).mono ?_
    · intro j hj
      match j, hj with
      | 0, _ => exact ⟨A1, c1, by simp only [World.cell?, hnew]; rfl, (sk1.below hX).below hbl, n1⟩
      | 1, _ => exact ⟨A2, c2, by simp only [World.cell?, hnew]; rfl, (sk2.below hX).below hbl, n2⟩
    · rintro e w' ⟨v, rfl, hown, hb⟩
      rw [hfl] at hown
      obtain ⟨A, c, rfl, b1, b2, b3⟩ := spots_own hown
      rw [hlen] at b1 ⊢
      exact ⟨A, c, rfl, b1, b2, b3, hbl.trans (hb.mono (Nat.le_of_lt hsz))⟩
  have hCU : Hid (∀ X, Below w2.heap.size w2 X → Calls Try.prog 95 #[.slice (some ⟨X.heap.size, 0, none⟩) 2 2] (X.alloc (.cells #[.slice A3 vs.length c3, .slice A4 ws.length c4] 32)) (fun e w' => ∃ A c, e = .returned (.slice A (l.length + u.length) c) ∧ l.length + u.length ≤ c ∧ c ≤ maxLen ∧ ValsAt w' A (vs ++ ws) ∧ Below X.heap.size X w')) := fun X hX => by
    have hbl : Below X.heap.size X (X.alloc (.cells #[.slice A3 vs.length c3, .slice A4 ws.length c4] 32)) := (Below.refl _ _).alloc (Nat.le_refl _) _
    have hnew := heap_alloc_new X (.cells #[.slice A3 vs.length c3, .slice A4 ws.length c4] 32)
    have hsz : X.heap.size < (X.alloc (.cells #[.slice A3 vs.length c3, .slice A4 ws.length c4] 32)).heap.size := by simp
    generalize X.alloc (.cells #[.slice A3 vs.length c3, .slice A4 ws.length c4] 32) = Y at *
    have hfl : [vs, ws].flatten = vs ++ ws := by simp
    have hlen : (vs ++ ws).length = l.length + u.length := by rw [List.length_append, L3.out, L4.out]
    refine (concat_U X.heap.size 2 [vs, ws] (by simp) (by rw [hfl, hlen]; omega) hsz ?_).mono ?_
    · intro j hj
      match j, hj with
      | 0, _ => exact ⟨A3, c3, by simp only [World.cell?, hnew]; rfl, (sv1.below hX).below hbl, n3⟩
      | 1, _ => exact ⟨A4, c4, by simp only [World.cell?, hnew]; rfl, (sv2.below hX).below hbl, n4⟩
    · rintro e w' ⟨v, rfl, hown, hb⟩
      rw [hfl] at hown
      obtain ⟨A, c, rfl, b1, b2, b3⟩ := vals_own hown
      rw [hlen] at b1 ⊢
      exact ⟨A, c, rfl, b1, b2, b3, hbl.trans (hb.mono (Nat.le_of_lt hsz))⟩
  have HBW := Lib.hid hbw2
  clear hk1' hv1' hk2 hv2 hb2 sk1 sk2 sv1 sv2 n1 n2 n3 n4 a1 a2 a3 a4 a5 a6 a7 a8 hbw2 HK1 HV1 HF1 HF2
  rw [L1.out, L2.out] at hCS
  rw [L3.out, L4.out] at hCU
  go_wp2_with fail
  rw [L1.out, L2.out]
  refine (hCS.out _ (Below.refl _ _)).mono ?_
  rintro e w3 ⟨A, c, rfl, b1, b2, b3, hb3⟩
  have B3 := Lib.hid hb3
  have K3 := Lib.hid (And.intro b1 (And.intro b2 b3))
  clear b1 b2 b3 hb3
  go_wp2_with fail
  rw [L3.out, L4.out]
  refine (hCU.out _ B3.out).mono ?_
  rintro e w4 ⟨A', c', rfl, b4, b5, b6, hb4⟩
  have hW4 : Below w.heap.size w w4 := HBW.out.trans ((B3.out.trans (hb4.mono B3.out.size)).mono HBW.out.size)
  have e1 : (ks ++ us).length = l.length + u.length := by rw [List.length_append, L1.out, L2.out]
  have e2 : (vs ++ ws).length = l.length + u.length := by rw [List.length_append, L3.out, L4.out]
  have hH := halves_at (K3.out.2.2.below hb4) b6 (by rw [e1, e2]) (by omega) (by omega) (by rw [e1]; exact K3.out.1) K3.out.2.1 (by rw [e2]; exact b4) b5
  rw [e1, e2] at hH
  have HH := Lib.hid hH
  have HW := Lib.hid hW4
  clear e1 e2 hH hW4 b4 b5 b6 hb4
  go_wp2_with fail
  refine HH.out.mono ?_
  rintro e w5 hp5
  have hp6 : PutPost w (ks ++ us) (vs ++ ws) e w5 := by
    unfold PutPost at hp5 ⊢
    split at hp5
    · rename_i h; rw [if_pos h]; exact hp5.base HW.out
    · rename_i h; rw [if_neg h]; exact hp5.base HW.out
  obtain ⟨s, ns, ms, rfl, r⟩ := HP.out _ _ hp6
  go_wp2_with fail
  go_ret
  exact ⟨s, ns, ms, rfl, r⟩
end Go.Proofs.Ytainljbkejafcaa.N
