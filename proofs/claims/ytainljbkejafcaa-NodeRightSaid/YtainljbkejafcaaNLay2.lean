/- The walk of lay on a node of any height. -/
import Derived.Test.YtainljbkejafcaaNLay
namespace Go.Proofs.Ytainljbkejafcaa.N
open Go.RowKit Go.Proofs.YtainljbkejafcaaW.PrintMore Go.Proofs.YtainljbkejafcaaW.PrintWords
set_option linter.unusedVariables false
set_option linter.unusedSimpArgs false
def upTo (ls : List (List Ent)) (j : Nat) : List Ent := (ls.take j).flatten
theorem upTo_succ {ls : List (List Ent)} {j : Nat} (h : j < ls.length) : upTo ls (j + 1) = upTo ls j ++ ls[j] := by
  unfold upTo; rw [List.take_succ_eq_append_getElem h, List.flatten_append]; simp
theorem upTo_rest {ls : List (List Ent)} {j : Nat} (h : j < ls.length) : ls.flatten = upTo ls j ++ ls[j] ++ (ls.drop (j + 1)).flatten := by
  rw [← upTo_succ h]; unfold upTo; rw [← List.flatten_append, List.take_append_drop]
def lvl (h j : Nat) : Int := if j = 0 then 0 else (h : Int) + 1
def InnRel (w : World) (L B N h : Nat) (ks : List Sp) (vs : List Int) (ls : List (List Ent)) (a i : Value) (wr : World) : Prop := ∃ j : Nat, i = .int .i64 j ∧ a = .int .i64 (lvl h j) ∧ j ≤ N ∧ (∃ kv vv, ListAt wr L B (ks ++ (upTo ls j).map (·.1)) (vs ++ (upTo ls j).map (·.2)) kv vv) ∧ Below L w wr ∧ Keep L B w wr
theorem inn_rel {w X Y : World} {L B N h j : Nat} {ks : List Sp} {vs : List Int} {ls : List (List Ent)} {m : List Ent} (hU : upTo ls (j + 1) = upTo ls j ++ m)
    (hl : ∃ kv vv, ListAt Y L B ((ks ++ (upTo ls j).map (·.1)) ++ m.map (·.1)) ((vs ++ (upTo ls j).map (·.2)) ++ m.map (·.2)) kv vv) (hb0 : Below L w X) (hb : Below L X Y) (hq0 : Keep L B w X) (hq : Keep L B X Y) (hj : j + 1 ≤ N) : InnRel w L B N h ks vs ls (.int .i64 ((h : Int) + 1)) (.int .i64 ((j : Int) + 1)) Y := by
  refine ⟨j + 1, by simp, by simp [lvl], hj, ?_, hb0.trans hb, hq0.trans hq⟩
  rw [hU, List.map_append, List.map_append, ← List.append_assoc, ← List.append_assoc]
  exact hl
set_option maxHeartbeats 6400000 in
set_option maxRecDepth 100000 in
theorem lay_inner {w0 w : World} {p n L B D h : Nat} {l : List Ent} {ks : List Sp} {vs : List Int} {kv vv : Value} {root : Bool} (hn : Nd w0 (h + 1) p l n) (h1 : 2 ≤ n) (h4 : n ≤ 4) (hLB : L < B) (hBw : B ≤ w.heap.size) (hL0 : w0.heap.size ≤ L) (hbw : Below w0.heap.size w0 w) (hlist : ListAt w L B ks vs kv vv) (hsum : ks.length + l.length ≤ 400) (hD : D ≤ 12) (hh : h ≤ 12)
    (hlt : ∀ x ∈ ks, ∀ y ∈ l, lt x y.1 = true) (ha : Asc l)
    (ih : ∀ (X : World) (q s : Nat) (u : List Ent) (KS : List Sp) (VS : List Int) (kv vv : Value), Nd w0 h q u s → 2 ≤ s → s ≤ 4 → Below w0.heap.size w0 X → B ≤ X.heap.size → ListAt X L B KS VS kv vv → KS.length + u.length ≤ 400 → (∀ x ∈ KS, ∀ y ∈ u, lt x y.1 = true) → Asc u →
      Calls Try.prog 32 #[.pointer (some ⟨q, 0, none⟩), .bool false, .int .i64 (D : Int), .pointer (some ⟨L, 0, none⟩)] X (LayPost X L B h KS VS u)) :
    Calls Try.prog 32 #[.pointer (some ⟨p, 0, none⟩), .bool root, .int .i64 ((D : Int) + 1), .pointer (some ⟨L, 0, none⟩)] w (LayPost w L B (h + 1) ks vs l) := by
  obtain ⟨qs, ls, rfl, rfl, hI, hk⟩ := nd_succ.1 hn
  have hlen := hk.length
  obtain ⟨A, ca, C, cc, hin⟩ := hI
  obtain ⟨b, off, rfl, hbl, hkc⟩ := hin.keys (by rw [List.length_map]; omega)
  obtain ⟨vb, vo, rfl, hvl, hvc⟩ := hin.kids (by omega)
  have plt := hin.lt
  have c0 := (hbw.cell (p := ⟨p, 0, none⟩) plt).trans hin.c0
  have c1 := (hbw.cell (p := ⟨p, 1, none⟩) plt).trans hin.c1
  have c2 := (hbw.cell (p := ⟨p, 2, none⟩) plt).trans hin.c2
  rw [List.length_map, ← hlen] at c0
  have HX : Hid (∀ (X : World), Below L w X → X.cell? ⟨p, 0, none⟩ = some (.slice (some ⟨b, off, none⟩) qs.length ca) ∧ X.cell? ⟨p, 1, none⟩ = some (.slice none 0 0) ∧ X.cell? ⟨p, 2, none⟩ = some (.slice (some ⟨vb, vo, none⟩) qs.length cc) ∧ (∀ j (h : j < ls.length), SpAt X b (off + j * 4) (hd ls[j])) ∧ (∀ j (h : j < qs.length), X.cell? ⟨vb, vo + j, none⟩ = some (.pointer (some ⟨qs[j], 0, none⟩)))) := fun X hX => by
    have hb0 : Below w0.heap.size w0 X := hbw.trans (hX.mono hL0)
    have hk0 := hin.c0
    rw [List.length_map, ← hlen] at hk0
    exact ⟨(hb0.cell (p := ⟨p, 0, none⟩) plt).trans hk0, (hb0.cell (p := ⟨p, 1, none⟩) plt).trans hin.c1, (hb0.cell (p := ⟨p, 2, none⟩) plt).trans hin.c2, fun j h => by
      have := (hkc j (by rw [List.length_map]; exact h)).below hb0 hbl
      rw [List.getElem_map] at this
      exact this, fun j h => (hb0.cell (p := ⟨vb, vo + j, none⟩) hvl).trans (hvc j h)⟩
  have HLs := Lib.hid hlist
  have HLt := Lib.hid hlt
  have HAs := Lib.hid ha
  have HK := Lib.hid hk
  have HB := Lib.hid (And.intro hbw hL0)
  have IH := Lib.hid ih
  have HLen := Lib.hid hlen
  have hpL : p < L ∧ b < L ∧ vb < L := by omega
  obtain ⟨hpL1, hpL2, hpL3⟩ := hpL
  obtain ⟨A2, c2', e2, _, _, _⟩ := spots_own hlist.keys
  have lc0 : w.cell? ⟨L, 0, none⟩ = some (.slice A2 ks.length c2') := by have := hlist.hp; simp only [World.cell?, this, e2]; rfl
  have HS := Lib.hid hsum
  have hk400 : ks.length ≤ 400 := by omega
  clear hin hkc hvc hlt ha hbw hL0 hlist e2 hk ih hn hlen hsum
  unfold LayPost
  obtain ⟨N, hN⟩ : ∃ N, qs.length = N := ⟨_, rfl⟩
  have HN := Lib.hid hN
  rw [hN] at h1 h4 c0 c2
  have HX2 : Hid (∀ (X : World), Below L w X → X.cell? ⟨p, 0, none⟩ = some (.slice (some ⟨b, off, none⟩) N ca) ∧ X.cell? ⟨p, 1, none⟩ = some (.slice none 0 0) ∧ X.cell? ⟨p, 2, none⟩ = some (.slice (some ⟨vb, vo, none⟩) N cc) ∧ (∀ j (h : j < ls.length), SpAt X b (off + j * 4) (hd ls[j])) ∧ (∀ j (h : j < qs.length), X.cell? ⟨vb, vo + j, none⟩ = some (.pointer (some ⟨qs[j], 0, none⟩)))) := by rw [← hN]; exact HX
  clear hN HX
  generalize hks : ks.length = M0 at *
  have HM0 := Lib.hid hks
  clear hks
  have d1 : ((D : Int) + 1 == 0) = false := by rw [beq_eq_false_iff_ne]; omega
  have d2 : decide ((4 : Int) < (N : Int)) = false := by simp; omega
  have d3 : decide ((400 : Int) < (M0 : Int)) = false := by simp; omega
  have d4 : ((N : Int) != (N : Int)) = false := by simp
  have d5 : ((N : Int) == 0) = false := by rw [beq_eq_false_iff_ne]; omega
  have d6 : decide ((N : Int) < 2) = false := by simp; omega
  cases root
  all_goals
    go_enter Try.func32, Try.ntmps32
    go_wp2_with fail
    go_quiet (fail)
    go_wp2_with fail
    go_loopw [11, 12] (fun a i wr => InnRel w L B N h ks vs ls a i wr) (fun a i _ => (N - intOf i).toNat)
    case atStart => exact ⟨0, rfl, rfl, Nat.zero_le _, ⟨kv, vv, by simp only [upTo, List.take_zero, List.flatten_nil, List.map_nil, List.append_nil]; exact HLs.out.below (bel_drewN _ _)⟩, bel_drewN _ _, Keep.of (bel_drewN _ _)⟩
    case round =>
      obtain ⟨j, rfl, rfl, hj, ⟨kv, vv, hls⟩, hbr, hkr⟩ := hrel
      obtain ⟨t0, t1, t2, tk, tv⟩ := HX2.out wr hbr
      by_cases hjn : j < N
      · have hjq : j < qs.length := by rw [HN.out]; exact hjn
        have hjl : j < ls.length := by rw [← HLen.out]; exact hjq
        have hkid := HK.out.get j hjq hjl
        have hks1 := upTo_succ hjl
        have hrest := upTo_rest hjl
        have hlj : (upTo ls j ++ ls[j]).length ≤ ls.flatten.length := by rw [hrest]; simp
        have hlen2 : (ks ++ (upTo ls j).map (·.1)).length + (ls[j]).length ≤ 400 := by
          have := HS.out
          rw [List.length_append] at hlj ⊢
          rw [List.length_map, HM0.out]
          omega
        have haj := asc_kid HAs.out hjl
        have hbef : ∀ z ∈ ks ++ (upTo ls j).map (·.1), ∀ y ∈ ls[j], lt z y.1 = true := fun z hz y hy => by
          have hyf : y ∈ ls.flatten := by rw [hrest]; simp [hy]
          rcases List.mem_append.1 hz with hz | hz
          · exact HLt.out z hz y hyf
          · obtain ⟨x, hx, rfl⟩ := List.mem_map.1 hz
            have ha := HAs.out
            unfold Asc at ha
            rw [hrest] at ha
            exact (List.pairwise_append.1 (List.pairwise_append.1 ha).1).2.2 x hx y hy
        have hne : ls[j] ≠ [] := kids_ne (by omega) HK.out _ (List.getElem_mem hjl)
        obtain ⟨s, s1, s2, s3⟩ := hkid
        have hbX : Below w0.heap.size w0 wr := HB.out.1.trans (hbr.mono HB.out.2)
        have xk := tv j hjq
        have hhd := Lib.hid (fun X hX => (HX2.out X hX).2.2.2.1 j hjl)
        have IHj := Lib.hid (IH.out wr _ s _ _ _ kv vv s3 s1 s2 hbX (Nat.le_trans hBw hbr.size) hls hlen2 hbef haj)
        have HU := Lib.hid hks1
        have HLj := Lib.hid hlen2
        clear hks1 hrest hlj hlen2 haj hbef s1 s2 s3 hbX tk tv
        generalize ls[j] = m at *
        generalize qs[j] = q at *
        obtain ⟨KS, hKS⟩ : ∃ KS, ks ++ (upTo ls j).map (·.1) = KS := ⟨_, rfl⟩
        obtain ⟨VS, hVS⟩ : ∃ VS, vs ++ (upTo ls j).map (·.2) = VS := ⟨_, rfl⟩
        have HKS := Lib.hid (And.intro hKS hVS)
        rw [hKS] at hls IHj HLj
        rw [hVS] at hls IHj
        clear hKS hVS
        obtain ⟨Ar, cr, ekr, er1, er2, _⟩ := spots_own hls.keys
        have lcr : wr.cell? ⟨L, 0, none⟩ = some (.slice Ar KS.length cr) := by have := hls.hp; simp only [World.cell?, this, ekr]; rfl
        have hKl := HLj.out
        have hlv : lvl h j = lvl h j := rfl
        obtain ⟨M, hM⟩ : ∃ M, KS.length = M := ⟨_, rfl⟩
        have HM := Lib.hid hM
        rw [hM] at lcr hKl
        clear hls ekr er1 er2 hM hlv
        have e1 : (0 : Int) ≤ (j : Int) := by omega
        have e2 : (j : Int) < (N : Int) := by omega
        have w1 : IntKind.i64.wrap ((D : Int) + 1 - 1) = (D : Int) := by rw [IntKind.wrap_i64]; omega
        have w2 : (D : Int) + 1 - 1 = (D : Int) := by omega
        have w3 : IntKind.i64.wrap (D : Int) = (D : Int) := by rw [IntKind.wrap_i64]; omega
        go_wp2_with fail
        refine IHj.out.mono ?_
        rintro e w3 ⟨rfl, ⟨kv3, vv3, hls3⟩, hb3, hk3⟩
        have hbr3 : Below L w w3 := hbr.trans hb3
        obtain ⟨t0', t1', t2', _, _⟩ := HX2.out w3 hbr3
        have y0 := hhd.out w3 hbr3
        obtain ⟨A3, c3, ek3, _, _, sk3⟩ := spots_own hls3.keys
        have hT : (KS ++ m.map (·.1)).length = M + m.length := by rw [List.length_append, List.length_map, HM.out]
        have h0m : 0 < m.length := List.length_pos_iff.2 hne
        rw [hT] at ek3
        obtain ⟨g, og, rfl, hgl, hgc⟩ := sk3 (by rw [hT]; omega)
        have hz := hgc M (by rw [hT]; omega)
        have hge : (KS ++ m.map (·.1))[M]'(by rw [hT]; omega) = hd m := by
          rw [List.getElem_append_right (by rw [HM.out]; exact Nat.le_refl _)]
          cases m with
          | nil => exact absurd rfl hne
          | cons x t => simp [HM.out, hd]
        rw [hge] at hz
        have lc3 : w3.cell? ⟨L, 0, none⟩ = some (.slice (some ⟨g, og, none⟩) (M + m.length) c3) := by have := hls3.hp; simp only [World.cell?, this, ek3]; rfl
        obtain ⟨z0, z1, z2, z3⟩ := hz
        obtain ⟨x0, x1, x2, x3⟩ := y0
        have HLs3 := Lib.hid hls3
        have HB3 := Lib.hid (And.intro hbr hb3)
        have HK3 := Lib.hid (And.intro hkr hk3)
        have HJ : Hid (j + 1 ≤ N) := hjn
        have HNe := Lib.hid (fun W => by have := sp_ne (hd m) (hd m) W; rw [show (!decide (hd m = hd m)) = false by simp] at this; exact this)
        clear hk3 hge hgc sk3 ek3 hls3 hbr3 hb3 hT t0 t1 t2 lcr
        obtain ⟨T, hTT⟩ : ∃ T, M + m.length = T := ⟨_, rfl⟩
        rw [hTT] at lc3
        have f1 : decide ((T : Int) ≤ (M : Int)) = false := by simp; omega
        have f1b : decide (T ≤ M) = false := by simp; omega
        have f1c : ¬ T ≤ M := by omega
        have f1d : decide ((M : Int) ≥ (T : Int)) = false := by simp; omega
        have f2 : (0 : Int) ≤ (M : Int) := by omega
        have f3 : (M : Int) < (T : Int) := by omega
        have f4 : ((h : Int) + 1 == 0) = false := by rw [beq_eq_false_iff_ne]; omega
        have f5 : ((h : Int) + 1 != (h : Int) + 1) = false := by simp
        clear hTT h0m hne hKl hhd IHj
        generalize hd m = y at *
        have HNe' := HNe.out
        clear HNe
        by_cases hj0 : j = 0
        · subst hj0
          have g1 : lvl h 0 = 0 := rfl
          simp only [Nat.zero_mul, Nat.add_zero] at x0 x1 x2 x3
          go_wp2_with fail
          go_quiet (fail)
          go_wp2_with fail
          go_roundw
          case rel =>
            have hl3 := HLs3.out
            rw [← HKS.out.1, ← HKS.out.2] at hl3
            exact inn_rel (j := 0) HU.out ⟨_, _, hl3.below (bel_drewN _ _)⟩ HB3.out.1 (HB3.out.2.trans (bel_drewN _ _)) HK3.out.1 (HK3.out.2.trans (Keep.of (bel_drewN _ _))) HJ.out
          case measure => (simp [intOf] <;> omega)
        · have g1 : lvl h j = (h : Int) + 1 := by simp [lvl, hj0]
          have g2 : decide ((0 : Int) < (j : Int)) = true := by simp; omega
          have g2b : decide (0 < j) = true := by simp; omega
          have g2c : 0 < j := by omega
          rw [g1]
          go_wp2_with fail
          go_quiet (fail)
          go_wp2_with fail
          go_roundw
          case rel =>
            have hl3 := HLs3.out
            rw [← HKS.out.1, ← HKS.out.2] at hl3
            exact inn_rel HU.out ⟨_, _, hl3.below (bel_drewN _ _)⟩ HB3.out.1 (HB3.out.2.trans (bel_drewN _ _)) HK3.out.1 (HK3.out.2.trans (Keep.of (bel_drewN _ _))) HJ.out
          case measure => (simp [intOf] <;> omega)
      · obtain rfl : j = N := by omega
        have hu : upTo ls j = ls.flatten := by unfold upTo; rw [List.take_of_length_le (by rw [← HLen.out, HN.out]; exact Nat.le_refl _)]
        rw [hu] at hls
        have HFin := Lib.hid hls
        have g1 : lvl h j = (h : Int) + 1 := by unfold lvl; rw [if_neg (by omega)]
        rw [g1]
        have w1 : IntKind.i64.wrap ((h : Int) + 1 + 1) = (h : Int) + 1 + 1 := by rw [IntKind.wrap_i64]; omega
        clear hls hu tk tv
        go_wp2_with fail
        go_ret
        exact ⟨by simp, ⟨_, _, HFin.out⟩, hbr, hkr⟩
theorem lay_nd : ∀ (h : Nat) {w0 w : World} {p n L B D : Nat} {l : List Ent} {ks : List Sp} {vs : List Int} {kv vv : Value} {root : Bool}, Nd w0 h p l n → (if root = true then 1 ≤ n else 2 ≤ n) → (0 < h → 2 ≤ n) → n ≤ 4 → L < B → B ≤ w.heap.size → w0.heap.size ≤ L → Below w0.heap.size w0 w → ListAt w L B ks vs kv vv → ks.length + l.length ≤ 400 → h ≤ D → D + 1 ≤ 12 → (∀ x ∈ ks, ∀ y ∈ l, lt x y.1 = true) → Asc l →
    Calls Try.prog 32 #[.pointer (some ⟨p, 0, none⟩), .bool root, .int .i64 ((D : Int) + 1), .pointer (some ⟨L, 0, none⟩)] w (LayPost w L B h ks vs l)
  | 0, w0, w, p, n, L, B, D, l, ks, vs, kv, vv, root, hn, h1, _, h4, hLB, hBw, hL0, hbw, hlist, hsum, hd, hd2, hlt, ha => by
    have := lay_leaf (deep := D + 1) hn h1 h4 hLB hBw hL0 hbw hlist hsum (by omega) hd2 hlt ha
    rwa [show ((D + 1 : Nat) : Int) = (D : Int) + 1 by omega] at this
  | h + 1, w0, w, p, n, L, B, D, l, ks, vs, kv, vv, root, hn, h1, h2, h4, hLB, hBw, hL0, hbw, hlist, hsum, hd, hd2, hlt, ha => by
    refine lay_inner hn (h2 (by omega)) h4 hLB hBw hL0 hbw hlist hsum (by omega) (by omega) hlt ha (fun X q s u KS VS kv vv hq q2 q4 hX hBX hlX hsX hltX hau => ?_)
    obtain ⟨D', rfl⟩ : ∃ D', D = D' + 1 := ⟨D - 1, by omega⟩
    exact lay_nd h hq (by simpa using q2) (fun _ => q2) q4 hLB hBX hL0 hX hlX hsX (by omega) (by omega) hltX hau
end Go.Proofs.Ytainljbkejafcaa.N
