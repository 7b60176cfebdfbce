/- The walk of lay: what a node has, appended to a list. -/
import Derived.Test.YtainljbkejafcaaNRoot
import Derived.Test.YtainljbkejafcaaNList
import Derived.Test.YtainljbkejafcaaNHeldZ
namespace Go.Proofs.Ytainljbkejafcaa.N
open Go.RowKit Go.Proofs.YtainljbkejafcaaW.PrintMore Go.Proofs.YtainljbkejafcaaW.PrintWords
set_option linter.unusedVariables false
set_option linter.unusedSimpArgs false
/-- All blocks below B but L stay. -/
def Keep (L B : Nat) (w w' : World) : Prop := ∀ q, q < B → q ≠ L → w'.heap[q]? = w.heap[q]?
theorem Keep.trans {L B : Nat} {w X Y : World} (h : Keep L B w X) (h2 : Keep L B X Y) : Keep L B w Y := fun q hq hl => (h2 q hq hl).trans (h q hq hl)
theorem Keep.of {L B : Nat} {w X : World} (h : Below B w X) : Keep L B w X := fun q hq _ => h.block q hq
theorem Keep.set {L B o : Nat} {w X : World} (h : Keep L B w X) (v : Value) : Keep L B w (X.setCell ⟨L, o, none⟩ v) := fun q hq hl => (set_off v hl).trans (h q hq hl)
def LayPost (w : World) (L B : Nat) (h : Nat) (ks : List Sp) (vs : List Int) (l : List Ent) (e : Ending) (w' : World) : Prop := e = .returned (.int .i64 ((h : Int) + 1)) ∧ (∃ kv vv, ListAt w' L B (ks ++ l.map (·.1)) (vs ++ l.map (·.2)) kv vv) ∧ Below L w w' ∧ Keep L B w w'
def LayRel (w : World) (L B N : Nat) (ks : List Sp) (vs : List Int) (K : List Sp) (V : List Int) (i : Value) (wr : World) : Prop := ∃ j : Nat, i = .int .i64 j ∧ j ≤ N ∧ (∃ kv vv, ListAt wr L B (ks ++ K.take j) (vs ++ V.take j) kv vv) ∧ Below L w wr ∧ Keep L B w wr
theorem lay_rel {w X0 Y : World} {L B N M j : Nat} {ks K : List Sp} {vs V : List Int} {y : Sp} {u : Int} {KS : List Sp} {VS : List Int} {A1 A2 : Option Addr} {c1 c2 : Nat} {vv : Value} (hLB : L < B)
    (hKV : (KS = ks ++ K.take j ∧ VS = vs ++ V.take j) ∧ (K.take (j + 1) = K.take j ++ [y] ∧ V.take (j + 1) = V.take j ++ [u]))
    (hL : Y.heap[L]? = some (.cells (#[.slice A1 (M + 1) c1, vv]) 34 (0, 0)))
    (hk : Y.ownsRow B 26 4 (.slice A1 (M + 1) c1) (M + 1) (sps (KS ++ [y]))) (hv : Y.ownsRow B 24 1 (.slice A2 (M + 1) c2) (M + 1) (u64s (VS ++ [u])))
    (hap : ∀ q, (Value.slice A1 (M + 1) c1).ownBlock = some q → (Value.slice A2 (M + 1) c2).ownBlock ≠ some q) (hb0 : Below L w X0) (hb : Below L X0 Y) (hq0 : Keep L B w X0) (hq : Keep L B X0 Y) (hlen : KS.length = M ∧ VS.length = M) (hj : j + 1 ≤ N) :
    LayRel w L B N ks vs K V (.int .i64 ((j : Int) + 1)) (Y.setCell ⟨L, 1, none⟩ (.slice A2 (M + 1) c2)) := by
  obtain ⟨⟨rfl, rfl⟩, e1, e2⟩ := hKV
  have hk2 := ownsRow_setCell_below hk (a := ⟨L, 1, none⟩) hLB (.slice A2 (M + 1) c2)
  have hv2 := ownsRow_setCell_below hv (a := ⟨L, 1, none⟩) hLB (.slice A2 (M + 1) c2)
  have hL2 := set_at (o := 1) (v := .slice A2 (M + 1) c2) hL
  have l1 : (ks ++ K.take (j + 1)).length = M + 1 := by rw [e1, ← List.append_assoc, List.length_append, hlen.1]; rfl
  have l2 : (vs ++ V.take (j + 1)).length = M + 1 := by rw [e2, ← List.append_assoc, List.length_append, hlen.2]; rfl
  refine ⟨j + 1, by simp, hj, ⟨_, _, hL2, ?_, ?_, by rw [l1, l2], hLB, hap⟩, hb0.trans (hb.setCell (p := ⟨L, 1, none⟩) (Nat.le_refl _) _), (hq0.trans hq).set _⟩
  · rw [l1, e1, ← List.append_assoc]; exact hk2
  · rw [l2, e2, ← List.append_assoc]; exact hv2
set_option maxHeartbeats 6400000 in
set_option maxRecDepth 100000 in
theorem lay_leaf {w0 w : World} {p n L B deep : Nat} {l : List Ent} {ks : List Sp} {vs : List Int} {kv vv : Value} {root : Bool} (hn : Nd w0 0 p l n) (h1 : if root = true then 1 ≤ n else 2 ≤ n) (h4 : n ≤ 4) (hLB : L < B) (hBw : B ≤ w.heap.size) (hL0 : w0.heap.size ≤ L) (hbw : Below w0.heap.size w0 w) (hlist : ListAt w L B ks vs kv vv) (hsum : ks.length + l.length ≤ 400) (hd : 0 < deep) (hd2 : deep ≤ 12)
    (hlt : ∀ x ∈ ks, ∀ y ∈ l, lt x y.1 = true) (ha : Asc l) :
    Calls Try.prog 32 #[.pointer (some ⟨p, 0, none⟩), .bool root, .int .i64 deep, .pointer (some ⟨L, 0, none⟩)] w (LayPost w L B 0 ks vs l) := by
  obtain ⟨rfl, hLf⟩ := hn
  have h0 : 0 < l.length := by split at h1 <;> omega
  obtain ⟨A, ca, B, cb, hlf⟩ := hLf
  have plt := hlf.lt
  obtain ⟨b, off, rfl, hbl, hkc⟩ := hlf.keys (by rw [List.length_map]; exact h0)
  obtain ⟨vb, vo, rfl, hvl, hvc⟩ := hlf.vals (by rw [List.length_map]; exact h0)
  have c0 := (hbw.cell (p := ⟨p, 0, none⟩) plt).trans hlf.c0
  have c1 := (hbw.cell (p := ⟨p, 1, none⟩) plt).trans hlf.c1
  have c2 := (hbw.cell (p := ⟨p, 2, none⟩) plt).trans hlf.c2
  rw [List.length_map] at c0 c1
  obtain ⟨K, hK⟩ : ∃ K, l.map (·.1) = K := ⟨_, rfl⟩
  obtain ⟨V, hV⟩ : ∃ V, l.map (·.2) = V := ⟨_, rfl⟩
  have hKl : K.length = l.length := by rw [← hK, List.length_map]
  have hVl : V.length = l.length := by rw [← hV, List.length_map]
  have hltK : ∀ x ∈ ks, ∀ y ∈ K, lt x y = true := fun x hx y hy => by rw [← hK] at hy; obtain ⟨z, hz, rfl⟩ := List.mem_map.1 hy; exact hlt x hx z hz
  have hasc : ∀ i j (hi : i < K.length) (hj : j < K.length), i < j → lt K[i] K[j] = true := fun i j hi hj hij => by
    subst hK
    rw [List.getElem_map, List.getElem_map]
    unfold Asc at ha
    exact (List.pairwise_iff_getElem.1 ha) i j (by simpa using hi) (by simpa using hj) hij
  unfold LayPost
  rw [hK] at hkc ⊢
  rw [hV] at hvc ⊢
  have HX : Hid (∀ (X : World), Below L w X → X.cell? ⟨p, 0, none⟩ = some (.slice (some ⟨b, off, none⟩) l.length ca) ∧ X.cell? ⟨p, 1, none⟩ = some (.slice (some ⟨vb, vo, none⟩) l.length cb) ∧ X.cell? ⟨p, 2, none⟩ = some (.slice none 0 0) ∧ (∀ j (h : j < K.length), SpAt X b (off + j * 4) K[j]) ∧ (∀ j (h : j < V.length), X.cell? ⟨vb, vo + j, none⟩ = some (.int .u64 V[j]))) := fun X hX => by
    have hb0 : Below w0.heap.size w0 X := hbw.trans (hX.mono hL0)
    have hk0 := hlf.c0
    have hk1 := hlf.c1
    rw [List.length_map] at hk0 hk1
    exact ⟨(hb0.cell (p := ⟨p, 0, none⟩) plt).trans hk0, (hb0.cell (p := ⟨p, 1, none⟩) plt).trans hk1, (hb0.cell (p := ⟨p, 2, none⟩) plt).trans hlf.c2, fun j h => (hkc j h).below hb0 hbl, fun j h => (hb0.cell (p := ⟨vb, vo + j, none⟩) hvl).trans (hvc j h)⟩
  have HLs := Lib.hid hlist
  have HKV := Lib.hid (And.intro hKl hVl)
  have HLt := Lib.hid hltK
  have HAs := Lib.hid hasc
  have hpL : p < L ∧ b < L ∧ vb < L := by omega
  obtain ⟨hpL1, hpL2, hpL3⟩ := hpL
  obtain ⟨A2, c2', e2, _, _, _⟩ := spots_own hlist.keys
  have lc0 : w.cell? ⟨L, 0, none⟩ = some (.slice A2 ks.length c2') := by have := hlist.hp; simp only [World.cell?, this, e2]; rfl
  clear hlf hkc hvc hlt ha hbw hL0 hlist hK hV hKl hVl hltK hasc e2
  generalize l.length = N at *
  generalize hks : ks.length = M0 at *
  have HM0 := Lib.hid hks
  clear hks
  have d1 : ((deep : Int) == 0) = false := by rw [beq_eq_false_iff_ne]; omega
  have d2 : decide ((4 : Int) < (N : Int)) = false := by simp; omega
  have d3 : decide ((400 : Int) < (M0 : Int)) = false := by simp; omega
  have d4 : ((N : Int) != (N : Int)) = false := by simp
  have HLay : Hid (∀ (root : Bool), (if root = true then 1 ≤ N else 2 ≤ N) → Calls Try.prog 32 #[.pointer (some ⟨p, 0, none⟩), .bool root, .int .i64 deep, .pointer (some ⟨L, 0, none⟩)] w (fun e w' => e = .returned (.int .i64 ((0 : Nat) + 1)) ∧ (∃ kv vv, ListAt w' L B (ks ++ K) (vs ++ V) kv vv) ∧ Below L w w' ∧ Keep L B w w')) := by
    show ∀ root, _
    intro root h1
    cases root
    · have h2 : 2 ≤ N := by simpa using h1
      have d5 : decide ((N : Int) < 2) = false := by simp; omega
      clear h1
      go_enter Try.func32, Try.ntmps32
      go_wp2_with fail
      go_quiet (fail)
      go_wp2_with fail
      go_loopw [10] (fun i wr => LayRel w L B N ks vs K V i wr) (fun i _ => (N - intOf i).toNat)
      case atStart => exact ⟨0, rfl, Nat.zero_le _, ⟨kv, vv, by rw [List.take_zero, List.take_zero, List.append_nil, List.append_nil]; exact HLs.out.below (bel_drewN _ _)⟩, bel_drewN _ _, Keep.of (bel_drewN _ _)⟩
      case round =>
        obtain ⟨j, rfl, hj, ⟨kv, vv, hls⟩, hbr, hkr⟩ := hrel
        obtain ⟨t0, t1, t2, tk, tv⟩ := HX.out wr hbr
        by_cases hjn : j < N
        · obtain ⟨hkl, hvl⟩ := HKV.out
          have hjk : j < K.length := by omega
          have hjv : j < V.length := by omega
          have hlenK : (ks ++ K.take j).length = M0 + j := by rw [List.length_append, List.length_take, HM0.out]; omega
          have hlenV : (vs ++ V.take j).length = M0 + j := by rw [hls.len, hlenK]
          obtain ⟨x0, x1, x2, x3⟩ := tk j hjk
          have xv := tv j hjv
          have hbef : Hid (∀ z ∈ ks ++ K.take j, lt z K[j] = true) := fun z hz => by
            rcases List.mem_append.1 hz with hz | hz
            · exact HLt.out z hz _ (List.getElem_mem hjk)
            · obtain ⟨i, hi, rfl⟩ := List.mem_take_iff_getElem.1 hz
              exact HAs.out i j (by omega) hjk (by omega)
          have hks1 : K.take (j + 1) = K.take j ++ [K[j]] := List.take_succ_eq_append_getElem hjk
          have hvs1 : V.take (j + 1) = V.take j ++ [V[j]] := List.take_succ_eq_append_getElem hjv
          have hsum2 : M0 + j ≤ 1000 := by omega
          have HK1 := Lib.hid hks1
          have HV1 := Lib.hid hvs1
          clear hks1 hvs1 tk tv
          generalize hy : K[j] = y at *
          generalize hu : V[j] = u at *
          clear hy hu
          obtain ⟨KS, hKS⟩ : ∃ KS, ks ++ K.take j = KS := ⟨_, rfl⟩
          obtain ⟨VS, hVS⟩ : ∃ VS, vs ++ V.take j = VS := ⟨_, rfl⟩
          rw [hKS] at hls hlenK hbef
          rw [hVS] at hls hlenV
          have hKV0 := Lib.hid (And.intro hKS hVS)
          clear hKS hVS
          obtain ⟨M, hM⟩ : ∃ M, M0 + j = M := ⟨_, rfl⟩
          rw [hM] at hlenK hlenV hsum2
          clear hM
          have hls0 := hls
          obtain ⟨Lp, Lk, Lv, Ll, Lb, Lap⟩ := hls
          rw [hlenK] at Lk
          rw [hlenV] at Lv
          have Lk' := Lk
          rw [← hlenK] at Lk'
          obtain ⟨A, c, ekv, ec1, ec2, skv⟩ := spots_own Lk'
          rw [hlenK] at ekv ec1
          have lLt := (Array.getElem?_eq_some_iff.1 Lp).1
          have lc : wr.cell? ⟨L, 0, none⟩ = some (.slice A M c) := by simp only [World.cell?, Lp, ekv]; rfl
          have HLp := Lib.hid Lp
          have HLk := Lib.hid Lk
          have HLv := Lib.hid Lv
          have HLap := Lib.hid Lap
          have HSk := Lib.hid skv
          have HE := Lib.hid ekv
          have HLn := Lib.hid (And.intro hlenK hlenV)
          clear Lp Lk Lv Lap Lk' skv ekv hls0 Ll Lb hlenK hlenV
          have e1 : (0 : Int) ≤ (j : Int) := by omega
          have e2 : (j : Int) < (N : Int) := by omega
          have zp : p < wr.heap.size := by omega
          have zb : b < wr.heap.size := by omega
          have zv : vb < wr.heap.size := by omega
          go_wp2_with fail
          go_cut [107] (fun s107 wx => s107 = .bool false ∧ Below wr.heap.size wr wx)
          case first =>
            cases M with
            | zero =>
              have D : decide ((0 : Int) < (0 : Int)) = false := by simp
              go_quiet (fail)
              go_wp2_with fail
              go_meet
              exact ⟨rfl, bel_drewN _ _⟩
            | succ m =>
              have D : decide ((0 : Int) < (m : Int) + 1) = true := by simp <;> omega
              have D2 : (0 : Int) < (m : Int) + 1 := by omega
              obtain ⟨g, og, eA, hgl, hgc⟩ := HSk.out (by rw [HLn.out.1]; omega)
              obtain ⟨z0, z1, z2, z3⟩ := hgc m (by rw [HLn.out.1]; omega)
              have hlz := Lib.hid (hbef.out _ (List.getElem_mem (show m < KS.length by rw [HLn.out.1]; omega)))
              subst eA
              generalize KS[m]'(_) = zl at *
              have w1 : IntKind.i64.wrap ((m : Int) + 1 - 1) = (m : Int) := by rw [IntKind.wrap_i64]; omega
              have w2 : (m : Int) + 1 - 1 = (m : Int) := by omega
              have w3 : IntKind.i64.wrap (m : Int) = (m : Int) := by rw [IntKind.wrap_i64]; omega
              have w4 : (0 : Int) ≤ (m : Int) := by omega
              have w5 : (m : Int) < (m : Int) + 1 := by omega
              have HBf := fun W => Lib.hid (rbefore_at' zl y W)
              clear hgc
              go_region_held3 (fun w' => w'.cell? ⟨L, 0, none⟩ = some (.slice (some ⟨g, og, none⟩) (m + 1) c) ∧ w'.cell? ⟨g, og + m * 4, none⟩ = some (.int .i64 zl.br) ∧ w'.cell? ⟨g, og + m * 4 + 1, none⟩ = some (.int .i64 zl.vol) ∧ w'.cell? ⟨g, og + m * 4 + 2, none⟩ = some (.int .i64 zl.blk) ∧ w'.cell? ⟨g, og + m * 4 + 3, none⟩ = some (.int .u64 zl.num) ∧ w'.cell? ⟨p, 0, none⟩ = some (.slice (some ⟨b, off, none⟩) N ca) ∧ w'.cell? ⟨b, off + j * 4, none⟩ = some (.int .i64 y.br) ∧ w'.cell? ⟨b, off + j * 4 + 1, none⟩ = some (.int .i64 y.vol) ∧ w'.cell? ⟨b, off + j * 4 + 2, none⟩ = some (.int .i64 y.blk) ∧ w'.cell? ⟨b, off + j * 4 + 3, none⟩ = some (.int .u64 y.num)) (go_keep)
                (first
                | (go_at_call 21; refine (HBf _).out.mono ?_; rintro e w5 ⟨rfl, hb5⟩; rw [hlz.out]; replace hb5 := bel_undrew hb5; obtain ⟨bc5, bf5⟩ := bcell hb5; have z5 := hb5.size))
              go_wp2_with fail
              go_meet
              exact ⟨rfl, hb5⟩
          case rest =>
            obtain ⟨rfl, hbx⟩ := hcut
            have lLw : L < wr.heap.size := lLt
            have hbrx : Below L w wc := hbr.trans (hbx.mono (Nat.le_of_lt lLt))
            have t0' := (hbx.cell (p := ⟨p, 0, none⟩) zp).trans t0
            have t1' := (hbx.cell (p := ⟨p, 1, none⟩) zp).trans t1
            have y0' := (hbx.cell (p := ⟨b, _, none⟩) zb).trans x0
            have y1' := (hbx.cell (p := ⟨b, _, none⟩) zb).trans x1
            have y2' := (hbx.cell (p := ⟨b, _, none⟩) zb).trans x2
            have y3' := (hbx.cell (p := ⟨b, _, none⟩) zb).trans x3
            have yv' := (hbx.cell (p := ⟨vb, vo + j, none⟩) zv).trans xv
            have hL0 : wc.drew.heap[L]? = some (.cells #[kv, vv] 34 (0, 0)) := (hbx.block L lLt).trans HLp.out
            have hk0 : wc.drew.ownsRow B 26 4 kv M (sps KS) := own_stay HLk.out (fun q hq => hbx.block q (own_lt HLk.out q hq))
            have hv0 : wc.drew.ownsRow B 24 1 vv M (u64s VS) := own_stay HLv.out (fun q hq => hbx.block q (own_lt HLv.out q hq))
            have hzc : wr.heap.size ≤ wc.drew.heap.size := hbx.size
            have hL1 : B ≤ wc.drew.heap.size := Nat.le_trans (Nat.le_trans hBw hbr.size) hzc
            have hkX0 : Keep L B w wc.drew := hkr.trans (Keep.of ((hbx.mono (Nat.le_trans hBw hbr.size)).trans (bel_drewN _ _ (n := 1))))
            have hlk : ∀ q, kv.ownBlock = some q → q < wc.drew.heap.size := fun q hq => own_lt hk0 q hq
            have hlv : ∀ q, vv.ownBlock = some q → q < wc.drew.heap.size := fun q hq => own_lt hv0 q hq
            have hap := HLap.out
            have hbX0 : Below L w wc.drew := hbrx.trans (bel_drewN _ _ (n := 1))
            have hlen2 := HLn.out
            have hKV : (KS = ks ++ K.take j ∧ VS = vs ++ V.take j) ∧ (K.take (j + 1) = K.take j ++ [y] ∧ V.take (j + 1) = V.take j ++ [u]) := ⟨⟨hKV0.out.1.symm, hKV0.out.2.symm⟩, HK1.out, HV1.out⟩
            have hj2 : j + 1 ≤ N := hjn
            have held : ∀ X, Below B wc.drew X → (fun w' => w'.cell? ⟨L, 0, none⟩ = some kv ∧ w'.cell? ⟨L, 1, none⟩ = some vv ∧ w'.cell? ⟨p, 0, none⟩ = some (.slice (some ⟨b, off, none⟩) N ca) ∧ w'.cell? ⟨p, 1, none⟩ = some (.slice (some ⟨vb, vo, none⟩) N cb) ∧ w'.cell? ⟨b, off + j * 4, none⟩ = some (.int .i64 y.br) ∧ w'.cell? ⟨b, off + j * 4 + 1, none⟩ = some (.int .i64 y.vol) ∧ w'.cell? ⟨b, off + j * 4 + 2, none⟩ = some (.int .i64 y.blk) ∧ w'.cell? ⟨b, off + j * 4 + 3, none⟩ = some (.int .u64 y.num) ∧ w'.cell? ⟨vb, vo + j, none⟩ = some (.int .u64 u)) X := fun X hX => ⟨(hX.cell (p := ⟨L, 0, none⟩) hLB).trans (by simp only [World.cell?, hL0]; rfl), (hX.cell (p := ⟨L, 1, none⟩) hLB).trans (by simp only [World.cell?, hL0]; rfl), (hX.cell (p := ⟨p, 0, none⟩) (Nat.lt_trans hpL1 hLB)).trans t0', (hX.cell (p := ⟨p, 1, none⟩) (Nat.lt_trans hpL1 hLB)).trans t1', (hX.cell (p := ⟨b, _, none⟩) (Nat.lt_trans hpL2 hLB)).trans y0', (hX.cell (p := ⟨b, _, none⟩) (Nat.lt_trans hpL2 hLB)).trans y1', (hX.cell (p := ⟨b, _, none⟩) (Nat.lt_trans hpL2 hLB)).trans y2', (hX.cell (p := ⟨b, _, none⟩) (Nat.lt_trans hpL2 hLB)).trans y3', (hX.cell (p := ⟨vb, vo + j, none⟩) (Nat.lt_trans hpL3 hLB)).trans yv'⟩
            have hb0 : Below B wc.drew wc.drew := Below.refl _ _
            have HKVh := Lib.hid hKV
            have HLen2 := Lib.hid hlen2
            clear t0' t1' y0' y1' y2' y3' yv' hKV hlen2 lc t0 t1 t2 x0 x1 x2 x3 xv hbrx
            go_wp2_with fail
            refine Z_start [30, 33] (fun w' => w'.cell? ⟨L, 0, none⟩ = some kv ∧ w'.cell? ⟨L, 1, none⟩ = some vv ∧ w'.cell? ⟨p, 0, none⟩ = some (.slice (some ⟨b, off, none⟩) N ca) ∧ w'.cell? ⟨p, 1, none⟩ = some (.slice (some ⟨vb, vo, none⟩) N cb) ∧ w'.cell? ⟨b, off + j * 4, none⟩ = some (.int .i64 y.br) ∧ w'.cell? ⟨b, off + j * 4 + 1, none⟩ = some (.int .i64 y.vol) ∧ w'.cell? ⟨b, off + j * 4 + 2, none⟩ = some (.int .i64 y.blk) ∧ w'.cell? ⟨b, off + j * 4 + 3, none⟩ = some (.int .u64 y.num) ∧ w'.cell? ⟨vb, vo + j, none⟩ = some (.int .u64 u)) (by kernel_rfl) ?_
            generalize World.drew wc = X0 at *
            refine Z_free (i := 0) (v := ?_) rfl (by kernel_rfl) (by kernel_rfl) (by kernel_rfl) (by kernel_rfl) (fun _ _ _ h => h) (Or.inl ⟨by rfl, ?_⟩) (fun _ => held _ hb0) ?_
            rotate_left
            · (intro w' hSw; (try dsimp only at hSw); go_simp <;> (with_reducible rfl))
            try simp only [Act.put, List.setIfInBounds_toArray, List.set_cons_zero, List.set_cons_succ]
            refine Z_free (i := 1) (v := ?_) rfl (by kernel_rfl) (by kernel_rfl) (by kernel_rfl) (by kernel_rfl) (fun _ _ _ h => h) (Or.inl ⟨by rfl, ?_⟩) (fun _ => held _ hb0) ?_
            rotate_left
            · (intro w' hSw; (try dsimp only at hSw); go_simp <;> (with_reducible rfl))
            try simp only [Act.put, List.setIfInBounds_toArray, List.set_cons_zero, List.set_cons_succ]
            refine Z_free (i := 2) (v := ?_) rfl (by kernel_rfl) (by kernel_rfl) (by kernel_rfl) (by kernel_rfl) (fun _ _ _ h => h) (Or.inl ⟨by rfl, ?_⟩) (fun _ => held _ hb0) ?_
            rotate_left
            · (intro w' hSw; (try dsimp only at hSw); go_simp <;> (with_reducible rfl))
            try simp only [Act.put, List.setIfInBounds_toArray, List.set_cons_zero, List.set_cons_succ]
            refine Z_free (i := 6) (v := ?_) rfl (by kernel_rfl) (by kernel_rfl) (by kernel_rfl) (by kernel_rfl) (fun _ _ _ h => h) (Or.inl ⟨by rfl, ?_⟩) (fun _ => held _ hb0) ?_
            rotate_left
            · (intro w' hSw; (try dsimp only at hSw); go_simp <;> (with_reducible rfl))
            try simp only [Act.put, List.setIfInBounds_toArray, List.set_cons_zero, List.set_cons_succ]
            refine Z_free (i := 10) (v := ?_) rfl (by kernel_rfl) (by kernel_rfl) (by kernel_rfl) (by kernel_rfl) (fun _ _ _ h => h) (Or.inl ⟨by rfl, ?_⟩) (fun _ => held _ hb0) ?_
            rotate_left
            · (intro w' hSw; (try dsimp only at hSw); go_simp <;> (with_reducible rfl))
            try simp only [Act.put, List.setIfInBounds_toArray, List.set_cons_zero, List.set_cons_succ]
            refine Z_free (i := 15) (v := ?_) rfl (by kernel_rfl) (by kernel_rfl) (by kernel_rfl) (by kernel_rfl) (fun _ _ _ h => h) (Or.inl ⟨by rfl, ?_⟩) (fun _ => held _ hb0) ?_
            rotate_left
            · (intro w' hSw; (try dsimp only at hSw); go_simp <;> (with_reducible rfl))
            try simp only [Act.put, List.setIfInBounds_toArray, List.set_cons_zero, List.set_cons_succ]
            refine Z_free (i := 19) (v := ?_) rfl (by kernel_rfl) (by kernel_rfl) (by kernel_rfl) (by kernel_rfl) (fun _ _ _ h => h) (Or.inl ⟨by rfl, ?_⟩) (fun _ => held _ hb0) ?_
            rotate_left
            · (intro w' hSw; (try dsimp only at hSw); go_simp <;> (with_reducible rfl))
            try simp only [Act.put, List.setIfInBounds_toArray, List.set_cons_zero, List.set_cons_succ]
            refine Z_free (i := 23) (v := ?_) rfl (by kernel_rfl) (by kernel_rfl) (by kernel_rfl) (by kernel_rfl) (fun _ _ _ h => h) (Or.inl ⟨by rfl, ?_⟩) (fun _ => held _ hb0) ?_
            rotate_left
            · (intro w' hSw; (try dsimp only at hSw); go_simp <;> (with_reducible rfl))
            try simp only [Act.put, List.setIfInBounds_toArray, List.set_cons_zero, List.set_cons_succ]
            refine Z_take (i := 3) (v := ?_) [[3], [3]] rfl (by kernel_rfl) (by kernel_rfl) (by kernel_rfl) (by kernel_rfl) (by kernel_rfl) (fun _ _ _ h => h) (Or.inl ⟨by rfl, ?_⟩) (held _ hb0) ?_
            rotate_left
            · (intro w' hSw; (try dsimp only at hSw); go_simp <;> (with_reducible rfl))
            try simp only [Act.put, List.setIfInBounds_toArray, List.set_cons_zero, List.set_cons_succ]
            refine Z_take (i := 4) (v := ?_) [[4], [4]] rfl (by kernel_rfl) (by kernel_rfl) (by kernel_rfl) (by kernel_rfl) (by kernel_rfl) (fun _ _ _ h => h) (Or.inl ⟨by rfl, ?_⟩) (held _ hb0) ?_
            rotate_left
            · (intro w' hSw; (try dsimp only at hSw); go_simp <;> (with_reducible rfl))
            try simp only [Act.put, List.setIfInBounds_toArray, List.set_cons_zero, List.set_cons_succ]
            refine Z_take (i := 5) (v := ?_) [[5], [5]] rfl (by kernel_rfl) (by kernel_rfl) (by kernel_rfl) (by kernel_rfl) (by kernel_rfl) (fun _ _ _ h => h) (Or.inl ⟨by rfl, ?_⟩) (held _ hb0) ?_
            rotate_left
            · (intro w' hSw; (try dsimp only at hSw); go_simp <;> (with_reducible rfl))
            try simp only [Act.put, List.setIfInBounds_toArray, List.set_cons_zero, List.set_cons_succ]
            refine Z_take (i := 7) (v := ?_) [[7], [7]] rfl (by kernel_rfl) (by kernel_rfl) (by kernel_rfl) (by kernel_rfl) (by kernel_rfl) (fun _ _ _ h => h) (Or.inl ⟨by rfl, ?_⟩) (held _ hb0) ?_
            rotate_left
            · (intro w' hSw; (try dsimp only at hSw); go_simp <;> (with_reducible rfl))
            try simp only [Act.put, List.setIfInBounds_toArray, List.set_cons_zero, List.set_cons_succ]
            refine Z_take (i := 8) (v := ?_) [[8], [8]] rfl (by kernel_rfl) (by kernel_rfl) (by kernel_rfl) (by kernel_rfl) (by kernel_rfl) (fun _ _ _ h => h) (Or.inl ⟨by rfl, ?_⟩) (held _ hb0) ?_
            rotate_left
            · (intro w' hSw; (try dsimp only at hSw); go_simp <;> (with_reducible rfl))
            try simp only [Act.put, List.setIfInBounds_toArray, List.set_cons_zero, List.set_cons_succ]
            refine Z_take (i := 9) (v := ?_) [[9], [9]] rfl (by kernel_rfl) (by kernel_rfl) (by kernel_rfl) (by kernel_rfl) (by kernel_rfl) (fun _ _ _ h => h) (Or.inl ⟨by rfl, ?_⟩) (held _ hb0) ?_
            rotate_left
            · (intro w' hSw; (try dsimp only at hSw); go_simp <;> (with_reducible rfl))
            try simp only [Act.put, List.setIfInBounds_toArray, List.set_cons_zero, List.set_cons_succ]
            refine Z_take (i := 11) (v := ?_) [[11], [11]] rfl (by kernel_rfl) (by kernel_rfl) (by kernel_rfl) (by kernel_rfl) (by kernel_rfl) (fun _ _ _ h => h) (Or.inl ⟨by rfl, ?_⟩) (held _ hb0) ?_
            rotate_left
            · (intro w' hSw; (try dsimp only at hSw); go_simp <;> (with_reducible rfl))
            try simp only [Act.put, List.setIfInBounds_toArray, List.set_cons_zero, List.set_cons_succ]
            refine Z_take (i := 12) (v := ?_) [[12], [12]] rfl (by kernel_rfl) (by kernel_rfl) (by kernel_rfl) (by kernel_rfl) (by kernel_rfl) (fun _ _ _ h => h) (Or.inl ⟨by rfl, ?_⟩) (held _ hb0) ?_
            rotate_left
            · (intro w' hSw; (try dsimp only at hSw); go_simp <;> (with_reducible rfl))
            try simp only [Act.put, List.setIfInBounds_toArray, List.set_cons_zero, List.set_cons_succ]
            refine Z_take (i := 16) (v := ?_) [[18, 17, 16], [16]] rfl (by kernel_rfl) (by kernel_rfl) (by kernel_rfl) (by kernel_rfl) (by kernel_rfl) (fun _ _ _ h => h) (Or.inl ⟨by rfl, ?_⟩) (held _ hb0) ?_
            rotate_left
            · (intro w' hSw; (try dsimp only at hSw); go_simp <;> (with_reducible rfl))
            try simp only [Act.put, List.setIfInBounds_toArray, List.set_cons_zero, List.set_cons_succ]
            refine Z_take (i := 17) (v := ?_) [[18, 17], [17]] rfl (by kernel_rfl) (by kernel_rfl) (by kernel_rfl) (by kernel_rfl) (by kernel_rfl) (fun _ _ _ h => h) (Or.inl ⟨by rfl, ?_⟩) (held _ hb0) ?_
            rotate_left
            · (intro w' hSw; (try dsimp only at hSw); go_simp <;> (with_reducible rfl))
            try simp only [Act.put, List.setIfInBounds_toArray, List.set_cons_zero, List.set_cons_succ]
            refine Z_take (i := 18) (v := ?_) [[18], [18]] rfl (by kernel_rfl) (by kernel_rfl) (by kernel_rfl) (by kernel_rfl) (by kernel_rfl) (fun _ _ _ h => h) (Or.inl ⟨by rfl, ?_⟩) (held _ hb0) ?_
            rotate_left
            · (intro w' hSw; (try dsimp only at hSw); go_simp <;> (with_reducible rfl))
            try simp only [Act.put, List.setIfInBounds_toArray, List.set_cons_zero, List.set_cons_succ]
            refine Z_take (i := 20) (v := ?_) [[22, 21, 20], [20]] rfl (by kernel_rfl) (by kernel_rfl) (by kernel_rfl) (by kernel_rfl) (by kernel_rfl) (fun _ _ _ h => h) (Or.inl ⟨by rfl, ?_⟩) (held _ hb0) ?_
            rotate_left
            · (intro w' hSw; (try dsimp only at hSw); go_simp <;> (with_reducible rfl))
            try simp only [Act.put, List.setIfInBounds_toArray, List.set_cons_zero, List.set_cons_succ]
            refine Z_take (i := 21) (v := ?_) [[22, 21], [21]] rfl (by kernel_rfl) (by kernel_rfl) (by kernel_rfl) (by kernel_rfl) (by kernel_rfl) (fun _ _ _ h => h) (Or.inl ⟨by rfl, ?_⟩) (held _ hb0) ?_
            rotate_left
            · (intro w' hSw; (try dsimp only at hSw); go_simp <;> (with_reducible rfl))
            try simp only [Act.put, List.setIfInBounds_toArray, List.set_cons_zero, List.set_cons_succ]
            refine Z_take (i := 22) (v := ?_) [[22], [22]] rfl (by kernel_rfl) (by kernel_rfl) (by kernel_rfl) (by kernel_rfl) (by kernel_rfl) (fun _ _ _ h => h) (Or.inl ⟨by rfl, ?_⟩) (held _ hb0) ?_
            rotate_left
            · (intro w' hSw; (try dsimp only at hSw); go_simp <;> (with_reducible rfl))
            try simp only [Act.put, List.setIfInBounds_toArray, List.set_cons_zero, List.set_cons_succ]
            refine Z_take (i := 24) (v := ?_) [[25, 24], [24]] rfl (by kernel_rfl) (by kernel_rfl) (by kernel_rfl) (by kernel_rfl) (by kernel_rfl) (fun _ _ _ h => h) (Or.inl ⟨by rfl, ?_⟩) (held _ hb0) ?_
            rotate_left
            · (intro w' hSw; (try dsimp only at hSw); go_simp <;> (with_reducible rfl))
            try simp only [Act.put, List.setIfInBounds_toArray, List.set_cons_zero, List.set_cons_succ]
            refine Z_take (i := 25) (v := ?_) [[25], [25]] rfl (by kernel_rfl) (by kernel_rfl) (by kernel_rfl) (by kernel_rfl) (by kernel_rfl) (fun _ _ _ h => h) (Or.inl ⟨by rfl, ?_⟩) (held _ hb0) ?_
            rotate_left
            · (intro w' hSw; (try dsimp only at hSw); go_simp <;> (with_reducible rfl))
            try simp only [Act.put, List.setIfInBounds_toArray, List.set_cons_zero, List.set_cons_succ]
            refine Z_two (i := 13) (j := 26) rfl rfl (by kernel_rfl) (by rfl) (by rfl) (fun K hK => ?_) (fun K hK => ?_)
            · go_simp
              have hs1 := spot_new X0 y
              have hc1 : Below X0.heap.size X0 (X0.alloc (.cells #[.int .i64 y.br, .int .i64 y.vol, .int .i64 y.blk, .int .u64 y.num] 26)) := (Below.refl _ _).alloc (Nat.le_refl _) _
              have hk1 := hk0.alloc (.cells #[.int .i64 y.br, .int .i64 y.vol, .int .i64 y.blk, .int .u64 y.num] 26)
              have hv1 := hv0.alloc (.cells #[.int .i64 y.br, .int .i64 y.vol, .int .i64 y.blk, .int .u64 y.num] 26)
              generalize hX1 : World.alloc X0 (.cells #[.int .i64 y.br, .int .i64 y.vol, .int .i64 y.blk, .int .u64 y.num] 26) = X1 at *
              have hb1 := hb0.trans (hc1.mono (Nat.le_trans hL1 hb0.size))
              have hz1 := hb1.size
              refine hK.out _ _ (fun _ => held _ hb1) ?_
              clear hK K
              try simp only [Act.put, List.setIfInBounds_toArray, List.set_cons_zero, List.set_cons_succ]
              refine Z_two (i := 14) (j := 26) rfl rfl (by kernel_rfl) (by rfl) (by rfl) (fun K hK => ?_) (fun K hK => ?_)
              · refine app_S (.tmp 113) (.tmp 121) rfl B _ M _ (by rfl) hk1 _ 1 1 [y] (by rfl) rfl hs1 (fun e => by cases e) (M + 1) rfl (by omega) (Nat.le_trans hL1 hb1.size) ?_
                intro A2 c2 X2 hk2 hg2 ha2 hc2
                have hb2 := hb1.trans hc2
                have hz2 := hb2.size
                have hv2 := own_stay hv1 (fun q hq => hg2.block q (own_lt hv1 q hq) (fun e => hap q e.symm hq))
                refine hK.out _ _ (fun _ => held _ hb2) ?_
                clear hK K
                try simp only [Act.put, List.setIfInBounds_toArray, List.set_cons_zero, List.set_cons_succ]
                refine Z_one (i := 26) rfl (by kernel_rfl) (by rfl) (fun K hK => ?_)
                go_simp
                have hs3 := val_new X2 u
                have hc3 : Below X2.heap.size X2 (X2.alloc (.cells #[.int .u64 u] 24)) := (Below.refl _ _).alloc (Nat.le_refl _) _
                have hk3 := hk2.alloc (.cells #[.int .u64 u] 24)
                have hv3 := hv2.alloc (.cells #[.int .u64 u] 24)
                generalize hX3 : World.alloc X2 (.cells #[.int .u64 u] 24) = X3 at *
                have hb3 := hb2.trans (hc3.mono (Nat.le_trans hL1 hb2.size))
                have hz3 := hb3.size
                refine hK.out _ _ (fun _ => held _ hb3) ?_
                clear hK K
                try simp only [Act.put, List.setIfInBounds_toArray, List.set_cons_zero, List.set_cons_succ]
                refine Z_one (i := 27) rfl (by kernel_rfl) (by rfl) (fun K hK => ?_)
                refine app_U (.tmp 126) (.tmp 134) rfl B _ M _ (by rfl) hv3 _ 1 1 [u] (by rfl) rfl hs3 (fun e => by cases e) (M + 1) rfl (by omega) (Nat.le_trans hL1 hb3.size) ?_
                intro A4 c4 X4 hv4 hg4 hd4 hc4
                have hb4 := hb3.trans hc4
                have hz4 := hb4.size
                have hk4 := own_stay hk3 (fun q hq => hg4.block q (own_lt hk3 q hq) (fun e => by rcases ha2 with h | h; (· exact hap q (h.symm.trans hq) e.symm); (· rw [hq] at h; cases h; have := hlv _ e.symm; omega)))
                have hAp4 : ∀ q, (Value.slice A2 (M + 1) c2).ownBlock = some q → (Value.slice A4 (M + 1) c4).ownBlock ≠ some q := fun q hq e => by
                  have hlq := own_lt hk3 q hq
                  rcases hd4 with h | h
                  · rcases ha2 with h2 | h2
                    · exact hap q (h2.symm.trans hq) (h.symm.trans e)
                    · have := hlv q (h.symm.trans e); rw [hq] at h2; cases h2; omega
                  · rw [h] at e; cases e; omega
                refine hK.out _ _ (fun _ => held _ hb4) ?_
                clear hK K
                try simp only [Act.put, List.setIfInBounds_toArray, List.set_cons_zero, List.set_cons_succ]
                refine Z_take (i := 28) (v := ?_) [[29, 28], [28]] rfl (by kernel_rfl) (by kernel_rfl) (by kernel_rfl) (by kernel_rfl) (by kernel_rfl) (fun _ _ _ h => h) (Or.inl ⟨by rfl, ?_⟩) (held _ hb4) ?_
                rotate_left
                · (intro w' hSw; (try dsimp only at hSw); go_simp <;> (with_reducible rfl))
                try simp only [Act.put, List.setIfInBounds_toArray, List.set_cons_zero, List.set_cons_succ]
                refine Z_take (i := 29) (v := ?_) [[29], [29]] rfl (by kernel_rfl) (by kernel_rfl) (by kernel_rfl) (by kernel_rfl) (by kernel_rfl) (fun _ _ _ h => h) (Or.inl ⟨by rfl, ?_⟩) (held _ hb4) ?_
                rotate_left
                · (intro w' hSw; (try dsimp only at hSw); go_simp <;> (with_reducible rfl))
                try simp only [Act.put, List.setIfInBounds_toArray, List.set_cons_zero, List.set_cons_succ]
                refine Z_one (i := 30) rfl (by kernel_rfl) (by rfl) (fun K hK => ?_)
                have hLX : X4.heap[L]? = _ := (hb4.block L hLB).trans hL0
                have hfr : X4.frozen? ⟨L, 0, none⟩ = false := by simp only [World.frozen?, hLX]; simp
                have hcl : X4.cell? ⟨L, 0, none⟩ = some kv := by simp only [World.cell?, hLX]; rfl
                have hLY := set_at (o := 0) (v := (.slice A2 (M + 1) c2)) hLX
                have hkY := ownsRow_setCell_below hk4 (a := ⟨L, 0, none⟩) hLB (.slice A2 (M + 1) c2)
                have hvY := ownsRow_setCell_below hv4 (a := ⟨L, 0, none⟩) hLB (.slice A2 (M + 1) c2)
                have hbY : Below L X0 (X4.setCell ⟨L, 0, none⟩ (.slice A2 (M + 1) c2)) := (hb4.mono (Nat.le_of_lt hLB)).setCell (p := ⟨L, 0, none⟩) (Nat.le_refl _) _
                have hkY2 : Keep L B X0 (X4.setCell ⟨L, 0, none⟩ (.slice A2 (M + 1) c2)) := (Keep.of hb4).set _
                go_simp
                generalize X4.setCell ⟨L, 0, none⟩ (.slice A2 (M + 1) c2) = Y at *
                refine hK.out _ _ (fun h => absurd h (none_of_not (by kernel_rfl))) ?_
                clear hK K
                try simp only [Act.put, List.setIfInBounds_toArray, List.set_cons_zero, List.set_cons_succ]
                refine Z_one (i := 31) rfl (by kernel_rfl) (by rfl) (fun K hK => ?_)
                go_simp
                refine hK.out _ _ (fun h => absurd h (none_of_not (by kernel_rfl))) ?_
                clear hK K
                try simp only [Act.put, List.setIfInBounds_toArray, List.set_cons_zero, List.set_cons_succ]
                refine Z_one (i := 32) rfl (by kernel_rfl) (by rfl) (fun K hK => ?_)
                go_simp
                refine hK.out _ _ (fun h => absurd h (none_of_not (by kernel_rfl))) ?_
                clear hK K
                try simp only [Act.put, List.setIfInBounds_toArray, List.set_cons_zero, List.set_cons_succ]
                refine Z_one (i := 33) rfl (by kernel_rfl) (by rfl) (fun K hK => ?_)
                have hfr2 : Y.frozen? ⟨L, 1, none⟩ = false := by simp only [World.frozen?, hLY]; simp
                have hcl2 : Y.cell? ⟨L, 1, none⟩ = some vv := by simp only [World.cell?, hLY]; rfl
                go_simp
                refine hK.out _ _ (fun h => absurd h (none_of_not (by kernel_rfl))) ?_
                clear hK K
                try simp only [Act.put, List.setIfInBounds_toArray, List.set_cons_zero, List.set_cons_succ]
                refine Z_done (by kernel_rfl) ?_ _
                go_wp2_with fail
                go_roundw
                case rel => exact lay_rel hLB HKVh.out hLY hkY hvY hAp4 hbX0 hbY hkX0 hkY2 HLen2.out hj2
                case measure => (simp [intOf] <;> omega)
              · go_simp
                have hs9 := val_new X1 u
                have hc9 : Below X1.heap.size X1 (X1.alloc (.cells #[.int .u64 u] 24)) := (Below.refl _ _).alloc (Nat.le_refl _) _
                have hk9 := hk1.alloc (.cells #[.int .u64 u] 24)
                have hv9 := hv1.alloc (.cells #[.int .u64 u] 24)
                have hS19 := hs1.below hc9
                generalize hX9 : World.alloc X1 (.cells #[.int .u64 u] 24) = X9 at *
                have hb9 := hb1.trans (hc9.mono (Nat.le_trans hL1 hb1.size))
                have hz9 := hb9.size
                refine hK.out _ _ (fun _ => held _ hb9) ?_
                clear hK K
                try simp only [Act.put, List.setIfInBounds_toArray, List.set_cons_zero, List.set_cons_succ]
                refine Z_one (i := 14) rfl (by kernel_rfl) (by rfl) (fun K hK => ?_)
                refine app_S (.tmp 113) (.tmp 121) rfl B _ M _ (by rfl) hk9 _ 1 1 [y] (by rfl) rfl hS19 (fun e => by cases e) (M + 1) rfl (by omega) (Nat.le_trans hL1 hb9.size) ?_
                intro A10 c10 X10 hk10 hg10 ha10 hc10
                have hb10 := hb9.trans hc10
                have hz10 := hb10.size
                have hv10 := own_stay hv9 (fun q hq => hg10.block q (own_lt hv9 q hq) (fun e => hap q e.symm hq))
                have hS210 := hs9.grown hg10 (fun b off e => by cases e; intro e2; have := hlk _ e2.symm; omega)
                refine hK.out _ _ (fun _ => held _ hb10) ?_
                clear hK K
                try simp only [Act.put, List.setIfInBounds_toArray, List.set_cons_zero, List.set_cons_succ]
                refine Z_one (i := 27) rfl (by kernel_rfl) (by rfl) (fun K hK => ?_)
                refine app_U (.tmp 126) (.tmp 134) rfl B _ M _ (by rfl) hv10 _ 1 1 [u] (by rfl) rfl hS210 (fun e => by cases e) (M + 1) rfl (by omega) (Nat.le_trans hL1 hb10.size) ?_
                intro A11 c11 X11 hv11 hg11 hd11 hc11
                have hb11 := hb10.trans hc11
                have hz11 := hb11.size
                have hk11 := own_stay hk10 (fun q hq => hg11.block q (own_lt hk10 q hq) (fun e => by rcases ha10 with h | h; (· exact hap q (h.symm.trans hq) e.symm); (· rw [hq] at h; cases h; have := hlv _ e.symm; omega)))
                have hAp11 : ∀ q, (Value.slice A10 (M + 1) c10).ownBlock = some q → (Value.slice A11 (M + 1) c11).ownBlock ≠ some q := fun q hq e => by
                  have hlq := own_lt hk10 q hq
                  rcases hd11 with h | h
                  · rcases ha10 with h2 | h2
                    · exact hap q (h2.symm.trans hq) (h.symm.trans e)
                    · have := hlv q (h.symm.trans e); rw [hq] at h2; cases h2; omega
                  · rw [h] at e; cases e; omega
                refine hK.out _ _ (fun _ => held _ hb11) ?_
                clear hK K
                try simp only [Act.put, List.setIfInBounds_toArray, List.set_cons_zero, List.set_cons_succ]
                refine Z_take (i := 28) (v := ?_) [[29, 28], [28]] rfl (by kernel_rfl) (by kernel_rfl) (by kernel_rfl) (by kernel_rfl) (by kernel_rfl) (fun _ _ _ h => h) (Or.inl ⟨by rfl, ?_⟩) (held _ hb11) ?_
                rotate_left
                · (intro w' hSw; (try dsimp only at hSw); go_simp <;> (with_reducible rfl))
                try simp only [Act.put, List.setIfInBounds_toArray, List.set_cons_zero, List.set_cons_succ]
                refine Z_take (i := 29) (v := ?_) [[29], [29]] rfl (by kernel_rfl) (by kernel_rfl) (by kernel_rfl) (by kernel_rfl) (by kernel_rfl) (fun _ _ _ h => h) (Or.inl ⟨by rfl, ?_⟩) (held _ hb11) ?_
                rotate_left
                · (intro w' hSw; (try dsimp only at hSw); go_simp <;> (with_reducible rfl))
                try simp only [Act.put, List.setIfInBounds_toArray, List.set_cons_zero, List.set_cons_succ]
                refine Z_one (i := 30) rfl (by kernel_rfl) (by rfl) (fun K hK => ?_)
                have hLX : X11.heap[L]? = _ := (hb11.block L hLB).trans hL0
                have hfr : X11.frozen? ⟨L, 0, none⟩ = false := by simp only [World.frozen?, hLX]; simp
                have hcl : X11.cell? ⟨L, 0, none⟩ = some kv := by simp only [World.cell?, hLX]; rfl
                have hLY := set_at (o := 0) (v := (.slice A10 (M + 1) c10)) hLX
                have hkY := ownsRow_setCell_below hk11 (a := ⟨L, 0, none⟩) hLB (.slice A10 (M + 1) c10)
                have hvY := ownsRow_setCell_below hv11 (a := ⟨L, 0, none⟩) hLB (.slice A10 (M + 1) c10)
                have hbY : Below L X0 (X11.setCell ⟨L, 0, none⟩ (.slice A10 (M + 1) c10)) := (hb11.mono (Nat.le_of_lt hLB)).setCell (p := ⟨L, 0, none⟩) (Nat.le_refl _) _
                have hkY2 : Keep L B X0 (X11.setCell ⟨L, 0, none⟩ (.slice A10 (M + 1) c10)) := (Keep.of hb11).set _
                go_simp
                generalize X11.setCell ⟨L, 0, none⟩ (.slice A10 (M + 1) c10) = Y at *
                refine hK.out _ _ (fun h => absurd h (none_of_not (by kernel_rfl))) ?_
                clear hK K
                try simp only [Act.put, List.setIfInBounds_toArray, List.set_cons_zero, List.set_cons_succ]
                refine Z_one (i := 31) rfl (by kernel_rfl) (by rfl) (fun K hK => ?_)
                go_simp
                refine hK.out _ _ (fun h => absurd h (none_of_not (by kernel_rfl))) ?_
                clear hK K
                try simp only [Act.put, List.setIfInBounds_toArray, List.set_cons_zero, List.set_cons_succ]
                refine Z_one (i := 32) rfl (by kernel_rfl) (by rfl) (fun K hK => ?_)
                go_simp
                refine hK.out _ _ (fun h => absurd h (none_of_not (by kernel_rfl))) ?_
                clear hK K
                try simp only [Act.put, List.setIfInBounds_toArray, List.set_cons_zero, List.set_cons_succ]
                refine Z_one (i := 33) rfl (by kernel_rfl) (by rfl) (fun K hK => ?_)
                have hfr2 : Y.frozen? ⟨L, 1, none⟩ = false := by simp only [World.frozen?, hLY]; simp
                have hcl2 : Y.cell? ⟨L, 1, none⟩ = some vv := by simp only [World.cell?, hLY]; rfl
                go_simp
                refine hK.out _ _ (fun h => absurd h (none_of_not (by kernel_rfl))) ?_
                clear hK K
                try simp only [Act.put, List.setIfInBounds_toArray, List.set_cons_zero, List.set_cons_succ]
                refine Z_done (by kernel_rfl) ?_ _
                go_wp2_with fail
                go_roundw
                case rel => exact lay_rel hLB HKVh.out hLY hkY hvY hAp11 hbX0 hbY hkX0 hkY2 HLen2.out hj2
                case measure => (simp [intOf] <;> omega)
            · go_simp
              have hs16 := val_new X0 u
              have hc16 : Below X0.heap.size X0 (X0.alloc (.cells #[.int .u64 u] 24)) := (Below.refl _ _).alloc (Nat.le_refl _) _
              have hk16 := hk0.alloc (.cells #[.int .u64 u] 24)
              have hv16 := hv0.alloc (.cells #[.int .u64 u] 24)
              generalize hX16 : World.alloc X0 (.cells #[.int .u64 u] 24) = X16 at *
              have hb16 := hb0.trans (hc16.mono (Nat.le_trans hL1 hb0.size))
              have hz16 := hb16.size
              refine hK.out _ _ (fun _ => held _ hb16) ?_
              clear hK K
              try simp only [Act.put, List.setIfInBounds_toArray, List.set_cons_zero, List.set_cons_succ]
              refine Z_one (i := 13) rfl (by kernel_rfl) (by rfl) (fun K hK => ?_)
              go_simp
              have hs17 := spot_new X16 y
              have hc17 : Below X16.heap.size X16 (X16.alloc (.cells #[.int .i64 y.br, .int .i64 y.vol, .int .i64 y.blk, .int .u64 y.num] 26)) := (Below.refl _ _).alloc (Nat.le_refl _) _
              have hk17 := hk16.alloc (.cells #[.int .i64 y.br, .int .i64 y.vol, .int .i64 y.blk, .int .u64 y.num] 26)
              have hv17 := hv16.alloc (.cells #[.int .i64 y.br, .int .i64 y.vol, .int .i64 y.blk, .int .u64 y.num] 26)
              have hS217 := hs16.below hc17
              generalize hX17 : World.alloc X16 (.cells #[.int .i64 y.br, .int .i64 y.vol, .int .i64 y.blk, .int .u64 y.num] 26) = X17 at *
              have hb17 := hb16.trans (hc17.mono (Nat.le_trans hL1 hb16.size))
              have hz17 := hb17.size
              refine hK.out _ _ (fun _ => held _ hb17) ?_
              clear hK K
              try simp only [Act.put, List.setIfInBounds_toArray, List.set_cons_zero, List.set_cons_succ]
              refine Z_one (i := 14) rfl (by kernel_rfl) (by rfl) (fun K hK => ?_)
              refine app_S (.tmp 113) (.tmp 121) rfl B _ M _ (by rfl) hk17 _ 1 1 [y] (by rfl) rfl hs17 (fun e => by cases e) (M + 1) rfl (by omega) (Nat.le_trans hL1 hb17.size) ?_
              intro A18 c18 X18 hk18 hg18 ha18 hc18
              have hb18 := hb17.trans hc18
              have hz18 := hb18.size
              have hv18 := own_stay hv17 (fun q hq => hg18.block q (own_lt hv17 q hq) (fun e => hap q e.symm hq))
              have hS218 := hS217.grown hg18 (fun b off e => by cases e; intro e2; have := hlk _ e2.symm; omega)
              refine hK.out _ _ (fun _ => held _ hb18) ?_
              clear hK K
              try simp only [Act.put, List.setIfInBounds_toArray, List.set_cons_zero, List.set_cons_succ]
              refine Z_one (i := 27) rfl (by kernel_rfl) (by rfl) (fun K hK => ?_)
              refine app_U (.tmp 126) (.tmp 134) rfl B _ M _ (by rfl) hv18 _ 1 1 [u] (by rfl) rfl hS218 (fun e => by cases e) (M + 1) rfl (by omega) (Nat.le_trans hL1 hb18.size) ?_
              intro A19 c19 X19 hv19 hg19 hd19 hc19
              have hb19 := hb18.trans hc19
              have hz19 := hb19.size
              have hk19 := own_stay hk18 (fun q hq => hg19.block q (own_lt hk18 q hq) (fun e => by rcases ha18 with h | h; (· exact hap q (h.symm.trans hq) e.symm); (· rw [hq] at h; cases h; have := hlv _ e.symm; omega)))
              have hAp19 : ∀ q, (Value.slice A18 (M + 1) c18).ownBlock = some q → (Value.slice A19 (M + 1) c19).ownBlock ≠ some q := fun q hq e => by
                have hlq := own_lt hk18 q hq
                rcases hd19 with h | h
                · rcases ha18 with h2 | h2
                  · exact hap q (h2.symm.trans hq) (h.symm.trans e)
                  · have := hlv q (h.symm.trans e); rw [hq] at h2; cases h2; omega
                · rw [h] at e; cases e; omega
              refine hK.out _ _ (fun _ => held _ hb19) ?_
              clear hK K
              try simp only [Act.put, List.setIfInBounds_toArray, List.set_cons_zero, List.set_cons_succ]
              refine Z_take (i := 28) (v := ?_) [[29, 28], [28]] rfl (by kernel_rfl) (by kernel_rfl) (by kernel_rfl) (by kernel_rfl) (by kernel_rfl) (fun _ _ _ h => h) (Or.inl ⟨by rfl, ?_⟩) (held _ hb19) ?_
              rotate_left
              · (intro w' hSw; (try dsimp only at hSw); go_simp <;> (with_reducible rfl))
              try simp only [Act.put, List.setIfInBounds_toArray, List.set_cons_zero, List.set_cons_succ]
              refine Z_take (i := 29) (v := ?_) [[29], [29]] rfl (by kernel_rfl) (by kernel_rfl) (by kernel_rfl) (by kernel_rfl) (by kernel_rfl) (fun _ _ _ h => h) (Or.inl ⟨by rfl, ?_⟩) (held _ hb19) ?_
              rotate_left
              · (intro w' hSw; (try dsimp only at hSw); go_simp <;> (with_reducible rfl))
              try simp only [Act.put, List.setIfInBounds_toArray, List.set_cons_zero, List.set_cons_succ]
              refine Z_one (i := 30) rfl (by kernel_rfl) (by rfl) (fun K hK => ?_)
              have hLX : X19.heap[L]? = _ := (hb19.block L hLB).trans hL0
              have hfr : X19.frozen? ⟨L, 0, none⟩ = false := by simp only [World.frozen?, hLX]; simp
              have hcl : X19.cell? ⟨L, 0, none⟩ = some kv := by simp only [World.cell?, hLX]; rfl
              have hLY := set_at (o := 0) (v := (.slice A18 (M + 1) c18)) hLX
              have hkY := ownsRow_setCell_below hk19 (a := ⟨L, 0, none⟩) hLB (.slice A18 (M + 1) c18)
              have hvY := ownsRow_setCell_below hv19 (a := ⟨L, 0, none⟩) hLB (.slice A18 (M + 1) c18)
              have hbY : Below L X0 (X19.setCell ⟨L, 0, none⟩ (.slice A18 (M + 1) c18)) := (hb19.mono (Nat.le_of_lt hLB)).setCell (p := ⟨L, 0, none⟩) (Nat.le_refl _) _
              have hkY2 : Keep L B X0 (X19.setCell ⟨L, 0, none⟩ (.slice A18 (M + 1) c18)) := (Keep.of hb19).set _
              go_simp
              generalize X19.setCell ⟨L, 0, none⟩ (.slice A18 (M + 1) c18) = Y at *
              refine hK.out _ _ (fun h => absurd h (none_of_not (by kernel_rfl))) ?_
              clear hK K
              try simp only [Act.put, List.setIfInBounds_toArray, List.set_cons_zero, List.set_cons_succ]
              refine Z_one (i := 31) rfl (by kernel_rfl) (by rfl) (fun K hK => ?_)
              go_simp
              refine hK.out _ _ (fun h => absurd h (none_of_not (by kernel_rfl))) ?_
              clear hK K
              try simp only [Act.put, List.setIfInBounds_toArray, List.set_cons_zero, List.set_cons_succ]
              refine Z_one (i := 32) rfl (by kernel_rfl) (by rfl) (fun K hK => ?_)
              go_simp
              refine hK.out _ _ (fun h => absurd h (none_of_not (by kernel_rfl))) ?_
              clear hK K
              try simp only [Act.put, List.setIfInBounds_toArray, List.set_cons_zero, List.set_cons_succ]
              refine Z_one (i := 33) rfl (by kernel_rfl) (by rfl) (fun K hK => ?_)
              have hfr2 : Y.frozen? ⟨L, 1, none⟩ = false := by simp only [World.frozen?, hLY]; simp
              have hcl2 : Y.cell? ⟨L, 1, none⟩ = some vv := by simp only [World.cell?, hLY]; rfl
              go_simp
              refine hK.out _ _ (fun h => absurd h (none_of_not (by kernel_rfl))) ?_
              clear hK K
              try simp only [Act.put, List.setIfInBounds_toArray, List.set_cons_zero, List.set_cons_succ]
              refine Z_done (by kernel_rfl) ?_ _
              go_wp2_with fail
              go_roundw
              case rel => exact lay_rel hLB HKVh.out hLY hkY hvY hAp19 hbX0 hbY hkX0 hkY2 HLen2.out hj2
              case measure => (simp [intOf] <;> omega)
        · obtain rfl : j = N := by omega
          have hfin : ListAt wr L B (ks ++ K) (vs ++ V) kv vv := by
            rw [List.take_of_length_le (by rw [HKV.out.1]; exact Nat.le_refl _), List.take_of_length_le (by rw [HKV.out.2]; exact Nat.le_refl _)] at hls
            exact hls
          have HFin := Lib.hid hfin
          clear hls hfin tk tv
          go_wp2_with fail
          go_ret
          exact ⟨rfl, ⟨_, _, HFin.out⟩, hbr, hkr⟩
    · have d5 : decide ((N : Int) < 1) = false := by simp; omega
      clear h1
      go_enter Try.func32, Try.ntmps32
      go_wp2_with fail
      go_quiet (fail)
      go_wp2_with fail
      go_loopw [10] (fun i wr => LayRel w L B N ks vs K V i wr) (fun i _ => (N - intOf i).toNat)
      case atStart => exact ⟨0, rfl, Nat.zero_le _, ⟨kv, vv, by rw [List.take_zero, List.take_zero, List.append_nil, List.append_nil]; exact HLs.out.below (bel_drewN _ _)⟩, bel_drewN _ _, Keep.of (bel_drewN _ _)⟩
      case round =>
        obtain ⟨j, rfl, hj, ⟨kv, vv, hls⟩, hbr, hkr⟩ := hrel
        obtain ⟨t0, t1, t2, tk, tv⟩ := HX.out wr hbr
        by_cases hjn : j < N
        · obtain ⟨hkl, hvl⟩ := HKV.out
          have hjk : j < K.length := by omega
          have hjv : j < V.length := by omega
          have hlenK : (ks ++ K.take j).length = M0 + j := by rw [List.length_append, List.length_take, HM0.out]; omega
          have hlenV : (vs ++ V.take j).length = M0 + j := by rw [hls.len, hlenK]
          obtain ⟨x0, x1, x2, x3⟩ := tk j hjk
          have xv := tv j hjv
          have hbef : Hid (∀ z ∈ ks ++ K.take j, lt z K[j] = true) := fun z hz => by
            rcases List.mem_append.1 hz with hz | hz
            · exact HLt.out z hz _ (List.getElem_mem hjk)
            · obtain ⟨i, hi, rfl⟩ := List.mem_take_iff_getElem.1 hz
              exact HAs.out i j (by omega) hjk (by omega)
          have hks1 : K.take (j + 1) = K.take j ++ [K[j]] := List.take_succ_eq_append_getElem hjk
          have hvs1 : V.take (j + 1) = V.take j ++ [V[j]] := List.take_succ_eq_append_getElem hjv
          have hsum2 : M0 + j ≤ 1000 := by omega
          have HK1 := Lib.hid hks1
          have HV1 := Lib.hid hvs1
          clear hks1 hvs1 tk tv
          generalize hy : K[j] = y at *
          generalize hu : V[j] = u at *
          clear hy hu
          obtain ⟨KS, hKS⟩ : ∃ KS, ks ++ K.take j = KS := ⟨_, rfl⟩
          obtain ⟨VS, hVS⟩ : ∃ VS, vs ++ V.take j = VS := ⟨_, rfl⟩
          rw [hKS] at hls hlenK hbef
          rw [hVS] at hls hlenV
          have hKV0 := Lib.hid (And.intro hKS hVS)
          clear hKS hVS
          obtain ⟨M, hM⟩ : ∃ M, M0 + j = M := ⟨_, rfl⟩
          rw [hM] at hlenK hlenV hsum2
          clear hM
          have hls0 := hls
          obtain ⟨Lp, Lk, Lv, Ll, Lb, Lap⟩ := hls
          rw [hlenK] at Lk
          rw [hlenV] at Lv
          have Lk' := Lk
          rw [← hlenK] at Lk'
          obtain ⟨A, c, ekv, ec1, ec2, skv⟩ := spots_own Lk'
          rw [hlenK] at ekv ec1
          have lLt := (Array.getElem?_eq_some_iff.1 Lp).1
          have lc : wr.cell? ⟨L, 0, none⟩ = some (.slice A M c) := by simp only [World.cell?, Lp, ekv]; rfl
          have HLp := Lib.hid Lp
          have HLk := Lib.hid Lk
          have HLv := Lib.hid Lv
          have HLap := Lib.hid Lap
          have HSk := Lib.hid skv
          have HE := Lib.hid ekv
          have HLn := Lib.hid (And.intro hlenK hlenV)
          clear Lp Lk Lv Lap Lk' skv ekv hls0 Ll Lb hlenK hlenV
          have e1 : (0 : Int) ≤ (j : Int) := by omega
          have e2 : (j : Int) < (N : Int) := by omega
          have zp : p < wr.heap.size := by omega
          have zb : b < wr.heap.size := by omega
          have zv : vb < wr.heap.size := by omega
          go_wp2_with fail
          go_cut [107] (fun s107 wx => s107 = .bool false ∧ Below wr.heap.size wr wx)
          case first =>
            cases M with
            | zero =>
              have D : decide ((0 : Int) < (0 : Int)) = false := by simp
              go_quiet (fail)
              go_wp2_with fail
              go_meet
              exact ⟨rfl, bel_drewN _ _⟩
            | succ m =>
              have D : decide ((0 : Int) < (m : Int) + 1) = true := by simp <;> omega
              have D2 : (0 : Int) < (m : Int) + 1 := by omega
              obtain ⟨g, og, eA, hgl, hgc⟩ := HSk.out (by rw [HLn.out.1]; omega)
              obtain ⟨z0, z1, z2, z3⟩ := hgc m (by rw [HLn.out.1]; omega)
              have hlz := Lib.hid (hbef.out _ (List.getElem_mem (show m < KS.length by rw [HLn.out.1]; omega)))
              subst eA
              generalize KS[m]'(_) = zl at *
              have w1 : IntKind.i64.wrap ((m : Int) + 1 - 1) = (m : Int) := by rw [IntKind.wrap_i64]; omega
              have w2 : (m : Int) + 1 - 1 = (m : Int) := by omega
              have w3 : IntKind.i64.wrap (m : Int) = (m : Int) := by rw [IntKind.wrap_i64]; omega
              have w4 : (0 : Int) ≤ (m : Int) := by omega
              have w5 : (m : Int) < (m : Int) + 1 := by omega
              have HBf := fun W => Lib.hid (rbefore_at' zl y W)
              clear hgc
              go_region_held3 (fun w' => w'.cell? ⟨L, 0, none⟩ = some (.slice (some ⟨g, og, none⟩) (m + 1) c) ∧ w'.cell? ⟨g, og + m * 4, none⟩ = some (.int .i64 zl.br) ∧ w'.cell? ⟨g, og + m * 4 + 1, none⟩ = some (.int .i64 zl.vol) ∧ w'.cell? ⟨g, og + m * 4 + 2, none⟩ = some (.int .i64 zl.blk) ∧ w'.cell? ⟨g, og + m * 4 + 3, none⟩ = some (.int .u64 zl.num) ∧ w'.cell? ⟨p, 0, none⟩ = some (.slice (some ⟨b, off, none⟩) N ca) ∧ w'.cell? ⟨b, off + j * 4, none⟩ = some (.int .i64 y.br) ∧ w'.cell? ⟨b, off + j * 4 + 1, none⟩ = some (.int .i64 y.vol) ∧ w'.cell? ⟨b, off + j * 4 + 2, none⟩ = some (.int .i64 y.blk) ∧ w'.cell? ⟨b, off + j * 4 + 3, none⟩ = some (.int .u64 y.num)) (go_keep)
                (first
                | (go_at_call 21; refine (HBf _).out.mono ?_; rintro e w5 ⟨rfl, hb5⟩; rw [hlz.out]; replace hb5 := bel_undrew hb5; obtain ⟨bc5, bf5⟩ := bcell hb5; have z5 := hb5.size))
              go_wp2_with fail
              go_meet
              exact ⟨rfl, hb5⟩
          case rest =>
            obtain ⟨rfl, hbx⟩ := hcut
            have lLw : L < wr.heap.size := lLt
            have hbrx : Below L w wc := hbr.trans (hbx.mono (Nat.le_of_lt lLt))
            have t0' := (hbx.cell (p := ⟨p, 0, none⟩) zp).trans t0
            have t1' := (hbx.cell (p := ⟨p, 1, none⟩) zp).trans t1
            have y0' := (hbx.cell (p := ⟨b, _, none⟩) zb).trans x0
            have y1' := (hbx.cell (p := ⟨b, _, none⟩) zb).trans x1
            have y2' := (hbx.cell (p := ⟨b, _, none⟩) zb).trans x2
            have y3' := (hbx.cell (p := ⟨b, _, none⟩) zb).trans x3
            have yv' := (hbx.cell (p := ⟨vb, vo + j, none⟩) zv).trans xv
            have hL0 : wc.drew.heap[L]? = some (.cells #[kv, vv] 34 (0, 0)) := (hbx.block L lLt).trans HLp.out
            have hk0 : wc.drew.ownsRow B 26 4 kv M (sps KS) := own_stay HLk.out (fun q hq => hbx.block q (own_lt HLk.out q hq))
            have hv0 : wc.drew.ownsRow B 24 1 vv M (u64s VS) := own_stay HLv.out (fun q hq => hbx.block q (own_lt HLv.out q hq))
            have hzc : wr.heap.size ≤ wc.drew.heap.size := hbx.size
            have hL1 : B ≤ wc.drew.heap.size := Nat.le_trans (Nat.le_trans hBw hbr.size) hzc
            have hkX0 : Keep L B w wc.drew := hkr.trans (Keep.of ((hbx.mono (Nat.le_trans hBw hbr.size)).trans (bel_drewN _ _ (n := 1))))
            have hlk : ∀ q, kv.ownBlock = some q → q < wc.drew.heap.size := fun q hq => own_lt hk0 q hq
            have hlv : ∀ q, vv.ownBlock = some q → q < wc.drew.heap.size := fun q hq => own_lt hv0 q hq
            have hap := HLap.out
            have hbX0 : Below L w wc.drew := hbrx.trans (bel_drewN _ _ (n := 1))
            have hlen2 := HLn.out
            have hKV : (KS = ks ++ K.take j ∧ VS = vs ++ V.take j) ∧ (K.take (j + 1) = K.take j ++ [y] ∧ V.take (j + 1) = V.take j ++ [u]) := ⟨⟨hKV0.out.1.symm, hKV0.out.2.symm⟩, HK1.out, HV1.out⟩
            have hj2 : j + 1 ≤ N := hjn
            have held : ∀ X, Below B wc.drew X → (fun w' => w'.cell? ⟨L, 0, none⟩ = some kv ∧ w'.cell? ⟨L, 1, none⟩ = some vv ∧ w'.cell? ⟨p, 0, none⟩ = some (.slice (some ⟨b, off, none⟩) N ca) ∧ w'.cell? ⟨p, 1, none⟩ = some (.slice (some ⟨vb, vo, none⟩) N cb) ∧ w'.cell? ⟨b, off + j * 4, none⟩ = some (.int .i64 y.br) ∧ w'.cell? ⟨b, off + j * 4 + 1, none⟩ = some (.int .i64 y.vol) ∧ w'.cell? ⟨b, off + j * 4 + 2, none⟩ = some (.int .i64 y.blk) ∧ w'.cell? ⟨b, off + j * 4 + 3, none⟩ = some (.int .u64 y.num) ∧ w'.cell? ⟨vb, vo + j, none⟩ = some (.int .u64 u)) X := fun X hX => ⟨(hX.cell (p := ⟨L, 0, none⟩) hLB).trans (by simp only [World.cell?, hL0]; rfl), (hX.cell (p := ⟨L, 1, none⟩) hLB).trans (by simp only [World.cell?, hL0]; rfl), (hX.cell (p := ⟨p, 0, none⟩) (Nat.lt_trans hpL1 hLB)).trans t0', (hX.cell (p := ⟨p, 1, none⟩) (Nat.lt_trans hpL1 hLB)).trans t1', (hX.cell (p := ⟨b, _, none⟩) (Nat.lt_trans hpL2 hLB)).trans y0', (hX.cell (p := ⟨b, _, none⟩) (Nat.lt_trans hpL2 hLB)).trans y1', (hX.cell (p := ⟨b, _, none⟩) (Nat.lt_trans hpL2 hLB)).trans y2', (hX.cell (p := ⟨b, _, none⟩) (Nat.lt_trans hpL2 hLB)).trans y3', (hX.cell (p := ⟨vb, vo + j, none⟩) (Nat.lt_trans hpL3 hLB)).trans yv'⟩
            have hb0 : Below B wc.drew wc.drew := Below.refl _ _
            have HKVh := Lib.hid hKV
            have HLen2 := Lib.hid hlen2
            clear t0' t1' y0' y1' y2' y3' yv' hKV hlen2 lc t0 t1 t2 x0 x1 x2 x3 xv hbrx
            go_wp2_with fail
            refine Z_start [30, 33] (fun w' => w'.cell? ⟨L, 0, none⟩ = some kv ∧ w'.cell? ⟨L, 1, none⟩ = some vv ∧ w'.cell? ⟨p, 0, none⟩ = some (.slice (some ⟨b, off, none⟩) N ca) ∧ w'.cell? ⟨p, 1, none⟩ = some (.slice (some ⟨vb, vo, none⟩) N cb) ∧ w'.cell? ⟨b, off + j * 4, none⟩ = some (.int .i64 y.br) ∧ w'.cell? ⟨b, off + j * 4 + 1, none⟩ = some (.int .i64 y.vol) ∧ w'.cell? ⟨b, off + j * 4 + 2, none⟩ = some (.int .i64 y.blk) ∧ w'.cell? ⟨b, off + j * 4 + 3, none⟩ = some (.int .u64 y.num) ∧ w'.cell? ⟨vb, vo + j, none⟩ = some (.int .u64 u)) (by kernel_rfl) ?_
            generalize World.drew wc = X0 at *
            refine Z_free (i := 0) (v := ?_) rfl (by kernel_rfl) (by kernel_rfl) (by kernel_rfl) (by kernel_rfl) (fun _ _ _ h => h) (Or.inl ⟨by rfl, ?_⟩) (fun _ => held _ hb0) ?_
            rotate_left
            · (intro w' hSw; (try dsimp only at hSw); go_simp <;> (with_reducible rfl))
            try simp only [Act.put, List.setIfInBounds_toArray, List.set_cons_zero, List.set_cons_succ]
            refine Z_free (i := 1) (v := ?_) rfl (by kernel_rfl) (by kernel_rfl) (by kernel_rfl) (by kernel_rfl) (fun _ _ _ h => h) (Or.inl ⟨by rfl, ?_⟩) (fun _ => held _ hb0) ?_
            rotate_left
            · (intro w' hSw; (try dsimp only at hSw); go_simp <;> (with_reducible rfl))
            try simp only [Act.put, List.setIfInBounds_toArray, List.set_cons_zero, List.set_cons_succ]
            refine Z_free (i := 2) (v := ?_) rfl (by kernel_rfl) (by kernel_rfl) (by kernel_rfl) (by kernel_rfl) (fun _ _ _ h => h) (Or.inl ⟨by rfl, ?_⟩) (fun _ => held _ hb0) ?_
            rotate_left
            · (intro w' hSw; (try dsimp only at hSw); go_simp <;> (with_reducible rfl))
            try simp only [Act.put, List.setIfInBounds_toArray, List.set_cons_zero, List.set_cons_succ]
            refine Z_free (i := 6) (v := ?_) rfl (by kernel_rfl) (by kernel_rfl) (by kernel_rfl) (by kernel_rfl) (fun _ _ _ h => h) (Or.inl ⟨by rfl, ?_⟩) (fun _ => held _ hb0) ?_
            rotate_left
            · (intro w' hSw; (try dsimp only at hSw); go_simp <;> (with_reducible rfl))
            try simp only [Act.put, List.setIfInBounds_toArray, List.set_cons_zero, List.set_cons_succ]
            refine Z_free (i := 10) (v := ?_) rfl (by kernel_rfl) (by kernel_rfl) (by kernel_rfl) (by kernel_rfl) (fun _ _ _ h => h) (Or.inl ⟨by rfl, ?_⟩) (fun _ => held _ hb0) ?_
            rotate_left
            · (intro w' hSw; (try dsimp only at hSw); go_simp <;> (with_reducible rfl))
            try simp only [Act.put, List.setIfInBounds_toArray, List.set_cons_zero, List.set_cons_succ]
            refine Z_free (i := 15) (v := ?_) rfl (by kernel_rfl) (by kernel_rfl) (by kernel_rfl) (by kernel_rfl) (fun _ _ _ h => h) (Or.inl ⟨by rfl, ?_⟩) (fun _ => held _ hb0) ?_
            rotate_left
            · (intro w' hSw; (try dsimp only at hSw); go_simp <;> (with_reducible rfl))
            try simp only [Act.put, List.setIfInBounds_toArray, List.set_cons_zero, List.set_cons_succ]
            refine Z_free (i := 19) (v := ?_) rfl (by kernel_rfl) (by kernel_rfl) (by kernel_rfl) (by kernel_rfl) (fun _ _ _ h => h) (Or.inl ⟨by rfl, ?_⟩) (fun _ => held _ hb0) ?_
            rotate_left
            · (intro w' hSw; (try dsimp only at hSw); go_simp <;> (with_reducible rfl))
            try simp only [Act.put, List.setIfInBounds_toArray, List.set_cons_zero, List.set_cons_succ]
            refine Z_free (i := 23) (v := ?_) rfl (by kernel_rfl) (by kernel_rfl) (by kernel_rfl) (by kernel_rfl) (fun _ _ _ h => h) (Or.inl ⟨by rfl, ?_⟩) (fun _ => held _ hb0) ?_
            rotate_left
            · (intro w' hSw; (try dsimp only at hSw); go_simp <;> (with_reducible rfl))
            try simp only [Act.put, List.setIfInBounds_toArray, List.set_cons_zero, List.set_cons_succ]
            refine Z_take (i := 3) (v := ?_) [[3], [3]] rfl (by kernel_rfl) (by kernel_rfl) (by kernel_rfl) (by kernel_rfl) (by kernel_rfl) (fun _ _ _ h => h) (Or.inl ⟨by rfl, ?_⟩) (held _ hb0) ?_
            rotate_left
            · (intro w' hSw; (try dsimp only at hSw); go_simp <;> (with_reducible rfl))
            try simp only [Act.put, List.setIfInBounds_toArray, List.set_cons_zero, List.set_cons_succ]
            refine Z_take (i := 4) (v := ?_) [[4], [4]] rfl (by kernel_rfl) (by kernel_rfl) (by kernel_rfl) (by kernel_rfl) (by kernel_rfl) (fun _ _ _ h => h) (Or.inl ⟨by rfl, ?_⟩) (held _ hb0) ?_
            rotate_left
            · (intro w' hSw; (try dsimp only at hSw); go_simp <;> (with_reducible rfl))
            try simp only [Act.put, List.setIfInBounds_toArray, List.set_cons_zero, List.set_cons_succ]
            refine Z_take (i := 5) (v := ?_) [[5], [5]] rfl (by kernel_rfl) (by kernel_rfl) (by kernel_rfl) (by kernel_rfl) (by kernel_rfl) (fun _ _ _ h => h) (Or.inl ⟨by rfl, ?_⟩) (held _ hb0) ?_
            rotate_left
            · (intro w' hSw; (try dsimp only at hSw); go_simp <;> (with_reducible rfl))
            try simp only [Act.put, List.setIfInBounds_toArray, List.set_cons_zero, List.set_cons_succ]
            refine Z_take (i := 7) (v := ?_) [[7], [7]] rfl (by kernel_rfl) (by kernel_rfl) (by kernel_rfl) (by kernel_rfl) (by kernel_rfl) (fun _ _ _ h => h) (Or.inl ⟨by rfl, ?_⟩) (held _ hb0) ?_
            rotate_left
            · (intro w' hSw; (try dsimp only at hSw); go_simp <;> (with_reducible rfl))
            try simp only [Act.put, List.setIfInBounds_toArray, List.set_cons_zero, List.set_cons_succ]
            refine Z_take (i := 8) (v := ?_) [[8], [8]] rfl (by kernel_rfl) (by kernel_rfl) (by kernel_rfl) (by kernel_rfl) (by kernel_rfl) (fun _ _ _ h => h) (Or.inl ⟨by rfl, ?_⟩) (held _ hb0) ?_
            rotate_left
            · (intro w' hSw; (try dsimp only at hSw); go_simp <;> (with_reducible rfl))
            try simp only [Act.put, List.setIfInBounds_toArray, List.set_cons_zero, List.set_cons_succ]
            refine Z_take (i := 9) (v := ?_) [[9], [9]] rfl (by kernel_rfl) (by kernel_rfl) (by kernel_rfl) (by kernel_rfl) (by kernel_rfl) (fun _ _ _ h => h) (Or.inl ⟨by rfl, ?_⟩) (held _ hb0) ?_
            rotate_left
            · (intro w' hSw; (try dsimp only at hSw); go_simp <;> (with_reducible rfl))
            try simp only [Act.put, List.setIfInBounds_toArray, List.set_cons_zero, List.set_cons_succ]
            refine Z_take (i := 11) (v := ?_) [[11], [11]] rfl (by kernel_rfl) (by kernel_rfl) (by kernel_rfl) (by kernel_rfl) (by kernel_rfl) (fun _ _ _ h => h) (Or.inl ⟨by rfl, ?_⟩) (held _ hb0) ?_
            rotate_left
            · (intro w' hSw; (try dsimp only at hSw); go_simp <;> (with_reducible rfl))
            try simp only [Act.put, List.setIfInBounds_toArray, List.set_cons_zero, List.set_cons_succ]
            refine Z_take (i := 12) (v := ?_) [[12], [12]] rfl (by kernel_rfl) (by kernel_rfl) (by kernel_rfl) (by kernel_rfl) (by kernel_rfl) (fun _ _ _ h => h) (Or.inl ⟨by rfl, ?_⟩) (held _ hb0) ?_
            rotate_left
            · (intro w' hSw; (try dsimp only at hSw); go_simp <;> (with_reducible rfl))
            try simp only [Act.put, List.setIfInBounds_toArray, List.set_cons_zero, List.set_cons_succ]
            refine Z_take (i := 16) (v := ?_) [[18, 17, 16], [16]] rfl (by kernel_rfl) (by kernel_rfl) (by kernel_rfl) (by kernel_rfl) (by kernel_rfl) (fun _ _ _ h => h) (Or.inl ⟨by rfl, ?_⟩) (held _ hb0) ?_
            rotate_left
            · (intro w' hSw; (try dsimp only at hSw); go_simp <;> (with_reducible rfl))
            try simp only [Act.put, List.setIfInBounds_toArray, List.set_cons_zero, List.set_cons_succ]
            refine Z_take (i := 17) (v := ?_) [[18, 17], [17]] rfl (by kernel_rfl) (by kernel_rfl) (by kernel_rfl) (by kernel_rfl) (by kernel_rfl) (fun _ _ _ h => h) (Or.inl ⟨by rfl, ?_⟩) (held _ hb0) ?_
            rotate_left
            · (intro w' hSw; (try dsimp only at hSw); go_simp <;> (with_reducible rfl))
            try simp only [Act.put, List.setIfInBounds_toArray, List.set_cons_zero, List.set_cons_succ]
            refine Z_take (i := 18) (v := ?_) [[18], [18]] rfl (by kernel_rfl) (by kernel_rfl) (by kernel_rfl) (by kernel_rfl) (by kernel_rfl) (fun _ _ _ h => h) (Or.inl ⟨by rfl, ?_⟩) (held _ hb0) ?_
            rotate_left
            · (intro w' hSw; (try dsimp only at hSw); go_simp <;> (with_reducible rfl))
            try simp only [Act.put, List.setIfInBounds_toArray, List.set_cons_zero, List.set_cons_succ]
            refine Z_take (i := 20) (v := ?_) [[22, 21, 20], [20]] rfl (by kernel_rfl) (by kernel_rfl) (by kernel_rfl) (by kernel_rfl) (by kernel_rfl) (fun _ _ _ h => h) (Or.inl ⟨by rfl, ?_⟩) (held _ hb0) ?_
            rotate_left
            · (intro w' hSw; (try dsimp only at hSw); go_simp <;> (with_reducible rfl))
            try simp only [Act.put, List.setIfInBounds_toArray, List.set_cons_zero, List.set_cons_succ]
            refine Z_take (i := 21) (v := ?_) [[22, 21], [21]] rfl (by kernel_rfl) (by kernel_rfl) (by kernel_rfl) (by kernel_rfl) (by kernel_rfl) (fun _ _ _ h => h) (Or.inl ⟨by rfl, ?_⟩) (held _ hb0) ?_
            rotate_left
            · (intro w' hSw; (try dsimp only at hSw); go_simp <;> (with_reducible rfl))
            try simp only [Act.put, List.setIfInBounds_toArray, List.set_cons_zero, List.set_cons_succ]
            refine Z_take (i := 22) (v := ?_) [[22], [22]] rfl (by kernel_rfl) (by kernel_rfl) (by kernel_rfl) (by kernel_rfl) (by kernel_rfl) (fun _ _ _ h => h) (Or.inl ⟨by rfl, ?_⟩) (held _ hb0) ?_
            rotate_left
            · (intro w' hSw; (try dsimp only at hSw); go_simp <;> (with_reducible rfl))
            try simp only [Act.put, List.setIfInBounds_toArray, List.set_cons_zero, List.set_cons_succ]
            refine Z_take (i := 24) (v := ?_) [[25, 24], [24]] rfl (by kernel_rfl) (by kernel_rfl) (by kernel_rfl) (by kernel_rfl) (by kernel_rfl) (fun _ _ _ h => h) (Or.inl ⟨by rfl, ?_⟩) (held _ hb0) ?_
            rotate_left
            · (intro w' hSw; (try dsimp only at hSw); go_simp <;> (with_reducible rfl))
            try simp only [Act.put, List.setIfInBounds_toArray, List.set_cons_zero, List.set_cons_succ]
            refine Z_take (i := 25) (v := ?_) [[25], [25]] rfl (by kernel_rfl) (by kernel_rfl) (by kernel_rfl) (by kernel_rfl) (by kernel_rfl) (fun _ _ _ h => h) (Or.inl ⟨by rfl, ?_⟩) (held _ hb0) ?_
            rotate_left
            · (intro w' hSw; (try dsimp only at hSw); go_simp <;> (with_reducible rfl))
            try simp only [Act.put, List.setIfInBounds_toArray, List.set_cons_zero, List.set_cons_succ]
            refine Z_two (i := 13) (j := 26) rfl rfl (by kernel_rfl) (by rfl) (by rfl) (fun K hK => ?_) (fun K hK => ?_)
            · go_simp
              have hs1 := spot_new X0 y
              have hc1 : Below X0.heap.size X0 (X0.alloc (.cells #[.int .i64 y.br, .int .i64 y.vol, .int .i64 y.blk, .int .u64 y.num] 26)) := (Below.refl _ _).alloc (Nat.le_refl _) _
              have hk1 := hk0.alloc (.cells #[.int .i64 y.br, .int .i64 y.vol, .int .i64 y.blk, .int .u64 y.num] 26)
              have hv1 := hv0.alloc (.cells #[.int .i64 y.br, .int .i64 y.vol, .int .i64 y.blk, .int .u64 y.num] 26)
              generalize hX1 : World.alloc X0 (.cells #[.int .i64 y.br, .int .i64 y.vol, .int .i64 y.blk, .int .u64 y.num] 26) = X1 at *
              have hb1 := hb0.trans (hc1.mono (Nat.le_trans hL1 hb0.size))
              have hz1 := hb1.size
              refine hK.out _ _ (fun _ => held _ hb1) ?_
              clear hK K
              try simp only [Act.put, List.setIfInBounds_toArray, List.set_cons_zero, List.set_cons_succ]
              refine Z_two (i := 14) (j := 26) rfl rfl (by kernel_rfl) (by rfl) (by rfl) (fun K hK => ?_) (fun K hK => ?_)
              · refine app_S (.tmp 113) (.tmp 121) rfl B _ M _ (by rfl) hk1 _ 1 1 [y] (by rfl) rfl hs1 (fun e => by cases e) (M + 1) rfl (by omega) (Nat.le_trans hL1 hb1.size) ?_
                intro A2 c2 X2 hk2 hg2 ha2 hc2
                have hb2 := hb1.trans hc2
                have hz2 := hb2.size
                have hv2 := own_stay hv1 (fun q hq => hg2.block q (own_lt hv1 q hq) (fun e => hap q e.symm hq))
                refine hK.out _ _ (fun _ => held _ hb2) ?_
                clear hK K
                try simp only [Act.put, List.setIfInBounds_toArray, List.set_cons_zero, List.set_cons_succ]
                refine Z_one (i := 26) rfl (by kernel_rfl) (by rfl) (fun K hK => ?_)
                go_simp
                have hs3 := val_new X2 u
                have hc3 : Below X2.heap.size X2 (X2.alloc (.cells #[.int .u64 u] 24)) := (Below.refl _ _).alloc (Nat.le_refl _) _
                have hk3 := hk2.alloc (.cells #[.int .u64 u] 24)
                have hv3 := hv2.alloc (.cells #[.int .u64 u] 24)
                generalize hX3 : World.alloc X2 (.cells #[.int .u64 u] 24) = X3 at *
                have hb3 := hb2.trans (hc3.mono (Nat.le_trans hL1 hb2.size))
                have hz3 := hb3.size
                refine hK.out _ _ (fun _ => held _ hb3) ?_
                clear hK K
                try simp only [Act.put, List.setIfInBounds_toArray, List.set_cons_zero, List.set_cons_succ]
                refine Z_one (i := 27) rfl (by kernel_rfl) (by rfl) (fun K hK => ?_)
                refine app_U (.tmp 126) (.tmp 134) rfl B _ M _ (by rfl) hv3 _ 1 1 [u] (by rfl) rfl hs3 (fun e => by cases e) (M + 1) rfl (by omega) (Nat.le_trans hL1 hb3.size) ?_
                intro A4 c4 X4 hv4 hg4 hd4 hc4
                have hb4 := hb3.trans hc4
                have hz4 := hb4.size
                have hk4 := own_stay hk3 (fun q hq => hg4.block q (own_lt hk3 q hq) (fun e => by rcases ha2 with h | h; (· exact hap q (h.symm.trans hq) e.symm); (· rw [hq] at h; cases h; have := hlv _ e.symm; omega)))
                have hAp4 : ∀ q, (Value.slice A2 (M + 1) c2).ownBlock = some q → (Value.slice A4 (M + 1) c4).ownBlock ≠ some q := fun q hq e => by
                  have hlq := own_lt hk3 q hq
                  rcases hd4 with h | h
                  · rcases ha2 with h2 | h2
                    · exact hap q (h2.symm.trans hq) (h.symm.trans e)
                    · have := hlv q (h.symm.trans e); rw [hq] at h2; cases h2; omega
                  · rw [h] at e; cases e; omega
                refine hK.out _ _ (fun _ => held _ hb4) ?_
                clear hK K
                try simp only [Act.put, List.setIfInBounds_toArray, List.set_cons_zero, List.set_cons_succ]
                refine Z_take (i := 28) (v := ?_) [[29, 28], [28]] rfl (by kernel_rfl) (by kernel_rfl) (by kernel_rfl) (by kernel_rfl) (by kernel_rfl) (fun _ _ _ h => h) (Or.inl ⟨by rfl, ?_⟩) (held _ hb4) ?_
                rotate_left
                · (intro w' hSw; (try dsimp only at hSw); go_simp <;> (with_reducible rfl))
                try simp only [Act.put, List.setIfInBounds_toArray, List.set_cons_zero, List.set_cons_succ]
                refine Z_take (i := 29) (v := ?_) [[29], [29]] rfl (by kernel_rfl) (by kernel_rfl) (by kernel_rfl) (by kernel_rfl) (by kernel_rfl) (fun _ _ _ h => h) (Or.inl ⟨by rfl, ?_⟩) (held _ hb4) ?_
                rotate_left
                · (intro w' hSw; (try dsimp only at hSw); go_simp <;> (with_reducible rfl))
                try simp only [Act.put, List.setIfInBounds_toArray, List.set_cons_zero, List.set_cons_succ]
                refine Z_one (i := 30) rfl (by kernel_rfl) (by rfl) (fun K hK => ?_)
                have hLX : X4.heap[L]? = _ := (hb4.block L hLB).trans hL0
                have hfr : X4.frozen? ⟨L, 0, none⟩ = false := by simp only [World.frozen?, hLX]; simp
                have hcl : X4.cell? ⟨L, 0, none⟩ = some kv := by simp only [World.cell?, hLX]; rfl
                have hLY := set_at (o := 0) (v := (.slice A2 (M + 1) c2)) hLX
                have hkY := ownsRow_setCell_below hk4 (a := ⟨L, 0, none⟩) hLB (.slice A2 (M + 1) c2)
                have hvY := ownsRow_setCell_below hv4 (a := ⟨L, 0, none⟩) hLB (.slice A2 (M + 1) c2)
                have hbY : Below L X0 (X4.setCell ⟨L, 0, none⟩ (.slice A2 (M + 1) c2)) := (hb4.mono (Nat.le_of_lt hLB)).setCell (p := ⟨L, 0, none⟩) (Nat.le_refl _) _
                have hkY2 : Keep L B X0 (X4.setCell ⟨L, 0, none⟩ (.slice A2 (M + 1) c2)) := (Keep.of hb4).set _
                go_simp
                generalize X4.setCell ⟨L, 0, none⟩ (.slice A2 (M + 1) c2) = Y at *
                refine hK.out _ _ (fun h => absurd h (none_of_not (by kernel_rfl))) ?_
                clear hK K
                try simp only [Act.put, List.setIfInBounds_toArray, List.set_cons_zero, List.set_cons_succ]
                refine Z_one (i := 31) rfl (by kernel_rfl) (by rfl) (fun K hK => ?_)
                go_simp
                refine hK.out _ _ (fun h => absurd h (none_of_not (by kernel_rfl))) ?_
                clear hK K
                try simp only [Act.put, List.setIfInBounds_toArray, List.set_cons_zero, List.set_cons_succ]
                refine Z_one (i := 32) rfl (by kernel_rfl) (by rfl) (fun K hK => ?_)
                go_simp
                refine hK.out _ _ (fun h => absurd h (none_of_not (by kernel_rfl))) ?_
                clear hK K
                try simp only [Act.put, List.setIfInBounds_toArray, List.set_cons_zero, List.set_cons_succ]
                refine Z_one (i := 33) rfl (by kernel_rfl) (by rfl) (fun K hK => ?_)
                have hfr2 : Y.frozen? ⟨L, 1, none⟩ = false := by simp only [World.frozen?, hLY]; simp
                have hcl2 : Y.cell? ⟨L, 1, none⟩ = some vv := by simp only [World.cell?, hLY]; rfl
                go_simp
                refine hK.out _ _ (fun h => absurd h (none_of_not (by kernel_rfl))) ?_
                clear hK K
                try simp only [Act.put, List.setIfInBounds_toArray, List.set_cons_zero, List.set_cons_succ]
                refine Z_done (by kernel_rfl) ?_ _
                go_wp2_with fail
                go_roundw
                case rel => exact lay_rel hLB HKVh.out hLY hkY hvY hAp4 hbX0 hbY hkX0 hkY2 HLen2.out hj2
                case measure => (simp [intOf] <;> omega)
              · go_simp
                have hs9 := val_new X1 u
                have hc9 : Below X1.heap.size X1 (X1.alloc (.cells #[.int .u64 u] 24)) := (Below.refl _ _).alloc (Nat.le_refl _) _
                have hk9 := hk1.alloc (.cells #[.int .u64 u] 24)
                have hv9 := hv1.alloc (.cells #[.int .u64 u] 24)
                have hS19 := hs1.below hc9
                generalize hX9 : World.alloc X1 (.cells #[.int .u64 u] 24) = X9 at *
                have hb9 := hb1.trans (hc9.mono (Nat.le_trans hL1 hb1.size))
                have hz9 := hb9.size
                refine hK.out _ _ (fun _ => held _ hb9) ?_
                clear hK K
                try simp only [Act.put, List.setIfInBounds_toArray, List.set_cons_zero, List.set_cons_succ]
                refine Z_one (i := 14) rfl (by kernel_rfl) (by rfl) (fun K hK => ?_)
                refine app_S (.tmp 113) (.tmp 121) rfl B _ M _ (by rfl) hk9 _ 1 1 [y] (by rfl) rfl hS19 (fun e => by cases e) (M + 1) rfl (by omega) (Nat.le_trans hL1 hb9.size) ?_
                intro A10 c10 X10 hk10 hg10 ha10 hc10
                have hb10 := hb9.trans hc10
                have hz10 := hb10.size
                have hv10 := own_stay hv9 (fun q hq => hg10.block q (own_lt hv9 q hq) (fun e => hap q e.symm hq))
                have hS210 := hs9.grown hg10 (fun b off e => by cases e; intro e2; have := hlk _ e2.symm; omega)
                refine hK.out _ _ (fun _ => held _ hb10) ?_
                clear hK K
                try simp only [Act.put, List.setIfInBounds_toArray, List.set_cons_zero, List.set_cons_succ]
                refine Z_one (i := 27) rfl (by kernel_rfl) (by rfl) (fun K hK => ?_)
                refine app_U (.tmp 126) (.tmp 134) rfl B _ M _ (by rfl) hv10 _ 1 1 [u] (by rfl) rfl hS210 (fun e => by cases e) (M + 1) rfl (by omega) (Nat.le_trans hL1 hb10.size) ?_
                intro A11 c11 X11 hv11 hg11 hd11 hc11
                have hb11 := hb10.trans hc11
                have hz11 := hb11.size
                have hk11 := own_stay hk10 (fun q hq => hg11.block q (own_lt hk10 q hq) (fun e => by rcases ha10 with h | h; (· exact hap q (h.symm.trans hq) e.symm); (· rw [hq] at h; cases h; have := hlv _ e.symm; omega)))
                have hAp11 : ∀ q, (Value.slice A10 (M + 1) c10).ownBlock = some q → (Value.slice A11 (M + 1) c11).ownBlock ≠ some q := fun q hq e => by
                  have hlq := own_lt hk10 q hq
                  rcases hd11 with h | h
                  · rcases ha10 with h2 | h2
                    · exact hap q (h2.symm.trans hq) (h.symm.trans e)
                    · have := hlv q (h.symm.trans e); rw [hq] at h2; cases h2; omega
                  · rw [h] at e; cases e; omega
                refine hK.out _ _ (fun _ => held _ hb11) ?_
                clear hK K
                try simp only [Act.put, List.setIfInBounds_toArray, List.set_cons_zero, List.set_cons_succ]
                refine Z_take (i := 28) (v := ?_) [[29, 28], [28]] rfl (by kernel_rfl) (by kernel_rfl) (by kernel_rfl) (by kernel_rfl) (by kernel_rfl) (fun _ _ _ h => h) (Or.inl ⟨by rfl, ?_⟩) (held _ hb11) ?_
                rotate_left
                · (intro w' hSw; (try dsimp only at hSw); go_simp <;> (with_reducible rfl))
                try simp only [Act.put, List.setIfInBounds_toArray, List.set_cons_zero, List.set_cons_succ]
                refine Z_take (i := 29) (v := ?_) [[29], [29]] rfl (by kernel_rfl) (by kernel_rfl) (by kernel_rfl) (by kernel_rfl) (by kernel_rfl) (fun _ _ _ h => h) (Or.inl ⟨by rfl, ?_⟩) (held _ hb11) ?_
                rotate_left
                · (intro w' hSw; (try dsimp only at hSw); go_simp <;> (with_reducible rfl))
                try simp only [Act.put, List.setIfInBounds_toArray, List.set_cons_zero, List.set_cons_succ]
                refine Z_one (i := 30) rfl (by kernel_rfl) (by rfl) (fun K hK => ?_)
                have hLX : X11.heap[L]? = _ := (hb11.block L hLB).trans hL0
                have hfr : X11.frozen? ⟨L, 0, none⟩ = false := by simp only [World.frozen?, hLX]; simp
                have hcl : X11.cell? ⟨L, 0, none⟩ = some kv := by simp only [World.cell?, hLX]; rfl
                have hLY := set_at (o := 0) (v := (.slice A10 (M + 1) c10)) hLX
                have hkY := ownsRow_setCell_below hk11 (a := ⟨L, 0, none⟩) hLB (.slice A10 (M + 1) c10)
                have hvY := ownsRow_setCell_below hv11 (a := ⟨L, 0, none⟩) hLB (.slice A10 (M + 1) c10)
                have hbY : Below L X0 (X11.setCell ⟨L, 0, none⟩ (.slice A10 (M + 1) c10)) := (hb11.mono (Nat.le_of_lt hLB)).setCell (p := ⟨L, 0, none⟩) (Nat.le_refl _) _
                have hkY2 : Keep L B X0 (X11.setCell ⟨L, 0, none⟩ (.slice A10 (M + 1) c10)) := (Keep.of hb11).set _
                go_simp
                generalize X11.setCell ⟨L, 0, none⟩ (.slice A10 (M + 1) c10) = Y at *
                refine hK.out _ _ (fun h => absurd h (none_of_not (by kernel_rfl))) ?_
                clear hK K
                try simp only [Act.put, List.setIfInBounds_toArray, List.set_cons_zero, List.set_cons_succ]
                refine Z_one (i := 31) rfl (by kernel_rfl) (by rfl) (fun K hK => ?_)
                go_simp
                refine hK.out _ _ (fun h => absurd h (none_of_not (by kernel_rfl))) ?_
                clear hK K
                try simp only [Act.put, List.setIfInBounds_toArray, List.set_cons_zero, List.set_cons_succ]
                refine Z_one (i := 32) rfl (by kernel_rfl) (by rfl) (fun K hK => ?_)
                go_simp
                refine hK.out _ _ (fun h => absurd h (none_of_not (by kernel_rfl))) ?_
                clear hK K
                try simp only [Act.put, List.setIfInBounds_toArray, List.set_cons_zero, List.set_cons_succ]
                refine Z_one (i := 33) rfl (by kernel_rfl) (by rfl) (fun K hK => ?_)
                have hfr2 : Y.frozen? ⟨L, 1, none⟩ = false := by simp only [World.frozen?, hLY]; simp
                have hcl2 : Y.cell? ⟨L, 1, none⟩ = some vv := by simp only [World.cell?, hLY]; rfl
                go_simp
                refine hK.out _ _ (fun h => absurd h (none_of_not (by kernel_rfl))) ?_
                clear hK K
                try simp only [Act.put, List.setIfInBounds_toArray, List.set_cons_zero, List.set_cons_succ]
                refine Z_done (by kernel_rfl) ?_ _
                go_wp2_with fail
                go_roundw
                case rel => exact lay_rel hLB HKVh.out hLY hkY hvY hAp11 hbX0 hbY hkX0 hkY2 HLen2.out hj2
                case measure => (simp [intOf] <;> omega)
            · go_simp
              have hs16 := val_new X0 u
              have hc16 : Below X0.heap.size X0 (X0.alloc (.cells #[.int .u64 u] 24)) := (Below.refl _ _).alloc (Nat.le_refl _) _
              have hk16 := hk0.alloc (.cells #[.int .u64 u] 24)
              have hv16 := hv0.alloc (.cells #[.int .u64 u] 24)
              generalize hX16 : World.alloc X0 (.cells #[.int .u64 u] 24) = X16 at *
              have hb16 := hb0.trans (hc16.mono (Nat.le_trans hL1 hb0.size))
              have hz16 := hb16.size
              refine hK.out _ _ (fun _ => held _ hb16) ?_
              clear hK K
              try simp only [Act.put, List.setIfInBounds_toArray, List.set_cons_zero, List.set_cons_succ]
              refine Z_one (i := 13) rfl (by kernel_rfl) (by rfl) (fun K hK => ?_)
              go_simp
              have hs17 := spot_new X16 y
              have hc17 : Below X16.heap.size X16 (X16.alloc (.cells #[.int .i64 y.br, .int .i64 y.vol, .int .i64 y.blk, .int .u64 y.num] 26)) := (Below.refl _ _).alloc (Nat.le_refl _) _
              have hk17 := hk16.alloc (.cells #[.int .i64 y.br, .int .i64 y.vol, .int .i64 y.blk, .int .u64 y.num] 26)
              have hv17 := hv16.alloc (.cells #[.int .i64 y.br, .int .i64 y.vol, .int .i64 y.blk, .int .u64 y.num] 26)
              have hS217 := hs16.below hc17
              generalize hX17 : World.alloc X16 (.cells #[.int .i64 y.br, .int .i64 y.vol, .int .i64 y.blk, .int .u64 y.num] 26) = X17 at *
              have hb17 := hb16.trans (hc17.mono (Nat.le_trans hL1 hb16.size))
              have hz17 := hb17.size
              refine hK.out _ _ (fun _ => held _ hb17) ?_
              clear hK K
              try simp only [Act.put, List.setIfInBounds_toArray, List.set_cons_zero, List.set_cons_succ]
              refine Z_one (i := 14) rfl (by kernel_rfl) (by rfl) (fun K hK => ?_)
              refine app_S (.tmp 113) (.tmp 121) rfl B _ M _ (by rfl) hk17 _ 1 1 [y] (by rfl) rfl hs17 (fun e => by cases e) (M + 1) rfl (by omega) (Nat.le_trans hL1 hb17.size) ?_
              intro A18 c18 X18 hk18 hg18 ha18 hc18
              have hb18 := hb17.trans hc18
              have hz18 := hb18.size
              have hv18 := own_stay hv17 (fun q hq => hg18.block q (own_lt hv17 q hq) (fun e => hap q e.symm hq))
              have hS218 := hS217.grown hg18 (fun b off e => by cases e; intro e2; have := hlk _ e2.symm; omega)
              refine hK.out _ _ (fun _ => held _ hb18) ?_
              clear hK K
              try simp only [Act.put, List.setIfInBounds_toArray, List.set_cons_zero, List.set_cons_succ]
              refine Z_one (i := 27) rfl (by kernel_rfl) (by rfl) (fun K hK => ?_)
              refine app_U (.tmp 126) (.tmp 134) rfl B _ M _ (by rfl) hv18 _ 1 1 [u] (by rfl) rfl hS218 (fun e => by cases e) (M + 1) rfl (by omega) (Nat.le_trans hL1 hb18.size) ?_
              intro A19 c19 X19 hv19 hg19 hd19 hc19
              have hb19 := hb18.trans hc19
              have hz19 := hb19.size
              have hk19 := own_stay hk18 (fun q hq => hg19.block q (own_lt hk18 q hq) (fun e => by rcases ha18 with h | h; (· exact hap q (h.symm.trans hq) e.symm); (· rw [hq] at h; cases h; have := hlv _ e.symm; omega)))
              have hAp19 : ∀ q, (Value.slice A18 (M + 1) c18).ownBlock = some q → (Value.slice A19 (M + 1) c19).ownBlock ≠ some q := fun q hq e => by
                have hlq := own_lt hk18 q hq
                rcases hd19 with h | h
                · rcases ha18 with h2 | h2
                  · exact hap q (h2.symm.trans hq) (h.symm.trans e)
                  · have := hlv q (h.symm.trans e); rw [hq] at h2; cases h2; omega
                · rw [h] at e; cases e; omega
              refine hK.out _ _ (fun _ => held _ hb19) ?_
              clear hK K
              try simp only [Act.put, List.setIfInBounds_toArray, List.set_cons_zero, List.set_cons_succ]
              refine Z_take (i := 28) (v := ?_) [[29, 28], [28]] rfl (by kernel_rfl) (by kernel_rfl) (by kernel_rfl) (by kernel_rfl) (by kernel_rfl) (fun _ _ _ h => h) (Or.inl ⟨by rfl, ?_⟩) (held _ hb19) ?_
              rotate_left
              · (intro w' hSw; (try dsimp only at hSw); go_simp <;> (with_reducible rfl))
              try simp only [Act.put, List.setIfInBounds_toArray, List.set_cons_zero, List.set_cons_succ]
              refine Z_take (i := 29) (v := ?_) [[29], [29]] rfl (by kernel_rfl) (by kernel_rfl) (by kernel_rfl) (by kernel_rfl) (by kernel_rfl) (fun _ _ _ h => h) (Or.inl ⟨by rfl, ?_⟩) (held _ hb19) ?_
              rotate_left
              · (intro w' hSw; (try dsimp only at hSw); go_simp <;> (with_reducible rfl))
              try simp only [Act.put, List.setIfInBounds_toArray, List.set_cons_zero, List.set_cons_succ]
              refine Z_one (i := 30) rfl (by kernel_rfl) (by rfl) (fun K hK => ?_)
              have hLX : X19.heap[L]? = _ := (hb19.block L hLB).trans hL0
              have hfr : X19.frozen? ⟨L, 0, none⟩ = false := by simp only [World.frozen?, hLX]; simp
              have hcl : X19.cell? ⟨L, 0, none⟩ = some kv := by simp only [World.cell?, hLX]; rfl
              have hLY := set_at (o := 0) (v := (.slice A18 (M + 1) c18)) hLX
              have hkY := ownsRow_setCell_below hk19 (a := ⟨L, 0, none⟩) hLB (.slice A18 (M + 1) c18)
              have hvY := ownsRow_setCell_below hv19 (a := ⟨L, 0, none⟩) hLB (.slice A18 (M + 1) c18)
              have hbY : Below L X0 (X19.setCell ⟨L, 0, none⟩ (.slice A18 (M + 1) c18)) := (hb19.mono (Nat.le_of_lt hLB)).setCell (p := ⟨L, 0, none⟩) (Nat.le_refl _) _
              have hkY2 : Keep L B X0 (X19.setCell ⟨L, 0, none⟩ (.slice A18 (M + 1) c18)) := (Keep.of hb19).set _
              go_simp
              generalize X19.setCell ⟨L, 0, none⟩ (.slice A18 (M + 1) c18) = Y at *
              refine hK.out _ _ (fun h => absurd h (none_of_not (by kernel_rfl))) ?_
              clear hK K
              try simp only [Act.put, List.setIfInBounds_toArray, List.set_cons_zero, List.set_cons_succ]
              refine Z_one (i := 31) rfl (by kernel_rfl) (by rfl) (fun K hK => ?_)
              go_simp
              refine hK.out _ _ (fun h => absurd h (none_of_not (by kernel_rfl))) ?_
              clear hK K
              try simp only [Act.put, List.setIfInBounds_toArray, List.set_cons_zero, List.set_cons_succ]
              refine Z_one (i := 32) rfl (by kernel_rfl) (by rfl) (fun K hK => ?_)
              go_simp
              refine hK.out _ _ (fun h => absurd h (none_of_not (by kernel_rfl))) ?_
              clear hK K
              try simp only [Act.put, List.setIfInBounds_toArray, List.set_cons_zero, List.set_cons_succ]
              refine Z_one (i := 33) rfl (by kernel_rfl) (by rfl) (fun K hK => ?_)
              have hfr2 : Y.frozen? ⟨L, 1, none⟩ = false := by simp only [World.frozen?, hLY]; simp
              have hcl2 : Y.cell? ⟨L, 1, none⟩ = some vv := by simp only [World.cell?, hLY]; rfl
              go_simp
              refine hK.out _ _ (fun h => absurd h (none_of_not (by kernel_rfl))) ?_
              clear hK K
              try simp only [Act.put, List.setIfInBounds_toArray, List.set_cons_zero, List.set_cons_succ]
              refine Z_done (by kernel_rfl) ?_ _
              go_wp2_with fail
              go_roundw
              case rel => exact lay_rel hLB HKVh.out hLY hkY hvY hAp19 hbX0 hbY hkX0 hkY2 HLen2.out hj2
              case measure => (simp [intOf] <;> omega)
        · obtain rfl : j = N := by omega
          have hfin : ListAt wr L B (ks ++ K) (vs ++ V) kv vv := by
            rw [List.take_of_length_le (by rw [HKV.out.1]; exact Nat.le_refl _), List.take_of_length_le (by rw [HKV.out.2]; exact Nat.le_refl _)] at hls
            exact hls
          have HFin := Lib.hid hfin
          clear hls hfin tk tv
          go_wp2_with fail
          go_ret
          exact ⟨rfl, ⟨_, _, HFin.out⟩, hbr, hkr⟩
  exact HLay.out root h1
end Go.Proofs.Ytainljbkejafcaa.N
