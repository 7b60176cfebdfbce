/- The walks of leafs, halves, and Put on a leaf, at the end. -/
import Derived.Test.YtainljbkejafcaaNIns
namespace Go.Proofs.Ytainljbkejafcaa.N
open Go.RowKit Go.Proofs.YtainljbkejafcaaW.PrintMore Go.Proofs.YtainljbkejafcaaW.PrintWords
set_option linter.unusedVariables false
set_option linter.unusedSimpArgs false
/-- A copy whose run is known, in a region that draws nothing. -/
theorem list_copy {P : Program} {w : World} {ops : Array Oper} {rest : List Oper} {o : Oper} {a : Act} {Q : Exit → Act → World → Prop} (hgd : o.guard = none) (d s : Operand) (t t' : TypeId)
    (ho : o.op = .call { callee := .builtin .copy, args := #[d, s], argTypes := #[t, t'] }) (v u : Value) (hd : a.eval d = v) (hs : a.eval s = u) {v' : Value} {w' : World}
    (hr : (Builtin.copy_ #[t, t'] o.type #[v, u]).run P w = .ok v' w') (h : wpList P ops Q rest (a.put o.dst v') w') : wpList P ops Q (o :: rest) a w := by
  refine wpList_plain hgd fun _ hK => ?_
  unfold Oper.wp execOp
  simp only [ho, resolve, invoke, builtin, Sem.run_bind, Sem.run_pure, Result.andThen_ok, List.map_toArray, List.map_cons, List.map_nil, hd, hs, hr]
  exact hK _ _ h
theorem setRow_block (w : World) (g : Nat) (cs : Array Value) (k : Nat) (h : k ≠ g) : (w.setRow g cs).heap[k]? = w.heap[k]? := by
  unfold World.setRow
  rw [Array.getElem?_modify, if_neg (fun e => h e.symm)]
theorem bel_setRow {B : Nat} {w0 w : World} (h : Below B w0 w) {g : Nat} (hg : B ≤ g) (cs : Array Value) : Below B w0 (w.setRow g cs) :=
  ⟨h.os, h.tape, h.output, by have := h.size; simpa [World.setRow] using this, fun k hk => (setRow_block w g cs k (by omega)).trans (h.block k hk)⟩
def LeafsPost (w : World) (ks : List Sp) (vs : List Int) (e : Ending) (w' : World) : Prop := ∃ kv vv, e = .returned (.tuple #[kv, vv]) ∧ w'.ownsRow w.heap.size 26 4 kv ks.length (sps ks) ∧ w'.ownsRow w.heap.size 24 1 vv ks.length (u64s vs) ∧ (∀ q, kv.ownBlock = some q → vv.ownBlock ≠ some q) ∧ Below w.heap.size w w'
set_option maxHeartbeats 3200000 in
set_option maxRecDepth 100000 in
theorem leafs_at {w : World} {p : Nat} {ks : List Sp} {vs : List Int} (h : Leaf w p ks vs) (h0 : 0 < ks.length) (hk : ks.length ≤ 1000) (hv : vs.length = ks.length) :
    Calls Try.prog 61 #[.pointer (some ⟨p, 0, none⟩)] w (LeafsPost w ks vs) := by
  obtain ⟨A, ca, B, cb, hl⟩ := h
  have hmk := print_make_of (P := Try.prog) 32 24 (.int .u64 0) 8 Try.underlying32 infoU rfl (by decide) ks.length (by omega)
  have HX := Lib.hid hl
  have c0 := hl.c0
  have c1 := hl.c1
  have plt := hl.lt
  obtain ⟨b, off, rfl, hlt, hcs⟩ := hl.keys h0
  have HCl : Hid (∀ X, Below w.heap.size w X → Calls Try.prog 86 #[.slice (some ⟨b, off, none⟩) ks.length ca] X fun e w' => ∃ v, e = .returned v ∧ w'.ownsRow X.heap.size 26 4 v ks.length (sps ks) ∧ Below X.heap.size X w' ∧ w'.cell? ⟨p, 0, none⟩ = some (.slice (some ⟨b, off, none⟩) ks.length ca) ∧ Below w.heap.size w w') := fun X hX =>
    (clone_spots b off ca ks hk h0 (by have := hX.size; omega) (fun j hj => (hcs j hj).below hX hlt)).mono fun e w' ⟨v, h1, h2, h3⟩ => ⟨v, h1, h2, h3, (h3.cell (p := ⟨p, 0, none⟩) (by have := hX.size; show p < _; omega)).trans ((hX.cell (p := ⟨p, 0, none⟩) plt).trans c0), hX.trans (h3.mono hX.size)⟩
  clear hl hcs
  go_enter Try.func61, Try.ntmps61
  go_wp2_with fail
  go_cut [4, 5] (fun s4 s5 wx => ∃ (kv : Value) (g : Nat), kv = s4 ∧ s5 = .slice (some ⟨g, 0, none⟩) ks.length ks.length ∧ wx.ownsRow w.heap.size 26 4 kv ks.length (sps ks) ∧ wx.heap[g]? = some (.cells (madeCells #[.int .u64 0] ks.length) 24 (0, 0)) ∧ kv.ownBlock ≠ some g ∧ w.heap.size ≤ g ∧ Below w.heap.size w wx)
  case first =>
    go_region_held3 (fun w' => w'.cell? ⟨p, 0, none⟩ = some (.slice (some ⟨b, off, none⟩) ks.length ca)) (go_keep)
      (first
      | (go_at_call 86; refine (HCl.out _ ?_).mono ?_; (first | exact bel_drewN _ _ (n := 1) | exact ((Below.refl _ _).alloc (Nat.le_refl _) _).trans (bel_drewN _ _ (n := 1))); rintro e w4 ⟨kv, rfl, hown4, hb4, t4, hb5⟩))
    · go_wp2_with fail
      go_meet
      have z := hb5.size
      exact ⟨kv, _, rfl, rfl, (own_base (hown4.alloc _) (Nat.le_refl _)), heap_alloc_new w4 _, fun e => by have := own_lt hown4 _ e; omega, z, hb5.alloc z _⟩
    · go_wp2_with fail
      go_meet
      have hz : w.heap.size < (w.alloc (.cells (madeCells #[Value.int .u64 0] ks.length) 24)).drew.heap.size := by show w.heap.size < (w.alloc _).heap.size; simp
      exact ⟨kv, _, rfl, rfl, own_base hown4 (Nat.le_of_lt hz), (hb4.block _ hz).trans (heap_alloc_new w _), fun e => by have := own_ge hown4 _ e; omega, Nat.le_refl _, hb5⟩
  case rest =>
    obtain ⟨kv, g, rfl, rfl, hown, hg, hne, hgw, hb⟩ := hcut
    obtain ⟨vb, vo, rfl, hvlt, hvs⟩ := (HX.out.below hb).vals (by omega)
    have c1' := (hb.cell (p := ⟨p, 1, none⟩) plt).trans c1
    have HC := Lib.hid (fun ty => run_copy_row Try.prog wc 32 32 ty 24 g 0 ks.length ks.length ⟨vb, vo, none⟩ ks.length cb (madeCells #[.int .u64 0] ks.length) 24 (u64s vs) Try.underlying32 (by kernel_rfl) hg (by simp [u64s, hv]) (fun j v hj => by
      have hjl : j < vs.length := by have := (List.getElem?_eq_some_iff.1 hj).1; simpa [u64s] using this
      have ea : (⟨vb, vo, none⟩ : Addr).add j = ⟨vb, vo + j, none⟩ := by
        unfold Addr.add
        split
        · subst_vars; rfl
        · simp
      rw [ea, hvs j hjl, ← hj]
      simp [u64s, hjl]) (by simp [u64s, hv, madeCells]) (u64s_one vs))
    clear hvs
    go_wp2_with fail
    rw [HC.out]
    go_wp2_with fail
    go_ret2
    have hrow : (u64s vs ++ List.drop (u64s vs).length (madeCells #[Value.int .u64 0] ks.length).toList).toArray = (u64s vs).toArray := by
      rw [List.drop_eq_nil_of_le (by simp [u64s, hv, madeCells])]
      simp
    refine ⟨kv, .slice (some ⟨g, 0, none⟩) ks.length ks.length, rfl, ?_, ?_, fun q hq => ?_, bel_setRow hb hgw _⟩
    · exact own_stay hown (fun q hq => setRow_block _ _ _ _ (fun e => hne (by rw [hq, e])))
    · refine ⟨by simp [u64s, hv], .inr ⟨g, ks.length, _, rfl, hgw, setRow_heap _ _ _ _ _ _ hg, Nat.le_refl _, by simp only [maxLen]; omega, ?_, ?_⟩⟩
      · rw [hrow]; simp [u64s, hv]
      · rw [hrow]; simp only [Nat.mul_one]; exact List.take_of_length_le (by simp [u64s, hv])
    · intro e; simp only [Value.ownBlock, Option.some.injEq] at e; subst e; exact hne hq
def OnePost (w : World) (ks : List Sp) (vs : List Int) (e : Ending) (w' : World) : Prop := ∃ s p, e = .returned (.slice (some ⟨s, 0, none⟩) 1 1) ∧ w'.cell? ⟨s, 0, none⟩ = some (.pointer (some ⟨p, 0, none⟩)) ∧ w.heap.size ≤ s ∧ s < w'.heap.size ∧ Leaf w' p ks vs ∧ w.heap.size ≤ p ∧ Below w.heap.size w w'
def TwoPost (w : World) (ks1 ks2 : List Sp) (vs1 vs2 : List Int) (e : Ending) (w' : World) : Prop := ∃ s p q, e = .returned (.slice (some ⟨s, 0, none⟩) 2 2) ∧ w'.cell? ⟨s, 0, none⟩ = some (.pointer (some ⟨p, 0, none⟩)) ∧ w'.cell? ⟨s, 1, none⟩ = some (.pointer (some ⟨q, 0, none⟩)) ∧ w.heap.size ≤ s ∧ s < w'.heap.size ∧ Leaf w' p ks1 vs1 ∧ Leaf w' q ks2 vs2 ∧ w.heap.size ≤ p ∧ w.heap.size ≤ q ∧ Below w.heap.size w w'
theorem drew_cell {w : World} {g : Nat} {cs : Array Value} {T : TypeId} {fr : Nat × Nat} (h : w.heap[g]? = some (.cells cs T fr)) (o : Nat) : w.drew.cell? ⟨g, o, none⟩ = cs[o]? := by
  have e : w.drew.heap[g]? = some (.cells cs T fr) := h
  simp only [World.cell?, e]
  rfl
theorem two_blocks (w : World) (o1 o2 : Obj) : ∃ W, W = (w.alloc o1).alloc o2 ∧ W.heap[w.heap.size]? = some o1 ∧ W.heap[w.heap.size + 1]? = some o2 ∧ Below w.heap.size w W := by
  have h1 := heap_alloc_new w o1
  have h2 := heap_alloc_new (w.alloc o1) o2
  simp only [World.size_alloc] at h2
  exact ⟨_, rfl, (Below.heap_alloc _ _ _ (by simp)).trans h1, h2, ((Below.refl _ _).alloc (Nat.le_refl _) _).alloc (by simp) _⟩
set_option maxHeartbeats 1600000 in
set_option maxRecDepth 100000 in
theorem halves_one {w : World} {A B : Option Addr} {c c' : Nat} {ks : List Sp} {vs : List Int} (hk : SpotsAt w A ks) (hv : ValsAt w B vs) (h4 : ks.length ≤ 4) (hc : ks.length ≤ c) (hcm : c ≤ maxLen) :
    Calls Try.prog 62 #[.slice A ks.length c, .slice B vs.length c'] w (OnePost w ks vs) := by
  have HK := Lib.hid hk
  have HV := Lib.hid hv
  have HM := Lib.hid hcm
  clear hk hv hcm
  go_enter Try.func62, Try.ntmps62
  go_wp2_with fail
  go_ret
  obtain ⟨W, hW, h1, h2, hb⟩ := two_blocks w (.cells #[.slice A ks.length c, .slice B vs.length c', .slice none 0 0] 39) (.cells #[.pointer (some ⟨w.heap.size, 0, none⟩)] 36)
  subst hW
  exact ⟨w.heap.size + 1, w.heap.size, rfl, by simp only [World.cell?, h2]; rfl, by omega, (Array.getElem?_eq_some_iff.1 h2).1, ⟨A, c, B, c', h1, HK.out.below hb, HV.out.below hb, hc, HM.out⟩, Nat.le_refl _, hb⟩
theorem spots_take {w : World} {A : Option Addr} {l : List Sp} (h : SpotsAt w A l) (n : Nat) : SpotsAt w A (l.take n) := fun hl => by
  obtain ⟨b, off, e, hlt, hc⟩ := h (by simp at hl; omega)
  exact ⟨b, off, e, hlt, fun j hj => by rw [List.getElem_take]; exact hc j (by simp at hj; omega)⟩
theorem vals_take {w : World} {A : Option Addr} {l : List Int} (h : ValsAt w A l) (n : Nat) : ValsAt w A (l.take n) := fun hl => by
  obtain ⟨b, off, e, hlt, hc⟩ := h (by simp at hl; omega)
  exact ⟨b, off, e, hlt, fun j hj => by rw [List.getElem_take]; exact hc j (by simp at hj; omega)⟩
theorem spots_drop {w : World} {b off : Nat} {l : List Sp} (h : SpotsAt w (some ⟨b, off, none⟩) l) (n : Nat) : SpotsAt w (some ⟨b, off + n * 4, none⟩) (l.drop n) := fun hl => by
  obtain ⟨b', off', e, hlt, hc⟩ := h (by simp at hl; omega)
  cases e
  exact ⟨_, _, rfl, hlt, fun j hj => by rw [List.getElem_drop, show off + n * 4 + j * 4 = off + (n + j) * 4 by omega]; exact hc (n + j) (by simp at hj; omega)⟩
theorem vals_drop {w : World} {b off : Nat} {l : List Int} (h : ValsAt w (some ⟨b, off, none⟩) l) (n : Nat) : ValsAt w (some ⟨b, off + n, none⟩) (l.drop n) := fun hl => by
  obtain ⟨b', off', e, hlt, hc⟩ := h (by simp at hl; omega)
  cases e
  exact ⟨_, _, rfl, hlt, fun j hj => by rw [List.getElem_drop, Nat.add_assoc]; exact hc (n + j) (by simp at hj; omega)⟩
set_option maxHeartbeats 3200000 in
set_option maxRecDepth 100000 in
theorem halves_two {w : World} {b1 o1 b2 o2 c c' : Nat} {ks : List Sp} {vs : List Int} (hk : SpotsAt w (some ⟨b1, o1, none⟩) ks) (hv : ValsAt w (some ⟨b2, o2, none⟩) vs) (hl : vs.length = ks.length) (h4 : 4 < ks.length) (h8 : ks.length ≤ 1000) (hc : ks.length ≤ c) (hcm : c ≤ 9223372036854775807) (hc' : ks.length ≤ c') (hcm' : c' ≤ 9223372036854775807) :
    Calls Try.prog 62 #[.slice (some ⟨b1, o1, none⟩) ks.length c, .slice (some ⟨b2, o2, none⟩) ks.length c'] w (TwoPost w (ks.take ((ks.length + 1) / 2)) (ks.drop ((ks.length + 1) / 2)) (vs.take ((ks.length + 1) / 2)) (vs.drop ((ks.length + 1) / 2))) := by
  have HK := Lib.hid hk
  have HV := Lib.hid hv
  have HLn := Lib.hid hl
  obtain ⟨N, hN⟩ : ∃ N, ks.length = N := ⟨_, rfl⟩
  have HN := Lib.hid hN
  rw [hN] at h4 h8 hc hc' ⊢
  clear hk hv hl hN
  obtain ⟨h, hh⟩ : ∃ h, (N + 1) / 2 = h := ⟨_, rfl⟩
  have hq : ((N : Int) + 1).tdiv 2 = (h : Int) := by rw [Int.tdiv_eq_ediv_of_nonneg (by omega)]; omega
  have h1 : 0 < h := by omega
  have h2 : h ≤ N := by omega
  have h3 : h < N := by omega
  rw [hh]
  have HH := Lib.hid hh
  clear hh
  have et : (ks.take h).length = h := by rw [List.length_take, HN.out]; omega
  have ed : (ks.drop h).length = N - h := by rw [List.length_drop, HN.out]
  have ev : (vs.take h).length = h := by rw [List.length_take, HLn.out, HN.out]; omega
  have ew : (vs.drop h).length = N - h := by rw [List.length_drop, HLn.out, HN.out]
  go_enter Try.func62, Try.ntmps62
  go_wp2_with fail
  have n1 : ¬ (c = h) := by omega
  have n2 : ¬ (c' = h) := by omega
  have i1 : (0 : Int) ≤ (h : Int) := by omega
  have i2 : (h : Int) ≤ (N : Int) := by omega
  have i3 : (h : Int) ≤ (c : Int) := by omega
  have i4 : (h : Int) ≤ (c' : Int) := by omega
  go_region_held3 (fun _ => True) (trivial) (fail)
  · obtain ⟨W, hW, h1, h2, h3, hb⟩ := three_allocs w (.cells #[.slice (some ⟨b1, o1, none⟩) h h, .slice (some ⟨b2, o2, none⟩) h h, .slice none 0 0] 39) (.cells #[.slice (some ⟨b1, o1 + h * 4, none⟩) (N - h) (c - h), .slice (some ⟨b2, o2 + h, none⟩) (N - h) (c' - h), .slice none 0 0] 39) (.cells #[.pointer (some ⟨w.heap.size, 0, none⟩), .pointer (some ⟨w.heap.size + 1, 0, none⟩)] 36)
    go_wp2_with fail
    go_ret
    subst hW
    have h3' := h3
    have hb' := hb.trans (bel_drewN w.heap.size _ (n := 1))
    exact ⟨w.heap.size + 1 + 1, w.heap.size, w.heap.size + 1, rfl, drew_cell h3' 0, drew_cell h3' 1, by omega, (Array.getElem?_eq_some_iff.1 h3').1, ⟨_, h, _, h, by rw [et, ev]; exact h1, (spots_take HK.out h).below hb', (vals_take HV.out h).below hb', by rw [et]; exact Nat.le_refl _, by simp only [maxLen]; omega⟩, ⟨_, c - h, _, c' - h, by rw [ed, ew]; exact h2, (spots_drop HK.out h).below hb', (vals_drop HV.out h).below hb', by rw [ed]; omega, by simp only [maxLen]; omega⟩, by omega, by omega, hb'⟩
  · obtain ⟨W, hW, h1, h2, h3, hb⟩ := three_allocs w (.cells #[.slice (some ⟨b1, o1 + h * 4, none⟩) (N - h) (c - h), .slice (some ⟨b2, o2 + h, none⟩) (N - h) (c' - h), .slice none 0 0] 39) (.cells #[.slice (some ⟨b1, o1, none⟩) h h, .slice (some ⟨b2, o2, none⟩) h h, .slice none 0 0] 39) (.cells #[.pointer (some ⟨w.heap.size + 1, 0, none⟩), .pointer (some ⟨w.heap.size, 0, none⟩)] 36)
    go_wp2_with fail
    go_ret
    subst hW
    have h3' := h3
    have hb' := hb.trans (bel_drewN w.heap.size _ (n := 1))
    exact ⟨w.heap.size + 1 + 1, w.heap.size + 1, w.heap.size, rfl, drew_cell h3' 0, drew_cell h3' 1, by omega, (Array.getElem?_eq_some_iff.1 h3').1, ⟨_, h, _, h, by rw [et, ev]; exact h2, (spots_take HK.out h).below hb', (vals_take HV.out h).below hb', by rw [et]; exact Nat.le_refl _, by simp only [maxLen]; omega⟩, ⟨_, c - h, _, c' - h, by rw [ed, ew]; exact h1, (spots_drop HK.out h).below hb', (vals_drop HV.out h).below hb', by rw [ed]; omega, by simp only [maxLen]; omega⟩, by omega, by omega, hb'⟩
theorem sps_single (k : Sp) : (sps [k]).toArray = #[.int .i64 k.br, .int .i64 k.vol, .int .i64 k.blk, .int .u64 k.num] := rfl
theorem u64s_single (v : Int) : (u64s [v]).toArray = #[.int .u64 v] := rfl
/-- What Put makes of a leaf, at its end. -/
def PutPost (w : World) (ks : List Sp) (vs : List Int) (e : Ending) (w' : World) : Prop := if ks.length ≤ 4 then OnePost w ks vs e w' else TwoPost w (ks.take ((ks.length + 1) / 2)) (ks.drop ((ks.length + 1) / 2)) (vs.take ((ks.length + 1) / 2)) (vs.drop ((ks.length + 1) / 2)) e w'
theorem OnePost.base {w w1 : World} {ks : List Sp} {vs : List Int} {e : Ending} {w' : World} (h : OnePost w1 ks vs e w') (hb : Below w.heap.size w w1) : OnePost w ks vs e w' := by
  obtain ⟨s, p, h1, h2, h3, h4, h5, h6, h7⟩ := h
  have := hb.size
  exact ⟨s, p, h1, h2, by omega, h4, h5, by omega, hb.trans (h7.mono hb.size)⟩
theorem TwoPost.base {w w1 : World} {k1 k2 : List Sp} {v1 v2 : List Int} {e : Ending} {w' : World} (h : TwoPost w1 k1 k2 v1 v2 e w') (hb : Below w.heap.size w w1) : TwoPost w k1 k2 v1 v2 e w' := by
  obtain ⟨s, p, q, h1, h2, h3, h4, h5, h6, h7, h8, h9, h10⟩ := h
  have := hb.size
  exact ⟨s, p, q, h1, h2, h3, by omega, h5, h6, h7, by omega, by omega, hb.trans (h10.mono hb.size)⟩
theorem halves_at {w : World} {A B : Option Addr} {c c' : Nat} {ks : List Sp} {vs : List Int} (hk : SpotsAt w A ks) (hv : ValsAt w B vs) (hl : vs.length = ks.length) (h0 : 0 < ks.length) (h8 : ks.length ≤ 1000) (hc : ks.length ≤ c) (hcm : c ≤ maxLen) (hc' : vs.length ≤ c') (hcm' : c' ≤ maxLen) :
    Calls Try.prog 62 #[.slice A ks.length c, .slice B vs.length c'] w (PutPost w ks vs) := by
  by_cases h4 : ks.length ≤ 4
  · exact (halves_one hk hv h4 hc hcm).mono fun e w' h => by unfold PutPost; rw [if_pos h4]; exact h
  · obtain ⟨b1, o1, rfl, _⟩ := hk h0
    obtain ⟨b2, o2, rfl, _⟩ := hv (by omega)
    rw [hl]
    exact (halves_two hk hv hl (by omega) h8 hc (by unfold maxLen at hcm; omega) (by omega) (by unfold maxLen at hcm'; omega)).mono fun e w' h => by unfold PutPost; rw [if_neg h4]; exact h
set_option maxHeartbeats 1600000 in
set_option maxRecDepth 100000 in
theorem put_nil (k : Sp) (v : Int) (w : World) : Calls Try.prog 33 #[.pointer none, k.v, .int .u64 v] w (OnePost w [k] [v]) := by
  unfold Sp.v
  go_enter Try.func33, Try.ntmps33
  go_wp2_with fail
  go_ret
  have h0 := heap_alloc_new w (.cells #[.int .i64 k.br, .int .i64 k.vol, .int .i64 k.blk, .int .u64 k.num] 26)
  have hB0 := (Below.refl w.heap.size w).alloc (Nat.le_refl _) (.cells #[.int .i64 k.br, .int .i64 k.vol, .int .i64 k.blk, .int .u64 k.num] 26)
  obtain ⟨W, hW, h1, h2, h3, h4, hb⟩ := four_allocs (w.alloc (.cells #[.int .i64 k.br, .int .i64 k.vol, .int .i64 k.blk, .int .u64 k.num] 26)) (.cells #[.int .i64 k.br, .int .i64 k.vol, .int .i64 k.blk, .int .u64 k.num] 26) (.cells #[.int .u64 v] 24) (.cells #[.slice (some ⟨w.heap.size + 1, 0, none⟩) 1 1, .slice (some ⟨w.heap.size + 1 + 1, 0, none⟩) 1 1, .slice none 0 0] 39) (.cells #[.pointer (some ⟨w.heap.size + 1 + 1 + 1, 0, none⟩)] 36)
  simp only [World.size_alloc] at h1 h2 h3 h4 hb
  subst hW
  refine ⟨w.heap.size + 1 + 1 + 1 + 1, w.heap.size + 1 + 1 + 1, rfl, by simp only [World.cell?, h4]; rfl, by omega, (Array.getElem?_eq_some_iff.1 h4).1, ⟨some ⟨w.heap.size + 1, 0, none⟩, 1, some ⟨w.heap.size + 1 + 1, 0, none⟩, 1, h3, fun _ => ⟨_, 0, rfl, (Array.getElem?_eq_some_iff.1 h1).1, fun j hj => ?_⟩, fun _ => ⟨_, 0, rfl, (Array.getElem?_eq_some_iff.1 h2).1, fun j hj => ?_⟩, by simp, by simp [maxLen]⟩, by omega, hB0.trans (hb.mono (by omega))⟩
  · obtain rfl : j = 0 := by simp at hj; exact hj
    exact ⟨by simp only [World.cell?, h1]; rfl, by simp only [World.cell?, h1]; rfl, by simp only [World.cell?, h1]; rfl, by simp only [World.cell?, h1]; rfl⟩
  · obtain rfl : j = 0 := by simp at hj; exact hj
    simp only [World.cell?, h2]; rfl
end Go.Proofs.Ytainljbkejafcaa.N
