/- The document's Put where a spot is there; Put and Del on a list of entries. -/
import Derived.Test.YtjeebbolnanmkaaNRDel
import Derived.Test.YtjeebbolnanmkaaNPure
namespace Go.Proofs.Ytjeebbolnanmkaa.N
open Go.RowKit Go.Proofs.YtjeebbolnanmkaaW.PrintMore Go.Proofs.YtjeebbolnanmkaaW.PrintWords
set_option linter.unusedVariables false
set_option linter.unusedSimpArgs false
theorem u64_set {X : World} {B n c g i : Nat} {vs : List Int} (h : X.ownsRow B 24 1 (.slice (some ⟨g, 0, none⟩) n c) n (u64s vs)) (v : Int) :
    (X.setCell ⟨g, i, none⟩ (.int .u64 v)).ownsRow B 24 1 (.slice (some ⟨g, 0, none⟩) n c) n (u64s (vs.set i v)) := by
  obtain ⟨hl, h⟩ := h
  refine ⟨by simpa [u64s] using hl, ?_⟩
  rcases h with ⟨e, _⟩ | ⟨g', cap, cur, e, h1, h2, h3, h4, h5, h6⟩
  · cases e
  · cases e
    refine .inr ⟨g, c, cur.setIfInBounds i (.int .u64 v), rfl, h1, set_at h2, h3, h4, by rw [Array.size_setIfInBounds]; exact h5, ?_⟩
    rw [Array.toList_setIfInBounds, List.take_set, h6]
    simp [u64s, List.map_set]
/-- What stands after the new row is stored in the list. -/
theorem put_row {w1 Wa w2 : World} {N L i : Nat} {v1 kv vv : Value} {vs : List Int} (hown : w2.ownsRow w1.heap.size 24 1 v1 N (u64s vs)) (hgr : Wa.grownBy w2 (some w1.heap.size)) (h0 : 0 < N)
    (hL : Wa.heap[L]? = some (.cells #[kv, vv] 34 (0, 0))) (hLz : L < w1.heap.size) (hwa : w1.heap.size ≤ Wa.heap.size) (hi : i < N) (hvl : vs.length = N) :
    ∃ g2 c2, v1 = .slice (some ⟨g2, 0, none⟩) N c2 ∧ w2.frozen? ⟨L, 1, none⟩ = false ∧ w2.cell? ⟨L, 1, none⟩ = some vv ∧ (w2.setCell ⟨L, 1, none⟩ (.slice (some ⟨g2, 0, none⟩) N c2)).cell? ⟨L, 1, none⟩ = some (.slice (some ⟨g2, 0, none⟩) N c2) ∧
      (w2.setCell ⟨L, 1, none⟩ (.slice (some ⟨g2, 0, none⟩) N c2)).frozen? ⟨g2, i, none⟩ = false ∧ (∃ u, (w2.setCell ⟨L, 1, none⟩ (.slice (some ⟨g2, 0, none⟩) N c2)).cell? ⟨g2, i, none⟩ = some (.int .u64 u)) ∧
      Hid (w1.heap.size ≤ g2) ∧ Hid (∀ v, ((w2.setCell ⟨L, 1, none⟩ (.slice (some ⟨g2, 0, none⟩) N c2)).setCell ⟨g2, i, none⟩ (.int .u64 v)).heap[L]? = some (.cells #[kv, .slice (some ⟨g2, 0, none⟩) N c2] 34 (0, 0)) ∧ ((w2.setCell ⟨L, 1, none⟩ (.slice (some ⟨g2, 0, none⟩) N c2)).setCell ⟨g2, i, none⟩ (.int .u64 v)).ownsRow w1.heap.size 24 1 (.slice (some ⟨g2, 0, none⟩) N c2) N (u64s (vs.set i v)) ∧ Wa.heap.size ≤ ((w2.setCell ⟨L, 1, none⟩ (.slice (some ⟨g2, 0, none⟩) N c2)).setCell ⟨g2, i, none⟩ (.int .u64 v)).heap.size ∧
        ∀ k, k < w1.heap.size → k ≠ L → ((w2.setCell ⟨L, 1, none⟩ (.slice (some ⟨g2, 0, none⟩) N c2)).setCell ⟨g2, i, none⟩ (.int .u64 v)).heap[k]? = Wa.heap[k]?) ∧ Hid (w2.os = Wa.os ∧ w2.tape = Wa.tape ∧ w2.output = Wa.output) := by
  rcases row_form hown with ⟨e, n0⟩ | ⟨g2, c2, rfl, hgc, hcm, hgB⟩
  · omega
  have hLa := (Array.getElem?_eq_some_iff.1 hL).1
  have hL2 := (hgr.block L hLa (fun e => by cases e; omega)).trans hL
  have hown3 := ownsRow_setCell_below hown (a := ⟨L, 1, none⟩) hLz (.slice (some ⟨g2, 0, none⟩) N c2)
  have hL3 := set_at (o := 1) (v := .slice (some ⟨g2, 0, none⟩) N c2) hL2
  refine ⟨g2, c2, rfl, by simp only [World.frozen?, hL2]; simp, by simp only [World.cell?, hL2]; rfl, by simp only [World.cell?, hL3]; rfl, ?_, ?_, hgB, fun v => ⟨?_, u64_set hown3 v, ?_, fun k hk hkL => ?_⟩, hgr.os, hgr.tape, hgr.output⟩
  · rcases hown3.2 with ⟨e, _⟩ | ⟨g', cap, cur, e, h1, h2, h3, h4, h5, h6⟩
    · cases e
    · cases e
      simp only [World.frozen?, h2]; simp
  · have hl3 := hown3.cellAt i (by omega)
    exact ⟨vs[i]'(by omega), by rw [hl3]; simp [u64s, List.getElem?_eq_getElem (show i < vs.length by omega)]⟩
  · rw [set_off _ (show L ≠ g2 by omega)]
    exact hL3
  · simp only [World.setCell, Array.size_modify]
    exact hgr.size
  · rw [set_off _ (show k ≠ g2 by omega), set_off _ hkL]
    exact hgr.block k (Nat.lt_of_lt_of_le hk (by omega)) (fun e => by cases e; omega)
set_option maxHeartbeats 3200000 in
set_option maxRecDepth 100000 in
theorem rput_had {w : World} {L B : Nat} {ks : List Sp} {vs : List Int} {kv vv : Value} (h : ListAt w L B ks vs kv vv) (hB : B ≤ w.heap.size) (k : Sp) (v : Int) (hk : ks.length ≤ 1000) (i : Nat) (hf : findL k ks = (i, true)) (hi : i < ks.length) :
    Calls Try.prog 15 #[.pointer (some ⟨L, 0, none⟩), k.v, .int .u64 v] w (RPut w L B ks (vs.set i v)) := by
  unfold Sp.v
  have HL := Lib.hid h
  have lL := h.lt
  obtain ⟨A, cc, rfl, hc1, hc2, hsA⟩ := spots_own h.keys
  have hp := h.hp
  have HS := Lib.hid hsA
  clear hsA h
  go_enter Try.func15, Try.ntmps15
  go_wp2_with fail
  have hbw : Below w.heap.size w (w.alloc (.cells #[.int .i64 k.br, .int .i64 k.vol, .int .i64 k.blk, .int .u64 k.num] 26)) := (Below.refl _ _).alloc (Nat.le_refl _) _
  generalize w.alloc (.cells #[.int .i64 k.br, .int .i64 k.vol, .int .i64 k.blk, .int .u64 k.num] 26) = W at *
  refine (rfind_at ((hbw.block L lL).trans hp) (HS.out.below hbw) k (by omega)).mono ?_
  rintro e w1 ⟨rfl, hb1⟩
  simp only [hf]
  have HBW : Hid (Below w.heap.size w w1) := hbw.trans (hb1.mono hbw.size)
  have hL1 := (HBW.out.block L lL).trans hp
  have hLz : L < w1.heap.size := (Array.getElem?_eq_some_iff.1 hL1).1
  have HL1 := Lib.hid (HL.out.below HBW.out)
  have hvl : vs.length = ks.length := HL.out.len
  have hBz : B ≤ w1.heap.size := Nat.le_trans hB HBW.out.size
  clear hbw hb1 hp
  obtain ⟨N, hN⟩ : ∃ N, ks.length = N := ⟨_, rfl⟩
  have HN := Lib.hid hN
  rw [hN] at hi hk hc1 hvl hL1
  have hvals := HL1.out.vals
  rw [hvl] at hvals
  rcases row_form hvals with ⟨e, n0⟩ | ⟨g, c, rfl, hgc, hcm, hgB⟩
  · omega
  obtain ⟨i0, hi0, hz0, hz1, hz2⟩ := info_parts infoU
  have fm : 0 + N ≤ maxLen := by simp only [maxLen]; omega
  have fb : (0 + N) * 8 ≤ 140737488355328 := by omega
  have HV := Lib.hid (hvals.alloc (.cells #[] 24))
  have HE := Lib.hid (empty_own w1 24 1 (by decide))
  have hXL : (w1.alloc (.cells #[] 24)).heap[L]? = some (.cells #[.slice A N cc, .slice (some ⟨g, 0, none⟩) N c] 34 (0, 0)) := (Below.heap_alloc w1 (.cells #[] 24) L hLz).trans hL1
  have hXb : Below w1.heap.size w1 (w1.alloc (.cells #[] 24)) := (Below.refl _ _).alloc (Nat.le_refl _) _
  have dc : (w1.alloc (.cells #[] 24)).cell? ⟨L, 1, none⟩ = some (.slice (some ⟨g, 0, none⟩) N c) := by simp only [World.cell?, hXL]; rfl
  have HK := Lib.hid HL1.out.keys
  have Hsz := Lib.hid (World.size_alloc w1 (.cells #[] 24))
  have HW1 : Hid (w1.heap.size ≤ (w1.alloc (.cells #[] 24)).heap.size) := hXb.size
  have HXb := Lib.hid hXb
  have HXL := Lib.hid hXL
  have ho : Hid (∃ q, q = w1.heap.size) := ⟨_, rfl⟩
  clear hvals hL1 hXL hXb
  have e1 : (0 : Int) ≤ (i : Int) := by omega
  have e2 : (i : Int) < (N : Int) := by omega
  have HLz := Lib.hid hLz
  have HBz := Lib.hid hBz
  go_wp2_with (at_builtin; refine list_both rfl (.tmp 16) (.tmp 20) 32 rfl w1.heap.size B 24 i0 (.int .u64 0) 1 8 Try.underlying32 hi0 hz0 hz1 hz2 rfl (by decide) _ _ _ (by rfl) HE.out _ N (u64s vs) (by rfl) HV.out (u64s_one vs) fm fb HW1.out ?_; intro v1 w2 hown1 hgr1 hat1; rw [Nat.zero_add, List.nil_append] at hown1; obtain ⟨g2, c2, rfl, hf1, hf2, hg1, hg2, ⟨u3, hg3⟩, HOwn, HG, HOs⟩ := put_row hown1 hgr1 (by omega) HXL.out HLz.out HW1.out hi hvl; clear hown1 hgr1 hat1 hi0 hz0 hz1 hz2 dc)
  refine bodyPost_ret (v := .tuple #[]) (by rw [results_none rfl]) rfl ?_
  obtain ⟨hL4, hO4, hZ4, hB4⟩ := HG.out v
  have hN1 := HN.out
  have hk1 := HK.out
  have hbd := HL.out.base
  have hX := HXb.out
  have hsz := HBW.out.size
  have hstay : ∀ q, q < w1.heap.size → q ≠ L → _ := fun q hq hqL => (hB4 q hq hqL).trans (hX.block q hq)
  rw [hN1] at hk1
  refine ⟨_, _, rfl, ⟨hL4, ?_, ?_, by rw [List.length_set, hvl, hN1], hbd, fun q hq hq2 => ?_⟩, ?_⟩
  · rw [hN1]
    exact own_stay hk1 (fun q hq => hstay q (own_lt hk1 q hq) (fun e => by have := own_ge hk1 q hq; omega))
  · rw [List.length_set, hvl]
    exact own_base hO4 hBz
  · have := own_lt hk1 q hq
    have := own_ge hO4 q hq2
    omega
  · exact ⟨HOs.out.1.trans (hX.os.trans HBW.out.os), HOs.out.2.1.trans (hX.tape.trans HBW.out.tape), HOs.out.2.2.trans (hX.output.trans HBW.out.output), by have := HW1.out; omega, fun q hq hqL => (hstay q (by omega) (fun e => hqL (by rw [e]))).trans (HBW.out.block q hq)⟩
/-- The list of the entries l. -/
def ListE (w : World) (L : Nat) (l : List Ent) : Prop := ∃ kv vv, ListAt w L (L + 1) (l.map (·.1)) (l.map (·.2)) kv vv
theorem ListE.lt {w : World} {L : Nat} {l : List Ent} (h : ListE w L l) : L < w.heap.size := by obtain ⟨_, _, h⟩ := h; exact h.lt
theorem ListE.below {w w' : World} {L : Nat} {l : List Ent} (h : ListE w L l) (hb : Below w.heap.size w w') : ListE w' L l := by obtain ⟨kv, vv, h⟩ := h; exact ⟨kv, vv, h.below hb⟩
def RPutE (w : World) (L : Nat) (l : List Ent) (e : Ending) (w' : World) : Prop := e = .returned (.tuple #[]) ∧ ListE w' L l ∧ w.grownBy w' (some L)
theorem rput_at {w : World} {L : Nat} {l : List Ent} (h : ListE w L l) (k : Sp) (v : Int) (hl : l.length ≤ 1000) :
    Calls Try.prog 15 #[.pointer (some ⟨L, 0, none⟩), k.v, .int .u64 v] w (RPutE w L (insE k v l)) := by
  have hz := h.lt
  obtain ⟨kv, vv, h⟩ := h
  have hle := findL_le k (l.map (·.1))
  have hhas := findL_has k l
  cases hh : hasE k l with
  | true =>
    obtain ⟨e1, e2⟩ := insE_had k v l hh
    have hlt := findL_lt k (l.map (·.1)) (by rw [hhas, hh])
    refine (rput_had h hz k v (by rw [List.length_map]; exact hl) _ (Prod.ext rfl (hhas.trans hh)) hlt).mono fun e w' hp => ?_
    obtain ⟨kv', vv', a, b, c⟩ := hp
    exact ⟨a, ⟨kv', vv', by rw [e1, e2]; exact b⟩, c⟩
  | false =>
    obtain ⟨e1, e2⟩ := insE_new k v l hh
    refine (rput_new h hz k v (by rw [List.length_map]; exact hl) _ (Prod.ext rfl (hhas.trans hh)) hle).mono fun e w' hp => ?_
    obtain ⟨kv', vv', a, b, c⟩ := hp
    exact ⟨a, ⟨kv', vv', by rw [e1, e2]; exact b⟩, c⟩
def RDelE (w : World) (L : Nat) (k : Sp) (l : List Ent) (e : Ending) (w' : World) : Prop := e = .returned (.bool (hasE k l)) ∧ ListE w' L (delE k l) ∧ w.grownBy w' (some L)
theorem rdel_at {w : World} {L : Nat} {l : List Ent} (h : ListE w L l) (k : Sp) (hl : l.length ≤ 1000) :
    Calls Try.prog 30 #[.pointer (some ⟨L, 0, none⟩), k.v] w (RDelE w L k l) := by
  have hz := h.lt
  obtain ⟨kv, vv, h⟩ := h
  have hhas := findL_has k l
  cases hh : hasE k l with
  | true =>
    obtain ⟨e1, e2⟩ := delE_had k l hh
    have hlt := findL_lt k (l.map (·.1)) (by rw [hhas, hh])
    refine (rdel_yes h hz k (by rw [List.length_map]; exact hl) _ (Prod.ext rfl (hhas.trans hh)) hlt).mono fun e w' hp => ?_
    obtain ⟨kv', vv', a, b, c⟩ := hp
    exact ⟨by rw [hh]; exact a, ⟨kv', vv', by rw [e1, e2]; exact b⟩, c⟩
  | false =>
    refine (rdel_no h k (by rw [List.length_map]; exact hl) _ (Prod.ext rfl (hhas.trans hh))).mono fun e w' hp => ?_
    obtain ⟨kv', vv', a, b, c⟩ := hp
    exact ⟨by rw [hh]; exact a, ⟨kv', vv', by rw [delE_none hh]; exact b⟩, c⟩
end Go.Proofs.Ytjeebbolnanmkaa.N
