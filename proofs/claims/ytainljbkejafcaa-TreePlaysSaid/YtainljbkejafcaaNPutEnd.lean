/- The walk of Put on a leaf, at its end. -/
import Derived.Test.YtainljbkejafcaaNPut
namespace Go.Proofs.Ytainljbkejafcaa.N
open Go.RowKit
set_option linter.unusedVariables false
set_option linter.unusedSimpArgs false
theorem find_leaf' {w : World} {p : Nat} {ks : List Sp} {vs : List Int} (h : Leaf w p ks vs) (k : Sp) (hk : ks.length ≤ 1000) :
    Calls Try.prog 23 #[.pointer (some ⟨p, 0, none⟩), .agg #[.int .i64 k.br, .int .i64 k.vol, .int .i64 k.blk, .int .u64 k.num]] w fun e w' => e = .returned (.tuple #[.int .i64 (findL k ks).1, .bool (findL k ks).2]) ∧ Below w.heap.size w w' := find_leaf h k hk
set_option maxHeartbeats 1600000 in
set_option maxRecDepth 100000 in
theorem put_end {w : World} {p : Nat} {ks : List Sp} {vs : List Int} (h : Leaf w p ks vs) (h0 : 0 < ks.length) (h4' : ks.length ≤ 100) (hv : vs.length = ks.length) (k : Sp) (v : Int) (hf : findL k ks = (ks.length, false)) :
    Calls Try.prog 33 #[.pointer (some ⟨p, 0, none⟩), k.v, .int .u64 v] w (PutPost w (ks ++ [k]) (vs ++ [v])) := by
  have h4 : ks.length ≤ 1000 := by omega
  have HLf := Lib.hid h
  have HF := Lib.hid hf
  have HV := Lib.hid hv
  clear h hf hv
  unfold Sp.v
  go_enter Try.func33, Try.ntmps33
  go_wp2_with fail
  have hq := heap_alloc_new w (.cells #[.int .i64 k.br, .int .i64 k.vol, .int .i64 k.blk, .int .u64 k.num] 26)
  have hb0 := (Below.refl w.heap.size w).alloc (Nat.le_refl _) (.cells #[.int .i64 k.br, .int .i64 k.vol, .int .i64 k.blk, .int .u64 k.num] 26)
  generalize w.alloc (.cells #[.int .i64 k.br, .int .i64 k.vol, .int .i64 k.blk, .int .u64 k.num] 26) = W at *
  have hB0 := Lib.hid hb0
  clear hb0
  have ql := (Array.getElem?_eq_some_iff.1 hq).1
  replace HLf := Lib.hid (HLf.out.below hB0.out)
  have hQ : Hid (w.heap.size = w.heap.size) := rfl
  generalize hqe : w.heap.size = q at *
  have k0 : W.cell? ⟨q, 0, none⟩ = some (.int .i64 k.br) := by simp only [World.cell?, hq]; rfl
  have k1 : W.cell? ⟨q, 1, none⟩ = some (.int .i64 k.vol) := by simp only [World.cell?, hq]; rfl
  have k2 : W.cell? ⟨q, 2, none⟩ = some (.int .i64 k.blk) := by simp only [World.cell?, hq]; rfl
  have k3 : W.cell? ⟨q, 3, none⟩ = some (.int .u64 k.num) := by simp only [World.cell?, hq]; rfl
  clear hq
  have qW := ql
  refine (leaf_yes HLf.out).mono ?_
  rintro e w1 ⟨rfl, rfl⟩
  go_wp2_with fail
  refine (find_leaf' HLf.out k h4).mono ?_
  rintro e w2 ⟨rfl, hb2⟩
  rw [HF.out]
  obtain ⟨bc, bf⟩ := bcell hb2
  replace k0 := (bc q 0 ql).trans k0
  replace k1 := (bc q 1 ql).trans k1
  replace k2 := (bc q 2 ql).trans k2
  replace k3 := (bc q 3 ql).trans k3
  replace ql : q < w2.heap.size := Nat.lt_of_lt_of_le ql hb2.size
  replace HLf := Lib.hid (HLf.out.below hb2)
  have hB2 : Hid (Below q w w2) := hB0.out.trans (hb2.mono (Nat.le_of_lt qW))
  clear bc bf hb2
  go_wp2_with fail
  refine (leafs_at HLf.out h0 h4 HV.out).mono ?_
  rintro e w3 ⟨kv, vv, rfl, hk3, hv3, hne, hb3⟩
  have z3 := hb3.size
  obtain ⟨bc, bf⟩ := bcell hb3
  replace k0 := (bc q 0 ql).trans k0
  replace k1 := (bc q 1 ql).trans k1
  replace k2 := (bc q 2 ql).trans k2
  replace k3 := (bc q 3 ql).trans k3
  replace ql : q < w3.heap.size := Nat.lt_of_lt_of_le ql hb3.size
  have ql' := Nat.le_of_lt ql
  have qB : q ≤ w2.heap.size := hB2.out.size |> fun h => by have := World.block_lt_of_cell? w3 _ k0; have h2 := hqe; omega
  clear bc bf
  have hrow := Lib.hid (insS_end (w := w3.alloc (.cells (sps [k]).toArray 26)) kv ks k w3.heap.size h4 (hk3.alloc _) (heap_alloc_new w3 _) (by simp; omega))
  have HK3 := Lib.hid hk3
  have HV3 := Lib.hid hv3
  have HNE := Lib.hid hne
  have HB3 := Lib.hid hb3
  rw [sps_single] at hrow
  clear hk3 hv3 hne hb3
  go_wp2_with fail
  refine hrow.out.mono ?_
  clear hrow
  rintro e w5 ⟨kv', rfl, hk5, hg5, hat5⟩
  have hv5 : w5.ownsRow w2.heap.size 24 1 vv vs.length (u64s vs) := by
    rw [HV.out]
    refine (HV3.out.alloc _).kept hg5 ?_
    cases e : vv.ownBlock with
    | none => exact .inl rfl
    | some x => exact .inr (fun e2 => HNE.out x e2.symm e)
  have z5 : w3.heap.size + 1 ≤ w5.heap.size := by have := hg5.size; simpa using this
  have hB5 : Below w2.heap.size w2 w5 := (HB3.out.alloc z3 _).grown hg5 (by simp; omega) (own_ge HK3.out)
  have hrow2 := insU_end (w := w5.alloc (.cells (u64s [v]).toArray 24)) vv vs v w5.heap.size (by rw [HV.out]; exact h4) (hv5.alloc _) (heap_alloc_new w5 _) (by simp; omega)
  rw [u64s_single, HV.out] at hrow2
  have hne5 : ∀ x, kv'.ownBlock = some x → vv.ownBlock ≠ some x := fun x hx e => by
    rcases hat5 with h | h
    · exact HNE.out x (h.symm.trans hx) e
    · rw [hx] at h; have := own_lt HV3.out x e; simp at h; omega
  have HR2 := Lib.hid hrow2
  have HK5 := Lib.hid hk5
  have HV5 := Lib.hid hv5
  have HB5 := Lib.hid hB5
  have HN5 := Lib.hid hne5
  clear hk5 hg5 hat5 hv5 hB5 hrow2 hne5 HV3 HK3 HNE
  go_wp2_with fail
  refine HR2.out.mono ?_
  clear HR2
  rintro e w7 ⟨vv', rfl, hv7, hg7, hat7⟩
  have hk7 : w7.ownsRow w2.heap.size 26 4 kv' (ks.length + 1) (sps (ks ++ [k])) := by
    refine (HK5.out.alloc _).kept hg7 ?_
    cases e : kv'.ownBlock with
    | none => exact .inl rfl
    | some x => exact .inr (fun e2 => HN5.out x e e2.symm)
  have z7 : w5.heap.size + 1 ≤ w7.heap.size := by have := hg7.size; simpa using this
  have hB7 : Below w2.heap.size w2 w7 := (HB5.out.alloc (by omega) _).grown hg7 (by simp; omega) (own_ge HV5.out)
  have e1 : (ks ++ [k]).length = ks.length + 1 := by simp
  have e2 : (vs ++ [v]).length = ks.length + 1 := by simp [HV.out]
  rw [← e1] at hk7
  rw [← e2] at hv7
  obtain ⟨A, c, rfl, hc1, hc2, hks⟩ := spots_own hk7
  obtain ⟨A', c', rfl, hc1', hc2', hvs⟩ := vals_own hv7
  have HH := Lib.hid (halves_at hks hvs (by rw [e1, e2]) (by rw [e1]; omega) (by rw [e1]; omega) hc1 hc2 hc1' hc2')
  rw [e1, e2] at HH
  have HBF : Hid (Below q w w7) := hB2.out.trans (hB7.mono qB)
  clear hk7 hv7 hg7 hat7 hks hvs hB7 HK5 HV5 HB5 HN5
  go_wp2_with fail
  refine HH.out.mono ?_
  rintro e w8 hp8
  unfold PutPost at hp8
  rw [e1] at hp8
  subst hqe
  by_cases c5 : ks.length + 1 ≤ 4
  · rw [if_pos c5] at hp8
    obtain ⟨s, p', rfl, r⟩ := hp8
    go_wp2_with fail
    go_ret
    unfold PutPost
    rw [e1, if_pos c5]
    exact OnePost.base ⟨s, p', rfl, r⟩ HBF.out
  · rw [if_neg c5] at hp8
    obtain ⟨s, p', q', rfl, r⟩ := hp8
    go_wp2_with fail
    go_ret
    unfold PutPost
    rw [e1, if_neg c5]
    exact TwoPost.base ⟨s, p', q', rfl, r⟩ HBF.out
end Go.Proofs.Ytainljbkejafcaa.N
