/- The walk of Put on a leaf, at any place. -/
import Derived.Test.YtainljbkejafcaaNPutEnd
import Derived.Test.YtainljbkejafcaaNInsR
namespace Go.Proofs.Ytainljbkejafcaa.N
open Go.RowKit Go.Proofs.YtainljbkejafcaaW.PrintMore Go.Proofs.YtainljbkejafcaaW.PrintWords
set_option linter.unusedVariables false
set_option linter.unusedSimpArgs false
set_option maxHeartbeats 1600000 in
set_option maxRecDepth 100000 in
theorem put_new {w : World} {p : Nat} {ks : List Sp} {vs : List Int} (h : Leaf w p ks vs) (h0 : 0 < ks.length) (h4' : ks.length ≤ 100) (hv : vs.length = ks.length) (k : Sp) (v : Int) (i : Nat) (hf : findL k ks = (i, false)) (hil : i ≤ ks.length) :
    Calls Try.prog 33 #[.pointer (some ⟨p, 0, none⟩), k.v, .int .u64 v] w (PutPost w (ks.take i ++ [k] ++ ks.drop i) (vs.take i ++ [v] ++ vs.drop i)) := by
  have h4 : ks.length ≤ 1000 := by omega
  have HLf := Lib.hid h
  have HF := Lib.hid hf
  have HV := Lib.hid hv
  clear h hf hv
  unfold Sp.v
  go_enter Try.func33, Try.ntmps33
  go_wp2_with fail
  have hq := heap_alloc_new w (.cells #[.int .i64 k.br, .int .i64 k.vol, .int .i64 k.blk, .int .u64 k.num] 26)
  have hb0 := (Below.refl w.heap.size w).alloc (Nat.le_refl _) (.cells #[.int .i64 k.br, .int .i64 k.vol, .int .i64 k.blk, .int .u64 k.num] 26)
  generalize w.alloc (.cells #[.int .i64 k.br, .int .i64 k.vol, .int .i64 k.blk, .int .u64 k.num] 26) = W at *
  have hB0 := Lib.hid hb0
  clear hb0
  have ql := (Array.getElem?_eq_some_iff.1 hq).1
  replace HLf := Lib.hid (HLf.out.below hB0.out)
  have hQ : Hid (w.heap.size = w.heap.size) := rfl
  generalize hqe : w.heap.size = q at *
  have k0 : W.cell? ⟨q, 0, none⟩ = some (.int .i64 k.br) := by simp only [World.cell?, hq]; rfl
  have k1 : W.cell? ⟨q, 1, none⟩ = some (.int .i64 k.vol) := by simp only [World.cell?, hq]; rfl
  have k2 : W.cell? ⟨q, 2, none⟩ = some (.int .i64 k.blk) := by simp only [World.cell?, hq]; rfl
  have k3 : W.cell? ⟨q, 3, none⟩ = some (.int .u64 k.num) := by simp only [World.cell?, hq]; rfl
  clear hq
  have qW := ql
  refine (leaf_yes HLf.out).mono ?_
  rintro e w1 ⟨rfl, rfl⟩
  go_wp2_with fail
  refine (find_leaf' HLf.out k h4).mono ?_
  rintro e w2 ⟨rfl, hb2⟩
  rw [HF.out]
  obtain ⟨bc, bf⟩ := bcell hb2
  replace k0 := (bc q 0 ql).trans k0
  replace k1 := (bc q 1 ql).trans k1
  replace k2 := (bc q 2 ql).trans k2
  replace k3 := (bc q 3 ql).trans k3
  replace ql : q < w2.heap.size := Nat.lt_of_lt_of_le ql hb2.size
  replace HLf := Lib.hid (HLf.out.below hb2)
  have hB2 : Hid (Below q w w2) := hB0.out.trans (hb2.mono (Nat.le_of_lt qW))
  clear bc bf hb2
  go_wp2_with fail
  refine (leafs_at HLf.out h0 h4 HV.out).mono ?_
  rintro e w3 ⟨kv, vv, rfl, hk3, hv3, hne, hb3⟩
  have z3 := hb3.size
  obtain ⟨bc, bf⟩ := bcell hb3
  replace k0 := (bc q 0 ql).trans k0
  replace k1 := (bc q 1 ql).trans k1
  replace k2 := (bc q 2 ql).trans k2
  replace k3 := (bc q 3 ql).trans k3
  replace ql : q < w3.heap.size := Nat.lt_of_lt_of_le ql hb3.size
  have ql' := Nat.le_of_lt ql
  have qB : q ≤ w2.heap.size := hB2.out.size |> fun h => by have := World.block_lt_of_cell? w3 _ k0; have h2 := hqe; omega
  clear bc bf
  have hrow := Lib.hid (insert_S (w := w3.alloc (.cells #[.int .i64 k.br, .int .i64 k.vol, .int .i64 k.blk, .int .u64 k.num] 26)) w2.heap.size ks.length i kv ks k w3.heap.size (hk3.alloc _) rfl hil h4 (by simp; omega) (heap_alloc_new w3 _) (fun e => by have := own_lt hk3 _ e; omega))
  have HK3 := Lib.hid hk3
  have HV3 := Lib.hid hv3
  have HNE := Lib.hid hne
  have HB3 := Lib.hid hb3
  clear hk3 hv3 hne hb3
  go_wp2_with fail
  refine hrow.out.mono ?_
  clear hrow
  rintro e w5 ⟨kv', rfl, hk5, hg5, hat5, hB5⟩
  have hv5 : w5.ownsRow w2.heap.size 24 1 vv vs.length (u64s vs) := by
    rw [HV.out]
    refine (HV3.out.alloc _).kept hg5 ?_
    cases e : vv.ownBlock with
    | none => exact .inl rfl
    | some x => exact .inr (fun e2 => HNE.out x e2.symm e)
  have z5 : w3.heap.size + 1 ≤ w5.heap.size := by have := hg5.size; simpa using this
  replace hB5 : Below w2.heap.size w2 w5 := (HB3.out.alloc z3 _).trans hB5
  have hrow2 := insert_U (w := w5.alloc (.cells #[.int .u64 v] 24)) w2.heap.size vs.length i vv vs v w5.heap.size (hv5.alloc _) rfl (by rw [HV.out]; exact hil) (by rw [HV.out]; exact h4) (by simp; omega) (heap_alloc_new w5 _) (fun e => by have := own_lt hv5 _ e; omega)
  have hne5 : ∀ x, kv'.ownBlock = some x → vv.ownBlock ≠ some x := fun x hx e => by
    rcases hat5 with h | ⟨g, h, hge⟩
    · exact HNE.out x (h.symm.trans hx) e
    · rw [hx] at h; have := own_lt HV3.out x e; cases h; simp at hge; omega
  have HR2 := Lib.hid hrow2
  have HK5 := Lib.hid hk5
  have HV5 := Lib.hid hv5
  have HB5 := Lib.hid hB5
  have HN5 := Lib.hid hne5
  clear hk5 hg5 hat5 hv5 hB5 hrow2 hne5 HV3 HK3 HNE
  go_wp2_with fail
  refine HR2.out.mono ?_
  clear HR2
  rintro e w7 ⟨vv', rfl, hv7, hg7, hat7, hB7⟩
  have hk7 : w7.ownsRow w2.heap.size 26 4 kv' (ks.length + 1) (sps (ks.take i ++ [k] ++ ks.drop i)) := by
    refine (HK5.out.alloc _).kept hg7 ?_
    cases e : kv'.ownBlock with
    | none => exact .inl rfl
    | some x => exact .inr (fun e2 => HN5.out x e e2.symm)
  have z7 : w5.heap.size + 1 ≤ w7.heap.size := by have := hg7.size; simpa using this
  replace hB7 : Below w2.heap.size w2 w7 := (HB5.out.alloc (by omega) _).trans hB7
  have e1 : (ks.take i ++ [k] ++ ks.drop i).length = ks.length + 1 := by simp; omega
  have e2 : (vs.take i ++ [v] ++ vs.drop i).length = vs.length + 1 := by simp; have := HV.out; omega
  rw [← e1] at hk7
  rw [← e2] at hv7
  obtain ⟨A, c, ekv, hc1, hc2, hks⟩ := spots_own hk7
  obtain ⟨A', c', evv, hc1', hc2', hvs⟩ := vals_own hv7
  rw [e1] at ekv
  rw [e2, HV.out] at evv
  subst ekv evv
  have HH := Lib.hid (halves_at hks hvs (by rw [e1, e2, HV.out]) (by rw [e1]; omega) (by rw [e1]; omega) hc1 hc2 hc1' hc2')
  rw [e1, e2, HV.out] at HH
  have HBF : Hid (Below q w w7) := hB2.out.trans (hB7.mono qB)
  clear hk7 hv7 hg7 hat7 hks hvs hB7 HK5 HV5 HB5 HN5
  go_wp2_with fail
  refine HH.out.mono ?_
  rintro e w8 hp8
  unfold PutPost at hp8
  rw [e1] at hp8
  subst hqe
  by_cases c5 : ks.length + 1 ≤ 4
  · rw [if_pos c5] at hp8
    obtain ⟨s, p', rfl, r⟩ := hp8
    go_wp2_with fail
    go_ret
    unfold PutPost
    rw [e1, if_pos c5]
    exact OnePost.base ⟨s, p', rfl, r⟩ HBF.out
  · rw [if_neg c5] at hp8
    obtain ⟨s, p', q', rfl, r⟩ := hp8
    go_wp2_with fail
    go_ret
    unfold PutPost
    rw [e1, if_neg c5]
    exact TwoPost.base ⟨s, p', q', rfl, r⟩ HBF.out
set_option maxHeartbeats 1600000 in
set_option maxRecDepth 100000 in
theorem put_had {w : World} {p : Nat} {ks : List Sp} {vs : List Int} (h : Leaf w p ks vs) (h0 : 0 < ks.length) (h4' : ks.length ≤ 100) (hv : vs.length = ks.length) (k : Sp) (v : Int) (i : Nat) (hf : findL k ks = (i, true)) (hil : i < ks.length) :
    Calls Try.prog 33 #[.pointer (some ⟨p, 0, none⟩), k.v, .int .u64 v] w (OnePost w ks (vs.set i v)) := by
  have h4 : ks.length ≤ 1000 := by omega
  have HLf := Lib.hid h
  have HF := Lib.hid hf
  have HV := Lib.hid hv
  clear h hf hv
  unfold Sp.v
  go_enter Try.func33, Try.ntmps33
  go_wp2_with fail
  have hq := heap_alloc_new w (.cells #[.int .i64 k.br, .int .i64 k.vol, .int .i64 k.blk, .int .u64 k.num] 26)
  have hb0 := (Below.refl w.heap.size w).alloc (Nat.le_refl _) (.cells #[.int .i64 k.br, .int .i64 k.vol, .int .i64 k.blk, .int .u64 k.num] 26)
  generalize w.alloc (.cells #[.int .i64 k.br, .int .i64 k.vol, .int .i64 k.blk, .int .u64 k.num] 26) = W at *
  have hB0 := Lib.hid hb0
  clear hb0
  have ql := (Array.getElem?_eq_some_iff.1 hq).1
  replace HLf := Lib.hid (HLf.out.below hB0.out)
  have hQ : Hid (w.heap.size = w.heap.size) := rfl
  generalize hqe : w.heap.size = q at *
  have k0 : W.cell? ⟨q, 0, none⟩ = some (.int .i64 k.br) := by simp only [World.cell?, hq]; rfl
  have k1 : W.cell? ⟨q, 1, none⟩ = some (.int .i64 k.vol) := by simp only [World.cell?, hq]; rfl
  have k2 : W.cell? ⟨q, 2, none⟩ = some (.int .i64 k.blk) := by simp only [World.cell?, hq]; rfl
  have k3 : W.cell? ⟨q, 3, none⟩ = some (.int .u64 k.num) := by simp only [World.cell?, hq]; rfl
  clear hq
  have qW := ql
  refine (leaf_yes HLf.out).mono ?_
  rintro e w1 ⟨rfl, rfl⟩
  go_wp2_with fail
  refine (find_leaf' HLf.out k h4).mono ?_
  rintro e w2 ⟨rfl, hb2⟩
  rw [HF.out]
  obtain ⟨bc, bf⟩ := bcell hb2
  replace k0 := (bc q 0 ql).trans k0
  replace k1 := (bc q 1 ql).trans k1
  replace k2 := (bc q 2 ql).trans k2
  replace k3 := (bc q 3 ql).trans k3
  replace ql : q < w2.heap.size := Nat.lt_of_lt_of_le ql hb2.size
  replace HLf := Lib.hid (HLf.out.below hb2)
  have hB2 : Hid (Below q w w2) := hB0.out.trans (hb2.mono (Nat.le_of_lt qW))
  clear bc bf hb2
  go_wp2_with fail
  refine (leafs_at HLf.out h0 h4 HV.out).mono ?_
  rintro e w3 ⟨kv, vv, rfl, hk3, hv3, hne, hb3⟩
  have z3 := hb3.size
  obtain ⟨bc, bf⟩ := bcell hb3
  replace k0 := (bc q 0 ql).trans k0
  replace k1 := (bc q 1 ql).trans k1
  replace k2 := (bc q 2 ql).trans k2
  replace k3 := (bc q 3 ql).trans k3
  replace ql : q < w3.heap.size := Nat.lt_of_lt_of_le ql hb3.size
  have ql' := Nat.le_of_lt ql
  have qB : q ≤ w2.heap.size := hB2.out.size |> fun h => by have := World.block_lt_of_cell? w3 _ k0; have h2 := hqe; omega
  clear bc bf
  obtain ⟨A, c, rfl, hc1, hc2, hks⟩ := spots_own hk3
  rcases hv3.2 with ⟨hv, h0'⟩ | ⟨g, cap, cur, hv, hg, hh, hle, hcm, hcs, htk⟩
  · omega
  subst hv
  have hgl := (Array.getElem?_eq_some_iff.1 hh).1
  have hcl : i < cur.size := by rw [hcs]; omega
  have hcel : w3.cell? ⟨g, i, none⟩ = some (cur[i]) := by simp only [World.cell?, hh]; simp [hcl]
  have hfro : w3.frozen? ⟨g, i, none⟩ = false := by simp only [World.frozen?, hh]; simp
  have hset := set_at (o := i) (v := .int .u64 v) hh
  have hkne : ∀ b off, A = some ⟨b, off, none⟩ → b ≠ g := fun b off e e2 => hne b (by rw [e]; rfl) (by rw [e2]; rfl)
  have hks2 : SpotsAt (w3.setCell ⟨g, i, none⟩ (.int .u64 v)) A ks := fun hl => by
    obtain ⟨b, off, e, hlt, hc⟩ := hks hl
    have hb := Below.heap_setCell w3 ⟨g, i, none⟩ (.int .u64 v) b (hkne b off e)
    exact ⟨b, off, e, by simpa [World.setCell] using hlt, fun j hj => ⟨(World.cell?_of_block hb).trans (hc j hj).1, (World.cell?_of_block hb).trans (hc j hj).2.1, (World.cell?_of_block hb).trans (hc j hj).2.2.1, (World.cell?_of_block hb).trans (hc j hj).2.2.2⟩⟩
  have hvs2 : ValsAt (w3.setCell ⟨g, i, none⟩ (.int .u64 v)) (some ⟨g, 0, none⟩) (vs.set i v) := fun hl => by
    refine ⟨g, 0, rfl, by simpa [World.setCell] using hgl, fun j hj => ?_⟩
    have hjl : j < vs.length := by simpa using hj
    simp only [World.cell?, hset, Nat.zero_add]
    have e0 : (cur.toList.take (ks.length * 1))[j]? = some (.int .u64 vs[j]) := by rw [htk]; simp [u64s, List.getElem?_eq_getElem hjl]
    rw [List.getElem?_take] at e0
    split at e0
    · by_cases e : i = j
      · subst e; simp [hcl]
      · rw [List.getElem_set_ne e]
        simp [Array.getElem?_setIfInBounds, e]
        rw [← e0]; simp
    · cases e0
  have hzs : (w3.setCell ⟨g, i, none⟩ (.int .u64 v)).heap.size = w3.heap.size := by simp [World.setCell]
  have hbs : Below q w (w3.setCell ⟨g, i, none⟩ (.int .u64 v)) := (hB2.out.trans (hb3.mono qB)).setCell (p := ⟨g, i, none⟩) (by show q ≤ g; omega) _
  have HKs := Lib.hid hks2
  have HVs := Lib.hid hvs2
  have HBs := Lib.hid hbs
  have HC := Lib.hid (And.intro hc1 hc2)
  have i1 : (0 : Int) ≤ (i : Int) := by omega
  have i2 : (i : Int) < (ks.length : Int) := by omega
  have HZ := Lib.hid hzs
  clear hk3 hv3 hks hh hcs htk hset hkne hks2 hvs2 hzs hbs hne hb3 HF HLf hc1 hc2
  go_wp2_with fail
  go_ret
  generalize w3.setCell ⟨g, i, none⟩ (.int .u64 v) = W4 at *
  obtain ⟨W, hW, h1, h2, hb⟩ := two_blocks W4 (.cells #[.slice A ks.length c, .slice (some ⟨g, 0, none⟩) ks.length cap, .slice none 0 0] 39) (.cells #[.pointer (some ⟨W4.heap.size, 0, none⟩)] 36)
  have hzz := HZ.out
  rw [hzz] at hW h1 h2 hb
  subst hW hqe
  exact ⟨w3.heap.size + 1, w3.heap.size, rfl, by simp only [World.cell?, h2]; rfl, by omega, (Array.getElem?_eq_some_iff.1 h2).1, ⟨A, c, some ⟨g, 0, none⟩, cap, by rw [List.length_set, HV.out]; exact h1, HKs.out.below (by rw [hzz]; exact hb), HVs.out.below (by rw [hzz]; exact hb), HC.out.1, HC.out.2⟩, by omega, HBs.out.trans (hb.mono (by omega))⟩
end Go.Proofs.Ytainljbkejafcaa.N
