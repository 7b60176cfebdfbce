/- del on a node of any height. -/
import Derived.Test.YtainljbkejafcaaNJoin
import Derived.Test.YtainljbkejafcaaNDelR
namespace Go.Proofs.Ytainljbkejafcaa.N
open Go.RowKit Go.Proofs.YtainljbkejafcaaW.PrintMore Go.Proofs.YtainljbkejafcaaW.PrintWords
set_option linter.unusedVariables false
set_option linter.unusedSimpArgs false
theorem join_nd {w : World} {h a b n m : Nat} {l u : List Ent} (ha : Nd w h a l n) (hb : Nd w h b u m) (h1 : 0 < n) (h2 : 0 < m) (h3 : 2 ≤ n + m) (h8 : n + m ≤ 5) :
    Calls Try.prog 84 #[.pointer (some ⟨a, 0, none⟩), .pointer (some ⟨b, 0, none⟩)] w (NdsPost w h 2 (l ++ u) (fun x => x = 1 ∨ x = 2)) := by
  cases h with
  | zero =>
    obtain ⟨rfl, ha⟩ := ha
    obtain ⟨rfl, hb⟩ := hb
    exact join_leaf ha hb h1 h2 h3 h8
  | succ h => exact join_inner ha hb h3 (by omega)
def DelPost (w : World) (h p : Nat) (l : List Ent) (k : Sp) (n : Nat) (e : Ending) (w' : World) : Prop :=
  (hasE k l = false ∧ e = .returned (.tuple #[.pointer (some ⟨p, 0, none⟩), .bool false]) ∧ Below w.heap.size w w') ∨
  (hasE k l = true ∧ ∃ p' n', e = .returned (.tuple #[.pointer (some ⟨p', 0, none⟩), .bool true]) ∧ Nd w' h p' (delE k l) n' ∧ n ≤ n' + 1 ∧ n' ≤ n ∧ Below w.heap.size w w')
set_option maxHeartbeats 1600000 in
set_option maxRecDepth 100000 in
theorem del_leaf_no {w : World} {p n : Nat} {l : List Ent} (hn : Nd w 0 p l n) (h0 : 0 < n) (h4 : n ≤ 100) (k : Sp) (hh : hasE k l = false) :
    Calls Try.prog 60 #[.pointer (some ⟨p, 0, none⟩), .agg #[.int .i64 k.br, .int .i64 k.vol, .int .i64 k.blk, .int .u64 k.num]] w (DelPost w 0 p l k n) := by
  obtain ⟨rfl, hL⟩ := hn
  have hf : findL k (l.map (·.1)) = ((findL k (l.map (·.1))).1, false) := by rw [← hh, ← findL_has]
  have hlt : True := trivial
  obtain ⟨i, hi⟩ : ∃ i, (findL k (l.map (·.1))).1 = i := ⟨_, rfl⟩
  rw [hi] at hf
  have HLf := Lib.hid hL
  have HF := Lib.hid hf
  have HH := Lib.hid hh
  have kl : (l.map (·.1)).length = l.length := by simp
  have vl : (l.map (·.2)).length = l.length := by simp
  have KL := Lib.hid kl
  have VL := Lib.hid vl
  clear hL hf hh hi kl vl
  go_enter Try.func60, Try.ntmps60
  go_wp2_with fail
  have hb0 := (Below.refl w.heap.size w).alloc (Nat.le_refl _) (.cells #[.int .i64 k.br, .int .i64 k.vol, .int .i64 k.blk, .int .u64 k.num] 26)
  have hq := heap_alloc_new w (.cells #[.int .i64 k.br, .int .i64 k.vol, .int .i64 k.blk, .int .u64 k.num] 26)
  generalize w.alloc (.cells #[.int .i64 k.br, .int .i64 k.vol, .int .i64 k.blk, .int .u64 k.num] 26) = W at *
  refine (leaf_yes (HLf.out.below hb0)).mono ?_
  rintro e w1 ⟨rfl, rfl⟩
  have k0 : W.cell? ⟨w.heap.size, 0, none⟩ = some (.int .i64 k.br) := by simp only [World.cell?, hq]; rfl
  have k1 : W.cell? ⟨w.heap.size, 1, none⟩ = some (.int .i64 k.vol) := by simp only [World.cell?, hq]; rfl
  have k2 : W.cell? ⟨w.heap.size, 2, none⟩ = some (.int .i64 k.blk) := by simp only [World.cell?, hq]; rfl
  have k3 : W.cell? ⟨w.heap.size, 3, none⟩ = some (.int .u64 k.num) := by simp only [World.cell?, hq]; rfl
  go_wp2_with fail
  refine (find_leaf' (HLf.out.below hb0) k (by rw [KL.out]; omega)).mono ?_
  rintro e w2 ⟨rfl, hb2⟩
  rw [HF.out]
  have hB2 : Below w.heap.size w w2 := hb0.trans (hb2.mono hb0.size)
  have HB2 := Lib.hid hB2
  clear k0 k1 k2 k3 hq hb0 hb2 hB2
  go_wp2_with fail
  go_ret2
  exact .inl ⟨HH.out, rfl, HB2.out⟩
set_option maxHeartbeats 1600000 in
set_option maxRecDepth 100000 in
theorem del_leaf_yes {w : World} {p n : Nat} {l : List Ent} (hn : Nd w 0 p l n) (h0 : 0 < n) (h4 : n ≤ 100) (k : Sp) (hh : hasE k l = true) :
    Calls Try.prog 60 #[.pointer (some ⟨p, 0, none⟩), .agg #[.int .i64 k.br, .int .i64 k.vol, .int .i64 k.blk, .int .u64 k.num]] w (DelPost w 0 p l k n) := by
  obtain ⟨rfl, hL⟩ := hn
  have hf : findL k (l.map (·.1)) = ((findL k (l.map (·.1))).1, true) := by rw [← hh, ← findL_has]
  have hlt := findL_lt k (l.map (·.1)) (by rw [findL_has]; exact hh)
  rw [List.length_map] at hlt
  have hdl := delE_had k l hh
  have hdn := delE_length (k := k) (l := l)
  rw [hh, if_pos rfl] at hdn
  obtain ⟨i, hi⟩ : ∃ i, (findL k (l.map (·.1))).1 = i := ⟨_, rfl⟩
  rw [hi] at hf hlt hdl
  have HLf := Lib.hid hL
  have HF := Lib.hid hf
  have HH := Lib.hid hh
  have kl : (l.map (·.1)).length = l.length := by simp
  have vl : (l.map (·.2)).length = l.length := by simp
  have KL := Lib.hid kl
  have VL := Lib.hid vl
  clear hL hf hh hi kl vl
  go_enter Try.func60, Try.ntmps60
  go_wp2_with fail
  have hb0 := (Below.refl w.heap.size w).alloc (Nat.le_refl _) (.cells #[.int .i64 k.br, .int .i64 k.vol, .int .i64 k.blk, .int .u64 k.num] 26)
  have hq := heap_alloc_new w (.cells #[.int .i64 k.br, .int .i64 k.vol, .int .i64 k.blk, .int .u64 k.num] 26)
  generalize w.alloc (.cells #[.int .i64 k.br, .int .i64 k.vol, .int .i64 k.blk, .int .u64 k.num] 26) = W at *
  refine (leaf_yes (HLf.out.below hb0)).mono ?_
  rintro e w1 ⟨rfl, rfl⟩
  have k0 : W.cell? ⟨w.heap.size, 0, none⟩ = some (.int .i64 k.br) := by simp only [World.cell?, hq]; rfl
  have k1 : W.cell? ⟨w.heap.size, 1, none⟩ = some (.int .i64 k.vol) := by simp only [World.cell?, hq]; rfl
  have k2 : W.cell? ⟨w.heap.size, 2, none⟩ = some (.int .i64 k.blk) := by simp only [World.cell?, hq]; rfl
  have k3 : W.cell? ⟨w.heap.size, 3, none⟩ = some (.int .u64 k.num) := by simp only [World.cell?, hq]; rfl
  go_wp2_with fail
  refine (find_leaf' (HLf.out.below hb0) k (by rw [KL.out]; omega)).mono ?_
  rintro e w2 ⟨rfl, hb2⟩
  rw [HF.out]
  have hB2 : Below w.heap.size w w2 := hb0.trans (hb2.mono hb0.size)
  have HB2 := Lib.hid hB2
  clear k0 k1 k2 k3 hq hb0 hb2 hB2
  go_wp2_with fail
  have z2 := HB2.out.size
  refine (leafs_at (HLf.out.below HB2.out) (by rw [KL.out]; omega) (by rw [KL.out]; omega) (by rw [KL.out, VL.out])).mono ?_
  rintro e w3 ⟨kv, vv, rfl, hk3, hv3, hne, hb3⟩
  have z3 := hb3.size
  rw [KL.out] at hk3 hv3
  have hDS := Lib.hid (delete_S w2.heap.size l.length i kv _ hk3 KL.out hlt (by omega) z3)
  have HV3 := Lib.hid hv3
  have HNE := Lib.hid hne
  have HB3 := Lib.hid hb3
  have HK3 := Lib.hid hk3
  have hw1 : IntKind.i64.wrap ((i : Int) + 1) = (i : Int) + 1 := by rw [IntKind.wrap_i64]; omega
  clear hk3 hv3 hne hb3
  go_wp2_with fail
  refine hDS.out.mono ?_
  clear hDS
  rintro e w5 ⟨kv', rfl, hk5, hg5, hat5, hB5⟩
  have hv5 : w5.ownsRow w2.heap.size 24 1 vv l.length (u64s (l.map (·.2))) := by
    refine HV3.out.kept hg5 ?_
    cases e : vv.ownBlock with
    | none => exact .inl rfl
    | some x => exact .inr (fun e2 => HNE.out x e2.symm e)
  have z5 : w3.heap.size ≤ w5.heap.size := hg5.size
  have hDU := Lib.hid (delete_U w2.heap.size l.length i vv _ hv5 VL.out hlt (by clear hw1; omega) (by clear hw1; omega))
  have HK5 := Lib.hid hk5
  have HN5 : Hid (∀ x, kv'.ownBlock = some x → vv.ownBlock ≠ some x) := fun x hx e => HNE.out x (hat5 ▸ hx) e
  have HB5 := Lib.hid hB5
  clear hk5 hg5 hat5 hv5 hB5
  go_wp2_with fail
  refine hDU.out.mono ?_
  clear hDU hw1
  rintro e w7 ⟨vv', rfl, hv7, hg7, hat7, hB7⟩
  have hk7 : w7.ownsRow w2.heap.size 26 4 kv' (l.length - 1) (sps ((l.map (·.1)).take i ++ (l.map (·.1)).drop (i + 1))) := by
    refine HK5.out.kept hg7 ?_
    cases e : kv'.ownBlock with
    | none => exact .inl rfl
    | some x => exact .inr (fun e2 => HN5.out x e e2.symm)
  have hBW : Below w.heap.size w w7 := HB2.out.trans ((HB3.out.trans ((HB5.out.mono (Nat.le_refl _)).trans hB7)).mono z2)
  rw [← hdl.1] at hk7
  rw [← hdl.2] at hv7
  have e1 : ((delE k l).map (·.1)).length = l.length - 1 := by rw [List.length_map, hdn]
  have e2 : ((delE k l).map (·.2)).length = l.length - 1 := by rw [List.length_map, hdn]
  rw [← e1] at hk7
  rw [← e2] at hv7
  obtain ⟨A, c, ekv, hc1, hc2, hks⟩ := spots_own hk7
  obtain ⟨A', c', evv, hc1', hc2', hvs⟩ := vals_own hv7
  subst ekv evv
  have HX := Lib.hid (And.intro hc1 (And.intro hc2 (And.intro hks hvs)))
  have HBW := Lib.hid hBW
  have HD := Lib.hid hdn
  rw [e1, e2]
  clear hk7 hv7 hg7 hat7 hB7 hc1 hc2 hks hvs hc1' hc2' hBW hdn hdl HK5 HN5 HB5 HV3 HNE HB3 HK3
  have E1 := Lib.hid e1
  have E2 := Lib.hid e2
  clear e1 e2
  go_wp2_with fail
  go_ret2
  have hbl : Below w7.heap.size w7 (w7.alloc (.cells #[.slice A (l.length - 1) c, .slice A' (l.length - 1) c', .slice none 0 0] 39)) := (Below.refl _ _).alloc (Nat.le_refl _) _
  have hz := HBW.out.size
  exact .inr ⟨HH.out, w7.heap.size, l.length - 1, rfl, ⟨HD.out.symm, A, c, A', c', by rw [E1.out, E2.out]; exact heap_alloc_new w7 _, HX.out.2.2.1.below hbl, HX.out.2.2.2.below hbl, HX.out.1, HX.out.2.1⟩, by omega, by omega, HBW.out.trans (hbl.mono hz)⟩
theorem cat3raw {w : World} {b off cc i h s n3 c3 c2 : Nat} {A3 : Option Addr} {qs ns : List Nat} {ls ms : List (List Ent)} (hb : b < w.heap.size) (hq : ∀ j (h : j < qs.length), w.cell? ⟨b, off + j, none⟩ = some (.pointer (some ⟨qs[j], 0, none⟩))) (hk : All2 (Kid w h 2) (qs.take i) (ls.take i)) (hk' : ∀ d, i < d → True)
    (hi : i < qs.length) (h4 : qs.length ≤ 5) (hs : s < w.heap.size) (hn : ∀ j (hj : j < ns.length), w.cell? ⟨s, j, none⟩ = some (.pointer (some ⟨ns[j], 0, none⟩))) (hm : All2 (Kid w h 2) ns ms) (hn0 : 0 < ns.length) (hn2 : ns.length ≤ 2) (d : Nat) (hd : i < d) (hd2 : d ≤ qs.length) (hk3 : All2 (Kid w h 2) (qs.drop d) (ls.drop d))
    (hA : A3 = if cc = d then some ⟨b, off, none⟩ else some ⟨b, off + d, none⟩) (hcc : qs.length ≤ cc) (h3 : n3 = qs.length - d) :
    Calls Try.prog 67 #[.slice (some ⟨w.heap.size, 0, none⟩) 3 3] (w.alloc (.cells #[.slice (some ⟨b, off, none⟩) i cc, .slice (some ⟨s, 0, none⟩) ns.length c2, .slice A3 n3 c3] 37))
      (fun e w4 => ∃ b4 o4 c4 N4, e = .returned (.slice (some ⟨b4, o4, none⟩) N4 c4) ∧ N4 = i + ns.length + (qs.length - d) ∧ Below w.heap.size w w4 ∧ Hid (Calls Try.prog 85 #[.slice (some ⟨b4, o4, none⟩) N4 c4] w4 (fun e w5 => ∃ p', e = .returned (.pointer (some ⟨p', 0, none⟩)) ∧ Nd w5 (h + 1) p' ((ls.take i).flatten ++ ms.flatten ++ (ls.drop d).flatten) (i + ns.length + (qs.length - d)) ∧ Below w4.heap.size w4 w5))) := by
  have hbl : Below w.heap.size w (w.alloc (.cells #[.slice (some ⟨b, off, none⟩) i cc, .slice (some ⟨s, 0, none⟩) ns.length c2, .slice A3 n3 c3] 37)) := (Below.refl _ _).alloc (Nat.le_refl _) _
  have hnew := heap_alloc_new w (.cells #[.slice (some ⟨b, off, none⟩) i cc, .slice (some ⟨s, 0, none⟩) ns.length c2, .slice A3 n3 c3] 37)
  have hsz : w.heap.size < (w.alloc (.cells #[.slice (some ⟨b, off, none⟩) i cc, .slice (some ⟨s, 0, none⟩) ns.length c2, .slice A3 n3 c3] 37)).heap.size := by simp
  generalize w.alloc (.cells #[.slice (some ⟨b, off, none⟩) i cc, .slice (some ⟨s, 0, none⟩) ns.length c2, .slice A3 n3 c3] 37) = X at *
  have l1 : (qs.take i).length = i := by rw [List.length_take]; omega
  have l3 : (qs.drop d).length = qs.length - d := List.length_drop
  have hfl : [qs.take i, ns, qs.drop d].flatten = qs.take i ++ ns ++ qs.drop d := by simp
  have hlen : (qs.take i ++ ns ++ qs.drop d).length = i + ns.length + (qs.length - d) := by rw [List.length_append, List.length_append, l1, l3]
  subst h3
  refine (cat_kids w.heap.size 3 [qs.take i, ns, qs.drop d] (by simp) (by rw [hfl, hlen]; omega) (by rw [hfl, hlen]; omega) hsz ?_).mono ?_
  · intro j hj
    match j, hj with
    | 0, _ =>
      refine ⟨some ⟨b, off, none⟩, cc, by simp only [World.cell?, hnew]; rw [show ([qs.take i, ns, qs.drop d][0]).length = i from l1]; rfl, KidsAt.below (fun _ => ⟨b, off, rfl, hb, fun j hj => ?_⟩) hbl, fun e => by cases e⟩
      have hj' : j < (qs.take i).length := hj
      show w.cell? _ = some (.pointer (some ⟨(qs.take i)[j], 0, none⟩))
      rw [List.getElem_take]; exact hq j (by omega)
    | 1, _ =>
      refine ⟨some ⟨s, 0, none⟩, c2, by simp only [World.cell?, hnew]; rfl, KidsAt.below (fun _ => ⟨s, 0, rfl, hs, fun j hj => ?_⟩) hbl, fun e => by cases e⟩
      rw [Nat.zero_add]; exact hn j hj
    | 2, _ =>
      refine ⟨A3, c3, by simp only [World.cell?, hnew]; rw [show ([qs.take i, ns, qs.drop d][2]).length = qs.length - d from l3]; rfl, KidsAt.below (fun hl => ?_) hbl, fun e => by rw [hA] at e; split at e <;> cases e⟩
      have hl' : 0 < (qs.drop d).length := hl
      rw [l3] at hl'
      refine ⟨b, off + d, by rw [hA, if_neg (by omega)], hb, fun j hj => ?_⟩
      have hj' : j < (qs.drop d).length := hj
      show w.cell? _ = some (.pointer (some ⟨(qs.drop d)[j], 0, none⟩))
      rw [List.getElem_drop, Nat.add_assoc]; exact hq (d + j) (by omega)
  · rintro e w4 ⟨b4, o4, c4, rfl, hb4, hq4, hc4, hm4, hbl4⟩
    have hB : Below w.heap.size w w4 := hbl.trans (hbl4.mono (Nat.le_of_lt hsz))
    have hall : All2 (Kid w4 h 2) [qs.take i, ns, qs.drop d].flatten (ls.take i ++ ms ++ ls.drop d) := by
      rw [hfl]
      exact ((hk.append hm).append hk3).imp (fun q m hq => hq.below hB)
    have hQ : [qs.take i, ns, qs.drop d].flatten.length = i + ns.length + (qs.length - d) := by rw [hfl, hlen]
    generalize [qs.take i, ns, qs.drop d].flatten = Q at *
    refine ⟨b4, o4, c4, Q.length, rfl, hQ, hB, ?_⟩
    show Calls _ _ _ _ _
    refine (over_at hb4 hq4 (kids_heads (by omega) hall) (by omega) (by omega) hc4 hm4).mono ?_
    rintro e w5 ⟨p', rfl, hI, hp, hb5⟩
    refine ⟨p', rfl, nd_succ.2 ⟨Q, _, hQ.symm, ?_, hI, hall.imp (fun q m hq => hq.below hb5)⟩, hb5⟩
    rw [List.flatten_append, List.flatten_append]
theorem all2_set {α β : Type} {R : α → β → Prop} : ∀ {xs : List α} {ys : List β} (i : Nat) {a : α} {b : β}, All2 R xs ys → R a b → All2 R (xs.set i a) (ys.set i b)
  | [], [], _, _, _, _, _ => trivial
  | _ :: _, _ :: _, 0, _, _, h, r => ⟨r, h.2⟩
  | _ :: _, _ :: _, i + 1, _, _, h, r => ⟨h.1, all2_set i h.2 r⟩
  | [], _ :: _, _, _, _, h, _ => h.elim
  | _ :: _, [], _, _, _, h, _ => h.elim
theorem flatten_set {α : Type} {ls : List (List α)} {i : Nat} (hi : i < ls.length) (x : List α) : (ls.set i x).flatten = (ls.take i).flatten ++ x ++ (ls.drop (i + 1)).flatten := by
  rw [List.set_eq_take_append_cons_drop, if_pos hi, List.flatten_append, List.flatten_cons, List.append_assoc]
theorem all2_set_take {α β : Type} {R : α → β → Prop} : ∀ {xs : List α} {ys : List β} (i j : Nat) {a : α} {b : β}, All2 R xs ys → j ≤ i → All2 R ((xs.set i a).take j) ((ys.set i b).take j)
  | _, _, _, 0, _, _, _, _ => by rw [List.take_zero, List.take_zero]; trivial
  | [], [], _, _ + 1, _, _, _, _ => trivial
  | _ :: _, _ :: _, i + 1, j + 1, _, _, h, hj => ⟨h.1, all2_set_take i j h.2 (by omega)⟩
  | _ :: _, _ :: _, 0, _ + 1, _, _, _, hj => absurd hj (by omega)
  | [], _ :: _, _, _ + 1, _, _, h, _ => h.elim
  | _ :: _, [], _, _ + 1, _, _, h, _ => h.elim
theorem all2_set_drop {α β : Type} {R : α → β → Prop} : ∀ {xs : List α} {ys : List β} (i d : Nat) {a : α} {b : β}, All2 R xs ys → i < d → All2 R ((xs.set i a).drop d) ((ys.set i b).drop d)
  | [], [], _, _ + 1, _, _, _, _ => trivial
  | _ :: _, _ :: _, i + 1, d + 1, _, _, h, hj => all2_set_drop i d h.2 (by omega)
  | _ :: _, _ :: _, 0, d + 1, _, _, h, _ => All2.drop d h.2
  | _, _, _, 0, _, _, _, hj => absurd hj (by omega)
  | [], _ :: _, _, _ + 1, _, _, h, _ => h.elim
  | _ :: _, [], _, _ + 1, _, _, h, _ => h.elim
theorem size_nd {w : World} {h p n : Nat} {l : List Ent} (hn : Nd w h p l n) : Calls Try.prog 83 #[.pointer (some ⟨p, 0, none⟩)] w fun e w' => e = .returned (.int .i64 n) ∧ w = w' := by
  cases h with
  | zero =>
    obtain ⟨rfl, hL⟩ := hn
    have := size_leaf hL
    rwa [List.length_map] at this
  | succ h =>
    obtain ⟨qs, ls, rfl, rfl, hI, hk⟩ := nd_succ.1 hn
    exact size_inner hI
/-- Two kids beside one another are joined, and a node is made over all. -/
theorem del_tail {w : World} {g N cap h j : Nat} {qs : List Nat} {ls : List (List Ent)} (hg : g < w.heap.size) (hN : qs.length = N) (hl : ls.length = N) (hN4 : N ≤ 4) (hj : j + 1 < N) (hq : ∀ x (a : x < qs.length), w.cell? ⟨g, x, none⟩ = some (.pointer (some ⟨qs[x], 0, none⟩))) (hcap : N ≤ cap)
    (hk1 : All2 (Kid w h 2) (qs.take j) (ls.take j)) (hk3 : All2 (Kid w h 2) (qs.drop (j + 2)) (ls.drop (j + 2))) {n1 n2 : Nat} (a1 : Nd w h (qs[j]'(by omega)) (ls[j]'(by omega)) n1) (a2 : Nd w h (qs[j + 1]'(by omega)) (ls[j + 1]'(by omega)) n2) (h1 : 0 < n1) (h2 : 0 < n2) (h3 : 2 ≤ n1 + n2) (h8 : n1 + n2 ≤ 5)
    (A3 : Option Addr) (n3 : Nat) (hA : A3 = if cap = j + 2 then some ⟨g, 0, none⟩ else some ⟨g, j + 2, none⟩) (hn3 : n3 = N - (j + 2)) (X : World) (hX : Below w.heap.size w X) :
    Calls Try.prog 84 #[.pointer (some ⟨qs[j]'(by omega), 0, none⟩), .pointer (some ⟨qs[j + 1]'(by omega), 0, none⟩)] X (fun e w6 => ∃ s nl : Nat, e = .returned (.slice (some ⟨s, 0, none⟩) nl nl) ∧ Below X.heap.size X w6 ∧ ∀ c3, Hid (Calls Try.prog 67 #[.slice (some ⟨w6.heap.size, 0, none⟩) 3 3] (w6.alloc (.cells #[.slice (some ⟨g, 0, none⟩) j cap, .slice (some ⟨s, 0, none⟩) nl nl, .slice A3 n3 c3] 37)) (fun e w7 => ∃ b4 o4 c4 N4, e = .returned (.slice (some ⟨b4, o4, none⟩) N4 c4) ∧ Below w6.heap.size w6 w7 ∧ Hid (Calls Try.prog 85 #[.slice (some ⟨b4, o4, none⟩) N4 c4] w7 (fun e w8 => ∃ p' n', e = .returned (.pointer (some ⟨p', 0, none⟩)) ∧ Nd w8 (h + 1) p' ls.flatten n' ∧ N ≤ n' + 1 ∧ n' ≤ N ∧ Below w7.heap.size w7 w8))))) := by
  have hz := hX.size
  refine (join_nd (a1.below hX) (a2.below hX) h1 h2 h3 h8).mono ?_
  rintro e w6 ⟨s, ns, ms, rfl, t1, t2, t3, t4, t5, t6, t7⟩
  refine ⟨s, ns.length, rfl, t7, fun c3 => ?_⟩
  have hW : Below w.heap.size w w6 := hX.trans (t7.mono hz)
  have hz6 := hW.size
  have hns : 0 < ns.length ∧ ns.length ≤ 2 := by rcases t6 with h | h <;> omega
  show Calls _ _ _ _ _
  refine (cat3raw (w := w6) (b := g) (off := 0) (cc := cap) (i := j) (h := h) (s := s) (n3 := n3) (c3 := c3) (c2 := ns.length) (A3 := A3) (qs := qs) (ns := ns) (ls := ls) (ms := ms) (by omega) (fun x hx => by rw [Nat.zero_add]; exact (hW.cell (p := ⟨g, x, none⟩) hg).trans (hq x hx)) (hk1.imp (fun q m hq => hq.below hW)) (fun _ _ => trivial) (by omega) (by omega) t2 t3 t4 hns.1 hns.2 (j + 2) (by omega) (by omega) (hk3.imp (fun q m hq => hq.below hW)) (by rw [Nat.zero_add]; exact hA) (by omega) (by rw [hN]; exact hn3)).mono ?_
  rintro e w7 ⟨b4, o4, c4, N4, rfl, hN4', hb7, ho⟩
  refine ⟨b4, o4, c4, N4, rfl, hb7, ?_⟩
  show Calls _ _ _ _ _
  refine ho.out.mono ?_
  rintro e w8 ⟨p', rfl, hnd, hb8⟩
  refine ⟨p', j + ns.length + (qs.length - (j + 2)), rfl, ?_, ?_, ?_, hb8⟩
  · have : ls.flatten = (ls.take j).flatten ++ ms.flatten ++ (ls.drop (j + 2)).flatten := by
      rw [t5, flatten_cut (show j < ls.length by omega), List.drop_eq_getElem_cons (show j + 1 < ls.length by omega), List.flatten_cons]
      simp
    rw [this]; exact hnd
  · omega
  · omega
set_option maxHeartbeats 6400000 in
set_option maxRecDepth 100000 in
theorem del_inner {w : World} {h p n : Nat} {l : List Ent} (hn : Nd w (h + 1) p l n) (h2 : 2 ≤ n) (h4 : n ≤ 4) (ha : Asc l) (k : Sp)
    (ih : ∀ (X : World) (q m : Nat) (u : List Ent), Nd X h q u m → 2 ≤ m → m ≤ 4 → Asc u → Calls Try.prog 60 #[.pointer (some ⟨q, 0, none⟩), .agg #[.int .i64 k.br, .int .i64 k.vol, .int .i64 k.blk, .int .u64 k.num]] X (DelPost X h q u k m)) :
    Calls Try.prog 60 #[.pointer (some ⟨p, 0, none⟩), .agg #[.int .i64 k.br, .int .i64 k.vol, .int .i64 k.blk, .int .u64 k.num]] w (DelPost w (h + 1) p l k n) := by
  obtain ⟨qs, ls, rfl, rfl, hI, hk⟩ := nd_succ.1 hn
  have hlen := hk.length
  have hne := kids_ne (by omega) hk
  have HI := Lib.hid hI
  have HK := Lib.hid hk
  have HA := Lib.hid ha
  have HN := Lib.hid hne
  have IH := Lib.hid ih
  have HLen := Lib.hid hlen
  obtain ⟨A, ca, C, cc, hin⟩ := hI
  obtain ⟨b, off, rfl, hblt, hkc⟩ := hin.kids (by omega)
  have plt := hin.lt
  have hcc := hin.hcc
  have hcm := hin.hcn
  unfold maxLen at hcm
  have c2 := hin.c2
  have HKc := Lib.hid hkc
  have HC2 := Lib.hid c2
  clear hn hk ha hne ih hin hkc hlen
  obtain ⟨N, hN⟩ : ∃ N, qs.length = N := ⟨_, rfl⟩
  have HNq := Lib.hid hN
  rw [hN] at h2 h4 hcc c2 ⊢
  clear hN
  go_enter Try.func60, Try.ntmps60
  go_wp2_with fail
  have hbw : Below w.heap.size w (w.alloc (.cells #[.int .i64 k.br, .int .i64 k.vol, .int .i64 k.blk, .int .u64 k.num] 26)) := (Below.refl _ _).alloc (Nat.le_refl _) _
  have hq := heap_alloc_new w (.cells #[.int .i64 k.br, .int .i64 k.vol, .int .i64 k.blk, .int .u64 k.num] 26)
  have hqz : w.heap.size < (w.alloc (.cells #[.int .i64 k.br, .int .i64 k.vol, .int .i64 k.blk, .int .u64 k.num] 26)).heap.size := by simp
  generalize w.alloc (.cells #[.int .i64 k.br, .int .i64 k.vol, .int .i64 k.blk, .int .u64 k.num] 26) = W at *
  refine (leaf_no (HI.out.below hbw)).mono ?_
  rintro e w1 ⟨rfl, rfl⟩
  obtain ⟨q, hqe⟩ : ∃ q, w.heap.size = q := ⟨_, rfl⟩
  have HQ := Lib.hid hqe
  rw [hqe] at hq hqz hblt plt hbw ⊢
  clear hqe
  have k0 : W.cell? ⟨q, 0, none⟩ = some (.int .i64 k.br) := by simp only [World.cell?, hq]; rfl
  have k1 : W.cell? ⟨q, 1, none⟩ = some (.int .i64 k.vol) := by simp only [World.cell?, hq]; rfl
  have k2 : W.cell? ⟨q, 2, none⟩ = some (.int .i64 k.blk) := by simp only [World.cell?, hq]; rfl
  have k3 : W.cell? ⟨q, 3, none⟩ = some (.int .u64 k.num) := by simp only [World.cell?, hq]; rfl
  go_wp2_with fail
  refine (way_at (HI.out.below (by rw [HQ.out]; exact hbw)) k (by have := HLen.out; have := HNq.out; simp; omega)).mono ?_
  rintro e w2 ⟨i, fb, rfl, hF, hil, hb2⟩
  rw [List.length_map, ← HLen.out, HNq.out] at hil
  obtain ⟨bc, bf⟩ := bcell hb2
  have s0 := (bc q 0 hqz).trans k0
  have s1 := (bc q 1 hqz).trans k1
  have s2 := (bc q 2 hqz).trans k2
  have s3 := (bc q 3 hqz).trans k3
  have hz2 := hb2.size
  have hbw2 : Below q w w2 := hbw.trans (hb2.mono (Nat.le_of_lt hqz))
  have sp := (hbw2.cell (p := ⟨p, 2, none⟩) plt).trans c2
  have sk := (hbw2.cell (p := ⟨b, off + i, none⟩) hblt).trans (HKc.out i (by rw [HNq.out]; exact hil))
  have hqz2 : q < w2.heap.size := by omega
  have hpz2 : p < w2.heap.size := by omega
  have hbz2 : b < w2.heap.size := by omega
  clear bc bf k0 k1 k2 k3 hq hbw hb2 c2
  have HF := Lib.hid hF
  have HB2 := Lib.hid hbw2
  clear hF hbw2
  have hiq : i < qs.length := by rw [HNq.out]; exact hil
  have hil' : i < ls.length := by rw [← HLen.out]; exact hiq
  have HDel : Hid (∀ X, Below q w X → Calls Try.prog 60 #[.pointer (some ⟨qs[i], 0, none⟩), .agg #[.int .i64 k.br, .int .i64 k.vol, .int .i64 k.blk, .int .u64 k.num]] X (fun e w3 => ∃ (p3 : Nat) (had : Bool), e = .returned (.tuple #[.pointer (some ⟨p3, 0, none⟩), .bool had]) ∧ Below X.heap.size X w3 ∧ Hid (had = hasE k ls.flatten) ∧ (had = true → ∃ s, 1 ≤ s ∧ s ≤ 4 ∧ Nd w3 h p3 (delE k ls[i]) s))) := by
    show ∀ X, _
    intro X hX
    have hX' : Below w.heap.size w X := by rw [HQ.out]; exact hX
    obtain ⟨sz, z1, z2, z3⟩ := HK.out.get i hiq hil'
    have hwh := way_has HA.out HN.out HF.out hil'
    refine (IH.out X _ sz _ (z3.below hX') z1 z2 (asc_kid HA.out hil')).mono ?_
    rintro e w3 (⟨a1, rfl, a3⟩ | ⟨a1, p3, n3, rfl, a3, a4, a5, a6⟩)
    · exact ⟨_, false, rfl, a3, Lib.hid (by rw [hwh, a1]), fun e => by cases e⟩
    · exact ⟨p3, true, rfl, a6, Lib.hid (by rw [hwh, a1]), fun _ => ⟨n3, by omega, by omega, a3⟩⟩
  generalize hy : qs[i] = y at *
  have HY := Lib.hid hy
  clear hy
  have i1 : (0 : Int) ≤ (i : Int) := by omega
  have i2 : (i : Int) < (N : Int) := by omega
  go_wp2_with fail
  go_cut [11, 12] (fun s11 s12 wx => ∃ (p3 : Nat) (had : Bool), s11 = .pointer (some ⟨p3, 0, none⟩) ∧ s12 = .bool had ∧ Below q w wx ∧ had = hasE k ls.flatten ∧ (had = true → ∃ s, 1 ≤ s ∧ s ≤ 4 ∧ Nd wx h p3 (delE k ls[i]) s))
  case first =>
    go_region_held3 (fun w' => w'.cell? ⟨p, 2, none⟩ = some (.slice (some ⟨b, off, none⟩) N cc) ∧ w'.cell? ⟨b, off + i, none⟩ = some (.pointer (some ⟨y, 0, none⟩)) ∧ w'.cell? ⟨q, 0, none⟩ = some (.int .i64 k.br) ∧ w'.cell? ⟨q, 1, none⟩ = some (.int .i64 k.vol) ∧ w'.cell? ⟨q, 2, none⟩ = some (.int .i64 k.blk) ∧ w'.cell? ⟨q, 3, none⟩ = some (.int .u64 k.num)) (go_keep)
      (first
      | (go_at_call 60; refine (HDel.out _ ?_).mono ?_; (· exact HB2.out.trans (bel_drewN _ _ (n := 1))); rintro e w3 ⟨p3, had, rfl, hb3, hhad, hnd⟩; replace hb3 := bel_undrew hb3; obtain ⟨bc3, bf3⟩ := bcell hb3; have z3 := hb3.size))
    go_wp2_with fail
    go_meet
    exact ⟨p3, had, rfl, rfl, HB2.out.trans (hb3.mono (Nat.le_of_lt hqz2)), hhad.out, hnd⟩
  case rest =>
    obtain ⟨p3, had, rfl, rfl, hbx, hhad, hnd⟩ := hcut
    clear s0 s1 s2 s3 sp sk HDel hqz2 hpz2 hbz2
    have HBx := Lib.hid hbx
    have HHad := Lib.hid hhad
    have HNd := Lib.hid hnd
    clear hbx hhad hnd
    cases had with
    | false =>
      go_wp2_with fail
      go_ret2
      exact .inl ⟨HHad.out.symm, rfl, by rw [HQ.out]; exact HBx.out⟩
    | true =>
      obtain ⟨s, t1, t2, t3⟩ := HNd.out rfl
      have HT := Lib.hid t3
      clear t3 HNd
      have hfl : (ls.set i (delE k ls[i])).flatten = delE k ls.flatten := by rw [flatten_set hil', way_del HA.out HN.out HF.out hil']
      have sp := (HBx.out.cell (p := ⟨p, 2, none⟩) plt).trans HC2.out
      rw [HNq.out] at sp
      have hbx : b < wc.heap.size := by have := HBx.out.size; have := HQ.out; omega
      have hBw : Below w.heap.size w wc := by rw [HQ.out]; exact HBx.out
      have HBw := Lib.hid hBw
      have hkx := HK.out.imp (S := Kid wc h 2) (fun q m hq => hq.below hBw)
      have HCl := Lib.hid (clone_kids (w := wc) b off cc qs (by rw [HNq.out]; omega) (by rw [HNq.out]; omega) hbx (fun j hj => (HBx.out.cell (p := ⟨b, off + j, none⟩) hblt).trans (HKc.out j hj)))
      rw [HNq.out] at HCl
      have HKx := Lib.hid hkx
      have HFl := Lib.hid hfl
      clear hBw hkx hfl HB2
      go_wp2_with fail
      refine HCl.out.mono ?_
      clear HCl
      rintro e w4 ⟨v4, rfl, hown, hb4⟩
      rcases hown.2 with ⟨hv, h0'⟩ | ⟨g, cap, cur, hv, hg, hh, hle, hcpm, hcs, htk⟩
      · omega
      subst hv
      unfold maxLen at hcpm
      have hgl := (Array.getElem?_eq_some_iff.1 hh).1
      have hcel : ∀ j (hj : j < qs.length), w4.cell? ⟨g, j, none⟩ = some (.pointer (some ⟨qs[j], 0, none⟩)) := fun j hj => by
        rw [hown.cellAt j (by rw [HNq.out] at hj; omega)]
        simp [kps, List.getElem?_eq_getElem hj]
      have hci := hcel i hiq
      have hfi : w4.frozen? ⟨g, i, none⟩ = false := by simp only [World.frozen?, hh]; simp
      have hset : ∀ j (hj : j < (qs.set i p3).length), (w4.setCell ⟨g, i, none⟩ (.pointer (some ⟨p3, 0, none⟩))).cell? ⟨g, j, none⟩ = some (.pointer (some ⟨(qs.set i p3)[j], 0, none⟩)) := fun j hj => by
        have hj' : j < qs.length := by simpa using hj
        by_cases e : i = j
        · subst e
          rw [List.getElem_set_self]
          exact World.cell?_setCell_same' _ _ _ (by rw [hci]; rfl)
        · rw [List.getElem_set_ne e, World.cell?_setCell_other _ _ _ _ (fun h => e (congrArg Addr.off h))]
          exact hcel j hj'
      have hb5 : Below wc.heap.size wc (w4.setCell ⟨g, i, none⟩ (.pointer (some ⟨p3, 0, none⟩))) := hb4.setCell (p := ⟨g, i, none⟩) hg _
      have hg5 : g < (w4.setCell ⟨g, i, none⟩ (.pointer (some ⟨p3, 0, none⟩))).heap.size := by simpa [World.setCell] using hgl
      have HS := Lib.hid hset
      have HB5 := Lib.hid hb5
      have HSz := fun X (hX : Below wc.heap.size wc X) => Lib.hid (size_nd (HT.out.below hX))
      clear hown hh hcs htk hset hb5 hcel hb4 hgl
      have e5 : (i : Int) < (N : Int) := by omega
      go_wp2_with fail
      generalize w4.setCell ⟨g, i, none⟩ (.pointer (some ⟨p3, 0, none⟩)) = w5 at *
      refine (HSz _ HB5.out).out.mono ?_
      rintro e w6 ⟨rfl, rfl⟩
      have hlq : (qs.set i p3).length = N := by rw [List.length_set, HNq.out]
      have hll : (ls.set i (delE k ls[i])).length = N := by rw [List.length_set, ← HLen.out, HNq.out]
      have HLq := Lib.hid hlq
      have HLl := Lib.hid hll
      clear hlq hll HSz hci hfi
      have n1 : (1 : Int) < (N : Int) := by omega
      by_cases hs2 : 2 ≤ s
      · have n2 : ¬ ((s : Int) < 2) := by omega
        have n3 : decide ((s : Int) < 2) = false := by simp; omega
        have hall : All2 (Kid w5 h 2) (qs.set i p3) (ls.set i (delE k ls[i])) := (all2_set i HKx.out ⟨s, hs2, t2, HT.out⟩).imp (fun q m hq => hq.below HB5.out)
        have HO := Lib.hid (over_at (w := w5) (b := g) (off := 0) (c := cap) hg5 (fun j hj => by rw [Nat.zero_add]; exact HS.out j hj) (kids_heads (by omega) hall) (by rw [HLq.out]; omega) (by rw [HLq.out]; omega) (by rw [HLq.out]; exact hle) (by unfold maxLen; omega))
        rw [HLq.out] at HO
        have HAll := Lib.hid hall
        clear hall
        go_wp2_with fail
        refine HO.out.mono ?_
        rintro e w7 ⟨p', rfl, hI, hp', hb7⟩
        have hN7 : Nd w7 (h + 1) p' (delE k ls.flatten) N := nd_succ.2 ⟨_, _, HLq.out.symm, HFl.out.symm, hI, HAll.out.imp (fun q m hq => hq.below hb7)⟩
        have hb8 : Below w.heap.size w w7 := HBw.out.trans ((HB5.out.trans (hb7.mono HB5.out.size)).mono HBw.out.size)
        have H7 := Lib.hid (And.intro hN7 hb8)
        clear hN7 hb8 hI hb7 hp'
        go_wp2_with fail
        go_ret2
        exact .inr ⟨HHad.out.symm, p', N, rfl, H7.out.1, by omega, Nat.le_refl _, H7.out.2⟩
      · obtain rfl : s = 1 := by omega
        have hT5 := HT.out.below HB5.out
        have hkt := fun j (hj : j ≤ i) => (all2_set_take i j (a := p3) (b := delE k ls[i]) HKx.out hj).imp (S := Kid w5 h 2) (fun q m hq => hq.below HB5.out)
        have hkd := fun d (hd : i < d) => (all2_set_drop i d (a := p3) (b := delE k ls[i]) HKx.out hd).imp (S := Kid w5 h 2) (fun q m hq => hq.below HB5.out)
        have hne2 : ∀ x (a : x < (qs.set i p3).length) (b : x < (ls.set i (delE k ls[i])).length), x ≠ i → ∃ m, 2 ≤ m ∧ m ≤ 4 ∧ Nd w5 h (qs.set i p3)[x] (ls.set i (delE k ls[i]))[x] m := fun x a b hx => by
          rw [List.getElem_set_ne (Ne.symm hx), List.getElem_set_ne (Ne.symm hx)]
          obtain ⟨m, m1, m2, m3⟩ := HKx.out.get x (by simpa using a) (by simpa using b)
          exact ⟨m, m1, m2, m3.below HB5.out⟩
        have heq2 : ∀ (a : i < (qs.set i p3).length) (b : i < (ls.set i (delE k ls[i])).length), Nd w5 h (qs.set i p3)[i] (ls.set i (delE k ls[i]))[i] 1 := fun a b => by
          rw [List.getElem_set_self, List.getElem_set_self]; exact hT5
        generalize qs.set i p3 = Q at *
        generalize ls.set i (delE k ls[i]) = L at *
        have HJ : Hid (∀ j (hj : j + 1 < N), j ≤ i → i ≤ j + 1 → ∀ (A3 : Option Addr) (n3 : Nat), (A3 = if cap = j + 2 then some (⟨g, 0, none⟩ : Addr) else some ⟨g, j + 2, none⟩) → n3 = N - (j + 2) → ∃ y1 y2 : Nat, w5.cell? ⟨g, j, none⟩ = some (.pointer (some ⟨y1, 0, none⟩)) ∧ w5.cell? ⟨g, j + 1, none⟩ = some (.pointer (some ⟨y2, 0, none⟩)) ∧ ∀ X, Below w5.heap.size w5 X → Hid (Calls Try.prog 84 #[.pointer (some ⟨y1, 0, none⟩), .pointer (some ⟨y2, 0, none⟩)] X (fun e w6 => ∃ s nl : Nat, e = .returned (.slice (some ⟨s, 0, none⟩) nl nl) ∧ Below X.heap.size X w6 ∧ ∀ c3, Hid (Calls Try.prog 67 #[.slice (some ⟨w6.heap.size, 0, none⟩) 3 3] (w6.alloc (.cells #[.slice (some ⟨g, 0, none⟩) j cap, .slice (some ⟨s, 0, none⟩) nl nl, .slice A3 n3 c3] 37)) (fun e w7 => ∃ b4 o4 c4 N4, e = .returned (.slice (some ⟨b4, o4, none⟩) N4 c4) ∧ Below w6.heap.size w6 w7 ∧ Hid (Calls Try.prog 85 #[.slice (some ⟨b4, o4, none⟩) N4 c4] w7 (fun e w8 => ∃ p' n', e = .returned (.pointer (some ⟨p', 0, none⟩)) ∧ Nd w8 (h + 1) p' L.flatten n' ∧ N ≤ n' + 1 ∧ n' ≤ N ∧ Below w7.heap.size w7 w8))))))) := by
          show ∀ j (hj : j + 1 < N), _
          intro j hj hji hij A3 n3 hA3 hn3
          have lq := HLq.out
          have ll := HLl.out
          have hpair : ∃ m1 m2, Nd w5 h (Q[j]'(by omega)) (L[j]'(by omega)) m1 ∧ Nd w5 h (Q[j + 1]'(by omega)) (L[j + 1]'(by omega)) m2 ∧ 0 < m1 ∧ 0 < m2 ∧ 2 ≤ m1 + m2 ∧ m1 + m2 ≤ 5 := by
            rcases (show j = i ∨ j + 1 = i by omega) with e | e
            · subst e
              obtain ⟨m, m1, m2, m3⟩ := hne2 (j + 1) (by omega) (by omega) (by omega)
              exact ⟨1, m, heq2 _ _, m3, by omega, by omega, by omega, by omega⟩
            · subst e
              obtain ⟨m, m1, m2, m3⟩ := hne2 j (by omega) (by omega) (by omega)
              exact ⟨m, 1, m3, heq2 _ _, by omega, by omega, by omega, by omega⟩
          obtain ⟨m1, m2, b1, b2, b3, b4, b5, b6⟩ := hpair
          exact ⟨_, _, HS.out j (by omega), HS.out (j + 1) (by omega), fun X hX => Lib.hid (del_tail hg5 lq ll h4 hj HS.out hle (hkt j hji) (hkd (j + 2) (by omega)) b1 b2 b3 b4 b5 b6 A3 n3 hA3 hn3 X hX)⟩
        have HW5 := Lib.hid (And.intro HBw.out HB5.out)
        clear hkt hkd hne2 heq2 hT5 HT HKx HS
        by_cases hlast : i + 1 = N
        · -- the last kid
          obtain ⟨j, rfl⟩ : ∃ j, i = j + 1 := ⟨i - 1, by omega⟩
          have hj1 : j + 1 < N := by omega
          have hj2 : j ≤ j + 1 := by omega
          have hj3 : j + 1 ≤ j + 1 := by omega
          obtain rfl : N = j + 2 := by omega
          have r1 : ((j : Int) + 1 == (j : Int) + 2 - 1) = true := by rw [beq_iff_eq]; omega
          have r2 : (((j + 1 : Nat) : Int) == ((j + 2 : Nat) : Int) - 1) = true := by rw [beq_iff_eq]; omega
          have r3 : ((j : Int) + 1 == (j : Int) + 1) = true := by rw [beq_iff_eq]
          clear hlast
          by_cases hcd : cap = j + 2
          · subst hcd
            obtain ⟨y1, y2, g1, g2, HJn⟩ := HJ.out j hj1 hj2 hj3 (some ⟨g, 0, none⟩) (0) (by rw [if_pos rfl]) (by omega)
            have HJ5 : Hid (Calls Try.prog 84 #[.pointer (some ⟨y1, 0, none⟩), .pointer (some ⟨y2, 0, none⟩)] w5.drew _) := (HJn w5.drew (bel_drewN _ _ (n := 1))).out
            clear HJ HJn
            have m1 : (0 : Int) ≤ (j : Int) := by omega
            have m2 : (j : Int) + 1 < (j : Int) + 2 := by omega
            have m3 : (j : Int) < (j : Int) + 2 := by omega
            have m4 : (j : Int) ≤ (j : Int) + 2 := by omega
            have m6 : ((j : Int) + 2).toNat = j + 2 := by omega
            have m7 : ((j : Int) + 1).toNat = j + 1 := by omega
            have m8 : (0 : Int) ≤ (j : Int) + 1 := by omega
            have m9 : (0 : Int) ≤ (j : Int) + 2 := by omega
            have m11 : (j : Int) + 1 ≤ (j : Int) + 2 := by omega
            have u1 : IntKind.i64.wrap ((j : Int) + 1) = (j : Int) + 1 := by rw [IntKind.wrap_i64]; omega
            have u2 : IntKind.i64.wrap ((j : Int) + 2) = (j : Int) + 2 := by rw [IntKind.wrap_i64]; omega
            have HJL := Lib.hid (And.intro hj1 (And.intro hj2 hj3))
            clear hj1 hj2 hj3
            go_wp2_with fail
            go_region_held3 (fun w' => w'.cell? ⟨g, j, none⟩ = some (.pointer (some ⟨y1, 0, none⟩)) ∧ w'.cell? ⟨g, j + 1, none⟩ = some (.pointer (some ⟨y2, 0, none⟩))) (go_keep)
              (first
              | (go_at_call 84; refine HJ5.out.mono ?_; rintro e w6 ⟨s6, nl, rfl, hb6, hcat⟩; replace hb6 := bel_undrew hb6; obtain ⟨bc6, bf6⟩ := bcell hb6; have z6 := hb6.size; have hg6 := Nat.lt_of_lt_of_le hg5 z6)
              | (go_at_call 67; refine (hcat _).out.mono ?_; rintro e w7 ⟨b4, o4, c4, N4, rfl, hb7, hov⟩; obtain ⟨bc7, bf7⟩ := bcell hb7; have z7 := hb7.size; have hg7 := Nat.lt_of_lt_of_le hg6 z7))
            go_wp2_with fail
            refine hov.out.mono ?_
            rintro e w8 ⟨p', n', rfl, hN8, x1, x2, hb8⟩
            have hbb : Below w.heap.size w w8 := HW5.out.1.trans (((HW5.out.2.trans (hb6.mono HW5.out.2.size)).trans ((hb7.trans (hb8.mono hb7.size)).mono (Nat.le_trans HW5.out.2.size hb6.size))).mono HW5.out.1.size)
            have H8 := Lib.hid (And.intro hN8 (And.intro x1 (And.intro x2 hbb)))
            clear hN8 x1 x2 hbb hb6 hb7 hb8
            go_wp2_with fail
            go_ret2
            exact .inr ⟨HHad.out.symm, p', n', rfl, HFl.out ▸ H8.out.1, H8.out.2.1, H8.out.2.2.1, H8.out.2.2.2⟩
          · have r4 : True := trivial
            obtain ⟨y1, y2, g1, g2, HJn⟩ := HJ.out j hj1 hj2 hj3 (some ⟨g, j + 2, none⟩) (0) (by rw [if_neg hcd]) (by omega)
            have HJ5 : Hid (Calls Try.prog 84 #[.pointer (some ⟨y1, 0, none⟩), .pointer (some ⟨y2, 0, none⟩)] w5.drew _) := (HJn w5.drew (bel_drewN _ _ (n := 1))).out
            clear HJ HJn
            have m1 : (0 : Int) ≤ (j : Int) := by omega
            have m2 : (j : Int) + 1 < (j : Int) + 2 := by omega
            have m3 : (j : Int) < (j : Int) + 2 := by omega
            have m4 : (j : Int) ≤ (j : Int) + 2 := by omega
            have m6 : ((j : Int) + 2).toNat = j + 2 := by omega
            have m7 : ((j : Int) + 1).toNat = j + 1 := by omega
            have m8 : (0 : Int) ≤ (j : Int) + 1 := by omega
            have m9 : (0 : Int) ≤ (j : Int) + 2 := by omega
            have m11 : (j : Int) + 1 ≤ (j : Int) + 2 := by omega
            have m5 : (j : Int) ≤ (cap : Int) := by omega
            have m10 : (j : Int) + 2 ≤ (cap : Int) := by omega
            have u1 : IntKind.i64.wrap ((j : Int) + 1) = (j : Int) + 1 := by rw [IntKind.wrap_i64]; omega
            have u2 : IntKind.i64.wrap ((j : Int) + 2) = (j : Int) + 2 := by rw [IntKind.wrap_i64]; omega
            have HJL := Lib.hid (And.intro hj1 (And.intro hj2 hj3))
            clear hj1 hj2 hj3
            go_wp2_with fail
            go_region_held3 (fun w' => w'.cell? ⟨g, j, none⟩ = some (.pointer (some ⟨y1, 0, none⟩)) ∧ w'.cell? ⟨g, j + 1, none⟩ = some (.pointer (some ⟨y2, 0, none⟩))) (go_keep)
              (first
              | (go_at_call 84; refine HJ5.out.mono ?_; rintro e w6 ⟨s6, nl, rfl, hb6, hcat⟩; replace hb6 := bel_undrew hb6; obtain ⟨bc6, bf6⟩ := bcell hb6; have z6 := hb6.size; have hg6 := Nat.lt_of_lt_of_le hg5 z6)
              | (go_at_call 67; refine (hcat _).out.mono ?_; rintro e w7 ⟨b4, o4, c4, N4, rfl, hb7, hov⟩; obtain ⟨bc7, bf7⟩ := bcell hb7; have z7 := hb7.size; have hg7 := Nat.lt_of_lt_of_le hg6 z7))
            go_wp2_with fail
            refine hov.out.mono ?_
            rintro e w8 ⟨p', n', rfl, hN8, x1, x2, hb8⟩
            have hbb : Below w.heap.size w w8 := HW5.out.1.trans (((HW5.out.2.trans (hb6.mono HW5.out.2.size)).trans ((hb7.trans (hb8.mono hb7.size)).mono (Nat.le_trans HW5.out.2.size hb6.size))).mono HW5.out.1.size)
            have H8 := Lib.hid (And.intro hN8 (And.intro x1 (And.intro x2 hbb)))
            clear hN8 x1 x2 hbb hb6 hb7 hb8
            go_wp2_with fail
            go_ret2
            exact .inr ⟨HHad.out.symm, p', n', rfl, HFl.out ▸ H8.out.1, H8.out.2.1, H8.out.2.2.1, H8.out.2.2.2⟩
        · obtain ⟨j, hji⟩ : ∃ j, j = i := ⟨_, rfl⟩
          have r1 : ((i : Int) == (N : Int) - 1) = false := by rw [beq_eq_false_iff_ne]; omega
          have hj1 : j + 1 < N := by omega
          have hj2 : j ≤ i := by omega
          have hj3 : i ≤ j + 1 := by omega
          subst hji
          clear hlast
          by_cases hcd : cap = j + 2
          · obtain rfl : N = j + 2 := by omega
            subst hcd
            obtain ⟨y1, y2, g1, g2, HJn⟩ := HJ.out j hj1 hj2 hj3 (some ⟨g, 0, none⟩) (0) (by rw [if_pos rfl]) (by omega)
            have HJ5 : Hid (Calls Try.prog 84 #[.pointer (some ⟨y1, 0, none⟩), .pointer (some ⟨y2, 0, none⟩)] w5.drew _) := (HJn w5.drew (bel_drewN _ _ (n := 1))).out
            clear HJ HJn
            have m1 : (0 : Int) ≤ (j : Int) := by omega
            have m2 : (j : Int) + 1 < (j : Int) + 2 := by omega
            have m3 : (j : Int) < (j : Int) + 2 := by omega
            have m4 : (j : Int) ≤ (j : Int) + 2 := by omega
            have m6 : ((j : Int) + 2).toNat = j + 2 := by omega
            have m7 : ((j : Int) + 1).toNat = j + 1 := by omega
            have m8 : (0 : Int) ≤ (j : Int) + 1 := by omega
            have m9 : (0 : Int) ≤ (j : Int) + 2 := by omega
            have m11 : (j : Int) + 1 ≤ (j : Int) + 2 := by omega
            have u1 : IntKind.i64.wrap ((j : Int) + 1) = (j : Int) + 1 := by rw [IntKind.wrap_i64]; omega
            have u2 : IntKind.i64.wrap ((j : Int) + 2) = (j : Int) + 2 := by rw [IntKind.wrap_i64]; omega
            have r2 : ((j : Int) == (j : Int) + 2 - 1) = false := by rw [beq_eq_false_iff_ne]; omega
            have r3 : ((j : Int) == (j : Int) + 1) = false := by rw [beq_eq_false_iff_ne]; omega
            have HJL := Lib.hid (And.intro hj1 (And.intro hj2 hj3))
            clear hj1 hj2 hj3
            go_wp2_with fail
            go_region_held3 (fun w' => w'.cell? ⟨g, j, none⟩ = some (.pointer (some ⟨y1, 0, none⟩)) ∧ w'.cell? ⟨g, j + 1, none⟩ = some (.pointer (some ⟨y2, 0, none⟩))) (go_keep)
              (first
              | (go_at_call 84; refine HJ5.out.mono ?_; rintro e w6 ⟨s6, nl, rfl, hb6, hcat⟩; replace hb6 := bel_undrew hb6; obtain ⟨bc6, bf6⟩ := bcell hb6; have z6 := hb6.size; have hg6 := Nat.lt_of_lt_of_le hg5 z6)
              | (go_at_call 67; refine (hcat _).out.mono ?_; rintro e w7 ⟨b4, o4, c4, N4, rfl, hb7, hov⟩; obtain ⟨bc7, bf7⟩ := bcell hb7; have z7 := hb7.size; have hg7 := Nat.lt_of_lt_of_le hg6 z7))
            go_wp2_with fail
            refine hov.out.mono ?_
            rintro e w8 ⟨p', n', rfl, hN8, x1, x2, hb8⟩
            have hbb : Below w.heap.size w w8 := HW5.out.1.trans (((HW5.out.2.trans (hb6.mono HW5.out.2.size)).trans ((hb7.trans (hb8.mono hb7.size)).mono (Nat.le_trans HW5.out.2.size hb6.size))).mono HW5.out.1.size)
            have H8 := Lib.hid (And.intro hN8 (And.intro x1 (And.intro x2 hbb)))
            clear hN8 x1 x2 hbb hb6 hb7 hb8
            go_wp2_with fail
            go_ret2
            exact .inr ⟨HHad.out.symm, p', n', rfl, HFl.out ▸ H8.out.1, H8.out.2.1, H8.out.2.2.1, H8.out.2.2.2⟩
          · have r3 : True := trivial
            obtain ⟨y1, y2, g1, g2, HJn⟩ := HJ.out j hj1 hj2 hj3 (some ⟨g, j + 2, none⟩) (N - (j + 2)) (by rw [if_neg hcd]) (rfl)
            have HJ5 : Hid (Calls Try.prog 84 #[.pointer (some ⟨y1, 0, none⟩), .pointer (some ⟨y2, 0, none⟩)] w5.drew _) := (HJn w5.drew (bel_drewN _ _ (n := 1))).out
            clear HJ HJn
            have m1 : (0 : Int) ≤ (j : Int) := by omega
            have m2 : (j : Int) + 1 < (N : Int) := by omega
            have m3 : (j : Int) < (N : Int) := by omega
            have m4 : (j : Int) ≤ (cap : Int) := by omega
            have m5 : (j : Int) + 2 ≤ (N : Int) := by omega
            have m6 : ((j : Int) + 2).toNat = j + 2 := by omega
            have m7 : ((j : Int) + 1).toNat = j + 1 := by omega
            have m8 : (0 : Int) ≤ (j : Int) + 1 := by omega
            have m9 : (0 : Int) ≤ (j : Int) + 2 := by omega
            have m10 : (j : Int) ≤ (N : Int) := by omega
            have u1 : IntKind.i64.wrap ((j : Int) + 1) = (j : Int) + 1 := by rw [IntKind.wrap_i64]; omega
            have u2 : IntKind.i64.wrap ((j : Int) + 2) = (j : Int) + 2 := by rw [IntKind.wrap_i64]; omega
            have HJL := Lib.hid (And.intro hj1 (And.intro hj2 hj3))
            clear hj1 hj2 hj3
            go_wp2_with fail
            go_region_held3 (fun w' => w'.cell? ⟨g, j, none⟩ = some (.pointer (some ⟨y1, 0, none⟩)) ∧ w'.cell? ⟨g, j + 1, none⟩ = some (.pointer (some ⟨y2, 0, none⟩))) (go_keep)
              (first
              | (go_at_call 84; refine HJ5.out.mono ?_; rintro e w6 ⟨s6, nl, rfl, hb6, hcat⟩; replace hb6 := bel_undrew hb6; obtain ⟨bc6, bf6⟩ := bcell hb6; have z6 := hb6.size; have hg6 := Nat.lt_of_lt_of_le hg5 z6)
              | (go_at_call 67; refine (hcat _).out.mono ?_; rintro e w7 ⟨b4, o4, c4, N4, rfl, hb7, hov⟩; obtain ⟨bc7, bf7⟩ := bcell hb7; have z7 := hb7.size; have hg7 := Nat.lt_of_lt_of_le hg6 z7))
            go_wp2_with fail
            refine hov.out.mono ?_
            rintro e w8 ⟨p', n', rfl, hN8, x1, x2, hb8⟩
            have hbb : Below w.heap.size w w8 := HW5.out.1.trans (((HW5.out.2.trans (hb6.mono HW5.out.2.size)).trans ((hb7.trans (hb8.mono hb7.size)).mono (Nat.le_trans HW5.out.2.size hb6.size))).mono HW5.out.1.size)
            have H8 := Lib.hid (And.intro hN8 (And.intro x1 (And.intro x2 hbb)))
            clear hN8 x1 x2 hbb hb6 hb7 hb8
            go_wp2_with fail
            go_ret2
            exact .inr ⟨HHad.out.symm, p', n', rfl, HFl.out ▸ H8.out.1, H8.out.2.1, H8.out.2.2.1, H8.out.2.2.2⟩

end Go.Proofs.Ytainljbkejafcaa.N
