/- The law NodeTwo. -/
import Derived.Test.YtjeebbolnanmkaaNPlay
import Derived.Test.YtjeebbolnanmkaaNAwake
import Derived.Test.YtjeebbolnanmkaaNCls
namespace Go.Proofs.Ytjeebbolnanmkaa.N
open Go.BigFrame Go.RowKit Go.Proofs.YtjeebbolnanmkaaW.PrintMore Go.Proofs.YtjeebbolnanmkaaW.PrintWords
set_option linter.unusedVariables false
set_option linter.unusedSimpArgs false
def LayH (w : World) (L h : Nat) (l : List Ent) (e : Ending) (w' : World) : Prop := e = .returned (.int .i64 ((h : Int) + 1)) ∧ ListE w' L l ∧ Below L w w'
theorem lay_any {w0 X : World} {p h n L : Nat} {l : List Ent} (root : Bool) (hn : Nd w0 h p l n) (h1 : if root = true then 1 ≤ n else 2 ≤ n) (h2 : 0 < h → 2 ≤ n) (h4 : n ≤ 4) (hL : w0.heap.size ≤ L) (hb : Below w0.heap.size w0 X) (hX : ListE X L []) (hl : l.length ≤ 400) (ha : Asc l) :
    Calls Try.prog 25 #[.pointer (some ⟨p, 0, none⟩), .bool root, .int .i64 12, .pointer (some ⟨L, 0, none⟩)] X (LayH X L h l) := by
  have hXz := hX.lt
  obtain ⟨kv, vv, hX⟩ := hX
  have h0 : 0 < n := by split at h1 <;> omega
  have hp := hn.high h0 h2
  have hh : h ≤ 11 := by
    refine Nat.le_of_not_lt fun hc => ?_
    have : 2 ^ 12 ≤ 2 ^ h := Nat.pow_le_pow_right (by decide) (by omega)
    omega
  have := lay_nd h (D := 11) (root := root) hn h1 h2 h4 (Nat.lt_succ_self L) hXz hL hb hX (by simpa using hl) hh (by omega) (fun x hx => by cases hx) ha
  refine this.mono fun e w' hp => ?_
  obtain ⟨a, ⟨kv', vv', b⟩, c, _⟩ := hp
  exact ⟨a, ⟨kv', vv', by simpa using b⟩, c⟩
/-- lay onto a list that is made now. -/
theorem lay_now {w : World} {p h n : Nat} {l : List Ent} (root : Bool) (hn : Nd w h p l n) (h1 : if root = true then 1 ≤ n else 2 ≤ n) (h2 : 0 < h → 2 ≤ n) (h4 : n ≤ 4) (hl : l.length ≤ 400) (ha : Asc l) :
    Calls Try.prog 25 #[.pointer (some ⟨p, 0, none⟩), .bool root, .int .i64 12, .pointer (some ⟨w.heap.size, 0, none⟩)] (w.alloc (.cells #[.slice none 0 0, .slice none 0 0] 34)) (LayH (w.alloc (.cells #[.slice none 0 0, .slice none 0 0] 34)) w.heap.size h l) :=
  lay_any root hn h1 h2 h4 (Nat.le_refl _) ((Below.refl _ _).alloc (Nat.le_refl _) _) (list_new w) hl ha
/-- A list stays where another one's block, and what is new, changes. -/
theorem ListAt.keep {w w' : World} {L L' B B' : Nat} {ks : List Sp} {vs : List Int} {kv vv : Value} (h : ListAt w L B ks vs kv vv) (hk : Keep L' B' w w') (hB : w.heap.size ≤ B') (hL : L ≠ L') (hLB : L' < B) : ListAt w' L B ks vs kv vv := by
  refine ⟨(hk L (Nat.lt_of_lt_of_le h.lt hB) hL).trans h.hp, own_stay h.keys (fun q hq => ?_), own_stay h.vals (fun q hq => ?_), h.len, h.base, h.apart⟩
  · exact hk q (Nat.lt_of_lt_of_le (own_lt h.keys q hq) hB) (by have := own_ge h.keys q hq; omega)
  · exact hk q (Nat.lt_of_lt_of_le (own_lt h.vals q hq) hB) (by have := own_ge h.vals q hq; omega)
theorem ListAt.E {w : World} {L B : Nat} {l : List Ent} {kv vv : Value} (h : ListAt w L B (l.map (·.1)) (l.map (·.2)) kv vv) : ListE w L l :=
  ⟨kv, vv, h.hp, own_base h.keys h.base, own_base h.vals h.base, h.len, Nat.lt_succ_self _, h.apart⟩
def LayK (w : World) (L B h : Nat) (l : List Ent) (e : Ending) (w' : World) : Prop := e = .returned (.int .i64 ((h : Int) + 1)) ∧ (∃ kv vv, ListAt w' L B (l.map (·.1)) (l.map (·.2)) kv vv) ∧ Below L w w' ∧ Keep L B w w'
/-- lay of a node that is no root, onto an empty list. -/
theorem lay_keep {w0 X : World} {p h n L B : Nat} {l : List Ent} (hn : Nd w0 h p l n) (h1 : 2 ≤ n) (h4 : n ≤ 4) (hLB : L < B) (hBX : B ≤ X.heap.size) (hL : w0.heap.size ≤ L) (hb : Below w0.heap.size w0 X) (hX : ∃ kv vv, ListAt X L B [] [] kv vv) (hl : l.length ≤ 400) (ha : Asc l) :
    Calls Try.prog 25 #[.pointer (some ⟨p, 0, none⟩), .bool false, .int .i64 12, .pointer (some ⟨L, 0, none⟩)] X (LayK X L B h l) := by
  obtain ⟨kv, vv, hX⟩ := hX
  have hp := hn.high (by omega) (fun _ => h1)
  have hh : h ≤ 11 := by
    refine Nat.le_of_not_lt fun hc => ?_
    have : 2 ^ 12 ≤ 2 ^ h := Nat.pow_le_pow_right (by decide) (by omega)
    omega
  have := lay_nd h (D := 11) (root := false) hn (by simpa using h1) (fun _ => h1) h4 hLB hBX hL hb hX (by simpa using hl) hh (by omega) (fun x hx => by cases hx) ha
  refine this.mono fun e w' hp => ?_
  obtain ⟨a, ⟨kv', vv', b⟩, c, d⟩ := hp
  exact ⟨a, ⟨kv', vv', by simpa using b⟩, c, d⟩
theorem list_none {w : World} {L : Nat} (B : Nat) (h : w.heap[L]? = some (.cells #[.slice none 0 0, .slice none 0 0] 34 (0, 0))) (hL : L < B) : ∃ kv vv, ListAt w L B [] [] kv vv :=
  ⟨.slice none 0 0, .slice none 0 0, h, ⟨rfl, .inl ⟨rfl, rfl⟩⟩, ⟨rfl, .inl ⟨rfl, rfl⟩⟩, rfl, hL, fun q hq => by cases hq⟩
/-- Two lists side by side. -/
def Two (w W : World) (L : Nat) : Prop := W.heap.size = L + 2 ∧ Below L w W ∧ (∃ kv vv, ListAt W L (L + 2) [] [] kv vv) ∧ W.heap[L + 1]? = some (.cells #[.slice none 0 0, .slice none 0 0] 34 (0, 0))
theorem two_lists (w : World) : Two w ((w.alloc (.cells #[.slice none 0 0, .slice none 0 0] 34)).alloc (.cells #[.slice none 0 0, .slice none 0 0] 34)) w.heap.size := by
  have hb2 : Below (w.heap.size + 1) (w.alloc (.cells #[.slice none 0 0, .slice none 0 0] 34)) ((w.alloc (.cells #[.slice none 0 0, .slice none 0 0] 34)).alloc (.cells #[.slice none 0 0, .slice none 0 0] 34)) := (Below.refl _ _).alloc (by rw [World.size_alloc]; exact Nat.le_refl _) _
  refine ⟨by rw [World.size_alloc, World.size_alloc], ((Below.refl _ _).alloc (Nat.le_refl _) _).trans (hb2.mono (Nat.le_succ _)), list_none _ ((hb2.block _ (Nat.lt_succ_self _)).trans (heap_alloc_new w _)) (by omega), ?_⟩
  have := heap_alloc_new (w.alloc (.cells #[.slice none 0 0, .slice none 0 0] 34)) (.cells #[.slice none 0 0, .slice none 0 0] 34)
  rw [World.size_alloc] at this
  exact this
theorem nd_two {w : World} : ∀ {h p n M : Nat} {l : List Ent}, Nd w h p l n → 2 ≤ n → l.length = M → 2 ≤ M
  | 0, p, n, M, l, hn, h2, hM => by have := hn.1; omega
  | h + 1, p, n, M, l, hn, h2, hM => by
    have := hn.high (by omega) (fun _ => h2)
    rw [hM, Nat.pow_succ] at this
    have := Nat.one_le_two_pow (n := h)
    omega
theorem rfind_list {w : World} {L : Nat} {l : List Ent} (h : ListE w L l) (k : Sp) (hl : l.length ≤ 1000) :
    Calls Try.prog 17 #[.pointer (some ⟨L, 0, none⟩), .agg #[.int .i64 k.br, .int .i64 k.vol, .int .i64 k.blk, .int .u64 k.num]] w fun e w' => (∃ i : Nat, e = .returned (.tuple #[.int .i64 i, .bool (hasE k l)])) ∧ Below w.heap.size w w' := by
  obtain ⟨kv, vv, h⟩ := h
  obtain ⟨A, c, e, _, _, hs⟩ := spots_own h.keys
  have hp := h.hp
  rw [e] at hp
  refine (rfind_at hp hs k (by rw [List.length_map]; omega)).mono fun e w' hq => ?_
  obtain ⟨a, b⟩ := hq
  rw [findL_has] at a
  exact ⟨⟨_, a⟩, b⟩
set_option maxHeartbeats 3200000 in
set_option maxRecDepth 100000 in
theorem two_ok {w : World} {A : Option Addr} {c : Nat} {ds : List Dd} (hd : DeedsAt w A ds) (k : Sp) (v : Int) :
    Calls Try.prog 9 #[.slice A ds.length c, k.v, .int .u64 v] w fun e w' => e = .returned (.bool true) ∧ Below w.heap.size w w' := by
  unfold Sp.v
  have HD := Lib.hid hd
  obtain ⟨N, hN⟩ : ∃ N, ds.length = N := ⟨_, rfl⟩
  have HN := Lib.hid hN
  rw [hN]
  clear hd hN
  go_enter Try.func9, Try.ntmps9
  go_wp2_with fail
  have hbw : Below w.heap.size w (w.alloc (.cells #[.int .i64 k.br, .int .i64 k.vol, .int .i64 k.blk, .int .u64 k.num] 26)) := (Below.refl _ _).alloc (Nat.le_refl _) _
  have hbox := heap_alloc_new w (.cells #[.int .i64 k.br, .int .i64 k.vol, .int .i64 k.blk, .int .u64 k.num] 26)
  refine (awake_ok _).mono ?_
  rintro e w1 ⟨rfl, hb1⟩
  generalize w.alloc (.cells #[.int .i64 k.br, .int .i64 k.vol, .int .i64 k.blk, .int .u64 k.num] 26) = W at *
  have zbox := (Array.getElem?_eq_some_iff.1 hbox).1
  have hbox1 := (hb1.block _ zbox).trans hbox
  have HB1 : Hid (Below w.heap.size w w1) := hbw.trans (hb1.mono hbw.size)
  clear hbox hbw hb1 zbox
  by_cases hn : N ≤ 40
  · have hg : decide ((40 : Int) < (N : Int)) = false := by simp; omega
    have HP : Hid (Calls Try.prog 21 #[.slice A N c] w1 (PlayPost w1 (playE ds))) := by
      have := play_at (c := c) (HD.out.below HB1.out) (by rw [HN.out]; omega)
      rw [HN.out] at this
      exact this
    go_wp2_with fail
    refine HP.out.mono ?_
    rintro e w2 ⟨r, L, rfl, hr, hl, hb2, _⟩
    have HB2 := Lib.hid (HB1.out.trans (hb2.mono HB1.out.size))
    have zbox := (Array.getElem?_eq_some_iff.1 hbox1).1
    have hbox2 := (hb2.block _ zbox).trans hbox1
    have HA := Lib.hid (playE_asc ds)
    have hlen : (playE ds).length ≤ 40 := by have := playE_len ds; have := HN.out; omega
    clear zbox hbox1 hb2
    generalize playE ds = l at *
    have k0 : w2.cell? ⟨w.heap.size, 0, none⟩ = some (.int .i64 k.br) := by simp only [World.cell?, hbox2]; rfl
    have k1 : w2.cell? ⟨w.heap.size, 1, none⟩ = some (.int .i64 k.vol) := by simp only [World.cell?, hbox2]; rfl
    have k2 : w2.cell? ⟨w.heap.size, 2, none⟩ = some (.int .i64 k.blk) := by simp only [World.cell?, hbox2]; rfl
    have k3 : w2.cell? ⟨w.heap.size, 3, none⟩ = some (.int .u64 k.num) := by simp only [World.cell?, hbox2]; rfl
    have zk := (Array.getElem?_eq_some_iff.1 hbox2).1
    rcases hr with ⟨rfl, rfl⟩ | ⟨q, h, n, rfl, hnd, h0, h2, h4⟩
    · go_wp2_with fail
      go_ret
      exact ⟨rfl, HB2.out⟩
    · have HLay := Lib.hid (lay_now true hnd (by rw [if_pos rfl]; exact h0) h2 h4 (by omega) HA.out)
      have HNd := Lib.hid hnd
      have HL := Lib.hid hl
      clear hnd hl
      go_wp2_with fail
      refine HLay.out.mono ?_
      rintro e w3 ⟨rfl, _, hb3⟩
      have hb23 : Below w2.heap.size w2 w3 := ((Below.refl _ _).alloc (Nat.le_refl _) _).trans hb3
      have hl3 := HL.out.below hb23
      have HNd3 := Lib.hid (HNd.out.below hb23)
      have HFi := Lib.hid (rfind_list hl3 k (by omega))
      have HL3 := Lib.hid hl3
      have HB3 := Lib.hid (HB2.out.trans (hb23.mono HB2.out.size))
      have x0 := (hb23.cell (p := ⟨w.heap.size, 0, none⟩) zk).trans k0
      have x1 := (hb23.cell (p := ⟨w.heap.size, 1, none⟩) zk).trans k1
      have x2 := (hb23.cell (p := ⟨w.heap.size, 2, none⟩) zk).trans k2
      have x3 := (hb23.cell (p := ⟨w.heap.size, 3, none⟩) zk).trans k3
      have zk3 : w.heap.size < w3.heap.size := Nat.lt_of_lt_of_le zk hb23.size
      clear hb3 hb23 hl3 HLay k0 k1 k2 k3 hbox2 zk HL HNd
      go_wp2_with fail
      refine HFi.out.mono ?_
      rintro e w4 ⟨⟨i, rfl⟩, hb4⟩
      have HPut := Lib.hid (put_nd k v h (HNd3.out.below hb4) h0 h2 h4 HA.out)
      have HNd4 := Lib.hid (HNd3.out.below hb4)
      have HL4 := Lib.hid (HL3.out.below hb4)
      have HB4 := Lib.hid (HB3.out.trans (hb4.mono HB3.out.size))
      have y0 := (hb4.cell (p := ⟨w.heap.size, 0, none⟩) zk3).trans x0
      have y1 := (hb4.cell (p := ⟨w.heap.size, 1, none⟩) zk3).trans x1
      have y2 := (hb4.cell (p := ⟨w.heap.size, 2, none⟩) zk3).trans x2
      have y3 := (hb4.cell (p := ⟨w.heap.size, 3, none⟩) zk3).trans x3
      clear x0 x1 x2 x3 hb4 HFi HNd3 HL3
      go_wp2_with fail
      refine HPut.out.mono ?_
      rintro e w5 ⟨s, ns, ls, rfl, t1, t2, t3, t4, t5, t6, t7⟩
      have HB5 := Lib.hid (HB4.out.trans (t7.mono HB4.out.size))
      have HL5 := Lib.hid (HL4.out.below t7)
      have HNd5 := Lib.hid (HNd4.out.below t7)
      have hia := Lib.hid (insE_asc (k := k) (v := v) HA.out)
      have hil := Lib.hid (insE_length (k := k) (v := v) (l := l))
      have hi41 : (insE k v l).length ≤ 41 := by have := insE_len_le k v l; omega
      clear t1 t7 HPut HL4 HNd4 HB4 y0 y1 y2 y3
      rcases t6 with h1 | ⟨h1, hn4, hhas⟩
      · match ns, ls, t4, h1 with
        | [q1], [m1], t4, _ =>
          obtain ⟨⟨x, x1, x2, x3⟩, _⟩ := t4
          have t5' : m1 = insE k v l := by rw [← t5]; simp
          subst t5'
          have c0 := t3 0 (by simp)
          simp only [List.getElem_cons_zero, List.length_singleton] at c0 ⊢
          have hbX : Below w5.heap.size w5 ((w5.alloc (.cells #[.slice none 0 0, .slice none 0 0] 34)).drewN 1) := ((Below.refl _ _).alloc (Nat.le_refl _) _).trans (bel_drewN _ _)
          have HLay := Lib.hid (lay_any true x3 (by rw [if_pos rfl]; omega) (fun hh => by have := h2 hh; omega) x2 (Nat.le_refl _) hbX ((list_new w5).below (bel_drewN _ _ (n := 1))) (by omega) hia.out)
          obtain ⟨M, hM⟩ : ∃ M, l.length = M := ⟨_, rfl⟩
          have HM := Lib.hid hM
          have HbX := Lib.hid hbX
          have hlM : M ≤ 40 := by omega
          have hil2 := hil.out
          rw [hM] at hil2
          clear hM hbX t3 t5
          have w1 : IntKind.i64.wrap ((M : Int) + 1) = (M : Int) + 1 := by rw [IntKind.wrap_i64]; omega
          cases hb : hasE k l
          all_goals (
            rw [hb] at hil2
            simp only [Bool.false_eq_true, if_true, if_false] at hil2
            have HT := Lib.hid hil2
            clear hil2 hil
            have zs := t2
            go_wp2_with fail
            refine wp_region_held_drew (S := fun X => X.cell? ⟨s, 0, none⟩ = some (.pointer (some ⟨q1, 0, none⟩))) (by kernel_rfl) ((HbX.out.cell (p := ⟨s, 0, none⟩) zs).trans c0) (fun hHeld => ?_)
            refine take_at (i := 0) (v := ?_) rfl (by kernel_rfl) (by kernel_rfl) (by kernel_rfl) (fun _ _ _ h => h) (Or.inl ⟨by rfl, ?_⟩) (by assumption) ?_
            rotate_left
            · (intro w' hSw; (try dsimp only at hSw); go_simp <;> (with_reducible rfl))
            try simp only [Act.put, List.setIfInBounds_toArray, List.set_cons_zero, List.set_cons_succ]
            refine take_at (i := 1) (v := ?_) rfl (by kernel_rfl) (by kernel_rfl) (by kernel_rfl) (fun _ _ _ h => h) (Or.inl ⟨by rfl, ?_⟩) (by assumption) ?_
            rotate_left
            · (intro w' hSw; (try dsimp only at hSw); go_simp <;> (with_reducible rfl))
            try simp only [Act.put, List.setIfInBounds_toArray, List.set_cons_zero, List.set_cons_succ]
            refine take_at (i := 2) (v := ?_) rfl (by kernel_rfl) (by kernel_rfl) (by kernel_rfl) (fun _ _ _ h => h) (Or.inl ⟨by rfl, ?_⟩) (by assumption) ?_
            rotate_left
            · (intro w' hSw; (try dsimp only at hSw); go_simp <;> (with_reducible rfl))
            try simp only [Act.put, List.setIfInBounds_toArray, List.set_cons_zero, List.set_cons_succ]
            refine take_at (i := 3) (v := ?_) rfl (by kernel_rfl) (by kernel_rfl) (by kernel_rfl) (fun _ _ _ h => h) (Or.inl ⟨by rfl, ?_⟩) (by assumption) ?_
            rotate_left
            · (intro w' hSw; (try dsimp only at hSw); go_simp <;> (with_reducible rfl))
            try simp only [Act.put, List.setIfInBounds_toArray, List.set_cons_zero, List.set_cons_succ]
            refine take_at (i := 5) (v := ?_) rfl (by kernel_rfl) (by kernel_rfl) (by kernel_rfl) (fun _ _ _ h => h) (Or.inl ⟨by rfl, ?_⟩) (by assumption) ?_
            rotate_left
            · (intro w' hSw; (try dsimp only at hSw); go_simp <;> (with_reducible rfl))
            try simp only [Act.put, List.setIfInBounds_toArray, List.set_cons_zero, List.set_cons_succ]
            refine one_at (i := 4) rfl (by kernel_rfl) (by rfl) (fun K hK => ?_)
            go_simp
            go_at_call 25
            refine HLay.out.mono ?_
            rintro e w6 ⟨rfl, hl6, hb6⟩
            have hb56 := HbX.out.trans hb6
            obtain ⟨A6, c6, m6⟩ := list_cell hl6 HT.out
            obtain ⟨A7, c7, m7⟩ := list_cell (HL5.out.below hb56) HM.out
            refine hK.out _ _ ((hb56.cell (p := ⟨s, 0, none⟩) zs).trans c0) (fun hHeld2 => ?_)
            clear hK K
            try simp only [Act.put, List.setIfInBounds_toArray, List.set_cons_zero, List.set_cons_succ]
            have z6 := World.block_lt_of_cell? _ _ m6
            have z7 := World.block_lt_of_cell? _ _ m7
            have x6 : ∀ x : Wd (Below w6.heap.size w6), x.w.cell? ⟨w5.heap.size, 0, none⟩ = some _ := fun x => (x.h.cell (p := ⟨w5.heap.size, 0, none⟩) z6).trans m6
            have x7 : ∀ x : Wd (Below w6.heap.size w6), x.w.cell? ⟨L, 0, none⟩ = some _ := fun x => (x.h.cell (p := ⟨L, 0, none⟩) z7).trans m7
            clear m6 m7
            have : Nonempty (Wd (Below w6.heap.size w6)) := ⟨⟨w6, Below.refl _ _⟩⟩
            refine H_cls (k := 6) (T := Below w6.heap.size w6) (Below.refl _ _) (fun X hX => (hX.cell (p := ⟨s, 0, none⟩) (Nat.lt_of_lt_of_le zs hb56.size)).trans hHeld2) (by kernel_rfl) (by kernel_rfl) (by rfl) ?_
            try simp only [List.drop_succ_cons, List.drop_zero]
            repeat (go_big_quiet_step (fail))
            refine wpQuiet_nil ?_
            rintro _ ⟨x, rfl⟩
            go_wp2_with fail
            go_ret
            exact ⟨rfl, HB5.out.trans ((hb56.trans (x.h.mono hb56.size)).mono HB5.out.size)⟩)
      · match ns, ls, t4, h1 with
        | [q1, q2], [m1, m2], t4, _ =>
          obtain ⟨⟨x, x1, x2, x3⟩, ⟨y, y1, y2, y3⟩, _⟩ := t4
          have t5' : m1 ++ m2 = insE k v l := by rw [← t5]; simp
          have c0 := t3 0 (by simp)
          have c1 := t3 1 (by simp)
          simp only [List.getElem_cons_zero, List.getElem_cons_succ, List.length_cons, List.length_nil, Nat.zero_add, Nat.reduceAdd] at c0 c1 ⊢
          obtain ⟨ks, hks, hkl, _⟩ := HNd5.out.keys
          obtain ⟨Ak, ck, kc, _⟩ := hks
          rw [hkl, hn4] at kc
          rw [hhas]
          have hil2 := hil.out
          rw [hhas, if_neg (by decide), ← t5', List.length_append] at hil2
          have hia2 := hia.out
          rw [← t5'] at hia2
          unfold Asc at hia2
          obtain ⟨ha1, ha2, ha12⟩ := List.pairwise_append.1 hia2
          obtain ⟨M1, hM1⟩ : ∃ M1, m1.length = M1 := ⟨_, rfl⟩
          obtain ⟨M2, hM2⟩ : ∃ M2, m2.length = M2 := ⟨_, rfl⟩
          obtain ⟨M, hM⟩ : ∃ M, l.length = M := ⟨_, rfl⟩
          have hg1 := x3.high (by omega) (fun _ => by omega)
          have hg2 := y3.high (by omega) (fun _ => by omega)
          rw [hM1] at hg1
          rw [hM2] at hg2
          have hs : M1 + M2 = M + 1 := by omega
          have hM41 : M ≤ 40 := by omega
          have h21 : 2 ≤ M1 := nd_two x3 (by omega) hM1
          have h22 : 2 ≤ M2 := nd_two y3 (by omega) hM2
          have HM1 := Lib.hid hM1
          have HM2 := Lib.hid hM2
          have HM := Lib.hid hM
          have Hx := Lib.hid x3
          have Hy := Lib.hid y3
          have Ha1 : Hid (Asc m1) := ha1
          have Ha2 : Hid (Asc m2) := ha2
          have H12 := Lib.hid ha12
          have HTwo := Lib.hid (two_lists w5)
          have hx1 : 2 ≤ x := by omega
          have hy1 : 2 ≤ y := by omega
          clear t3 t5 hil2 hil hia2 hia hi41 ha1 ha2 ha12 hM hM1 hM2 x3 y3 hg1 hg2 t5' x1 y1 hn4 hkl
          go_wp2_with fail
          generalize (w5.alloc (.cells #[.slice none 0 0, .slice none 0 0] 34)).alloc (.cells #[.slice none 0 0, .slice none 0 0] 34) = W6 at *
          obtain ⟨L1, hL1⟩ : ∃ L1, w5.heap.size = L1 := ⟨_, rfl⟩
          have HL1 := Lib.hid hL1
          have hz5 : w5.heap.size = L1 := hL1
          have hLlt := HL5.out.lt
          rw [hL1] at HTwo t2 hLlt
          obtain ⟨hz6, hb6, hla, hlb⟩ := HTwo.out
          have hHy : Hid (Nd w5 h q2 m2 y) := Hy
          have HLay1 := Lib.hid (lay_keep Hx.out hx1 x2 (B := L1 + 2) (by omega) (by rw [hz6]; exact Nat.le_refl _) (by rw [hL1]; exact Nat.le_refl _) (by rw [hL1]; exact hb6) hla (by rw [HM1.out]; omega) Ha1.out)
          have HB6 := Lib.hid hb6
          have HZ6 := Lib.hid hz6
          have HLb := Lib.hid hlb
          have e0 := (hb6.cell (p := ⟨s, 0, none⟩) t2).trans c0
          have e1 := (hb6.cell (p := ⟨s, 1, none⟩) t2).trans c1
          clear hz6 hb6 hla hlb HTwo c0 c1 kc hL1
          rw [hz5]
          clear hz5
          go_wp2_with fail
          refine HLay1.out.mono ?_
          rintro e w7 ⟨rfl, hl7, hb7, hk7⟩
          have g0 := (hb7.cell (p := ⟨s, 0, none⟩) t2).trans e0
          have g1 := (hb7.cell (p := ⟨s, 1, none⟩) t2).trans e1
          have hsz7 : L1 + 2 ≤ w7.heap.size := by rw [← HZ6.out]; exact hb7.size
          have hlb7 := (hk7 (L1 + 1) (by omega) (by omega)).trans HLb.out
          have hb57 := HB6.out.trans hb7
          have HLay2 := Lib.hid (lay_keep Hy.out hy1 y2 (B := w7.heap.size) (L := L1 + 1) (by omega) (Nat.le_refl _) (by rw [HL1.out]; omega) (by rw [HL1.out]; exact hb57) (list_none _ hlb7 (by omega)) (by rw [HM2.out]; omega) Ha2.out)
          have HB7 := Lib.hid hb57
          have Hl7 := Lib.hid hl7
          have HSz := Lib.hid hsz7
          clear hl7 hb7 hk7 hlb7 hb57 e0 e1 HLay1 HLb hsz7
          go_wp2_with fail
          refine HLay2.out.mono ?_
          rintro e w8 ⟨rfl, hl8, hb8, hk8⟩
          have hb58 := HB7.out.trans (hb8.mono (Nat.le_succ _))
          have h1E : ListE w8 L1 m1 := by
            obtain ⟨kv, vv, hh⟩ := Hl7.out
            exact (hh.keep hk8 (Nat.le_refl _) (by omega) (by omega)).E
          have h2E : ListE w8 (L1 + 1) m2 := by
            obtain ⟨kv, vv, hh⟩ := hl8
            exact hh.E
          have hxE : ListE w8 L l := HL5.out.below (by rw [HL1.out]; exact hb58)
          obtain ⟨J, hJ⟩ : ∃ J, M1 = J + 1 := ⟨M1 - 1, by omega⟩
          have hJ1 : J < M1 := by omega
          obtain ⟨b1, o1, c1, b1', o1', c1', r0, r0', ⟨r1, r2, r3, r4⟩, r5⟩ := list_get h1E HM1.out hJ1
          obtain ⟨b2, o2, c2, b2', o2', c2', p0, p0', ⟨p1, p2, p3, p4⟩, p5⟩ := list_get h2E HM2.out (show 0 < M2 by omega)
          obtain ⟨A3, c3, n0⟩ := list_cell hxE HM.out
          have hlt : lt (m1[J]'(by rw [HM1.out]; exact hJ1)).1 (m2[0]'(by rw [HM2.out]; omega)).1 = true := H12.out _ (List.getElem_mem _) _ (List.getElem_mem _)
          clear r0' r5 p0' p5
          simp only [Nat.zero_mul, Nat.add_zero] at p1 p2 p3 p4
          generalize (m1[J]'(_)).1 = ya at *
          generalize (m2[0]'(_)).1 = yb at *
          have HBe : Hid (∀ x : Wd (Below w8.heap.size w8), Calls Try.prog 13 #[.agg #[.int .i64 ya.br, .int .i64 ya.vol, .int .i64 ya.blk, .int .u64 ya.num], .agg #[.int .i64 yb.br, .int .i64 yb.vol, .int .i64 yb.blk, .int .u64 yb.num]] x.w fun e w'' => e = .returned (.bool true) ∧ ∃ m : Wd (Below w8.heap.size w8), w'' = m.w) := fun x => Calls.clsB (by have := before_at' ya yb x.w; rw [hlt] at this; exact this) (Nat.le_refl _)
          have HBz := Lib.hid (HB5.out.trans ((show Below w5.heap.size w5 w8 by rw [HL1.out]; exact hb58).mono HB5.out.size))
          have zr0 := World.block_lt_of_cell? _ _ r0
          have zr1 := World.block_lt_of_cell? _ _ r1
          have zp0 := World.block_lt_of_cell? _ _ p0
          have zp1 := World.block_lt_of_cell? _ _ p1
          have zn0 := World.block_lt_of_cell? _ _ n0
          have d0 := cls_cell r0
          have d1 := cls_cell r1
          have d2 := cls_cell r2
          have d3 := cls_cell r3
          have d4 := cls_cell r4
          have u0 := cls_cell p0
          have u1 := cls_cell p1
          have u2 := cls_cell p2
          have u3 := cls_cell p3
          have u4 := cls_cell p4
          have v0 := cls_cell n0
          clear r0 r1 r2 r3 r4 p0 p1 p2 p3 p4 n0 g0 g1 HLay2 hl8 hk8 h1E h2E hxE
          have f1 : decide ((2 : Int) ≤ (M1 : Int)) = true := by simp <;> omega
          have f1b : decide (2 ≤ M1) = true := by simp <;> omega
          have f2 : decide ((2 : Int) ≤ (M2 : Int)) = true := by simp <;> omega
          have f2b : decide (2 ≤ M2) = true := by simp <;> omega
          have f3 : (0 : Int) ≤ (J : Int) := by omega
          have f4 : (J : Int) < (M1 : Int) := by omega
          have f5 : (0 : Int) < (M2 : Int) := by omega
          have f5b : 0 < M2 := by omega
          have f6 : IntKind.i64.wrap ((M1 : Int) - 1) = (J : Int) := by rw [IntKind.wrap_i64]; omega
          have f7 : IntKind.i64.wrap ((M1 : Int) + (M2 : Int)) = (M : Int) + 1 := by rw [IntKind.wrap_i64]; omega
          have f8 : IntKind.i64.wrap ((M : Int) + 1) = (M : Int) + 1 := by rw [IntKind.wrap_i64]; omega
          clear hs hJ
          have : Nonempty (Wd (Below w8.heap.size w8)) := ⟨⟨w8, Below.refl _ _⟩⟩
          go_wp2_with fail
          try simp only [List.append_eq, List.cons_append, List.nil_append]
          refine wp_region_cls (S := Below w8.heap.size w8) (by kernel_rfl) (by kernel_rfl) (bel_drewN _ _ (n := 1)) ?_
          repeat (go_big_quiet_step (with_reducible (exact HBe.out _)))
          refine wpQuiet_nil ?_
          rintro _ ⟨x, rfl⟩
          go_wp2_with fail
          go_ret
          exact ⟨rfl, HBz.out.trans (x.h.mono HBz.out.size)⟩
  · have hg : decide ((40 : Int) < (N : Int)) = true := by simp; omega
    go_wp2_with fail
    go_ret
    exact ⟨rfl, HB1.out⟩
end Go.Proofs.Ytjeebbolnanmkaa.N
