/- TPlays: joined by merge.py. -/
import Derived.Test.YtainljbkejafcaaTB
import Derived.Test.YtainljbkejafcaaTC
import Derived.Test.YtainljbkejafcaaTRef2
import Derived.Test.YtainljbkejafcaaTHist
import Derived.Test.YtainljbkejafcaaTPur2
import Derived.Test.YtainljbkejafcaaNCls
import Derived.Test.YtainljbkejafcaaTR28
/- The law TreePlays. -/
namespace Go.Proofs.Ytainljbkejafcaa.N
open Go.BigFrame Go.RowKit Go.Shelf Go.Proofs.YtainljbkejafcaaW.PrintMore Go.Proofs.YtainljbkejafcaaW.PrintWords
set_option linter.unusedVariables false
set_option linter.unusedSimpArgs false
def fourAtP (w : World) (b : Nat) (s : Sp) : Prop := w.cell? ⟨b, 0, none⟩ = some (.int .i64 s.br) ∧ w.cell? ⟨b, 1, none⟩ = some (.int .i64 s.vol) ∧ w.cell? ⟨b, 2, none⟩ = some (.int .i64 s.blk) ∧ w.cell? ⟨b, 3, none⟩ = some (.int .u64 s.num)
theorem four_atP {w : World} {b : Nat} {s : Sp} (h : Blk w b (spC s) 26) : fourAtP w b s := ⟨h.cell 0, h.cell 1, h.cell 2, h.cell 3⟩
def keyP (o : Option Ent) : Sp := match o with
  | some x => x.1
  | none => ⟨0, 0, 0, 0⟩
def numP (o : Option Ent) : Int := match o with
  | some x => x.2
  | none => 0
theorem entV_eqP (o : Option Ent) : entV o = .tuple #[.agg #[.int .i64 (keyP o).br, .int .i64 (keyP o).vol, .int .i64 (keyP o).blk, .int .u64 (keyP o).num], .int .u64 (numP o), .bool o.isSome] := by
  cases o <;> rfl
theorem same_self {X : World} {A B : Option Addr} {l : List Ent} {n c d : Nat} (ha : ItemsAt X A l) (hb : ItemsAt X B l) (hn : l.length = n) (hl : n ≤ 900) :
    Calls Try.prog 39 #[.slice A n c, .slice B n d] X fun e w' => e = .returned (.bool true) ∧ Below X.heap.size X w' := by
  have h := same25 (n := n) (m := n) (c := c) (d := d) ha hb hn hn (by omega)
  rwa [decide_eq_true rfl] at h
theorem store4 {Z : World} {b : Nat} {c0 c1 c2 c3 : Value} (s : Sp) (h : Blk Z b #[c0, c1, c2, c3] 26) :
    Blk ((((Z.setCell ⟨b, 0, none⟩ (.int .i64 s.br)).setCell ⟨b, 1, none⟩ (.int .i64 s.vol)).setCell ⟨b, 2, none⟩ (.int .i64 s.blk)).setCell ⟨b, 3, none⟩ (.int .u64 s.num)) b (spC s) 26 := by
  have := (((h.set (o := 0) (.int .i64 s.br)).set (o := 1) (.int .i64 s.vol)).set (o := 2) (.int .i64 s.blk)).set (o := 3) (.int .u64 s.num)
  simpa [spC] using this
theorem store4_below {B : Nat} {W Z : World} {b : Nat} (s : Sp) (h : Below B W Z) (hb : B ≤ b) :
    Below B W ((((Z.setCell ⟨b, 0, none⟩ (.int .i64 s.br)).setCell ⟨b, 1, none⟩ (.int .i64 s.vol)).setCell ⟨b, 2, none⟩ (.int .i64 s.blk)).setCell ⟨b, 3, none⟩ (.int .u64 s.num)) :=
  (((h.setCell (p := ⟨b, 0, none⟩) hb _).setCell (p := ⟨b, 1, none⟩) hb _).setCell (p := ⟨b, 2, none⟩) hb _).setCell (p := ⟨b, 3, none⟩) hb _
theorem item_at {w : World} {A : Option Addr} {l : List Ent} (h : ItemsAt w A l) {j : Nat} (hj : j < l.length) {x : Ent} (hx : l[j] = x) : ∃ b off, A = some ⟨b, off, none⟩ ∧ ItemAt w b (off + j * 5) x := by
  obtain ⟨b, off, e, _, hc⟩ := h (by omega)
  exact ⟨b, off, e, hx ▸ hc j hj⟩
/-- The first loop. -/
def GoneT (w : World) (ds : List Dd) (n : Nat) (t x v7 v8 i : Value) (X : World) : Prop := ∃ (j : Nat) (p A : Option Addr) (c : Nat) (ps : List (Option Addr)) (qs : List (Option Addr × Nat × Nat)), i = .int .i64 j ∧ j ≤ n ∧ t = .pointer p ∧ x = .slice A (playE (ds.take j)).length c ∧ TreeAt X p (playE (ds.take j)) ∧ ItemsAt X A (playE (ds.take j)) ∧ (A = none → (playE (ds.take j)).length = 0 ∧ c = 0) ∧ Hist X w.heap.size ds j v7 v8 ps qs ∧ Below w.heap.size w X
theorem play_take_len (ds : List Dd) (j : Nat) : (playE (ds.take j)).length ≤ j := by
  have := playE_len (ds.take j)
  rw [List.length_take] at this
  omega
theorem play_ok_take {ds : List Dd} (h : ∀ j (h : j < ds.length), ds[j].k.ok) (i : Nat) : AllOk (playE (ds.take i)) := playE_ok (fun j hj => by
  rw [List.getElem_take]
  exact h j _)
section
variable {X : World} {p A : Option Addr} {l : List Ent} {n c : Nat}
theorem all_n (ht : TreeAt X p l) (ha : Asc l) (hok : AllOk l) (hn : l.length = n) (hl : n ≤ 150) : ∀ Y, Below X.heap.size X Y → Calls Try.prog 47 #[.pointer p] Y fun e w' => ∃ A c, e = .returned (.slice A n c) ∧ ItemsAt w' A l ∧ Below Y.heap.size Y w' := fun Y hY => by
  subst hn
  exact all_tree (ht.below hY) ha hl hok
theorem len_n (ht : TreeAt X p l) (hn : l.length = n) : ∀ Y, Below X.heap.size X Y → Calls Try.prog 46 #[.pointer p] Y fun e w' => e = .returned (.int .i64 n) ∧ Below Y.heap.size Y w' := fun Y hY => by
  subst hn
  exact (len_tree ht Y hY).mono fun e w' h => by
    obtain ⟨h1, rfl⟩ := h
    exact ⟨h1, Below.refl _ _⟩
theorem floor_n (ht : TreeAt X p l) (ha : Asc l) (k : Sp) : ∀ Y, Below X.heap.size X Y → Calls Try.prog 48 #[.pointer p, .agg #[.int .i64 k.br, .int .i64 k.vol, .int .i64 k.blk, .int .u64 k.num]] Y fun e w' => e = .returned (.tuple #[.agg #[.int .i64 (keyP (floorE k l)).br, .int .i64 (keyP (floorE k l)).vol, .int .i64 (keyP (floorE k l)).blk, .int .u64 (keyP (floorE k l)).num], .int .u64 (numP (floorE k l)), .bool (floorE k l).isSome]) ∧ Below Y.heap.size Y w' := fun Y hY => by
  rw [← entV_eqP]
  exact floor_tree (ht.below hY) ha k
theorem ceil_n (ht : TreeAt X p l) (ha : Asc l) (k : Sp) : ∀ Y, Below X.heap.size X Y → Calls Try.prog 49 #[.pointer p, .agg #[.int .i64 k.br, .int .i64 k.vol, .int .i64 k.blk, .int .u64 k.num]] Y fun e w' => e = .returned (.tuple #[.agg #[.int .i64 (keyP (ceilE k l)).br, .int .i64 (keyP (ceilE k l)).vol, .int .i64 (keyP (ceilE k l)).blk, .int .u64 (keyP (ceilE k l)).num], .int .u64 (numP (ceilE k l)), .bool (ceilE k l).isSome]) ∧ Below Y.heap.size Y w' := fun Y hY => by
  rw [← entV_eqP]
  exact ceil_tree (ht.below hY) ha k
theorem floor25_n (ha : ItemsAt X A l) (hn : l.length = n) (hl : n ≤ 900) (hs : Asc l) (k : Sp) : ∀ Y, Below X.heap.size X Y → Calls Try.prog 50 #[.slice A n c, .agg #[.int .i64 k.br, .int .i64 k.vol, .int .i64 k.blk, .int .u64 k.num]] Y fun e w' => e = .returned (.int .i64 (floorIx k l)) ∧ Below Y.heap.size Y w' := fun Y hY => floor25 (ha.below hY) hn hl hs k
theorem ceil25_n (ha : ItemsAt X A l) (hn : l.length = n) (hl : n ≤ 900) (hs : Asc l) (k : Sp) : ∀ Y, Below X.heap.size X Y → Calls Try.prog 51 #[.slice A n c, .agg #[.int .i64 k.br, .int .i64 k.vol, .int .i64 k.blk, .int .u64 k.num]] Y fun e w' => e = .returned (.int .i64 (ceilIx k l)) ∧ Below Y.heap.size Y w' := fun Y hY => ceil25 (ha.below hY) hn hl hs k
end
set_option maxHeartbeats 12800000 in
set_option maxRecDepth 100000 in
theorem tplays_ok {w : World} {A : Option Addr} {c : Nat} {ds : List Dd} (hd : DeedsAt w A ds) (hdk : ∀ j (h : j < ds.length), ds[j].k.ok) (k : Sp) :
    Calls Try.prog 13 #[.slice A ds.length c, k.v] w fun e w' => e = .returned (.bool true) ∧ Below w.heap.size w w' := by
  unfold Sp.v
  have HD := Lib.hid hd
  have HDk := Lib.hid hdk
  obtain ⟨N, hN⟩ : ∃ N, ds.length = N := ⟨_, rfl⟩
  have HN := Lib.hid hN
  rw [hN]
  clear hd hN hdk
  go_enter Try.func13, Try.ntmps13
  go_wp2_with fail
  have hbw : Below w.heap.size w (w.alloc (.cells #[.int .i64 k.br, .int .i64 k.vol, .int .i64 k.blk, .int .u64 k.num] 26)) := (Below.refl _ _).alloc (Nat.le_refl _) _
  have hbox : Blk (w.alloc (.cells #[.int .i64 k.br, .int .i64 k.vol, .int .i64 k.blk, .int .u64 k.num] 26)) w.heap.size (spC k) 26 := Blk.new w #[.int .i64 k.br, .int .i64 k.vol, .int .i64 k.blk, .int .u64 k.num] 26
  refine (awake25 _).mono ?_
  rintro e w1 ⟨rfl, hb1⟩
  generalize w.alloc (.cells #[.int .i64 k.br, .int .i64 k.vol, .int .i64 k.blk, .int .u64 k.num] 26) = W at *
  have HB1 := Lib.hid (hbw.trans (hb1.mono hbw.size))
  have HBox1 := Lib.hid (Blk.below hbox hb1 hbox.lt)
  clear hb1 hbw hbox
  by_cases hn : N ≤ 60
  case neg =>
    have hg : decide ((60 : Int) < (N : Int)) = true := by simp; omega
    go_wp2_with fail
    go_ret
    exact ⟨rfl, HB1.out⟩
  have hg : decide ((60 : Int) < (N : Int)) = false := by simp; omega
  go_wp2_with fail
  refine (new_tree w1).mono ?_
  rintro e w2 ⟨b, rfl, ht2, hb2⟩
  have HT0 := Lib.hid ht2
  have HB2 := Lib.hid (HB1.out.trans (hb2.mono HB1.out.size))
  have HBox2 := Lib.hid (Blk.below HBox1.out hb2 HBox1.out.lt)
  have HD2 := Lib.hid (HD.out.below HB2.out)
  have HL := Lib.hid hn
  clear hb2 hg hn HD HB1 HBox1 ht2
  go_wp2_with fail
  go_loopw [5, 6, 7, 8, 9] (fun t x v7 v8 i X => GoneT w2 ds N t x v7 v8 i X) (fun _ _ _ _ i _ => (N - intOf i).toNat)
  case atStart => exact ⟨0, some ⟨b, 0, none⟩, none, 0, [], [], rfl, Nat.zero_le _, rfl, rfl, HT0.out, (fun h => by simp [playE] at h), (fun _ => ⟨rfl, rfl⟩), Hist.nil _ _ _, Below.refl _ _⟩
  case round =>
    obtain ⟨j, p, Ao, co, ps, qs, rfl, hj, rfl, rfl, ht, hit, hno, hh, hbr⟩ := hrel
    have hL60 := HL.out
    have hpl := play_take_len ds j
    obtain ⟨A7, c7, W1, A8, c8, W2, r1, r2, hh2, ht2, hit2, hb2⟩ := hh.push hbr.size (by omega) ht hit rfl
    have HBr := Lib.hid (hbr.trans hb2)
    have HHi : Hid (Hist W2 w2.heap.size ds (j + 1) (.slice A7 (j + 1) c7) (.slice A8 (j + 1) c8) (ps ++ [p]) (qs ++ [(Ao, (playE (ds.take j)).length, co)])) := hh2
    have HTr := Lib.hid ht2
    have HIt := Lib.hid hit2
    by_cases hjn : j < N
    · have hjl : j < ds.length := by rw [HN.out]; exact hjn
      have hasc := playE_asc (ds.take j)
      have hasc2 := playE_asc (ds.take (j + 1))
      have hsucc := playE_succ hjl
      obtain ⟨ga, oa, hAe, la, ca⟩ := HD2.out (by omega)
      subst hAe
      obtain ⟨s0, s1, s2, s3, s4, s5⟩ := (ca j hjl).below HBr.out la
      have hga : ga < W2.heap.size := Nat.lt_of_lt_of_le la HBr.out.size
      obtain ⟨d, hdd⟩ : ∃ d, ds[j] = d := ⟨_, rfl⟩
      rw [hdd] at s0 s1 s2 s3 s4 s5 hsucc
      have HSu := Lib.hid hsucc
      rw [hsucc] at hasc2
      obtain ⟨l, hll⟩ : ∃ l, playE (ds.take j) = l := ⟨_, rfl⟩
      rw [hll] at hpl hasc hsucc hasc2 HTr HIt r2 HHi ⊢
      rw [hll] at HSu
      have HAsc := Lib.hid hasc
      have HAsc2 := Lib.hid hasc2
      have HPl := Lib.hid hpl
      have HGt := Lib.hid (step_get hasc d)
      have e1 : (0 : Int) ≤ (j : Int) := by omega
      have e2 : (j : Int) < (N : Int) := by omega
      obtain ⟨LJ, hLJ⟩ : ∃ LJ, l.length = LJ := ⟨_, rfl⟩
      rw [hLJ] at HPl r2 HHi ⊢
      have HLJ := Lib.hid hLJ
      have HR1 := Lib.hid r1
      have HR2 := Lib.hid r2
      clear ca la hdd hll hsucc hasc hasc2 hno ht hit hLJ hpl hbr hh hh2 ht2 hit2 hb2 r1 r2
      go_upto_region 13 with (at_builtin; first | refine Lib.wpList_append_run _ rfl _ _ _ _ rfl _ _ rfl rfl _ _ HR1.out ?_ | refine Lib.wpList_append_run _ rfl _ _ _ _ rfl _ _ rfl rfl _ _ HR2.out ?_)
      clear HR1 HR2
      have HHd : Hid (∀ X, Below W2.heap.size W2 X → (fun w' => w'.cell? ⟨ga, oa + j * 6, none⟩ = some (.bool d.del) ∧ w'.cell? ⟨ga, oa + j * 6 + 1, none⟩ = some (.int .i64 d.k.br) ∧ w'.cell? ⟨ga, oa + j * 6 + 2, none⟩ = some (.int .i64 d.k.vol) ∧ w'.cell? ⟨ga, oa + j * 6 + 3, none⟩ = some (.int .i64 d.k.blk) ∧ w'.cell? ⟨ga, oa + j * 6 + 4, none⟩ = some (.int .u64 d.k.num) ∧ w'.cell? ⟨ga, oa + j * 6 + 5, none⟩ = some (.int .u64 d.v)) X) := fun X hX => ⟨bel_cell hX hga s0, bel_cell hX hga s1, bel_cell hX hga s2, bel_cell hX hga s3, bel_cell hX hga s4, bel_cell hX hga s5⟩
      cases hdel : d.del with
      | true =>
        as_aux_lemma =>
          rw [hdel] at s0 HHd HGt
          have hst : stepE l d = delE d.k l := by unfold stepE; rw [if_pos hdel]
          have HT1 : Hid (∀ X, Below W2.heap.size W2 X → Calls Try.prog 41 #[.pointer p, .agg #[.int .i64 d.k.br, .int .i64 d.k.vol, .int .i64 d.k.blk, .int .u64 d.k.num]] X fun e w' => ∃ p', e = .returned (.pointer p') ∧ TreeAt w' p' (stepE l d) ∧ Below X.heap.size X w') := fun X hX => (del_tree (HTr.out.below hX) HAsc.out (by rw [HLJ.out]; have := HPl.out; omega) d.k).mono fun e w' hp => by
            obtain ⟨p', a, b, c, _⟩ := hp
            rw [hst]
            exact ⟨p', a, b, c⟩
          have HX1 : Hid (∀ X, Below W2.heap.size W2 X → Calls Try.prog 42 #[.slice Ao LJ co, .agg #[.int .i64 d.k.br, .int .i64 d.k.vol, .int .i64 d.k.blk, .int .u64 d.k.num]] X (ItemsPost X (stepE l d))) := fun X hX => by
            rw [hst]
            exact del25 (HIt.out.below hX) HLJ.out (by have := HPl.out; omega) HAsc.out d.k
          clear hst hdel
          go_upto_region 14 with fail
          have held := HHd.out
          refine wp_region_held_drew (S := (fun w' => w'.cell? ⟨ga, oa + j * 6, none⟩ = some (.bool true) ∧ w'.cell? ⟨ga, oa + j * 6 + 1, none⟩ = some (.int .i64 d.k.br) ∧ w'.cell? ⟨ga, oa + j * 6 + 2, none⟩ = some (.int .i64 d.k.vol) ∧ w'.cell? ⟨ga, oa + j * 6 + 3, none⟩ = some (.int .i64 d.k.blk) ∧ w'.cell? ⟨ga, oa + j * 6 + 4, none⟩ = some (.int .u64 d.k.num) ∧ w'.cell? ⟨ga, oa + j * 6 + 5, none⟩ = some (.int .u64 d.v))) (by kernel_rfl) (held _ (bel_drewN _ _ (n := 1))) (fun hHeld => ?_)
          obtain ⟨Y0, hwd⟩ : ∃ Wn, Wn = World.drew W2 := ⟨_, rfl⟩
          rw [← hwd] at hHeld ⊢
          have hbY0 : Below W2.heap.size W2 Y0 := by rw [hwd]; exact bel_drewN _ _ (n := 1)
          clear hwd 
          refine take_at (i := 0) (v := ?_) rfl (by kernel_rfl) (by kernel_rfl) (by kernel_rfl) (fun _ _ _ h => h) (Or.inl ⟨by rfl, ?_⟩) (by assumption) ?_
          rotate_left
          · (intro w' hSw; (try dsimp only at hSw); go_simp <;> (with_reducible rfl))
          try simp only [Act.put, List.setIfInBounds_toArray, List.set_cons_zero, List.set_cons_succ]
          refine take_at (i := 1) (v := ?_) rfl (by kernel_rfl) (by kernel_rfl) (by kernel_rfl) (fun _ _ _ h => h) (Or.inl ⟨by rfl, ?_⟩) (by assumption) ?_
          rotate_left
          · (intro w' hSw; (try dsimp only at hSw); go_simp <;> (with_reducible rfl))
          try simp only [Act.put, List.setIfInBounds_toArray, List.set_cons_zero, List.set_cons_succ]
          refine take_at (i := 2) (v := ?_) rfl (by kernel_rfl) (by kernel_rfl) (by kernel_rfl) (fun _ _ _ h => h) (Or.inl ⟨by rfl, ?_⟩) (by assumption) ?_
          rotate_left
          · (intro w' hSw; (try dsimp only at hSw); go_simp <;> (with_reducible rfl))
          try simp only [Act.put, List.setIfInBounds_toArray, List.set_cons_zero, List.set_cons_succ]
          refine take_at (i := 3) (v := ?_) rfl (by kernel_rfl) (by kernel_rfl) (by kernel_rfl) (fun _ _ _ h => h) (Or.inl ⟨by rfl, ?_⟩) (by assumption) ?_
          rotate_left
          · (intro w' hSw; (try dsimp only at hSw); go_simp <;> (with_reducible rfl))
          try simp only [Act.put, List.setIfInBounds_toArray, List.set_cons_zero, List.set_cons_succ]
          refine take_at (i := 4) (v := ?_) rfl (by kernel_rfl) (by kernel_rfl) (by kernel_rfl) (fun _ _ _ h => h) (Or.inl ⟨by rfl, ?_⟩) (by assumption) ?_
          rotate_left
          · (intro w' hSw; (try dsimp only at hSw); go_simp <;> (with_reducible rfl))
          try simp only [Act.put, List.setIfInBounds_toArray, List.set_cons_zero, List.set_cons_succ]
          refine take_at (i := 5) (v := ?_) rfl (by kernel_rfl) (by kernel_rfl) (by kernel_rfl) (fun _ _ _ h => h) (Or.inl ⟨by rfl, ?_⟩) (by assumption) ?_
          rotate_left
          · (intro w' hSw; (try dsimp only at hSw); go_simp <;> (with_reducible rfl))
          try simp only [Act.put, List.setIfInBounds_toArray, List.set_cons_zero, List.set_cons_succ]
          refine take_at (i := 7) (v := ?_) rfl (by kernel_rfl) (by kernel_rfl) (by kernel_rfl) (fun _ _ _ h => h) (Or.inl ⟨by rfl, ?_⟩) (by assumption) ?_
          rotate_left
          · (intro w' hSw; (try dsimp only at hSw); go_simp <;> (with_reducible rfl))
          try simp only [Act.put, List.setIfInBounds_toArray, List.set_cons_zero, List.set_cons_succ]
          refine take_at (i := 8) (v := ?_) rfl (by kernel_rfl) (by kernel_rfl) (by kernel_rfl) (fun _ _ _ h => h) (Or.inl ⟨by rfl, ?_⟩) (by assumption) ?_
          rotate_left
          · (intro w' hSw; (try dsimp only at hSw); go_simp <;> (with_reducible rfl))
          try simp only [Act.put, List.setIfInBounds_toArray, List.set_cons_zero, List.set_cons_succ]
          refine take_at (i := 9) (v := ?_) rfl (by kernel_rfl) (by kernel_rfl) (by kernel_rfl) (fun _ _ _ h => h) (Or.inl ⟨by rfl, ?_⟩) (by assumption) ?_
          rotate_left
          · (intro w' hSw; (try dsimp only at hSw); go_simp <;> (with_reducible rfl))
          try simp only [Act.put, List.setIfInBounds_toArray, List.set_cons_zero, List.set_cons_succ]
          refine take_at (i := 10) (v := ?_) rfl (by kernel_rfl) (by kernel_rfl) (by kernel_rfl) (fun _ _ _ h => h) (Or.inl ⟨by rfl, ?_⟩) (by assumption) ?_
          rotate_left
          · (intro w' hSw; (try dsimp only at hSw); go_simp <;> (with_reducible rfl))
          try simp only [Act.put, List.setIfInBounds_toArray, List.set_cons_zero, List.set_cons_succ]
          refine take_at (i := 11) (v := ?_) rfl (by kernel_rfl) (by kernel_rfl) (by kernel_rfl) (fun _ _ _ h => h) (Or.inl ⟨by rfl, ?_⟩) (by assumption) ?_
          rotate_left
          · (intro w' hSw; (try dsimp only at hSw); go_simp <;> (with_reducible rfl))
          try simp only [Act.put, List.setIfInBounds_toArray, List.set_cons_zero, List.set_cons_succ]
          refine take_at (i := 12) (v := ?_) rfl (by kernel_rfl) (by kernel_rfl) (by kernel_rfl) (fun _ _ _ h => h) (Or.inl ⟨by rfl, ?_⟩) (by assumption) ?_
          rotate_left
          · (intro w' hSw; (try dsimp only at hSw); go_simp <;> (with_reducible rfl))
          try simp only [Act.put, List.setIfInBounds_toArray, List.set_cons_zero, List.set_cons_succ]
          refine one_at (i := 6) rfl (by kernel_rfl) (by rfl) (fun K hK => ?_)
          go_simp
          refine (HT1.out Y0 hbY0).mono ?_
          rintro e Y1 ⟨p', rfl, ht1, hb1⟩
          have hbY1 := hbY0.trans (hb1.mono hbY0.size)
          go_simp
          refine hK.out _ _ (held _ hbY1) (fun hHeld1 => ?_)
          clear hK K
          try simp only [Act.put, List.setIfInBounds_toArray, List.set_cons_zero, List.set_cons_succ]
          refine one_at (i := 13) rfl (by kernel_rfl) (by rfl) (fun K hK => ?_)
          go_simp
          refine (HX1.out Y1 hbY1).mono ?_
          rintro e Y2 ⟨A2, c2, rfl, hi2, hn2, hb2⟩
          have hbY2 := hbY1.trans (hb2.mono hbY1.size)
          go_simp
          refine hK.out _ _ (held _ hbY2) (fun hHeld2 => ?_)
          clear hK K
          try simp only [Act.put, List.setIfInBounds_toArray, List.set_cons_zero, List.set_cons_succ]
          refine take_at (i := 14) (v := ?_) rfl (by kernel_rfl) (by kernel_rfl) (by kernel_rfl) (fun _ _ _ h => h) (Or.inl ⟨by rfl, ?_⟩) (by assumption) ?_
          rotate_left
          · (intro w' hSw; (try dsimp only at hSw); go_simp <;> (with_reducible rfl))
          try simp only [Act.put, List.setIfInBounds_toArray, List.set_cons_zero, List.set_cons_succ]
          refine take_at (i := 15) (v := ?_) rfl (by kernel_rfl) (by kernel_rfl) (by kernel_rfl) (fun _ _ _ h => h) (Or.inl ⟨by rfl, ?_⟩) (by assumption) ?_
          rotate_left
          · (intro w' hSw; (try dsimp only at hSw); go_simp <;> (with_reducible rfl))
          try simp only [Act.put, List.setIfInBounds_toArray, List.set_cons_zero, List.set_cons_succ]
          refine wpAnyH_done (by kernel_rfl) ?_ _
          try simp only [Act.put, List.setIfInBounds_toArray, List.set_cons_zero, List.set_cons_succ]
          have HTn := Lib.hid (ht1.below hb2)
          have HIn := Lib.hid hi2
          have HNn := Lib.hid hn2
          have HBn := Lib.hid hbY2
          have HHn := Lib.hid (HHi.out.below hbY2)
          have HG : Hid (∃ V : Int, Calls Try.prog 45 #[.pointer p', .agg #[.int .i64 d.k.br, .int .i64 d.k.vol, .int .i64 d.k.blk, .int .u64 d.k.num]] Y2 fun e w' => e = .returned (.tuple #[.int .u64 V, .bool false]) ∧ Below Y2.heap.size Y2 w') := by
            have h := get_tree HTn.out HAsc2.out d.k
            rw [HGt.out.1] at h
            exact ⟨_, h⟩
          have HLn := Lib.hid (len_tree HTn.out)
          obtain ⟨LS, hLS⟩ : ∃ LS, (stepE l d).length = LS := ⟨_, rfl⟩
          have HLS := Lib.hid hLS
          rw [hLS] at HLn ⊢
          obtain ⟨t0, t1, t2, t3, t4, t5⟩ := HHd.out Y2 hbY2
          clear hLS s0 s1 s2 s3 s4 s5 ht1 hi2 hn2 hb1 hb2 hbY0 hbY1 held hHeld hHeld1 hHeld2 HT1 HX1
          obtain ⟨Vd, HGe⟩ := HG.out
          have HGf := Lib.hid HGe
          clear HGe HG
          go_wp2_with fail
          refine HGf.out.mono ?_
          rintro e Y3 ⟨rfl, hb3⟩
          obtain ⟨s0, s1, s2, s3, s4, s5⟩ := HHd.out Y3 (hbY2.trans (hb3.mono hbY2.size))
          have HB3 := Lib.hid hb3
          have HLm := Lib.hid (HLn.out Y3 hb3)
          have HB03 := Lib.hid ((HBr.out.trans (hbY2.mono HBr.out.size)).trans (hb3.mono (Nat.le_trans HBr.out.size hbY2.size)))
          clear t0 t1 t2 t3 t4 t5 hb3 hbY2 HGf HLn
          have hq : (Vd != Vd) = false := by simp
          have hqq : ((LS : Int) != (LS : Int)) = false := by simp
          go_wp2_with fail
          refine HLm.out.mono ?_
          rintro e Y4 ⟨rfl, rfl⟩
          go_wp2_with fail
          go_roundw
          case rel => exact ⟨j + 1, p', A2, c2, _, _, by simp, hjn, rfl, by rw [HSu.out, HLS.out], by rw [HSu.out]; exact HTn.out.below HB3.out, by rw [HSu.out]; exact HIn.out.below HB3.out, by rw [HSu.out]; exact HNn.out, HHn.out.below HB3.out, HB03.out⟩
          case measure => (simp [intOf] <;> omega)
      | false =>
        as_aux_lemma =>
          rw [hdel] at s0 HHd HGt
          have hst : stepE l d = insE d.k d.v l := by unfold stepE; rw [if_neg (by rw [hdel]; decide)]
          have HT1 : Hid (∀ X, Below W2.heap.size W2 X → Calls Try.prog 43 #[.pointer p, .agg #[.int .i64 d.k.br, .int .i64 d.k.vol, .int .i64 d.k.blk, .int .u64 d.k.num], .int .u64 d.v] X fun e w' => ∃ p', e = .returned (.pointer p') ∧ TreeAt w' p' (stepE l d) ∧ Below X.heap.size X w') := fun X hX => by
            rw [hst]
            exact put_tree (HTr.out.below hX) HAsc.out (by rw [HLJ.out]; have := HPl.out; omega) d.k d.v
          have HX1 : Hid (∀ X, Below W2.heap.size W2 X → Calls Try.prog 44 #[.slice Ao LJ co, .agg #[.int .i64 d.k.br, .int .i64 d.k.vol, .int .i64 d.k.blk, .int .u64 d.k.num], .int .u64 d.v] X (ItemsPost X (stepE l d))) := fun X hX => by
            rw [hst]
            exact put25 (HIt.out.below hX) HLJ.out (by have := HPl.out; omega) HAsc.out d.k d.v
          clear hst hdel
          go_upto_region 15 with fail
          have held := HHd.out
          refine wp_region_held_drew (S := (fun w' => w'.cell? ⟨ga, oa + j * 6, none⟩ = some (.bool false) ∧ w'.cell? ⟨ga, oa + j * 6 + 1, none⟩ = some (.int .i64 d.k.br) ∧ w'.cell? ⟨ga, oa + j * 6 + 2, none⟩ = some (.int .i64 d.k.vol) ∧ w'.cell? ⟨ga, oa + j * 6 + 3, none⟩ = some (.int .i64 d.k.blk) ∧ w'.cell? ⟨ga, oa + j * 6 + 4, none⟩ = some (.int .u64 d.k.num) ∧ w'.cell? ⟨ga, oa + j * 6 + 5, none⟩ = some (.int .u64 d.v))) (by kernel_rfl) (held _ (bel_drewN _ _ (n := 1))) (fun hHeld => ?_)
          obtain ⟨Y0, hwd⟩ : ∃ Wn, Wn = World.drew W2 := ⟨_, rfl⟩
          rw [← hwd] at hHeld ⊢
          have hbY0 : Below W2.heap.size W2 Y0 := by rw [hwd]; exact bel_drewN _ _ (n := 1)
          clear hwd 
          refine take_at (i := 0) (v := ?_) rfl (by kernel_rfl) (by kernel_rfl) (by kernel_rfl) (fun _ _ _ h => h) (Or.inl ⟨by rfl, ?_⟩) (by assumption) ?_
          rotate_left
          · (intro w' hSw; (try dsimp only at hSw); go_simp <;> (with_reducible rfl))
          try simp only [Act.put, List.setIfInBounds_toArray, List.set_cons_zero, List.set_cons_succ]
          refine take_at (i := 1) (v := ?_) rfl (by kernel_rfl) (by kernel_rfl) (by kernel_rfl) (fun _ _ _ h => h) (Or.inl ⟨by rfl, ?_⟩) (by assumption) ?_
          rotate_left
          · (intro w' hSw; (try dsimp only at hSw); go_simp <;> (with_reducible rfl))
          try simp only [Act.put, List.setIfInBounds_toArray, List.set_cons_zero, List.set_cons_succ]
          refine take_at (i := 2) (v := ?_) rfl (by kernel_rfl) (by kernel_rfl) (by kernel_rfl) (fun _ _ _ h => h) (Or.inl ⟨by rfl, ?_⟩) (by assumption) ?_
          rotate_left
          · (intro w' hSw; (try dsimp only at hSw); go_simp <;> (with_reducible rfl))
          try simp only [Act.put, List.setIfInBounds_toArray, List.set_cons_zero, List.set_cons_succ]
          refine take_at (i := 3) (v := ?_) rfl (by kernel_rfl) (by kernel_rfl) (by kernel_rfl) (fun _ _ _ h => h) (Or.inl ⟨by rfl, ?_⟩) (by assumption) ?_
          rotate_left
          · (intro w' hSw; (try dsimp only at hSw); go_simp <;> (with_reducible rfl))
          try simp only [Act.put, List.setIfInBounds_toArray, List.set_cons_zero, List.set_cons_succ]
          refine take_at (i := 4) (v := ?_) rfl (by kernel_rfl) (by kernel_rfl) (by kernel_rfl) (fun _ _ _ h => h) (Or.inl ⟨by rfl, ?_⟩) (by assumption) ?_
          rotate_left
          · (intro w' hSw; (try dsimp only at hSw); go_simp <;> (with_reducible rfl))
          try simp only [Act.put, List.setIfInBounds_toArray, List.set_cons_zero, List.set_cons_succ]
          refine take_at (i := 5) (v := ?_) rfl (by kernel_rfl) (by kernel_rfl) (by kernel_rfl) (fun _ _ _ h => h) (Or.inl ⟨by rfl, ?_⟩) (by assumption) ?_
          rotate_left
          · (intro w' hSw; (try dsimp only at hSw); go_simp <;> (with_reducible rfl))
          try simp only [Act.put, List.setIfInBounds_toArray, List.set_cons_zero, List.set_cons_succ]
          refine take_at (i := 6) (v := ?_) rfl (by kernel_rfl) (by kernel_rfl) (by kernel_rfl) (fun _ _ _ h => h) (Or.inl ⟨by rfl, ?_⟩) (by assumption) ?_
          rotate_left
          · (intro w' hSw; (try dsimp only at hSw); go_simp <;> (with_reducible rfl))
          try simp only [Act.put, List.setIfInBounds_toArray, List.set_cons_zero, List.set_cons_succ]
          refine take_at (i := 7) (v := ?_) rfl (by kernel_rfl) (by kernel_rfl) (by kernel_rfl) (fun _ _ _ h => h) (Or.inl ⟨by rfl, ?_⟩) (by assumption) ?_
          rotate_left
          · (intro w' hSw; (try dsimp only at hSw); go_simp <;> (with_reducible rfl))
          try simp only [Act.put, List.setIfInBounds_toArray, List.set_cons_zero, List.set_cons_succ]
          refine take_at (i := 8) (v := ?_) rfl (by kernel_rfl) (by kernel_rfl) (by kernel_rfl) (fun _ _ _ h => h) (Or.inl ⟨by rfl, ?_⟩) (by assumption) ?_
          rotate_left
          · (intro w' hSw; (try dsimp only at hSw); go_simp <;> (with_reducible rfl))
          try simp only [Act.put, List.setIfInBounds_toArray, List.set_cons_zero, List.set_cons_succ]
          refine take_at (i := 9) (v := ?_) rfl (by kernel_rfl) (by kernel_rfl) (by kernel_rfl) (fun _ _ _ h => h) (Or.inl ⟨by rfl, ?_⟩) (by assumption) ?_
          rotate_left
          · (intro w' hSw; (try dsimp only at hSw); go_simp <;> (with_reducible rfl))
          try simp only [Act.put, List.setIfInBounds_toArray, List.set_cons_zero, List.set_cons_succ]
          refine take_at (i := 10) (v := ?_) rfl (by kernel_rfl) (by kernel_rfl) (by kernel_rfl) (fun _ _ _ h => h) (Or.inl ⟨by rfl, ?_⟩) (by assumption) ?_
          rotate_left
          · (intro w' hSw; (try dsimp only at hSw); go_simp <;> (with_reducible rfl))
          try simp only [Act.put, List.setIfInBounds_toArray, List.set_cons_zero, List.set_cons_succ]
          refine take_at (i := 12) (v := ?_) rfl (by kernel_rfl) (by kernel_rfl) (by kernel_rfl) (fun _ _ _ h => h) (Or.inl ⟨by rfl, ?_⟩) (by assumption) ?_
          rotate_left
          · (intro w' hSw; (try dsimp only at hSw); go_simp <;> (with_reducible rfl))
          try simp only [Act.put, List.setIfInBounds_toArray, List.set_cons_zero, List.set_cons_succ]
          refine take_at (i := 13) (v := ?_) rfl (by kernel_rfl) (by kernel_rfl) (by kernel_rfl) (fun _ _ _ h => h) (Or.inl ⟨by rfl, ?_⟩) (by assumption) ?_
          rotate_left
          · (intro w' hSw; (try dsimp only at hSw); go_simp <;> (with_reducible rfl))
          try simp only [Act.put, List.setIfInBounds_toArray, List.set_cons_zero, List.set_cons_succ]
          refine take_at (i := 14) (v := ?_) rfl (by kernel_rfl) (by kernel_rfl) (by kernel_rfl) (fun _ _ _ h => h) (Or.inl ⟨by rfl, ?_⟩) (by assumption) ?_
          rotate_left
          · (intro w' hSw; (try dsimp only at hSw); go_simp <;> (with_reducible rfl))
          try simp only [Act.put, List.setIfInBounds_toArray, List.set_cons_zero, List.set_cons_succ]
          refine take_at (i := 15) (v := ?_) rfl (by kernel_rfl) (by kernel_rfl) (by kernel_rfl) (fun _ _ _ h => h) (Or.inl ⟨by rfl, ?_⟩) (by assumption) ?_
          rotate_left
          · (intro w' hSw; (try dsimp only at hSw); go_simp <;> (with_reducible rfl))
          try simp only [Act.put, List.setIfInBounds_toArray, List.set_cons_zero, List.set_cons_succ]
          refine take_at (i := 16) (v := ?_) rfl (by kernel_rfl) (by kernel_rfl) (by kernel_rfl) (fun _ _ _ h => h) (Or.inl ⟨by rfl, ?_⟩) (by assumption) ?_
          rotate_left
          · (intro w' hSw; (try dsimp only at hSw); go_simp <;> (with_reducible rfl))
          try simp only [Act.put, List.setIfInBounds_toArray, List.set_cons_zero, List.set_cons_succ]
          refine take_at (i := 17) (v := ?_) rfl (by kernel_rfl) (by kernel_rfl) (by kernel_rfl) (fun _ _ _ h => h) (Or.inl ⟨by rfl, ?_⟩) (by assumption) ?_
          rotate_left
          · (intro w' hSw; (try dsimp only at hSw); go_simp <;> (with_reducible rfl))
          try simp only [Act.put, List.setIfInBounds_toArray, List.set_cons_zero, List.set_cons_succ]
          refine take_at (i := 18) (v := ?_) rfl (by kernel_rfl) (by kernel_rfl) (by kernel_rfl) (fun _ _ _ h => h) (Or.inl ⟨by rfl, ?_⟩) (by assumption) ?_
          rotate_left
          · (intro w' hSw; (try dsimp only at hSw); go_simp <;> (with_reducible rfl))
          try simp only [Act.put, List.setIfInBounds_toArray, List.set_cons_zero, List.set_cons_succ]
          refine take_at (i := 19) (v := ?_) rfl (by kernel_rfl) (by kernel_rfl) (by kernel_rfl) (fun _ _ _ h => h) (Or.inl ⟨by rfl, ?_⟩) (by assumption) ?_
          rotate_left
          · (intro w' hSw; (try dsimp only at hSw); go_simp <;> (with_reducible rfl))
          try simp only [Act.put, List.setIfInBounds_toArray, List.set_cons_zero, List.set_cons_succ]
          refine take_at (i := 20) (v := ?_) rfl (by kernel_rfl) (by kernel_rfl) (by kernel_rfl) (fun _ _ _ h => h) (Or.inl ⟨by rfl, ?_⟩) (by assumption) ?_
          rotate_left
          · (intro w' hSw; (try dsimp only at hSw); go_simp <;> (with_reducible rfl))
          try simp only [Act.put, List.setIfInBounds_toArray, List.set_cons_zero, List.set_cons_succ]
          refine take_at (i := 21) (v := ?_) rfl (by kernel_rfl) (by kernel_rfl) (by kernel_rfl) (fun _ _ _ h => h) (Or.inl ⟨by rfl, ?_⟩) (by assumption) ?_
          rotate_left
          · (intro w' hSw; (try dsimp only at hSw); go_simp <;> (with_reducible rfl))
          try simp only [Act.put, List.setIfInBounds_toArray, List.set_cons_zero, List.set_cons_succ]
          refine take_at (i := 22) (v := ?_) rfl (by kernel_rfl) (by kernel_rfl) (by kernel_rfl) (fun _ _ _ h => h) (Or.inl ⟨by rfl, ?_⟩) (by assumption) ?_
          rotate_left
          · (intro w' hSw; (try dsimp only at hSw); go_simp <;> (with_reducible rfl))
          try simp only [Act.put, List.setIfInBounds_toArray, List.set_cons_zero, List.set_cons_succ]
          refine one_at (i := 11) rfl (by kernel_rfl) (by rfl) (fun K hK => ?_)
          go_simp
          refine (HT1.out Y0 hbY0).mono ?_
          rintro e Y1 ⟨p', rfl, ht1, hb1⟩
          have hbY1 := hbY0.trans (hb1.mono hbY0.size)
          go_simp
          refine hK.out _ _ (held _ hbY1) (fun hHeld1 => ?_)
          clear hK K
          try simp only [Act.put, List.setIfInBounds_toArray, List.set_cons_zero, List.set_cons_succ]
          refine one_at (i := 23) rfl (by kernel_rfl) (by rfl) (fun K hK => ?_)
          go_simp
          refine (HX1.out Y1 hbY1).mono ?_
          rintro e Y2 ⟨A2, c2, rfl, hi2, hn2, hb2⟩
          have hbY2 := hbY1.trans (hb2.mono hbY1.size)
          go_simp
          refine hK.out _ _ (held _ hbY2) (fun hHeld2 => ?_)
          clear hK K
          try simp only [Act.put, List.setIfInBounds_toArray, List.set_cons_zero, List.set_cons_succ]
          refine take_at (i := 24) (v := ?_) rfl (by kernel_rfl) (by kernel_rfl) (by kernel_rfl) (fun _ _ _ h => h) (Or.inl ⟨by rfl, ?_⟩) (by assumption) ?_
          rotate_left
          · (intro w' hSw; (try dsimp only at hSw); go_simp <;> (with_reducible rfl))
          try simp only [Act.put, List.setIfInBounds_toArray, List.set_cons_zero, List.set_cons_succ]
          refine take_at (i := 25) (v := ?_) rfl (by kernel_rfl) (by kernel_rfl) (by kernel_rfl) (fun _ _ _ h => h) (Or.inl ⟨by rfl, ?_⟩) (by assumption) ?_
          rotate_left
          · (intro w' hSw; (try dsimp only at hSw); go_simp <;> (with_reducible rfl))
          try simp only [Act.put, List.setIfInBounds_toArray, List.set_cons_zero, List.set_cons_succ]
          refine wpAnyH_done (by kernel_rfl) ?_ _
          try simp only [Act.put, List.setIfInBounds_toArray, List.set_cons_zero, List.set_cons_succ]
          have HTn := Lib.hid (ht1.below hb2)
          have HIn := Lib.hid hi2
          have HNn := Lib.hid hn2
          have HBn := Lib.hid hbY2
          have HHn := Lib.hid (HHi.out.below hbY2)
          have HG : Hid (∃ V : Int, V = d.v ∧ Calls Try.prog 45 #[.pointer p', .agg #[.int .i64 d.k.br, .int .i64 d.k.vol, .int .i64 d.k.blk, .int .u64 d.k.num]] Y2 fun e w' => e = .returned (.tuple #[.int .u64 V, .bool true]) ∧ Below Y2.heap.size Y2 w') := by
            have h := get_tree HTn.out HAsc2.out d.k
            rw [HGt.out.1] at h
            exact ⟨_, HGt.out.2 rfl, h⟩
          have HLn := Lib.hid (len_tree HTn.out)
          obtain ⟨LS, hLS⟩ : ∃ LS, (stepE l d).length = LS := ⟨_, rfl⟩
          have HLS := Lib.hid hLS
          rw [hLS] at HLn ⊢
          obtain ⟨t0, t1, t2, t3, t4, t5⟩ := HHd.out Y2 hbY2
          clear hLS s0 s1 s2 s3 s4 s5 ht1 hi2 hn2 hb1 hb2 hbY0 hbY1 held hHeld hHeld1 hHeld2 HT1 HX1
          obtain ⟨Vd, hV, HGe⟩ := HG.out
          subst hV
          have HGf := Lib.hid HGe
          clear HGe HG
          go_wp2_with fail
          refine HGf.out.mono ?_
          rintro e Y3 ⟨rfl, hb3⟩
          obtain ⟨s0, s1, s2, s3, s4, s5⟩ := HHd.out Y3 (hbY2.trans (hb3.mono hbY2.size))
          have HB3 := Lib.hid hb3
          have HLm := Lib.hid (HLn.out Y3 hb3)
          have HB03 := Lib.hid ((HBr.out.trans (hbY2.mono HBr.out.size)).trans (hb3.mono (Nat.le_trans HBr.out.size hbY2.size)))
          clear t0 t1 t2 t3 t4 t5 hb3 hbY2 HGf HLn
          have hq : (d.v != d.v) = false := by simp
          have hqq : ((LS : Int) != (LS : Int)) = false := by simp
          go_wp2_with fail
          refine HLm.out.mono ?_
          rintro e Y4 ⟨rfl, rfl⟩
          go_wp2_with fail
          go_roundw
          case rel => exact ⟨j + 1, p', A2, c2, _, _, by simp, hjn, rfl, by rw [HSu.out, HLS.out], by rw [HSu.out]; exact HTn.out.below HB3.out, by rw [HSu.out]; exact HIn.out.below HB3.out, by rw [HSu.out]; exact HNn.out, HHn.out.below HB3.out, HB03.out⟩
          case measure => (simp [intOf] <;> omega)
    · obtain rfl : j = N := by omega
      have HR1 := Lib.hid r1
      have HR2 := Lib.hid r2
      have HBoxW := Lib.hid (Blk.below HBox2.out (HBr.out) HBox2.out.lt)
      obtain ⟨M, hM⟩ : ∃ M, j + 1 = M := ⟨_, rfl⟩
      rw [hM] at HR1 HR2 HHi
      have HM : Hid (M ≤ 61) := by have : M ≤ 61 := by omega
                                   exact this
      clear hno ht hit hpl hbr hh hh2 ht2 hit2 hb2 r1 r2 hL60 HTr HIt HT0 HD2 HBox2
      go_upto_block 2 with (at_builtin; first | refine Lib.wpList_append_run _ rfl _ _ _ _ rfl _ _ rfl rfl _ _ HR1.out ?_ | refine Lib.wpList_append_run _ rfl _ _ _ _ rfl _ _ rfl rfl _ _ HR2.out ?_)
      clear HR1 HR2
      go_wp2_with fail
      go_loopw [12] (fun i X => ∃ i2 : Nat, i = .int .i64 i2 ∧ i2 ≤ M ∧ Below W2.heap.size W2 X) (fun i _ => (M - intOf i).toNat)
      case atStart => exact ⟨0, rfl, Nat.zero_le _, Below.refl _ _⟩
      case round =>
        obtain ⟨i2, rfl, hi2, hbx⟩ := hrel
        have HHr := HHi.out.below hbx
        have HBx := Lib.hid hbx
        by_cases him : i2 < M
        ·
          as_aux_lemma =>
            obtain ⟨q, Bq, n, cq, g7, c7', g8, c8', e7, e8, p7, p8, tq, iq, lq⟩ := HHr.get him
            injection e7 with e7a _ e7b
            injection e8 with e8a _ e8b
            subst e7a e7b e8a e8b
            have hasc := playE_asc (ds.take i2)
            have hok := play_ok_take HDk.out i2
            have hpl := play_take_len ds i2
            obtain ⟨l, hll⟩ : ∃ l, playE (ds.take i2) = l := ⟨_, rfl⟩
            rw [hll] at tq iq lq hasc hok hpl
            have hM61 := HM.out
            have hn61 : n ≤ 61 := by omega
            have HTq := Lib.hid tq
            have HIq := Lib.hid iq
            have HLq := Lib.hid lq
            have HAsc := Lib.hid hasc
            have HOk := Lib.hid hok
            have HN61 := Lib.hid hn61
            have HBxk := Lib.hid (Blk.below HBoxW.out hbx HBoxW.out.lt)
            have z7 := World.block_lt_of_cell? _ _ p7
            have z8 := World.block_lt_of_cell? _ _ p8
            have e1 : (0 : Int) ≤ (i2 : Int) := by omega
            have e2 : (i2 : Int) < (M : Int) := by omega
            have HAl := Lib.hid (all_n HTq.out HAsc.out HOk.out HLq.out (by omega))
            have HLe := Lib.hid (len_n HTq.out HLq.out)
            obtain ⟨k0, k1, k2, k3⟩ := four_atP HBxk.out
            have zk := HBxk.out.lt
            have HHd : Hid (∀ X, Below wr.heap.size wr X → (fun w' => w'.cell? ⟨g7, i2, none⟩ = some (.pointer q) ∧ w'.cell? ⟨g8, i2, none⟩ = some (.slice Bq n cq) ∧ w'.cell? ⟨w.heap.size, 0, none⟩ = some (.int .i64 k.br) ∧ w'.cell? ⟨w.heap.size, 1, none⟩ = some (.int .i64 k.vol) ∧ w'.cell? ⟨w.heap.size, 2, none⟩ = some (.int .i64 k.blk) ∧ w'.cell? ⟨w.heap.size, 3, none⟩ = some (.int .u64 k.num)) X) := fun X hX => ⟨bel_cell hX z7 p7, bel_cell hX z8 p8, bel_cell hX zk k0, bel_cell hX zk k1, bel_cell hX zk k2, bel_cell hX zk k3⟩
            clear hll tq iq lq hasc hok hpl hbx HHr z7 z8 zk k0 k1 k2 k3 p7 p8 hM61
            go_upto_region 23 with fail
            have held := HHd.out
            refine wp_region_held_drew (S := (fun w' => w'.cell? ⟨g7, i2, none⟩ = some (.pointer q) ∧ w'.cell? ⟨g8, i2, none⟩ = some (.slice Bq n cq) ∧ w'.cell? ⟨w.heap.size, 0, none⟩ = some (.int .i64 k.br) ∧ w'.cell? ⟨w.heap.size, 1, none⟩ = some (.int .i64 k.vol) ∧ w'.cell? ⟨w.heap.size, 2, none⟩ = some (.int .i64 k.blk) ∧ w'.cell? ⟨w.heap.size, 3, none⟩ = some (.int .u64 k.num))) (by kernel_rfl) (held _ (bel_drewN _ _ (n := 1))) (fun hHeld => ?_)
            obtain ⟨Y0, hwd⟩ : ∃ Wn, Wn = World.drew wr := ⟨_, rfl⟩
            rw [← hwd] at hHeld ⊢
            have hbY0 : Below wr.heap.size wr Y0 := by rw [hwd]; exact bel_drewN _ _ (n := 1)
            clear hwd 
            refine take_at (i := 0) (v := ?_) rfl (by kernel_rfl) (by kernel_rfl) (by kernel_rfl) (fun _ _ _ h => h) (Or.inl ⟨by rfl, ?_⟩) (by assumption) ?_
            rotate_left
            · (intro w' hSw; (try dsimp only at hSw); go_simp <;> (with_reducible rfl))
            try simp only [Act.put, List.setIfInBounds_toArray, List.set_cons_zero, List.set_cons_succ]
            refine take_at (i := 1) (v := ?_) rfl (by kernel_rfl) (by kernel_rfl) (by kernel_rfl) (fun _ _ _ h => h) (Or.inl ⟨by rfl, ?_⟩) (by assumption) ?_
            rotate_left
            · (intro w' hSw; (try dsimp only at hSw); go_simp <;> (with_reducible rfl))
            try simp only [Act.put, List.setIfInBounds_toArray, List.set_cons_zero, List.set_cons_succ]
            refine take_at (i := 2) (v := ?_) rfl (by kernel_rfl) (by kernel_rfl) (by kernel_rfl) (fun _ _ _ h => h) (Or.inl ⟨by rfl, ?_⟩) (by assumption) ?_
            rotate_left
            · (intro w' hSw; (try dsimp only at hSw); go_simp <;> (with_reducible rfl))
            try simp only [Act.put, List.setIfInBounds_toArray, List.set_cons_zero, List.set_cons_succ]
            refine take_at (i := 3) (v := ?_) rfl (by kernel_rfl) (by kernel_rfl) (by kernel_rfl) (fun _ _ _ h => h) (Or.inl ⟨by rfl, ?_⟩) (by assumption) ?_
            rotate_left
            · (intro w' hSw; (try dsimp only at hSw); go_simp <;> (with_reducible rfl))
            try simp only [Act.put, List.setIfInBounds_toArray, List.set_cons_zero, List.set_cons_succ]
            refine take_at (i := 5) (v := ?_) rfl (by kernel_rfl) (by kernel_rfl) (by kernel_rfl) (fun _ _ _ h => h) (Or.inl ⟨by rfl, ?_⟩) (by assumption) ?_
            rotate_left
            · (intro w' hSw; (try dsimp only at hSw); go_simp <;> (with_reducible rfl))
            try simp only [Act.put, List.setIfInBounds_toArray, List.set_cons_zero, List.set_cons_succ]
            refine take_at (i := 6) (v := ?_) rfl (by kernel_rfl) (by kernel_rfl) (by kernel_rfl) (fun _ _ _ h => h) (Or.inl ⟨by rfl, ?_⟩) (by assumption) ?_
            rotate_left
            · (intro w' hSw; (try dsimp only at hSw); go_simp <;> (with_reducible rfl))
            try simp only [Act.put, List.setIfInBounds_toArray, List.set_cons_zero, List.set_cons_succ]
            refine take_at (i := 7) (v := ?_) rfl (by kernel_rfl) (by kernel_rfl) (by kernel_rfl) (fun _ _ _ h => h) (Or.inl ⟨by rfl, ?_⟩) (by assumption) ?_
            rotate_left
            · (intro w' hSw; (try dsimp only at hSw); go_simp <;> (with_reducible rfl))
            try simp only [Act.put, List.setIfInBounds_toArray, List.set_cons_zero, List.set_cons_succ]
            refine take_at (i := 8) (v := ?_) rfl (by kernel_rfl) (by kernel_rfl) (by kernel_rfl) (fun _ _ _ h => h) (Or.inl ⟨by rfl, ?_⟩) (by assumption) ?_
            rotate_left
            · (intro w' hSw; (try dsimp only at hSw); go_simp <;> (with_reducible rfl))
            try simp only [Act.put, List.setIfInBounds_toArray, List.set_cons_zero, List.set_cons_succ]
            refine one_at (i := 4) rfl (by kernel_rfl) (by rfl) (fun K hK => ?_)
            go_simp
            refine (HAl.out Y0 hbY0).mono ?_
            rintro e Y1 ⟨A5, c5, rfl, hi5, hb1⟩
            have hbY1 := hbY0.trans (hb1.mono hbY0.size)
            go_simp
            refine hK.out _ _ (held _ hbY1) (fun hHeld1 => ?_)
            clear hK K
            try simp only [Act.put, List.setIfInBounds_toArray, List.set_cons_zero, List.set_cons_succ]
            refine one_at (i := 9) rfl (by kernel_rfl) (by rfl) (fun K hK => ?_)
            go_simp
            refine ((fun (X : World) (hX : Below wr.heap.size wr X) => same_self (c := c5) (d := cq) hi5 (HIq.out.below hbY1) HLq.out (by omega)) Y1 hbY1).mono ?_
            rintro e Y2 ⟨rfl, hb2⟩
            have hbY2 := hbY1.trans (hb2.mono hbY1.size)
            go_simp
            refine hK.out _ _ (held _ hbY2) (fun hHeld2 => ?_)
            clear hK K
            try simp only [Act.put, List.setIfInBounds_toArray, List.set_cons_zero, List.set_cons_succ]
            refine take_at (i := 10) (v := ?_) rfl (by kernel_rfl) (by kernel_rfl) (by kernel_rfl) (fun _ _ _ h => h) (Or.inl ⟨by rfl, ?_⟩) (by assumption) ?_
            rotate_left
            · (intro w' hSw; (try dsimp only at hSw); go_simp <;> (with_reducible rfl))
            try simp only [Act.put, List.setIfInBounds_toArray, List.set_cons_zero, List.set_cons_succ]
            refine take_at (i := 11) (v := ?_) rfl (by kernel_rfl) (by kernel_rfl) (by kernel_rfl) (fun _ _ _ h => h) (Or.inl ⟨by rfl, ?_⟩) (by assumption) ?_
            rotate_left
            · (intro w' hSw; (try dsimp only at hSw); go_simp <;> (with_reducible rfl))
            try simp only [Act.put, List.setIfInBounds_toArray, List.set_cons_zero, List.set_cons_succ]
            refine take_at (i := 12) (v := ?_) rfl (by kernel_rfl) (by kernel_rfl) (by kernel_rfl) (fun _ _ _ h => h) (Or.inl ⟨by rfl, ?_⟩) (by assumption) ?_
            rotate_left
            · (intro w' hSw; (try dsimp only at hSw); go_simp <;> (with_reducible rfl))
            try simp only [Act.put, List.setIfInBounds_toArray, List.set_cons_zero, List.set_cons_succ]
            refine take_at (i := 13) (v := ?_) rfl (by kernel_rfl) (by kernel_rfl) (by kernel_rfl) (fun _ _ _ h => h) (Or.inl ⟨by rfl, ?_⟩) (by assumption) ?_
            rotate_left
            · (intro w' hSw; (try dsimp only at hSw); go_simp <;> (with_reducible rfl))
            try simp only [Act.put, List.setIfInBounds_toArray, List.set_cons_zero, List.set_cons_succ]
            refine take_at (i := 14) (v := ?_) rfl (by kernel_rfl) (by kernel_rfl) (by kernel_rfl) (fun _ _ _ h => h) (Or.inl ⟨by rfl, ?_⟩) (by assumption) ?_
            rotate_left
            · (intro w' hSw; (try dsimp only at hSw); go_simp <;> (with_reducible rfl))
            try simp only [Act.put, List.setIfInBounds_toArray, List.set_cons_zero, List.set_cons_succ]
            refine take_at (i := 15) (v := ?_) rfl (by kernel_rfl) (by kernel_rfl) (by kernel_rfl) (fun _ _ _ h => h) (Or.inl ⟨by rfl, ?_⟩) (by assumption) ?_
            rotate_left
            · (intro w' hSw; (try dsimp only at hSw); go_simp <;> (with_reducible rfl))
            try simp only [Act.put, List.setIfInBounds_toArray, List.set_cons_zero, List.set_cons_succ]
            refine take_at (i := 17) (v := ?_) rfl (by kernel_rfl) (by kernel_rfl) (by kernel_rfl) (fun _ _ _ h => h) (Or.inl ⟨by rfl, ?_⟩) (by assumption) ?_
            rotate_left
            · (intro w' hSw; (try dsimp only at hSw); go_simp <;> (with_reducible rfl))
            try simp only [Act.put, List.setIfInBounds_toArray, List.set_cons_zero, List.set_cons_succ]
            refine take_at (i := 18) (v := ?_) rfl (by kernel_rfl) (by kernel_rfl) (by kernel_rfl) (fun _ _ _ h => h) (Or.inl ⟨by rfl, ?_⟩) (by assumption) ?_
            rotate_left
            · (intro w' hSw; (try dsimp only at hSw); go_simp <;> (with_reducible rfl))
            try simp only [Act.put, List.setIfInBounds_toArray, List.set_cons_zero, List.set_cons_succ]
            refine take_at (i := 19) (v := ?_) rfl (by kernel_rfl) (by kernel_rfl) (by kernel_rfl) (fun _ _ _ h => h) (Or.inl ⟨by rfl, ?_⟩) (by assumption) ?_
            rotate_left
            · (intro w' hSw; (try dsimp only at hSw); go_simp <;> (with_reducible rfl))
            try simp only [Act.put, List.setIfInBounds_toArray, List.set_cons_zero, List.set_cons_succ]
            refine take_at (i := 20) (v := ?_) rfl (by kernel_rfl) (by kernel_rfl) (by kernel_rfl) (fun _ _ _ h => h) (Or.inl ⟨by rfl, ?_⟩) (by assumption) ?_
            rotate_left
            · (intro w' hSw; (try dsimp only at hSw); go_simp <;> (with_reducible rfl))
            try simp only [Act.put, List.setIfInBounds_toArray, List.set_cons_zero, List.set_cons_succ]
            refine take_at (i := 21) (v := ?_) rfl (by kernel_rfl) (by kernel_rfl) (by kernel_rfl) (fun _ _ _ h => h) (Or.inl ⟨by rfl, ?_⟩) (by assumption) ?_
            rotate_left
            · (intro w' hSw; (try dsimp only at hSw); go_simp <;> (with_reducible rfl))
            try simp only [Act.put, List.setIfInBounds_toArray, List.set_cons_zero, List.set_cons_succ]
            refine one_at (i := 16) rfl (by kernel_rfl) (by rfl) (fun K hK => ?_)
            go_simp
            refine (HLe.out Y2 hbY2).mono ?_
            rintro e Y3 ⟨rfl, hb3⟩
            have hbY3 := hbY2.trans (hb3.mono hbY2.size)
            go_simp
            refine hK.out _ _ (held _ hbY3) (fun hHeld3 => ?_)
            clear hK K
            try simp only [Act.put, List.setIfInBounds_toArray, List.set_cons_zero, List.set_cons_succ]
            refine take_at (i := 22) (v := ?_) rfl (by kernel_rfl) (by kernel_rfl) (by kernel_rfl) (fun _ _ _ h => h) (Or.inl ⟨by rfl, ?_⟩) (by assumption) ?_
            rotate_left
            · (intro w' hSw; (try dsimp only at hSw); go_simp <;> (with_reducible rfl))
            try simp only [Act.put, List.setIfInBounds_toArray, List.set_cons_zero, List.set_cons_succ]
            refine take_at (i := 23) (v := ?_) rfl (by kernel_rfl) (by kernel_rfl) (by kernel_rfl) (fun _ _ _ h => h) (Or.inl ⟨by rfl, ?_⟩) (by assumption) ?_
            rotate_left
            · (intro w' hSw; (try dsimp only at hSw); go_simp <;> (with_reducible rfl))
            try simp only [Act.put, List.setIfInBounds_toArray, List.set_cons_zero, List.set_cons_succ]
            refine wpAnyH_done (by kernel_rfl) ?_ _
            try simp only [Act.put, List.setIfInBounds_toArray, List.set_cons_zero, List.set_cons_succ]
            have hnn : ((n : Int) != (n : Int)) = false := by simp
            clear held hHeld hHeld1 hHeld2 hHeld3 hb1 hb2 hb3 hbY0 hbY1 hbY2 hi5 HAl HLe
            go_upto_region 25 with fail
            have HF := Lib.hid (floor_n HTq.out HAsc.out k)
            have HC := Lib.hid (ceil_n HTq.out HAsc.out k)
            obtain ⟨of, hof⟩ : ∃ of, floorE k l = of := ⟨_, rfl⟩
            obtain ⟨oc, hoc⟩ : ∃ oc, ceilE k l = oc := ⟨_, rfl⟩
            rw [hof] at HF
            rw [hoc] at HC
            have HFx := Lib.hid (floor_ix (k := k) HAsc.out)
            have HCx := Lib.hid (ceil_ix (k := k) HAsc.out)
            rw [hof] at HFx
            rw [hoc] at HCx
            have HF25 := Lib.hid (floor25_n HIq.out HLq.out (by omega) HAsc.out k (c := cq))
            have HC25 := Lib.hid (ceil25_n HIq.out HLq.out (by omega) HAsc.out k (c := cq))
            clear hof hoc
            have HY3 := Lib.hid hbY3
            clear hbY3
            go_cut [13, 14, 15] (fun a b q' X => ∃ pb, a = .pointer (some ⟨pb, 0, none⟩) ∧ b = .int .u64 (numP of) ∧ q' = .bool of.isSome ∧ Blk X pb (spC (keyP of)) 26 ∧ Below Y3.heap.size Y3 X)
            case first =>
              as_aux_lemma =>
                refine E_start 13 (fun w' => w'.cell? ⟨g7, i2, none⟩ = some (.pointer q) ∧ w'.cell? ⟨g8, i2, none⟩ = some (.slice Bq n cq) ∧ w'.cell? ⟨w.heap.size, 0, none⟩ = some (.int .i64 k.br) ∧ w'.cell? ⟨w.heap.size, 1, none⟩ = some (.int .i64 k.vol) ∧ w'.cell? ⟨w.heap.size, 2, none⟩ = some (.int .i64 k.blk) ∧ w'.cell? ⟨w.heap.size, 3, none⟩ = some (.int .u64 k.num)) (by kernel_rfl) ?_
                have hd0 : Below Y3.heap.size Y3 Y3.drew := bel_drewN _ _ (n := 1)
                generalize World.drew Y3 = Z0 at *
                refine E_take (i := 0) (v := ?_) [0] rfl (by kernel_rfl) (by kernel_rfl) (by kernel_rfl) (by kernel_rfl) (by kernel_rfl) rfl (fun _ _ _ h => h) (Or.inl ⟨by rfl, ?_⟩) (HHd.out _ (HY3.out.trans (hd0.mono HY3.out.size))) ?_
                rotate_left
                · (intro w' hSw; (try dsimp only at hSw); go_simp <;> (with_reducible rfl))
                try simp only [Act.put, List.setIfInBounds_toArray, List.set_cons_zero, List.set_cons_succ]
                refine E_take (i := 1) (v := ?_) [1] rfl (by kernel_rfl) (by kernel_rfl) (by kernel_rfl) (by kernel_rfl) (by kernel_rfl) rfl (fun _ _ _ h => h) (Or.inl ⟨by rfl, ?_⟩) (HHd.out _ (HY3.out.trans (hd0.mono HY3.out.size))) ?_
                rotate_left
                · (intro w' hSw; (try dsimp only at hSw); go_simp <;> (with_reducible rfl))
                try simp only [Act.put, List.setIfInBounds_toArray, List.set_cons_zero, List.set_cons_succ]
                refine E_take (i := 2) (v := ?_) [2] rfl (by kernel_rfl) (by kernel_rfl) (by kernel_rfl) (by kernel_rfl) (by kernel_rfl) rfl (fun _ _ _ h => h) (Or.inl ⟨by rfl, ?_⟩) (HHd.out _ (HY3.out.trans (hd0.mono HY3.out.size))) ?_
                rotate_left
                · (intro w' hSw; (try dsimp only at hSw); go_simp <;> (with_reducible rfl))
                try simp only [Act.put, List.setIfInBounds_toArray, List.set_cons_zero, List.set_cons_succ]
                refine E_take (i := 3) (v := ?_) [3] rfl (by kernel_rfl) (by kernel_rfl) (by kernel_rfl) (by kernel_rfl) (by kernel_rfl) rfl (fun _ _ _ h => h) (Or.inl ⟨by rfl, ?_⟩) (HHd.out _ (HY3.out.trans (hd0.mono HY3.out.size))) ?_
                rotate_left
                · (intro w' hSw; (try dsimp only at hSw); go_simp <;> (with_reducible rfl))
                try simp only [Act.put, List.setIfInBounds_toArray, List.set_cons_zero, List.set_cons_succ]
                refine E_take (i := 4) (v := ?_) [4] rfl (by kernel_rfl) (by kernel_rfl) (by kernel_rfl) (by kernel_rfl) (by kernel_rfl) rfl (fun _ _ _ h => h) (Or.inl ⟨by rfl, ?_⟩) (HHd.out _ (HY3.out.trans (hd0.mono HY3.out.size))) ?_
                rotate_left
                · (intro w' hSw; (try dsimp only at hSw); go_simp <;> (with_reducible rfl))
                try simp only [Act.put, List.setIfInBounds_toArray, List.set_cons_zero, List.set_cons_succ]
                refine E_two (i := 5) (j := 10) rfl rfl (by kernel_rfl) (by rfl) (by rfl) (fun K hK => ?_) (fun K hK => ?_)
                · go_simp
                  refine (HF.out Z0 (HY3.out.trans (hd0.mono HY3.out.size))).mono ?_
                  rintro e Z1 ⟨rfl, hc1⟩
                  have hZ1 := hd0.trans (hc1.mono hd0.size)
                  clear hc1 hd0
                  go_simp
                  refine hK.out _ _ (fun _ => HHd.out _ (HY3.out.trans (hZ1.mono HY3.out.size))) ?_
                  clear hK K
                  try simp only [Act.put, List.setIfInBounds_toArray, List.set_cons_zero, List.set_cons_succ]
                  refine E_take (i := 6) (v := ?_) [6] rfl (by kernel_rfl) (by kernel_rfl) (by kernel_rfl) (by kernel_rfl) (by kernel_rfl) rfl (fun _ _ _ h => h) (Or.inl ⟨by rfl, ?_⟩) (HHd.out _ (HY3.out.trans (hZ1.mono HY3.out.size))) ?_
                  rotate_left
                  · (intro w' hSw; (try dsimp only at hSw); go_simp <;> (with_reducible rfl))
                  try simp only [Act.put, List.setIfInBounds_toArray, List.set_cons_zero, List.set_cons_succ]
                  refine E_take (i := 7) (v := ?_) [7] rfl (by kernel_rfl) (by kernel_rfl) (by kernel_rfl) (by kernel_rfl) (by kernel_rfl) rfl (fun _ _ _ h => h) (Or.inl ⟨by rfl, ?_⟩) (HHd.out _ (HY3.out.trans (hZ1.mono HY3.out.size))) ?_
                  rotate_left
                  · (intro w' hSw; (try dsimp only at hSw); go_simp <;> (with_reducible rfl))
                  try simp only [Act.put, List.setIfInBounds_toArray, List.set_cons_zero, List.set_cons_succ]
                  refine E_take (i := 8) (v := ?_) [8] rfl (by kernel_rfl) (by kernel_rfl) (by kernel_rfl) (by kernel_rfl) (by kernel_rfl) rfl (fun _ _ _ h => h) (Or.inl ⟨by rfl, ?_⟩) (HHd.out _ (HY3.out.trans (hZ1.mono HY3.out.size))) ?_
                  rotate_left
                  · (intro w' hSw; (try dsimp only at hSw); go_simp <;> (with_reducible rfl))
                  try simp only [Act.put, List.setIfInBounds_toArray, List.set_cons_zero, List.set_cons_succ]
                  refine E_take (i := 9) (v := ?_) [9] rfl (by kernel_rfl) (by kernel_rfl) (by kernel_rfl) (by kernel_rfl) (by kernel_rfl) rfl (fun _ _ _ h => h) (Or.inl ⟨by rfl, ?_⟩) (HHd.out _ (HY3.out.trans (hZ1.mono HY3.out.size))) ?_
                  rotate_left
                  · (intro w' hSw; (try dsimp only at hSw); go_simp <;> (with_reducible rfl))
                  try simp only [Act.put, List.setIfInBounds_toArray, List.set_cons_zero, List.set_cons_succ]
                  refine E_one (i := 10) rfl (by kernel_rfl) (by rfl) (fun K hK => ?_)
                  go_simp
                  have hZ2 := hZ1.alloc hZ1.size (.cells #[.int .i64 0, .int .i64 0, .int .i64 0, .int .u64 0] 26)
                  have bl2 := Blk.new Z1 #[.int .i64 0, .int .i64 0, .int .i64 0, .int .u64 0] 26
                  have hge2 := hZ1.size
                  clear hZ1
                  generalize World.alloc Z1 (.cells #[.int .i64 0, .int .i64 0, .int .i64 0, .int .u64 0] 26) = Z2 at *
                  generalize Z1.heap.size = pb2 at *
                  refine hK.out _ _ (fun _ => HHd.out _ (HY3.out.trans (hZ2.mono HY3.out.size))) ?_
                  clear hK K
                  try simp only [Act.put, List.setIfInBounds_toArray, List.set_cons_zero, List.set_cons_succ]
                  refine E_one (i := 11) rfl (by kernel_rfl) (by rfl) (fun K hK => ?_)
                  have y0 := bl2.cell 0
                  have y1 := bl2.cell 1
                  have y2 := bl2.cell 2
                  have y3 := bl2.cell 3
                  have f0 := bl2.frozen 0
                  have f1 := bl2.frozen 1
                  have f2 := bl2.frozen 2
                  have f3 := bl2.frozen 3
                  have bs3 := store4 (keyP of) bl2
                  have hZ3 := store4_below (keyP of) hZ2 hge2
                  go_simp
                  clear hZ2 bl2 y0 y1 y2 y3 f0 f1 f2 f3
                  generalize ((((Z2.setCell ⟨pb2, 0, none⟩ (.int .i64 (keyP of).br)).setCell ⟨pb2, 1, none⟩ (.int .i64 (keyP of).vol)).setCell ⟨pb2, 2, none⟩ (.int .i64 (keyP of).blk)).setCell ⟨pb2, 3, none⟩ (.int .u64 (keyP of).num)) = Z3 at *
                  refine hK.out _ _ (fun _ => HHd.out _ (HY3.out.trans (hZ3.mono HY3.out.size))) ?_
                  clear hK K
                  try simp only [Act.put, List.setIfInBounds_toArray, List.set_cons_zero, List.set_cons_succ]
                  refine E_take (i := 12) (v := ?_) [12] rfl (by kernel_rfl) (by kernel_rfl) (by kernel_rfl) (by kernel_rfl) (by kernel_rfl) rfl (fun _ _ _ h => h) (Or.inl ⟨by rfl, ?_⟩) (HHd.out _ (HY3.out.trans (hZ3.mono HY3.out.size))) ?_
                  rotate_left
                  · (intro w' hSw; (try dsimp only at hSw); go_simp <;> (with_reducible rfl))
                  try simp only [Act.put, List.setIfInBounds_toArray, List.set_cons_zero, List.set_cons_succ]
                  refine E_one (i := 13) rfl (by kernel_rfl) (by rfl) (fun K hK => ?_)
                  go_simp
                  refine hK.out _ _ (fun h => absurd rfl h) ?_
                  clear hK K
                  try simp only [Act.put, List.setIfInBounds_toArray, List.set_cons_zero, List.set_cons_succ]
                  refine E_done (by kernel_rfl) ?_ _
                  go_wp2_with fail
                  go_meet
                  exact ⟨pb2, rfl, rfl, rfl, bs3, hZ3⟩
                · go_simp
                  have hZ5 := hd0.alloc hd0.size (.cells #[.int .i64 0, .int .i64 0, .int .i64 0, .int .u64 0] 26)
                  have bl5 := Blk.new Z0 #[.int .i64 0, .int .i64 0, .int .i64 0, .int .u64 0] 26
                  have hge5 := hd0.size
                  clear hd0
                  generalize World.alloc Z0 (.cells #[.int .i64 0, .int .i64 0, .int .i64 0, .int .u64 0] 26) = Z5 at *
                  generalize Z0.heap.size = pb5 at *
                  refine hK.out _ _ (fun _ => HHd.out _ (HY3.out.trans (hZ5.mono HY3.out.size))) ?_
                  clear hK K
                  try simp only [Act.put, List.setIfInBounds_toArray, List.set_cons_zero, List.set_cons_succ]
                  refine E_one (i := 5) rfl (by kernel_rfl) (by rfl) (fun K hK => ?_)
                  go_simp
                  refine (HF.out Z5 (HY3.out.trans (hZ5.mono HY3.out.size))).mono ?_
                  rintro e Z6 ⟨rfl, hc6⟩
                  have hZ6 := hZ5.trans (hc6.mono hZ5.size)
                  have bl6 := Blk.below bl5 hc6 bl5.lt
                  clear bl5
                  clear hc6 hZ5
                  go_simp
                  refine hK.out _ _ (fun _ => HHd.out _ (HY3.out.trans (hZ6.mono HY3.out.size))) ?_
                  clear hK K
                  try simp only [Act.put, List.setIfInBounds_toArray, List.set_cons_zero, List.set_cons_succ]
                  refine E_take (i := 6) (v := ?_) [6] rfl (by kernel_rfl) (by kernel_rfl) (by kernel_rfl) (by kernel_rfl) (by kernel_rfl) rfl (fun _ _ _ h => h) (Or.inl ⟨by rfl, ?_⟩) (HHd.out _ (HY3.out.trans (hZ6.mono HY3.out.size))) ?_
                  rotate_left
                  · (intro w' hSw; (try dsimp only at hSw); go_simp <;> (with_reducible rfl))
                  try simp only [Act.put, List.setIfInBounds_toArray, List.set_cons_zero, List.set_cons_succ]
                  refine E_take (i := 7) (v := ?_) [7] rfl (by kernel_rfl) (by kernel_rfl) (by kernel_rfl) (by kernel_rfl) (by kernel_rfl) rfl (fun _ _ _ h => h) (Or.inl ⟨by rfl, ?_⟩) (HHd.out _ (HY3.out.trans (hZ6.mono HY3.out.size))) ?_
                  rotate_left
                  · (intro w' hSw; (try dsimp only at hSw); go_simp <;> (with_reducible rfl))
                  try simp only [Act.put, List.setIfInBounds_toArray, List.set_cons_zero, List.set_cons_succ]
                  refine E_take (i := 8) (v := ?_) [8] rfl (by kernel_rfl) (by kernel_rfl) (by kernel_rfl) (by kernel_rfl) (by kernel_rfl) rfl (fun _ _ _ h => h) (Or.inl ⟨by rfl, ?_⟩) (HHd.out _ (HY3.out.trans (hZ6.mono HY3.out.size))) ?_
                  rotate_left
                  · (intro w' hSw; (try dsimp only at hSw); go_simp <;> (with_reducible rfl))
                  try simp only [Act.put, List.setIfInBounds_toArray, List.set_cons_zero, List.set_cons_succ]
                  refine E_take (i := 9) (v := ?_) [9] rfl (by kernel_rfl) (by kernel_rfl) (by kernel_rfl) (by kernel_rfl) (by kernel_rfl) rfl (fun _ _ _ h => h) (Or.inl ⟨by rfl, ?_⟩) (HHd.out _ (HY3.out.trans (hZ6.mono HY3.out.size))) ?_
                  rotate_left
                  · (intro w' hSw; (try dsimp only at hSw); go_simp <;> (with_reducible rfl))
                  try simp only [Act.put, List.setIfInBounds_toArray, List.set_cons_zero, List.set_cons_succ]
                  refine E_one (i := 11) rfl (by kernel_rfl) (by rfl) (fun K hK => ?_)
                  have y0 := bl6.cell 0
                  have y1 := bl6.cell 1
                  have y2 := bl6.cell 2
                  have y3 := bl6.cell 3
                  have f0 := bl6.frozen 0
                  have f1 := bl6.frozen 1
                  have f2 := bl6.frozen 2
                  have f3 := bl6.frozen 3
                  have bs7 := store4 (keyP of) bl6
                  have hZ7 := store4_below (keyP of) hZ6 hge5
                  go_simp
                  clear hZ6 bl6 y0 y1 y2 y3 f0 f1 f2 f3
                  generalize ((((Z6.setCell ⟨pb5, 0, none⟩ (.int .i64 (keyP of).br)).setCell ⟨pb5, 1, none⟩ (.int .i64 (keyP of).vol)).setCell ⟨pb5, 2, none⟩ (.int .i64 (keyP of).blk)).setCell ⟨pb5, 3, none⟩ (.int .u64 (keyP of).num)) = Z7 at *
                  refine hK.out _ _ (fun _ => HHd.out _ (HY3.out.trans (hZ7.mono HY3.out.size))) ?_
                  clear hK K
                  try simp only [Act.put, List.setIfInBounds_toArray, List.set_cons_zero, List.set_cons_succ]
                  refine E_take (i := 12) (v := ?_) [12] rfl (by kernel_rfl) (by kernel_rfl) (by kernel_rfl) (by kernel_rfl) (by kernel_rfl) rfl (fun _ _ _ h => h) (Or.inl ⟨by rfl, ?_⟩) (HHd.out _ (HY3.out.trans (hZ7.mono HY3.out.size))) ?_
                  rotate_left
                  · (intro w' hSw; (try dsimp only at hSw); go_simp <;> (with_reducible rfl))
                  try simp only [Act.put, List.setIfInBounds_toArray, List.set_cons_zero, List.set_cons_succ]
                  refine E_one (i := 13) rfl (by kernel_rfl) (by rfl) (fun K hK => ?_)
                  go_simp
                  refine hK.out _ _ (fun h => absurd rfl h) ?_
                  clear hK K
                  try simp only [Act.put, List.setIfInBounds_toArray, List.set_cons_zero, List.set_cons_succ]
                  refine E_done (by kernel_rfl) ?_ _
                  go_wp2_with fail
                  go_meet
                  exact ⟨pb5, rfl, rfl, rfl, bs7, hZ7⟩
            obtain ⟨pb, rfl, rfl, rfl, hpb, hbX⟩ := hcut
            have HV1 := Lib.hid (HY3.out.trans (hbX.mono HY3.out.size))
            have HP1 := Lib.hid hpb
            generalize wc = V1 at *
            clear hpb hbX HY3 HF
            go_upto_region 26 with fail
            go_cut [16, 17, 18] (fun a b q' X => ∃ qb, a = .pointer (some ⟨qb, 0, none⟩) ∧ b = .int .u64 (numP oc) ∧ q' = .bool oc.isSome ∧ Blk X qb (spC (keyP oc)) 26 ∧ Below V1.heap.size V1 X)
            case first =>
              as_aux_lemma =>
                refine E_start 13 (fun w' => w'.cell? ⟨g7, i2, none⟩ = some (.pointer q) ∧ w'.cell? ⟨g8, i2, none⟩ = some (.slice Bq n cq) ∧ w'.cell? ⟨w.heap.size, 0, none⟩ = some (.int .i64 k.br) ∧ w'.cell? ⟨w.heap.size, 1, none⟩ = some (.int .i64 k.vol) ∧ w'.cell? ⟨w.heap.size, 2, none⟩ = some (.int .i64 k.blk) ∧ w'.cell? ⟨w.heap.size, 3, none⟩ = some (.int .u64 k.num)) (by kernel_rfl) ?_
                have hd0 : Below V1.heap.size V1 V1.drew := bel_drewN _ _ (n := 1)
                generalize World.drew V1 = Z0 at *
                refine E_take (i := 0) (v := ?_) [0] rfl (by kernel_rfl) (by kernel_rfl) (by kernel_rfl) (by kernel_rfl) (by kernel_rfl) rfl (fun _ _ _ h => h) (Or.inl ⟨by rfl, ?_⟩) (HHd.out _ (HV1.out.trans (hd0.mono HV1.out.size))) ?_
                rotate_left
                · (intro w' hSw; (try dsimp only at hSw); go_simp <;> (with_reducible rfl))
                try simp only [Act.put, List.setIfInBounds_toArray, List.set_cons_zero, List.set_cons_succ]
                refine E_take (i := 1) (v := ?_) [1] rfl (by kernel_rfl) (by kernel_rfl) (by kernel_rfl) (by kernel_rfl) (by kernel_rfl) rfl (fun _ _ _ h => h) (Or.inl ⟨by rfl, ?_⟩) (HHd.out _ (HV1.out.trans (hd0.mono HV1.out.size))) ?_
                rotate_left
                · (intro w' hSw; (try dsimp only at hSw); go_simp <;> (with_reducible rfl))
                try simp only [Act.put, List.setIfInBounds_toArray, List.set_cons_zero, List.set_cons_succ]
                refine E_take (i := 2) (v := ?_) [2] rfl (by kernel_rfl) (by kernel_rfl) (by kernel_rfl) (by kernel_rfl) (by kernel_rfl) rfl (fun _ _ _ h => h) (Or.inl ⟨by rfl, ?_⟩) (HHd.out _ (HV1.out.trans (hd0.mono HV1.out.size))) ?_
                rotate_left
                · (intro w' hSw; (try dsimp only at hSw); go_simp <;> (with_reducible rfl))
                try simp only [Act.put, List.setIfInBounds_toArray, List.set_cons_zero, List.set_cons_succ]
                refine E_take (i := 3) (v := ?_) [3] rfl (by kernel_rfl) (by kernel_rfl) (by kernel_rfl) (by kernel_rfl) (by kernel_rfl) rfl (fun _ _ _ h => h) (Or.inl ⟨by rfl, ?_⟩) (HHd.out _ (HV1.out.trans (hd0.mono HV1.out.size))) ?_
                rotate_left
                · (intro w' hSw; (try dsimp only at hSw); go_simp <;> (with_reducible rfl))
                try simp only [Act.put, List.setIfInBounds_toArray, List.set_cons_zero, List.set_cons_succ]
                refine E_take (i := 4) (v := ?_) [4] rfl (by kernel_rfl) (by kernel_rfl) (by kernel_rfl) (by kernel_rfl) (by kernel_rfl) rfl (fun _ _ _ h => h) (Or.inl ⟨by rfl, ?_⟩) (HHd.out _ (HV1.out.trans (hd0.mono HV1.out.size))) ?_
                rotate_left
                · (intro w' hSw; (try dsimp only at hSw); go_simp <;> (with_reducible rfl))
                try simp only [Act.put, List.setIfInBounds_toArray, List.set_cons_zero, List.set_cons_succ]
                refine E_two (i := 5) (j := 10) rfl rfl (by kernel_rfl) (by rfl) (by rfl) (fun K hK => ?_) (fun K hK => ?_)
                · go_simp
                  refine (HC.out Z0 (HV1.out.trans (hd0.mono HV1.out.size))).mono ?_
                  rintro e Z9 ⟨rfl, hc9⟩
                  have hZ9 := hd0.trans (hc9.mono hd0.size)
                  clear hc9 hd0
                  go_simp
                  refine hK.out _ _ (fun _ => HHd.out _ (HV1.out.trans (hZ9.mono HV1.out.size))) ?_
                  clear hK K
                  try simp only [Act.put, List.setIfInBounds_toArray, List.set_cons_zero, List.set_cons_succ]
                  refine E_take (i := 6) (v := ?_) [6] rfl (by kernel_rfl) (by kernel_rfl) (by kernel_rfl) (by kernel_rfl) (by kernel_rfl) rfl (fun _ _ _ h => h) (Or.inl ⟨by rfl, ?_⟩) (HHd.out _ (HV1.out.trans (hZ9.mono HV1.out.size))) ?_
                  rotate_left
                  · (intro w' hSw; (try dsimp only at hSw); go_simp <;> (with_reducible rfl))
                  try simp only [Act.put, List.setIfInBounds_toArray, List.set_cons_zero, List.set_cons_succ]
                  refine E_take (i := 7) (v := ?_) [7] rfl (by kernel_rfl) (by kernel_rfl) (by kernel_rfl) (by kernel_rfl) (by kernel_rfl) rfl (fun _ _ _ h => h) (Or.inl ⟨by rfl, ?_⟩) (HHd.out _ (HV1.out.trans (hZ9.mono HV1.out.size))) ?_
                  rotate_left
                  · (intro w' hSw; (try dsimp only at hSw); go_simp <;> (with_reducible rfl))
                  try simp only [Act.put, List.setIfInBounds_toArray, List.set_cons_zero, List.set_cons_succ]
                  refine E_take (i := 8) (v := ?_) [8] rfl (by kernel_rfl) (by kernel_rfl) (by kernel_rfl) (by kernel_rfl) (by kernel_rfl) rfl (fun _ _ _ h => h) (Or.inl ⟨by rfl, ?_⟩) (HHd.out _ (HV1.out.trans (hZ9.mono HV1.out.size))) ?_
                  rotate_left
                  · (intro w' hSw; (try dsimp only at hSw); go_simp <;> (with_reducible rfl))
                  try simp only [Act.put, List.setIfInBounds_toArray, List.set_cons_zero, List.set_cons_succ]
                  refine E_take (i := 9) (v := ?_) [9] rfl (by kernel_rfl) (by kernel_rfl) (by kernel_rfl) (by kernel_rfl) (by kernel_rfl) rfl (fun _ _ _ h => h) (Or.inl ⟨by rfl, ?_⟩) (HHd.out _ (HV1.out.trans (hZ9.mono HV1.out.size))) ?_
                  rotate_left
                  · (intro w' hSw; (try dsimp only at hSw); go_simp <;> (with_reducible rfl))
                  try simp only [Act.put, List.setIfInBounds_toArray, List.set_cons_zero, List.set_cons_succ]
                  refine E_one (i := 10) rfl (by kernel_rfl) (by rfl) (fun K hK => ?_)
                  go_simp
                  have hZ10 := hZ9.alloc hZ9.size (.cells #[.int .i64 0, .int .i64 0, .int .i64 0, .int .u64 0] 26)
                  have bl10 := Blk.new Z9 #[.int .i64 0, .int .i64 0, .int .i64 0, .int .u64 0] 26
                  have hge10 := hZ9.size
                  clear hZ9
                  generalize World.alloc Z9 (.cells #[.int .i64 0, .int .i64 0, .int .i64 0, .int .u64 0] 26) = Z10 at *
                  generalize Z9.heap.size = pb10 at *
                  refine hK.out _ _ (fun _ => HHd.out _ (HV1.out.trans (hZ10.mono HV1.out.size))) ?_
                  clear hK K
                  try simp only [Act.put, List.setIfInBounds_toArray, List.set_cons_zero, List.set_cons_succ]
                  refine E_one (i := 11) rfl (by kernel_rfl) (by rfl) (fun K hK => ?_)
                  have y0 := bl10.cell 0
                  have y1 := bl10.cell 1
                  have y2 := bl10.cell 2
                  have y3 := bl10.cell 3
                  have f0 := bl10.frozen 0
                  have f1 := bl10.frozen 1
                  have f2 := bl10.frozen 2
                  have f3 := bl10.frozen 3
                  have bs11 := store4 (keyP oc) bl10
                  have hZ11 := store4_below (keyP oc) hZ10 hge10
                  go_simp
                  clear hZ10 bl10 y0 y1 y2 y3 f0 f1 f2 f3
                  generalize ((((Z10.setCell ⟨pb10, 0, none⟩ (.int .i64 (keyP oc).br)).setCell ⟨pb10, 1, none⟩ (.int .i64 (keyP oc).vol)).setCell ⟨pb10, 2, none⟩ (.int .i64 (keyP oc).blk)).setCell ⟨pb10, 3, none⟩ (.int .u64 (keyP oc).num)) = Z11 at *
                  refine hK.out _ _ (fun _ => HHd.out _ (HV1.out.trans (hZ11.mono HV1.out.size))) ?_
                  clear hK K
                  try simp only [Act.put, List.setIfInBounds_toArray, List.set_cons_zero, List.set_cons_succ]
                  refine E_take (i := 12) (v := ?_) [12] rfl (by kernel_rfl) (by kernel_rfl) (by kernel_rfl) (by kernel_rfl) (by kernel_rfl) rfl (fun _ _ _ h => h) (Or.inl ⟨by rfl, ?_⟩) (HHd.out _ (HV1.out.trans (hZ11.mono HV1.out.size))) ?_
                  rotate_left
                  · (intro w' hSw; (try dsimp only at hSw); go_simp <;> (with_reducible rfl))
                  try simp only [Act.put, List.setIfInBounds_toArray, List.set_cons_zero, List.set_cons_succ]
                  refine E_one (i := 13) rfl (by kernel_rfl) (by rfl) (fun K hK => ?_)
                  go_simp
                  refine hK.out _ _ (fun h => absurd rfl h) ?_
                  clear hK K
                  try simp only [Act.put, List.setIfInBounds_toArray, List.set_cons_zero, List.set_cons_succ]
                  refine E_done (by kernel_rfl) ?_ _
                  go_wp2_with fail
                  go_meet
                  exact ⟨pb10, rfl, rfl, rfl, bs11, hZ11⟩
                · go_simp
                  have hZ13 := hd0.alloc hd0.size (.cells #[.int .i64 0, .int .i64 0, .int .i64 0, .int .u64 0] 26)
                  have bl13 := Blk.new Z0 #[.int .i64 0, .int .i64 0, .int .i64 0, .int .u64 0] 26
                  have hge13 := hd0.size
                  clear hd0
                  generalize World.alloc Z0 (.cells #[.int .i64 0, .int .i64 0, .int .i64 0, .int .u64 0] 26) = Z13 at *
                  generalize Z0.heap.size = pb13 at *
                  refine hK.out _ _ (fun _ => HHd.out _ (HV1.out.trans (hZ13.mono HV1.out.size))) ?_
                  clear hK K
                  try simp only [Act.put, List.setIfInBounds_toArray, List.set_cons_zero, List.set_cons_succ]
                  refine E_one (i := 5) rfl (by kernel_rfl) (by rfl) (fun K hK => ?_)
                  go_simp
                  refine (HC.out Z13 (HV1.out.trans (hZ13.mono HV1.out.size))).mono ?_
                  rintro e Z14 ⟨rfl, hc14⟩
                  have hZ14 := hZ13.trans (hc14.mono hZ13.size)
                  have bl14 := Blk.below bl13 hc14 bl13.lt
                  clear bl13
                  clear hc14 hZ13
                  go_simp
                  refine hK.out _ _ (fun _ => HHd.out _ (HV1.out.trans (hZ14.mono HV1.out.size))) ?_
                  clear hK K
                  try simp only [Act.put, List.setIfInBounds_toArray, List.set_cons_zero, List.set_cons_succ]
                  refine E_take (i := 6) (v := ?_) [6] rfl (by kernel_rfl) (by kernel_rfl) (by kernel_rfl) (by kernel_rfl) (by kernel_rfl) rfl (fun _ _ _ h => h) (Or.inl ⟨by rfl, ?_⟩) (HHd.out _ (HV1.out.trans (hZ14.mono HV1.out.size))) ?_
                  rotate_left
                  · (intro w' hSw; (try dsimp only at hSw); go_simp <;> (with_reducible rfl))
                  try simp only [Act.put, List.setIfInBounds_toArray, List.set_cons_zero, List.set_cons_succ]
                  refine E_take (i := 7) (v := ?_) [7] rfl (by kernel_rfl) (by kernel_rfl) (by kernel_rfl) (by kernel_rfl) (by kernel_rfl) rfl (fun _ _ _ h => h) (Or.inl ⟨by rfl, ?_⟩) (HHd.out _ (HV1.out.trans (hZ14.mono HV1.out.size))) ?_
                  rotate_left
                  · (intro w' hSw; (try dsimp only at hSw); go_simp <;> (with_reducible rfl))
                  try simp only [Act.put, List.setIfInBounds_toArray, List.set_cons_zero, List.set_cons_succ]
                  refine E_take (i := 8) (v := ?_) [8] rfl (by kernel_rfl) (by kernel_rfl) (by kernel_rfl) (by kernel_rfl) (by kernel_rfl) rfl (fun _ _ _ h => h) (Or.inl ⟨by rfl, ?_⟩) (HHd.out _ (HV1.out.trans (hZ14.mono HV1.out.size))) ?_
                  rotate_left
                  · (intro w' hSw; (try dsimp only at hSw); go_simp <;> (with_reducible rfl))
                  try simp only [Act.put, List.setIfInBounds_toArray, List.set_cons_zero, List.set_cons_succ]
                  refine E_take (i := 9) (v := ?_) [9] rfl (by kernel_rfl) (by kernel_rfl) (by kernel_rfl) (by kernel_rfl) (by kernel_rfl) rfl (fun _ _ _ h => h) (Or.inl ⟨by rfl, ?_⟩) (HHd.out _ (HV1.out.trans (hZ14.mono HV1.out.size))) ?_
                  rotate_left
                  · (intro w' hSw; (try dsimp only at hSw); go_simp <;> (with_reducible rfl))
                  try simp only [Act.put, List.setIfInBounds_toArray, List.set_cons_zero, List.set_cons_succ]
                  refine E_one (i := 11) rfl (by kernel_rfl) (by rfl) (fun K hK => ?_)
                  have y0 := bl14.cell 0
                  have y1 := bl14.cell 1
                  have y2 := bl14.cell 2
                  have y3 := bl14.cell 3
                  have f0 := bl14.frozen 0
                  have f1 := bl14.frozen 1
                  have f2 := bl14.frozen 2
                  have f3 := bl14.frozen 3
                  have bs15 := store4 (keyP oc) bl14
                  have hZ15 := store4_below (keyP oc) hZ14 hge13
                  go_simp
                  clear hZ14 bl14 y0 y1 y2 y3 f0 f1 f2 f3
                  generalize ((((Z14.setCell ⟨pb13, 0, none⟩ (.int .i64 (keyP oc).br)).setCell ⟨pb13, 1, none⟩ (.int .i64 (keyP oc).vol)).setCell ⟨pb13, 2, none⟩ (.int .i64 (keyP oc).blk)).setCell ⟨pb13, 3, none⟩ (.int .u64 (keyP oc).num)) = Z15 at *
                  refine hK.out _ _ (fun _ => HHd.out _ (HV1.out.trans (hZ15.mono HV1.out.size))) ?_
                  clear hK K
                  try simp only [Act.put, List.setIfInBounds_toArray, List.set_cons_zero, List.set_cons_succ]
                  refine E_take (i := 12) (v := ?_) [12] rfl (by kernel_rfl) (by kernel_rfl) (by kernel_rfl) (by kernel_rfl) (by kernel_rfl) rfl (fun _ _ _ h => h) (Or.inl ⟨by rfl, ?_⟩) (HHd.out _ (HV1.out.trans (hZ15.mono HV1.out.size))) ?_
                  rotate_left
                  · (intro w' hSw; (try dsimp only at hSw); go_simp <;> (with_reducible rfl))
                  try simp only [Act.put, List.setIfInBounds_toArray, List.set_cons_zero, List.set_cons_succ]
                  refine E_one (i := 13) rfl (by kernel_rfl) (by rfl) (fun K hK => ?_)
                  go_simp
                  refine hK.out _ _ (fun h => absurd rfl h) ?_
                  clear hK K
                  try simp only [Act.put, List.setIfInBounds_toArray, List.set_cons_zero, List.set_cons_succ]
                  refine E_done (by kernel_rfl) ?_ _
                  go_wp2_with fail
                  go_meet
                  exact ⟨pb13, rfl, rfl, rfl, bs15, hZ15⟩
            obtain ⟨qb, rfl, rfl, rfl, hqb, hbX⟩ := hcut
            have HV2 := Lib.hid (HV1.out.trans (hbX.mono HV1.out.size))
            have HP2 := Lib.hid (Blk.below HP1.out hbX HP1.out.lt)
            have HQ2 := Lib.hid hqb
            generalize wc = V2 at *
            clear hqb hbX HV1 HP1 HC
            go_upto_region 27 with fail
            have held : ∀ X, Below V2.heap.size V2 X → (fun w' => w'.cell? ⟨g7, i2, none⟩ = some (.pointer q) ∧ w'.cell? ⟨g8, i2, none⟩ = some (.slice Bq n cq) ∧ w'.cell? ⟨w.heap.size, 0, none⟩ = some (.int .i64 k.br) ∧ w'.cell? ⟨w.heap.size, 1, none⟩ = some (.int .i64 k.vol) ∧ w'.cell? ⟨w.heap.size, 2, none⟩ = some (.int .i64 k.blk) ∧ w'.cell? ⟨w.heap.size, 3, none⟩ = some (.int .u64 k.num)) X := fun X hX => HHd.out X (HV2.out.trans (hX.mono HV2.out.size))
            refine wp_region_held_drew (S := (fun w' => w'.cell? ⟨g7, i2, none⟩ = some (.pointer q) ∧ w'.cell? ⟨g8, i2, none⟩ = some (.slice Bq n cq) ∧ w'.cell? ⟨w.heap.size, 0, none⟩ = some (.int .i64 k.br) ∧ w'.cell? ⟨w.heap.size, 1, none⟩ = some (.int .i64 k.vol) ∧ w'.cell? ⟨w.heap.size, 2, none⟩ = some (.int .i64 k.blk) ∧ w'.cell? ⟨w.heap.size, 3, none⟩ = some (.int .u64 k.num))) (by kernel_rfl) (held _ (bel_drewN _ _ (n := 1))) (fun hHeld => ?_)
            obtain ⟨T0, hwd⟩ : ∃ Wn, Wn = World.drew V2 := ⟨_, rfl⟩
            rw [← hwd] at hHeld ⊢
            have hbT0 : Below V2.heap.size V2 T0 := by rw [hwd]; exact bel_drewN _ _ (n := 1)
            clear hwd 
            refine take_at (i := 0) (v := ?_) rfl (by kernel_rfl) (by kernel_rfl) (by kernel_rfl) (fun _ _ _ h => h) (Or.inl ⟨by rfl, ?_⟩) (by assumption) ?_
            rotate_left
            · (intro w' hSw; (try dsimp only at hSw); go_simp <;> (with_reducible rfl))
            try simp only [Act.put, List.setIfInBounds_toArray, List.set_cons_zero, List.set_cons_succ]
            refine take_at (i := 1) (v := ?_) rfl (by kernel_rfl) (by kernel_rfl) (by kernel_rfl) (fun _ _ _ h => h) (Or.inl ⟨by rfl, ?_⟩) (by assumption) ?_
            rotate_left
            · (intro w' hSw; (try dsimp only at hSw); go_simp <;> (with_reducible rfl))
            try simp only [Act.put, List.setIfInBounds_toArray, List.set_cons_zero, List.set_cons_succ]
            refine take_at (i := 2) (v := ?_) rfl (by kernel_rfl) (by kernel_rfl) (by kernel_rfl) (fun _ _ _ h => h) (Or.inl ⟨by rfl, ?_⟩) (by assumption) ?_
            rotate_left
            · (intro w' hSw; (try dsimp only at hSw); go_simp <;> (with_reducible rfl))
            try simp only [Act.put, List.setIfInBounds_toArray, List.set_cons_zero, List.set_cons_succ]
            refine take_at (i := 3) (v := ?_) rfl (by kernel_rfl) (by kernel_rfl) (by kernel_rfl) (fun _ _ _ h => h) (Or.inl ⟨by rfl, ?_⟩) (by assumption) ?_
            rotate_left
            · (intro w' hSw; (try dsimp only at hSw); go_simp <;> (with_reducible rfl))
            try simp only [Act.put, List.setIfInBounds_toArray, List.set_cons_zero, List.set_cons_succ]
            refine take_at (i := 4) (v := ?_) rfl (by kernel_rfl) (by kernel_rfl) (by kernel_rfl) (fun _ _ _ h => h) (Or.inl ⟨by rfl, ?_⟩) (by assumption) ?_
            rotate_left
            · (intro w' hSw; (try dsimp only at hSw); go_simp <;> (with_reducible rfl))
            try simp only [Act.put, List.setIfInBounds_toArray, List.set_cons_zero, List.set_cons_succ]
            refine take_at (i := 6) (v := ?_) rfl (by kernel_rfl) (by kernel_rfl) (by kernel_rfl) (fun _ _ _ h => h) (Or.inl ⟨by rfl, ?_⟩) (by assumption) ?_
            rotate_left
            · (intro w' hSw; (try dsimp only at hSw); go_simp <;> (with_reducible rfl))
            try simp only [Act.put, List.setIfInBounds_toArray, List.set_cons_zero, List.set_cons_succ]
            refine take_at (i := 7) (v := ?_) rfl (by kernel_rfl) (by kernel_rfl) (by kernel_rfl) (fun _ _ _ h => h) (Or.inl ⟨by rfl, ?_⟩) (by assumption) ?_
            rotate_left
            · (intro w' hSw; (try dsimp only at hSw); go_simp <;> (with_reducible rfl))
            try simp only [Act.put, List.setIfInBounds_toArray, List.set_cons_zero, List.set_cons_succ]
            refine take_at (i := 8) (v := ?_) rfl (by kernel_rfl) (by kernel_rfl) (by kernel_rfl) (fun _ _ _ h => h) (Or.inl ⟨by rfl, ?_⟩) (by assumption) ?_
            rotate_left
            · (intro w' hSw; (try dsimp only at hSw); go_simp <;> (with_reducible rfl))
            try simp only [Act.put, List.setIfInBounds_toArray, List.set_cons_zero, List.set_cons_succ]
            refine take_at (i := 9) (v := ?_) rfl (by kernel_rfl) (by kernel_rfl) (by kernel_rfl) (fun _ _ _ h => h) (Or.inl ⟨by rfl, ?_⟩) (by assumption) ?_
            rotate_left
            · (intro w' hSw; (try dsimp only at hSw); go_simp <;> (with_reducible rfl))
            try simp only [Act.put, List.setIfInBounds_toArray, List.set_cons_zero, List.set_cons_succ]
            refine take_at (i := 10) (v := ?_) rfl (by kernel_rfl) (by kernel_rfl) (by kernel_rfl) (fun _ _ _ h => h) (Or.inl ⟨by rfl, ?_⟩) (by assumption) ?_
            rotate_left
            · (intro w' hSw; (try dsimp only at hSw); go_simp <;> (with_reducible rfl))
            try simp only [Act.put, List.setIfInBounds_toArray, List.set_cons_zero, List.set_cons_succ]
            refine one_at (i := 5) rfl (by kernel_rfl) (by rfl) (fun K hK => ?_)
            go_simp
            refine ((fun (X : World) (hX : Below V2.heap.size V2 X) => HF25.out X (HV2.out.trans (hX.mono HV2.out.size))) T0 hbT0).mono ?_
            rintro e T1 ⟨rfl, hb1⟩
            have hbT1 := hbT0.trans (hb1.mono hbT0.size)
            go_simp
            refine hK.out _ _ (held _ hbT1) (fun hHeld1 => ?_)
            clear hK K
            try simp only [Act.put, List.setIfInBounds_toArray, List.set_cons_zero, List.set_cons_succ]
            refine one_at (i := 11) rfl (by kernel_rfl) (by rfl) (fun K hK => ?_)
            go_simp
            refine ((fun (X : World) (hX : Below V2.heap.size V2 X) => HC25.out X (HV2.out.trans (hX.mono HV2.out.size))) T1 hbT1).mono ?_
            rintro e T2 ⟨rfl, hb2⟩
            have hbT2 := hbT1.trans (hb2.mono hbT1.size)
            go_simp
            refine hK.out _ _ (held _ hbT2) (fun hHeld2 => ?_)
            clear hK K
            try simp only [Act.put, List.setIfInBounds_toArray, List.set_cons_zero, List.set_cons_succ]
            refine take_at (i := 12) (v := ?_) rfl (by kernel_rfl) (by kernel_rfl) (by kernel_rfl) (fun _ _ _ h => h) (Or.inl ⟨by rfl, ?_⟩) (by assumption) ?_
            rotate_left
            · (intro w' hSw; (try dsimp only at hSw); go_simp <;> (with_reducible rfl))
            try simp only [Act.put, List.setIfInBounds_toArray, List.set_cons_zero, List.set_cons_succ]
            refine take_at (i := 13) (v := ?_) rfl (by kernel_rfl) (by kernel_rfl) (by kernel_rfl) (fun _ _ _ h => h) (Or.inl ⟨by rfl, ?_⟩) (by assumption) ?_
            rotate_left
            · (intro w' hSw; (try dsimp only at hSw); go_simp <;> (with_reducible rfl))
            try simp only [Act.put, List.setIfInBounds_toArray, List.set_cons_zero, List.set_cons_succ]
            refine wpAnyH_done (by kernel_rfl) ?_ _
            try simp only [Act.put, List.setIfInBounds_toArray, List.set_cons_zero, List.set_cons_succ]
            have HT2 := Lib.hid (HV2.out.trans (hbT2.mono HV2.out.size))
            have HPT := Lib.hid (Blk.below HP2.out hbT2 HP2.out.lt)
            have HQT := Lib.hid (Blk.below HQ2.out hbT2 HQ2.out.lt)
            have HIT := Lib.hid (HIq.out.below HT2.out)
            have HMt := Lib.hid (HHd.out T2 HT2.out).2.1
            clear held hHeld hHeld1 hHeld2 hb1 hb2 hbT0 hbT1 hbT2 HV2 HP2 HQ2 HF25 HC25 HIq HTq HOk HBxk
            go_upto_region 28 with fail
            have hFx := HFx.out
            have hCx := HCx.out
            clear HFx HCx
            generalize floorIx k l = fi at *
            generalize ceilIx k l = ci at *
            generalize hnf : numP of = nf at *
            generalize hbf : of.isSome = bf at *
            generalize hnc : numP oc = nc at *
            generalize hbc : oc.isSome = bc at *
            go_cut [279] (fun t X => t = .bool false ∧ Below T2.heap.size T2 X)
            case first =>
              clear HAsc HBr HHi HBx HHd HT2
              rcases hFx with ⟨ho1, hi1⟩ | ⟨jf, hj1, hi1, ho1⟩
              · subst ho1
                subst hi1
                have en1 : nf = 0 := hnf.symm
                subst en1
                have eb1 : bf = false := hbf.symm
                subst eb1
                have b10 : T2.cell? ⟨pb, 0, none⟩ = some (.int .i64 0) := HPT.out.cell 0
                have b11 : T2.cell? ⟨pb, 1, none⟩ = some (.int .i64 0) := HPT.out.cell 1
                have b12 : T2.cell? ⟨pb, 2, none⟩ = some (.int .i64 0) := HPT.out.cell 2
                have b13 : T2.cell? ⟨pb, 3, none⟩ = some (.int .u64 0) := HPT.out.cell 3
                rcases hCx with ⟨ho2, hi2⟩ | ⟨jc, hj2, hi2, ho2⟩
                · subst ho2
                  subst hi2
                  have en2 : nc = 0 := hnc.symm
                  subst en2
                  have eb2 : bc = false := hbc.symm
                  subst eb2
                  have b20 : T2.cell? ⟨qb, 0, none⟩ = some (.int .i64 0) := HQT.out.cell 0
                  have b21 : T2.cell? ⟨qb, 1, none⟩ = some (.int .i64 0) := HQT.out.cell 1
                  have b22 : T2.cell? ⟨qb, 2, none⟩ = some (.int .i64 0) := HQT.out.cell 2
                  have b23 : T2.cell? ⟨qb, 3, none⟩ = some (.int .u64 0) := HQT.out.cell 3
                  refine r28_FF (by kernel_rfl) HMt.out e1 e2 b10 b11 b12 b13 b20 b21 b22 b23 ?_
                  intro s190 s191 s192 s193 s194 s195 s196 s197 s198 s199 s200 s201 s202 s203 s204 s205 s206 s207 s208 s209 s210 s211 s212 s213 s214 s215 s216 s217 s218 s219 s220 s221 s222 s223 s224 s225 s226 s227 s228 s229 s230 s231 s232 s233 s234 s235 s236 s237 s238 s239 s240 s241 s242 s243 s244 s245 s246 s247 s248 s249 s250 s251 s252 s253 s254 s255 s256 s257 s258 s259 s260 s261 s262 s263 s264 s265 s266 s267 s268 s269 s270 s271 s272 s273 s274 s275 s276 s277 s278 X hX
                  go_wp2_with fail
                  go_meet
                  exact ⟨rfl, hX⟩
                · obtain ⟨⟨xck, xcv⟩, hx2⟩ : ∃ x, l[jc] = x := ⟨_, rfl⟩
                  rw [hx2] at ho2
                  subst ho2
                  subst hi2
                  have en2 : nc = xcv := hnc.symm
                  subst en2
                  have eb2 : bc = true := hbc.symm
                  subst eb2
                  obtain ⟨ib2, io2, ea2, ic2⟩ := item_at HIT.out hj2 hx2
                  have hj2n : jc < n := by rw [← HLq.out]; exact hj2
                  have b20 : T2.cell? ⟨qb, 0, none⟩ = some (.int .i64 xck.br) := HQT.out.cell 0
                  have b21 : T2.cell? ⟨qb, 1, none⟩ = some (.int .i64 xck.vol) := HQT.out.cell 1
                  have b22 : T2.cell? ⟨qb, 2, none⟩ = some (.int .i64 xck.blk) := HQT.out.cell 2
                  have b23 : T2.cell? ⟨qb, 3, none⟩ = some (.int .u64 xck.num) := HQT.out.cell 3
                  refine r28_FT (by kernel_rfl) HMt.out e1 e2 b10 b11 b12 b13 b20 b21 b22 b23 ea2 ic2 hj2n ?_
                  intro s190 s191 s192 s193 s194 s195 s196 s197 s198 s199 s200 s201 s202 s203 s204 s205 s206 s207 s208 s209 s210 s211 s212 s213 s214 s215 s216 s217 s218 s219 s220 s221 s222 s223 s224 s225 s226 s227 s228 s229 s230 s231 s232 s233 s234 s235 s236 s237 s238 s239 s240 s241 s242 s243 s244 s245 s246 s247 s248 s249 s250 s251 s252 s253 s254 s255 s256 s257 s258 s259 s260 s261 s262 s263 s264 s265 s266 s267 s268 s269 s270 s271 s272 s273 s274 s275 s276 s277 s278 X hX
                  go_wp2_with fail
                  go_meet
                  exact ⟨rfl, hX⟩
              · obtain ⟨⟨xfk, xfv⟩, hx1⟩ : ∃ x, l[jf] = x := ⟨_, rfl⟩
                rw [hx1] at ho1
                subst ho1
                subst hi1
                have en1 : nf = xfv := hnf.symm
                subst en1
                have eb1 : bf = true := hbf.symm
                subst eb1
                obtain ⟨ib1, io1, ea1, ic1⟩ := item_at HIT.out hj1 hx1
                have hj1n : jf < n := by rw [← HLq.out]; exact hj1
                have b10 : T2.cell? ⟨pb, 0, none⟩ = some (.int .i64 xfk.br) := HPT.out.cell 0
                have b11 : T2.cell? ⟨pb, 1, none⟩ = some (.int .i64 xfk.vol) := HPT.out.cell 1
                have b12 : T2.cell? ⟨pb, 2, none⟩ = some (.int .i64 xfk.blk) := HPT.out.cell 2
                have b13 : T2.cell? ⟨pb, 3, none⟩ = some (.int .u64 xfk.num) := HPT.out.cell 3
                rcases hCx with ⟨ho2, hi2⟩ | ⟨jc, hj2, hi2, ho2⟩
                · subst ho2
                  subst hi2
                  have en2 : nc = 0 := hnc.symm
                  subst en2
                  have eb2 : bc = false := hbc.symm
                  subst eb2
                  have b20 : T2.cell? ⟨qb, 0, none⟩ = some (.int .i64 0) := HQT.out.cell 0
                  have b21 : T2.cell? ⟨qb, 1, none⟩ = some (.int .i64 0) := HQT.out.cell 1
                  have b22 : T2.cell? ⟨qb, 2, none⟩ = some (.int .i64 0) := HQT.out.cell 2
                  have b23 : T2.cell? ⟨qb, 3, none⟩ = some (.int .u64 0) := HQT.out.cell 3
                  refine r28_TF (by kernel_rfl) HMt.out e1 e2 b10 b11 b12 b13 ea1 ic1 hj1n b20 b21 b22 b23 ?_
                  intro s190 s191 s192 s193 s194 s195 s196 s197 s198 s199 s200 s201 s202 s203 s204 s205 s206 s207 s208 s209 s210 s211 s212 s213 s214 s215 s216 s217 s218 s219 s220 s221 s222 s223 s224 s225 s226 s227 s228 s229 s230 s231 s232 s233 s234 s235 s236 s237 s238 s239 s240 s241 s242 s243 s244 s245 s246 s247 s248 s249 s250 s251 s252 s253 s254 s255 s256 s257 s258 s259 s260 s261 s262 s263 s264 s265 s266 s267 s268 s269 s270 s271 s272 s273 s274 s275 s276 s277 s278 X hX
                  go_wp2_with fail
                  go_meet
                  exact ⟨rfl, hX⟩
                · obtain ⟨⟨xck, xcv⟩, hx2⟩ : ∃ x, l[jc] = x := ⟨_, rfl⟩
                  rw [hx2] at ho2
                  subst ho2
                  subst hi2
                  have en2 : nc = xcv := hnc.symm
                  subst en2
                  have eb2 : bc = true := hbc.symm
                  subst eb2
                  obtain ⟨ib2, io2, ea2, ic2⟩ := item_at HIT.out hj2 hx2
                  have hj2n : jc < n := by rw [← HLq.out]; exact hj2
                  have b20 : T2.cell? ⟨qb, 0, none⟩ = some (.int .i64 xck.br) := HQT.out.cell 0
                  have b21 : T2.cell? ⟨qb, 1, none⟩ = some (.int .i64 xck.vol) := HQT.out.cell 1
                  have b22 : T2.cell? ⟨qb, 2, none⟩ = some (.int .i64 xck.blk) := HQT.out.cell 2
                  have b23 : T2.cell? ⟨qb, 3, none⟩ = some (.int .u64 xck.num) := HQT.out.cell 3
                  refine r28_TT (by kernel_rfl) HMt.out e1 e2 b10 b11 b12 b13 ea1 ic1 hj1n b20 b21 b22 b23 ea2 ic2 hj2n ?_
                  intro s190 s191 s192 s193 s194 s195 s196 s197 s198 s199 s200 s201 s202 s203 s204 s205 s206 s207 s208 s209 s210 s211 s212 s213 s214 s215 s216 s217 s218 s219 s220 s221 s222 s223 s224 s225 s226 s227 s228 s229 s230 s231 s232 s233 s234 s235 s236 s237 s238 s239 s240 s241 s242 s243 s244 s245 s246 s247 s248 s249 s250 s251 s252 s253 s254 s255 s256 s257 s258 s259 s260 s261 s262 s263 s264 s265 s266 s267 s268 s269 s270 s271 s272 s273 s274 s275 s276 s277 s278 X hX
                  go_wp2_with fail
                  go_meet
                  exact ⟨rfl, hX⟩
            obtain ⟨rfl, hX⟩ := hcut
            generalize wc = V3 at *
            have HV3 := Lib.hid (HT2.out.trans (hX.mono HT2.out.size))
            clear hX
            have hM61 := HM.out
            go_wp2_with fail
            go_roundw
            case rel => exact ⟨i2 + 1, by simp, him, HBx.out.trans (HV3.out.mono HBx.out.size)⟩
            case measure =>
              have hM62 := HM.out
              have hw : wrap64 ((i2 : Int) + 1) = (i2 : Int) + 1 := Go.IntWalk.wrap64_in _ (by omega)
              simp [intOf, hw] <;> (clear hw; omega)
        · obtain rfl : i2 = M := by omega
          clear HHr hbx
          go_wp2_with fail
          go_ret
          exact ⟨rfl, (HB2.out.trans (HBr.out.mono HB2.out.size)).trans (HBx.out.mono (Nat.le_trans HB2.out.size HBr.out.size))⟩
end Go.Proofs.Ytainljbkejafcaa.N
