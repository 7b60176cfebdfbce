/- TEnds: joined by merge.py. -/
import Derived.Test.YtainljbkejafcaaTB
import Derived.Test.YtainljbkejafcaaTC
import Derived.Test.YtainljbkejafcaaNCls
/- The law TreeEnds. -/
namespace Go.Proofs.Ytainljbkejafcaa.N
open Go.BigFrame Go.RowKit Go.Shelf Go.Proofs.YtainljbkejafcaaW.PrintMore Go.Proofs.YtainljbkejafcaaW.PrintWords
set_option linter.unusedVariables false
set_option linter.unusedSimpArgs false
def fourAt (w : World) (b : Nat) (s : Sp) : Prop := w.cell? ⟨b, 0, none⟩ = some (.int .i64 s.br) ∧ w.cell? ⟨b, 1, none⟩ = some (.int .i64 s.vol) ∧ w.cell? ⟨b, 2, none⟩ = some (.int .i64 s.blk) ∧ w.cell? ⟨b, 3, none⟩ = some (.int .u64 s.num)
theorem four_at {w : World} {b : Nat} {s : Sp} (h : Blk w b (spC s) 26) : fourAt w b s := ⟨h.cell 0, h.cell 1, h.cell 2, h.cell 3⟩
theorem andT {b q : Bool} (h : true = (b && q)) : b = true ∧ q = true := by cases b <;> cases q <;> simp at h ⊢
theorem andF {b q : Bool} (h : false = (b && q)) : b = false ∨ (b = true ∧ q = false) := by cases b <;> cases q <;> simp at h ⊢
def keyO (o : Option Ent) : Sp := match o with
  | some x => x.1
  | none => sp0
def numO (o : Option Ent) : Int := match o with
  | some x => x.2
  | none => 0
theorem entV_eq (o : Option Ent) : entV o = .tuple #[.agg #[.int .i64 (keyO o).br, .int .i64 (keyO o).vol, .int .i64 (keyO o).blk, .int .u64 (keyO o).num], .int .u64 (numO o), .bool o.isSome] := by
  cases o <;> rfl
theorem last_at {l : List Ent} {x : Ent} (h : l.getLast? = some x) : 0 < l.length ∧ ∀ h2 : l.length - 1 < l.length, l[l.length - 1] = x := by
  rw [List.getLast?_eq_getElem?] at h
  obtain ⟨h1, h2⟩ := List.getElem?_eq_some_iff.1 h
  exact ⟨by omega, fun _ => h2⟩
theorem head_at {l : List Ent} {x : Ent} (h : l.head? = some x) : 0 < l.length ∧ ∀ h2 : 0 < l.length, l[0] = x := by
  rw [List.head?_eq_getElem?] at h
  obtain ⟨h1, h2⟩ := List.getElem?_eq_some_iff.1 h
  exact ⟨h1, fun _ => h2⟩
/-- What region 11 reads of the list up to the spot. -/
def LastAt (w : World) (A : Option Addr) (l : List Ent) (x : Ent) : Prop := 0 < l.length ∧ ∃ b off, A = some ⟨b, off, none⟩ ∧ b < w.heap.size ∧ ItemAt w b (off + (l.length - 1) * 5) x
theorem last_items {w : World} {A : Option Addr} {l : List Ent} {x : Ent} (h : ItemsAt w A l) (e : l.getLast? = some x) : LastAt w A l x := by
  obtain ⟨h0, h1⟩ := last_at e
  obtain ⟨b, off, rfl, hlt, hc⟩ := h h0
  refine ⟨h0, b, off, rfl, hlt, ?_⟩
  have := hc (l.length - 1) (by omega)
  rwa [h1 (by omega)] at this
def HeadAt (w : World) (A : Option Addr) (l : List Ent) (x : Ent) : Prop := 0 < l.length ∧ ∃ b off, A = some ⟨b, off, none⟩ ∧ b < w.heap.size ∧ ItemAt w b off x
theorem head_items {w : World} {A : Option Addr} {l : List Ent} {x : Ent} (h : ItemsAt w A l) (e : l.head? = some x) : HeadAt w A l x := by
  obtain ⟨h0, h1⟩ := head_at e
  obtain ⟨b, off, rfl, hlt, hc⟩ := h h0
  refine ⟨h0, b, off, rfl, hlt, ?_⟩
  have := hc 0 h0
  rw [h1 h0] at this
  simpa using this
set_option maxHeartbeats 6400000 in
set_option maxRecDepth 100000 in
theorem ends_ok {w : World} {A : Option Addr} {c : Nat} {ds : List Dd} (hd : DeedsAt w A ds) (hdk : ∀ j (h : j < ds.length), ds[j].k.ok) (k : Sp) :
    Calls Try.prog 16 #[.slice A ds.length c, k.v] w fun e w' => e = .returned (.bool true) ∧ Below w.heap.size w w' := by
  unfold Sp.v
  have HD := Lib.hid hd
  have HDk := Lib.hid hdk
  obtain ⟨N, hN⟩ : ∃ N, ds.length = N := ⟨_, rfl⟩
  have HN := Lib.hid hN
  rw [hN]
  clear hd hN hdk
  go_enter Try.func16, Try.ntmps16
  go_wp2_with fail
  have hbw : Below w.heap.size w (w.alloc (.cells #[.int .i64 k.br, .int .i64 k.vol, .int .i64 k.blk, .int .u64 k.num] 26)) := (Below.refl _ _).alloc (Nat.le_refl _) _
  have hbox := Blk.new w #[.int .i64 k.br, .int .i64 k.vol, .int .i64 k.blk, .int .u64 k.num] 26
  refine (awake25 _).mono ?_
  rintro e w1 ⟨rfl, hb1⟩
  generalize w.alloc (.cells #[.int .i64 k.br, .int .i64 k.vol, .int .i64 k.blk, .int .u64 k.num] 26) = W at *
  have HB1 := Lib.hid (hbw.trans (hb1.mono hbw.size))
  have HBox1 := Lib.hid (Blk.below hbox hb1 hbox.lt)
  clear hb1 hbw hbox
  by_cases hn : N ≤ 60
  case neg =>
    have hg : decide ((60 : Int) < (N : Int)) = true := by simp; omega
    go_wp2_with fail
    go_ret
    exact ⟨rfl, HB1.out⟩
  have hg : decide ((60 : Int) < (N : Int)) = false := by simp; omega
  go_wp2_with fail
  refine (play25 (HD.out.below HB1.out) HN.out (by omega)).mono ?_
  rintro e w2 ⟨p, A3, c3, rfl, ht, hit, hno, hb2⟩
  have HB2 := Lib.hid (HB1.out.trans (hb2.mono HB1.out.size))
  have HBox2 := Lib.hid (Blk.below HBox1.out hb2 HBox1.out.lt)
  have hlen : (playE ds).length ≤ 60 := by have := playE_len ds; have := HN.out; omega
  have hasc := playE_asc ds
  have hok := playE_ok HDk.out
  clear hb2 hit hno hg hn HD HDk HN HB1 HBox1
  generalize playE ds = l at *
  have HT := Lib.hid ht
  have HAsc := Lib.hid hasc
  have HOk := Lib.hid hok
  have HLen := Lib.hid hlen
  clear ht hasc hok hlen
  go_upto_region 8 with fail
  obtain ⟨W3, hW3⟩ : ∃ X, (w2.alloc (.cells (spC leastS) 26)).alloc (.cells (spC mostS) 26) = X := ⟨_, rfl⟩
  have hb3 : Below w2.heap.size w2 W3 := by rw [← hW3]; exact ((Below.refl _ _).alloc (Nat.le_refl _) _).alloc (by simp) _
  have h1 : Blk W3 w2.heap.size (spC leastS) 26 := by rw [← hW3]; exact (Blk.new w2 _ _).alloc _
  have h2 : Blk W3 (w2.heap.size + 1) (spC mostS) 26 := by rw [← hW3]; have := Blk.new (w2.alloc (.cells (spC leastS) 26)) (spC mostS) 26; rwa [World.size_alloc] at this
  have h0 := Lib.hid (Blk.below HBox2.out hb3 HBox2.out.lt)
  simp only [spC, leastS, mostS] at hW3 h1 h2
  rw [hW3]
  clear hW3
  have HB3 := Lib.hid (HB2.out.trans (hb3.mono HB2.out.size))
  have HT3 := Lib.hid (HT.out.below hb3)
  have H1 := Lib.hid h1
  have H2 := Lib.hid h2
  clear h1 h2 hb3 HT HB2 HBox2
  have HL1 : Hid (∀ X, Below W3.heap.size W3 X → Calls Try.prog 53 #[.pointer p, .agg #[.int .i64 (-9223372036854775808), .int .i64 (-9223372036854775808), .int .i64 (-9223372036854775808), .int .u64 0], .agg #[.int .i64 k.br, .int .i64 k.vol, .int .i64 k.blk, .int .u64 k.num]] X fun e w' => ∃ A c, e = .returned (.slice A (leE k l).length c) ∧ ItemsAt w' A (leE k l) ∧ Below X.heap.size X w') := fun X hX => by
    rw [← sel_le HOk.out]
    exact list_tree (HT3.out.below hX) HAsc.out (by have := HLen.out; omega) leastS k
  have HL2 : Hid (∀ X, Below W3.heap.size W3 X → Calls Try.prog 53 #[.pointer p, .agg #[.int .i64 k.br, .int .i64 k.vol, .int .i64 k.blk, .int .u64 k.num], .agg #[.int .i64 9223372036854775807, .int .i64 9223372036854775807, .int .i64 9223372036854775807, .int .u64 18446744073709551615]] X fun e w' => ∃ A c, e = .returned (.slice A (geE k l).length c) ∧ ItemsAt w' A (geE k l) ∧ Below X.heap.size X w') := fun X hX => by
    rw [← sel_ge HOk.out]
    exact list_tree (HT3.out.below hX) HAsc.out (by have := HLen.out; omega) k mostS
  have held : ∀ X, Below W3.heap.size W3 X → (fun w' => w'.cell? ⟨w.heap.size, 0, none⟩ = some (.int .i64 k.br) ∧ w'.cell? ⟨w.heap.size, 1, none⟩ = some (.int .i64 k.vol) ∧ w'.cell? ⟨w.heap.size, 2, none⟩ = some (.int .i64 k.blk) ∧ w'.cell? ⟨w.heap.size, 3, none⟩ = some (.int .u64 k.num) ∧ w'.cell? ⟨w2.heap.size, 0, none⟩ = some (.int .i64 (-9223372036854775808)) ∧ w'.cell? ⟨w2.heap.size, 1, none⟩ = some (.int .i64 (-9223372036854775808)) ∧ w'.cell? ⟨w2.heap.size, 2, none⟩ = some (.int .i64 (-9223372036854775808)) ∧ w'.cell? ⟨w2.heap.size, 3, none⟩ = some (.int .u64 0) ∧ w'.cell? ⟨w2.heap.size + 1, 0, none⟩ = some (.int .i64 9223372036854775807) ∧ w'.cell? ⟨w2.heap.size + 1, 1, none⟩ = some (.int .i64 9223372036854775807) ∧ w'.cell? ⟨w2.heap.size + 1, 2, none⟩ = some (.int .i64 9223372036854775807) ∧ w'.cell? ⟨w2.heap.size + 1, 3, none⟩ = some (.int .u64 18446744073709551615)) X := fun X hX => by
    obtain ⟨a0, a1, a2, a3⟩ := four_at (Blk.below h0.out hX h0.out.lt)
    obtain ⟨b0, b1, b2, b3⟩ := four_at (s := leastS) (Blk.below H1.out hX H1.out.lt)
    obtain ⟨c0, c1, c2, c3⟩ := four_at (s := mostS) (Blk.below H2.out hX H2.out.lt)
    exact ⟨a0, a1, a2, a3, b0, b1, b2, b3, c0, c1, c2, c3⟩
  refine wp_region_held_drew (S := (fun w' => w'.cell? ⟨w.heap.size, 0, none⟩ = some (.int .i64 k.br) ∧ w'.cell? ⟨w.heap.size, 1, none⟩ = some (.int .i64 k.vol) ∧ w'.cell? ⟨w.heap.size, 2, none⟩ = some (.int .i64 k.blk) ∧ w'.cell? ⟨w.heap.size, 3, none⟩ = some (.int .u64 k.num) ∧ w'.cell? ⟨w2.heap.size, 0, none⟩ = some (.int .i64 (-9223372036854775808)) ∧ w'.cell? ⟨w2.heap.size, 1, none⟩ = some (.int .i64 (-9223372036854775808)) ∧ w'.cell? ⟨w2.heap.size, 2, none⟩ = some (.int .i64 (-9223372036854775808)) ∧ w'.cell? ⟨w2.heap.size, 3, none⟩ = some (.int .u64 0) ∧ w'.cell? ⟨w2.heap.size + 1, 0, none⟩ = some (.int .i64 9223372036854775807) ∧ w'.cell? ⟨w2.heap.size + 1, 1, none⟩ = some (.int .i64 9223372036854775807) ∧ w'.cell? ⟨w2.heap.size + 1, 2, none⟩ = some (.int .i64 9223372036854775807) ∧ w'.cell? ⟨w2.heap.size + 1, 3, none⟩ = some (.int .u64 18446744073709551615))) (by kernel_rfl) (held _ (bel_drewN _ _ (n := 1))) (fun hHeld => ?_)
  obtain ⟨X0, hwd⟩ : ∃ X, X = World.drew W3 := ⟨_, rfl⟩
  rw [← hwd] at hHeld ⊢
  have hbX0 : Below W3.heap.size W3 X0 := by rw [hwd]; exact bel_drewN _ _ (n := 1)
  clear hwd 
  refine take_at (i := 0) (v := ?_) rfl (by kernel_rfl) (by kernel_rfl) (by kernel_rfl) (fun _ _ _ h => h) (Or.inl ⟨by rfl, ?_⟩) (by assumption) ?_
  rotate_left
  · (intro w' hSw; (try dsimp only at hSw); go_simp <;> (with_reducible rfl))
  try simp only [Act.put, List.setIfInBounds_toArray, List.set_cons_zero, List.set_cons_succ]
  refine take_at (i := 1) (v := ?_) rfl (by kernel_rfl) (by kernel_rfl) (by kernel_rfl) (fun _ _ _ h => h) (Or.inl ⟨by rfl, ?_⟩) (by assumption) ?_
  rotate_left
  · (intro w' hSw; (try dsimp only at hSw); go_simp <;> (with_reducible rfl))
  try simp only [Act.put, List.setIfInBounds_toArray, List.set_cons_zero, List.set_cons_succ]
  refine take_at (i := 2) (v := ?_) rfl (by kernel_rfl) (by kernel_rfl) (by kernel_rfl) (fun _ _ _ h => h) (Or.inl ⟨by rfl, ?_⟩) (by assumption) ?_
  rotate_left
  · (intro w' hSw; (try dsimp only at hSw); go_simp <;> (with_reducible rfl))
  try simp only [Act.put, List.setIfInBounds_toArray, List.set_cons_zero, List.set_cons_succ]
  refine take_at (i := 4) (v := ?_) rfl (by kernel_rfl) (by kernel_rfl) (by kernel_rfl) (fun _ _ _ h => h) (Or.inl ⟨by rfl, ?_⟩) (by assumption) ?_
  rotate_left
  · (intro w' hSw; (try dsimp only at hSw); go_simp <;> (with_reducible rfl))
  try simp only [Act.put, List.setIfInBounds_toArray, List.set_cons_zero, List.set_cons_succ]
  refine take_at (i := 5) (v := ?_) rfl (by kernel_rfl) (by kernel_rfl) (by kernel_rfl) (fun _ _ _ h => h) (Or.inl ⟨by rfl, ?_⟩) (by assumption) ?_
  rotate_left
  · (intro w' hSw; (try dsimp only at hSw); go_simp <;> (with_reducible rfl))
  try simp only [Act.put, List.setIfInBounds_toArray, List.set_cons_zero, List.set_cons_succ]
  refine take_at (i := 6) (v := ?_) rfl (by kernel_rfl) (by kernel_rfl) (by kernel_rfl) (fun _ _ _ h => h) (Or.inl ⟨by rfl, ?_⟩) (by assumption) ?_
  rotate_left
  · (intro w' hSw; (try dsimp only at hSw); go_simp <;> (with_reducible rfl))
  try simp only [Act.put, List.setIfInBounds_toArray, List.set_cons_zero, List.set_cons_succ]
  refine one_at (i := 3) rfl (by kernel_rfl) (by rfl) (fun K hK => ?_)
  go_simp
  refine (HL1.out X0 hbX0).mono ?_
  rintro e X1 ⟨A1, c1, rfl, hi1, hb1⟩
  have hbX1 := hbX0.trans (hb1.mono hbX0.size)
  go_simp
  refine hK.out _ _ (held _ hbX1) (fun hHeld1 => ?_)
  clear hK K
  try simp only [Act.put, List.setIfInBounds_toArray, List.set_cons_zero, List.set_cons_succ]
  refine one_at (i := 7) rfl (by kernel_rfl) (by rfl) (fun K hK => ?_)
  go_simp
  refine (HL2.out X1 hbX1).mono ?_
  rintro e X2 ⟨A2, c2, rfl, hi2, hb2⟩
  have hbX2 := hbX1.trans (hb2.mono hbX1.size)
  go_simp
  refine hK.out _ _ (held _ hbX2) (fun hHeld2 => ?_)
  clear hK K
  try simp only [Act.put, List.setIfInBounds_toArray, List.set_cons_zero, List.set_cons_succ]
  refine take_at (i := 8) (v := ?_) rfl (by kernel_rfl) (by kernel_rfl) (by kernel_rfl) (fun _ _ _ h => h) (Or.inl ⟨by rfl, ?_⟩) (by assumption) ?_
  rotate_left
  · (intro w' hSw; (try dsimp only at hSw); go_simp <;> (with_reducible rfl))
  try simp only [Act.put, List.setIfInBounds_toArray, List.set_cons_zero, List.set_cons_succ]
  refine take_at (i := 9) (v := ?_) rfl (by kernel_rfl) (by kernel_rfl) (by kernel_rfl) (fun _ _ _ h => h) (Or.inl ⟨by rfl, ?_⟩) (by assumption) ?_
  rotate_left
  · (intro w' hSw; (try dsimp only at hSw); go_simp <;> (with_reducible rfl))
  try simp only [Act.put, List.setIfInBounds_toArray, List.set_cons_zero, List.set_cons_succ]
  refine wpAnyH_done (by kernel_rfl) ?_ _
  try simp only [Act.put, List.setIfInBounds_toArray, List.set_cons_zero, List.set_cons_succ]
  have hx : Hid (ItemsAt X2 A1 (leE k l) ∧ ItemsAt X2 A2 (geE k l)) := ⟨hi1.below hb2, hi2⟩
  have HT4 := Lib.hid (HT3.out.below hbX2)
  have HB4 := Lib.hid (HB3.out.trans (hbX2.mono HB3.out.size))
  have h4 := Lib.hid (Blk.below h0.out hbX2 h0.out.lt)
  clear held hHeld hHeld1 hHeld2 hi1 hi2 hb1 hb2 hbX0 hbX1 hbX2 HL1 HL2 HT3 HB3 h0 H1 H2
  obtain ⟨a0, a1, a2, a3⟩ := four_at h4.out
  have HF := Lib.hid (floor_tree HT4.out HAsc.out k)
  rw [entV_eq] at HF
  obtain ⟨of, hof⟩ : ∃ of, floorE k l = of := ⟨_, rfl⟩
  obtain ⟨oc, hoc⟩ : ∃ oc, ceilE k l = oc := ⟨_, rfl⟩
  rw [hof] at HF
  have HOf := Lib.hid hof
  have HOc := Lib.hid hoc
  clear hof hoc
  go_wp2_with fail
  refine HF.out.mono ?_
  rintro e w4 ⟨rfl, hb4⟩
  have HT5 := Lib.hid (HT4.out.below hb4)
  have HB5 := Lib.hid (HB4.out.trans (hb4.mono HB4.out.size))
  have h5 := Lib.hid (Blk.below h4.out hb4 h4.out.lt)
  have hx5 : Hid (ItemsAt w4 A1 (leE k l) ∧ ItemsAt w4 A2 (geE k l)) := ⟨hx.out.1.below hb4, hx.out.2.below hb4⟩
  clear hb4 a0 a1 a2 a3 HT4 HB4 h4 hx HF
  go_upto_region 10 with fail
  have hb6 : Below w4.heap.size w4 (w4.alloc (.cells #[.int .i64 (keyO of).br, .int .i64 (keyO of).vol, .int .i64 (keyO of).blk, .int .u64 (keyO of).num] 26)) := (Below.refl _ _).alloc (Nat.le_refl _) _
  have hf6 := Blk.new w4 #[.int .i64 (keyO of).br, .int .i64 (keyO of).vol, .int .i64 (keyO of).blk, .int .u64 (keyO of).num] 26
  generalize w4.alloc (.cells #[.int .i64 (keyO of).br, .int .i64 (keyO of).vol, .int .i64 (keyO of).blk, .int .u64 (keyO of).num] 26) = w6 at *
  have HT6 := Lib.hid (HT5.out.below hb6)
  have HB6 := Lib.hid (HB5.out.trans (hb6.mono HB5.out.size))
  have h6 := Lib.hid (Blk.below h5.out hb6 h5.out.lt)
  have hx6 : Hid (ItemsAt w6 A1 (leE k l) ∧ ItemsAt w6 A2 (geE k l)) := ⟨hx5.out.1.below hb6, hx5.out.2.below hb6⟩
  have hF6 := Lib.hid hf6
  clear hb6 HT5 HB5 h5 hx5 hf6
  obtain ⟨a0, a1, a2, a3⟩ := four_at h6.out
  have HC := Lib.hid (ceil_tree HT6.out HAsc.out k)
  rw [entV_eq, HOc.out] at HC
  generalize w4.heap.size = fb at *
  go_wp2_with fail
  refine HC.out.mono ?_
  rintro e w7 ⟨rfl, hb7⟩
  have HT7 := Lib.hid (HT6.out.below hb7)
  have HB7 := Lib.hid (HB6.out.trans (hb7.mono HB6.out.size))
  have h7 := Lib.hid (Blk.below h6.out hb7 h6.out.lt)
  have hx7 : Hid (ItemsAt w7 A1 (leE k l) ∧ ItemsAt w7 A2 (geE k l)) := ⟨hx6.out.1.below hb7, hx6.out.2.below hb7⟩
  have hF7 := Lib.hid (Blk.below hF6.out hb7 hF6.out.lt)
  clear hb7 a0 a1 a2 a3 HT6 HB6 h6 hx6 hF6 HC
  go_upto_region 11 with fail
  have hb8 : Below w7.heap.size w7 (w7.alloc (.cells #[.int .i64 (keyO oc).br, .int .i64 (keyO oc).vol, .int .i64 (keyO oc).blk, .int .u64 (keyO oc).num] 26)) := (Below.refl _ _).alloc (Nat.le_refl _) _
  have hc8 := Blk.new w7 #[.int .i64 (keyO oc).br, .int .i64 (keyO oc).vol, .int .i64 (keyO oc).blk, .int .u64 (keyO oc).num] 26
  generalize w7.alloc (.cells #[.int .i64 (keyO oc).br, .int .i64 (keyO oc).vol, .int .i64 (keyO oc).blk, .int .u64 (keyO oc).num] 26) = w8 at *
  have HT8 := Lib.hid (HT7.out.below hb8)
  have HB8 := Lib.hid (HB7.out.trans (hb8.mono HB7.out.size))
  have h8 := Lib.hid (Blk.below h7.out hb8 h7.out.lt)
  have hx8 : Hid (ItemsAt w8 A1 (leE k l) ∧ ItemsAt w8 A2 (geE k l)) := ⟨hx7.out.1.below hb8, hx7.out.2.below hb8⟩
  have hF8 := Lib.hid (Blk.below hF7.out hb8 hF7.out.lt)
  have hC8 := Lib.hid hc8
  clear hb8 HT7 HB7 h7 hx7 hF7 hc8
  generalize w7.heap.size = cb at *
  have HP := Lib.hid (parts_len (k := k) HAsc.out)
  have HFh := Lib.hid (floor_has (k := k) HAsc.out)
  have HCh := Lib.hid (ceil_has (k := k) HAsc.out)
  have HF1 : Hid (of = (leE k l).getLast?) := HOf.out.symm
  have HC1 : Hid (oc = (geE k l).head?) := HOc.out.symm
  rw [HOf.out] at HFh
  rw [HOc.out] at HCh
  have HGet : Hid (∀ X, Below w8.heap.size w8 X → Calls Try.prog 45 #[.pointer p, .agg #[.int .i64 k.br, .int .i64 k.vol, .int .i64 k.blk, .int .u64 k.num]] X fun e w' => e = .returned (.tuple #[.int .u64 (valE k l), .bool (hasE k l)]) ∧ Below X.heap.size X w') := fun X hX => get_tree (HT8.out.below hX) HAsc.out k
  have HLn : Hid (∀ X, Below w8.heap.size w8 X → Calls Try.prog 46 #[.pointer p] X fun e w' => e = .returned (.int .i64 l.length) ∧ X = w') := len_tree HT8.out
  generalize hA : leE k l = LA at *
  generalize hB : geE k l = LB at *
  generalize hM : l.length = M at *
  generalize hH : hasE k l = H at *
  generalize hV : valE k l = V at *
  clear hA hB hM hH hV HT8 HOf HOc HAsc HOk
  generalize hn1 : LA.length = n1 at *
  generalize hn2 : LB.length = n2 at *
  have hH1 : (of.isSome = false ∧ H = false) ∨ (of.isSome = true ∧ decide (keyO of = k) = H) := by
    have := HFh.out
    cases of with
    | none => exact .inl ⟨rfl, by cases H <;> simp_all⟩
    | some x => exact .inr ⟨rfl, by cases H <;> simp_all [keyO]⟩
  have hH2 : (oc.isSome = false ∧ H = false) ∨ (oc.isSome = true ∧ decide (keyO oc = k) = H) := by
    have := HCh.out
    cases oc with
    | none => exact .inl ⟨rfl, by cases H <;> simp_all⟩
    | some x => exact .inr ⟨rfl, by cases H <;> simp_all [keyO]⟩
  have HH1 := Lib.hid hH1
  have HH2 := Lib.hid hH2
  clear hH1 hH2 HFh HCh
  generalize hkf : keyO of = kf at *
  generalize hkc : keyO oc = kc at *
  generalize hvf : numO of = vf at *
  generalize hvc : numO oc = vc at *
  generalize hbf : of.isSome = bf at *
  generalize hbc : oc.isSome = bc at *
  have : Nonempty (Wd (Below w8.heap.size w8)) := cls_ne w8
  go_cut [94] from 56 (fun t X => t = .bool false ∧ Below w8.heap.size w8 X)
  case first =>
    rcases of with _ | ⟨xk, xv⟩
    · dsimp only [keyO, numO, Option.isSome] at hkf hvf hbf
      subst hkf hvf hbf
      have h01 : n1 = 0 := by rw [← hn1, List.getLast?_eq_none_iff.1 HF1.out.symm]; rfl
      subst h01
      clear hn1
      rcases oc with _ | ⟨yk, yv⟩
      · dsimp only [keyO, numO, Option.isSome] at hkc hvc hbc
        subst hkc hvc hbc
        have h02 : n2 = 0 := by rw [← hn2, List.head?_eq_none_iff.1 HC1.out.symm]; rfl
        subst h02
        clear hn2
        refine wp_region_cls (S := Below w8.heap.size w8) (by kernel_rfl) (by kernel_rfl) (bel_drewN _ _ (n := 1)) ?_
        repeat (go_big_quiet_step (fail))
        refine wpQuiet_nil ?_
        rintro _ ⟨x, rfl⟩
        go_wp2_with fail
        go_meet
        exact ⟨rfl, x.h⟩
      · dsimp only [keyO, numO, Option.isSome] at hkc hvc hbc
        subst hkc hvc hbc
        obtain ⟨p2, b2, o2, rfl, lb2, i2⟩ := head_items hx8.out.2 HC1.out.symm
        obtain ⟨i20, i21, i22, i23, i24⟩ := i2
        rw [hn2] at p2
        have n2M : n2 ≤ 100 := by have h := HP.out; have := HLen.out; split at h <;> omega
        have HE2 : ∀ W, _ := fun W => it_ne (yk, yv) (yk, yv) W
        simp only [decide_true, Bool.not_true] at HE2
        have f2a : decide ((0 : Int) < (n2 : Int)) = true := by simp; omega
        have f2b : decide (0 < n2) = true := by simp; omega
        have f2c : (0 : Int) < (n2 : Int) := by omega
        have f2d : 0 < n2 := by omega
        have j20 := cls_cell i20
        have j21 := cls_cell i21
        have j22 := cls_cell i22
        have j23 := cls_cell i23
        have j24 := cls_cell i24
        have e20 := cls_cell (hC8.out.cell 0)
        have e21 := cls_cell (hC8.out.cell 1)
        have e22 := cls_cell (hC8.out.cell 2)
        have e23 := cls_cell (hC8.out.cell 3)
        clear i20 i21 i22 i23 i24 hn2 n2M p2 
        refine wp_region_cls (S := Below w8.heap.size w8) (by kernel_rfl) (by kernel_rfl) (bel_drewN _ _ (n := 1)) ?_
        repeat (go_big_quiet_step (fail))
        refine wpQuiet_nil ?_
        rintro _ ⟨x, rfl⟩
        go_wp2_with fail
        go_meet
        exact ⟨rfl, x.h⟩
    · dsimp only [keyO, numO, Option.isSome] at hkf hvf hbf
      subst hkf hvf hbf
      obtain ⟨p1, b1, o1, rfl, lb1, i1⟩ := last_items hx8.out.1 HF1.out.symm
      obtain ⟨i10, i11, i12, i13, i14⟩ := i1
      rw [hn1] at p1
      obtain ⟨J, hJ⟩ : ∃ J, n1 - 1 = J := ⟨_, rfl⟩
      rw [hn1, hJ] at i10 i11 i12 i13 i14
      have n1M : n1 ≤ 100 := by have h := HP.out; have := HLen.out; split at h <;> omega
      have HE1 : ∀ W, _ := fun W => it_ne (xk, xv) (xk, xv) W
      simp only [decide_true, Bool.not_true] at HE1
      have f1a : decide ((0 : Int) < (n1 : Int)) = true := by simp; omega
      have f1b : decide (0 < n1) = true := by simp; omega
      have f1c : IntKind.i64.wrap ((n1 : Int) - 1) = (J : Int) := by rw [IntKind.wrap_i64]; omega
      have f1d : (0 : Int) ≤ (J : Int) := by omega
      have f1e : (J : Int) < (n1 : Int) := by omega
      have j10 := cls_cell i10
      have j11 := cls_cell i11
      have j12 := cls_cell i12
      have j13 := cls_cell i13
      have j14 := cls_cell i14
      have e10 := cls_cell (hF8.out.cell 0)
      have e11 := cls_cell (hF8.out.cell 1)
      have e12 := cls_cell (hF8.out.cell 2)
      have e13 := cls_cell (hF8.out.cell 3)
      clear i10 i11 i12 i13 i14 hn1 n1M p1 hJ
      rcases oc with _ | ⟨yk, yv⟩
      · dsimp only [keyO, numO, Option.isSome] at hkc hvc hbc
        subst hkc hvc hbc
        have h02 : n2 = 0 := by rw [← hn2, List.head?_eq_none_iff.1 HC1.out.symm]; rfl
        subst h02
        clear hn2
        refine wp_region_cls (S := Below w8.heap.size w8) (by kernel_rfl) (by kernel_rfl) (bel_drewN _ _ (n := 1)) ?_
        repeat (go_big_quiet_step (fail))
        refine wpQuiet_nil ?_
        rintro _ ⟨x, rfl⟩
        go_wp2_with fail
        go_meet
        exact ⟨rfl, x.h⟩
      · dsimp only [keyO, numO, Option.isSome] at hkc hvc hbc
        subst hkc hvc hbc
        obtain ⟨p2, b2, o2, rfl, lb2, i2⟩ := head_items hx8.out.2 HC1.out.symm
        obtain ⟨i20, i21, i22, i23, i24⟩ := i2
        rw [hn2] at p2
        have n2M : n2 ≤ 100 := by have h := HP.out; have := HLen.out; split at h <;> omega
        have HE2 : ∀ W, _ := fun W => it_ne (yk, yv) (yk, yv) W
        simp only [decide_true, Bool.not_true] at HE2
        have f2a : decide ((0 : Int) < (n2 : Int)) = true := by simp; omega
        have f2b : decide (0 < n2) = true := by simp; omega
        have f2c : (0 : Int) < (n2 : Int) := by omega
        have f2d : 0 < n2 := by omega
        have j20 := cls_cell i20
        have j21 := cls_cell i21
        have j22 := cls_cell i22
        have j23 := cls_cell i23
        have j24 := cls_cell i24
        have e20 := cls_cell (hC8.out.cell 0)
        have e21 := cls_cell (hC8.out.cell 1)
        have e22 := cls_cell (hC8.out.cell 2)
        have e23 := cls_cell (hC8.out.cell 3)
        clear i20 i21 i22 i23 i24 hn2 n2M p2 
        refine wp_region_cls (S := Below w8.heap.size w8) (by kernel_rfl) (by kernel_rfl) (bel_drewN _ _ (n := 1)) ?_
        repeat (go_big_quiet_step (fail))
        refine wpQuiet_nil ?_
        rintro _ ⟨x, rfl⟩
        go_wp2_with fail
        go_meet
        exact ⟨rfl, x.h⟩
  case rest =>
    obtain ⟨rfl, hX⟩ := hcut
    generalize wc = X at *
    have HE1 : ∀ W, _ := fun W => sp_eq kf k W
    have HE2 : ∀ W, _ := fun W => sp_eq kc k W
    have HBX := Lib.hid (HB8.out.trans (hX.mono HB8.out.size))
    have h9 := Lib.hid (Blk.below h8.out hX h8.out.lt)
    have g9 := Lib.hid (Blk.below hF8.out hX hF8.out.lt)
    have c9 := Lib.hid (Blk.below hC8.out hX hC8.out.lt)
    have HG := Lib.hid (HGet.out X hX)
    have HLX : Hid (∀ Y, Below X.heap.size X Y → Calls Try.prog 46 #[.pointer p] Y fun e w' => e = .returned (.int .i64 M) ∧ Y = w') := fun Y hY => HLn.out Y (hX.trans (hY.mono hX.size))
    clear HGet HLn hX HB8 h8 hF8 hC8 hx8 HF1 HC1 hn1 hn2 hkf hkc hvf hvc hbf hbc
    obtain ⟨a0, a1, a2, a3⟩ := four_at h9.out
    go_wp2_with fail
    refine HG.out.mono ?_
    rintro e w9 ⟨rfl, hb9⟩
    have HBY := Lib.hid (HBX.out.trans (hb9.mono HBX.out.size))
    obtain ⟨b0, b1, b2, b3⟩ := four_at (Blk.below h9.out hb9 h9.out.lt)
    obtain ⟨d0, d1, d2, d3⟩ := four_at (Blk.below g9.out hb9 g9.out.lt)
    obtain ⟨e0, e1, e2, e3⟩ := four_at (Blk.below c9.out hb9 c9.out.lt)
    have HLY := Lib.hid (HLX.out w9 hb9)
    clear hb9 a0 a1 a2 a3 h9 g9 c9 HLX HG HBX
    have hP := HP.out
    have hM60 := HLen.out
    have key : H = (bf && decide (kf = k)) ∧ H = (bc && decide (kc = k)) := by
      refine ⟨?_, ?_⟩
      · rcases HH1.out with ⟨rfl, rfl⟩ | ⟨rfl, h⟩ <;> simp_all
      · rcases HH2.out with ⟨rfl, rfl⟩ | ⟨rfl, h⟩ <;> simp_all
    obtain ⟨hk1, hk2⟩ := key
    generalize decide (kf = k) = q1 at *
    generalize decide (kc = k) = q2 at *
    have HK := Lib.hid (And.intro hk1 hk2)
    clear hk1 hk2 HH1 HH2
    cases H with
    | true =>
      obtain ⟨rfl, rfl⟩ : bf = true ∧ q1 = true := andT HK.out.1
      obtain ⟨rfl, rfl⟩ : bc = true ∧ q2 = true := andT HK.out.2
      rw [if_pos rfl] at hP
      have f1 : IntKind.i64.wrap ((n1 : Int) + (n2 : Int)) = (M : Int) + 1 := by rw [IntKind.wrap_i64]; omega
      have f2 : IntKind.i64.wrap ((M : Int) + 1 - 1) = (M : Int) := by rw [IntKind.wrap_i64]; omega
      have f3 : IntKind.i64.wrap (M : Int) = (M : Int) := by rw [IntKind.wrap_i64]; omega
      clear hP hM60 HK
      go_wp2_with fail
      refine HLY.out.mono ?_
      rintro e w10 ⟨rfl, rfl⟩
      go_wp2_with fail
      go_ret
      exact ⟨rfl, HBY.out⟩
    | false =>
      rw [if_neg (by decide)] at hP
      have f1 : IntKind.i64.wrap ((n1 : Int) + (n2 : Int)) = (M : Int) := by rw [IntKind.wrap_i64]; omega
      have f2 : IntKind.i64.wrap ((M : Int) - 0) = (M : Int) := by rw [IntKind.wrap_i64]; omega
      have f3 : IntKind.i64.wrap (M : Int) = (M : Int) := by rw [IntKind.wrap_i64]; omega
      clear hP hM60
      have h1 : (bf = false) ∨ (bf = true ∧ q1 = false) := andF HK.out.1
      have h2 : (bc = false) ∨ (bc = true ∧ q2 = false) := andF HK.out.2
      rcases h1 with rfl | ⟨rfl, rfl⟩
      all_goals rcases h2 with rfl | ⟨rfl, rfl⟩
      all_goals (
        clear HK
        go_wp2_with fail
        refine HLY.out.mono ?_
        rintro e w10 ⟨rfl, rfl⟩
        go_wp2_with fail
        go_ret
        exact ⟨rfl, HBY.out⟩)
end Go.Proofs.Ytainljbkejafcaa.N
