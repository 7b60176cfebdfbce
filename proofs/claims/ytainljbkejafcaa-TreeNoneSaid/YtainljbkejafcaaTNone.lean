/- TNone: joined by merge.py. -/
import Derived.Test.YtainljbkejafcaaTB
import Derived.Test.YtainljbkejafcaaTC
/- The law TreeNone. -/
namespace Go.Proofs.Ytainljbkejafcaa.N
open Go.BigFrame Go.RowKit Go.Shelf Go.Proofs.YtainljbkejafcaaW.PrintMore Go.Proofs.YtainljbkejafcaaW.PrintWords
set_option linter.unusedVariables false
set_option linter.unusedSimpArgs false
theorem asc_one (k : Sp) (v : Int) : Asc [(k, v)] := List.pairwise_singleton _ _
theorem asc_non : Asc [] := List.Pairwise.nil
theorem one_get (k : Sp) (v : Int) : valE k (insE k v []) = v ∧ hasE k (insE k v []) = true := by
  have hk : lt k k = false := by
    cases h : lt k k with
    | false => rfl
    | true => exact absurd h (by rw [lt_asy h]; decide)
  refine ⟨by simp [insE, valE], by simp [insE, hasE, hk]⟩
theorem none_root {w : World} {p : Option Addr} (h : TreeAt w p []) : ∀ X, Below w.heap.size w X → Calls Try.prog 37 #[.pointer p] X fun e w' => e = .returned (.pointer none) ∧ X = w' := by
  obtain ⟨r, hr, hroot⟩ := root_tree h
  obtain ⟨H, hH, hi, _⟩ := root_hi hr asc_non
  obtain rfl := hi.1 rfl
  exact hroot
theorem none_height {w : World} {p : Option Addr} (h : TreeAt w p []) : Calls Try.prog 38 #[.pointer p] w fun e w' => e = .returned (.int .i64 0) ∧ Below w.heap.size w w' :=
  height_tree (r := none) (l := []) (.inl ⟨rfl, rfl⟩) (none_root h) (by simp) (H := 0) (.inl ⟨rfl, rfl⟩)
theorem none_looked {w : World} {p : Option Addr} (h : TreeAt w p []) (k : Sp) : Calls Try.prog 55 #[.pointer p, .agg #[.int .i64 k.br, .int .i64 k.vol, .int .i64 k.blk, .int .u64 k.num]] w fun e w' => e = .returned (.int .i64 0) ∧ Below w.heap.size w w' :=
  looked_tree (r := none) (l := []) (.inl ⟨rfl, rfl⟩) (none_root h) (by simp) (H := 0) (.inl ⟨rfl, rfl⟩) k
theorem get_tree1 {w : World} {p : Option Addr} {k : Sp} {v : Int} (h : TreeAt w p (insE k v [])) : Calls Try.prog 45 #[.pointer p, .agg #[.int .i64 k.br, .int .i64 k.vol, .int .i64 k.blk, .int .u64 k.num]] w fun e w' => e = .returned (.tuple #[.int .u64 v, .bool true]) ∧ Below w.heap.size w w' := by
  have := get_tree h (asc_one k v) k
  rwa [(one_get k v).1, (one_get k v).2] at this
def fourAtN (w : World) (b : Nat) (s : Sp) : Prop := w.cell? ⟨b, 0, none⟩ = some (.int .i64 s.br) ∧ w.cell? ⟨b, 1, none⟩ = some (.int .i64 s.vol) ∧ w.cell? ⟨b, 2, none⟩ = some (.int .i64 s.blk) ∧ w.cell? ⟨b, 3, none⟩ = some (.int .u64 s.num)
theorem four_atN {w : World} {b : Nat} {s : Sp} (h : Blk w b (spC s) 26) : fourAtN w b s := ⟨h.cell 0, h.cell 1, h.cell 2, h.cell 3⟩
set_option maxHeartbeats 6400000 in
set_option maxRecDepth 100000 in
theorem none_ok (k : Sp) (v : Int) (w : World) : Calls Try.prog 17 #[k.v, .int .u64 v] w fun e w' => e = .returned (.bool true) ∧ Below w.heap.size w w' := by
  unfold Sp.v
  have hne : ∀ W, (binOp .neq 36 (.pointer none) (.pointer none)).run Try.prog W = .ok (.bool false) W := fun W => run_neq_pointer_nil W _ none (by rfl)
  go_enter Try.func17, Try.ntmps17
  go_wp2_with fail
  have hbw : Below w.heap.size w (w.alloc (.cells #[.int .i64 k.br, .int .i64 k.vol, .int .i64 k.blk, .int .u64 k.num] 26)) := (Below.refl _ _).alloc (Nat.le_refl _) _
  have hbox : Blk (w.alloc (.cells #[.int .i64 k.br, .int .i64 k.vol, .int .i64 k.blk, .int .u64 k.num] 26)) w.heap.size (spC k) 26 := Blk.new w #[.int .i64 k.br, .int .i64 k.vol, .int .i64 k.blk, .int .u64 k.num] 26
  refine (awake25 _).mono ?_
  rintro e w1 ⟨rfl, hb1⟩
  generalize w.alloc (.cells #[.int .i64 k.br, .int .i64 k.vol, .int .i64 k.blk, .int .u64 k.num] 26) = W at *
  have HB1 := Lib.hid (hbw.trans (hb1.mono hbw.size))
  have HBox1 := Lib.hid (Blk.below hbox hb1 hbox.lt)
  clear hb1 hbw hbox
  go_upto_block 0 with fail
  obtain ⟨W2, hW2⟩ : ∃ X, w1.alloc (.cells #[.pointer none, .int .i64 0] 102) = X := ⟨_, rfl⟩
  have HZ : Hid (TreeAt W2 (some ⟨w1.heap.size, 0, none⟩) []) := by rw [← hW2]; exact TreeAt.new (r := none) (l := []) (.inl ⟨rfl, rfl⟩)
  have hb2 : Below w1.heap.size w1 W2 := by rw [← hW2]; exact (Below.refl _ _).alloc (Nat.le_refl _) _
  rw [hW2]
  have HB2 := Lib.hid (HB1.out.trans (hb2.mono HB1.out.size))
  have HBox2 := Lib.hid (Blk.below HBox1.out hb2 HBox1.out.lt)
  clear hW2 hb2 HB1 HBox1
  go_wp2_with fail
  go_loopw [7] (fun i X => (i = .int .i64 0 ∨ i = .int .i64 1 ∨ i = .int .i64 2) ∧ Below W2.heap.size W2 X) (fun i _ => (2 - intOf i).toNat)
  case atStart => exact ⟨.inl rfl, Below.refl _ _⟩
  case round =>
    obtain ⟨hi, hbr⟩ := hrel
    have HBr := Lib.hid hbr
    have HBx := Lib.hid (Blk.below HBox2.out hbr HBox2.out.lt)
    have HZr := Lib.hid (HZ.out.below hbr)
    clear hbr
    rcases hi with rfl | rfl | rfl
    · have HP : Hid (TreeAt wr none []) := .inl ⟨rfl, rfl⟩
      obtain ⟨a0, a1, a2, a3⟩ := four_atN HBx.out
      have HG : Hid (Calls Try.prog 45 #[.pointer none, .agg #[.int .i64 k.br, .int .i64 k.vol, .int .i64 k.blk, .int .u64 k.num]] wr fun e w' => e = .returned (.tuple #[.int .u64 0, .bool false]) ∧ Below wr.heap.size wr w') := get_tree HP.out asc_non k
      go_wp2_with fail
      refine HG.out.mono ?_
      rintro e w3 ⟨rfl, hb3⟩
      have HBx3 := Lib.hid (Blk.below HBx.out hb3 HBx.out.lt)
      have HP3 := Lib.hid (HP.out.below hb3)
      have HB3 := Lib.hid hb3
      clear a0 a1 a2 a3 HG hb3
      obtain ⟨a0, a1, a2, a3⟩ := four_atN HBx3.out
      have HF : Hid (Calls Try.prog 48 #[.pointer none, .agg #[.int .i64 k.br, .int .i64 k.vol, .int .i64 k.blk, .int .u64 k.num]] w3 fun e w' => e = .returned (.tuple #[.agg #[.int .i64 0, .int .i64 0, .int .i64 0, .int .u64 0], .int .u64 0, .bool false]) ∧ Below w3.heap.size w3 w') := floor_tree HP3.out asc_non k
      go_wp2_with fail
      refine HF.out.mono ?_
      rintro e w4 ⟨rfl, hb4⟩
      have HB4 := Lib.hid (HB3.out.trans (hb4.mono HB3.out.size))
      have HBx4 := Lib.hid (Blk.below HBx3.out hb4 HBx3.out.lt)
      have HP4 := Lib.hid (HP3.out.below hb4)
      clear a0 a1 a2 a3 HF hb4 HB3 HBx3 HP3
      go_upto_region 13 with fail
      have hb5 : Below w4.heap.size w4 (w4.alloc (.cells #[.int .i64 0, .int .i64 0, .int .i64 0, .int .u64 0] 26)) := (Below.refl _ _).alloc (Nat.le_refl _) _
      generalize w4.alloc (.cells #[.int .i64 0, .int .i64 0, .int .i64 0, .int .u64 0] 26) = w5 at *
      have HB5 := Lib.hid (HB4.out.trans (hb5.mono HB4.out.size))
      have HBx5 := Lib.hid (Blk.below HBx4.out hb5 HBx4.out.lt)
      have HP5 := Lib.hid (HP4.out.below hb5)
      clear hb5 HB4 HBx4 HP4
      obtain ⟨a0, a1, a2, a3⟩ := four_atN HBx5.out
      have HC : Hid (Calls Try.prog 49 #[.pointer none, .agg #[.int .i64 k.br, .int .i64 k.vol, .int .i64 k.blk, .int .u64 k.num]] w5 fun e w' => e = .returned (.tuple #[.agg #[.int .i64 0, .int .i64 0, .int .i64 0, .int .u64 0], .int .u64 0, .bool false]) ∧ Below w5.heap.size w5 w') := ceil_tree HP5.out asc_non k
      go_wp2_with fail
      refine HC.out.mono ?_
      rintro e w6 ⟨rfl, hb6⟩
      have HB6 := Lib.hid (HB5.out.trans (hb6.mono HB5.out.size))
      have HBx6 := Lib.hid (Blk.below HBx5.out hb6 HBx5.out.lt)
      have HP6 := Lib.hid (HP5.out.below hb6)
      clear a0 a1 a2 a3 HC hb6 HB5 HBx5 HP5
      go_upto_region 14 with fail
      have hb7 : Below w6.heap.size w6 (w6.alloc (.cells #[.int .i64 0, .int .i64 0, .int .i64 0, .int .u64 0] 26)) := (Below.refl _ _).alloc (Nat.le_refl _) _
      generalize w6.alloc (.cells #[.int .i64 0, .int .i64 0, .int .i64 0, .int .u64 0] 26) = w7 at *
      have HB7 := Lib.hid (HB6.out.trans (hb7.mono HB6.out.size))
      have HBx7 := Lib.hid (Blk.below HBx6.out hb7 HBx6.out.lt)
      have HP7 := Lib.hid (HP6.out.below hb7)
      clear hb7 HB6 HBx6 HP6
      have HLn : Hid (∀ X, Below w7.heap.size w7 X → Calls Try.prog 46 #[.pointer none] X fun e w' => e = .returned (.int .i64 0) ∧ X = w') := len_tree HP7.out
      have HHi := Lib.hid (none_height HP7.out)
      obtain ⟨a0, a1, a2, a3⟩ := four_atN HBx7.out
      go_wp2_with fail
      refine (HLn.out w7 (Below.refl _ _)).mono ?_
      rintro e w8 ⟨rfl, rfl⟩
      go_wp2_with fail
      refine HHi.out.mono ?_
      rintro e w8 ⟨rfl, hb8⟩
      have HB8 := Lib.hid (HB7.out.trans (hb8.mono HB7.out.size))
      have HBx8 := Lib.hid (Blk.below HBx7.out hb8 HBx7.out.lt)
      have HP8 := Lib.hid (HP7.out.below hb8)
      clear a0 a1 a2 a3 HHi HLn hb8 HB7 HBx7 HP7
      obtain ⟨a0, a1, a2, a3⟩ := four_atN HBx8.out
      have HLo := Lib.hid (none_looked HP8.out k)
      go_wp2_with fail
      refine HLo.out.mono ?_
      rintro e w9 ⟨rfl, hb9⟩
      have HB9 := Lib.hid (HB8.out.trans (hb9.mono HB8.out.size))
      have HBx9 := Lib.hid (Blk.below HBx8.out hb9 HBx8.out.lt)
      have HP9 := Lib.hid (HP8.out.below hb9)
      clear a0 a1 a2 a3 HLo hb9 HB8 HBx8 HP8
      have HRo := Lib.hid (none_root HP9.out w9 (Below.refl _ _))
      go_wp2_with fail
      refine HRo.out.mono ?_
      rintro e w10 ⟨rfl, rfl⟩
      have HAl : Hid (Calls Try.prog 47 #[.pointer none] w9 fun e w' => ∃ A c, e = .returned (.slice A 0 c) ∧ Below w9.heap.size w9 w') := (all_tree HP9.out asc_non (by simp) (fun x hx => by cases hx)).mono fun e w' hp => by
        obtain ⟨A, c, h1, _, h2⟩ := hp
        exact ⟨A, c, h1, h2⟩
      go_wp2_with fail
      refine HAl.out.mono ?_
      rintro e w10 ⟨A10, c10, rfl, hb10⟩
      have HB10 := Lib.hid (HB9.out.trans (hb10.mono HB9.out.size))
      have HBx10 := Lib.hid (Blk.below HBx9.out hb10 HBx9.out.lt)
      have HP10 := Lib.hid (HP9.out.below hb10)
      clear HRo HAl hb10 HB9 HBx9 HP9
      obtain ⟨a0, a1, a2, a3⟩ := four_atN HBx10.out
      have HDl : Hid (Calls Try.prog 41 #[.pointer none, .agg #[.int .i64 k.br, .int .i64 k.vol, .int .i64 k.blk, .int .u64 k.num]] w10 fun e w' => ∃ p', e = .returned (.pointer p') ∧ TreeAt w' p' [] ∧ Below w10.heap.size w10 w') := (del_tree HP10.out asc_non (by simp) k).mono fun e w' hp => by
        obtain ⟨p', h1, h2, h3, _⟩ := hp
        exact ⟨p', h1, h2, h3⟩
      go_wp2_with fail
      refine HDl.out.mono ?_
      rintro e w11 ⟨p11, rfl, ht11, hb11⟩
      have HB11 := Lib.hid (HB10.out.trans (hb11.mono HB10.out.size))
      have HBx11 := Lib.hid (Blk.below HBx10.out hb11 HBx10.out.lt)
      have HP11 := Lib.hid (HP10.out.below hb11)
      have HLe : Hid (Calls Try.prog 46 #[.pointer p11] w11 fun e w' => e = .returned (.int .i64 0) ∧ w11 = w') := len_tree ht11 w11 (Below.refl _ _)
      clear a0 a1 a2 a3 HDl hb11 ht11 HB10 HBx10 HP10
      go_wp2_with fail
      refine HLe.out.mono ?_
      rintro e w12 ⟨rfl, rfl⟩
      go_upto_region 16 with fail
      have held : ∀ X, Below w11.heap.size w11 X → (fun w' => w'.cell? ⟨w.heap.size, 0, none⟩ = some (.int .i64 k.br) ∧ w'.cell? ⟨w.heap.size, 1, none⟩ = some (.int .i64 k.vol) ∧ w'.cell? ⟨w.heap.size, 2, none⟩ = some (.int .i64 k.blk) ∧ w'.cell? ⟨w.heap.size, 3, none⟩ = some (.int .u64 k.num)) X := fun X hX => by
        obtain ⟨a0, a1, a2, a3⟩ := four_atN (Blk.below HBx11.out hX HBx11.out.lt)
        exact ⟨a0, a1, a2, a3⟩
      clear HLe
      refine wp_region_held_drew (S := (fun w' => w'.cell? ⟨w.heap.size, 0, none⟩ = some (.int .i64 k.br) ∧ w'.cell? ⟨w.heap.size, 1, none⟩ = some (.int .i64 k.vol) ∧ w'.cell? ⟨w.heap.size, 2, none⟩ = some (.int .i64 k.blk) ∧ w'.cell? ⟨w.heap.size, 3, none⟩ = some (.int .u64 k.num))) (by kernel_rfl) (held _ (bel_drewN _ _ (n := 1))) (fun hHeld => ?_)
      obtain ⟨X0, hwd⟩ : ∃ X, X = World.drew w11 := ⟨_, rfl⟩
      rw [← hwd] at hHeld ⊢
      have hbX0 : Below w11.heap.size w11 X0 := by rw [hwd]; exact bel_drewN _ _ (n := 1)
      clear hwd 
      refine take_at (i := 0) (v := ?_) rfl (by kernel_rfl) (by kernel_rfl) (by kernel_rfl) (fun _ _ _ h => h) (Or.inl ⟨by rfl, ?_⟩) (by assumption) ?_
      rotate_left
      · (intro w' hSw; (try dsimp only at hSw); go_simp <;> (with_reducible rfl))
      try simp only [Act.put, List.setIfInBounds_toArray, List.set_cons_zero, List.set_cons_succ]
      refine take_at (i := 1) (v := ?_) rfl (by kernel_rfl) (by kernel_rfl) (by kernel_rfl) (fun _ _ _ h => h) (Or.inl ⟨by rfl, ?_⟩) (by assumption) ?_
      rotate_left
      · (intro w' hSw; (try dsimp only at hSw); go_simp <;> (with_reducible rfl))
      try simp only [Act.put, List.setIfInBounds_toArray, List.set_cons_zero, List.set_cons_succ]
      refine take_at (i := 2) (v := ?_) rfl (by kernel_rfl) (by kernel_rfl) (by kernel_rfl) (fun _ _ _ h => h) (Or.inl ⟨by rfl, ?_⟩) (by assumption) ?_
      rotate_left
      · (intro w' hSw; (try dsimp only at hSw); go_simp <;> (with_reducible rfl))
      try simp only [Act.put, List.setIfInBounds_toArray, List.set_cons_zero, List.set_cons_succ]
      refine take_at (i := 4) (v := ?_) rfl (by kernel_rfl) (by kernel_rfl) (by kernel_rfl) (fun _ _ _ h => h) (Or.inl ⟨by rfl, ?_⟩) (by assumption) ?_
      rotate_left
      · (intro w' hSw; (try dsimp only at hSw); go_simp <;> (with_reducible rfl))
      try simp only [Act.put, List.setIfInBounds_toArray, List.set_cons_zero, List.set_cons_succ]
      refine one_at (i := 3) rfl (by kernel_rfl) (by rfl) (fun K hK => ?_)
      go_simp
      refine ((fun X (hX : Below w11.heap.size w11 X) => put_tree (HP11.out.below hX) asc_non (by simp) k v) X0 hbX0).mono ?_
      rintro e X1 ⟨p1, rfl, ht1, hb1⟩
      have hbX1 := hbX0.trans (hb1.mono hbX0.size)
      go_simp
      refine hK.out _ _ (held _ hbX1) (fun hHeld1 => ?_)
      clear hK K
      try simp only [Act.put, List.setIfInBounds_toArray, List.set_cons_zero, List.set_cons_succ]
      refine one_at (i := 5) rfl (by kernel_rfl) (by rfl) (fun K hK => ?_)
      go_simp
      refine ((fun (X : World) (_ : Below w11.heap.size w11 X) => get_tree1 (k := k) ht1) X1 hbX1).mono ?_
      rintro e X2 ⟨rfl, hb2⟩
      have hbX2 := hbX1.trans (hb2.mono hbX1.size)
      go_simp
      refine hK.out _ _ (held _ hbX2) (fun hHeld2 => ?_)
      clear hK K
      try simp only [Act.put, List.setIfInBounds_toArray, List.set_cons_zero, List.set_cons_succ]
      refine take_at (i := 6) (v := ?_) rfl (by kernel_rfl) (by kernel_rfl) (by kernel_rfl) (fun _ _ _ h => h) (Or.inl ⟨by rfl, ?_⟩) (by assumption) ?_
      rotate_left
      · (intro w' hSw; (try dsimp only at hSw); go_simp <;> (with_reducible rfl))
      try simp only [Act.put, List.setIfInBounds_toArray, List.set_cons_zero, List.set_cons_succ]
      refine take_at (i := 7) (v := ?_) rfl (by kernel_rfl) (by kernel_rfl) (by kernel_rfl) (fun _ _ _ h => h) (Or.inl ⟨by rfl, ?_⟩) (by assumption) ?_
      rotate_left
      · (intro w' hSw; (try dsimp only at hSw); go_simp <;> (with_reducible rfl))
      try simp only [Act.put, List.setIfInBounds_toArray, List.set_cons_zero, List.set_cons_succ]
      refine take_at (i := 8) (v := ?_) rfl (by kernel_rfl) (by kernel_rfl) (by kernel_rfl) (fun _ _ _ h => h) (Or.inl ⟨by rfl, ?_⟩) (by assumption) ?_
      rotate_left
      · (intro w' hSw; (try dsimp only at hSw); go_simp <;> (with_reducible rfl))
      try simp only [Act.put, List.setIfInBounds_toArray, List.set_cons_zero, List.set_cons_succ]
      refine take_at (i := 9) (v := ?_) rfl (by kernel_rfl) (by kernel_rfl) (by kernel_rfl) (fun _ _ _ h => h) (Or.inl ⟨by rfl, ?_⟩) (by assumption) ?_
      rotate_left
      · (intro w' hSw; (try dsimp only at hSw); go_simp <;> (with_reducible rfl))
      try simp only [Act.put, List.setIfInBounds_toArray, List.set_cons_zero, List.set_cons_succ]
      refine take_at (i := 10) (v := ?_) rfl (by kernel_rfl) (by kernel_rfl) (by kernel_rfl) (fun _ _ _ h => h) (Or.inl ⟨by rfl, ?_⟩) (by assumption) ?_
      rotate_left
      · (intro w' hSw; (try dsimp only at hSw); go_simp <;> (with_reducible rfl))
      try simp only [Act.put, List.setIfInBounds_toArray, List.set_cons_zero, List.set_cons_succ]
      refine wpAnyH_done (by kernel_rfl) ?_ _
      try simp only [Act.put, List.setIfInBounds_toArray, List.set_cons_zero, List.set_cons_succ]
      have HBz := Lib.hid (HB11.out.trans (hbX2.mono HB11.out.size))
      clear held hHeld hHeld1 hHeld2 hb1 hb2 hbX0 hbX1 hbX2 ht1 HB11 HBx11 HP11
      have hvv : (v != v) = false := by simp
      have hvd : decide (v = v) = true := by simp
      go_wp2_with fail
      go_roundw
      case rel => exact ⟨by simp, HBr.out.trans (HBz.out.mono HBr.out.size)⟩
      case measure => (simp [intOf] <;> omega)

    · have HP := HZr
      obtain ⟨a0, a1, a2, a3⟩ := four_atN HBx.out
      have HG : Hid (Calls Try.prog 45 #[.pointer (some ⟨w1.heap.size, 0, none⟩), .agg #[.int .i64 k.br, .int .i64 k.vol, .int .i64 k.blk, .int .u64 k.num]] wr fun e w' => e = .returned (.tuple #[.int .u64 0, .bool false]) ∧ Below wr.heap.size wr w') := get_tree HP.out asc_non k
      go_wp2_with fail
      refine HG.out.mono ?_
      rintro e w3 ⟨rfl, hb3⟩
      have HBx3 := Lib.hid (Blk.below HBx.out hb3 HBx.out.lt)
      have HP3 := Lib.hid (HP.out.below hb3)
      have HB3 := Lib.hid hb3
      clear a0 a1 a2 a3 HG hb3
      obtain ⟨a0, a1, a2, a3⟩ := four_atN HBx3.out
      have HF : Hid (Calls Try.prog 48 #[.pointer (some ⟨w1.heap.size, 0, none⟩), .agg #[.int .i64 k.br, .int .i64 k.vol, .int .i64 k.blk, .int .u64 k.num]] w3 fun e w' => e = .returned (.tuple #[.agg #[.int .i64 0, .int .i64 0, .int .i64 0, .int .u64 0], .int .u64 0, .bool false]) ∧ Below w3.heap.size w3 w') := floor_tree HP3.out asc_non k
      go_wp2_with fail
      refine HF.out.mono ?_
      rintro e w4 ⟨rfl, hb4⟩
      have HB4 := Lib.hid (HB3.out.trans (hb4.mono HB3.out.size))
      have HBx4 := Lib.hid (Blk.below HBx3.out hb4 HBx3.out.lt)
      have HP4 := Lib.hid (HP3.out.below hb4)
      clear a0 a1 a2 a3 HF hb4 HB3 HBx3 HP3
      go_upto_region 13 with fail
      have hb5 : Below w4.heap.size w4 (w4.alloc (.cells #[.int .i64 0, .int .i64 0, .int .i64 0, .int .u64 0] 26)) := (Below.refl _ _).alloc (Nat.le_refl _) _
      generalize w4.alloc (.cells #[.int .i64 0, .int .i64 0, .int .i64 0, .int .u64 0] 26) = w5 at *
      have HB5 := Lib.hid (HB4.out.trans (hb5.mono HB4.out.size))
      have HBx5 := Lib.hid (Blk.below HBx4.out hb5 HBx4.out.lt)
      have HP5 := Lib.hid (HP4.out.below hb5)
      clear hb5 HB4 HBx4 HP4
      obtain ⟨a0, a1, a2, a3⟩ := four_atN HBx5.out
      have HC : Hid (Calls Try.prog 49 #[.pointer (some ⟨w1.heap.size, 0, none⟩), .agg #[.int .i64 k.br, .int .i64 k.vol, .int .i64 k.blk, .int .u64 k.num]] w5 fun e w' => e = .returned (.tuple #[.agg #[.int .i64 0, .int .i64 0, .int .i64 0, .int .u64 0], .int .u64 0, .bool false]) ∧ Below w5.heap.size w5 w') := ceil_tree HP5.out asc_non k
      go_wp2_with fail
      refine HC.out.mono ?_
      rintro e w6 ⟨rfl, hb6⟩
      have HB6 := Lib.hid (HB5.out.trans (hb6.mono HB5.out.size))
      have HBx6 := Lib.hid (Blk.below HBx5.out hb6 HBx5.out.lt)
      have HP6 := Lib.hid (HP5.out.below hb6)
      clear a0 a1 a2 a3 HC hb6 HB5 HBx5 HP5
      go_upto_region 14 with fail
      have hb7 : Below w6.heap.size w6 (w6.alloc (.cells #[.int .i64 0, .int .i64 0, .int .i64 0, .int .u64 0] 26)) := (Below.refl _ _).alloc (Nat.le_refl _) _
      generalize w6.alloc (.cells #[.int .i64 0, .int .i64 0, .int .i64 0, .int .u64 0] 26) = w7 at *
      have HB7 := Lib.hid (HB6.out.trans (hb7.mono HB6.out.size))
      have HBx7 := Lib.hid (Blk.below HBx6.out hb7 HBx6.out.lt)
      have HP7 := Lib.hid (HP6.out.below hb7)
      clear hb7 HB6 HBx6 HP6
      have HLn : Hid (∀ X, Below w7.heap.size w7 X → Calls Try.prog 46 #[.pointer (some ⟨w1.heap.size, 0, none⟩)] X fun e w' => e = .returned (.int .i64 0) ∧ X = w') := len_tree HP7.out
      have HHi := Lib.hid (none_height HP7.out)
      obtain ⟨a0, a1, a2, a3⟩ := four_atN HBx7.out
      go_wp2_with fail
      refine (HLn.out w7 (Below.refl _ _)).mono ?_
      rintro e w8 ⟨rfl, rfl⟩
      go_wp2_with fail
      refine HHi.out.mono ?_
      rintro e w8 ⟨rfl, hb8⟩
      have HB8 := Lib.hid (HB7.out.trans (hb8.mono HB7.out.size))
      have HBx8 := Lib.hid (Blk.below HBx7.out hb8 HBx7.out.lt)
      have HP8 := Lib.hid (HP7.out.below hb8)
      clear a0 a1 a2 a3 HHi HLn hb8 HB7 HBx7 HP7
      obtain ⟨a0, a1, a2, a3⟩ := four_atN HBx8.out
      have HLo := Lib.hid (none_looked HP8.out k)
      go_wp2_with fail
      refine HLo.out.mono ?_
      rintro e w9 ⟨rfl, hb9⟩
      have HB9 := Lib.hid (HB8.out.trans (hb9.mono HB8.out.size))
      have HBx9 := Lib.hid (Blk.below HBx8.out hb9 HBx8.out.lt)
      have HP9 := Lib.hid (HP8.out.below hb9)
      clear a0 a1 a2 a3 HLo hb9 HB8 HBx8 HP8
      have HRo := Lib.hid (none_root HP9.out w9 (Below.refl _ _))
      go_wp2_with fail
      refine HRo.out.mono ?_
      rintro e w10 ⟨rfl, rfl⟩
      have HAl : Hid (Calls Try.prog 47 #[.pointer (some ⟨w1.heap.size, 0, none⟩)] w9 fun e w' => ∃ A c, e = .returned (.slice A 0 c) ∧ Below w9.heap.size w9 w') := (all_tree HP9.out asc_non (by simp) (fun x hx => by cases hx)).mono fun e w' hp => by
        obtain ⟨A, c, h1, _, h2⟩ := hp
        exact ⟨A, c, h1, h2⟩
      go_wp2_with fail
      refine HAl.out.mono ?_
      rintro e w10 ⟨A10, c10, rfl, hb10⟩
      have HB10 := Lib.hid (HB9.out.trans (hb10.mono HB9.out.size))
      have HBx10 := Lib.hid (Blk.below HBx9.out hb10 HBx9.out.lt)
      have HP10 := Lib.hid (HP9.out.below hb10)
      clear HRo HAl hb10 HB9 HBx9 HP9
      obtain ⟨a0, a1, a2, a3⟩ := four_atN HBx10.out
      have HDl : Hid (Calls Try.prog 41 #[.pointer (some ⟨w1.heap.size, 0, none⟩), .agg #[.int .i64 k.br, .int .i64 k.vol, .int .i64 k.blk, .int .u64 k.num]] w10 fun e w' => ∃ p', e = .returned (.pointer p') ∧ TreeAt w' p' [] ∧ Below w10.heap.size w10 w') := (del_tree HP10.out asc_non (by simp) k).mono fun e w' hp => by
        obtain ⟨p', h1, h2, h3, _⟩ := hp
        exact ⟨p', h1, h2, h3⟩
      go_wp2_with fail
      refine HDl.out.mono ?_
      rintro e w11 ⟨p11, rfl, ht11, hb11⟩
      have HB11 := Lib.hid (HB10.out.trans (hb11.mono HB10.out.size))
      have HBx11 := Lib.hid (Blk.below HBx10.out hb11 HBx10.out.lt)
      have HP11 := Lib.hid (HP10.out.below hb11)
      have HLe : Hid (Calls Try.prog 46 #[.pointer p11] w11 fun e w' => e = .returned (.int .i64 0) ∧ w11 = w') := len_tree ht11 w11 (Below.refl _ _)
      clear a0 a1 a2 a3 HDl hb11 ht11 HB10 HBx10 HP10
      go_wp2_with fail
      refine HLe.out.mono ?_
      rintro e w12 ⟨rfl, rfl⟩
      go_upto_region 16 with fail
      have held : ∀ X, Below w11.heap.size w11 X → (fun w' => w'.cell? ⟨w.heap.size, 0, none⟩ = some (.int .i64 k.br) ∧ w'.cell? ⟨w.heap.size, 1, none⟩ = some (.int .i64 k.vol) ∧ w'.cell? ⟨w.heap.size, 2, none⟩ = some (.int .i64 k.blk) ∧ w'.cell? ⟨w.heap.size, 3, none⟩ = some (.int .u64 k.num)) X := fun X hX => by
        obtain ⟨a0, a1, a2, a3⟩ := four_atN (Blk.below HBx11.out hX HBx11.out.lt)
        exact ⟨a0, a1, a2, a3⟩
      clear HLe
      refine wp_region_held_drew (S := (fun w' => w'.cell? ⟨w.heap.size, 0, none⟩ = some (.int .i64 k.br) ∧ w'.cell? ⟨w.heap.size, 1, none⟩ = some (.int .i64 k.vol) ∧ w'.cell? ⟨w.heap.size, 2, none⟩ = some (.int .i64 k.blk) ∧ w'.cell? ⟨w.heap.size, 3, none⟩ = some (.int .u64 k.num))) (by kernel_rfl) (held _ (bel_drewN _ _ (n := 1))) (fun hHeld => ?_)
      obtain ⟨X0, hwd⟩ : ∃ X, X = World.drew w11 := ⟨_, rfl⟩
      rw [← hwd] at hHeld ⊢
      have hbX0 : Below w11.heap.size w11 X0 := by rw [hwd]; exact bel_drewN _ _ (n := 1)
      clear hwd 
      refine take_at (i := 0) (v := ?_) rfl (by kernel_rfl) (by kernel_rfl) (by kernel_rfl) (fun _ _ _ h => h) (Or.inl ⟨by rfl, ?_⟩) (by assumption) ?_
      rotate_left
      · (intro w' hSw; (try dsimp only at hSw); go_simp <;> (with_reducible rfl))
      try simp only [Act.put, List.setIfInBounds_toArray, List.set_cons_zero, List.set_cons_succ]
      refine take_at (i := 1) (v := ?_) rfl (by kernel_rfl) (by kernel_rfl) (by kernel_rfl) (fun _ _ _ h => h) (Or.inl ⟨by rfl, ?_⟩) (by assumption) ?_
      rotate_left
      · (intro w' hSw; (try dsimp only at hSw); go_simp <;> (with_reducible rfl))
      try simp only [Act.put, List.setIfInBounds_toArray, List.set_cons_zero, List.set_cons_succ]
      refine take_at (i := 2) (v := ?_) rfl (by kernel_rfl) (by kernel_rfl) (by kernel_rfl) (fun _ _ _ h => h) (Or.inl ⟨by rfl, ?_⟩) (by assumption) ?_
      rotate_left
      · (intro w' hSw; (try dsimp only at hSw); go_simp <;> (with_reducible rfl))
      try simp only [Act.put, List.setIfInBounds_toArray, List.set_cons_zero, List.set_cons_succ]
      refine take_at (i := 4) (v := ?_) rfl (by kernel_rfl) (by kernel_rfl) (by kernel_rfl) (fun _ _ _ h => h) (Or.inl ⟨by rfl, ?_⟩) (by assumption) ?_
      rotate_left
      · (intro w' hSw; (try dsimp only at hSw); go_simp <;> (with_reducible rfl))
      try simp only [Act.put, List.setIfInBounds_toArray, List.set_cons_zero, List.set_cons_succ]
      refine one_at (i := 3) rfl (by kernel_rfl) (by rfl) (fun K hK => ?_)
      go_simp
      refine ((fun X (hX : Below w11.heap.size w11 X) => put_tree (HP11.out.below hX) asc_non (by simp) k v) X0 hbX0).mono ?_
      rintro e X1 ⟨p1, rfl, ht1, hb1⟩
      have hbX1 := hbX0.trans (hb1.mono hbX0.size)
      go_simp
      refine hK.out _ _ (held _ hbX1) (fun hHeld1 => ?_)
      clear hK K
      try simp only [Act.put, List.setIfInBounds_toArray, List.set_cons_zero, List.set_cons_succ]
      refine one_at (i := 5) rfl (by kernel_rfl) (by rfl) (fun K hK => ?_)
      go_simp
      refine ((fun (X : World) (_ : Below w11.heap.size w11 X) => get_tree1 (k := k) ht1) X1 hbX1).mono ?_
      rintro e X2 ⟨rfl, hb2⟩
      have hbX2 := hbX1.trans (hb2.mono hbX1.size)
      go_simp
      refine hK.out _ _ (held _ hbX2) (fun hHeld2 => ?_)
      clear hK K
      try simp only [Act.put, List.setIfInBounds_toArray, List.set_cons_zero, List.set_cons_succ]
      refine take_at (i := 6) (v := ?_) rfl (by kernel_rfl) (by kernel_rfl) (by kernel_rfl) (fun _ _ _ h => h) (Or.inl ⟨by rfl, ?_⟩) (by assumption) ?_
      rotate_left
      · (intro w' hSw; (try dsimp only at hSw); go_simp <;> (with_reducible rfl))
      try simp only [Act.put, List.setIfInBounds_toArray, List.set_cons_zero, List.set_cons_succ]
      refine take_at (i := 7) (v := ?_) rfl (by kernel_rfl) (by kernel_rfl) (by kernel_rfl) (fun _ _ _ h => h) (Or.inl ⟨by rfl, ?_⟩) (by assumption) ?_
      rotate_left
      · (intro w' hSw; (try dsimp only at hSw); go_simp <;> (with_reducible rfl))
      try simp only [Act.put, List.setIfInBounds_toArray, List.set_cons_zero, List.set_cons_succ]
      refine take_at (i := 8) (v := ?_) rfl (by kernel_rfl) (by kernel_rfl) (by kernel_rfl) (fun _ _ _ h => h) (Or.inl ⟨by rfl, ?_⟩) (by assumption) ?_
      rotate_left
      · (intro w' hSw; (try dsimp only at hSw); go_simp <;> (with_reducible rfl))
      try simp only [Act.put, List.setIfInBounds_toArray, List.set_cons_zero, List.set_cons_succ]
      refine take_at (i := 9) (v := ?_) rfl (by kernel_rfl) (by kernel_rfl) (by kernel_rfl) (fun _ _ _ h => h) (Or.inl ⟨by rfl, ?_⟩) (by assumption) ?_
      rotate_left
      · (intro w' hSw; (try dsimp only at hSw); go_simp <;> (with_reducible rfl))
      try simp only [Act.put, List.setIfInBounds_toArray, List.set_cons_zero, List.set_cons_succ]
      refine take_at (i := 10) (v := ?_) rfl (by kernel_rfl) (by kernel_rfl) (by kernel_rfl) (fun _ _ _ h => h) (Or.inl ⟨by rfl, ?_⟩) (by assumption) ?_
      rotate_left
      · (intro w' hSw; (try dsimp only at hSw); go_simp <;> (with_reducible rfl))
      try simp only [Act.put, List.setIfInBounds_toArray, List.set_cons_zero, List.set_cons_succ]
      refine wpAnyH_done (by kernel_rfl) ?_ _
      try simp only [Act.put, List.setIfInBounds_toArray, List.set_cons_zero, List.set_cons_succ]
      have HBz := Lib.hid (HB11.out.trans (hbX2.mono HB11.out.size))
      clear held hHeld hHeld1 hHeld2 hb1 hb2 hbX0 hbX1 hbX2 ht1 HB11 HBx11 HP11
      have hvv : (v != v) = false := by simp
      have hvd : decide (v = v) = true := by simp
      go_wp2_with fail
      go_roundw
      case rel => exact ⟨by simp, HBr.out.trans (HBz.out.mono HBr.out.size)⟩
      case measure => (simp [intOf] <;> omega)

    · go_wp2_with fail
      go_ret
      exact ⟨rfl, HB2.out.trans (HBr.out.mono HB2.out.size)⟩
end Go.Proofs.Ytainljbkejafcaa.N
