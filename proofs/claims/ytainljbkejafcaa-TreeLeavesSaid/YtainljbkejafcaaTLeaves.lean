/- TLeaves: joined by merge.py. -/
import Derived.Test.YtainljbkejafcaaTA
import Derived.Test.YtainljbkejafcaaNHeldZ
/- leaves of the tree's laws. -/
namespace Go.Proofs.Ytainljbkejafcaa.N
open Go.BigFrame Go.RowKit Go.Proofs.YtainljbkejafcaaW.PrintMore Go.Proofs.YtainljbkejafcaaW.PrintWords
set_option linter.unusedVariables false
set_option linter.unusedSimpArgs false
theorem app_run {w : World} {o : Oper} {a : Act} {KN : Act → World → Prop} {Q : Exit → Act → World → Prop} (s x : Operand) (t : TypeId) (ho : o.op = .call { callee := .builtin .append, args := #[s, x], argTypes := #[t, t] })
    (vs vx v' : Value) (w' : World) (hs : a.eval s = vs) (hx : a.eval x = vx) (hrun : (Builtin.append_ #[t, t] o.type #[vs, vx]).run Try.prog w = .ok v' w') (h : KN (a.put o.dst v') w') : Oper.wp Try.prog o a w KN Q := by
  unfold Oper.wp execOp
  simp only [ho, resolve, invoke, builtin, Sem.run_bind, Sem.run_pure, Result.andThen_ok, List.map_toArray, List.map_cons, List.map_nil, hs, hx, hrun]
  exact h
/-- The list that is gathered. -/
def OutAt (X : World) (ob : Nat) (acc : List Ent) : Prop := ∃ A c, Blk X ob #[.slice A acc.length c] 67 ∧ X.ownsRow (ob + 1) 92 5 (.slice A acc.length c) acc.length (its acc)
theorem OutAt.lt {X : World} {ob : Nat} {acc : List Ent} (h : OutAt X ob acc) : ob < X.heap.size := by
  obtain ⟨A, c, hb, _⟩ := h
  exact hb.lt
def LvPost (ob : Nat) (X : World) (acc : List Ent) (e : Ending) (w' : World) : Prop := e = .returned (.bool true) ∧ OutAt w' ob acc ∧ Below ob X w'
def LvRel (ob : Nat) (X : World) (acc : Nat → List Ent) (n : Nat) (i : Value) (Y : World) : Prop := ∃ j : Nat, i = .int .i64 j ∧ j ≤ n ∧ OutAt Y ob (acc j) ∧ Below ob X Y
theorem flat_succ {ls : List (List Ent)} {j : Nat} (h : j < ls.length) : (ls.take (j + 1)).flatten = (ls.take j).flatten ++ ls[j] := by
  rw [List.take_succ_eq_append_getElem h, List.flatten_append]; simp
theorem flat_len {ls : List (List Ent)} {j : Nat} (h : j < ls.length) : (ls.take j).flatten.length + ls[j].length ≤ ls.flatten.length := by
  rw [flatten_cut h, List.length_append, List.length_append]; omega
set_option maxHeartbeats 6400000 in
set_option maxRecDepth 100000 in
theorem leaves_nd {w0 : World} (ob : Nat) (hob : w0.heap.size ≤ ob) (high : Nat) (hhi : high ≤ 20) : ∀ (h : Nat) {q n deep : Nat} {m : List Ent}, Nd w0 h q m n → n ≤ 4 → 0 < n → deep + h = high → ∀ (X : World) (acc : List Ent), Below w0.heap.size w0 X → OutAt X ob acc → acc.length + m.length ≤ 100 →
    Calls Try.prog 36 #[.pointer (some ⟨q, 0, none⟩), .int .i64 deep, .int .i64 high, .pointer (some ⟨ob, 0, none⟩)] X (LvPost ob X (acc ++ m)) := by
  intro h
  induction h with
  | zero =>
    intro q n deep m hnd h4 h0 hdh X acc hX hout hlen
    obtain ⟨hn, hL⟩ := hnd
    have HL0 := Lib.hid hL
    have HL := Lib.hid (hL.below hX)
    have HOut := Lib.hid hout
    have HLen := Lib.hid hlen
    have HX := Lib.hid hX
    have HN := Lib.hid hn
    obtain rfl : deep = high := by omega
    obtain ⟨A0, c0', hb0, ho0⟩ := hout
    have y0 : X.cell? ⟨ob, 0, none⟩ = some (.slice A0 acc.length c0') := (hb0.cell 0).trans rfl
    have f1 : decide ((deep : Int) < (deep : Int)) = false := by simp
    have f2 : decide ((200 : Int) < (acc.length : Int)) = false := by simp; omega
    have hql := HL.out.lt
    have HQl := Lib.hid hql
    have HObl := Lib.hid hb0.lt
    clear hL hb0 ho0 hdh hX hlen hn
    go_enter Try.func36, Try.ntmps36
    go_wp2_with fail
    refine (leaf_yes HL.out).mono ?_
    rintro e w2 ⟨rfl, rfl⟩
    clear y0 f1 f2
    go_wp2_with fail
    go_loopw [9] (fun i Y => LvRel ob X (fun j => acc ++ m.take j) n i Y) (fun i _ => (n - intOf i).toNat)
    case atStart => exact ⟨0, rfl, Nat.zero_le _, by simpa using HOut.out, Below.refl _ _⟩
    case round =>
      obtain ⟨j, rfl, hj, hout, hbr⟩ := hrel
      simp only at hout
      have HBr := Lib.hid hbr
      obtain ⟨KA, kca, KB, kcb, hh⟩ := HL0.out
      have hbw : Below w0.heap.size w0 wr := HX.out.trans (hbr.mono hob)
      have c0 := bel_cell hbw hh.lt hh.c0
      have c1 := bel_cell hbw hh.lt hh.c1
      rw [List.length_map, ← HN.out] at c0 c1
      by_cases hjn : j < n
      · have hjm : j < m.length := by rw [← HN.out]; exact hjn
        obtain ⟨kb, ko, rfl, lk, ck⟩ := (hh.keys.below hbw) (by rw [List.length_map]; omega)
        obtain ⟨vb, vo, rfl, lv, cv⟩ := (hh.vals.below hbw) (by rw [List.length_map]; omega)
        obtain ⟨s0, s1, s2, s3⟩ := ck j (by rw [List.length_map]; exact hjm)
        have v0 := cv j (by rw [List.length_map]; exact hjm)
        rw [List.getElem_map] at s0 s1 s2 s3 v0
        have HTk := Lib.hid (List.take_succ_eq_append_getElem hjm)
        obtain ⟨x, hx⟩ : ∃ x, m[j] = x := ⟨_, rfl⟩
        rw [hx] at s0 s1 s2 s3 v0 HTk
        obtain ⟨A, c, hBk, hown⟩ := hout
        obtain ⟨KN, hK⟩ : ∃ KN, (acc ++ m.take j).length = KN := ⟨_, rfl⟩
        have hKl : KN ≤ 100 := by
          rw [← hK, List.length_append, List.length_take]
          have := HLen.out
          omega
        have HK := Lib.hid hK
        rw [hK] at hBk hown
        have e1 : (0 : Int) ≤ (j : Int) := by omega
        have e2 : (j : Int) < (n : Int) := by omega
        have f1 : decide ((j : Int) < (n : Int)) = true := by simp; omega
        have y0 : wr.cell? ⟨ob, 0, none⟩ = some (.slice A KN c) := (hBk.cell 0).trans rfl
        have hoz := hBk.lt
        clear hx ck cv lk lv hh hK hbr hjm
        go_upto_region 7 with fail
        have held : ∀ X, Below wr.heap.size wr X → (fun w' => w'.cell? ⟨ob, 0, none⟩ = some (.slice A KN c) ∧ w'.cell? ⟨q, 0, none⟩ = some (.slice (some ⟨kb, ko, none⟩) n kca) ∧ w'.cell? ⟨q, 1, none⟩ = some (.slice (some ⟨vb, vo, none⟩) n kcb) ∧ w'.cell? ⟨kb, ko + j * 4, none⟩ = some (.int .i64 x.1.br) ∧ w'.cell? ⟨kb, ko + j * 4 + 1, none⟩ = some (.int .i64 x.1.vol) ∧ w'.cell? ⟨kb, ko + j * 4 + 2, none⟩ = some (.int .i64 x.1.blk) ∧ w'.cell? ⟨kb, ko + j * 4 + 3, none⟩ = some (.int .u64 x.1.num) ∧ w'.cell? ⟨vb, vo + j, none⟩ = some (.int .u64 x.2)) X := fun X hX => ⟨bel_cell hX (World.block_lt_of_cell? _ _ y0) y0, bel_cell hX (World.block_lt_of_cell? _ _ c0) c0, bel_cell hX (World.block_lt_of_cell? _ _ c1) c1, bel_cell hX (World.block_lt_of_cell? _ _ s0) s0, bel_cell hX (World.block_lt_of_cell? _ _ s1) s1, bel_cell hX (World.block_lt_of_cell? _ _ s2) s2, bel_cell hX (World.block_lt_of_cell? _ _ s3) s3, bel_cell hX (World.block_lt_of_cell? _ _ v0) v0⟩
        have hb0 : Below wr.heap.size wr wr.drew := bel_drewN _ _ (n := 1)
        clear y0 c0 c1 s0 s1 s2 s3 v0
        refine Z_start [20, 22] (fun w' => w'.cell? ⟨ob, 0, none⟩ = some (.slice A KN c) ∧ w'.cell? ⟨q, 0, none⟩ = some (.slice (some ⟨kb, ko, none⟩) n kca) ∧ w'.cell? ⟨q, 1, none⟩ = some (.slice (some ⟨vb, vo, none⟩) n kcb) ∧ w'.cell? ⟨kb, ko + j * 4, none⟩ = some (.int .i64 x.1.br) ∧ w'.cell? ⟨kb, ko + j * 4 + 1, none⟩ = some (.int .i64 x.1.vol) ∧ w'.cell? ⟨kb, ko + j * 4 + 2, none⟩ = some (.int .i64 x.1.blk) ∧ w'.cell? ⟨kb, ko + j * 4 + 3, none⟩ = some (.int .u64 x.1.num) ∧ w'.cell? ⟨vb, vo + j, none⟩ = some (.int .u64 x.2)) (by kernel_rfl) ?_
        generalize World.drew wr = X0 at *
        refine Z_free (i := 0) (v := ?_) rfl (by kernel_rfl) (by kernel_rfl) (by kernel_rfl) (by kernel_rfl) (fun _ _ _ h => h) (Or.inl ⟨by rfl, ?_⟩) (fun _ => held _ hb0) ?_
        rotate_left
        · (intro w' hSw; (try dsimp only at hSw); go_simp <;> (with_reducible rfl))
        try simp only [Act.put, List.setIfInBounds_toArray, List.set_cons_zero, List.set_cons_succ]
        refine Z_free (i := 1) (v := ?_) rfl (by kernel_rfl) (by kernel_rfl) (by kernel_rfl) (by kernel_rfl) (fun _ _ _ h => h) (Or.inl ⟨by rfl, ?_⟩) (fun _ => held _ hb0) ?_
        rotate_left
        · (intro w' hSw; (try dsimp only at hSw); go_simp <;> (with_reducible rfl))
        try simp only [Act.put, List.setIfInBounds_toArray, List.set_cons_zero, List.set_cons_succ]
        refine Z_free (i := 4) (v := ?_) rfl (by kernel_rfl) (by kernel_rfl) (by kernel_rfl) (by kernel_rfl) (fun _ _ _ h => h) (Or.inl ⟨by rfl, ?_⟩) (fun _ => held _ hb0) ?_
        rotate_left
        · (intro w' hSw; (try dsimp only at hSw); go_simp <;> (with_reducible rfl))
        try simp only [Act.put, List.setIfInBounds_toArray, List.set_cons_zero, List.set_cons_succ]
        refine Z_free (i := 8) (v := ?_) rfl (by kernel_rfl) (by kernel_rfl) (by kernel_rfl) (by kernel_rfl) (fun _ _ _ h => h) (Or.inl ⟨by rfl, ?_⟩) (fun _ => held _ hb0) ?_
        rotate_left
        · (intro w' hSw; (try dsimp only at hSw); go_simp <;> (with_reducible rfl))
        try simp only [Act.put, List.setIfInBounds_toArray, List.set_cons_zero, List.set_cons_succ]
        refine Z_free (i := 11) (v := ?_) rfl (by kernel_rfl) (by kernel_rfl) (by kernel_rfl) (by kernel_rfl) (fun _ _ _ h => h) (Or.inl ⟨by rfl, ?_⟩) (fun _ => held _ hb0) ?_
        rotate_left
        · (intro w' hSw; (try dsimp only at hSw); go_simp <;> (with_reducible rfl))
        try simp only [Act.put, List.setIfInBounds_toArray, List.set_cons_zero, List.set_cons_succ]
        refine Z_free (i := 15) (v := ?_) rfl (by kernel_rfl) (by kernel_rfl) (by kernel_rfl) (by kernel_rfl) (fun _ _ _ h => h) (Or.inl ⟨by rfl, ?_⟩) (fun _ => held _ hb0) ?_
        rotate_left
        · (intro w' hSw; (try dsimp only at hSw); go_simp <;> (with_reducible rfl))
        try simp only [Act.put, List.setIfInBounds_toArray, List.set_cons_zero, List.set_cons_succ]
        refine Z_take (i := 2) (v := ?_) [[3, 2], [2]] rfl (by kernel_rfl) (by kernel_rfl) (by kernel_rfl) (by kernel_rfl) (by kernel_rfl) (fun _ _ _ h => h) (Or.inl ⟨by rfl, ?_⟩) (held _ hb0) ?_
        rotate_left
        · (intro w' hSw; (try dsimp only at hSw); go_simp <;> (with_reducible rfl))
        try simp only [Act.put, List.setIfInBounds_toArray, List.set_cons_zero, List.set_cons_succ]
        refine Z_take (i := 3) (v := ?_) [[3], [3]] rfl (by kernel_rfl) (by kernel_rfl) (by kernel_rfl) (by kernel_rfl) (by kernel_rfl) (fun _ _ _ h => h) (Or.inl ⟨by rfl, ?_⟩) (held _ hb0) ?_
        rotate_left
        · (intro w' hSw; (try dsimp only at hSw); go_simp <;> (with_reducible rfl))
        try simp only [Act.put, List.setIfInBounds_toArray, List.set_cons_zero, List.set_cons_succ]
        refine Z_take (i := 5) (v := ?_) [[19, 18, 10, 9, 7, 6, 5], [5]] rfl (by kernel_rfl) (by kernel_rfl) (by kernel_rfl) (by kernel_rfl) (by kernel_rfl) (fun _ _ _ h => h) (Or.inl ⟨by rfl, ?_⟩) (held _ hb0) ?_
        rotate_left
        · (intro w' hSw; (try dsimp only at hSw); go_simp <;> (with_reducible rfl))
        try simp only [Act.put, List.setIfInBounds_toArray, List.set_cons_zero, List.set_cons_succ]
        refine Z_take (i := 6) (v := ?_) [[19, 18, 10, 9, 7, 6], [6]] rfl (by kernel_rfl) (by kernel_rfl) (by kernel_rfl) (by kernel_rfl) (by kernel_rfl) (fun _ _ _ h => h) (Or.inl ⟨by rfl, ?_⟩) (held _ hb0) ?_
        rotate_left
        · (intro w' hSw; (try dsimp only at hSw); go_simp <;> (with_reducible rfl))
        try simp only [Act.put, List.setIfInBounds_toArray, List.set_cons_zero, List.set_cons_succ]
        refine Z_take (i := 7) (v := ?_) [[19, 18, 10, 9, 7], [7]] rfl (by kernel_rfl) (by kernel_rfl) (by kernel_rfl) (by kernel_rfl) (by kernel_rfl) (fun _ _ _ h => h) (Or.inl ⟨by rfl, ?_⟩) (held _ hb0) ?_
        rotate_left
        · (intro w' hSw; (try dsimp only at hSw); go_simp <;> (with_reducible rfl))
        try simp only [Act.put, List.setIfInBounds_toArray, List.set_cons_zero, List.set_cons_succ]
        refine Z_take (i := 9) (v := ?_) [[19, 18, 10, 9], [9]] rfl (by kernel_rfl) (by kernel_rfl) (by kernel_rfl) (by kernel_rfl) (by kernel_rfl) (fun _ _ _ h => h) (Or.inl ⟨by rfl, ?_⟩) (held _ hb0) ?_
        rotate_left
        · (intro w' hSw; (try dsimp only at hSw); go_simp <;> (with_reducible rfl))
        try simp only [Act.put, List.setIfInBounds_toArray, List.set_cons_zero, List.set_cons_succ]
        refine Z_take (i := 10) (v := ?_) [[19, 18, 10], [10]] rfl (by kernel_rfl) (by kernel_rfl) (by kernel_rfl) (by kernel_rfl) (by kernel_rfl) (fun _ _ _ h => h) (Or.inl ⟨by rfl, ?_⟩) (held _ hb0) ?_
        rotate_left
        · (intro w' hSw; (try dsimp only at hSw); go_simp <;> (with_reducible rfl))
        try simp only [Act.put, List.setIfInBounds_toArray, List.set_cons_zero, List.set_cons_succ]
        refine Z_take (i := 12) (v := ?_) [[19, 18, 17, 16, 14, 13, 12], [12]] rfl (by kernel_rfl) (by kernel_rfl) (by kernel_rfl) (by kernel_rfl) (by kernel_rfl) (fun _ _ _ h => h) (Or.inl ⟨by rfl, ?_⟩) (held _ hb0) ?_
        rotate_left
        · (intro w' hSw; (try dsimp only at hSw); go_simp <;> (with_reducible rfl))
        try simp only [Act.put, List.setIfInBounds_toArray, List.set_cons_zero, List.set_cons_succ]
        refine Z_take (i := 13) (v := ?_) [[19, 18, 17, 16, 14, 13], [13]] rfl (by kernel_rfl) (by kernel_rfl) (by kernel_rfl) (by kernel_rfl) (by kernel_rfl) (fun _ _ _ h => h) (Or.inl ⟨by rfl, ?_⟩) (held _ hb0) ?_
        rotate_left
        · (intro w' hSw; (try dsimp only at hSw); go_simp <;> (with_reducible rfl))
        try simp only [Act.put, List.setIfInBounds_toArray, List.set_cons_zero, List.set_cons_succ]
        refine Z_take (i := 14) (v := ?_) [[19, 18, 17, 16, 14], [14]] rfl (by kernel_rfl) (by kernel_rfl) (by kernel_rfl) (by kernel_rfl) (by kernel_rfl) (fun _ _ _ h => h) (Or.inl ⟨by rfl, ?_⟩) (held _ hb0) ?_
        rotate_left
        · (intro w' hSw; (try dsimp only at hSw); go_simp <;> (with_reducible rfl))
        try simp only [Act.put, List.setIfInBounds_toArray, List.set_cons_zero, List.set_cons_succ]
        refine Z_take (i := 16) (v := ?_) [[19, 18, 17, 16], [16]] rfl (by kernel_rfl) (by kernel_rfl) (by kernel_rfl) (by kernel_rfl) (by kernel_rfl) (fun _ _ _ h => h) (Or.inl ⟨by rfl, ?_⟩) (held _ hb0) ?_
        rotate_left
        · (intro w' hSw; (try dsimp only at hSw); go_simp <;> (with_reducible rfl))
        try simp only [Act.put, List.setIfInBounds_toArray, List.set_cons_zero, List.set_cons_succ]
        refine Z_take (i := 17) (v := ?_) [[19, 18, 17], [17]] rfl (by kernel_rfl) (by kernel_rfl) (by kernel_rfl) (by kernel_rfl) (by kernel_rfl) (fun _ _ _ h => h) (Or.inl ⟨by rfl, ?_⟩) (held _ hb0) ?_
        rotate_left
        · (intro w' hSw; (try dsimp only at hSw); go_simp <;> (with_reducible rfl))
        try simp only [Act.put, List.setIfInBounds_toArray, List.set_cons_zero, List.set_cons_succ]
        refine Z_take (i := 18) (v := ?_) [[19, 18], [18]] rfl (by kernel_rfl) (by kernel_rfl) (by kernel_rfl) (by kernel_rfl) (by kernel_rfl) (fun _ _ _ h => h) (Or.inl ⟨by rfl, ?_⟩) (held _ hb0) ?_
        rotate_left
        · (intro w' hSw; (try dsimp only at hSw); go_simp <;> (with_reducible rfl))
        try simp only [Act.put, List.setIfInBounds_toArray, List.set_cons_zero, List.set_cons_succ]
        refine Z_one (i := 19) rfl (by kernel_rfl) (by rfl) (fun K hK => ?_)
        go_simp
        have hb1 : Below wr.heap.size wr (World.alloc X0 (.cells #[.int .i64 x.1.br, .int .i64 x.1.vol, .int .i64 x.1.blk, .int .u64 x.1.num, .int .u64 x.2] 92)) := hb0.alloc hb0.size _
        obtain ⟨A2, c2, X2, hr2, ho2, hb2⟩ := app_I1 (w := X0) (ob + 1) (.slice A KN c) KN (acc ++ m.take j) (own_stay hown (fun q hq => hb0.block q (own_lt hown q hq))) (Nat.le_trans hoz hb0.size) (by omega) x 67
        refine hK.out _ _ (fun _ => held _ hb1) ?_
        clear hK K
        try simp only [Act.put, List.setIfInBounds_toArray, List.set_cons_zero, List.set_cons_succ]
        refine Z_one (i := 20) rfl (by kernel_rfl) (by rfl) (fun K hK => ?_)
        refine app_run (.tmp 48) (.tmp 64) 67 rfl _ _ _ _ (by rfl) (by rfl) hr2 ?_
        have hP2 : Blk X2 ob #[.slice A KN c] 67 := (hBk.below hb0 hoz).below hb2 (Nat.lt_succ_self _)
        refine hK.out _ _ (fun h => absurd h (none_of_not (by kernel_rfl))) ?_
        clear hK K
        try simp only [Act.put, List.setIfInBounds_toArray, List.set_cons_zero, List.set_cons_succ]
        refine Z_one (i := 21) rfl (by kernel_rfl) (by rfl) (fun K hK => ?_)
        go_simp
        refine hK.out _ _ (fun h => absurd h (none_of_not (by kernel_rfl))) ?_
        clear hK K
        try simp only [Act.put, List.setIfInBounds_toArray, List.set_cons_zero, List.set_cons_succ]
        refine Z_one (i := 22) rfl (by kernel_rfl) (by rfl) (fun K hK => ?_)
        have z0 : X2.cell? ⟨ob, 0, none⟩ = some (.slice A KN c) := (hP2.cell 0).trans rfl
        have z1 := hP2.frozen 0
        go_simp
        clear z0 z1
        refine hK.out _ _ (fun h => absurd h (none_of_not (by kernel_rfl))) ?_
        clear hK K
        try simp only [Act.put, List.setIfInBounds_toArray, List.set_cons_zero, List.set_cons_succ]
        refine Z_done (by kernel_rfl) ?_ _
        go_wp2_with fail
        go_roundw
        case rel =>
          have hnl : (acc ++ m.take (j + 1)).length = KN + 1 := by rw [HTk.out, ← List.append_assoc, List.length_append, HK.out]; rfl
          have hne : ∀ q, (Value.slice A2 (KN + 1) c2).ownBlock = some q → q ≠ ob := fun q hq => by have := own_ge ho2 q hq; omega
          refine ⟨j + 1, by simp, hjn, ⟨A2, c2, ?_, ?_⟩, ?_⟩
          · dsimp only
            rw [hnl]
            exact hP2.set (o := 0) _
          · dsimp only
            rw [hnl, HTk.out, ← List.append_assoc]
            exact own_stay ho2 (fun q hq => Below.heap_setCell X2 ⟨ob, 0, none⟩ _ q (hne q hq))
          · exact ((HBr.out.trans (hb0.mono (Nat.le_of_lt hoz))).trans (hb2.mono (Nat.le_succ _))).setCell (p := ⟨ob, 0, none⟩) (Nat.le_refl _) _
        case measure => (simp [intOf] <;> omega)
      · obtain rfl : j = n := by omega
        have f1 : decide ((j : Int) < (j : Int)) = false := by simp
        have f3 : ((deep : Int) == (deep : Int)) = true := by simp
        have htk : m.take j = m := List.take_of_length_le (by rw [HN.out]; exact Nat.le_refl _)
        rw [htk] at hout
        have HO := Lib.hid hout
        clear hout hbr hh htk hbw
        go_wp2_with fail
        go_ret
        exact ⟨rfl, HO.out, HBr.out⟩
  | succ h ih =>
    intro q n deep m hnd h4 h0 hdh X acc hX hout hlen
    obtain ⟨qs, ls, hn, rfl, hI, hk⟩ := nd_succ.1 hnd
    have hI0 := Lib.hid hI
    have HIn := Lib.hid (hI.below hX)
    have HKi := Lib.hid hk
    have HOut := Lib.hid hout
    have HLen := Lib.hid hlen
    have HX := Lib.hid hX
    have HN := Lib.hid hn
    have HDh := Lib.hid hdh
    obtain ⟨A0, c0', hb0, ho0⟩ := hout
    have y0 : X.cell? ⟨ob, 0, none⟩ = some (.slice A0 acc.length c0') := (hb0.cell 0).trans rfl
    have f1 : decide (high < deep) = false := by simp; omega
    have f3 : decide ((high : Int) < (deep : Int)) = false := by simp; omega
    have f2 : decide ((200 : Int) < (acc.length : Int)) = false := by simp; omega
    clear hnd hI hb0 ho0 hX hlen hn hk hdh
    go_enter Try.func36, Try.ntmps36
    go_wp2_with fail
    refine (leaf_no HIn.out).mono ?_
    rintro e w2 ⟨rfl, rfl⟩
    clear y0 f1 f2 f3
    go_wp2_with fail
    go_loopw [10] (fun i Y => LvRel ob X (fun j => acc ++ (ls.take j).flatten) n i Y) (fun i _ => (n - intOf i).toNat)
    case atStart => exact ⟨0, rfl, Nat.zero_le _, by simpa using HOut.out, Below.refl _ _⟩
    case round =>
      obtain ⟨j, rfl, hj, hout, hbr⟩ := hrel
      simp only at hout
      have HBr := Lib.hid hbr
      have HO := Lib.hid hout
      have hbw : Below w0.heap.size w0 wr := HX.out.trans (hbr.mono hob)
      have HBw := Lib.hid hbw
      obtain ⟨A, ca, C, cc, hin⟩ := hI0.out
      have c2 := bel_cell hbw hin.lt hin.c2
      rw [← HN.out] at c2
      by_cases hjn : j < n
      · have hjq : j < qs.length := by rw [← HN.out]; exact hjn
        have hjl : j < ls.length := by have := HKi.out.length; omega
        obtain ⟨b1, off, rfl, hblt, hcs⟩ := (hin.kids.below hbw) hin.pos
        have hkid := hcs j hjq
        obtain ⟨s, s2, s4, hkd⟩ := HKi.out.get j hjq hjl
        have hfl := flat_len hjl
        have HFs := Lib.hid (flat_succ hjl)
        have HCa : Hid (Calls Try.prog 36 #[.pointer (some ⟨qs[j], 0, none⟩), .int .i64 ((deep + 1 : Nat) : Int), .int .i64 high, .pointer (some ⟨ob, 0, none⟩)] wr (LvPost ob wr (acc ++ (ls.take j).flatten ++ ls[j]))) :=
          ih hkd s4 (by omega) (by have := HDh.out; omega) wr (acc ++ (ls.take j).flatten) hbw HO.out (by rw [List.length_append]; have := HLen.out; omega)
        have e1 : (0 : Int) ≤ (j : Int) := by omega
        have e2 : (j : Int) < (n : Int) := by omega
        have e3 : (deep : Int) ≤ 20 := by have := HDh.out; omega
        have e4 : (0 : Int) ≤ (deep : Int) := by omega
        rw [show (((deep + 1 : Nat) : Int)) = (deep : Int) + 1 by simp] at HCa
        clear hin hcs hblt hkd hfl hbr hbw hout
        generalize qs[j]'(_) = q1 at *
        go_wp2_with fail
        refine HCa.out.mono ?_
        rintro e w5 ⟨rfl, ho5, hb5⟩
        have HO5 := Lib.hid ho5
        have HB5 := Lib.hid (HBr.out.trans hb5)
        clear ho5 hb5
        go_wp2_with fail
        go_roundw
        case rel => exact ⟨j + 1, by simp, hjn, by simp only; rw [HFs.out, ← List.append_assoc]; exact HO5.out, HB5.out⟩
        case measure => (simp [intOf] <;> omega)
      · obtain rfl : j = n := by omega
        have htk : ls.take j = ls := List.take_of_length_le (by have := HKi.out.length; rw [HN.out]; omega)
        rw [htk] at HO
        clear hout hbr hin htk hbw
        go_wp2_with fail
        go_ret
        exact ⟨rfl, HO.out, HBr.out⟩
end Go.Proofs.Ytainljbkejafcaa.N
