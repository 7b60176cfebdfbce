/- slices.Delete of one element of a row that the walk owns. -/
import Derived.Test.YtainljbkejafcaaNInsR
import Derived.Lib.FrozenHead2
namespace Go.Proofs.Ytainljbkejafcaa.N
open Go.RowKit Go.Proofs.YtainljbkejafcaaW.PrintMore Go.Proofs.YtainljbkejafcaaW.PrintWords
set_option linter.unusedVariables false
set_option linter.unusedSimpArgs false
theorem step_append_eq {P : Program} {ops : Array Oper} {o : Oper} {a : Act} {w : World} {K : Act → World → Prop} {Q : Exit → Act → World → Prop} {E : Prop}
    (hg : o.guard = none) (d x : Operand) (dT sT : TypeId) (hop : o.op = Op.call { callee := Callee.builtin Builtin.append, args := #[d, x], argTypes := #[dT, sT] })
    (v u : Value) (hd : a.eval d = v) (hx : a.eval x = u) {v' : Value} {w' : World} (hr : (Builtin.append_ #[dT, sT] o.type #[v, u]).run P w = .ok v' w') (hK : K (a.put o.dst v') w') :
    if Region.wanted o (yielded ops a.tmps) = true then Oper.wp P o a w K Q else E := by
  have hw : Region.wanted o (yielded ops a.tmps) = true := by simp [Region.wanted, hg]
  rw [if_pos hw]
  unfold Oper.wp execOp
  simp only [hop, resolve, invoke, builtin, Sem.run_bind, Sem.run_pure, Result.andThen_ok, List.map_toArray, List.map_cons, List.map_nil, hd, hx, hr]
  exact hK
set_option maxHeartbeats 6400000 in
set_option maxRecDepth 100000 in
theorem delete_S {w : World} (B n i : Nat) (v : Value) (xs : List Sp) (hown : w.ownsRow B 26 4 v n (sps xs)) (hl : xs.length = n) (hi : i < n) (hn : n ≤ 1000) (hB : B ≤ w.heap.size) :
    Calls Try.prog 80 #[v, .int .i64 i, .int .i64 ((i : Int) + 1)] w fun e w' => ∃ v', e = .returned v' ∧ w'.ownsRow B 26 4 v' (n - 1) (sps (xs.take i ++ xs.drop (i + 1))) ∧ w.grownBy w' v.ownBlock ∧ v'.ownBlock = v.ownBlock ∧ Below B w w' := by
  obtain ⟨i0, hi0, hz0, hz1, hz2⟩ := info_parts infoSp
  obtain ⟨m, rfl⟩ : ∃ m, n = i + 1 + m := ⟨n - (i + 1), by omega⟩
  rw [show i + 1 + m - 1 = i + m by omega]
  rcases hown.2 with ⟨hv, h0⟩ | ⟨g, cap, cur, hv, hg, hh, hle, hcm, hcs, htk⟩
  · omega
  subst hv
  unfold maxLen at hcm
  have hglt := (Array.getElem?_eq_some_iff.1 hh).1
  have hE1 : (sps (xs.take i)).length = i * 4 := by rw [sps_len, List.length_take, hl, Nat.min_eq_left (by omega)]
  have hE2 : (sps (xs.drop (i + 1))).length = m * 4 := by rw [sps_len, List.length_drop, hl]; congr 1; omega
  have hE3 : (sps [xs[i]]).length = 4 := rfl
  have hE : sps xs = sps (xs.take i) ++ sps [xs[i]] ++ sps (xs.drop (i + 1)) := by
    rw [← sps_app, ← sps_app, List.append_assoc, List.singleton_append, ← List.drop_eq_getElem_cons (by omega), List.take_append_drop]
  rw [hE] at htk
  rw [sps_app]
  have h1b := sps_one (xs.drop (i + 1))
  clear hE hown
  obtain ⟨E1, g1⟩ : ∃ E1, sps (xs.take i) = E1 := ⟨_, rfl⟩
  obtain ⟨E2, g2⟩ : ∃ E2, sps (xs.drop (i + 1)) = E2 := ⟨_, rfl⟩
  obtain ⟨EX, g3⟩ : ∃ EX, sps [xs[i]] = EX := ⟨_, rfl⟩
  rw [g1] at hE1 htk ⊢
  rw [g2] at hE2 htk h1b ⊢
  rw [g3] at hE3 htk
  clear g1 g2 g3
  have hcl : (i + 1 + m) * 4 ≤ cur.toList.length := by rw [Array.length_toList, hcs]; exact Nat.mul_le_mul_right _ hle
  have hcur : ∀ j, j < (i + 1 + m) * 4 → w.cell? ⟨g, j, none⟩ = (E1 ++ EX ++ E2)[j]? := fun j hj => by
    rw [← htk, List.getElem?_take, if_pos hj]
    simp only [World.cell?, hh]
    simp
  have t1 : cur.toList.take (i * 4) = E1 := by
    have := congrArg (List.take (i * 4)) htk
    rw [List.take_take, Nat.min_eq_left (by omega), List.append_assoc, ← hE1, List.take_left] at this
    rw [← hE1]; exact this
  have hap : Hid (∀ ty A c, A = (if cap = i + 1 then (⟨g, 0, none⟩ : Addr) else ⟨g, (i + 1) * 4, none⟩) → (Builtin.append_ #[30, 30] ty #[.slice (some ⟨g, 0, none⟩) i cap, .slice (some A) m c]).run Try.prog w.drew = .ok (.slice (some ⟨g, 0, none⟩) (i + m) cap) (w.drew.setRow g (cur.toList.take (i * 4) ++ E2 ++ cur.toList.drop (i * 4 + E2.length)).toArray)) := fun ty A c hA => by
    subst hA
    have := run_append_roomF (P := Try.prog) w.drew 30 ty 26 i0 Try.underlying30 hi0 g i cap cur (0, 0) hh (by simp) (if cap = i + 1 then (⟨g, 0, none⟩ : Addr) else ⟨g, (i + 1) * 4, none⟩) m c E2 (by rw [hz1, hE2]) (fun j u hj => by
      have hj2 : j < m * 4 := by rw [← hE2]; exact (List.getElem?_eq_some_iff.1 hj).1
      have hm0 : ¬ cap = i + 1 := by intro e; have : m = 0 := by omega
                                     subst this; omega
      rw [if_neg hm0, Addr.add_lit]
      show w.cell? _ = _
      rw [hcur _ (by omega), List.getElem?_append_right (by rw [List.length_append, hE1, hE3]; omega), List.length_append, hE1, hE3, show (i + 1) * 4 + j - (i * 4 + 4) = j by omega]
      exact hj) h1b (by omega) (by rw [hz1, hE2, hcs, ← Nat.add_mul]; exact Nat.mul_le_mul_right _ (by omega))
    rw [hz1] at this
    exact this
  have hc1l : (cur.toList.take (i * 4) ++ E2 ++ cur.toList.drop (i * 4 + E2.length)).length = cap * 4 := by
    have : i * 4 + m * 4 ≤ cap * 4 := by rw [← Nat.add_mul]; exact Nat.mul_le_mul_right _ (by omega)
    rw [List.length_append, List.length_append, List.length_take, List.length_drop, Array.length_toList, hcs, hE2]
    omega
  have hc1t : (cur.toList.take (i * 4) ++ E2 ++ cur.toList.drop (i * 4 + E2.length)).take ((i + m) * 4) = E1 ++ E2 := by
    rw [t1]
    exact List.take_left' (by rw [List.length_append, hE1, hE2]; omega)
  generalize cur.toList.take (i * 4) ++ E2 ++ cur.toList.drop (i * 4 + E2.length) = C1 at *
  have hh1 := setRow_heap w.drew g cur C1.toArray 26 (0, 0) hh
  have hg1 : w.grownBy (w.drew.setRow g C1.toArray) (some g) := ⟨rfl, rfl, rfl, by simp [World.setRow], fun q hq hq2 => setRow_block w.drew _ _ _ (fun e => hq2 (by rw [e]))⟩
  generalize w.drew.setRow g C1.toArray = W1 at *
  obtain ⟨Z, hZ1, hZ2⟩ : ∃ Z : List Value, Z.length = 4 ∧ ∀ ty c, (Builtin.clear_ #[30] ty #[.slice (some ⟨g, (i + m) * 4, none⟩) 1 c]).run Try.prog W1 = .ok (.tuple #[]) (W1.setRow g (C1.take ((i + m) * 4) ++ Z ++ C1.drop ((i + m) * 4 + Z.length)).toArray) := by
    refine ⟨#[.int .i64 0, .int .i64 0, .int .i64 0, .int .u64 0].toList, rfl, fun ty c => ?_⟩
    have hst := run_storeCells_at Try.prog g ((i + m) * 4) 26 #[.int .i64 0, .int .i64 0, .int .i64 0, .int .u64 0].toList 0 C1.toArray W1 hh1 (by
      have : (i + m) * 4 + 4 ≤ cap * 4 := by rw [← Nat.succ_mul]; exact Nat.mul_le_mul_right _ (by omega)
      rw [List.size_toArray, hc1l]; exact this) (by simp [Value.oneCell'])
    simp only [Nat.add_zero] at hst
    have hzc : (Builtin.zeroCells ((.agg #[.int .i64 0, .int .i64 0, .int .i64 0, .int .u64 0]) : Value).cells 1).toList = #[.int .i64 0, .int .i64 0, .int .i64 0, .int .u64 0].toList := by kernel_rfl
    have hzv : ∀ W, (zeroValue 26).run Try.prog W = .ok (.agg #[.int .i64 0, .int .i64 0, .int .i64 0, .int .u64 0]) W := fun W => by kernel_rfl
    simp [Builtin.clear_, run_underlying Try.underlying30, hzv, Result.andThen]
    simp at hzc hst
    rw [hzc, hst]
  have hc2l : (C1.take ((i + m) * 4) ++ Z ++ C1.drop ((i + m) * 4 + Z.length)).length = cap * 4 := by
    have : (i + m) * 4 + 4 ≤ cap * 4 := by rw [← Nat.succ_mul]; exact Nat.mul_le_mul_right _ (by omega)
    rw [List.length_append, List.length_append, List.length_take, List.length_drop, hc1l, hZ1]
    omega
  have hc2t : (C1.take ((i + m) * 4) ++ Z ++ C1.drop ((i + m) * 4 + Z.length)).take ((i + m) * 4) = E1 ++ E2 := by
    rw [hc1t, List.append_assoc]
    exact List.take_left' (by rw [List.length_append, hE1, hE2]; omega)
  generalize C1.take ((i + m) * 4) ++ Z ++ C1.drop ((i + m) * 4 + Z.length) = C2 at *
  have hh2 := setRow_heap W1 g C1.toArray C2.toArray 26 (0, 0) hh1
  have hg2 : w.grownBy (W1.setRow g C2.toArray) (some g) := ⟨hg1.os, hg1.tape, hg1.output, by have := hg1.size; simpa [World.setRow] using this, fun q hq hq2 => (setRow_block W1 _ _ _ (fun e => hq2 (by rw [e]))).trans (hg1.block q hq hq2)⟩
  generalize W1.setRow g C2.toArray = W2 at *
  have hfl : (E1 ++ E2).length = (i + m) * 4 := by rw [List.length_append, hE1, hE2]; omega
  have HF := Lib.hid (And.intro hfl (And.intro hh2 (And.intro hc2l (And.intro hc2t hg2))))
  clear hl hh hcs htk hE1 hE2 hE3 hcl hcur t1 hc1l hc1t hh1 hg1 hZ1 hc2l hc2t hh2 hg2 hfl h1b
  have e1 : (0 : Int) ≤ (i : Int) + 1 := by omega
  have e2 : (i : Int) ≤ (i : Int) + 1 + (m : Int) := by omega
  have e3 : ¬ ((i : Int) = (i : Int) + 1) := by omega
  have e4 : ((i : Int) + 1).toNat = i + 1 := by omega
  have e5 : (i : Int) + 1 ≤ (i : Int) + 1 + (m : Int) := by omega
  have e6 : (i : Int) + 1 + (m : Int) ≤ (cap : Int) := by omega
  have e7 : ¬ (cap = i + m) := by omega
  have e8 : (i : Int) + (m : Int) ≤ (i : Int) + 1 + (m : Int) := by omega
  have e9 : i + 1 + m - (i + m) = 1 := by omega
  have e10 : i + 1 + m - (i + 1) = m := by omega
  have e11 : (i : Int) ≤ (cap : Int) := by omega
  have e12 : ((i : Int) == (i : Int) + 1) = false := by rw [beq_eq_false_iff_ne]; omega
  have hZ3 : ∀ ty c, (Builtin.clear_ #[30] ty #[.slice (some ⟨g, (i + m) * 4, none⟩) 1 c]).run Try.prog W1 = .ok (.tuple #[]) W2 := fun ty c => by
    have := hZ2 ty c
    first | exact this | (rw [Nat.mul_one] at this; exact this)
  clear hZ2
  go_enter Try.func80, Try.ntmps80
  go_wp2_with fail
  have q1 : ∀ c, (Builtin.append_ #[30, 30] 30 #[.slice (some ⟨g, 0, none⟩) i cap, .slice (if cap = i + 1 then some (⟨g, 0, none⟩ : Addr) else some ⟨g, (i + 1) * 4, none⟩) m c]).run Try.prog w.drew = .ok (.slice (some ⟨g, 0, none⟩) (i + m) cap) W1 := fun c => by
    have := hap.out 30 _ c rfl
    split <;> simp_all
  have Q1 := Lib.hid (q1 (cap - (i + 1)))
  clear q1
  go_region_law ((refine step_append_eq rfl _ _ 30 30 rfl (.slice (some ⟨g, 0, none⟩) i cap) (.slice (if cap = i + 1 then some (⟨g, 0, none⟩ : Addr) else some ⟨g, (i + 1) * 4, none⟩) m (cap - (i + 1))) (by simp [Act.eval, Act.put]) (by simp [Act.eval, Act.put]) Q1.out ?_))
  go_wp2_with fail
  all_goals (
    go_ret
    obtain ⟨hfl, hh2, hc2l, hc2t, hg2⟩ := HF.out
    first
      | exact ⟨_, rfl, ⟨hfl, .inr ⟨g, _, C2.toArray, rfl, hg, hh2, by omega, by simp only [maxLen]; omega, by rw [List.size_toArray, hc2l] <;> rw [show cap = i + 1 by assumption], hc2t⟩⟩, hg2, rfl, (Below.refl B w).grown hg2 hB (fun q hq => by cases hq; exact hg)⟩
      | (obtain rfl : cap = i + 1 := by assumption
         exact ⟨_, rfl, ⟨hfl, .inr ⟨g, _, C2.toArray, rfl, hg, hh2, by omega, by simp only [maxLen]; omega, by rw [List.size_toArray, hc2l] <;> rw [show cap = i + 1 by assumption], hc2t⟩⟩, hg2, rfl, (Below.refl B w).grown hg2 hB (fun q hq => by cases hq; exact hg)⟩))
set_option maxHeartbeats 6400000 in
set_option maxRecDepth 100000 in
theorem delete_U {w : World} (B n i : Nat) (v : Value) (xs : List Int) (hown : w.ownsRow B 24 1 v n (u64s xs)) (hl : xs.length = n) (hi : i < n) (hn : n ≤ 1000) (hB : B ≤ w.heap.size) :
    Calls Try.prog 81 #[v, .int .i64 i, .int .i64 ((i : Int) + 1)] w fun e w' => ∃ v', e = .returned v' ∧ w'.ownsRow B 24 1 v' (n - 1) (u64s (xs.take i ++ xs.drop (i + 1))) ∧ w.grownBy w' v.ownBlock ∧ v'.ownBlock = v.ownBlock ∧ Below B w w' := by
  obtain ⟨i0, hi0, hz0, hz1, hz2⟩ := info_parts infoU
  obtain ⟨m, rfl⟩ : ∃ m, n = i + 1 + m := ⟨n - (i + 1), by omega⟩
  rw [show i + 1 + m - 1 = i + m by omega]
  rcases hown.2 with ⟨hv, h0⟩ | ⟨g, cap, cur, hv, hg, hh, hle, hcm, hcs, htk⟩
  · omega
  subst hv
  unfold maxLen at hcm
  have hglt := (Array.getElem?_eq_some_iff.1 hh).1
  have hE1 : (u64s (xs.take i)).length = i * 1 := by rw [u64s_len1, List.length_take, hl, Nat.min_eq_left (by omega)]
  have hE2 : (u64s (xs.drop (i + 1))).length = m * 1 := by rw [u64s_len1, List.length_drop, hl]; congr 1; omega
  have hE3 : (u64s [xs[i]]).length = 1 := rfl
  have hE : u64s xs = u64s (xs.take i) ++ u64s [xs[i]] ++ u64s (xs.drop (i + 1)) := by
    rw [← u64s_app, ← u64s_app, List.append_assoc, List.singleton_append, ← List.drop_eq_getElem_cons (by omega), List.take_append_drop]
  rw [hE] at htk
  rw [u64s_app]
  have h1b := u64s_one (xs.drop (i + 1))
  clear hE hown
  obtain ⟨E1, g1⟩ : ∃ E1, u64s (xs.take i) = E1 := ⟨_, rfl⟩
  obtain ⟨E2, g2⟩ : ∃ E2, u64s (xs.drop (i + 1)) = E2 := ⟨_, rfl⟩
  obtain ⟨EX, g3⟩ : ∃ EX, u64s [xs[i]] = EX := ⟨_, rfl⟩
  rw [g1] at hE1 htk ⊢
  rw [g2] at hE2 htk h1b ⊢
  rw [g3] at hE3 htk
  clear g1 g2 g3
  have hcl : (i + 1 + m) * 1 ≤ cur.toList.length := by rw [Array.length_toList, hcs]; exact Nat.mul_le_mul_right _ hle
  have hcur : ∀ j, j < (i + 1 + m) * 1 → w.cell? ⟨g, j, none⟩ = (E1 ++ EX ++ E2)[j]? := fun j hj => by
    rw [← htk, List.getElem?_take, if_pos hj]
    simp only [World.cell?, hh]
    simp
  have t1 : cur.toList.take (i * 1) = E1 := by
    have := congrArg (List.take (i * 1)) htk
    rw [List.take_take, Nat.min_eq_left (by omega), List.append_assoc, ← hE1, List.take_left] at this
    rw [← hE1]; exact this
  have hap : Hid (∀ ty A c, A = (if cap = i + 1 then (⟨g, 0, none⟩ : Addr) else ⟨g, (i + 1) * 1, none⟩) → (Builtin.append_ #[32, 32] ty #[.slice (some ⟨g, 0, none⟩) i cap, .slice (some A) m c]).run Try.prog w.drew = .ok (.slice (some ⟨g, 0, none⟩) (i + m) cap) (w.drew.setRow g (cur.toList.take (i * 1) ++ E2 ++ cur.toList.drop (i * 1 + E2.length)).toArray)) := fun ty A c hA => by
    subst hA
    have := run_append_roomF (P := Try.prog) w.drew 32 ty 24 i0 Try.underlying32 hi0 g i cap cur (0, 0) hh (by simp) (if cap = i + 1 then (⟨g, 0, none⟩ : Addr) else ⟨g, (i + 1) * 1, none⟩) m c E2 (by rw [hz1, hE2]) (fun j u hj => by
      have hj2 : j < m * 1 := by rw [← hE2]; exact (List.getElem?_eq_some_iff.1 hj).1
      have hm0 : ¬ cap = i + 1 := by intro e; have : m = 0 := by omega
                                     subst this; omega
      rw [if_neg hm0, Addr.add_lit]
      show w.cell? _ = _
      rw [hcur _ (by omega), List.getElem?_append_right (by rw [List.length_append, hE1, hE3]; omega), List.length_append, hE1, hE3, show (i + 1) * 1 + j - (i * 1 + 1) = j by omega]
      exact hj) h1b (by omega) (by rw [hz1, hE2, hcs, ← Nat.add_mul]; exact Nat.mul_le_mul_right _ (by omega))
    rw [hz1] at this
    exact this
  have hc1l : (cur.toList.take (i * 1) ++ E2 ++ cur.toList.drop (i * 1 + E2.length)).length = cap * 1 := by
    have : i * 1 + m * 1 ≤ cap * 1 := by rw [← Nat.add_mul]; exact Nat.mul_le_mul_right _ (by omega)
    rw [List.length_append, List.length_append, List.length_take, List.length_drop, Array.length_toList, hcs, hE2]
    omega
  have hc1t : (cur.toList.take (i * 1) ++ E2 ++ cur.toList.drop (i * 1 + E2.length)).take ((i + m) * 1) = E1 ++ E2 := by
    rw [t1]
    exact List.take_left' (by rw [List.length_append, hE1, hE2]; omega)
  generalize cur.toList.take (i * 1) ++ E2 ++ cur.toList.drop (i * 1 + E2.length) = C1 at *
  have hh1 := setRow_heap w.drew g cur C1.toArray 24 (0, 0) hh
  have hg1 : w.grownBy (w.drew.setRow g C1.toArray) (some g) := ⟨rfl, rfl, rfl, by simp [World.setRow], fun q hq hq2 => setRow_block w.drew _ _ _ (fun e => hq2 (by rw [e]))⟩
  generalize w.drew.setRow g C1.toArray = W1 at *
  obtain ⟨Z, hZ1, hZ2⟩ : ∃ Z : List Value, Z.length = 1 ∧ ∀ ty c, (Builtin.clear_ #[32] ty #[.slice (some ⟨g, (i + m) * 1, none⟩) 1 c]).run Try.prog W1 = .ok (.tuple #[]) (W1.setRow g (C1.take ((i + m) * 1) ++ Z ++ C1.drop ((i + m) * 1 + Z.length)).toArray) := by
    refine ⟨#[.int .u64 0].toList, rfl, fun ty c => ?_⟩
    have hst := run_storeCells_at Try.prog g ((i + m) * 1) 24 #[.int .u64 0].toList 0 C1.toArray W1 hh1 (by
      have : (i + m) * 1 + 1 ≤ cap * 1 := by rw [← Nat.succ_mul]; exact Nat.mul_le_mul_right _ (by omega)
      rw [List.size_toArray, hc1l]; exact this) (by simp [Value.oneCell'])
    simp only [Nat.add_zero] at hst
    have hzc : (Builtin.zeroCells ((.int .u64 0) : Value).cells 1).toList = #[.int .u64 0].toList := by kernel_rfl
    have hzv : ∀ W, (zeroValue 24).run Try.prog W = .ok (.int .u64 0) W := fun W => by kernel_rfl
    simp [Builtin.clear_, run_underlying Try.underlying32, hzv, Result.andThen]
    simp at hzc hst
    rw [hzc, hst]
  have hc2l : (C1.take ((i + m) * 1) ++ Z ++ C1.drop ((i + m) * 1 + Z.length)).length = cap * 1 := by
    have : (i + m) * 1 + 1 ≤ cap * 1 := by rw [← Nat.succ_mul]; exact Nat.mul_le_mul_right _ (by omega)
    rw [List.length_append, List.length_append, List.length_take, List.length_drop, hc1l, hZ1]
    omega
  have hc2t : (C1.take ((i + m) * 1) ++ Z ++ C1.drop ((i + m) * 1 + Z.length)).take ((i + m) * 1) = E1 ++ E2 := by
    rw [hc1t, List.append_assoc]
    exact List.take_left' (by rw [List.length_append, hE1, hE2]; omega)
  generalize C1.take ((i + m) * 1) ++ Z ++ C1.drop ((i + m) * 1 + Z.length) = C2 at *
  have hh2 := setRow_heap W1 g C1.toArray C2.toArray 24 (0, 0) hh1
  have hg2 : w.grownBy (W1.setRow g C2.toArray) (some g) := ⟨hg1.os, hg1.tape, hg1.output, by have := hg1.size; simpa [World.setRow] using this, fun q hq hq2 => (setRow_block W1 _ _ _ (fun e => hq2 (by rw [e]))).trans (hg1.block q hq hq2)⟩
  generalize W1.setRow g C2.toArray = W2 at *
  have hfl : (E1 ++ E2).length = (i + m) * 1 := by rw [List.length_append, hE1, hE2]; omega
  have HF := Lib.hid (And.intro hfl (And.intro hh2 (And.intro hc2l (And.intro hc2t hg2))))
  clear hl hh hcs htk hE1 hE2 hE3 hcl hcur t1 hc1l hc1t hh1 hg1 hZ1 hc2l hc2t hh2 hg2 hfl h1b
  have e1 : (0 : Int) ≤ (i : Int) + 1 := by omega
  have e2 : (i : Int) ≤ (i : Int) + 1 + (m : Int) := by omega
  have e3 : ¬ ((i : Int) = (i : Int) + 1) := by omega
  have e4 : ((i : Int) + 1).toNat = i + 1 := by omega
  have e5 : (i : Int) + 1 ≤ (i : Int) + 1 + (m : Int) := by omega
  have e6 : (i : Int) + 1 + (m : Int) ≤ (cap : Int) := by omega
  have e7 : ¬ (cap = i + m) := by omega
  have e8 : (i : Int) + (m : Int) ≤ (i : Int) + 1 + (m : Int) := by omega
  have e9 : i + 1 + m - (i + m) = 1 := by omega
  have e10 : i + 1 + m - (i + 1) = m := by omega
  have e11 : (i : Int) ≤ (cap : Int) := by omega
  have e12 : ((i : Int) == (i : Int) + 1) = false := by rw [beq_eq_false_iff_ne]; omega
  have hZ3 : ∀ ty c, (Builtin.clear_ #[32] ty #[.slice (some ⟨g, i + m, none⟩) 1 c]).run Try.prog W1 = .ok (.tuple #[]) W2 := fun ty c => by
    have := hZ2 ty c
    first | exact this | (rw [Nat.mul_one] at this; exact this)
  clear hZ2
  go_enter Try.func81, Try.ntmps81
  go_wp2_with fail
  have q1 : ∀ c, (Builtin.append_ #[32, 32] 32 #[.slice (some ⟨g, 0, none⟩) i cap, .slice (if cap = i + 1 then some (⟨g, 0, none⟩ : Addr) else some ⟨g, (i + 1), none⟩) m c]).run Try.prog w.drew = .ok (.slice (some ⟨g, 0, none⟩) (i + m) cap) W1 := fun c => by
    have := hap.out 32 _ c rfl
    split <;> simp_all
  have Q1 := Lib.hid (q1 (cap - (i + 1)))
  clear q1
  go_region_law ((refine step_append_eq rfl _ _ 32 32 rfl (.slice (some ⟨g, 0, none⟩) i cap) (.slice (if cap = i + 1 then some (⟨g, 0, none⟩ : Addr) else some ⟨g, (i + 1), none⟩) m (cap - (i + 1))) (by simp [Act.eval, Act.put]) (by simp [Act.eval, Act.put]) Q1.out ?_))
  go_wp2_with fail
  all_goals (
    go_ret
    obtain ⟨hfl, hh2, hc2l, hc2t, hg2⟩ := HF.out
    first
      | exact ⟨_, rfl, ⟨hfl, .inr ⟨g, _, C2.toArray, rfl, hg, hh2, by omega, by simp only [maxLen]; omega, by rw [List.size_toArray, hc2l] <;> rw [show cap = i + 1 by assumption], hc2t⟩⟩, hg2, rfl, (Below.refl B w).grown hg2 hB (fun q hq => by cases hq; exact hg)⟩
      | (obtain rfl : cap = i + 1 := by assumption
         exact ⟨_, rfl, ⟨hfl, .inr ⟨g, _, C2.toArray, rfl, hg, hh2, by omega, by simp only [maxLen]; omega, by rw [List.size_toArray, hc2l] <;> rw [show cap = i + 1 by assumption], hc2t⟩⟩, hg2, rfl, (Below.refl B w).grown hg2 hB (fun q hq => by cases hq; exact hg)⟩))
end Go.Proofs.Ytainljbkejafcaa.N
