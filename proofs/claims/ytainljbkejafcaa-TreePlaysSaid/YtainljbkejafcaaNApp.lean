/- append to a row of spots, or of numbers, that the walk owns: one step of a region. -/
import Derived.Test.YtainljbkejafcaaNIns
import Derived.Test.YtainljbkejafcaaNHeld
import Derived.Test.YtainljbkejafcaaNRef
namespace Go.Proofs.Ytainljbkejafcaa.N
open Go.RowKit Go.Proofs.YtainljbkejafcaaW.PrintMore Go.Proofs.YtainljbkejafcaaW.PrintWords
set_option linter.unusedVariables false
set_option linter.unusedSimpArgs false
theorem u64s_len1 (l : List Int) : (u64s l).length = l.length * 1 := by simp [u64s]
theorem vals_cells {w : World} {b off : Nat} {l : List Int} (h : ∀ j (h : j < l.length), w.cell? ⟨b, off + j, none⟩ = some (.int .u64 l[j])) : ∀ j u, (u64s l)[j]? = some u → w.cell? ((⟨b, off, none⟩ : Addr).add j) = some u := fun j u hj => by
  have hjl : j < l.length := by have := (List.getElem?_eq_some_iff.1 hj).1; simpa [u64s] using this
  have ea : (⟨b, off, none⟩ : Addr).add j = ⟨b, off + j, none⟩ := by
    unfold Addr.add
    split
    · subst_vars; rfl
    · simp
  rw [ea, h j hjl]
  rw [← hj]
  simp [u64s, List.getElem?_eq_getElem hjl]
theorem SpotsAt.grown {w w' : World} {A : Option Addr} {l : List Sp} {row : Option Nat} (h : SpotsAt w A l) (hg : w.grownBy w' row) (hne : ∀ b off, A = some ⟨b, off, none⟩ → some b ≠ row) : SpotsAt w' A l := fun hl => by
  obtain ⟨b, off, e, hlt, hc⟩ := h hl
  have hbl := hg.block b hlt (hne b off e)
  have := hg.size
  exact ⟨b, off, e, by omega, fun j hj => ⟨(World.cell?_of_block hbl).trans (hc j hj).1, (World.cell?_of_block hbl).trans (hc j hj).2.1, (World.cell?_of_block hbl).trans (hc j hj).2.2.1, (World.cell?_of_block hbl).trans (hc j hj).2.2.2⟩⟩
theorem ValsAt.grown {w w' : World} {A : Option Addr} {l : List Int} {row : Option Nat} (h : ValsAt w A l) (hg : w.grownBy w' row) (hne : ∀ b off, A = some ⟨b, off, none⟩ → some b ≠ row) : ValsAt w' A l := fun hl => by
  obtain ⟨b, off, e, hlt, hc⟩ := h hl
  have hbl := hg.block b hlt (hne b off e)
  have := hg.size
  exact ⟨b, off, e, by omega, fun j hj => (World.cell?_of_block hbl).trans (hc j hj)⟩
theorem spot_new (w : World) (k : Sp) : SpotsAt (w.alloc (.cells #[.int .i64 k.br, .int .i64 k.vol, .int .i64 k.blk, .int .u64 k.num] 26)) (some ⟨w.heap.size, 0, none⟩) [k] := fun _ => by
  have h := heap_alloc_new w (.cells #[.int .i64 k.br, .int .i64 k.vol, .int .i64 k.blk, .int .u64 k.num] 26)
  refine ⟨w.heap.size, 0, rfl, by simp, fun j hj => ?_⟩
  obtain rfl : j = 0 := by simpa using hj
  refine ⟨?_, ?_, ?_, ?_⟩ <;> (simp only [World.cell?, h]; rfl)
theorem val_new (w : World) (v : Int) : ValsAt (w.alloc (.cells #[.int .u64 v] 24)) (some ⟨w.heap.size, 0, none⟩) [v] := fun _ => by
  have h := heap_alloc_new w (.cells #[.int .u64 v] 24)
  refine ⟨w.heap.size, 0, rfl, by simp, fun j hj => ?_⟩
  obtain rfl : j = 0 := by simpa using hj
  simp only [World.cell?, h]; rfl
theorem app_S {w : World} {o : Oper} {a : Act} {K : Act → World → Prop} {Q : Exit → Act → World → Prop} (s x : Operand)
    (ho : o.op = .call { callee := .builtin .append, args := #[s, x], argTypes := #[30, 30] }) (B : Nat) (v : Value) (n : Nat) (xs : List Sp) (hs : a.eval s = v) (hown : w.ownsRow B 26 4 v n (sps xs))
    (A : Option Addr) (m c : Nat) (ys : List Sp) (hx : a.eval x = .slice A m c) (hy : ys.length = m) (hA : SpotsAt w A ys) (h0 : A = none → m = 0 ∧ c = 0) (r : Nat) (hr : n + m = r) (hb : r ≤ 1000000) (hB : B ≤ w.heap.size)
    (h : ∀ A' c' w', w'.ownsRow B 26 4 (.slice A' r c') r (sps (xs ++ ys)) → w.grownBy w' v.ownBlock → ((Value.slice A' r c').ownBlock = v.ownBlock ∨ (Value.slice A' r c').ownBlock = some w.heap.size) → Below B w w' → K (a.put o.dst (.slice A' r c')) w') : Oper.wp Try.prog o a w K Q := by
  obtain ⟨i0, hi0, hz0, hz1, hz2⟩ := info_parts infoSp
  subst hy hr
  have key : ∃ v' w', (Builtin.append_ #[30, 30] o.type #[v, .slice A ys.length c]).run Try.prog w = .ok v' w' ∧ w'.ownsRow B 26 4 v' (n + ys.length) (sps xs ++ sps ys) ∧ w.grownBy w' v.ownBlock ∧ (v'.ownBlock = v.ownBlock ∨ v'.ownBlock = some w.heap.size) := by
    cases A with
    | none =>
      obtain ⟨e1, rfl⟩ := h0 rfl
      obtain rfl := List.eq_nil_of_length_eq_zero e1
      exact ⟨v, w, run_append_owned_none w B 30 o.type 26 i0 4 Try.underlying30 hi0 v n (sps xs) hown, by simpa [sps] using hown, ⟨rfl, rfl, rfl, Nat.le_refl _, fun _ _ _ => rfl⟩, .inl rfl⟩
    | some ad =>
      obtain ⟨v', w', r1, r2, r3, _, r4⟩ := run_append_own_at (P := Try.prog) w B 30 o.type 26 i0 (.agg #[.int .i64 0, .int .i64 0, .int .i64 0, .int .u64 0]) 4 32 Try.underlying30 hi0 hz0 hz1 hz2 rfl (by decide) v n (sps xs) hown ad ys.length c (sps ys) (by rw [sps_len]) (fun j u hj => by
        have hpos : 0 < ys.length := by
          have := (List.getElem?_eq_some_iff.1 hj).1
          rw [sps_len] at this; omega
        obtain ⟨b, off, e, hlt, hc⟩ := hA hpos
        cases e
        exact spots_cells hc j u hj) (sps_one ys) (by simp only [maxLen]; omega) (by omega) hB
      exact ⟨v', w', r1, r2, r3, r4⟩
  obtain ⟨v', w', r1, r2, r3, r4⟩ := key
  unfold Oper.wp execOp
  simp only [ho, resolve, invoke, builtin, Sem.run_bind, Sem.run_pure, Result.andThen_ok, List.map_toArray, List.map_cons, List.map_nil, hs, hx, r1]
  have hbel : Below B w w' := (Below.refl B w).grown r3 hB (own_ge hown)
  have hf : ∃ A' c', v' = .slice A' (n + ys.length) c' := by
    rcases r2.2 with ⟨rfl, e⟩ | ⟨g, cap, cur, rfl, _⟩
    · exact ⟨none, 0, by rw [e]⟩
    · exact ⟨_, cap, rfl⟩
  obtain ⟨A', c', rfl⟩ := hf
  exact h A' c' w' (by rw [sps_app]; exact r2) r3 r4 hbel
theorem app_U {w : World} {o : Oper} {a : Act} {K : Act → World → Prop} {Q : Exit → Act → World → Prop} (s x : Operand)
    (ho : o.op = .call { callee := .builtin .append, args := #[s, x], argTypes := #[32, 32] }) (B : Nat) (v : Value) (n : Nat) (xs : List Int) (hs : a.eval s = v) (hown : w.ownsRow B 24 1 v n (u64s xs))
    (A : Option Addr) (m c : Nat) (ys : List Int) (hx : a.eval x = .slice A m c) (hy : ys.length = m) (hA : ValsAt w A ys) (h0 : A = none → m = 0 ∧ c = 0) (r : Nat) (hr : n + m = r) (hb : r ≤ 1000000) (hB : B ≤ w.heap.size)
    (h : ∀ A' c' w', w'.ownsRow B 24 1 (.slice A' r c') r (u64s (xs ++ ys)) → w.grownBy w' v.ownBlock → ((Value.slice A' r c').ownBlock = v.ownBlock ∨ (Value.slice A' r c').ownBlock = some w.heap.size) → Below B w w' → K (a.put o.dst (.slice A' r c')) w') : Oper.wp Try.prog o a w K Q := by
  obtain ⟨i0, hi0, hz0, hz1, hz2⟩ := info_parts infoU
  subst hy hr
  have key : ∃ v' w', (Builtin.append_ #[32, 32] o.type #[v, .slice A ys.length c]).run Try.prog w = .ok v' w' ∧ w'.ownsRow B 24 1 v' (n + ys.length) (u64s xs ++ u64s ys) ∧ w.grownBy w' v.ownBlock ∧ (v'.ownBlock = v.ownBlock ∨ v'.ownBlock = some w.heap.size) := by
    cases A with
    | none =>
      obtain ⟨e1, rfl⟩ := h0 rfl
      obtain rfl := List.eq_nil_of_length_eq_zero e1
      exact ⟨v, w, run_append_owned_none w B 32 o.type 24 i0 1 Try.underlying32 hi0 v n (u64s xs) hown, by simpa [u64s] using hown, ⟨rfl, rfl, rfl, Nat.le_refl _, fun _ _ _ => rfl⟩, .inl rfl⟩
    | some ad =>
      obtain ⟨v', w', r1, r2, r3, _, r4⟩ := run_append_own_at (P := Try.prog) w B 32 o.type 24 i0 (.int .u64 0) 1 8 Try.underlying32 hi0 hz0 hz1 hz2 rfl (by decide) v n (u64s xs) hown ad ys.length c (u64s ys) (by rw [u64s_len1]) (fun j u hj => by
        have hpos : 0 < ys.length := by
          have := (List.getElem?_eq_some_iff.1 hj).1
          rw [u64s_len1] at this; omega
        obtain ⟨b, off, e, hlt, hc⟩ := hA hpos
        cases e
        exact vals_cells hc j u hj) (u64s_one ys) (by simp only [maxLen]; omega) (by omega) hB
      exact ⟨v', w', r1, r2, r3, r4⟩
  obtain ⟨v', w', r1, r2, r3, r4⟩ := key
  unfold Oper.wp execOp
  simp only [ho, resolve, invoke, builtin, Sem.run_bind, Sem.run_pure, Result.andThen_ok, List.map_toArray, List.map_cons, List.map_nil, hs, hx, r1]
  have hbel : Below B w w' := (Below.refl B w).grown r3 hB (own_ge hown)
  have hf : ∃ A' c', v' = .slice A' (n + ys.length) c' := by
    rcases r2.2 with ⟨rfl, e⟩ | ⟨g, cap, cur, rfl, _⟩
    · exact ⟨none, 0, by rw [e]⟩
    · exact ⟨_, cap, rfl⟩
  obtain ⟨A', c', rfl⟩ := hf
  exact h A' c' w' (by rw [u64s_app]; exact r2) r3 r4 hbel
end Go.Proofs.Ytainljbkejafcaa.N
