/- Rows of spots and of numbers: appends, Clone, and Insert at the end. -/
import Derived.Test.YtainljbkejafcaaNLeaf
import Derived.Test.YtainljbkejafcaaWMore
import Derived.Laws.CopyRow
namespace Go.Proofs.Ytainljbkejafcaa.N
open Go.RowKit Go.Proofs.YtainljbkejafcaaW.PrintMore Go.Proofs.YtainljbkejafcaaW.PrintWords
set_option linter.unusedVariables false
set_option linter.unusedSimpArgs false
theorem own_ge {w : World} {base n size : Nat} {e : TypeId} {v : Value} {xs : List Value} (h : w.ownsRow base e size v n xs) : ∀ q, v.ownBlock = some q → base ≤ q := fun q hq => by
  rcases h.2 with ⟨e, _⟩ | ⟨g, cap, cur, e, hg, _⟩
  · rw [e] at hq; cases hq
  · rw [e] at hq; simp only [Value.ownBlock, Option.some.injEq] at hq; omega
theorem own_lt {w : World} {base n size : Nat} {e : TypeId} {v : Value} {xs : List Value} (h : w.ownsRow base e size v n xs) : ∀ q, v.ownBlock = some q → q < w.heap.size := fun q hq => by
  rcases h.2 with ⟨e, _⟩ | ⟨g, cap, cur, e, hg, hh, _⟩
  · rw [e] at hq; cases hq
  · rw [e] at hq; simp only [Value.ownBlock, Option.some.injEq] at hq; subst hq; exact (Array.getElem?_eq_some_iff.1 hh).1
/-- A row stays owned where its block stays. -/
theorem own_stay {w w' : World} {base n size : Nat} {e : TypeId} {v : Value} {xs : List Value} (h : w.ownsRow base e size v n xs) (hb : ∀ q, v.ownBlock = some q → w'.heap[q]? = w.heap[q]?) : w'.ownsRow base e size v n xs := by
  refine ⟨h.1, ?_⟩
  rcases h.2 with h2 | ⟨g, cap, cur, e1, e2, e3, r⟩
  · exact .inl h2
  · exact .inr ⟨g, cap, cur, e1, e2, (hb g (by rw [e1]; rfl)).trans e3, r⟩
theorem own_base {w : World} {base base' n size : Nat} {e : TypeId} {v : Value} {xs : List Value} (h : w.ownsRow base e size v n xs) (hb : base' ≤ base) : w.ownsRow base' e size v n xs := by
  refine ⟨h.1, ?_⟩
  rcases h.2 with h2 | ⟨g, cap, cur, e1, e2, r⟩
  · exact .inl h2
  · exact .inr ⟨g, cap, cur, e1, by omega, r⟩
theorem list_one {P : Program} {w : World} {ops : Array Oper} {rest : List Oper} {o : Oper} {a : Act} {Q : Exit → Act → World → Prop} (hgd : o.guard = none) (s x : Operand) (t : TypeId)
    (ho : o.op = .call { callee := .builtin .append, args := #[s, x], argTypes := #[t, t] })
    (base : Nat) (e : TypeId) (i : TypeInfo) (z : Value) (size bytes : Nat) (ht : P.underlying t = some (.slice e)) (hi : P.info? e = some i) (hz : i.zero = some z)
    (hsize : i.size = size) (hby : i.bytes = bytes) (hzs : z.cells.size = size) (hsz : 0 < size)
    (v : Value) (n : Nat) (xs : List Value) (hs : a.eval s = v) (hown : w.ownsRow base e size v n xs)
    (ad : Addr) (m c : Nat) (news : List Value) (hx : a.eval x = .slice (some ad) m c) (hl : news.length = m * size) (hnews : ∀ j u, news[j]? = some u → w.cell? (ad.add j) = some u) (h1 : ∀ u ∈ news, u.oneCell' = true)
    (h63 : n + m ≤ maxLen) (hbytes : (n + m) * bytes ≤ 140737488355328) (hbase : base ≤ w.heap.size)
    (h : ∀ v' w', w'.ownsRow base e size v' (n + m) (xs ++ news) → w.grownBy w' v.ownBlock → (v'.ownBlock = v.ownBlock ∨ v'.ownBlock = some w.heap.size) → wpList P ops Q rest (a.put o.dst v') w') : wpList P ops Q (o :: rest) a w := by
  refine wpList_plain hgd fun _ hK => ?_
  obtain ⟨v', w', hr, h2, h3, _, h4⟩ := run_append_own_at (P := P) w base t o.type e i z size bytes ht hi hz hsize hby hzs hsz v n xs hown ad m c news hl hnews h1 h63 hbytes hbase
  unfold Oper.wp execOp
  simp only [ho, resolve, invoke, builtin, Sem.run_bind, Sem.run_pure, Result.andThen_ok, List.map_toArray, List.map_cons, List.map_nil, hs, hx, hr]
  exact hK _ _ (h v' w' h2 h3 h4)
theorem run_append_both {P : Program} {w : World} (base base' : Nat) (t ty e : TypeId) (i : TypeInfo) (z : Value) (size bytes : Nat) (ht : P.underlying t = some (.slice e)) (hi : P.info? e = some i) (hz : i.zero = some z)
    (hsize : i.size = size) (hby : i.bytes = bytes) (hzs : z.cells.size = size) (hsz : 0 < size)
    (v : Value) (n : Nat) (xs : List Value) (hown : w.ownsRow base e size v n xs)
    (v2 : Value) (m : Nat) (ys : List Value) (hown2 : w.ownsRow base' e size v2 m ys) (h1 : ∀ u ∈ ys, u.oneCell' = true)
    (h63 : n + m ≤ maxLen) (hbytes : (n + m) * bytes ≤ 140737488355328) (hbase : base ≤ w.heap.size) :
    ∃ v' w', (Builtin.append_ #[t, t] ty #[v, v2]).run P w = .ok v' w' ∧ w'.ownsRow base e size v' (n + m) (xs ++ ys) ∧ w.grownBy w' v.ownBlock ∧ (v'.ownBlock = v.ownBlock ∨ v'.ownBlock = some w.heap.size) := by
  rcases hown2.2 with ⟨rfl, rfl⟩ | ⟨g, cap, cur, rfl, _⟩
  · have e0 : ys = [] := by have := hown2.1; rw [Nat.zero_mul] at this; exact List.eq_nil_of_length_eq_zero this
    subst e0
    exact ⟨v, w, run_append_owned_none w base t ty e i size ht hi v n xs hown, by simpa using hown, ⟨rfl, rfl, rfl, Nat.le_refl _, fun _ _ _ => rfl⟩, .inl rfl⟩
  · obtain ⟨v', w', a, b, c, _, d⟩ := run_append_own_at (P := P) w base t ty e i z size bytes ht hi hz hsize hby hzs hsz v n xs hown ⟨g, 0, none⟩ m cap ys hown2.1 (fun j u hj => by
      have hjl : j < m * size := by rw [← hown2.1]; exact (List.getElem?_eq_some_iff.1 hj).1
      have ea : (⟨g, 0, none⟩ : Addr).add j = ⟨g, j, none⟩ := by
        unfold Addr.add
        split
        · subst_vars; rfl
        · simp
      rw [ea, hown2.cellAt j hjl, hj]) h1 h63 hbytes hbase
    exact ⟨v', w', a, b, c, d⟩
theorem list_both {P : Program} {w : World} {ops : Array Oper} {rest : List Oper} {o : Oper} {a : Act} {Q : Exit → Act → World → Prop} (hgd : o.guard = none) (s x : Operand) (t : TypeId)
    (ho : o.op = .call { callee := .builtin .append, args := #[s, x], argTypes := #[t, t] })
    (base base' : Nat) (e : TypeId) (i : TypeInfo) (z : Value) (size bytes : Nat) (ht : P.underlying t = some (.slice e)) (hi : P.info? e = some i) (hz : i.zero = some z)
    (hsize : i.size = size) (hby : i.bytes = bytes) (hzs : z.cells.size = size) (hsz : 0 < size)
    (v : Value) (n : Nat) (xs : List Value) (hs : a.eval s = v) (hown : w.ownsRow base e size v n xs)
    (v2 : Value) (m : Nat) (ys : List Value) (hx : a.eval x = v2) (hown2 : w.ownsRow base' e size v2 m ys) (h1 : ∀ u ∈ ys, u.oneCell' = true)
    (h63 : n + m ≤ maxLen) (hbytes : (n + m) * bytes ≤ 140737488355328) (hbase : base ≤ w.heap.size)
    (h : ∀ v' w', w'.ownsRow base e size v' (n + m) (xs ++ ys) → w.grownBy w' v.ownBlock → (v'.ownBlock = v.ownBlock ∨ v'.ownBlock = some w.heap.size) → wpList P ops Q rest (a.put o.dst v') w') : wpList P ops Q (o :: rest) a w := by
  refine wpList_plain hgd fun _ hK => ?_
  obtain ⟨v', w', hr, h2, h3, h4⟩ := run_append_both (P := P) (w := w) base base' t o.type e i z size bytes ht hi hz hsize hby hzs hsz v n xs hown v2 m ys hown2 h1 h63 hbytes hbase
  unfold Oper.wp execOp
  simp only [ho, resolve, invoke, builtin, Sem.run_bind, Sem.run_pure, Result.andThen_ok, List.map_toArray, List.map_cons, List.map_nil, hs, hx, hr]
  exact hK _ _ (h v' w' h2 h3 h4)

theorem infoU : (Try.prog.info? 24).map (fun i => (i.zero, i.size, i.bytes)) = some (some (.int .u64 0), 1, 8) := by kernel_rfl
theorem infoSp : (Try.prog.info? 26).map (fun i => (i.zero, i.size, i.bytes)) = some (some (.agg #[.int .i64 0, .int .i64 0, .int .i64 0, .int .u64 0]), 4, 32) := by kernel_rfl
def u64s (l : List Int) : List Value := l.map (Value.int .u64)
def sps : List Sp → List Value
  | [] => []
  | s :: l => s.cs ++ sps l
theorem u64s_len (l : List Int) : (u64s l).length = l.length := by simp [u64s]
theorem sps_len : ∀ l, (sps l).length = l.length * 4
  | [] => rfl
  | s :: l => by simp [sps, sps_len l, Sp.cs]; omega
theorem sps_app : ∀ a b, sps (a ++ b) = sps a ++ sps b
  | [], b => rfl
  | s :: l, b => by simp [sps, sps_app l b]
theorem sps_get : ∀ (l : List Sp) (j : Nat) (h : j < l.length), (sps l)[j * 4]? = some (.int .i64 l[j].br) ∧ (sps l)[j * 4 + 1]? = some (.int .i64 l[j].vol) ∧ (sps l)[j * 4 + 2]? = some (.int .i64 l[j].blk) ∧ (sps l)[j * 4 + 3]? = some (.int .u64 l[j].num)
  | s :: l, 0, _ => by simp [sps, Sp.cs]
  | s :: l, j + 1, h => by
    have ih := sps_get l j (by simpa using h)
    have e : ∀ k, (sps (s :: l))[(j + 1) * 4 + k]? = (sps l)[j * 4 + k]? := fun k => by
      rw [sps, List.getElem?_append_right (by simp [Sp.cs]; omega)]
      congr 1
      simp [Sp.cs]; omega
    simp only [List.getElem_cons_succ]
    have e0 := e 0
    simp only [Nat.add_zero] at e0
    rw [e0, e 1, e 2, e 3]
    exact ih
theorem sps_one : ∀ (l : List Sp), ∀ u ∈ sps l, u.oneCell' = true
  | [], u, h => by simp [sps] at h
  | s :: l, u, h => by
    simp only [sps, List.mem_append] at h
    rcases h with h | h
    · simp [Sp.cs] at h; rcases h with rfl | rfl | rfl | rfl <;> rfl
    · exact sps_one l u h
theorem u64s_one (l : List Int) : ∀ u ∈ u64s l, u.oneCell' = true := by simp [u64s, Value.oneCell']
/-- The cells of spots, as they lie. -/
theorem spots_cells {w : World} {b off : Nat} {l : List Sp} (h : ∀ j (h : j < l.length), SpAt w b (off + j * 4) l[j]) : ∀ j u, (sps l)[j]? = some u → w.cell? ((⟨b, off, none⟩ : Addr).add j) = some u := by
  intro j u hj
  have hjl : j < l.length * 4 := by have := (List.getElem?_eq_some_iff.1 hj).1; rw [sps_len] at this; exact this
  have ea : (⟨b, off, none⟩ : Addr).add j = ⟨b, off + j, none⟩ := by
    unfold Addr.add
    split
    · subst_vars; rfl
    · simp
  rw [ea]
  have hq : j / 4 < l.length := by omega
  obtain ⟨s0, s1, s2, s3⟩ := h (j / 4) hq
  obtain ⟨g0, g1, g2, g3⟩ := sps_get l (j / 4) hq
  have hj4 : j = j / 4 * 4 + j % 4 := by omega
  rcases (show j % 4 = 0 ∨ j % 4 = 1 ∨ j % 4 = 2 ∨ j % 4 = 3 by omega) with r | r | r | r
  · rw [r, Nat.add_zero] at hj4; rw [hj4] at hj ⊢; rw [g0] at hj; rw [s0]; exact hj
  · rw [r] at hj4; rw [hj4] at hj ⊢; rw [g1] at hj; rw [← Nat.add_assoc, s1]; exact hj
  · rw [r] at hj4; rw [hj4] at hj ⊢; rw [g2] at hj; rw [← Nat.add_assoc, s2]; exact hj
  · rw [r] at hj4; rw [hj4] at hj ⊢; rw [g3] at hj; rw [← Nat.add_assoc, s3]; exact hj
/-- A row of spots that the walk owns, as spots. -/
theorem spots_own {w : World} {B : Nat} {v : Value} {l : List Sp} (h : w.ownsRow B 26 4 v l.length (sps l)) : ∃ A c, v = .slice A l.length c ∧ l.length ≤ c ∧ c ≤ maxLen ∧ SpotsAt w A l := by
  rcases h.2 with ⟨rfl, e⟩ | ⟨g, cap, cur, rfl, hg, hh, hle, hcm, _⟩
  · exact ⟨none, 0, by rw [e], by omega, by simp [maxLen], fun hl => by omega⟩
  · refine ⟨some ⟨g, 0, none⟩, cap, rfl, hle, hcm, fun hl => ⟨g, 0, rfl, (Array.getElem?_eq_some_iff.1 hh).1, fun j hj => ?_⟩⟩
    obtain ⟨g0, g1, g2, g3⟩ := sps_get l j hj
    rw [Nat.zero_add]
    refine ⟨?_, ?_, ?_, ?_⟩
    · rw [h.cellAt _ (by omega), g0]
    · rw [h.cellAt _ (by omega), g1]
    · rw [h.cellAt _ (by omega), g2]
    · rw [h.cellAt _ (by omega), g3]
theorem vals_own {w : World} {B : Nat} {v : Value} {l : List Int} (h : w.ownsRow B 24 1 v l.length (u64s l)) : ∃ A c, v = .slice A l.length c ∧ l.length ≤ c ∧ c ≤ maxLen ∧ ValsAt w A l := by
  rcases h.2 with ⟨rfl, e⟩ | ⟨g, cap, cur, rfl, hg, hh, hle, hcm, _⟩
  · exact ⟨none, 0, by rw [e], by omega, by simp [maxLen], fun hl => by omega⟩
  · refine ⟨some ⟨g, 0, none⟩, cap, rfl, hle, hcm, fun hl => ⟨g, 0, rfl, (Array.getElem?_eq_some_iff.1 hh).1, fun j hj => ?_⟩⟩
    rw [Nat.zero_add, h.cellAt j (by omega)]
    simp [u64s, List.getElem?_eq_getElem hj]
theorem empty_own (w : World) (T : TypeId) (k : Nat) (hk : 0 < k) : (w.alloc (.cells #[] T)).ownsRow w.heap.size T k (.slice (some ⟨w.heap.size, 0, none⟩) 0 0) 0 [] :=
  ⟨by simp, .inr ⟨w.heap.size, 0, #[], rfl, Nat.le_refl _, heap_alloc_new w _, Nat.le_refl _, by simp [maxLen], by simp, by simp⟩⟩
set_option maxHeartbeats 1600000 in
set_option maxRecDepth 100000 in
theorem clone_spots {w : World} (b off ca : Nat) (l : List Sp) (hl : l.length ≤ 1000) (h0 : 0 < l.length) (hb : b < w.heap.size) (hc : ∀ j (h : j < l.length), SpAt w b (off + j * 4) l[j]) :
    Calls Try.prog 86 #[.slice (some ⟨b, off, none⟩) l.length ca] w fun e w' => ∃ v, e = .returned v ∧ w'.ownsRow w.heap.size 26 4 v l.length (sps l) ∧ Below w.heap.size w w' := by
  obtain ⟨i0, hi0, hz0, hz1, hz2⟩ := info_parts infoSp
  have fm : 0 + l.length ≤ maxLen := by simp only [maxLen]; omega
  have fb : (0 + l.length) * 32 ≤ 140737488355328 := by omega
  have HC : Hid (∀ j u, (sps l)[j]? = some u → (w.alloc (.cells #[] 26)).cell? ((⟨b, off, none⟩ : Addr).add j) = some u) := fun j u hj => by
    have h := spots_cells hc j u hj
    have hlt := World.block_lt_of_cell? w _ h
    exact (World.cell?_alloc_some _ _ _ (by rw [h]; rfl)).trans h
  clear hc
  have he : ∀ W : World, (binOp .eql 30 (.slice (some ⟨b, off, none⟩) l.length ca) (.slice none 0 0)).run Try.prog W = .ok (.bool false) W := fun _ => rfl
  go_enter Try.func86, Try.ntmps86
  go_wp2_with (at_builtin; refine list_one rfl (.tmp 5) (.tmp 6) 30 rfl w.heap.size 26 i0 (.agg #[.int .i64 0, .int .i64 0, .int .i64 0, .int .u64 0]) 4 32 Try.underlying30 hi0 hz0 hz1 hz2 rfl (by decide) _ _ _ (by rfl) (empty_own w _ 4 (by decide)) ⟨b, off, none⟩ l.length ca (sps l) (by rfl) (sps_len l) HC.out (sps_one l) fm fb (by simp) ?_; intro v1 w1 hown1 hgr1 hat1)
  go_ret
  refine ⟨_, rfl, by simpa using hown1, ?_⟩
  exact ((Below.refl _ _).alloc (Nat.le_refl _) _).grown hgr1 (by simp) (fun k hk => by simp [Value.ownBlock] at hk; omega)
end Go.Proofs.Ytainljbkejafcaa.N
