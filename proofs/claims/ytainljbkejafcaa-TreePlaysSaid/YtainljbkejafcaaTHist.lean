/- THist: joined by merge.py. -/
import Derived.Test.YtainljbkejafcaaTKeep
import Derived.Test.YtainljbkejafcaaTA
import Derived.Test.YtainljbkejafcaaTB
/- Trees and lists that were kept, in two rows. -/
namespace Go.Proofs.Ytainljbkejafcaa.N
open Go.BigFrame Go.RowKit Go.Proofs.YtainljbkejafcaaW.PrintMore Go.Proofs.YtainljbkejafcaaW.PrintWords
set_option linter.unusedVariables false
set_option linter.unusedSimpArgs false
set_option maxRecDepth 100000 in
theorem infoT : (Try.prog.info? 66).map (fun i => (i.zero, i.size, i.bytes)) = some (some (.pointer none), 1, 8) := by kernel_rfl
set_option maxRecDepth 100000 in
theorem infoS : (Try.prog.info? 67).map (fun i => (i.zero, i.size, i.bytes)) = some (some (.slice none 0 0), 1, 24) := by kernel_rfl
def slV (q : Option Addr × Nat × Nat) : Value := .slice q.1 q.2.1 q.2.2
/-- The first i trees and lists that play made stand in two rows. -/
structure Hist (W : World) (B : Nat) (ds : List Dd) (i : Nat) (v7 v8 : Value) (ps : List (Option Addr)) (qs : List (Option Addr × Nat × Nat)) : Prop where
  r7 : RowZ W B 66 (.pointer none) v7 i (ps.map .pointer)
  r8 : RowZ W B 67 (.slice none 0 0) v8 i (qs.map slV)
  at_ : ∀ (j : Nat) p q, ps[j]? = some p → qs[j]? = some q → TreeAt W p (playE (ds.take j)) ∧ ItemsAt W q.1 (playE (ds.take j)) ∧ q.2.1 = (playE (ds.take j)).length
theorem RowZ.apart {w : World} {B B' n n' : Nat} {e e' : TypeId} {z z' v v' : Value} {xs xs' : List Value} (h : RowZ w B e z v n xs) (k : RowZ w B' e' z' v' n' xs') (hne : e ≠ e') : ∀ q, v.ownBlock = some q → v'.ownBlock ≠ some q := fun q hq hq' => by
  obtain ⟨cur, hc, _⟩ := h.2 q hq
  obtain ⟨cur', hc', _⟩ := k.2 q hq'
  exact hne (Obj.cells.inj (Option.some.inj (hc.symm.trans hc'))).2.1
section
variable {W W' : World} {B i : Nat} {ds : List Dd} {v7 v8 : Value} {ps : List (Option Addr)} {qs : List (Option Addr × Nat × Nat)}
theorem Hist.lp (h : Hist W B ds i v7 v8 ps qs) : ps.length = i := by have := h.r7.1.1; simpa using this
theorem Hist.lq (h : Hist W B ds i v7 v8 ps qs) : qs.length = i := by have := h.r8.1.1; simpa using this
theorem Hist.below (h : Hist W B ds i v7 v8 ps qs) (hb : Below W.heap.size W W') : Hist W' B ds i v7 v8 ps qs :=
  ⟨h.r7.below hb, h.r8.below hb, fun j p q h1 h2 => by obtain ⟨a, b, c⟩ := h.at_ j p q h1 h2; exact ⟨a.below hb, b.below hb, c⟩⟩
theorem Hist.pb7 (h : Hist W B ds i v7 v8 ps qs) : ∀ L, v7.ownBlock = some L → PB W L := h.r7.pb (by decide) (by decide) (fun u hu => by
  obtain ⟨p, hp, rfl⟩ := List.mem_map.1 hu
  obtain ⟨j, hj, e⟩ := List.getElem_of_mem hp
  have hj2 : j < qs.length := by rw [h.lq, ← h.lp]; exact hj
  exact (h.at_ j p qs[j] (by rw [List.getElem?_eq_getElem hj, e]) (List.getElem?_eq_getElem hj2)).1.notN) (.inr (.inl rfl))
theorem slV_notN (q : Option Addr × Nat × Nat) : NotN W (slV q) := .inl ⟨_, _, _, rfl⟩
theorem row8_pb {xs : List (Option Addr × Nat × Nat)} (h : RowZ W B 67 (.slice none 0 0) v8 i (xs.map slV)) : ∀ L, v8.ownBlock = some L → PB W L := h.pb (by decide) (by decide) (fun u hu => by
  obtain ⟨p, hp, rfl⟩ := List.mem_map.1 hu
  exact slV_notN p) (.inl ⟨_, _, _, rfl⟩)
theorem Hist.nil (W : World) (B : Nat) (ds : List Dd) : Hist W B ds 0 (.slice none 0 0) (.slice none 0 0) [] [] := ⟨RowZ.nil _ _ _ _, RowZ.nil _ _ _ _, fun j p q h => by simp at h⟩
set_option maxRecDepth 100000 in
theorem Hist.push (h : Hist W B ds i v7 v8 ps qs) (hB : B ≤ W.heap.size) (hi : i ≤ 900) {p A : Option Addr} {n c : Nat} (ht : TreeAt W p (playE (ds.take i))) (hit : ItemsAt W A (playE (ds.take i))) (hn : (playE (ds.take i)).length = n) :
    ∃ A1 c1 W1 A2 c2 W2, (Builtin.append_ #[77, 77] 77 #[v7, .slice (some ⟨W.heap.size, 0, none⟩) 1 1]).run Try.prog (W.alloc (.cells #[.pointer p] 66)) = .ok (.slice A1 (i + 1) c1) W1 ∧
      (Builtin.append_ #[78, 78] 78 #[v8, .slice (some ⟨W1.heap.size, 0, none⟩) 1 1]).run Try.prog (W1.alloc (.cells #[.slice A n c] 67)) = .ok (.slice A2 (i + 1) c2) W2 ∧
      Hist W2 B ds (i + 1) (.slice A1 (i + 1) c1) (.slice A2 (i + 1) c2) (ps ++ [p]) (qs ++ [(A, n, c)]) ∧ TreeAt W2 p (playE (ds.take i)) ∧ ItemsAt W2 A (playE (ds.take i)) ∧ Below B W W2 := by
  obtain ⟨i0, hi0, hz0, hz1, hz2⟩ := info_parts infoT
  obtain ⟨i1, hi1, hy0, hy1, hy2⟩ := info_parts infoS
  obtain ⟨A1, c1, W1, r1, z1, b1, g1, o1⟩ := run_appZ (t := 77) (ty := 77) (x := .pointer p) Try.underlying77 hi0 hz0 hz1 hz2 (by omega) rfl rfl h.r7 hB (by omega)
  have hba : Below W.heap.size W (W.alloc (.cells #[.pointer p] 66)) := (Below.refl _ _).alloc (Nat.le_refl _) _
  have ha := h.below hba
  have hta := ht.below hba
  have hia := hit.below hba
  have p7 := ha.pb7
  have ht1 := hta.grownP p7 g1
  have hi1' := hia.grownP p7 g1
  have q8 : RowZ W1 B 67 (.slice none 0 0) v8 i (qs.map slV) := ha.r8.stay (fun q hq => g1.block q (ha.r8.lt q hq) (fun e => ha.r7.apart ha.r8 (by decide) q e.symm hq))
  have hB1 : B ≤ W1.heap.size := Nat.le_trans hB b1.size
  obtain ⟨A2, c2, W2, r2, z2, b2, g2, o2⟩ := run_appZ (t := 78) (ty := 78) (x := .slice A n c) Try.underlying78 hi1 hy0 hy1 hy2 (by omega) rfl rfl q8 hB1 (by omega)
  have hbb : Below W1.heap.size W1 (W1.alloc (.cells #[.slice A n c] 67)) := (Below.refl _ _).alloc (Nat.le_refl _) _
  have p8 := row8_pb (q8.below hbb)
  have z1b := z1.below hbb
  have z1c : RowZ W2 B 66 (.pointer none) (.slice A1 (i + 1) c1) (i + 1) (ps.map .pointer ++ [.pointer p]) := z1b.stay (fun q hq => g2.block q (z1b.lt q hq) (fun e => z1b.apart (q8.below hbb) (by decide) q hq e.symm))
  refine ⟨A1, c1, W1, A2, c2, W2, r1, r2, ⟨by rw [List.map_append]; exact z1c, by rw [List.map_append]; exact z2, fun j p' q' h1 h2 => ?_⟩, (ht1.below hbb).grownP p8 g2, (hi1'.below hbb).grownP p8 g2, b1.trans b2⟩
  have lp := h.lp
  have lq := h.lq
  by_cases hj : j < i
  · rw [List.getElem?_append_left (by omega)] at h1 h2
    obtain ⟨a, b, d⟩ := ha.at_ j p' q' h1 h2
    exact ⟨((a.grownP p7 g1).below hbb).grownP p8 g2, ((b.grownP p7 g1).below hbb).grownP p8 g2, d⟩
  · obtain ⟨hj1, _⟩ := List.getElem?_eq_some_iff.1 h1
    have hji : j = i := by rw [List.length_append, List.length_singleton] at hj1; omega
    subst hji
    rw [List.getElem?_append_right (by omega), lp, Nat.sub_self] at h1
    rw [List.getElem?_append_right (by omega), lq, Nat.sub_self] at h2
    simp only [List.getElem?_cons_zero, Option.some.injEq] at h1 h2
    subst h1 h2
    exact ⟨((hta.grownP p7 g1).below hbb).grownP p8 g2, ((hia.grownP p7 g1).below hbb).grownP p8 g2, hn.symm⟩
/-- One of them. -/
theorem Hist.get (h : Hist W B ds i v7 v8 ps qs) {j : Nat} (hj : j < i) : ∃ p A n c g7 c7 g8 c8, v7 = .slice (some ⟨g7, 0, none⟩) i c7 ∧ v8 = .slice (some ⟨g8, 0, none⟩) i c8 ∧ W.cell? ⟨g7, j, none⟩ = some (.pointer p) ∧ W.cell? ⟨g8, j, none⟩ = some (.slice A n c) ∧ TreeAt W p (playE (ds.take j)) ∧ ItemsAt W A (playE (ds.take j)) ∧ (playE (ds.take j)).length = n := by
  have lp := h.lp
  have lq := h.lq
  have h1 : ps[j]? = some ps[j] := List.getElem?_eq_getElem (by omega)
  have h2 : qs[j]? = some qs[j] := List.getElem?_eq_getElem (by omega)
  obtain ⟨a, b, d⟩ := h.at_ j _ _ h1 h2
  obtain ⟨x1, x2⟩ := h.r7
  obtain ⟨y1, y2⟩ := h.r8
  rcases x1.2 with ⟨_, e⟩ | ⟨g7, c7, cur, rfl, _⟩
  · omega
  rcases y1.2 with ⟨_, e⟩ | ⟨g8, c8, cur8, rfl, _⟩
  · omega
  refine ⟨_, qs[j].1, qs[j].2.1, qs[j].2.2, g7, c7, g8, c8, rfl, rfl, ?_, ?_, a, b, d.symm⟩
  · rw [x1.cellAt j (by omega), List.getElem?_map, h1]; rfl
  · rw [y1.cellAt j (by omega), List.getElem?_map, h2]; rfl
end
end Go.Proofs.Ytainljbkejafcaa.N
