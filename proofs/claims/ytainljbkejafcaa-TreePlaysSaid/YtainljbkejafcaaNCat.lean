/- Rows of kids: append, Clone; Grow and Concat for kids, spots and numbers. -/
import Derived.Test.YtainljbkejafcaaNApp
import Derived.Test.YtainljbkejafcaaNKids
import Derived.Lib.AppendZerosOnto
import Derived.Laws.NewBlocks
import Derived.Outline
namespace Go.Proofs.Ytainljbkejafcaa.N
open Go.RowKit Go.Proofs.YtainljbkejafcaaW.PrintMore Go.Proofs.YtainljbkejafcaaW.PrintWords
set_option linter.unusedVariables false
set_option linter.unusedSimpArgs false
theorem infoK : (Try.prog.info? 36).map (fun i => (i.zero, i.size, i.bytes)) = some (some (.pointer none), 1, 8) := by kernel_rfl
def kps (l : List Nat) : List Value := l.map fun q => .pointer (some ⟨q, 0, none⟩)
theorem kps_len (l : List Nat) : (kps l).length = l.length := by simp [kps]
theorem kps_len1 (l : List Nat) : (kps l).length = l.length * 1 := by simp [kps]
theorem kps_app (a b : List Nat) : kps (a ++ b) = kps a ++ kps b := by simp [kps]
theorem kps_one (l : List Nat) : ∀ u ∈ kps l, u.oneCell' = true := by simp [kps, Value.oneCell']
theorem kids_cells {w : World} {b off : Nat} {l : List Nat} (h : ∀ j (h : j < l.length), w.cell? ⟨b, off + j, none⟩ = some (.pointer (some ⟨l[j], 0, none⟩))) : ∀ j u, (kps l)[j]? = some u → w.cell? ((⟨b, off, none⟩ : Addr).add j) = some u := fun j u hj => by
  have hjl : j < l.length := by have := (List.getElem?_eq_some_iff.1 hj).1; simpa [kps] using this
  have ea : (⟨b, off, none⟩ : Addr).add j = ⟨b, off + j, none⟩ := by
    unfold Addr.add
    split
    · subst_vars; rfl
    · simp
  rw [ea, h j hjl]
  rw [← hj]
  simp [kps, List.getElem?_eq_getElem hjl]
theorem kids_own {w : World} {B : Nat} {v : Value} {l : List Nat} (h : w.ownsRow B 36 1 v l.length (kps l)) : ∃ A c, v = .slice A l.length c ∧ l.length ≤ c ∧ c ≤ maxLen ∧ KidsAt w A l ∧ (A = none → l.length = 0 ∧ c = 0) := by
  rcases h.2 with ⟨rfl, e⟩ | ⟨g, cap, cur, rfl, hg, hh, hle, hcm, _⟩
  · exact ⟨none, 0, by rw [e], by omega, by simp [maxLen], fun hl => by omega, fun _ => ⟨e, rfl⟩⟩
  · refine ⟨some ⟨g, 0, none⟩, cap, rfl, hle, hcm, fun hl => ⟨g, 0, rfl, (Array.getElem?_eq_some_iff.1 hh).1, fun j hj => ?_⟩, fun e => by cases e⟩
    rw [Nat.zero_add, h.cellAt j (by omega)]
    simp [kps, List.getElem?_eq_getElem hj]
theorem flat_take {α : Type} (ls : List (List α)) (j : Nat) (h : j < ls.length) : (ls.take (j + 1)).flatten = (ls.take j).flatten ++ ls[j] := by
  rw [List.take_succ_eq_append_getElem h, List.flatten_append]; simp [List.flatten]
theorem flat_le {α : Type} (ls : List (List α)) (j : Nat) : (ls.take j).flatten.length ≤ ls.flatten.length := by
  conv => rhs; rw [← List.take_append_drop j ls, List.flatten_append, List.length_append]
  exact Nat.le_add_right _ _
/-- How many stand in the first lists. -/
def flen {α : Type} (ls : List (List α)) (j : Nat) : Nat := (ls.take j).flatten.length
theorem flen_succ {α : Type} (ls : List (List α)) (j : Nat) (h : j < ls.length) : flen ls (j + 1) = flen ls j + ls[j].length := by unfold flen; rw [flat_take ls j h, List.length_append]
theorem flen_le {α : Type} (ls : List (List α)) (j : Nat) : flen ls j ≤ ls.flatten.length := flat_le ls j
theorem flen_all {α : Type} (ls : List (List α)) : flen ls ls.length = ls.flatten.length := by unfold flen; rw [List.take_length]
theorem app_K {w : World} {o : Oper} {a : Act} {K : Act → World → Prop} {Q : Exit → Act → World → Prop} (s x : Operand)
    (ho : o.op = .call { callee := .builtin .append, args := #[s, x], argTypes := #[37, 37] }) (B : Nat) (v : Value) (n : Nat) (xs : List Nat) (hs : a.eval s = v) (hown : w.ownsRow B 36 1 v n (kps xs))
    (A : Option Addr) (m c : Nat) (ys : List Nat) (hx : a.eval x = .slice A m c) (hy : ys.length = m) (hA : KidsAt w A ys) (h0 : A = none → m = 0 ∧ c = 0) (r : Nat) (hr : n + m = r) (hb : r ≤ 1000000) (hB : B ≤ w.heap.size)
    (h : ∀ A' c' w', w'.ownsRow B 36 1 (.slice A' r c') r (kps (xs ++ ys)) → w.grownBy w' v.ownBlock → ((Value.slice A' r c').ownBlock = v.ownBlock ∨ (Value.slice A' r c').ownBlock = some w.heap.size) → Below B w w' → K (a.put o.dst (.slice A' r c')) w') : Oper.wp Try.prog o a w K Q := by
  obtain ⟨i0, hi0, hz0, hz1, hz2⟩ := info_parts infoK
  subst hy hr
  have key : ∃ v' w', (Builtin.append_ #[37, 37] o.type #[v, .slice A ys.length c]).run Try.prog w = .ok v' w' ∧ w'.ownsRow B 36 1 v' (n + ys.length) (kps xs ++ kps ys) ∧ w.grownBy w' v.ownBlock ∧ (v'.ownBlock = v.ownBlock ∨ v'.ownBlock = some w.heap.size) := by
    cases A with
    | none =>
      obtain ⟨e1, rfl⟩ := h0 rfl
      obtain rfl := List.eq_nil_of_length_eq_zero e1
      exact ⟨v, w, run_append_owned_none w B 37 o.type 36 i0 1 Try.underlying37 hi0 v n (kps xs) hown, by simpa [kps] using hown, ⟨rfl, rfl, rfl, Nat.le_refl _, fun _ _ _ => rfl⟩, .inl rfl⟩
    | some ad =>
      obtain ⟨v', w', r1, r2, r3, _, r4⟩ := run_append_own_at (P := Try.prog) w B 37 o.type 36 i0 (.pointer none) 1 8 Try.underlying37 hi0 hz0 hz1 hz2 rfl (by decide) v n (kps xs) hown ad ys.length c (kps ys) (by rw [kps_len1]) (fun j u hj => by
        have hpos : 0 < ys.length := by
          have := (List.getElem?_eq_some_iff.1 hj).1
          rw [kps_len1] at this; omega
        obtain ⟨b, off, e, hlt, hc⟩ := hA hpos
        cases e
        exact kids_cells hc j u hj) (kps_one ys) (by simp only [maxLen]; omega) (by omega) hB
      exact ⟨v', w', r1, r2, r3, r4⟩
  obtain ⟨v', w', r1, r2, r3, r4⟩ := key
  unfold Oper.wp execOp
  simp only [ho, resolve, invoke, builtin, Sem.run_bind, Sem.run_pure, Result.andThen_ok, List.map_toArray, List.map_cons, List.map_nil, hs, hx, r1]
  have hbel : Below B w w' := (Below.refl B w).grown r3 hB (own_ge hown)
  have hf : ∃ A' c', v' = .slice A' (n + ys.length) c' := by
    rcases r2.2 with ⟨rfl, e⟩ | ⟨g, cap, cur, rfl, _⟩
    · exact ⟨none, 0, by rw [e]⟩
    · exact ⟨_, cap, rfl⟩
  obtain ⟨A', c', rfl⟩ := hf
  exact h A' c' w' (by rw [kps_app]; exact r2) r3 r4 hbel
set_option maxHeartbeats 1600000 in
set_option maxRecDepth 100000 in
theorem grow_K (w : World) (n : Nat) (hn : n ≤ 1000) : Calls Try.prog 91 #[.slice none 0 0, .int .i64 n] w fun e w' => ∃ v, e = .returned v ∧ w'.ownsRow w.heap.size 36 1 v 0 [] ∧ Below w.heap.size w w' := by
  obtain ⟨i0, hi0, hz0, hz1, hz2⟩ := info_parts infoK
  by_cases h0 : n = 0
  · subst h0
    go_enter Try.func91, Try.ntmps91
    go_wp2_with fail
    go_ret
    exact ⟨_, rfl, ⟨rfl, .inl ⟨rfl, rfl⟩⟩, Below.refl _ _⟩
  · have e1 : (0 : Int) < (n : Int) := by omega
    have e2 : ¬ ((n : Int) < 0) := by omega
    have HR := Lib.hid (fun ty => Lib.run_append_grow_zeros w 37 3 ty 36 i0 (.pointer none) .i64 .i64 Try.underlying37 Try.underlying3 hi0 hz0 none 0 0 [] (by exact run_firstCells_none w.drew i0.size 0 0 0) n (by omega) (by omega) (by omega) (by omega) (by rw [hz2]; omega) (by rw [hz2]; exact growslice_fits (by omega) (by omega)))
    have hg1 := grownCap_ge w (0 + n) 0 36
    have hg2 := grownCap_le_maxLen w (0 + n) 0 36 (by unfold maxLen; omega)
    unfold maxLen at hg2
    generalize hG : grownCap w (0 + n) 0 36 = G at *
    have HG := Lib.hid hG
    clear hG
    have e3 : ¬ (G = 0) := by omega
    go_enter Try.func91, Try.ntmps91
    go_wp2_with (at_builtin; refine Lib.wpList_append_run _ rfl _ _ _ _ rfl _ _ rfl rfl _ _ (HR.out _) ?_)
    go_ret
    refine ⟨_, rfl, ⟨rfl, .inr ⟨w.heap.size, G, _, rfl, Nat.le_refl _, heap_alloc_new w.drew _, by omega, by simp only [maxLen]; omega, ?_, by simp⟩⟩, ((bel_drewN w.heap.size w (n := 1)).alloc (Nat.le_refl _) _)⟩
    simp only [Builtin.zeroCells, Value.cells]
    simp
    omega
set_option maxHeartbeats 3200000 in
set_option maxRecDepth 100000 in
theorem concat_K {w : World} (B cc : Nat) (ls : List (List Nat)) (hm : ls.length ≤ 4) (hl : ls.flatten.length ≤ 1000) (hB : B < w.heap.size)
    (hc : ∀ j (h : j < ls.length), ∃ A c, w.cell? ⟨B, j, none⟩ = some (.slice A (ls[j]).length c) ∧ KidsAt w A ls[j] ∧ (A = none → (ls[j]).length = 0 ∧ c = 0)) :
    Calls Try.prog 67 #[.slice (some ⟨B, 0, none⟩) ls.length cc] w fun e w' => ∃ v, e = .returned v ∧ w'.ownsRow w.heap.size 36 1 v ls.flatten.length (kps ls.flatten) ∧ Below w.heap.size w w' := by
  have HC := Lib.hid hc
  have HL := Lib.hid hl
  clear hc hl
  obtain ⟨N, hN⟩ : ∃ N, ls.length = N := ⟨_, rfl⟩
  have HN := Lib.hid hN
  rw [hN] at hm ⊢
  clear hN
  go_enter Try.func67, Try.ntmps67
  go_wp2_with fail
  go_loop [3, 11] (fun s i => ∃ j : Nat, j ≤ N ∧ i = .int .i64 j ∧ s = .int .i64 (flen ls j : Nat)) (fun _ i => (N - intOf i).toNat)
  case atStart => exact ⟨0, Nat.zero_le _, rfl, rfl⟩
  case round =>
    obtain ⟨j, hj, rfl, rfl⟩ := hrel
    by_cases hlt : j < N
    · obtain ⟨A, c, hcell, _, _⟩ := HC.out j (by rw [HN.out]; exact hlt)
      have hb2 : flen ls (j + 1) ≤ 1000 := Nat.le_trans (flen_le ls (j + 1)) HL.out
      have he : Hid (flen ls (j + 1) = flen ls j + (ls[j]'(by rw [HN.out]; exact hlt)).length) := flen_succ ls j _
      have hb3 : flen ls j + (ls[j]'(by rw [HN.out]; exact hlt)).length ≤ 1000 := by have := he.out; omega
      generalize ls[j]'(_) = y at *
      generalize hF : flen ls (j + 1) = F at *
      have HF := Lib.hid hF
      clear hF
      generalize flen ls j = E at *
      generalize y.length = M at *
      have e1 : ¬ ((E : Int) + (M : Int) < 0) := by omega
      have e2 : (j : Int) < (N : Int) := by omega
      have e3 : (0 : Int) ≤ (j : Int) := by omega
      go_wp2_with fail
      go_round
      case rel => exact ⟨j + 1, by omega, by go_num, by rw [HF.out, he.out]; go_num⟩
      case measure => (simp [intOf] <;> omega)
    · obtain rfl : j = N := by omega
      have hfl : Hid ((ls.take j).flatten = ls.flatten) := by show _ = _; rw [List.take_of_length_le (by rw [HN.out]; exact Nat.le_refl _)]
      have hfe : Hid (flen ls j = ls.flatten.length) := by show _ = _; rw [← flen_all, HN.out]
      rw [hfe.out]
      have hb2 := HL.out
      have HG := fun W => Lib.hid (grow_K W ls.flatten.length hb2)
      generalize hE : ls.flatten.length = E at *
      have HE := Lib.hid hE
      clear hE
      go_wp2_with fail
      refine (HG _).out.mono ?_
      rintro e w1 ⟨v0, rfl, hown0, hb0⟩
      go_wp2_with fail
      go_loopw [6, 27] (fun v i wr => ∃ k : Nat, k ≤ j ∧ i = .int .i64 k ∧ wr.ownsRow w.heap.size 36 1 v (flen ls k) (kps (ls.take k).flatten) ∧ Below w.heap.size w wr) (fun _ i _ => (j - intOf i).toNat)
      case atStart => exact ⟨0, Nat.zero_le _, rfl, hown0, hb0⟩
      case round =>
        obtain ⟨k, hk, rfl, hown, hb⟩ := hrel
        have hbz := hb.size
        by_cases hlt2 : k < j
        · obtain ⟨A, c, hcell, hat, hnil⟩ := HC.out k (by rw [HN.out]; exact hlt2)
          have hcell' := (hb.cell (p := ⟨B, k, none⟩) hB).trans hcell
          have hat' := hat.below (hb.mono (Nat.le_refl _))
          have hts := Lib.hid (flat_take ls k (by rw [HN.out]; exact hlt2))
          have hb4 : flen ls (k + 1) ≤ 1000 := Nat.le_trans (by have := flen_le ls (k + 1); rw [HE.out] at this; exact this) HL.out
          have he : Hid (flen ls (k + 1) = flen ls k + (ls[k]'(by rw [HN.out]; exact hlt2)).length) := flen_succ ls k _
          have hb3 : flen ls k + (ls[k]'(by rw [HN.out]; exact hlt2)).length ≤ 1000 := by have := he.out; omega
          clear hcell hat
          generalize ls[k]'(_) = y at *
          have HT := Lib.hid hnil
          have HAt := Lib.hid hat'
          have e2 : (k : Int) < (j : Int) := by omega
          have e3 : (0 : Int) ≤ (k : Int) := by omega
          obtain ⟨M, hM⟩ : ∃ M, y.length = M := ⟨_, rfl⟩
          rw [hM] at hcell'
          have HM := Lib.hid hM
          rcases hown.2 with ⟨hv, hv0⟩ | ⟨gg, cap, cur, hv, _⟩
          all_goals
            subst hv
            clear hnil hat' hM
            try clear hv0
            go_wp2_with (at_builtin; refine wpList_plain rfl fun _ hK => ?_; refine app_K (.tmp 31) (.tmp 32) rfl w.heap.size _ _ _ (by rfl) hown A M c y (by rfl) HM.out HAt.out (by rw [← HM.out]; exact HT.out) _ rfl (by rw [← HM.out]; omega) hbz ?_; intro A1 c1 w2 hown2 hgr2 hat2 hbl2; refine hK _ _ ?_)
            go_roundw
            case rel => exact ⟨k + 1, by omega, by go_num, by rw [hts.out, he.out, HM.out]; exact hown2, hb.trans hbl2⟩
            case measure => (simp [intOf] <;> omega)
        · obtain rfl : k = j := by omega
          go_wp2_with fail
          go_ret
          rw [hfl.out, hfe.out] at hown
          exact ⟨_, rfl, by rw [HE.out]; exact hown, hb⟩
end Go.Proofs.Ytainljbkejafcaa.N
