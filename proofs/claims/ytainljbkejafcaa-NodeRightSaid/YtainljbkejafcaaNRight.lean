/- Right tells true of a right root. -/
import Derived.Test.YtainljbkejafcaaNLookN
namespace Go.Proofs.Ytainljbkejafcaa.N
open Go.BigFrame Go.RowKit Go.Proofs.YtainljbkejafcaaW.PrintMore Go.Proofs.YtainljbkejafcaaW.PrintWords
set_option linter.unusedVariables false
set_option linter.unusedSimpArgs false
theorem all2_tall {w : World} {h : Nat} (ih : ∀ {p n : Nat} {l : List Ent}, Nd w h p l n → 0 < n → (0 < h → 2 ≤ n) → 2 ^ h ≤ l.length) : ∀ {qs : List Nat} {ls : List (List Ent)}, All2 (Kid w h 2) qs ls → ls.length * 2 ^ h ≤ ls.flatten.length
  | [], [], _ => by simp
  | q :: qs, l :: ls, hk => by
    obtain ⟨⟨s, s1, s2, s3⟩, ht⟩ := hk
    have a := ih s3 (by omega) (fun _ => s1)
    have b := all2_tall (fun {p n l} => @ih p n l) ht
    rw [List.flatten_cons, List.length_append, List.length_cons, Nat.succ_mul]
    omega
  | [], _ :: _, hk => hk.elim
  | _ :: _, [], hk => hk.elim
theorem Nd.tall {w : World} : ∀ {h p n : Nat} {l : List Ent}, Nd w h p l n → 0 < n → (0 < h → 2 ≤ n) → 2 ^ h ≤ l.length
  | 0, p, n, l, hn, h0, _ => by have := hn.1; simp; omega
  | h + 1, p, n, l, hn, h0, h2 => by
    obtain ⟨qs, ls, a, b, c, d⟩ := nd_succ.1 hn
    have hs := all2_tall (fun {p n l} (x : Nd w h p l n) y z => Nd.tall x y z) d
    have := d.length
    have h2' := h2 (by omega)
    have hm : 2 * 2 ^ h ≤ ls.length * 2 ^ h := Nat.mul_le_mul_right _ (by omega)
    rw [b, Nat.pow_succ]
    omega
/-- The last spot. -/
def lstE (m : List Ent) : Sp := (m.getLast?.map (·.1)).getD sp0
theorem lstE_eq (m : List Ent) : ((m.map (·.1))[(m.map (·.1)).length - 1]?).getD sp0 = lstE m := by
  rw [List.length_map, List.getElem?_map, lstE, List.getLast?_eq_getElem?]
theorem lstE_mem {m : List Ent} (h : m ≠ []) : ∃ x ∈ m, x.1 = lstE m := by
  refine ⟨m.getLast h, List.getLast_mem h, ?_⟩
  rw [lstE, List.getLast?_eq_some_getLast h]
  rfl
theorem lstE_flatten : ∀ {ls : List (List Ent)}, ls ≠ [] → (∀ m ∈ ls, m ≠ []) → lstE ls.flatten = lstE (ls.getD (ls.length - 1) [])
  | [], h, _ => absurd rfl h
  | [m], _, _ => by simp
  | m :: n :: t, _, hne => by
    have ih := lstE_flatten (ls := n :: t) (by simp) (fun x hx => hne x (by simp [hx]))
    have e : (m :: n :: t).getD ((m :: n :: t).length - 1) [] = (n :: t).getD ((n :: t).length - 1) [] := by simp
    rw [e, ← ih, List.flatten_cons]
    unfold lstE
    rw [List.getLast?_append]
    have hn : (n :: t).flatten ≠ [] := by
      rw [List.flatten_cons]
      intro h0
      exact hne n (by simp) (List.append_eq_nil_iff.1 h0).1
    rw [List.getLast?_eq_some_getLast hn]
    rfl
theorem flat_lt {ls : List (List Ent)} (ha : Asc ls.flatten) {i j : Nat} (hi : i < ls.length) (hj : j < ls.length) (hij : i < j) : ∀ x ∈ ls[i], ∀ y ∈ ls[j], lt x.1 y.1 = true := by
  unfold Asc at ha
  obtain ⟨_, h2⟩ := List.pairwise_flatten.1 ha
  exact List.pairwise_iff_getElem.1 h2 i j hi hj hij
theorem look_nd : ∀ (h : Nat) {w : World} {p n : Nat} {m : List Ent} {root : Bool}, Nd w h p m n → (if root = true then 1 ≤ n else 2 ≤ n) → (0 < h → 2 ≤ n) → n ≤ 4 → Asc m → h ≤ 50 →
    Calls Try.prog 58 #[.pointer (some ⟨p, 0, none⟩), .bool root] w (LookX w (h + 1) (lstE m))
  | 0, w, p, n, m, root, hn, h1, _, h4, ha, _ => by
    obtain ⟨e, hL⟩ := hn
    have h0 : 0 < n := by split at h1 <;> omega
    refine look_leafN hL (by rw [List.length_map]; omega) (by rw [List.length_map]; omega) (by rw [List.length_map, List.length_map]) (fun j hj => ?_) root ?_ (lstE_eq m)
    · rw [List.getElem_map, List.getElem_map]
      unfold Asc at ha
      exact (List.pairwise_iff_getElem.1 ha) j (j + 1) (by rw [List.length_map] at hj; omega) (by simpa using hj) (by omega)
    · rw [List.length_map]
      unfold rightN
      rw [Bool.and_eq_true, Bool.and_eq_true, decide_eq_true_eq, decide_eq_true_eq, Bool.or_eq_true, decide_eq_true_eq]
      refine ⟨⟨by omega, by omega⟩, ?_⟩
      cases root with
      | true => exact .inl rfl
      | false => right; simp at h1; omega
  | h + 1, w, p, n, m, root, hn, h1, h2, h4, ha, hh => by
    obtain ⟨qs, ls, hq, hm, hI, hk⟩ := nd_succ.1 hn
    have hlen := hk.length
    have h2' := h2 (by omega)
    subst hm
    have hne := kids_ne (by omega) hk
    have hls : ls ≠ [] := fun e => by rw [e, List.length_nil] at hlen; omega
    have hkl : (ls.map hd).length = n := by rw [List.length_map]; omega
    have key := look_innerN (H := h + 1) hI (by omega) (by omega) (fun j hj => ?_) root (fun j => lstE (ls.getD j [])) (fun j hj hj' => ?_) (by omega)
    · rw [hkl] at key
      rw [lstE_flatten hls hne, show ls.length = n by omega]
      exact key
    · rw [List.length_map] at hj
      rw [List.getElem_map, List.getElem_map]
      obtain ⟨x, hx, ex⟩ := hd_mem (hne _ (List.getElem_mem (show j < ls.length by omega)))
      obtain ⟨y, hy, ey⟩ := hd_mem (hne _ (List.getElem_mem hj))
      rw [← ex, ← ey]
      exact flat_lt ha (by omega) hj (Nat.lt_succ_self j) x hx y hy
    · have hjl : j < ls.length := by rw [List.length_map] at hj'; exact hj'
      obtain ⟨s, s2, s4, hkid⟩ := hk.get j hj hjl
      obtain ⟨kk, k1, k2, k3⟩ := hkid.keys
      have hgd : ls.getD j [] = ls[j] := by rw [List.getD_eq_getElem?_getD, List.getElem?_eq_getElem hjl]; rfl
      refine ⟨⟨kk, k1, by omega, by omega, fun h0 => by rw [k3 h0, List.getElem_map]⟩, fun X hX => ?_, fun h0 => ?_⟩
      · rw [hgd]
        exact look_nd h (hkid.below hX) (by simpa using s2) (fun _ => s2) s4 (asc_kid ha hjl) (by omega)
      · have hgd2 : ls.getD (j - 1) [] = ls[j - 1] := by rw [List.getD_eq_getElem?_getD, List.getElem?_eq_getElem (by omega)]; rfl
        rw [hgd2, List.getElem_map]
        obtain ⟨x, hx, ex⟩ := lstE_mem (hne _ (List.getElem_mem (show j - 1 < ls.length by omega)))
        obtain ⟨y, hy, ey⟩ := hd_mem (hne _ (List.getElem_mem hjl))
        rw [← ex, ← ey]
        exact flat_lt ha (by omega) hjl (by omega) x hx y hy
theorem right_nd {w : World} {h p n : Nat} {m : List Ent} {root : Bool} (hn : Nd w h p m n) (h1 : if root = true then 1 ≤ n else 2 ≤ n) (h2 : 0 < h → 2 ≤ n) (h4 : n ≤ 4) (ha : Asc m) (hh : h ≤ 50) :
    Calls Try.prog 27 #[.pointer (some ⟨p, 0, none⟩), .bool root] w fun e w' => e = .returned (.bool true) ∧ Below w.heap.size w w' := by
  have HH : Hid (∀ X, Below w.heap.size w X → Calls Try.prog 58 #[.pointer (some ⟨p, 0, none⟩), .bool root] X (LookX X (h + 1) (lstE m))) := fun X hX => look_nd h (hn.below hX) h1 h2 h4 ha hh
  clear hn h1 h2 h4 ha hh
  go_enter Try.func27, Try.ntmps27
  go_wp2_with fail
  refine (HH.out _ ?_).mono ?_
  · first | exact Below.refl _ _ | exact bel_drewN _ _ (n := 1)
  rintro e w1 ⟨rfl, hb⟩
  go_wp2_with fail
  go_ret
  exact ⟨rfl, hb.alloc hb.size _⟩
end Go.Proofs.Ytainljbkejafcaa.N
