/- A group and the document's, side by side: what each deed makes of both. -/
import Derived.Test.YteeokbcnjibpfaaGPure
namespace Go.Proofs.Yteeokbcnjibpfaa.G
open Go.RowKit
set_option linter.unusedVariables false
structure Both (w : World) (B g gv x V : Nat) (R : Nat → Value) (L : Nat → List Int) (last : Int) (rv : Value) (acc : List (Int × Int)) : Prop where
  grp : Grp w B g gv V R L last
  ref : RefG w B x V rv acc
  xg : x ≠ g
  xv : x ≠ gv
  xr : ∀ i, i ≤ V → (R i).ownBlock ≠ some x
  rg : rv.ownBlock ≠ some g
  rgv : rv.ownBlock ≠ some gv
  rr : ∀ i k, i ≤ V → (R i).ownBlock = some k → rv.ownBlock ≠ some k
section
variable {w w' : World} {B g gv x V : Nat} {R : Nat → Value} {L : Nat → List Int} {last : Int} {rv : Value} {acc : List (Int × Int)}
theorem Both.below (h : Both w B g gv x V R L last rv acc) (hb : Below w.heap.size w w') : Both w' B g gv x V R L last rv acc :=
  ⟨h.grp.below hb, h.ref.below hb, h.xg, h.xv, h.xr, h.rg, h.rgv, h.rr⟩
theorem Both.drewN (h : Both w B g gv x V R L last rv acc) (n : Nat) : Both (w.drewN n) B g gv x V R L last rv acc := h.below (bel_drewN _ _)
theorem Both.drew (h : Both w B g gv x V R L last rv acc) : Both w.drew B g gv x V R L last rv acc := h.drewN 1
theorem both_new (hg : Grp w B g gv V (fun _ => nilS) (fun _ => []) 0) (hB : B ≤ w.heap.size) (hr : RefG w' w.heap.size x V nilS []) (hx : w.heap.size ≤ x) (hb : Below w.heap.size w w') : Both w' B g gv x V (fun _ => nilS) (rowsOf V []) (lastN []) nilS [] :=
  ⟨hg.below hb, ⟨by omega, hr.hx, own_base hr.row hB, hr.fx⟩, by have := hg.glt; omega, by have := hg.gvlt; omega, fun _ _ => by simp [nilS, Value.ownBlock], by simp [nilS, Value.ownBlock], by simp [nilS, Value.ownBlock], fun _ _ _ h => by simp [nilS, Value.ownBlock] at h⟩
theorem both_wrote (h : Both w B g gv x V R L last rv acc) (i : Nat) (hi : i ≤ V) (v' : Value) (L' : Nat → List Int) (num : Int) (hg : Grp w' B g gv V (upd R i v') L' num)
    (hf : ∀ k, k < w.heap.size → k ≠ gv → k ≠ g → (R i).ownBlock ≠ some k → w'.heap[k]? = w.heap[k]?) (hat : v'.ownBlock = (R i).ownBlock ∨ v'.ownBlock = some (w.heap.size + 1)) :
    Both w' B g gv x V (upd R i v') L' num rv acc := by
  have hnew : ∀ k, v'.ownBlock = some k → (R i).ownBlock = some k ∨ k = w.heap.size + 1 := fun k hk => by
    rcases hat with e | e
    · exact .inl (e.symm.trans hk)
    · right; rw [hk] at e; simpa using e
  refine ⟨hg, h.ref.stay (hf x h.ref.lt h.xv h.xg (h.xr i hi)) (fun q hq => hf q (own_lt h.ref.row q hq) (fun e => h.rgv (e ▸ hq)) (fun e => h.rg (e ▸ hq)) (fun e => h.rr i q hi e hq)), h.xg, h.xv, fun j hj e => ?_, h.rg, h.rgv, fun j k hj e => ?_⟩
  · by_cases c : j = i
    · subst c
      rw [upd_at] at e
      rcases hnew x e with d | d
      · exact h.xr j hj d
      · have := h.ref.lt; omega
    · rw [upd_ne c] at e; exact h.xr j hj e
  · by_cases c : j = i
    · subst c
      rw [upd_at] at e
      rcases hnew k e with d | d
      · exact h.rr j k hj d
      · intro q; have := own_lt h.ref.row k q; omega
    · rw [upd_ne c] at e; exact h.rr j k hj e
theorem both_add (h : Both w B g gv x V R L last rv acc) {rv' : Value} {acc' : List (Int × Int)} (hr : RefG w' B x V rv' acc') (hn : ∀ k, rv'.ownBlock = some k → w.heap.size ≤ k) (hf : ∀ k, k < w.heap.size → k ≠ x → w'.heap[k]? = w.heap[k]?) :
    Both w' B g gv x V R L last rv' acc' := by
  have hg := h.grp
  refine ⟨⟨hg.gb, hg.gvb, hg.ne, (hf g hg.glt (Ne.symm h.xg)).trans hg.hg, (hf gv hg.gvlt (Ne.symm h.xv)).trans hg.hv, fun i hi => own_stay (hg.row i hi) (fun q hq => hf q (own_lt (hg.row i hi) q hq) (fun e => h.xr i hi (e ▸ hq))), hg.dis, hg.fg, hg.fv⟩, hr, h.xg, h.xv, h.xr, fun e => ?_, fun e => ?_, fun i k hi e q => ?_⟩
  · have := hn g e; have := hg.glt; omega
  · have := hn gv e; have := hg.gvlt; omega
  · have := hn k q; have := own_lt (hg.row i hi) k e; omega
end
/-- Both stand behind the same deeds. -/
def At (w : World) (B g gv x V : Nat) (accG accR : List (Int × Int)) : Prop := ∃ R rv, Both w B g gv x V R (rowsOf V accG) (lastN accG) rv accR
theorem At.below {w w' : World} {B g gv x V : Nat} {a b : List (Int × Int)} (h : At w B g gv x V a b) (hb : Below w.heap.size w w') : At w' B g gv x V a b := by
  obtain ⟨R, rv, h⟩ := h; exact ⟨R, rv, h.below hb⟩
def DeedPost (w : World) (B g gv x V : Nat) (n : Int) (a b : List (Int × Int)) (e : Ending) (w' : World) : Prop := e = .returned (.int .i64 n) ∧ At w' B g gv x V a b ∧ Below B w w'
section
variable {w : World} {B g gv x V : Nat} {a b : List (Int × Int)}
theorem stepAcc_no {V : Nat} {a : List (Int × Int)} {vol num : Int} (h : addE V a vol num ≠ 0) : stepAcc V a (vol, num) = a := if_neg h
theorem stepAcc_yes {V : Nat} {a : List (Int × Int)} {vol num : Int} (h : addE V a vol num = 0) : stepAcc V a (vol, num) = a ++ [(vol, num)] := if_pos h
theorem addE_parts {V : Nat} {a : List (Int × Int)} {vol num : Int} (h : addE V a vol num = 0) : -1 ≤ vol ∧ vol < V ∧ 1 ≤ num ∧ num ≤ 65535 := by
  unfold addE at h
  by_cases c : vol < -1 ∨ vol ≥ V ∨ num < 1 ∨ num > 65535
  · rw [if_pos c] at h; simp at h
  · omega
theorem at_wrote (h : At w B g gv x V a b) (hG : Good V a) (ha : a.length ≤ 1000) (vol num : Int) (hv : 0 ≤ vol) (hv' : vol ≤ 9223372036854775807) (hV : V ≤ 8) (h0 : 0 ≤ num) (h1 : num ≤ 18446744073709551615) :
    Calls Try.prog 20 #[.pointer (some ⟨g, 0, none⟩), .int .i64 vol, .int .u64 num] w (DeedPost w B g gv x V (addE V a vol num) (stepAcc V a (vol, num)) b) := by
  obtain ⟨R, rv, h⟩ := h
  have e := wrote_add hG vol num hv
  by_cases c : addE V a vol num = 0
  · rw [stepAcc_yes c, c]
    obtain ⟨p1, p2, p3, p4⟩ := addE_parts c
    obtain ⟨i, rfl⟩ : ∃ i : Nat, vol = i := ⟨vol.toNat, by omega⟩
    have hs : slot V i = i := by unfold slot; rw [if_neg (by omega)]; omega
    have hL := rows_len V a i
    have hn : nextE (lastN a) num = 0 := by rw [next_add hG i num ⟨p1, p2⟩]; exact c
    refine (wrote_yes h.grp i (by omega) hV num h0 p4 (by omega) hn).mono ?_
    rintro e' w' ⟨rfl, v', hg, hb, hf, hat⟩
    refine ⟨rfl, ⟨upd R i v', rv, ?_⟩, hb⟩
    rw [rows_add V a i num p1 p2, hs, lastN_app]
    exact both_wrote h i (by omega) v' _ num hg hf hat
  · rw [stepAcc_no c]
    refine (wrote_no h.grp vol num (by omega) hv' hV h0 h1 (by rw [e]; exact c)).mono ?_
    rintro e' w' ⟨rfl, rfl⟩
    exact ⟨by rw [e], ⟨R, rv, h⟩, Below.refl _ _⟩
theorem at_low (h : At w B g gv x V a b) (vol num : Int) (hv : vol < 0) (hv' : -9223372036854775808 ≤ vol) (hV : V ≤ 8) (h0 : 0 ≤ num) (h1 : num ≤ 18446744073709551615) :
    Calls Try.prog 20 #[.pointer (some ⟨g, 0, none⟩), .int .i64 vol, .int .u64 num] w (DeedPost w B g gv x V 2 a b) := by
  obtain ⟨R, rv, h⟩ := h
  have e : wroteE V (lastN a) vol num = 2 := if_pos (.inl hv)
  refine (wrote_no h.grp vol num hv' (by omega) hV h0 h1 (by rw [e]; decide)).mono ?_
  rintro e' w' ⟨rfl, rfl⟩
  exact ⟨by rw [e], ⟨R, rv, h⟩, Below.refl _ _⟩
theorem at_barrier (h : At w B g gv x V a b) (hG : Good V a) (ha : a.length ≤ 1000) (num : Int) (h0 : 0 ≤ num) (h1 : num ≤ 18446744073709551615) :
    Calls Try.prog 21 #[.pointer (some ⟨g, 0, none⟩), .int .u64 num] w (DeedPost w B g gv x V (addE V a (-1) num) (stepAcc V a (-1, num)) b) := by
  obtain ⟨R, rv, h⟩ := h
  have e := barrier_add hG num
  by_cases c : addE V a (-1) num = 0
  · rw [stepAcc_yes c, c]
    obtain ⟨p1, p2, p3, p4⟩ := addE_parts c
    have hs : slot V (-1) = V := by simp [slot]
    have hL := rows_len V a V
    refine (barrier_yes h.grp num h0 p4 (by omega) (by rw [e]; exact c)).mono ?_
    rintro e' w' ⟨rfl, v', hg, hb, hf, hat⟩
    refine ⟨rfl, ⟨upd R V v', rv, ?_⟩, hb⟩
    rw [rows_add V a (-1) num p1 p2, hs, lastN_app]
    exact both_wrote h V (Nat.le_refl _) v' _ num hg (fun k k1 k2 k3 k4 => hf k k1 k3 k4) hat
  · rw [stepAcc_no c]
    refine (barrier_no h.grp num h0 h1 (by rw [e]; exact c)).mono ?_
    rintro e' w' ⟨rfl, rfl⟩
    exact ⟨by rw [e], ⟨R, rv, h⟩, Below.refl _ _⟩
theorem at_add (h : At w B g gv x V a b) (hb : b.length ≤ 1000) (vol num : Int) (v0 : -9223372036854775808 ≤ vol) (v1 : vol ≤ 9223372036854775807) (hV : V ≤ 8) (h0 : 0 ≤ num) (h1 : num ≤ 18446744073709551615) :
    Calls Try.prog 23 #[.pointer (some ⟨x, 0, none⟩), .int .i64 vol, .int .u64 num] w (DeedPost w B g gv x V (addE V b vol num) a (stepAcc V b (vol, num))) := by
  obtain ⟨R, rv, h⟩ := h
  refine (add_at h.ref vol num hV hb v0 v1 h0 h1).mono ?_
  rintro e' w' (⟨rfl, c, rfl⟩ | ⟨rfl, c, rv', hr, hn, hB, hf⟩)
  · rw [stepAcc_no c]
    exact ⟨rfl, ⟨R, rv, h⟩, Below.refl _ _⟩
  · rw [stepAcc_yes c, c]
    exact ⟨rfl, ⟨R, rv', both_add h hr hn hf⟩, hB⟩
end
end Go.Proofs.Yteeokbcnjibpfaa.G
