/- A leaf in memory; the walks of Leaf, Least, Find over it. -/
import Derived.Test.YtainljbkejafcaaNOps
namespace Go.Proofs.Ytainljbkejafcaa.N
open Go.RowKit
set_option linter.unusedVariables false
set_option linter.unusedSimpArgs false
def SpotsAt (w : World) (A : Option Addr) (l : List Sp) : Prop :=
  0 < l.length → ∃ b off, A = some ⟨b, off, none⟩ ∧ b < w.heap.size ∧ ∀ j (h : j < l.length), SpAt w b (off + j * 4) l[j]
def ValsAt (w : World) (A : Option Addr) (l : List Int) : Prop :=
  0 < l.length → ∃ b off, A = some ⟨b, off, none⟩ ∧ b < w.heap.size ∧ ∀ j (h : j < l.length), w.cell? ⟨b, off + j, none⟩ = some (.int .u64 l[j])
theorem SpotsAt.below {w w' : World} {A : Option Addr} {l : List Sp} (h : SpotsAt w A l) (hb : Below w.heap.size w w') : SpotsAt w' A l := fun hl => by
  obtain ⟨b, off, e, hlt, hc⟩ := h hl
  have := hb.size
  exact ⟨b, off, e, by omega, fun j hj => (hc j hj).below hb hlt⟩
theorem ValsAt.below {w w' : World} {A : Option Addr} {l : List Int} (h : ValsAt w A l) (hb : Below w.heap.size w w') : ValsAt w' A l := fun hl => by
  obtain ⟨b, off, e, hlt, hc⟩ := h hl
  have := hb.size
  exact ⟨b, off, e, by omega, fun j hj => (hb.cell (p := ⟨b, _, none⟩) hlt).trans (hc j hj)⟩
/-- A node without kids. -/
structure LeafAt (w : World) (p : Nat) (ks : List Sp) (vs : List Int) (A : Option Addr) (ca : Nat) (B : Option Addr) (cb : Nat) : Prop where
  hp : w.heap[p]? = some (.cells #[.slice A ks.length ca, .slice B vs.length cb, .slice none 0 0] 39 (0, 0))
  keys : SpotsAt w A ks
  vals : ValsAt w B vs
  hca : ks.length ≤ ca
  hcm : ca ≤ maxLen
def Leaf (w : World) (p : Nat) (ks : List Sp) (vs : List Int) : Prop := ∃ A ca B cb, LeafAt w p ks vs A ca B cb
section
variable {w w' : World} {p : Nat} {ks : List Sp} {vs : List Int} {A B : Option Addr} {ca cb : Nat}
theorem LeafAt.lt (h : LeafAt w p ks vs A ca B cb) : p < w.heap.size := (Array.getElem?_eq_some_iff.1 h.hp).1
theorem LeafAt.c0 (h : LeafAt w p ks vs A ca B cb) : w.cell? ⟨p, 0, none⟩ = some (.slice A ks.length ca) := by simp [World.cell?, h.hp]
theorem LeafAt.c1 (h : LeafAt w p ks vs A ca B cb) : w.cell? ⟨p, 1, none⟩ = some (.slice B vs.length cb) := by simp [World.cell?, h.hp]
theorem LeafAt.c2 (h : LeafAt w p ks vs A ca B cb) : w.cell? ⟨p, 2, none⟩ = some (.slice none 0 0) := by simp [World.cell?, h.hp]
theorem LeafAt.below (h : LeafAt w p ks vs A ca B cb) (hb : Below w.heap.size w w') : LeafAt w' p ks vs A ca B cb := ⟨(hb.block p h.lt).trans h.hp, h.keys.below hb, h.vals.below hb, h.hca, h.hcm⟩
theorem Leaf.below (h : Leaf w p ks vs) (hb : Below w.heap.size w w') : Leaf w' p ks vs := by obtain ⟨A, ca, B, cb, h⟩ := h; exact ⟨A, ca, B, cb, h.below hb⟩
theorem leaf_yes (h : Leaf w p ks vs) : Calls Try.prog 26 #[.pointer (some ⟨p, 0, none⟩)] w fun e w' => e = .returned (.bool true) ∧ w = w' := by
  obtain ⟨A, ca, B, cb, h⟩ := h
  have c2 := h.c2
  clear h
  go_enter Try.func26, Try.ntmps26
  go_wp2_with fail
  go_ret
  exact ⟨rfl, rfl⟩
end
/-- Where a spot stands among rising ones, or would; is it there? -/
def findL (k : Sp) : List Sp → Nat × Bool
  | [] => (0, false)
  | x :: xs => if ordS x k ≥ 0 then (0, ordS x k == 0) else ((findL k xs).1 + 1, (findL k xs).2)
theorem findL_drop (k : Sp) (l : List Sp) : ∀ (n : Nat) (h : n < l.length), findL k (l.drop n) = if ordS l[n] k ≥ 0 then (0, ordS l[n] k == 0) else ((findL k (l.drop (n + 1))).1 + 1, (findL k (l.drop (n + 1))).2) := fun n h => by
  rw [List.drop_eq_getElem_cons h]; rfl
theorem one_cell {W wr : World} {q : Nat} {v : Value} {T : TypeId} (h : W.heap[q]? = some (.cells #[v] T (0, 0))) (hb : Below W.heap.size W wr) : wr.cell? ⟨q, 0, none⟩ = some v ∧ wr.frozen? ⟨q, 0, none⟩ = false := by
  have h2 := (hb.block q (Array.getElem?_eq_some_iff.1 h).1).trans h
  exact ⟨by simp only [World.cell?, h2]; rfl, by simp only [World.frozen?, h2]; rfl⟩
def FindRel (W : World) (k : Sp) (l : List Sp) (i : Value) (wr : World) : Prop := ∃ n : Nat, i = .int .i64 n ∧ n ≤ l.length ∧ Below W.heap.size W wr ∧ (findL k l).1 = n + (findL k (l.drop n)).1 ∧ (findL k l).2 = (findL k (l.drop n)).2
set_option maxHeartbeats 3200000 in
set_option maxRecDepth 100000 in
theorem find_leaf {w : World} {p : Nat} {ks : List Sp} {vs : List Int} (h : Leaf w p ks vs) (k : Sp) (hk : ks.length ≤ 1000) :
    Calls Try.prog 23 #[.pointer (some ⟨p, 0, none⟩), k.v] w fun e w' => e = .returned (.tuple #[.int .i64 (findL k ks).1, .bool (findL k ks).2]) ∧ Below w.heap.size w w' := by
  have HLf := Lib.hid h
  obtain ⟨A, ca, B, cb, hl⟩ := h
  have HX := Lib.hid hl
  have plt := hl.lt
  clear hl
  unfold Sp.v
  go_enter Try.func23, Try.ntmps23
  go_wp2_with fail
  obtain ⟨W, hW, h1, h2, h3, hb⟩ := three_allocs w (.cells #[.int .i64 k.br, .int .i64 k.vol, .int .i64 k.blk, .int .u64 k.num] 26) (.cells #[.int .i64 0] 3) (.cells #[.bool false] 4)
  rw [← hW]
  clear hW
  have l3 := (Array.getElem?_eq_some_iff.1 h3).1
  refine (leaf_yes (HLf.out.below hb)).mono ?_
  rintro e w2 ⟨rfl, rfl⟩
  replace HX := Lib.hid (HX.out.below hb)
  have c0 := HX.out.c0
  have HB := Lib.hid hb
  clear hb
  have hsz : Hid (w.heap.size ≤ W.heap.size) := HB.out.size
  have zk : w.heap.size < W.heap.size := by omega
  have zi : w.heap.size + 1 < W.heap.size := by omega
  have zf : w.heap.size + 1 + 1 < W.heap.size := by omega
  have zp : p < W.heap.size := by omega
  have nif : w.heap.size + 1 ≠ w.heap.size + 1 + 1 := by omega
  have HWs : Hid (w.heap.size ≤ w.heap.size + 1 ∧ w.heap.size ≤ w.heap.size + 1 + 1) := ⟨by omega, by omega⟩
  generalize w.heap.size + 1 + 1 = pf at *
  generalize w.heap.size + 1 = pi at *
  generalize hpk : w.heap.size = pk at *
  go_wp2_with fail
  go_loopw [21] (fun i wr => FindRel W k ks i wr) (fun i _ => (ks.length - intOf i).toNat)
  case atStart => exact ⟨0, rfl, by omega, Below.refl _ _, by simp, by simp⟩
  case round =>
    obtain ⟨n, rfl, hn, hb, f1, f2⟩ := hrel
    have hz := hb.size
    have BB : Below pk w wr := HB.out.trans (hb.mono (by omega))
    obtain ⟨i0, i2⟩ := one_cell h2 hb
    obtain ⟨b0, b2⟩ := one_cell h3 hb
    have k1 := (hb.block pk zk).trans h1
    have i1 := (hb.block pi zi).trans h2
    have b1 := (hb.block pf zf).trans h3
    have k0 : wr.cell? ⟨pk, 0, none⟩ = some (.int .i64 k.br) := by simp only [World.cell?, k1]; rfl
    have k2 : wr.cell? ⟨pk, 1, none⟩ = some (.int .i64 k.vol) := by simp only [World.cell?, k1]; rfl
    have k3 : wr.cell? ⟨pk, 2, none⟩ = some (.int .i64 k.blk) := by simp only [World.cell?, k1]; rfl
    have k4 : wr.cell? ⟨pk, 3, none⟩ = some (.int .u64 k.num) := by simp only [World.cell?, k1]; rfl
    have d0 := (HX.out.below hb).c0
    by_cases cc : n < ks.length
    · obtain ⟨b, off, rfl, hlt, hcs⟩ := (HX.out.below hb).keys (by omega)
      obtain ⟨s0, s1, s2, s3⟩ := hcs n cc
      have e1 : (0 : Int) ≤ (n : Int) := by omega
      have e2 : (n : Int) < (ks.length : Int) := by omega
      have fd := findL_drop k ks n cc
      have qk : pk < wr.heap.size := by omega
      have qi : pi < wr.heap.size := by omega
      have qf : pf < wr.heap.size := by omega
      clear hcs
      generalize ks[n] = x at *
      have FD := Lib.hid fd
      clear fd i0 i2 b0 b2
      go_wp2_with fail
      refine (order_at' x k _).mono ?_
      rintro e w3 ⟨rfl, hb3⟩
      have BO : Below W.heap.size W w3 := (hb.alloc hz _).trans (hb3.mono (by simp; omega))
      obtain ⟨i0, i2⟩ := one_cell h2 BO
      obtain ⟨b0, b2⟩ := one_cell h3 BO
      have B3 : Below pk w w3 := HB.out.trans (BO.mono (by omega))
      by_cases dd : ordS x k ≥ 0
      · have F := FD.out
        rw [if_pos dd] at F
        rw [F] at f1 f2
        have hq : Hid ((findL k ks).1 = n ∧ (findL k ks).2 = (ordS x k == 0)) := ⟨by rw [f1]; simp, by rw [f2]⟩
        clear f1 f2 F FD
        generalize ordS x k = c at *
        go_wp2_with fail
        refine bodyPost_ret (v := .tuple #[.int .i64 n, .bool (c == 0)]) (by rw [results_cell_cell rfl]; go_simp) rfl ?_
        subst hpk
        exact ⟨by rw [hq.out.1, hq.out.2], (B3.setCell HWs.out.1 _).setCell HWs.out.2 _⟩
      · have F := FD.out
        rw [if_neg dd] at F
        rw [F] at f1 f2
        clear FD F
        have dd' : decide (0 ≤ ordS x k) = false := by simp; omega
        generalize ordS x k = c at *
        have hq := Lib.hid (And.intro f1 f2)
        clear f1 f2 dd
        go_wp2_with fail
        go_roundw
        case rel => exact ⟨n + 1, by simp, by omega, BO, by have := hq.out.1; omega, hq.out.2⟩
        case measure => simp [intOf]; omega
    · obtain rfl : n = ks.length := by omega
      rw [List.drop_length] at f1 f2
      have hq : Hid ((findL k ks).1 = ks.length ∧ (findL k ks).2 = false) := ⟨by rw [f1]; simp [findL], by rw [f2]; rfl⟩
      clear f1 f2
      go_wp2_with fail
      refine bodyPost_ret (v := .tuple #[.int .i64 ks.length, .bool false]) (by rw [results_cell_cell rfl]; go_simp) rfl ?_
      subst hpk
      exact ⟨by rw [hq.out.1, hq.out.2], (BB.setCell HWs.out.1 _).setCell HWs.out.2 _⟩
end Go.Proofs.Ytainljbkejafcaa.N
