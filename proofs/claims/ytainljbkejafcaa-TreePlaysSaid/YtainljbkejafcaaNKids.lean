/- A node with kids in memory; Leaf, Least over it. -/
import Derived.Test.YtainljbkejafcaaNLeaf
namespace Go.Proofs.Ytainljbkejafcaa.N
open Go.RowKit
set_option linter.unusedVariables false
set_option linter.unusedSimpArgs false
def KidsAt (w : World) (A : Option Addr) (l : List Nat) : Prop :=
  0 < l.length → ∃ b off, A = some ⟨b, off, none⟩ ∧ b < w.heap.size ∧ ∀ j (h : j < l.length), w.cell? ⟨b, off + j, none⟩ = some (.pointer (some ⟨l[j], 0, none⟩))
theorem KidsAt.below {w w' : World} {A : Option Addr} {l : List Nat} (h : KidsAt w A l) (hb : Below w.heap.size w w') : KidsAt w' A l := fun hl => by
  obtain ⟨b, off, e, hlt, hc⟩ := h hl
  have := hb.size
  exact ⟨b, off, e, by omega, fun j hj => (hb.cell (p := ⟨b, _, none⟩) hlt).trans (hc j hj)⟩
/-- A node with kids. -/
structure InnerAt (w : World) (p : Nat) (ks : List Sp) (qs : List Nat) (A : Option Addr) (ca : Nat) (C : Option Addr) (cc : Nat) : Prop where
  hp : w.heap[p]? = some (.cells #[.slice A ks.length ca, .slice none 0 0, .slice C qs.length cc] 39 (0, 0))
  keys : SpotsAt w A ks
  kids : KidsAt w C qs
  hca : ks.length ≤ ca
  hcm : ca ≤ maxLen
  hcc : qs.length ≤ cc
  hcn : cc ≤ maxLen
  len : qs.length = ks.length
  pos : 0 < qs.length
def Inner (w : World) (p : Nat) (ks : List Sp) (qs : List Nat) : Prop := ∃ A ca C cc, InnerAt w p ks qs A ca C cc
section
variable {w w' : World} {p : Nat} {ks : List Sp} {qs : List Nat} {A C : Option Addr} {ca cc : Nat}
theorem InnerAt.lt (h : InnerAt w p ks qs A ca C cc) : p < w.heap.size := (Array.getElem?_eq_some_iff.1 h.hp).1
theorem InnerAt.c0 (h : InnerAt w p ks qs A ca C cc) : w.cell? ⟨p, 0, none⟩ = some (.slice A ks.length ca) := by simp [World.cell?, h.hp]
theorem InnerAt.c1 (h : InnerAt w p ks qs A ca C cc) : w.cell? ⟨p, 1, none⟩ = some (.slice none 0 0) := by simp [World.cell?, h.hp]
theorem InnerAt.c2 (h : InnerAt w p ks qs A ca C cc) : w.cell? ⟨p, 2, none⟩ = some (.slice C qs.length cc) := by simp [World.cell?, h.hp]
theorem InnerAt.below (h : InnerAt w p ks qs A ca C cc) (hb : Below w.heap.size w w') : InnerAt w' p ks qs A ca C cc := ⟨(hb.block p h.lt).trans h.hp, h.keys.below hb, h.kids.below hb, h.hca, h.hcm, h.hcc, h.hcn, h.len, h.pos⟩
theorem Inner.below (h : Inner w p ks qs) (hb : Below w.heap.size w w') : Inner w' p ks qs := by obtain ⟨A, ca, C, cc, h⟩ := h; exact ⟨A, ca, C, cc, h.below hb⟩
theorem Inner.lt (h : Inner w p ks qs) : p < w.heap.size := by obtain ⟨A, ca, C, cc, h⟩ := h; exact h.lt
theorem Leaf.lt {ks : List Sp} {vs : List Int} (h : Leaf w p ks vs) : p < w.heap.size := by obtain ⟨A, ca, C, cc, h⟩ := h; exact h.lt
theorem leaf_no (h : Inner w p ks qs) : Calls Try.prog 26 #[.pointer (some ⟨p, 0, none⟩)] w fun e w' => e = .returned (.bool false) ∧ w = w' := by
  obtain ⟨A, ca, C, cc, h⟩ := h
  have c2 := h.c2
  have hp := h.pos
  obtain ⟨n, hn⟩ : ∃ n, qs.length = n + 1 := ⟨qs.length - 1, by omega⟩
  rw [hn] at c2
  have e1 : (((n + 1 : Nat) : Int) == 0) = false := by rw [beq_eq_false_iff_ne]; omega
  have e2 : (((n : Nat) : Int) + 1 == 0) = false := by rw [beq_eq_false_iff_ne]; omega
  clear h hn hp
  go_enter Try.func26, Try.ntmps26
  go_wp2_with fail
  go_ret
  exact ⟨rfl, rfl⟩
theorem leaf_nil (w : World) : Calls Try.prog 26 #[.pointer none] w fun e w' => e = .returned (.bool false) ∧ w = w' := by
  go_enter Try.func26, Try.ntmps26
  go_wp2_with fail
  go_ret
  exact ⟨rfl, rfl⟩
end
/-- A node's keys. -/
def KeysOf (w : World) (p : Nat) (ks : List Sp) : Prop := ∃ A ca, w.cell? ⟨p, 0, none⟩ = some (.slice A ks.length ca) ∧ p < w.heap.size ∧ SpotsAt w A ks ∧ ks.length ≤ ca ∧ ca ≤ maxLen
theorem KeysOf.below {w w' : World} {p : Nat} {ks : List Sp} (h : KeysOf w p ks) (hb : Below w.heap.size w w') : KeysOf w' p ks := by
  obtain ⟨A, ca, h1, h2, h3, h4, h5⟩ := h
  exact ⟨A, ca, (hb.cell (p := ⟨p, 0, none⟩) h2).trans h1, Nat.lt_of_lt_of_le h2 hb.size, h3.below hb, h4, h5⟩
theorem Leaf.keysOf {w : World} {p : Nat} {ks : List Sp} {vs : List Int} (h : Leaf w p ks vs) : KeysOf w p ks := by
  obtain ⟨A, ca, B, cb, h⟩ := h
  exact ⟨A, ca, h.c0, h.lt, h.keys, h.hca, h.hcm⟩
theorem Inner.keysOf {w : World} {p : Nat} {ks : List Sp} {qs : List Nat} (h : Inner w p ks qs) : KeysOf w p ks := by
  obtain ⟨A, ca, B, cb, h⟩ := h
  exact ⟨A, ca, h.c0, h.lt, h.keys, h.hca, h.hcm⟩
theorem results_ct {fn : Func} {p u : Tmp} {ty : TypeId} (h : fn.results = #[.cell p ty, .tmp u]) (tmps : Array Value) (P : Program) (w : World) :
    (results fn tmps).run P w =
      ((asAddr (tmps.getD p undef)).run P w).andThen fun a w₁ => ((loadVar ty a).run P w₁).andThen fun v w₂ => .ok (.tuple #[v, tmps.getD u undef]) w₂ := by
  simp only [results, h]
  simp [Sem.run_bind, Result.andThen]
set_option maxHeartbeats 1600000 in
set_option maxRecDepth 100000 in
theorem least_at {w : World} {p : Nat} {ks : List Sp} (h : KeysOf w p ks) (h0 : 0 < ks.length) (hk : ks.length ≤ 1000) :
    Calls Try.prog 25 #[.pointer (some ⟨p, 0, none⟩)] w fun e w' => e = .returned (.tuple #[.agg #[.int .i64 ks[0].br, .int .i64 ks[0].vol, .int .i64 ks[0].blk, .int .u64 ks[0].num], .bool true]) ∧ Below w.heap.size w w' := by
  obtain ⟨A, ca, c0, plt, hs, _, _⟩ := h
  obtain ⟨b, off, rfl, hlt, hc⟩ := hs h0
  obtain ⟨s0, s1, s2, s3⟩ := hc 0 h0
  simp only [Nat.zero_mul, Nat.add_zero] at s0 s1 s2 s3
  clear hc hs
  generalize ks[0] = x at *
  have e0 : ((ks.length : Int) == 0) = false := by rw [beq_eq_false_iff_ne]; omega
  have e1 : (0 : Int) < (ks.length : Int) := by omega
  generalize ks.length = N at *
  have n0 := World.new_ne w ⟨p, 0, none⟩ c0
  have n1 := World.new_ne w ⟨b, off, none⟩ s0
  simp only at n0 n1
  go_enter Try.func25, Try.ntmps25
  go_wp2_with fail
  refine bodyPost_ret (v := .tuple #[.agg #[.int .i64 x.br, .int .i64 x.vol, .int .i64 x.blk, .int .u64 x.num], .bool true]) (by rw [results_ct rfl]; go_simp) rfl ?_
  exact ⟨rfl, by first | exact (((((Below.refl _ _).alloc (Nat.le_refl _) _).setCell (p := ⟨w.heap.size, 0, none⟩) (by simp) _).setCell (p := ⟨w.heap.size, 1, none⟩) (by simp) _).setCell (p := ⟨w.heap.size, 2, none⟩) (by simp) _).setCell (p := ⟨w.heap.size, 3, none⟩) (by simp) _ | exact (Below.refl _ _).alloc (Nat.le_refl _) _⟩
end Go.Proofs.Ytainljbkejafcaa.N
