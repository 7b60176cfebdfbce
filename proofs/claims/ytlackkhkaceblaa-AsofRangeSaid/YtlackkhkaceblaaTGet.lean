/- TGet: joined by merge.py. -/
import Derived.Test.YtlackkhkaceblaaTPure
/- Get, near, Floor, Ceil of a tree. -/
namespace Go.Proofs.Ytlackkhkaceblaa.N
open Go.BigFrame Go.RowKit Go.Proofs.YtlackkhkaceblaaW.PrintMore Go.Proofs.YtlackkhkaceblaaW.PrintWords
set_option linter.unusedVariables false
set_option linter.unusedSimpArgs false
set_option maxHeartbeats 1600000 in
set_option maxRecDepth 100000 in
theorem find_none (w : World) (k : Sp) : Calls Try.prog 45 #[.pointer none, .agg #[.int .i64 k.br, .int .i64 k.vol, .int .i64 k.blk, .int .u64 k.num]] w fun e w' => e = .returned (.tuple #[.int .i64 0, .bool false]) ∧ Below w.heap.size w w' := by
  go_enter Try.func45, Try.ntmps45
  go_wp2_with fail
  refine bodyPost_ret (v := .tuple #[.int .i64 0, .bool false]) (by rw [results_cell_cell rfl]; go_simp) rfl ?_
  exact ⟨rfl, (((Below.refl _ _).alloc (Nat.le_refl _) _).alloc (by simp) _).alloc (by simp; omega) _⟩
/-- Find over a leaf's entries. -/
theorem find_ents {w : World} {q : Nat} {m : List Ent} (h : Leaf w q (m.map (·.1)) (m.map (·.2))) (h4 : m.length ≤ 4) (k : Sp) :
    ∃ i b, findL k (m.map (·.1)) = (i, b) ∧ ∀ X, Below w.heap.size w X → Calls Try.prog 45 #[.pointer (some ⟨q, 0, none⟩), .agg #[.int .i64 k.br, .int .i64 k.vol, .int .i64 k.blk, .int .u64 k.num]] X fun e w' => e = .returned (.tuple #[.int .i64 i, .bool b]) ∧ Below X.heap.size X w' :=
  ⟨_, _, rfl, fun X hX => find_leaf (h.below hX) k (by rw [List.length_map]; omega)⟩
theorem box_cells {w X : World} {k : Sp} {b : Nat} {T : TypeId} (hbox : w.heap[b]? = some (.cells #[.int .i64 k.br, .int .i64 k.vol, .int .i64 k.blk, .int .u64 k.num] T (0, 0))) (hX : Below w.heap.size w X) :
    X.cell? ⟨b, 0, none⟩ = some (.int .i64 k.br) ∧ X.cell? ⟨b, 1, none⟩ = some (.int .i64 k.vol) ∧ X.cell? ⟨b, 2, none⟩ = some (.int .i64 k.blk) ∧ X.cell? ⟨b, 3, none⟩ = some (.int .u64 k.num) ∧ b < X.heap.size := by
  have hl := (Array.getElem?_eq_some_iff.1 hbox).1
  have h2 := (hX.block b hl).trans hbox
  have := hX.size
  exact ⟨by simp only [World.cell?, h2]; rfl, by simp only [World.cell?, h2]; rfl, by simp only [World.cell?, h2]; rfl, by simp only [World.cell?, h2]; rfl, by omega⟩
set_option maxHeartbeats 3200000 in
set_option maxRecDepth 100000 in
theorem get_tree {w : World} {p : Option Addr} {l : List Ent} (h : TreeAt w p l) (ha : Asc l) (k : Sp) :
    Calls Try.prog 28 #[.pointer p, .agg #[.int .i64 k.br, .int .i64 k.vol, .int .i64 k.blk, .int .u64 k.num]] w fun e w' => e = .returned (.tuple #[.int .u64 (valE k l), .bool (hasE k l)]) ∧ Below w.heap.size w w' := by
  have hbw : Below w.heap.size w (w.alloc (.cells #[.int .i64 k.br, .int .i64 k.vol, .int .i64 k.blk, .int .u64 k.num] 46)) := (Below.refl _ _).alloc (Nat.le_refl _) _
  have hbox := heap_alloc_new w (.cells #[.int .i64 k.br, .int .i64 k.vol, .int .i64 k.blk, .int .u64 k.num] 46)
  have HL := Lib.hid (leaf_tree (h.below hbw) ha k)
  have HA := Lib.hid ha
  clear h ha
  go_enter Try.func28, Try.ntmps28
  go_wp2_with fail
  refine HL.out.mono ?_
  generalize w.alloc (.cells #[.int .i64 k.br, .int .i64 k.vol, .int .i64 k.blk, .int .u64 k.num] 46) = W at *
  rintro e w1 ⟨x, nx, rfl, hb1, hl⟩
  obtain ⟨k0, k1, k2, k3, zk⟩ := box_cells hbox hb1
  have HB1 := Lib.hid (hbw.trans (hb1.mono hbw.size))
  have HL1 := Lib.hid hl
  clear hl hbw hb1 hbox HL
  rcases HL1.out with ⟨rfl, rfl, rfl⟩ | ⟨q, m, pre, post, rfl, hnd, h0, h4, hway, hnx⟩
  · have HF := Lib.hid (find_none w1 k)
    have hv : valE k [] = 0 := rfl
    have hh : hasE k [] = false := rfl
    have HV := Lib.hid (And.intro hv hh)
    clear hv hh
    go_wp2_with fail
    refine HF.out.mono ?_
    rintro e w2 ⟨rfl, hb2⟩
    have HB2 := Lib.hid (HB1.out.trans (hb2.mono HB1.out.size))
    clear hb2
    go_wp2_with fail
    go_ret2
    exact ⟨by rw [HV.out.1, HV.out.2]; rfl, HB2.out⟩
  · obtain ⟨i, b, hf, hF⟩ := find_ents hnd.2 h4 k
    have HF := Lib.hid hF
    have ham := hway.asc HA.out
    have hb : b = hasE k l := by rw [← hway.has HA.out, ← findL_has, hf]
    have hpt := (findL_parts k ham).2.2.2
    rw [hf] at hpt
    simp only at hpt
    have HNd := Lib.hid hnd.2
    have HW := Lib.hid hway
    have HHb := Lib.hid hb
    have HPt := Lib.hid hpt
    have HAm := Lib.hid ham
    have h4' := Lib.hid h4
    clear hF hnd hway hb hpt ham h4
    go_wp2_with fail
    refine (HF.out w1 (Below.refl _ _)).mono ?_
    rintro e w2 ⟨rfl, hb2⟩
    have HB2 := Lib.hid (HB1.out.trans (hb2.mono HB1.out.size))
    cases b with
    | true =>
      obtain ⟨hi, he⟩ := HPt.out rfl
      have he := he hi
      obtain ⟨A, ca, B, cb, hh⟩ := HNd.out.below hb2
      have c1 := hh.c1
      rw [List.length_map] at c1
      obtain ⟨b1, off, rfl, hlt, hc⟩ := hh.vals (by rw [List.length_map]; exact h0)
      have v1 := hc i (by rw [List.length_map]; exact hi)
      rw [List.getElem_map] at v1
      have hval : valE k l = m[i].2 := valE_at HA.out (by rw [HW.out.cut]; simp) he
      have hhas : hasE k l = true := HHb.out.symm
      have HV := Lib.hid (And.intro hval hhas)
      have e1 : (i : Int) < (m.length : Int) := by omega
      have e0 : (0 : Int) ≤ (i : Int) := by omega
      clear hh hc hb2 hlt hval hhas he k0 k1 k2 k3 hf HPt
      generalize m[i].2 = v at *
      obtain ⟨n, hn⟩ : ∃ n, m.length = n := ⟨_, rfl⟩
      rw [hn] at c1 e1
      clear hn
      go_wp2_with fail
      go_ret2
      exact ⟨by rw [HV.out.1, HV.out.2]; rfl, HB2.out⟩
    | false =>
      have hhas : hasE k l = false := HHb.out.symm
      have HV := Lib.hid (And.intro (valE_none HA.out hhas) hhas)
      clear hb2 hhas
      go_wp2_with fail
      go_ret2
      exact ⟨by rw [HV.out.1, HV.out.2]; rfl, HB2.out⟩
end Go.Proofs.Ytlackkhkaceblaa.N
