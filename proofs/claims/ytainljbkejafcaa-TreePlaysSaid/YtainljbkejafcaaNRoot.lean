/- Roots: Del, Put. -/
import Derived.Test.YtainljbkejafcaaNDel
import Derived.LoopN
namespace Go.Proofs.Ytainljbkejafcaa.N
open Go.RowKit Go.Proofs.YtainljbkejafcaaW.PrintMore Go.Proofs.YtainljbkejafcaaW.PrintWords
set_option linter.unusedVariables false
set_option linter.unusedSimpArgs false
theorem del_nd (k : Sp) : ∀ (h : Nat) {w : World} {p n : Nat} {l : List Ent}, Nd w h p l n → 0 < n → (0 < h → 2 ≤ n) → n ≤ 4 → Asc l →
    Calls Try.prog 60 #[.pointer (some ⟨p, 0, none⟩), .agg #[.int .i64 k.br, .int .i64 k.vol, .int .i64 k.blk, .int .u64 k.num]] w (DelPost w h p l k n)
  | 0, w, p, n, l, hn, h0, _, h4, _ => by
    cases hh : hasE k l with
    | true => exact del_leaf_yes hn h0 (by omega) k hh
    | false => exact del_leaf_no hn h0 (by omega) k hh
  | h + 1, w, p, n, l, hn, h0, h2, h4, ha =>
    del_inner hn (h2 (by omega)) h4 ha k (fun X q m u hq m2 m4 hu => del_nd k h hq (by omega) (fun _ => m2) m4 hu)
/-- A root: none, or a node with enough keys. -/
def RootAt (w : World) (r : Option Addr) (l : List Ent) : Prop := (r = none ∧ l = []) ∨ ∃ q h n, r = some ⟨q, 0, none⟩ ∧ Nd w h q l n ∧ 0 < n ∧ (0 < h → 2 ≤ n) ∧ n ≤ 4
theorem RootAt.below {w w' : World} (hb : Below w.heap.size w w') {r : Option Addr} {l : List Ent} (h : RootAt w r l) : RootAt w' r l := by
  rcases h with h | ⟨q, h, n, a, b, c⟩
  · exact .inl h
  · exact .inr ⟨q, h, n, a, b.below hb, c⟩
def DelRoot (w : World) (r : Option Addr) (l : List Ent) (k : Sp) (e : Ending) (w' : World) : Prop :=
  (hasE k l = false ∧ e = .returned (.tuple #[.pointer r, .bool false]) ∧ Below w.heap.size w w') ∨
  (hasE k l = true ∧ ∃ r', e = .returned (.tuple #[.pointer r', .bool true]) ∧ RootAt w' r' (delE k l) ∧ Below w.heap.size w w')
theorem leaf_keys0 {w : World} {p : Nat} {ks : List Sp} {vs : List Int} (h : Leaf w p ks vs) : ∃ A ca cb B, w.cell? ⟨p, 0, none⟩ = some (.slice A ks.length ca) ∧ w.cell? ⟨p, 1, none⟩ = some (.slice B vs.length cb) ∧ w.cell? ⟨p, 2, none⟩ = some (.slice none 0 0) := by
  obtain ⟨A, ca, B, cb, h⟩ := h
  exact ⟨A, ca, cb, B, h.c0, h.c1, h.c2⟩
set_option maxHeartbeats 3200000 in
set_option maxRecDepth 100000 in
theorem Del_at {w : World} {h p n : Nat} {l : List Ent} (hn : Nd w h p l n) (h0 : 0 < n) (h2 : 0 < h → 2 ≤ n) (h4 : n ≤ 4) (ha : Asc l) (k : Sp) :
    Calls Try.prog 29 #[.pointer (some ⟨p, 0, none⟩), .agg #[.int .i64 k.br, .int .i64 k.vol, .int .i64 k.blk, .int .u64 k.num]] w (DelRoot w (some ⟨p, 0, none⟩) l k) := by
  have HD : Hid (∀ X, Below w.heap.size w X → Calls Try.prog 60 #[.pointer (some ⟨p, 0, none⟩), .agg #[.int .i64 k.br, .int .i64 k.vol, .int .i64 k.blk, .int .u64 k.num]] X (DelPost X h p l k n)) := fun X hX => del_nd k h (hn.below hX) h0 h2 h4 ha
  clear hn ha
  go_enter Try.func29, Try.ntmps29
  go_wp2_with fail
  have hbw : Below w.heap.size w (w.alloc (.cells #[.int .i64 k.br, .int .i64 k.vol, .int .i64 k.blk, .int .u64 k.num] 26)) := (Below.refl _ _).alloc (Nat.le_refl _) _
  refine (HD.out _ hbw).mono ?_
  rintro e w1 (⟨a1, rfl, a3⟩ | ⟨a1, p', n', rfl, a3, a4, a5, a6⟩)
  · have hb1 := Lib.hid (hbw.trans (a3.mono hbw.size))
    have A1 := Lib.hid a1
    clear a1 a3 hbw HD
    go_wp2_with fail
    go_ret2
    exact .inl ⟨A1.out, rfl, hb1.out⟩
  · have hb1 := Lib.hid (hbw.trans (a6.mono hbw.size))
    have A1 := Lib.hid a1
    have A3 := Lib.hid a3
    clear a1 a3 a6 hbw HD
    cases h with
    | zero =>
      obtain ⟨en, hL⟩ := A3.out
      have HL := Lib.hid hL
      obtain ⟨A, ca, cb, B, c0, _, c2⟩ := leaf_keys0 hL
      rw [List.length_map, ← en] at c0
      have HE := Lib.hid en
      clear hL en
      by_cases hz : n' = 0
      · subst hz
        go_wp2_with fail
        refine wp_loop_rounds 1 ?_
        rw [rounds_succ]
        go_wp2_with fail
        refine (leaf_yes HL.out).mono ?_
        rintro e w2 ⟨rfl, rfl⟩
        go_wp2_with fail
        go_ret2
        exact .inr ⟨A1.out, none, rfl, .inl ⟨rfl, List.eq_nil_of_length_eq_zero HE.out.symm⟩, hb1.out⟩
      · have r1 : ((n' : Int) == 0) = false := by rw [beq_eq_false_iff_ne]; omega
        go_wp2_with fail
        refine wp_loop_rounds 1 ?_
        rw [rounds_succ]
        go_wp2_with fail
        refine (leaf_yes HL.out).mono ?_
        rintro e w2 ⟨rfl, rfl⟩
        go_wp2_with fail
        go_ret2
        exact .inr ⟨A1.out, _, rfl, .inr ⟨p', 0, n', rfl, A3.out, by omega, fun h => by omega, by omega⟩, hb1.out⟩
    | succ h =>
      have h2' := h2 (by omega)
      obtain ⟨qs, ls, en, el, hI, hk⟩ := nd_succ.1 A3.out
      have HI := Lib.hid hI
      obtain ⟨_, _, C, cc, hin⟩ := hI
      have c2 := hin.c2
      obtain ⟨b, off, rfl, hb, hkc⟩ := hin.kids hin.pos
      rw [← en] at c2
      have HK := Lib.hid hk
      have HE := Lib.hid (And.intro en el)
      have HKc := Lib.hid hkc
      clear hin hk en el hkc
      by_cases h1 : n' = 1
      · subst h1
        have hq := HKc.out 0 (by have := HE.out.1; omega)
        rw [Nat.add_zero] at hq
        obtain ⟨m0, rfl⟩ : ∃ m, ls = [m] := by
          have h1 := HK.out.length
          have h2 := HE.out.1
          have : ls.length = 1 := by omega
          match ls, this with
          | [m], _ => exact ⟨m, rfl⟩
        obtain ⟨s, s1, s2, s3⟩ := HK.out.get 0 (by have := HE.out.1; omega) (by simp)
        have hll : delE k l = [m0][0] := by rw [HE.out.2]; simp
        have S3 := Lib.hid s3
        have HLL := Lib.hid hll
        clear s3 hll
        generalize qs[0]'(_) = q0 at *
        generalize [m0][0] = l0 at *
        cases h with
        | zero =>
          obtain ⟨en, hL⟩ := S3.out
          have HL := Lib.hid hL
          obtain ⟨A, ca, cb, B, d0, _, d2⟩ := leaf_keys0 hL
          rw [List.length_map, ← en] at d0
          have HEn := Lib.hid en
          clear hL en
          have r1 : ((s : Int) == 0) = false := by rw [beq_eq_false_iff_ne]; omega
          go_wp2_with fail
          refine wp_loop_rounds 2 ?_
          rw [rounds_succ]
          go_wp2_with fail
          rw [rounds_succ]
          go_wp2_with fail
          refine (leaf_yes HL.out).mono ?_
          rintro e w2 ⟨rfl, rfl⟩
          go_wp2_with fail
          go_ret2
          exact .inr ⟨A1.out, _, rfl, .inr ⟨q0, 0, s, rfl, by rw [HLL.out]; exact S3.out, by omega, fun h => by omega, s2⟩, hb1.out⟩
        | succ h =>
          obtain ⟨rs, ms, en, el, hJ, hk2⟩ := nd_succ.1 S3.out
          have HJ := Lib.hid hJ
          obtain ⟨_, _, D, dd, hjn⟩ := hJ
          have d2 := hjn.c2
          rw [← en] at d2
          have HEn := Lib.hid (And.intro en el)
          clear hjn hk2 en el
          have r1 : ((s : Int) == 1) = false := by rw [beq_eq_false_iff_ne]; omega
          go_wp2_with fail
          refine wp_loop_rounds 2 ?_
          rw [rounds_succ]
          go_wp2_with fail
          rw [rounds_succ]
          go_wp2_with fail
          refine (leaf_no HJ.out).mono ?_
          rintro e w2 ⟨rfl, rfl⟩
          go_wp2_with fail
          go_ret2
          exact .inr ⟨A1.out, _, rfl, .inr ⟨q0, h + 1, s, rfl, by rw [HLL.out]; exact S3.out, by omega, fun _ => s1, s2⟩, hb1.out⟩
      · have r1 : ((n' : Int) == 1) = false := by rw [beq_eq_false_iff_ne]; omega
        go_wp2_with fail
        refine wp_loop_rounds 1 ?_
        rw [rounds_succ]
        go_wp2_with fail
        refine (leaf_no HI.out).mono ?_
        rintro e w2 ⟨rfl, rfl⟩
        go_wp2_with fail
        go_ret2
        exact .inr ⟨A1.out, _, rfl, .inr ⟨p', h + 1, n', rfl, A3.out, by omega, fun _ => by omega, by omega⟩, hb1.out⟩
end Go.Proofs.Ytainljbkejafcaa.N
