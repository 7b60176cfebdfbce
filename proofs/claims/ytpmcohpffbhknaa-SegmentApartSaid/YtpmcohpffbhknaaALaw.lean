/- The walk of SegmentApart: it answers true, whatever the shape and the four bytes. -/
import Derived.Test.YtpmcohpffbhknaaAPure
import Derived.Tactics
import Derived.Tactics2
import Derived.WalkKit
import Derived.WalkSpells
import Derived.OwnWalk
import Derived.Laws.Pointers
import Derived.KernelRfl
import Derived.Below
import Derived.Lib.Hide
import Derived.Deep.RegionHeld3
import Derived.Deep.QuietTactic
import Derived.BigQuiet
import Derived.OpenShut
import Derived.WideShapes
import Derived.ChangeSame
import Derived.IntWalk
namespace Go.Proofs.Ytpmcohpffbhknaa.A
open Go.RowKit Go.Proofs.Ytpmcohpffbhknaa.PSegmentApart Go.Proofs.Ytpmcohpffbhknaa.AP
set_option linter.unusedVariables false
set_option linter.unusedSimpArgs false
section
variable {H : Type} {enc : TypeId × Value → H} {P : Program} {w : World} {base : Nat} {spare : Nat → Bool} {held : Bool}
theorem open_arr2 {r : Reach} {b0 : Nat} {t e : TypeId} {k : IntKind} {v : Value} {d : DataW H} {p : List MemPlace} (ht : P.underlying t = some (.array 2 e)) (he : P.underlying e = some (.int k)) (hC : P.cellsOf t = 2) (hce : P.cellsOf e = 1)
    (hv : Value.okWide P w r b0 t v) (h : DataW.Trod enc P w base spare held t v d p) : ∃ x y : Int, v = .agg #[.int k x, .int k y] ∧ (Lit.int k x).wf = true ∧ (Lit.int k y).wf = true := by
  simp only [Value.okWide, ht] at hv
  obtain ⟨cs, rfl, hs, _⟩ := hv
  obtain ⟨fuel, hf⟩ := h
  obtain ⟨l⟩ := cs
  match l, hs.trans hC with
  | [c0, c1], _ =>
    obtain ⟨xs, m, _, _, _, hx, hi⟩ := DataW.trod_array ht hf
    have e0 := hi 0 (by omega)
    have e1 := hi 1 (by omega)
    simp [Value.cells, hce] at e0 e1
    obtain ⟨y0, r0⟩ : ∃ y, xs[0]? = some y := ⟨_, List.getElem?_eq_getElem (by omega)⟩
    obtain ⟨y1, r1⟩ : ∃ y, xs[1]? = some y := ⟨_, List.getElem?_eq_getElem (by omega)⟩
    rw [r0] at e0
    rw [r1] at e1
    obtain ⟨x, q0, _, w0⟩ := DataW.trod_int he e0
    obtain ⟨y, q1, _, w1⟩ := DataW.trod_int he e1
    simp at q0 q1
    subst q0 q1
    exact ⟨x, y, rfl, w0, w1⟩
end
theorem uniq {p q p' q' b : Int} (h0 : 0 ≤ q) (h1 : q < b) (h2 : 0 ≤ q') (h3 : q' < b) : 2 + p * b + q = 2 + p' * b + q' ↔ (p = p' ∧ q = q') := by
  constructor
  · intro h
    have e : q + b * p = q' + b * p' := by rw [Int.mul_comm b p, Int.mul_comm b p']; omega
    have e1 : (q + b * p) / b = p := by rw [Int.add_mul_ediv_left _ _ (by omega), Int.ediv_eq_zero_of_lt h0 h1]; omega
    have e2 : (q' + b * p') / b = p' := by rw [Int.add_mul_ediv_left _ _ (by omega), Int.ediv_eq_zero_of_lt h2 h3]; omega
    have e3 : (q + b * p) % b = q := by rw [Int.add_mul_emod_self_left, Int.emod_eq_of_lt h0 h1]
    have e4 : (q' + b * p') % b = q' := by rw [Int.add_mul_emod_self_left, Int.emod_eq_of_lt h2 h3]
    rw [e] at e1 e3
    exact ⟨e1.symm.trans e2, e3.symm.trans e4⟩
  · rintro ⟨rfl, rfl⟩; rfl
structure Bx (g : Nat) (a b x0 x1 y0 y1 : Int) (W : World) : Prop where
  c1 : W.cell? ⟨g, 0, none⟩ = some (.int .i64 a)
  c2 : W.cell? ⟨g, 1, none⟩ = some (.int .i64 b)
  c3 : W.cell? ⟨g + 1, 0, none⟩ = some (.int .u8 x0)
  c4 : W.cell? ⟨g + 1, 1, none⟩ = some (.int .u8 x1)
  c5 : W.cell? ⟨g + 2, 0, none⟩ = some (.int .u8 y0)
  c6 : W.cell? ⟨g + 2, 1, none⟩ = some (.int .u8 y1)
  lt : g + 2 < W.heap.size
theorem Bx.below {g : Nat} {a b x0 x1 y0 y1 : Int} {W w1 : World} (h : Bx g a b x0 x1 y0 y1 W) (hb : Below W.heap.size W w1) : Bx g a b x0 x1 y0 y1 w1 := by
  obtain ⟨c1, c2, c3, c4, c5, c6, lt⟩ := h
  refine ⟨(hb.cell ?_).trans c1, (hb.cell ?_).trans c2, (hb.cell ?_).trans c3, (hb.cell ?_).trans c4, (hb.cell ?_).trans c5, (hb.cell ?_).trans c6, Nat.lt_of_lt_of_le lt hb.size⟩ <;> simp <;> omega
theorem Bx.drew {g : Nat} {a b x0 x1 y0 y1 : Int} {W : World} (h : Bx g a b x0 x1 y0 y1 W) : Bx g a b x0 x1 y0 y1 W.drew := ⟨h.c1, h.c2, h.c3, h.c4, h.c5, h.c6, h.lt⟩
theorem bx_new (w : World) (a b x0 x1 y0 y1 : Int) : Bx w.heap.size a b x0 x1 y0 y1 (((w.alloc (.cells #[.int .i64 a, .int .i64 b] 23)).alloc (.cells #[.int .u8 x0, .int .u8 x1] 32)).alloc (.cells #[.int .u8 y0, .int .u8 y1] 32)) := by
  refine ⟨?_, ?_, ?_, ?_, ?_, ?_, by simp⟩
  · rw [World.cell?_alloc_past _ _ _ (by simp; omega), World.cell?_alloc_past _ _ _ (by simp), World.cell?_alloc_at _ _ _ _ rfl]; rfl
  · rw [World.cell?_alloc_past _ _ _ (by simp; omega), World.cell?_alloc_past _ _ _ (by simp), World.cell?_alloc_at _ _ _ _ rfl]; rfl
  · rw [World.cell?_alloc_past _ _ _ (by simp), World.cell?_alloc_at _ _ _ _ (by simp)]; rfl
  · rw [World.cell?_alloc_past _ _ _ (by simp), World.cell?_alloc_at _ _ _ _ (by simp)]; rfl
  · rw [World.cell?_alloc_at _ _ _ _ (by simp)]; rfl
  · rw [World.cell?_alloc_at _ _ _ _ (by simp)]; rfl
theorem pw_drewN (B : Nat) (w : World) {n : Nat} : Below B w (w.drewN n) := ⟨rfl, rfl, rfl, Nat.le_refl _, fun _ _ => rfl⟩
set_option maxHeartbeats 3200000 in
set_option maxRecDepth 100000 in
theorem apart_at (a b x0 x1 y0 y1 : Int) (w : World) (h0 : 0 ≤ x0 ∧ x0 ≤ 255) (h1 : 0 ≤ x1 ∧ x1 ≤ 255) (h2 : 0 ≤ y0 ∧ y0 ≤ 255) (h3 : 0 ≤ y1 ∧ y1 ≤ 255) (hok : ok a b) :
    Calls Try.prog 5 #[.agg #[.int .i64 a, .int .i64 b], .agg #[.int .u8 x0, .int .u8 x1], .agg #[.int .u8 y0, .int .u8 y1]] w fun e w' => e = .returned (.bool true) ∧ Below w.heap.size w w' := by
  have aw := Lib.hid awake_ok
  have hch := Lib.hid (check_yes hok)
  have hk := hok
  unfold ok at hk
  obtain ⟨a1, a2, b1, b2⟩ := hk
  have i0 := Int.emod_nonneg x0 (show a ≠ 0 by omega)
  have i1 := Int.emod_lt_of_pos x0 (show 0 < a by omega)
  have j0 := Int.emod_nonneg x1 (show b ≠ 0 by omega)
  have j1 := Int.emod_lt_of_pos x1 (show 0 < b by omega)
  have k0 := Int.emod_nonneg y0 (show a ≠ 0 by omega)
  have k1 := Int.emod_lt_of_pos y0 (show 0 < a by omega)
  have l0 := Int.emod_nonneg y1 (show b ≠ 0 by omega)
  have l1 := Int.emod_lt_of_pos y1 (show 0 < b by omega)
  have hs1 := sector_yes hok i0 i1 j0 j1
  have hs2 := sector_yes hok k0 k1 l0 l1
  have key := uniq (p := x0 % a) (q := x1 % b) (p' := y0 % a) (q' := y1 % b) (b := b) j0 j1 l0 l1
  generalize 2 + x0 % a * b + x1 % b = r1 at hs1 key
  generalize 2 + y0 % a * b + y1 % b = r2 at hs2 key
  have hs1 := Lib.hid hs1
  have hs2 := Lib.hid hs2
  have KEY := Lib.hid key
  clear key
  have hOK := Lib.hid hok
  clear hok
  go_enter Try.func5, Try.ntmps5
  go_wp2_with fail
  have X := bx_new w a b x0 x1 y0 y1
  have B := (((Below.refl w.heap.size w).alloc (Nat.le_refl _) (.cells #[.int .i64 a, .int .i64 b] 23)).alloc (by simp) (.cells #[.int .u8 x0, .int .u8 x1] 32)).alloc (by simp; omega) (.cells #[.int .u8 y0, .int .u8 y1] 32)
  generalize ((w.alloc (.cells #[.int .i64 a, .int .i64 b] 23)).alloc (.cells #[.int .u8 x0, .int .u8 x1] 32)).alloc (.cells #[.int .u8 y0, .int .u8 y1] 32) = W at *
  refine (erewhilelaw14_awake.calls true _ aw.out).mono ?_
  rintro e w1 ⟨rfl, hb1⟩
  have X1 := X.below hb1
  have B1 := B.trans (hb1.mono B.size)
  clear X B hb1
  obtain ⟨p1, p2, p3, p4, p5, p6, lt⟩ := X1
  have X1 : Hid (Bx w.heap.size a b x0 x1 y0 y1 w1) := ⟨p1, p2, p3, p4, p5, p6, lt⟩
  go_wp2_with fail
  refine (segment_Check.calls a b 0 _ hch.out).mono ?_
  rintro e w2 ⟨rfl, hb2⟩
  have X2 := X1.out.below hb2
  have B2 := B1.trans (hb2.mono B1.size)
  clear X1 B1 hb2 p1 p2 p3 p4 p5 p6 lt
  obtain ⟨p1, p2, p3, p4, p5, p6, lt⟩ := X2
  have X2 : Hid (Bx w.heap.size a b x0 x1 y0 y1 w2) := ⟨p1, p2, p3, p4, p5, p6, lt⟩
  have hz1 : (a == 0) = false := by simp; omega
  have hz2 : (b == 0) = false := by simp; omega
  have t1 : Int.tmod x0 a = x0 % a := Int.tmod_eq_emod_of_nonneg h0.1
  have t2 : Int.tmod x1 b = x1 % b := Int.tmod_eq_emod_of_nonneg h1.1
  have t3 : Int.tmod y0 a = y0 % a := Int.tmod_eq_emod_of_nonneg h2.1
  have t4 : Int.tmod y1 b = y1 % b := Int.tmod_eq_emod_of_nonneg h3.1
  have v1 : IntKind.i64.wrap x0 = x0 := IntWalk.i64_in _ (by omega)
  have v2 : IntKind.i64.wrap x1 = x1 := IntWalk.i64_in _ (by clear v1; omega)
  have v3 : IntKind.i64.wrap y0 = y0 := IntWalk.i64_in _ (by clear v1 v2; omega)
  have v4 : IntKind.i64.wrap y1 = y1 := IntWalk.i64_in _ (by clear v1 v2 v3; omega)
  have n1 : ¬ a = 0 := by clear t1 t2 t3 t4 v1 v2 v3 v4; omega
  have n2 : ¬ b = 0 := by clear t1 t2 t3 t4 v1 v2 v3 v4; omega
  have v5 : IntKind.i64.wrap (x0 % a) = x0 % a := IntWalk.i64_in _ (by clear t1 t2 t3 t4 v1 v2 v3 v4; omega)
  have v6 : IntKind.i64.wrap (x1 % b) = x1 % b := IntWalk.i64_in _ (by clear t1 t2 t3 t4 v1 v2 v3 v4 v5; omega)
  have v7 : IntKind.i64.wrap (y0 % a) = y0 % a := IntWalk.i64_in _ (by clear t1 t2 t3 t4 v1 v2 v3 v4 v5 v6; omega)
  have v8 : IntKind.i64.wrap (y1 % b) = y1 % b := IntWalk.i64_in _ (by clear t1 t2 t3 t4 v1 v2 v3 v4 v5 v6 v7; omega)
  go_wp2_with fail
  go_region_held3 (fun w' => w'.cell? ⟨w.heap.size, 0, none⟩ = some (.int .i64 a) ∧ w'.cell? ⟨w.heap.size, 1, none⟩ = some (.int .i64 b) ∧ w'.cell? ⟨w.heap.size + 1, 0, none⟩ = some (.int .u8 x0) ∧ w'.cell? ⟨w.heap.size + 1, 1, none⟩ = some (.int .u8 x1))
    (first | go_keep | exact ⟨X3.c1, X3.c2, X3.c3, X3.c4⟩)
    ((go_at_call 14; refine (segment_Shape_Sector.calls a b _ _ _ _ _ hs1.out).mono ?_; rintro e w3 ⟨rfl, hb3⟩; have X3 := X2.out.drew.below hb3))
  have B3 := B2.drew.trans (hb3.mono B2.size)
  clear X2 B2 hb3 p1 p2 p3 p4 p5 p6 lt
  obtain ⟨p1, p2, p3, p4, p5, p6, lt⟩ := X3
  have X3 : Hid (Bx w.heap.size a b x0 x1 y0 y1 w3) := ⟨p1, p2, p3, p4, p5, p6, lt⟩
  go_wp2_with fail
  go_region_held3 (fun w' => w'.cell? ⟨w.heap.size, 0, none⟩ = some (.int .i64 a) ∧ w'.cell? ⟨w.heap.size, 1, none⟩ = some (.int .i64 b) ∧ w'.cell? ⟨w.heap.size + 2, 0, none⟩ = some (.int .u8 y0) ∧ w'.cell? ⟨w.heap.size + 2, 1, none⟩ = some (.int .u8 y1))
    (first | go_keep | exact ⟨X4.c1, X4.c2, X4.c5, X4.c6⟩)
    ((go_at_call 14; refine (segment_Shape_Sector.calls a b _ _ _ _ _ hs2.out).mono ?_; rintro e w4 ⟨rfl, hb4⟩; have X4 := X3.out.drew.below hb4))
  have B4 := B3.drew.trans (hb4.mono B3.size)
  clear X3 B3 hb4 p1 p2 p3 p4 p5 p6 lt
  obtain ⟨p1, p2, p3, p4, p5, p6, lt⟩ := X4
  go_wp2_with fail
  by_cases c1 : x0 % a = y0 % a
  · by_cases c2 : x1 % b = y1 % b
    · have d1 : (x0 % a == y0 % a) = true := by simp [c1]
      have d2 : (x1 % b == y1 % b) = true := by simp [c2]
      have d3 : (r1 == r2) = true := by simp [KEY.out.2 ⟨c1, c2⟩]
      clear c1 c2
      go_quiet (fail)
      go_wp2
      go_ret
      exact ⟨rfl, B4.trans (pw_drewN _ _)⟩
    · have d1 : (x0 % a == y0 % a) = true := by simp [c1]
      have d2 : (x1 % b == y1 % b) = false := by simp [c2]
      have d3 : (r1 == r2) = false := by simp; intro h; exact c2 (KEY.out.1 h).2
      clear c1 c2
      go_quiet (fail)
      go_wp2
      go_ret
      exact ⟨rfl, B4.trans (pw_drewN _ _)⟩
  · have d1 : (x0 % a == y0 % a) = false := by simp [c1]
    have d3 : (r1 == r2) = false := by simp; intro h; exact c1 (KEY.out.1 h).1
    clear c1
    go_quiet (fail)
    go_wp2
    go_ret
    exact ⟨rfl, B4.trans (pw_drewN _ _)⟩
set_option maxHeartbeats 400000 in
theorem apart_no (a b x0 x1 y0 y1 : Int) (w : World) (hok : ¬ ok a b) :
    Calls Try.prog 5 #[.agg #[.int .i64 a, .int .i64 b], .agg #[.int .u8 x0, .int .u8 x1], .agg #[.int .u8 y0, .int .u8 y1]] w fun e w' => e = .returned (.bool true) ∧ Below w.heap.size w w' := by
  have aw := Lib.hid awake_ok
  have hch := Lib.hid (check_no hok)
  clear hok
  go_enter Try.func5, Try.ntmps5
  go_wp2_with fail
  have X := bx_new w a b x0 x1 y0 y1
  have B := (((Below.refl w.heap.size w).alloc (Nat.le_refl _) (.cells #[.int .i64 a, .int .i64 b] 23)).alloc (by simp) (.cells #[.int .u8 x0, .int .u8 x1] 32)).alloc (by simp; omega) (.cells #[.int .u8 y0, .int .u8 y1] 32)
  generalize ((w.alloc (.cells #[.int .i64 a, .int .i64 b] 23)).alloc (.cells #[.int .u8 x0, .int .u8 x1] 32)).alloc (.cells #[.int .u8 y0, .int .u8 y1] 32) = W at *
  refine (erewhilelaw14_awake.calls true _ aw.out).mono ?_
  rintro e w1 ⟨rfl, hb1⟩
  have X1 := X.below hb1
  have B1 := B.trans (hb1.mono B.size)
  clear X B hb1
  obtain ⟨p1, p2, p3, p4, p5, p6, lt⟩ := X1
  go_wp2_with fail
  refine (segment_Check.calls a b 2 _ hch.out).mono ?_
  rintro e w2 ⟨rfl, hb2⟩
  have B2 := B1.trans (hb2.mono B1.size)
  clear B1 hb2 p1 p2 p3 p4 p5 p6 lt
  go_wp2_with fail
  refine (erewhilelaw14_awake.calls true _ aw.out).mono ?_
  rintro e w3 ⟨rfl, hb3⟩
  go_wp2_with fail
  go_ret
  exact ⟨rfl, B2.trans (hb3.mono B2.size)⟩
theorem wf8 {a : Int} (h : (Lit.int .u8 a).wf = true) : 0 ≤ a ∧ a ≤ 255 := by
  simp [Lit.wf, IntKind.min, IntKind.max, IntKind.bits, IntKind.signed] at h; omega
theorem apart_ok (a b x0 x1 y0 y1 : Int) (w : World) (h0 : (Lit.int .u8 x0).wf = true) (h1 : (Lit.int .u8 x1).wf = true) (h2 : (Lit.int .u8 y0).wf = true) (h3 : (Lit.int .u8 y1).wf = true) :
    Calls Try.prog 5 #[.agg #[.int .i64 a, .int .i64 b], .agg #[.int .u8 x0, .int .u8 x1], .agg #[.int .u8 y0, .int .u8 y1]] w fun e w' => e = .returned (.bool true) ∧ Below w.heap.size w w' := by
  by_cases c : ok a b
  · exact apart_at a b x0 x1 y0 y1 w (wf8 h0) (wf8 h1) (wf8 h2) (wf8 h3) c
  · exact apart_no a b x0 x1 y0 y1 w c
end Go.Proofs.Ytpmcohpffbhknaa.A
