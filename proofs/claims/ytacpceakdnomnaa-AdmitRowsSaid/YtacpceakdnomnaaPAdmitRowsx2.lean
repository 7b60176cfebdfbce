-- PRINTED BY print.sh 35421559b90ae4d0a3588c463048766b98c2df88dd9212a6774a882060cdf62d: not written by this session
import Derived.Test.YtacpceakdnomnaaPAdmitRowsx0
import Derived.Test.YtacpceakdnomnaaPAdmitRowsx1
namespace Go.Proofs.Ytacpceakdnomnaa.PAdmitRows
open Go.RowKit Go.Proofs.YtacpceakdnomnaaW.PrintWords Go.Proofs.YtacpceakdnomnaaW.PrintLast Go.Proofs.YtacpceakdnomnaaW.PrintMore
attribute [local go_sem] max2_int min2_int max_two min_two max_three min_three max_four min_four   -- for this text's walks alone
set_option linter.unusedVariables false
set_option linter.unusedSimpArgs false

/-! ### erewhilelaw20_AdmitRows: function 8 -/
mutual
def erewhilelaw20_AdmitRows.l0 : Nat → Int → Int → List Int → List Int → Int → Option (Bool)
  | 0, _, _, _, _, _ => none
  | k + 1, x0, x1, x2, x7, x8 => if x8 < (x2.length : Int) then (if 0 ≤ x8 then (if x7.length < 17592186044416 then (erewhilelaw20_AdmitRows.l0 k x0 x1 x2 (x7 ++ [wrap64 (rd x2 x8)]) (wrap64 (x8 + 1))) else (none)) else (none)) else ((admit_Plan.f k (wrap64 (x0)) (wrap64 (x1)) x7).bind fun t123 => (if t123 < 0 then (erewhilelaw20_AdmitRows.j1 k x0 x1 x7 t123 true) else (erewhilelaw20_AdmitRows.j1 k x0 x1 x7 t123 (decide (t123 > (x7.length : Int))))))
def erewhilelaw20_AdmitRows.j1 : Nat → Int → Int → List Int → Int → Bool → Option (Bool)
  | 0, _, _, _, _, _ => none
  | k + 1, x0, x1, x7, x9, x44 => if x44 = true then (some false) else (erewhilelaw20_AdmitRows.l1 k x0 x1 x7 x9 (wrap64 (x1)) 0)
def erewhilelaw20_AdmitRows.l1 : Nat → Int → Int → List Int → Int → Int → Int → Option (Bool)
  | 0, _, _, _, _, _, _ => none
  | k + 1, x0, x1, x7, x9, x10, x11 => if x11 < x9 then (if 0 ≤ x11 then (if x11 ≤ (x7.length : Int) then ((admit_Plan.f k (wrap64 (x0)) (wrap64 (x1)) (x7.take (x11 : Int).toNat)).bind fun t130 => (if t130 = x11 then (if x11 < (x7.length : Int) then ((admit_Now.f (wrap64 ((wrap64 (x0)) - x10)) (rd x7 x11)).bind fun t132 => (erewhilelaw20_AdmitRows.j3 k x0 x1 x7 x9 x10 x11 (!t132))) else (none)) else (erewhilelaw20_AdmitRows.j3 k x0 x1 x7 x9 x10 x11 true))) else (none)) else (none)) else (if x9 = (x7.length : Int) then (some true) else (if x1 > x0 then (some true) else (if 0 ≤ x9 then (if x9 < (x7.length : Int) then ((admit_Now.f (wrap64 ((wrap64 (x0)) - x10)) (rd x7 x9)).bind fun t125 => (some (!t125))) else (none)) else (none))))
def erewhilelaw20_AdmitRows.j3 : Nat → Int → Int → List Int → Int → Int → Int → Bool → Option (Bool)
  | 0, _, _, _, _, _, _, _ => none
  | k + 1, x0, x1, x7, x9, x10, x11, x73 => if x73 = true then (some false) else (if 0 ≤ x11 then (if x11 < (x7.length : Int) then (if 0 ≤ (wrap64 (x11 + 1)) then (if (wrap64 (x11 + 1)) ≤ (x7.length : Int) then ((admit_Plan.f k (wrap64 (x0)) (wrap64 (x10 + (rd x7 x11))) (x7.drop ((wrap64 (x11 + 1)) : Int).toNat)).bind fun t138 => (if t138 = (wrap64 ((wrap64 (x9 - x11)) - 1)) then (erewhilelaw20_AdmitRows.l1 k x0 x1 x7 x9 (wrap64 (x10 + (rd x7 x11))) (wrap64 (x11 + 1))) else (some false))) else (none)) else (none)) else (none)) else (none))
end
def erewhilelaw20_AdmitRows.f (k : Nat) (a0 : Int) (a1 : Int) (l2 : List Int) : Option (Bool) := (erewhilelaw20_awake.f k).bind fun t118 => (if t118 = true then (if (l2.length : Int) > 100 then (some true) else (erewhilelaw20_AdmitRows.l0 k a0 a1 l2 ([] : List Int) 0)) else (some false))
theorem erewhilelaw20_AdmitRows.mono_l : ∀ k, (∀ y0 y1 y2 y3 y4, LeO (erewhilelaw20_AdmitRows.l0 k y0 y1 y2 y3 y4) (erewhilelaw20_AdmitRows.l0 (k + 1) y0 y1 y2 y3 y4)) ∧ (∀ y0 y1 y2 y3 y4, LeO (erewhilelaw20_AdmitRows.j1 k y0 y1 y2 y3 y4) (erewhilelaw20_AdmitRows.j1 (k + 1) y0 y1 y2 y3 y4)) ∧ (∀ y0 y1 y2 y3 y4 y5, LeO (erewhilelaw20_AdmitRows.l1 k y0 y1 y2 y3 y4 y5) (erewhilelaw20_AdmitRows.l1 (k + 1) y0 y1 y2 y3 y4 y5)) ∧ (∀ y0 y1 y2 y3 y4 y5 y6, LeO (erewhilelaw20_AdmitRows.j3 k y0 y1 y2 y3 y4 y5 y6) (erewhilelaw20_AdmitRows.j3 (k + 1) y0 y1 y2 y3 y4 y5 y6))
  | 0 => ⟨fun _ _ _ _ _ r h => by simp [erewhilelaw20_AdmitRows.l0] at h, fun _ _ _ _ _ r h => by simp [erewhilelaw20_AdmitRows.j1] at h, fun _ _ _ _ _ _ r h => by simp [erewhilelaw20_AdmitRows.l1] at h, fun _ _ _ _ _ _ _ r h => by simp [erewhilelaw20_AdmitRows.j3] at h⟩
  | k + 1 => by
    obtain ⟨ih0, ih1, ih2, ih3⟩ := erewhilelaw20_AdmitRows.mono_l k
    refine ⟨?_, ?_, ?_, ?_⟩
    · intro y0 y1 y2 y3 y4
      unfold erewhilelaw20_AdmitRows.l0
      repeat' first
      | (with_reducible exact ih0 _ _ _ _ _)
      | (with_reducible exact ih1 _ _ _ _ _)
      | (with_reducible exact ih2 _ _ _ _ _ _)
      | (with_reducible exact ih3 _ _ _ _ _ _ _)
      | (with_reducible exact admit_Plan.mono _ _ _ _)
      | (with_reducible exact erewhilelaw20_awake.mono _)
      | (with_reducible exact LeO.refl _)
      | (with_reducible exact LeO.none _)
      | (with_reducible refine LeO.ite ?_ ?_)
      | (with_reducible refine LeO.bind ?_ (fun _ => ?_))
      | exact ih0 _ _ _ _ _
      | exact ih1 _ _ _ _ _
      | exact ih2 _ _ _ _ _ _
      | exact ih3 _ _ _ _ _ _ _
      | exact admit_Plan.mono _ _ _ _
      | exact erewhilelaw20_awake.mono _
      | exact LeO.none _
      | refine LeO.ite ?_ ?_
      | refine LeO.bind ?_ (fun _ => ?_)
    · intro y0 y1 y2 y3 y4
      unfold erewhilelaw20_AdmitRows.j1
      repeat' first
      | (with_reducible exact ih0 _ _ _ _ _)
      | (with_reducible exact ih1 _ _ _ _ _)
      | (with_reducible exact ih2 _ _ _ _ _ _)
      | (with_reducible exact ih3 _ _ _ _ _ _ _)
      | (with_reducible exact admit_Plan.mono _ _ _ _)
      | (with_reducible exact erewhilelaw20_awake.mono _)
      | (with_reducible exact LeO.refl _)
      | (with_reducible exact LeO.none _)
      | (with_reducible refine LeO.ite ?_ ?_)
      | (with_reducible refine LeO.bind ?_ (fun _ => ?_))
      | exact ih0 _ _ _ _ _
      | exact ih1 _ _ _ _ _
      | exact ih2 _ _ _ _ _ _
      | exact ih3 _ _ _ _ _ _ _
      | exact admit_Plan.mono _ _ _ _
      | exact erewhilelaw20_awake.mono _
      | exact LeO.none _
      | refine LeO.ite ?_ ?_
      | refine LeO.bind ?_ (fun _ => ?_)
    · intro y0 y1 y2 y3 y4 y5
      unfold erewhilelaw20_AdmitRows.l1
      repeat' first
      | (with_reducible exact ih0 _ _ _ _ _)
      | (with_reducible exact ih1 _ _ _ _ _)
      | (with_reducible exact ih2 _ _ _ _ _ _)
      | (with_reducible exact ih3 _ _ _ _ _ _ _)
      | (with_reducible exact admit_Plan.mono _ _ _ _)
      | (with_reducible exact erewhilelaw20_awake.mono _)
      | (with_reducible exact LeO.refl _)
      | (with_reducible exact LeO.none _)
      | (with_reducible refine LeO.ite ?_ ?_)
      | (with_reducible refine LeO.bind ?_ (fun _ => ?_))
      | exact ih0 _ _ _ _ _
      | exact ih1 _ _ _ _ _
      | exact ih2 _ _ _ _ _ _
      | exact ih3 _ _ _ _ _ _ _
      | exact admit_Plan.mono _ _ _ _
      | exact erewhilelaw20_awake.mono _
      | exact LeO.none _
      | refine LeO.ite ?_ ?_
      | refine LeO.bind ?_ (fun _ => ?_)
    · intro y0 y1 y2 y3 y4 y5 y6
      unfold erewhilelaw20_AdmitRows.j3
      repeat' first
      | (with_reducible exact ih0 _ _ _ _ _)
      | (with_reducible exact ih1 _ _ _ _ _)
      | (with_reducible exact ih2 _ _ _ _ _ _)
      | (with_reducible exact ih3 _ _ _ _ _ _ _)
      | (with_reducible exact admit_Plan.mono _ _ _ _)
      | (with_reducible exact erewhilelaw20_awake.mono _)
      | (with_reducible exact LeO.refl _)
      | (with_reducible exact LeO.none _)
      | (with_reducible refine LeO.ite ?_ ?_)
      | (with_reducible refine LeO.bind ?_ (fun _ => ?_))
      | exact ih0 _ _ _ _ _
      | exact ih1 _ _ _ _ _
      | exact ih2 _ _ _ _ _ _
      | exact ih3 _ _ _ _ _ _ _
      | exact admit_Plan.mono _ _ _ _
      | exact erewhilelaw20_awake.mono _
      | exact LeO.none _
      | refine LeO.ite ?_ ?_
      | refine LeO.bind ?_ (fun _ => ?_)
theorem erewhilelaw20_AdmitRows.mono : ∀ a0 a1 a2 k, LeO (erewhilelaw20_AdmitRows.f k a0 a1 a2) (erewhilelaw20_AdmitRows.f (k + 1) a0 a1 a2) := by
  intro a0 a1 a2 k
  obtain ⟨ih0, ih1, ih2, ih3⟩ := erewhilelaw20_AdmitRows.mono_l k
  unfold erewhilelaw20_AdmitRows.f
  repeat' first
      | (with_reducible exact ih0 _ _ _ _ _)
      | (with_reducible exact ih1 _ _ _ _ _)
      | (with_reducible exact ih2 _ _ _ _ _ _)
      | (with_reducible exact ih3 _ _ _ _ _ _ _)
      | (with_reducible exact admit_Plan.mono _ _ _ _)
      | (with_reducible exact erewhilelaw20_awake.mono _)
      | (with_reducible exact LeO.refl _)
      | (with_reducible exact LeO.none _)
      | (with_reducible refine LeO.ite ?_ ?_)
      | (with_reducible refine LeO.bind ?_ (fun _ => ?_))
      | exact ih0 _ _ _ _ _
      | exact ih1 _ _ _ _ _
      | exact ih2 _ _ _ _ _ _
      | exact ih3 _ _ _ _ _ _ _
      | exact admit_Plan.mono _ _ _ _
      | exact erewhilelaw20_awake.mono _
      | exact LeO.none _
      | refine LeO.ite ?_ ?_
      | refine LeO.bind ?_ (fun _ => ?_)
set_option maxHeartbeats 8000000 in
set_option maxRecDepth 100000 in
theorem erewhilelaw20_AdmitRows.calls (k : Nat) (a0 : Int) (a1 : Int) (A2 : Option Addr) (c2 : Nat) (l2 : List Int) (r : Bool) (w : World) (hr2 : Kd.C (Kd.int .u8) w A2 l2.length l2) (hc2 : l2.length ≤ c2) (h : erewhilelaw20_AdmitRows.f k a0 a1 l2 = some r) :
    Calls Try.prog 8 #[.int .u16 a0, .int .u16 a1, .slice A2 l2.length c2] w fun e w' => e = .returned (.bool r) ∧ Below w.heap.size w w' := by
  have HR2 := Aside0.mk hr2
  have HC2 := Aside0.mk hc2
  clear hr2 hc2
  have HB := Aside0.mk (Below.refl w.heap.size w)
  have H : ((erewhilelaw20_awake.f k).bind fun t118 => (if t118 = true then (if (l2.length : Int) > 100 then (some true) else (erewhilelaw20_AdmitRows.l0 k a0 a1 l2 ([] : List Int) 0)) else (some false))) = some r := h
  clear h
  replace H := Option.bind_eq_some_iff.mp H
  obtain ⟨t118, A40, H⟩ := H
  replace H : (if t118 = true then (if (l2.length : Int) > 100 then (some true) else (erewhilelaw20_AdmitRows.l0 k a0 a1 l2 ([] : List Int) 0)) else (some false)) = some r := H
  have A4 := Aside0.mk A40
  clear A40
  by_cases c5 : t118 = true
  · subst c5
    have H1 : (if (l2.length : Int) > 100 then (some true) else (erewhilelaw20_AdmitRows.l0 k a0 a1 l2 ([] : List Int) 0)) = some r := by rw [if_pos rfl] at H; exact H
    clear H
    have H := H1
    clear H1
    by_cases c6 : (l2.length : Int) > 100
    · rw [if_pos c6] at H
      have c6b0 : decide (100 < (l2.length : Int)) = true := decide_eq_true c6
      have c6b1 : decide (100 < l2.length) = true := decide_eq_true (by omega)
      clear c6
      obtain rfl := Option.some.inj H
      go_enter Try.func8, Try.ntmps8
      go_wp2_with (first | ((with_reducible refine gate_callee (f := 12) rfl ?_); refine goesL_ (some 12) rfl rfl Try.func12 (by kernel_rfl) rfl #[] rfl (by (try simp only [List.map_toArray, List.map_cons, List.map_nil]); first | done | rfl | (simp only [List.length_drop, List.length_take]; rfl)) ?_; (with_reducible refine (erewhilelaw20_awake.calls k  true _ A4.out).mono ?_); rintro e w7 ⟨rfl, hb⟩; refine ⟨_, rfl, ?_⟩; have n0_ := Aside0.mk (below_step (by repeat (first | (with_reducible first | exact HB.out | apply below_alloc | apply pw_below_drewN | apply below_drew1) | exact HB.out)) hb); clear HB; have HB := n0_; clear n0_; (try clear hb); (try clear hb2); (try clear hk); (try clear hi)))
      go_ret
      exact ⟨by first | rfl | (simp [errW_none, errW_some] <;> rfl) | (simp [*, errW_none, errW_some] <;> rfl), by repeat (first | (with_reducible first | exact HB.out | apply below_alloc | apply pw_below_drewN | apply below_drew1) | exact HB.out)⟩
    · rw [if_neg c6] at H
      have c6b0 : decide (100 < (l2.length : Int)) = false := decide_eq_false c6
      have c6b1 : decide (100 < l2.length) = false := decide_eq_false (by omega)
      clear c6
      have H' := Aside0.mk H
      clear H
      go_enter Try.func8, Try.ntmps8
      go_wp2_with (first | ((with_reducible refine gate_callee (f := 12) rfl ?_); refine goesL_ (some 12) rfl rfl Try.func12 (by kernel_rfl) rfl #[] rfl (by (try simp only [List.map_toArray, List.map_cons, List.map_nil]); first | done | rfl | (simp only [List.length_drop, List.length_take]; rfl)) ?_; (with_reducible refine (erewhilelaw20_awake.calls k  true _ A4.out).mono ?_); rintro e w8 ⟨rfl, hb⟩; refine ⟨_, rfl, ?_⟩; have n0_ := Aside0.mk (below_step (by repeat (first | (with_reducible first | exact HB.out | apply below_alloc | apply pw_below_drewN | apply below_drew1) | exact HB.out)) hb); clear HB; have HB := n0_; clear n0_; (try clear hb); (try clear hb2); (try clear hk); (try clear hi)))
      go_loopg [7, 8] k (fun kq v7 v8 w' => ∃ (x7_1 : List Int) (x8_1 : Int), v8 = .int .i64 x8_1 ∧ Aside0 (erewhilelaw20_AdmitRows.l0 kq a0 a1 l2 x7_1 x8_1 = some r) ∧ Aside0 (kq ≤ k) ∧ Aside0 (Kd.R (Kd.int .i64) 3 w' w.heap.size (fun _ => True) v7 x7_1) ∧ Aside0 (Below w.heap.size w w'))
      case atStart => exact ⟨(([] : List Int)), (0), (by first | rfl | (simp; done) | (simp [*]; done)), H', ⟨Nat.le_refl _⟩, ⟨by first | exact Kd.R_nil _ _ _ _ _ | exact Kd.N_nil _ _ _ _ _ | exact Kd.V_nil _ _ _ _ _ | exact Kd.Q_nil _ _ _ _ _ | exact Kd.S_nil _ _ _ _ _⟩, ⟨by repeat (first | (with_reducible first | exact HB.out | apply below_alloc | apply pw_below_drewN | apply below_drew1) | exact HB.out)⟩⟩
      case round =>
        clear H'
        try clear c1
        try clear c2
        try clear p2
        try clear c5
        try clear c6
        try clear c6b0
        try clear c6b1
        try clear c8
        obtain ⟨x7_1, x8_1, rfl, HA, HK1, HO_7, HB⟩ := hrel
        cases gk with
        | zero => exact absurd HA.out (by simp [erewhilelaw20_AdmitRows.l0])
        | succ k1 =>
          have H := HA.out
          clear HA
          simp only [erewhilelaw20_AdmitRows.l0] at H
          by_cases c9 : x8_1 < (l2.length : Int)
          · rw [if_pos c9] at H
            have c9b0 : decide (x8_1 < (l2.length : Int)) = true := decide_eq_true c9
            clear c9
            by_cases c10 : 0 ≤ x8_1
            · rw [if_pos c10] at H
              have c10b0 : decide (0 ≤ x8_1) = true := decide_eq_true c10
              clear c10
              by_cases c11 : x7_1.length < 17592186044416
              · rw [if_pos c11] at H
                have LMc11 := Aside0.mk c11
                clear c11
                obtain ⟨y120, hy120⟩ : ∃ y_ : List Int, y_ = (x7_1 ++ [wrap64 (rd l2 x8_1)]) := ⟨_, rfl⟩
                replace H : (erewhilelaw20_AdmitRows.l0 k1 a0 a1 l2 y120 (wrap64 (x8_1 + 1))) = some r := by first | (rw [hy120]; with_reducible exact H) | (have H2_ := (Option.bind_some _ _).symm.trans H; rw [hy120]; with_reducible exact H2_) | (have H2_ := (Option.bind_some _ _).symm.trans H; with_reducible exact H2_) | with_reducible exact H | (rw [hy120]; exact H) | exact H
                have Ny120 := Aside0.mk hy120
                clear hy120
                have H' := Aside0.mk H
                clear H
                have p119 : 0 ≤ (x8_1 : Int) := of_decide_eq_true (by first | (with_reducible assumption) | assumption)
                have q119 : x8_1 < (l2.length : Int) := of_decide_eq_true (by first | (with_reducible assumption) | assumption)
                obtain ⟨ad119, e119, hx119_0⟩ := Kd.at_int HR2.out x8_1 p119 q119
                cases e119
                replace hx119_0 := (HB.out.cell (World.block_lt_of_cell? w _ hx119_0)).trans hx119_0
                replace p119 := eq_true p119
                replace q119 := eq_true q119
                go_wp2_with (first | ((with_reducible refine gate_builtin (b := .append) (xs := #[.tmp 23, .tmp 29]) rfl ?_); (try (refine gate_guard (by rfl) ?_; dsimp only)); at_builtin; refine Kd.R_append (Kd.int .i64) (w0 := w) w.heap.size rfl (.tmp 23) (.tmp 29) 24 3 (.int .i64 0) 8 rfl Try.underlying24 info3 rfl (by decide) (by omega) u7 x7_1 (wrap64 (rd l2 x8_1)) [.int .i64 (wrap64 (rd l2 x8_1))] (fun _ => True) (fun _ => False) rfl rfl ?aP (fun _ hk => hk.elim) ?aF ?aO ?aB ?aS ?aL ?_; (case aP => exact rfl); (case aB => exact (by repeat (first | (with_reducible first | exact HB.out | apply below_alloc | apply pw_below_drewN | apply below_drew1) | exact HB.out))); (case aF => exact (fun _ _ => trivial)); (case aO => exact (by (with_reducible repeat (first | apply Kd.R_alloc | apply Kd.R_drewN | apply Kd.R_drew)); exact HO_7.out)); (case aS => exact (below_size (by repeat (first | (with_reducible first | exact HB.out | apply below_alloc | apply pw_below_drewN | apply below_drew1) | exact HB.out)))); (case aL => have := LMc11.out; omega); intro v121 w12 ho hb hg hat; rw [← Ny120.out] at ho; have n0_ := Aside0.mk (hb); have n1_ := Aside0.mk (ho); clear HB; clear HO_7; have HB := n0_; have HO122 := n1_; clear n0_ n1_; clear ho hb hg hat))
                go_roundg k1
                case measure => have := HK1.out; omega
                case rel => exact ⟨(y120), (wrap64 (x8_1 + 1)), (by first | rfl | (simp; done) | (simp [*]; done)), H', ⟨by have := HK1.out; omega⟩, ⟨by (with_reducible repeat (first | apply Kd.R_alloc | apply Kd.R_drewN | apply Kd.R_drew)); exact HO122.out⟩, ⟨by repeat (first | (with_reducible first | exact HB.out | apply below_alloc | apply pw_below_drewN | apply below_drew1) | exact HB.out)⟩⟩
              · rw [if_neg c11] at H
                exact absurd H (by simp)
            · rw [if_neg c10] at H
              exact absurd H (by simp)
          · rw [if_neg c9] at H
            have c9b0 : decide (x8_1 < (l2.length : Int)) = false := decide_eq_false c9
            clear c9
            replace H := Option.bind_eq_some_iff.mp H
            obtain ⟨t123, A130, H⟩ := H
            replace H : (if t123 < 0 then (erewhilelaw20_AdmitRows.j1 k1 a0 a1 x7_1 t123 true) else (erewhilelaw20_AdmitRows.j1 k1 a0 a1 x7_1 t123 (decide (t123 > (x7_1.length : Int))))) = some r := H
            have A13 := Aside0.mk A130
            clear A130
            have HC14 := Aside0.mk H
            clear H
            obtain ⟨Ao15, co15, eo15⟩ := Kd.R_slice HO_7.out
            subst eo15
            go_upto_region 11 with (first | ((with_reducible refine gate_callee (f := 17) rfl ?_); refine goesL_ (some 36) rfl rfl Try.func17 (by kernel_rfl) rfl #[.int .i64 (wrap64 (a0)), .int .i64 (wrap64 (a1)), .slice Ao15 x7_1.length co15] rfl (by (try simp only [List.map_toArray, List.map_cons, List.map_nil]); first | done | rfl | (simp only [List.length_drop, List.length_take]; rfl)) ?_; (with_reducible refine (admit_Plan.calls k1 (wrap64 (a0)) (wrap64 (a1)) _ _ x7_1 t123 _ ?side1 ?side2 A13.out).mono ?_); (case side1 => repeat (first | exact (Kd.R_reads' HO_7.out).2.2 | (with_reducible refine Kd.C_alloc ?_ _) | (with_reducible refine Kd.C_drewN ?_ _) | (with_reducible refine Kd.C_drew ?_))); (case side2 => exact (Kd.R_reads' HO_7.out).2.1); rintro e w' ⟨rfl, ⟨nd, rfl⟩⟩; refine ⟨_, rfl, ?_⟩))
            (try simp only [Act.put, List.setIfInBounds_toArray, List.set_cons_zero, List.set_cons_succ])
            go_cut [44] (fun v44 wc => ∃ (kq : Nat) (x44_13 : Bool), v44 = .bool x44_13 ∧ Aside0 (erewhilelaw20_AdmitRows.j1 kq a0 a1 x7_1 t123 x44_13 = some r) ∧ Aside0 (kq ≤ k1) ∧ Aside0 (Kd.R (Kd.int .i64) 3 wc w.heap.size (fun _ => True) (.slice Ao15 x7_1.length co15) x7_1) ∧ Aside0 (Below w.heap.size w wc))
            case first =>
              have H := HC14.out
              clear HC14
              by_cases c16 : t123 < 0
              · rw [if_pos c16] at H
                have c16b0 : decide (t123 < 0) = true := decide_eq_true c16
                clear c16
                (first | rw [c16b0] | (simp only [i64_w, i32_w]; rw [c16b0]) | skip)
                have H' := Aside0.mk H
                clear H
                go_wp2
                go_meet
                case rel => exact ⟨_, (true), (by first | rfl | (simp; done) | (simp [*]; done)), H', ⟨by have := HK1.out; first | omega | exact Nat.le_refl _⟩, ⟨by (with_reducible repeat (first | apply Kd.R_alloc | apply Kd.R_drewN | apply Kd.R_drew)); exact HO_7.out⟩, ⟨by repeat (first | (with_reducible first | exact HB.out | apply below_alloc | apply pw_below_drewN | apply below_drew1) | exact HB.out)⟩⟩
              · rw [if_neg c16] at H
                have c16b0 : decide (t123 < 0) = false := decide_eq_false c16
                clear c16
                (first | rw [c16b0] | (simp only [i64_w, i32_w]; rw [c16b0]) | skip)
                have H' := Aside0.mk H
                clear H
                go_wp2
                go_meet
                case rel => exact ⟨_, (decide (t123 > (x7_1.length : Int))), (by first | rfl | (simp; done) | (simp [*]; done)), H', ⟨by have := HK1.out; first | omega | exact Nat.le_refl _⟩, ⟨by (with_reducible repeat (first | apply Kd.R_alloc | apply Kd.R_drewN | apply Kd.R_drew)); exact HO_7.out⟩, ⟨by repeat (first | (with_reducible first | exact HB.out | apply below_alloc | apply pw_below_drewN | apply below_drew1) | exact HB.out)⟩⟩
            case rest =>
              clear HC14
              try clear c1
              try clear p1
              try clear q1
              try clear hx1
              try clear c2
              try clear p2
              try clear c5
              try clear c6
              try clear c6b0
              try clear c6b1
              try clear p6
              try clear c8
              try clear c9
              try clear c9b0
              try clear c10
              try clear c10b0
              try clear c11
              try clear p11
              try clear q11
              try clear hx11
              try clear c12
              try clear c16
              try clear c16b0
              try clear hx119_0
              try clear p119
              try clear p2
              try clear q119
              obtain ⟨kq, x44_13, rfl, HA, HJ13, HO_7, HB⟩ := hcut
              cases kq with
              | zero => exact absurd HA.out (by simp [erewhilelaw20_AdmitRows.j1])
              | succ kj13 =>
                have H := HA.out
                clear HA
                simp only [erewhilelaw20_AdmitRows.j1] at H
                by_cases c17 : x44_13 = true
                · subst c17
                  have H1 : (some false) = some r := by rw [if_pos rfl] at H; exact H
                  clear H
                  have H := H1
                  clear H1
                  obtain rfl := Option.some.inj H
                  go_wp2
                  go_ret
                  exact ⟨by first | rfl | (simp [errW_none, errW_some] <;> rfl) | (simp [*, errW_none, errW_some] <;> rfl), by repeat (first | (with_reducible first | exact HB.out | apply below_alloc | apply pw_below_drewN | apply below_drew1) | exact HB.out)⟩
                · replace c17 := Bool.eq_false_iff.mpr c17
                  subst c17
                  have H1 : (erewhilelaw20_AdmitRows.l1 kj13 a0 a1 x7_1 t123 (wrap64 (a1)) 0) = some r := by rw [if_neg (show ¬ (false = true) by decide)] at H; exact H
                  clear H
                  have H := H1
                  clear H1
                  have H' := Aside0.mk H
                  clear H
                  go_wp2
                  go_loopg [10, 11] kj13 (fun kq v10 v11 w' => ∃ (x10_3 : Int) (x11_3 : Int), v10 = .int .i64 x10_3 ∧ v11 = .int .i64 x11_3 ∧ Aside0 (erewhilelaw20_AdmitRows.l1 kq a0 a1 x7_1 t123 x10_3 x11_3 = some r) ∧ Aside0 (kq ≤ kj13) ∧ Aside0 (Kd.R (Kd.int .i64) 3 w' w.heap.size (fun _ => True) (.slice Ao15 x7_1.length co15) x7_1) ∧ Aside0 (Below w.heap.size w w'))
                  case atStart => exact ⟨(wrap64 (a1)), (0), (by first | rfl | (simp; done) | (simp [*]; done)), (by first | rfl | (simp; done) | (simp [*]; done)), H', ⟨Nat.le_refl _⟩, ⟨by (with_reducible repeat (first | apply Kd.R_alloc | apply Kd.R_drewN | apply Kd.R_drew)); exact HO_7.out⟩, ⟨by repeat (first | (with_reducible first | exact HB.out | apply below_alloc | apply pw_below_drewN | apply below_drew1) | exact HB.out)⟩⟩
                  case round =>
                    clear H'
                    try clear c1
                    try clear p1
                    try clear q1
                    try clear hx1
                    try clear c2
                    try clear p2
                    try clear c5
                    try clear c6
                    try clear c6b0
                    try clear c6b1
                    try clear p6
                    try clear c8
                    try clear c9
                    try clear c9b0
                    try clear c10
                    try clear c10b0
                    try clear c11
                    try clear p11
                    try clear q11
                    try clear hx11
                    try clear c12
                    try clear c16
                    try clear c16b0
                    try clear c17
                    try clear hx119_0
                    try clear p1
                    try clear p11
                    try clear p119
                    try clear p2
                    try clear p6
                    try clear q1
                    try clear q11
                    try clear q119
                    obtain ⟨x10_3, x11_3, rfl, rfl, HA, HK3, HO_7, HB⟩ := hrel
                    cases gk with
                    | zero => exact absurd HA.out (by simp [erewhilelaw20_AdmitRows.l1])
                    | succ k3 =>
                      have H := HA.out
                      clear HA
                      simp only [erewhilelaw20_AdmitRows.l1] at H
                      by_cases c18 : x11_3 < t123
                      · rw [if_pos c18] at H
                        have c18b0 : decide (x11_3 < t123) = true := decide_eq_true c18
                        clear c18
                        have HC19 := Aside0.mk H
                        clear H
                        go_upto_region 17 with (fail)
                        go_cut [73] (fun v73 wc => ∃ (kq : Nat) (x73_18 : Bool), v73 = .bool x73_18 ∧ Aside0 (erewhilelaw20_AdmitRows.j3 kq a0 a1 x7_1 t123 x10_3 x11_3 x73_18 = some r) ∧ Aside0 (kq ≤ k3) ∧ Aside0 (Kd.R (Kd.int .i64) 3 wc w.heap.size (fun _ => True) (.slice Ao15 x7_1.length co15) x7_1) ∧ Aside0 (Below w.heap.size w wc))
                        case first =>
                          have H := HC19.out
                          clear HC19
                          by_cases c20 : 0 ≤ x11_3
                          · rw [if_pos c20] at H
                            have c20b0 := eq_true c20
                            have c20b1 : decide (0 ≤ x11_3) = true := decide_eq_true c20
                            clear c20
                            by_cases c21 : x11_3 ≤ (x7_1.length : Int)
                            · rw [if_pos c21] at H
                              have c21b0 := eq_true c21
                              have c21b1 : decide (x11_3 ≤ (x7_1.length : Int)) = true := decide_eq_true c21
                              clear c21
                              obtain ⟨y126, hy126⟩ : ∃ y_ : List Int, y_ = (x7_1.take (x11_3 : Int).toNat) := ⟨_, rfl⟩
                              replace H : ((admit_Plan.f k3 (wrap64 (a0)) (wrap64 (a1)) y126).bind fun t130 => (if t130 = x11_3 then (if x11_3 < (x7_1.length : Int) then ((admit_Now.f (wrap64 ((wrap64 (a0)) - x10_3)) (rd x7_1 x11_3)).bind fun t132 => (erewhilelaw20_AdmitRows.j3 k3 a0 a1 x7_1 t123 x10_3 x11_3 (!t132))) else (none)) else (erewhilelaw20_AdmitRows.j3 k3 a0 a1 x7_1 t123 x10_3 x11_3 true))) = some r := by first | (rw [hy126]; with_reducible exact H) | (have H2_ := (Option.bind_some _ _).symm.trans H; rw [hy126]; with_reducible exact H2_) | (have H2_ := (Option.bind_some _ _).symm.trans H; with_reducible exact H2_) | with_reducible exact H | (rw [hy126]; exact H) | exact H
                              have Ny126 := Aside0.mk hy126
                              clear hy126
                              replace H := Option.bind_eq_some_iff.mp H
                              obtain ⟨t130, A220, H⟩ := H
                              replace H : (if t130 = x11_3 then (if x11_3 < (x7_1.length : Int) then ((admit_Now.f (wrap64 ((wrap64 (a0)) - x10_3)) (rd x7_1 x11_3)).bind fun t132 => (erewhilelaw20_AdmitRows.j3 k3 a0 a1 x7_1 t123 x10_3 x11_3 (!t132))) else (none)) else (erewhilelaw20_AdmitRows.j3 k3 a0 a1 x7_1 t123 x10_3 x11_3 true)) = some r := H
                              have A22 := Aside0.mk A220
                              clear A220
                              by_cases c23 : t130 = x11_3
                              · rw [if_pos c23] at H
                                have c23b0 : (t130 == x11_3) = true := beq_iff_eq.mpr c23
                                have c23b1 : (t130 != x11_3) = false := bne_eq_false_iff_eq.mpr c23
                                clear c23
                                (first | rw [c23b0] | (simp only [i64_w, i32_w]; rw [c23b0]) | skip)
                                by_cases c24 : x11_3 < (x7_1.length : Int)
                                · rw [if_pos c24] at H
                                  have c24b0 : decide (x11_3 < (x7_1.length : Int)) = true := decide_eq_true c24
                                  clear c24
                                  replace H := Option.bind_eq_some_iff.mp H
                                  obtain ⟨t132, A250, H⟩ := H
                                  replace H : (erewhilelaw20_AdmitRows.j3 k3 a0 a1 x7_1 t123 x10_3 x11_3 (!t132)) = some r := H
                                  have A25 := Aside0.mk A250
                                  clear A250
                                  have H' := Aside0.mk H
                                  clear H
                                  have q26 : (x11_3 : Int) ≤ ((x7_1.length : Int) : Int) := of_decide_eq_true (by first | (with_reducible assumption) | assumption)
                                  obtain ⟨i026, hi026, _, hsz26, _⟩ := info_parts info3
                                  have hroom26 : x7_1.length ≤ co15 := (Kd.R_reads' HO_7.out).2.1
                                  have hC26 : Kd.C (Kd.int .i64) _ Ao15 x7_1.length x7_1 := (Kd.R_reads' HO_7.out).2.2
                                  have hcut26 := cut_to (P := Try.prog) 24 3 .i64 Try.underlying24 hi026 Ao15 x7_1.length co15 x11_3 (of_decide_eq_true (by first | (with_reducible assumption) | assumption)) q26 hroom26
                                  have hr26 := Kd.C_take (m := (x11_3 : Int).toNat) hC26 (by omega)
                                  have hy26 : y126.length = (x11_3 : Int).toNat := (by rw [Ny126.out, List.length_take]; omega)
                                  rw [← Ny126.out] at hr26
                                  rw [← hy26] at hcut26
                                  have HR129 := Aside0.mk hr26
                                  have HC129 := Aside0.mk (show y126.length ≤ co15 from by omega)
                                  clear hr26 hC26 hroom26 hi026 hsz26
                                  have KY26 := Aside0.mk hy26
                                  clear hy26
                                  have KL26 := Aside0.mk (show (x11_3 : Int).toNat ≤ x7_1.length from by omega)
                                  replace q26 := eq_true q26
                                  go_wp2_with (first | ((with_reducible refine gate_callee (f := 17) rfl ?_); refine goesL_ (some 59) rfl rfl Try.func17 (by kernel_rfl) rfl #[.int .i64 (wrap64 (a0)), .int .i64 (wrap64 (a1)), .slice Ao15 y126.length co15] rfl (by (try simp only [List.map_toArray, List.map_cons, List.map_nil]); first | done | rfl | (simp only [List.length_drop, List.length_take]; rfl)) ?_; (with_reducible refine (admit_Plan.calls k3 (wrap64 (a0)) (wrap64 (a1)) _ _ y126 t130 _ ?side1 ?side2 A22.out).mono ?_); (case side1 => repeat (first | exact (by repeat (first | (with_reducible exact HR129.out) | (with_reducible refine Kd.C_alloc ?_ _) | (with_reducible refine Kd.C_drewN ?_ _) | (with_reducible refine Kd.C_drew ?_) | exact HR129.out)) | (with_reducible refine Kd.C_alloc ?_ _) | (with_reducible refine Kd.C_drewN ?_ _) | (with_reducible refine Kd.C_drew ?_))); (case side2 => exact HC129.out); rintro e w' ⟨rfl, ⟨nd, rfl⟩⟩; refine ⟨_, rfl, ?_⟩; have p131 : 0 ≤ (x11_3 : Int) := of_decide_eq_true (by first | (with_reducible assumption) | assumption); have q131 : x11_3 < (x7_1.length : Int) := of_decide_eq_true (by first | (with_reducible assumption) | assumption); obtain ⟨ad131, e131, hx131_0⟩ := Kd.at_int (Kd.R_reads' HO_7.out).2.2 x11_3 p131 q131; cases e131; replace p131 := eq_true p131; replace q131 := eq_true q131) | (go_at_call 13; (with_reducible refine (admit_Now.calls (wrap64 ((wrap64 (a0)) - x10_3)) (rd x7_1 x11_3) t132 _ A25.out).mono ?_); rintro e w' ⟨rfl, ⟨nd, rfl⟩⟩))
                                  go_meet
                                  case rel => exact ⟨_, (!t132), (by first | rfl | (simp; done) | (simp [*]; done)), H', ⟨by have := HK1.out; have := HJ13.out; have := HK3.out; first | omega | exact Nat.le_refl _⟩, ⟨by (with_reducible repeat (first | apply Kd.R_alloc | apply Kd.R_drewN | apply Kd.R_drew)); exact HO_7.out⟩, ⟨by repeat (first | (with_reducible first | exact HB.out | apply below_alloc | apply pw_below_drewN | apply below_drew1) | exact HB.out)⟩⟩
                                · rw [if_neg c24] at H
                                  exact absurd H (by simp)
                              · rw [if_neg c23] at H
                                have c23b0 : (t130 == x11_3) = false := beq_eq_false_iff_ne.mpr c23
                                have c23b1 : (t130 != x11_3) = true := bne_iff_ne.mpr c23
                                (first | rw [c23b0] | (simp only [i64_w, i32_w]; rw [c23b0]) | skip)
                                have H' := Aside0.mk H
                                clear H
                                have q27 : (x11_3 : Int) ≤ ((x7_1.length : Int) : Int) := of_decide_eq_true (by first | (with_reducible assumption) | assumption)
                                obtain ⟨i027, hi027, _, hsz27, _⟩ := info_parts info3
                                have hroom27 : x7_1.length ≤ co15 := (Kd.R_reads' HO_7.out).2.1
                                have hC27 : Kd.C (Kd.int .i64) _ Ao15 x7_1.length x7_1 := (Kd.R_reads' HO_7.out).2.2
                                have hcut27 := cut_to (P := Try.prog) 24 3 .i64 Try.underlying24 hi027 Ao15 x7_1.length co15 x11_3 (of_decide_eq_true (by first | (with_reducible assumption) | assumption)) q27 hroom27
                                have hr27 := Kd.C_take (m := (x11_3 : Int).toNat) hC27 (by omega)
                                have hy27 : y126.length = (x11_3 : Int).toNat := (by rw [Ny126.out, List.length_take]; omega)
                                rw [← Ny126.out] at hr27
                                rw [← hy27] at hcut27
                                have HR129 := Aside0.mk hr27
                                have HC129 := Aside0.mk (show y126.length ≤ co15 from by omega)
                                clear hr27 hC27 hroom27 hi027 hsz27
                                have KY27 := Aside0.mk hy27
                                clear hy27
                                have KL27 := Aside0.mk (show (x11_3 : Int).toNat ≤ x7_1.length from by omega)
                                replace q27 := eq_true q27
                                go_wp2_with (first | ((with_reducible refine gate_callee (f := 17) rfl ?_); refine goesL_ (some 59) rfl rfl Try.func17 (by kernel_rfl) rfl #[.int .i64 (wrap64 (a0)), .int .i64 (wrap64 (a1)), .slice Ao15 y126.length co15] rfl (by (try simp only [List.map_toArray, List.map_cons, List.map_nil]); first | done | rfl | (simp only [List.length_drop, List.length_take]; rfl)) ?_; (with_reducible refine (admit_Plan.calls k3 (wrap64 (a0)) (wrap64 (a1)) _ _ y126 t130 _ ?side1 ?side2 A22.out).mono ?_); (case side1 => repeat (first | exact (by repeat (first | (with_reducible exact HR129.out) | (with_reducible refine Kd.C_alloc ?_ _) | (with_reducible refine Kd.C_drewN ?_ _) | (with_reducible refine Kd.C_drew ?_) | exact HR129.out)) | (with_reducible refine Kd.C_alloc ?_ _) | (with_reducible refine Kd.C_drewN ?_ _) | (with_reducible refine Kd.C_drew ?_))); (case side2 => exact HC129.out); rintro e w' ⟨rfl, ⟨nd, rfl⟩⟩; refine ⟨_, rfl, ?_⟩))
                                go_meet
                                case rel => exact ⟨_, (true), (by first | rfl | (simp; done) | (simp [*]; done)), H', ⟨by have := HK1.out; have := HJ13.out; have := HK3.out; first | omega | exact Nat.le_refl _⟩, ⟨by (with_reducible repeat (first | apply Kd.R_alloc | apply Kd.R_drewN | apply Kd.R_drew)); exact HO_7.out⟩, ⟨by repeat (first | (with_reducible first | exact HB.out | apply below_alloc | apply pw_below_drewN | apply below_drew1) | exact HB.out)⟩⟩
                            · rw [if_neg c21] at H
                              exact absurd H (by simp)
                          · rw [if_neg c20] at H
                            exact absurd H (by simp)
                        case rest =>
                          clear HC19
                          try clear c1
                          try clear p1
                          try clear q1
                          try clear hx1
                          try clear c2
                          try clear p2
                          try clear q2
                          try clear c5
                          try clear c6
                          try clear c6b0
                          try clear c6b1
                          try clear p6
                          try clear c8
                          try clear c9
                          try clear c9b0
                          try clear c10
                          try clear c10b0
                          try clear c11
                          try clear p11
                          try clear q11
                          try clear hx11
                          try clear c12
                          try clear p13
                          try clear q13
                          try clear hx13
                          try clear c16
                          try clear c16b0
                          try clear c17
                          try clear c18
                          try clear c18b0
                          try clear c20
                          try clear c20b0
                          try clear c20b1
                          try clear c21
                          try clear c21b0
                          try clear c21b1
                          try clear c23
                          try clear c23b0
                          try clear c23b1
                          try clear c24
                          try clear c24b0
                          try clear q26
                          try clear q27
                          try clear hx119_0
                          try clear hx131_0
                          try clear p1
                          try clear p11
                          try clear p119
                          try clear p131
                          try clear p2
                          try clear p6
                          try clear q1
                          try clear q11
                          try clear q119
                          try clear q131
                          try clear q26
                          try clear q27
                          obtain ⟨kq, x73_18, rfl, HA, HJ18, HO_7, HB⟩ := hcut
                          cases kq with
                          | zero => exact absurd HA.out (by simp [erewhilelaw20_AdmitRows.j3])
                          | succ kj18 =>
                            have H := HA.out
                            clear HA
                            simp only [erewhilelaw20_AdmitRows.j3] at H
                            by_cases c28 : x73_18 = true
                            · subst c28
                              have H1 : (some false) = some r := by rw [if_pos rfl] at H; exact H
                              clear H
                              have H := H1
                              clear H1
                              obtain rfl := Option.some.inj H
                              go_wp2
                              go_ret
                              exact ⟨by first | rfl | (simp [errW_none, errW_some] <;> rfl) | (simp [*, errW_none, errW_some] <;> rfl), by repeat (first | (with_reducible first | exact HB.out | apply below_alloc | apply pw_below_drewN | apply below_drew1) | exact HB.out)⟩
                            · replace c28 := Bool.eq_false_iff.mpr c28
                              subst c28
                              have H1 : (if 0 ≤ x11_3 then (if x11_3 < (x7_1.length : Int) then (if 0 ≤ (wrap64 (x11_3 + 1)) then (if (wrap64 (x11_3 + 1)) ≤ (x7_1.length : Int) then ((admit_Plan.f kj18 (wrap64 (a0)) (wrap64 (x10_3 + (rd x7_1 x11_3))) (x7_1.drop ((wrap64 (x11_3 + 1)) : Int).toNat)).bind fun t138 => (if t138 = (wrap64 ((wrap64 (t123 - x11_3)) - 1)) then (erewhilelaw20_AdmitRows.l1 kj18 a0 a1 x7_1 t123 (wrap64 (x10_3 + (rd x7_1 x11_3))) (wrap64 (x11_3 + 1))) else (some false))) else (none)) else (none)) else (none)) else (none)) = some r := by rw [if_neg (show ¬ (false = true) by decide)] at H; exact H
                              clear H
                              have H := H1
                              clear H1
                              by_cases c29 : 0 ≤ x11_3
                              · rw [if_pos c29] at H
                                have c29b0 : decide (0 ≤ x11_3) = true := decide_eq_true c29
                                clear c29
                                by_cases c30 : x11_3 < (x7_1.length : Int)
                                · rw [if_pos c30] at H
                                  have c30b0 : decide (x11_3 < (x7_1.length : Int)) = true := decide_eq_true c30
                                  clear c30
                                  obtain ⟨ji31, hji31⟩ : ∃ j_ : Int, (wrap64 (x11_3 + 1)) = j_ := ⟨_, rfl⟩
                                  replace H : (if 0 ≤ (ji31) then (if (ji31) ≤ (x7_1.length : Int) then ((admit_Plan.f kj18 (wrap64 (a0)) (wrap64 (x10_3 + (rd x7_1 x11_3))) (x7_1.drop ((ji31) : Int).toNat)).bind fun t138 => (if t138 = (wrap64 ((wrap64 (t123 - x11_3)) - 1)) then (erewhilelaw20_AdmitRows.l1 kj18 a0 a1 x7_1 t123 (wrap64 (x10_3 + (rd x7_1 x11_3))) ji31) else (some false))) else (none)) else (none)) = some r := by first | (rw [hji31] at H; exact H) | (simp only [hji31] at H ⊢; exact H)
                                  have hji31w : (IntKind.i64.wrap (x11_3 + 1)) = ji31 := (i64_w _).trans hji31
                                  by_cases c32 : 0 ≤ (ji31)
                                  · rw [if_pos c32] at H
                                    have c32b0 := eq_true c32
                                    have c32b1 : decide (0 ≤ (ji31)) = true := decide_eq_true c32
                                    clear c32
                                    by_cases c33 : (ji31) ≤ (x7_1.length : Int)
                                    · rw [if_pos c33] at H
                                      have c33b0 := eq_true c33
                                      have c33b1 : decide ((ji31) ≤ (x7_1.length : Int)) = true := decide_eq_true c33
                                      clear c33
                                      obtain ⟨y134, hy134⟩ : ∃ y_ : List Int, y_ = (x7_1.drop ((ji31) : Int).toNat) := ⟨_, rfl⟩
                                      replace H : ((admit_Plan.f kj18 (wrap64 (a0)) (wrap64 (x10_3 + (rd x7_1 x11_3))) y134).bind fun t138 => (if t138 = (wrap64 ((wrap64 (t123 - x11_3)) - 1)) then (erewhilelaw20_AdmitRows.l1 kj18 a0 a1 x7_1 t123 (wrap64 (x10_3 + (rd x7_1 x11_3))) ji31) else (some false))) = some r := by first | (rw [hy134]; with_reducible exact H) | (have H2_ := (Option.bind_some _ _).symm.trans H; rw [hy134]; with_reducible exact H2_) | (have H2_ := (Option.bind_some _ _).symm.trans H; with_reducible exact H2_) | with_reducible exact H | (rw [hy134]; exact H) | exact H
                                      have Ny134 := Aside0.mk hy134
                                      clear hy134
                                      replace H := Option.bind_eq_some_iff.mp H
                                      obtain ⟨t138, A340, H⟩ := H
                                      replace H : (if t138 = (wrap64 ((wrap64 (t123 - x11_3)) - 1)) then (erewhilelaw20_AdmitRows.l1 kj18 a0 a1 x7_1 t123 (wrap64 (x10_3 + (rd x7_1 x11_3))) ji31) else (some false)) = some r := H
                                      have A34 := Aside0.mk A340
                                      clear A340
                                      by_cases c35 : t138 = (wrap64 ((wrap64 (t123 - x11_3)) - 1))
                                      · rw [if_pos c35] at H
                                        have c35b0 : (t138 == (wrap64 ((wrap64 (t123 - x11_3)) - 1))) = true := beq_iff_eq.mpr c35
                                        have c35b1 : (t138 != (wrap64 ((wrap64 (t123 - x11_3)) - 1))) = false := bne_eq_false_iff_eq.mpr c35
                                        clear c35
                                        have H' := Aside0.mk H
                                        clear H
                                        have p133 : 0 ≤ (x11_3 : Int) := of_decide_eq_true (by first | (with_reducible assumption) | assumption)
                                        have q133 : x11_3 < (x7_1.length : Int) := of_decide_eq_true (by first | (with_reducible assumption) | assumption)
                                        obtain ⟨ad133, e133, hx133_0⟩ := Kd.at_int (Kd.R_reads' HO_7.out).2.2 x11_3 p133 q133
                                        cases e133
                                        replace p133 := eq_true p133
                                        replace q133 := eq_true q133
                                        have q36 : ((ji31) : Int) ≤ ((x7_1.length : Int) : Int) := of_decide_eq_true (by first | (with_reducible assumption) | assumption)
                                        obtain ⟨i036, hi036, _, hsz36, _⟩ := info_parts info3
                                        have hroom36 : x7_1.length ≤ co15 := (Kd.R_reads' HO_7.out).2.1
                                        have hC36 : Kd.C (Kd.int .i64) _ (some ad133) x7_1.length x7_1 := (Kd.R_reads' HO_7.out).2.2
                                        have q036 : (0 : Int) ≤ ((ji31) : Int) := of_decide_eq_true (by first | (with_reducible assumption) | assumption)
                                        have hcut36 := cut_from (P := Try.prog) 24 3 .i64 Try.underlying24 hi036 1 hsz36 (some ad133) x7_1.length co15 (ji31) q036 q36
                                        have hr36 := Kd.C_drop (m := ((ji31) : Int).toNat) (c := co15) hC36 (by omega) hroom36
                                        obtain ⟨A36, hA36⟩ : ∃ A1, A1 = (if co15 = ((ji31) : Int).toNat then (some ad133) else ((some ad133) : Option Addr).map (·.add (((ji31) : Int).toNat * 1))) := ⟨_, rfl⟩
                                        obtain ⟨c36, hc36⟩ : ∃ c1, c1 = co15 - ((ji31) : Int).toNat := ⟨_, rfl⟩
                                        have hy36 : y134.length = x7_1.length - ((ji31) : Int).toNat := (by rw [Ny134.out, List.length_drop] <;> omega)
                                        rw [show (x7_1).drop ((ji31) : Int).toNat = y134 from Ny134.out.symm] at hr36
                                        replace hr36 : Kd.C (Kd.int .i64) _ A36 y134.length y134 := (by rw [hA36]; exact hr36)
                                        rw [← hy36, ← hA36, ← hc36] at hcut36
                                        have HR137 := Aside0.mk hr36
                                        have HC137 := Aside0.mk (show y134.length ≤ c36 from by rw [hy36, hc36]; exact Nat.sub_le_sub_right hroom36 _)
                                        clear hr36 hC36 hroom36 hi036 hsz36 hc36
                                        have KY36 := Aside0.mk hy36
                                        have KA36 := Aside0.mk hA36
                                        clear hy36 hA36
                                        have KL36 := Aside0.mk (show ((ji31) : Int).toNat ≤ x7_1.length from by omega)
                                        replace q36 := eq_true q36
                                        go_wp2_with (first | ((with_reducible refine gate_callee (f := 17) rfl ?_); refine goesL_ (some 87) rfl rfl Try.func17 (by kernel_rfl) rfl #[.int .i64 (wrap64 (a0)), .int .i64 (wrap64 (x10_3 + (rd x7_1 x11_3))), .slice A36 y134.length c36] rfl (by (try simp only [List.map_toArray, List.map_cons, List.map_nil]); first | done | rfl | (simp only [List.length_drop, List.length_take]; rfl)) ?_; (with_reducible refine (admit_Plan.calls kj18 (wrap64 (a0)) (wrap64 (x10_3 + (rd x7_1 x11_3))) _ _ y134 t138 _ ?side1 ?side2 A34.out).mono ?_); (case side1 => repeat (first | exact (by repeat (first | (with_reducible exact HR137.out) | (with_reducible refine Kd.C_alloc ?_ _) | (with_reducible refine Kd.C_drewN ?_ _) | (with_reducible refine Kd.C_drew ?_) | exact HR137.out)) | (with_reducible refine Kd.C_alloc ?_ _) | (with_reducible refine Kd.C_drewN ?_ _) | (with_reducible refine Kd.C_drew ?_))); (case side2 => exact HC137.out); rintro e w' ⟨rfl, ⟨nd, rfl⟩⟩; refine ⟨_, rfl, ?_⟩))
                                        go_roundg kj18
                                        case measure => have := HK1.out; have := HJ13.out; have := HK3.out; have := HJ18.out; omega
                                        case rel => exact ⟨(wrap64 (x10_3 + (rd x7_1 x11_3))), (ji31), (by first | rfl | (simp; done) | (simp [*]; done)), (by first | rfl | (simp; done) | (simp only [← hji31] <;> (first | rfl | simp)) | (simp [*]; done)), H', ⟨by have := HK1.out; have := HJ13.out; have := HK3.out; have := HJ18.out; omega⟩, ⟨by (with_reducible repeat (first | apply Kd.R_alloc | apply Kd.R_drewN | apply Kd.R_drew)); exact HO_7.out⟩, ⟨by repeat (first | (with_reducible first | exact HB.out | apply below_alloc | apply pw_below_drewN | apply below_drew1) | exact HB.out)⟩⟩
                                      · rw [if_neg c35] at H
                                        have c35b0 : (t138 == (wrap64 ((wrap64 (t123 - x11_3)) - 1))) = false := beq_eq_false_iff_ne.mpr c35
                                        have c35b1 : (t138 != (wrap64 ((wrap64 (t123 - x11_3)) - 1))) = true := bne_iff_ne.mpr c35
                                        obtain rfl := Option.some.inj H
                                        have p133 : 0 ≤ (x11_3 : Int) := of_decide_eq_true (by first | (with_reducible assumption) | assumption)
                                        have q133 : x11_3 < (x7_1.length : Int) := of_decide_eq_true (by first | (with_reducible assumption) | assumption)
                                        obtain ⟨ad133, e133, hx133_0⟩ := Kd.at_int (Kd.R_reads' HO_7.out).2.2 x11_3 p133 q133
                                        cases e133
                                        replace p133 := eq_true p133
                                        replace q133 := eq_true q133
                                        have q37 : ((ji31) : Int) ≤ ((x7_1.length : Int) : Int) := of_decide_eq_true (by first | (with_reducible assumption) | assumption)
                                        obtain ⟨i037, hi037, _, hsz37, _⟩ := info_parts info3
                                        have hroom37 : x7_1.length ≤ co15 := (Kd.R_reads' HO_7.out).2.1
                                        have hC37 : Kd.C (Kd.int .i64) _ (some ad133) x7_1.length x7_1 := (Kd.R_reads' HO_7.out).2.2
                                        have q037 : (0 : Int) ≤ ((ji31) : Int) := of_decide_eq_true (by first | (with_reducible assumption) | assumption)
                                        have hcut37 := cut_from (P := Try.prog) 24 3 .i64 Try.underlying24 hi037 1 hsz37 (some ad133) x7_1.length co15 (ji31) q037 q37
                                        have hr37 := Kd.C_drop (m := ((ji31) : Int).toNat) (c := co15) hC37 (by omega) hroom37
                                        obtain ⟨A37, hA37⟩ : ∃ A1, A1 = (if co15 = ((ji31) : Int).toNat then (some ad133) else ((some ad133) : Option Addr).map (·.add (((ji31) : Int).toNat * 1))) := ⟨_, rfl⟩
                                        obtain ⟨c37, hc37⟩ : ∃ c1, c1 = co15 - ((ji31) : Int).toNat := ⟨_, rfl⟩
                                        have hy37 : y134.length = x7_1.length - ((ji31) : Int).toNat := (by rw [Ny134.out, List.length_drop] <;> omega)
                                        rw [show (x7_1).drop ((ji31) : Int).toNat = y134 from Ny134.out.symm] at hr37
                                        replace hr37 : Kd.C (Kd.int .i64) _ A37 y134.length y134 := (by rw [hA37]; exact hr37)
                                        rw [← hy37, ← hA37, ← hc37] at hcut37
                                        have HR137 := Aside0.mk hr37
                                        have HC137 := Aside0.mk (show y134.length ≤ c37 from by rw [hy37, hc37]; exact Nat.sub_le_sub_right hroom37 _)
                                        clear hr37 hC37 hroom37 hi037 hsz37 hc37
                                        have KY37 := Aside0.mk hy37
                                        have KA37 := Aside0.mk hA37
                                        clear hy37 hA37
                                        have KL37 := Aside0.mk (show ((ji31) : Int).toNat ≤ x7_1.length from by omega)
                                        replace q37 := eq_true q37
                                        go_wp2_with (first | ((with_reducible refine gate_callee (f := 17) rfl ?_); refine goesL_ (some 87) rfl rfl Try.func17 (by kernel_rfl) rfl #[.int .i64 (wrap64 (a0)), .int .i64 (wrap64 (x10_3 + (rd x7_1 x11_3))), .slice A37 y134.length c37] rfl (by (try simp only [List.map_toArray, List.map_cons, List.map_nil]); first | done | rfl | (simp only [List.length_drop, List.length_take]; rfl)) ?_; (with_reducible refine (admit_Plan.calls kj18 (wrap64 (a0)) (wrap64 (x10_3 + (rd x7_1 x11_3))) _ _ y134 t138 _ ?side1 ?side2 A34.out).mono ?_); (case side1 => repeat (first | exact (by repeat (first | (with_reducible exact HR137.out) | (with_reducible refine Kd.C_alloc ?_ _) | (with_reducible refine Kd.C_drewN ?_ _) | (with_reducible refine Kd.C_drew ?_) | exact HR137.out)) | (with_reducible refine Kd.C_alloc ?_ _) | (with_reducible refine Kd.C_drewN ?_ _) | (with_reducible refine Kd.C_drew ?_))); (case side2 => exact HC137.out); rintro e w' ⟨rfl, ⟨nd, rfl⟩⟩; refine ⟨_, rfl, ?_⟩))
                                        go_ret
                                        exact ⟨by first | rfl | (simp [errW_none, errW_some] <;> rfl) | (simp only [← hji31]; first | rfl | (simp [errW_none, errW_some] <;> rfl)) | (simp [*, errW_none, errW_some] <;> rfl), by repeat (first | (with_reducible first | exact HB.out | apply below_alloc | apply pw_below_drewN | apply below_drew1) | exact HB.out)⟩
                                    · rw [if_neg c33] at H
                                      exact absurd H (by simp)
                                  · rw [if_neg c32] at H
                                    exact absurd H (by simp)
                                · rw [if_neg c30] at H
                                  exact absurd H (by simp)
                              · rw [if_neg c29] at H
                                exact absurd H (by simp)
                      · rw [if_neg c18] at H
                        have c18b0 : decide (x11_3 < t123) = false := decide_eq_false c18
                        clear c18
                        by_cases c38 : t123 = (x7_1.length : Int)
                        · rw [if_pos c38] at H
                          have c38b0 : (t123 == (x7_1.length : Int)) = true := beq_iff_eq.mpr c38
                          have c38b1 : (t123 != (x7_1.length : Int)) = false := bne_eq_false_iff_eq.mpr c38
                          clear c38
                          obtain rfl := Option.some.inj H
                          go_wp2
                          go_ret
                          exact ⟨by first | rfl | (simp [errW_none, errW_some] <;> rfl) | (simp [*, errW_none, errW_some] <;> rfl), by repeat (first | (with_reducible first | exact HB.out | apply below_alloc | apply pw_below_drewN | apply below_drew1) | exact HB.out)⟩
                        · rw [if_neg c38] at H
                          have c38b0 : (t123 == (x7_1.length : Int)) = false := beq_eq_false_iff_ne.mpr c38
                          have c38b1 : (t123 != (x7_1.length : Int)) = true := bne_iff_ne.mpr c38
                          by_cases c39 : a1 > a0
                          · rw [if_pos c39] at H
                            have c39b0 : decide (a0 < a1) = true := decide_eq_true c39
                            clear c39
                            obtain rfl := Option.some.inj H
                            go_wp2
                            go_ret
                            exact ⟨by first | rfl | (simp [errW_none, errW_some] <;> rfl) | (simp [*, errW_none, errW_some] <;> rfl), by repeat (first | (with_reducible first | exact HB.out | apply below_alloc | apply pw_below_drewN | apply below_drew1) | exact HB.out)⟩
                          · rw [if_neg c39] at H
                            have c39b0 : decide (a0 < a1) = false := decide_eq_false c39
                            clear c39
                            by_cases c40 : 0 ≤ t123
                            · rw [if_pos c40] at H
                              have c40b0 : decide (0 ≤ t123) = true := decide_eq_true c40
                              clear c40
                              by_cases c41 : t123 < (x7_1.length : Int)
                              · rw [if_pos c41] at H
                                have c41b0 : decide (t123 < (x7_1.length : Int)) = true := decide_eq_true c41
                                clear c41
                                replace H := Option.bind_eq_some_iff.mp H
                                obtain ⟨t125, A420, H⟩ := H
                                replace H : (some (!t125)) = some r := H
                                have A42 := Aside0.mk A420
                                clear A420
                                obtain rfl := Option.some.inj H
                                have p124 : 0 ≤ (t123 : Int) := of_decide_eq_true (by first | (with_reducible assumption) | assumption)
                                have q124 : t123 < (x7_1.length : Int) := of_decide_eq_true (by first | (with_reducible assumption) | assumption)
                                obtain ⟨ad124, e124, hx124_0⟩ := Kd.at_int (Kd.R_reads' HO_7.out).2.2 t123 p124 q124
                                cases e124
                                replace p124 := eq_true p124
                                replace q124 := eq_true q124
                                go_wp2_with (first | (go_at_call 13; (with_reducible refine (admit_Now.calls (wrap64 ((wrap64 (a0)) - x10_3)) (rd x7_1 t123) t125 _ A42.out).mono ?_); rintro e w' ⟨rfl, ⟨nd, rfl⟩⟩))
                                go_ret
                                exact ⟨by first | rfl | (simp [errW_none, errW_some] <;> rfl) | (simp [*, errW_none, errW_some] <;> rfl), by repeat (first | (with_reducible first | exact HB.out | apply below_alloc | apply pw_below_drewN | apply below_drew1) | exact HB.out)⟩
                              · rw [if_neg c41] at H
                                exact absurd H (by simp)
                            · rw [if_neg c40] at H
                              exact absurd H (by simp)
  · replace c5 := Bool.eq_false_iff.mpr c5
    subst c5
    have H1 : (some false) = some r := by rw [if_neg (show ¬ (false = true) by decide)] at H; exact H
    clear H
    have H := H1
    clear H1
    obtain rfl := Option.some.inj H
    go_enter Try.func8, Try.ntmps8
    go_wp2_with (first | ((with_reducible refine gate_callee (f := 12) rfl ?_); refine goesL_ (some 12) rfl rfl Try.func12 (by kernel_rfl) rfl #[] rfl (by (try simp only [List.map_toArray, List.map_cons, List.map_nil]); first | done | rfl | (simp only [List.length_drop, List.length_take]; rfl)) ?_; (with_reducible refine (erewhilelaw20_awake.calls k  false _ A4.out).mono ?_); rintro e w43 ⟨rfl, hb⟩; refine ⟨_, rfl, ?_⟩; have n0_ := Aside0.mk (below_step (by repeat (first | (with_reducible first | exact HB.out | apply below_alloc | apply pw_below_drewN | apply below_drew1) | exact HB.out)) hb); clear HB; have HB := n0_; clear n0_; (try clear hb); (try clear hb2); (try clear hk); (try clear hi)))
    go_ret
    exact ⟨by first | rfl | (simp [errW_none, errW_some] <;> rfl) | (simp [*, errW_none, errW_some] <;> rfl), by repeat (first | (with_reducible first | exact HB.out | apply below_alloc | apply pw_below_drewN | apply below_drew1) | exact HB.out)⟩

/-- THE ONE PURE STATEMENT of erewhilelaw20_AdmitRows: yours. -/
def erewhilelaw20_AdmitRows.Pure : Prop := ∀ (a0 : Int) (a1 : Int) (l2 : List Int), (Lit.int .u16 a0).wf = true → (Lit.int .u16 a1).wf = true → l2.length ≤ maxLen → l2.length * 1 ≤ 140737488351232 → (∀ x ∈ l2, (Lit.int .u8 x).wf = true) → ∃ k, erewhilelaw20_AdmitRows.f k a0 a1 l2 = some true
theorem erewhilelaw20_AdmitRows.walk (P : erewhilelaw20_AdmitRows.Pure) (a0 : Int) (a1 : Int) (a2 : Option Addr) (len2 cap2 : Nat) (z2 : List Int) (w : World) (w0 : (Lit.int .u16 a0).wf = true) (w1 : (Lit.int .u16 a1).wf = true) (w2 : (a2 = none ∧ len2 = 0 ∧ cap2 = 0 ∧ z2 = []) ∨ ∃ x, a2 = some x ∧ len2 ≤ cap2 ∧ cap2 ≤ maxLen ∧ z2.length = cap2 ∧ (∀ i, i < z2.length → w.cell? (x.add i) = some (.int .u8 (z2.getD i 0))) ∧ ∀ n ∈ z2, (Lit.int .u8 n).wf = true) (y2 : len2 * 1 ≤ 140737488351232) :
    Calls Try.prog 8 #[.int .u16 a0, .int .u16 a1, .slice a2 len2 cap2] w fun e w' => e = .returned (.bool true) ∧ Below w.heap.size w w' := by
  obtain ⟨l2, rfl, hr2, hm2, hw2, hc2⟩ := ReadsInt.ofRowC w2
  obtain ⟨k, h⟩ := P a0 a1 l2 w0 w1 hm2 y2 hw2
  refine (erewhilelaw20_AdmitRows.calls k a0 a1 _ _ l2 true w (Kd.C_of_reads (d := (0 : Int)) (h1 := fun _ => rfl) hr2) hc2 h).mono ?_
  rintro e w' ⟨rfl, hd⟩
  exact ⟨rfl, hd⟩

end Go.Proofs.Ytacpceakdnomnaa.PAdmitRows
