/- The walk of AdmitLedger: it answers true, whatever the three bytes, for a slice of whatever length. -/
import Derived.Test.YtacpceakdnomnaaLNums
import Derived.Test.YtacpceakdnomnaaQPure
import Derived.Deep.QuietTactic
import Derived.BigQuiet
import Derived.Laws.OwnMore
import Derived.IntWalk
namespace Go.Proofs.Ytacpceakdnomnaa.Q
open Go.RowKit Go.Proofs.Ytacpceakdnomnaa.L Go.Proofs.Ytacpceakdnomnaa.PAdmitLedger Go.Proofs.YtacpceakdnomnaaW.PrintWords
set_option linter.unusedVariables false
set_option linter.unusedSimpArgs false
theorem q_same {P : Program} {f : FuncId} {args : Array Value} {w : World} {n : Nat} {v : Value} (h : Calls P f args (w.drewN n) fun e w' => e = .returned v ∧ w.drewN n = w') :
    Calls P f args (w.drewN n) fun e w'' => e = .returned v ∧ ∃ m, w'' = w.drewN m := h.mono fun _ _ ⟨he, hm⟩ => ⟨he, n, hm.symm⟩
theorem q_drawn {P : Program} {f : FuncId} {args : Array Value} {w : World} {n : Nat} {v : Value} (h : Calls P f args (w.drewN n) fun e w' => e = .returned v ∧ Drawn0 (w.drewN n) w') :
    Calls P f args (w.drewN n) fun e w'' => e = .returned v ∧ ∃ m, w'' = w.drewN m := h.mono fun _ _ ⟨he, hm⟩ => ⟨he, by obtain ⟨m, rfl⟩ := hm.out; exact ⟨n + m, by rw [World.drewN_drewN]⟩⟩
theorem led_drewN {w : World} {g : Nat} {m l : Int} (h : IsLed w g m l) (n : Nat) : IsLed (w.drewN n) g m l := h
theorem own_ge {w : World} {base n size : Nat} {e : TypeId} {v : Value} {xs : List Value} (h : w.ownsRow base e size v n xs) : ∀ q, v.ownBlock = some q → base ≤ q := fun q hq => by
  rcases h.2 with ⟨e, _⟩ | ⟨g, cap, cur, e, hg, _⟩
  · rw [e] at hq; cases hq
  · rw [e] at hq; simp only [Value.ownBlock, Option.some.injEq] at hq; omega
/-- A slice of the call's own, apart from the account. -/
def OwnAt (w : World) (g0 : Nat) (A : Option Addr) (l : List Int) : Prop := 0 < l.length → ∃ g, A = some ⟨g, 0, none⟩ ∧ g ≠ g0 ∧ ∀ j (h : j < l.length), w.cell? ⟨g, j, none⟩ = some (.int .i64 l[j])
theorem OwnAt.only {w w' : World} {g0 : Nat} {A : Option Addr} {l : List Int} (h : OwnAt w g0 A l) (o : Only g0 w w') : OwnAt w' g0 A l := fun hl => by
  obtain ⟨g, e, hne, hc⟩ := h hl
  exact ⟨g, e, hne, fun j hj => (World.cell?_of_block (w := w) (o.block g hne)).trans (hc j hj)⟩
theorem own_open {w : World} {base n g0 : Nat} {v : Value} {l : List Int} (hn : n = l.length) (h : w.ownsRow base 3 1 v n (nums .i64 l)) (hg : v.ownBlock ≠ some g0) :
    ∃ A c, v = .slice A l.length c ∧ l.length ≤ c ∧ ReadsInt w .i64 A l.length l ∧ OwnAt w g0 A l := by
  subst hn
  obtain ⟨A, c, rfl, hr⟩ := own_reads h
  refine ⟨A, c, rfl, ?_, hr, fun hl => ?_⟩
  · rcases h.2 with ⟨e, e2⟩ | ⟨g, cap, cur, e, _, _, hle, _⟩
    · omega
    · cases e; exact hle
  · rcases h.2 with ⟨e, e2⟩ | ⟨g, cap, cur, e, _, _, hle, _⟩
    · omega
    · cases e
      refine ⟨g, rfl, fun e => hg (by rw [e]; rfl), fun j hj => ?_⟩
      rw [h.cellAt j (by omega)]
      simp [nums, List.getElem?_eq_getElem hj]
theorem bel_drewN {B : Nat} {w wr : World} (h : Below B w wr) (n : Nat) : Below B w (wr.drewN n) := ⟨h.os, h.tape, h.output, h.size, h.block⟩
theorem own_drewN {w : World} {g0 : Nat} {A : Option Addr} {l : List Int} (h : OwnAt w g0 A l) (n : Nat) : OwnAt (w.drewN n) g0 A l := h
def M2 (a b : Int) : Int := mostOf (3 + a % 5) (1 + b % 8)
theorem M2_bd (a b : Int) : 1 ≤ M2 a b ∧ M2 a b ≤ 40 := by
  have hok : okS (3 + a % 5) (1 + b % 8) := by unfold okS; omega
  have e : M2 a b = (3 + a % 5 - 2) * (1 + b % 8) := if_pos hok
  rw [e]
  have h1 : 1 ≤ 3 + a % 5 - 2 ∧ 3 + a % 5 - 2 ≤ 5 := by omega
  have h2 : 1 ≤ 1 + b % 8 ∧ 1 + b % 8 ≤ 8 := by omega
  have := Int.mul_le_mul h1.2 h2.2 (by omega) (by omega)
  have h3 : 1 * 1 ≤ (3 + a % 5 - 2) * (1 + b % 8) := Int.mul_le_mul h1.1 h2.1 (by omega) (by omega)
  omega
theorem planC_drop : ∀ (i : Nat) (room : Int) (l : List Int), i ≤ QP.planC room l → QP.planC room l = i + QP.planC (room - sumL (l.take i)) (l.drop i)
  | 0, room, l => by simp [sumL]
  | i + 1, room, [] => by simp [QP.planC]
  | i + 1, room, x :: xs => by
    simp only [QP.planC, List.take_succ_cons, List.drop_succ_cons, sumL]
    by_cases h : x < 0 ∨ x > room
    · rw [if_pos h]; omega
    · rw [if_neg h]
      intro hi
      have := planC_drop i (room - x) xs (by omega)
      rw [this, show room - (x + sumL (xs.take i)) = room - x - sumL (xs.take i) by omega]; omega
theorem planC_le : ∀ (room : Int) (l : List Int), QP.planC room l ≤ l.length
  | _, [] => by simp [QP.planC]
  | room, x :: xs => by
    simp only [QP.planC, List.length_cons]
    split
    · omega
    · have := planC_le (room - x) xs; omega
theorem planC_sum : ∀ (j : Nat) (room : Int) (l : List Int), 0 ≤ room → j ≤ QP.planC room l → sumL (l.take j) ≤ room
  | 0, room, l, h, _ => by simpa [sumL] using h
  | j + 1, room, [], h, _ => by simpa [sumL] using h
  | j + 1, room, x :: xs, h, hj => by
    simp only [QP.planC] at hj
    simp only [List.take_succ_cons, sumL]
    by_cases c : x < 0 ∨ x > room
    · rw [if_pos c] at hj; omega
    · rw [if_neg c] at hj
      have := planC_sum j (room - x) xs (by omega) (by omega)
      omega
theorem planC_yes {room : Int} {l : List Int} {j : Nat} (h : j < QP.planC room l) (hj : j < l.length) : l[j] ≤ room - sumL (l.take j) := by
  have e := planC_drop j room l (by omega)
  rw [List.drop_eq_getElem_cons hj] at e
  simp only [QP.planC] at e
  by_cases c : l[j] < 0 ∨ l[j] > room - sumL (l.take j)
  · rw [if_pos c] at e; omega
  · omega
theorem planC_no {room : Int} {l : List Int} {j : Nat} (h : j = QP.planC room l) (hj : j < l.length) (h0 : 0 ≤ l[j]) : ¬ l[j] ≤ room - sumL (l.take j) := by
  have e := planC_drop j room l (by omega)
  rw [List.drop_eq_getElem_cons hj] at e
  simp only [QP.planC] at e
  by_cases c : l[j] < 0 ∨ l[j] > room - sumL (l.take j)
  · omega
  · rw [if_neg c] at e; omega
def BuildRel (B g0 : Nat) (M live : Int) (l : List Int) (w : World) (all i : Value) (wr : World) : Prop :=
  ∃ k : Nat, k ≤ l.length ∧ i = .int .i64 k ∧ wr.ownsRow (g0 + 1) 3 1 all k (nums .i64 (l.take k)) ∧ IsLed wr g0 M live ∧ Below B w wr
def TakeRel (B g0 : Nat) (M live : Int) (A : Option Addr) (l : List Int) (w : World) (i : Value) (wr : World) : Prop :=
  ∃ k : Nat, k ≤ QP.planC (M - live) l ∧ i = .int .i64 k ∧ IsLed wr g0 M (live + sumL (l.take k)) ∧ OwnAt wr g0 A l ∧ Below B w wr
set_option maxHeartbeats 6400000 in
set_option maxRecDepth 100000 in
theorem law_at (a b v M : Int) (A : Option Addr) (cap : Nat) (l : List Int) (w : World) (ha : 0 ≤ a) (ha' : a ≤ 255) (hb : 0 ≤ b) (hb' : b ≤ 255) (hv : 0 ≤ v) (hv' : v ≤ 255) (hM0 : 1 ≤ M) (hM1 : M ≤ 40) (hMe : Hid (M2 a b = M))
    (hl : l.length ≤ 50) (hw : Hid (∀ x ∈ l, 0 ≤ x ∧ x ≤ 255)) (hA : Hid (IntsAt .u8 w w.heap.size A l)) :
    Calls Try.prog 11 #[.int .u8 a, .int .u8 b, .int .u8 v, .slice A l.length cap] w fun e w' => e = .returned (.bool true) ∧ Below w.heap.size w w' := by
  obtain ⟨i0, hi0, hz0, hz1, hz2⟩ := info_parts info3
  have haw := Lib.hid (QP.awake_ok 10 (by omega))
  go_enter Try.func11, Try.ntmps11
  go_wp2_with fail
  refine (erewhilelaw20_awake.calls 10 true _ haw.out).mono ?_
  rintro e w1 ⟨rfl, hb1⟩
  go_wp2_with fail
  refine (new_at (3 + a % 5) (1 + b % 8) _ M hMe.out).mono ?_
  rintro e w2 ⟨g0, rfl, hg, H, hb2⟩
  have hgw : w.heap.size ≤ g0 := by have := hb1.size; omega
  have B2 : Below w.heap.size w w2 := hb1.trans (hb2.mono hb1.size)
  clear hb1 hb2 hg
  go_wp2_with fail
  by_cases c : v ≤ M
  · refine (take_yes H (by omega) (by omega) (by omega) hv (by omega)).mono ?_
    rintro e w3 ⟨rfl, H3, o3⟩
    rw [show (0 : Int) + v = v by omega] at H3
    have B3 := B2.trans (o3.below hgw)
    clear H B2 o3
    go_wp2_with fail
    go_loopw [10, 11] (fun all i wr => BuildRel w.heap.size g0 M v l w all i wr) (fun _ i _ => l.length - (intOf i).toNat)
    case atStart => exact ⟨0, by omega, rfl, ⟨rfl, .inl ⟨rfl, rfl⟩⟩, H3, B3⟩
    case round =>
      obtain ⟨k, hk, rfl, hown, H4, B4⟩ := hrel
      have hltg := H4.lt
      by_cases c1 : k < l.length
      · obtain ⟨bb, off, rfl, hbl, hck⟩ := (hA.out.below B4).get k c1
        have hx := hw.out _ (List.getElem_mem c1)
        have E := Lib.hid (takeL_at l k c1)
        go_wp2_with (at_builtin; refine wpList_append_own _ rfl _ _ 24 rfl (g0 + 1) 3 i0 (.int .i64 0) 1 8 Try.underlying24 hi0 hz0 hz1 hz2 rfl (by decide) _ _ _ rfl (hown.alloc _) ⟨wr.heap.size, 0, none⟩ 1 1 [.int .i64 l[k]] rfl rfl ?c1 ?c2 ?c3 ?c4 ?c5 ?_)
        case c1 => exact World.news_of_block (cs := #[.int .i64 l[k]]) (t := 3) (fr := (0, 0)) (heap_alloc_new wr _)
        case c2 => simp [Value.oneCell']
        case c3 => simp [maxLen]; omega
        case c4 => omega
        case c5 => simp; omega
        intro v' w4 hown4 hgrow _
        have hob := own_ge hown
        have B5 : Below w.heap.size w w4 := (B4.alloc B4.size _).grown hgrow (by have := B4.size; simp; omega) (fun q hq => by have := hob q hq; omega)
        have H5 : IsLed w4 g0 M v := by
          have h1 : IsLed (wr.alloc (.cells #[.int .i64 l[k]] 3)) g0 M v := (Below.heap_alloc wr _ g0 hltg).trans H4
          exact (hgrow.block g0 (by simp; omega) (fun e => by have := hob g0 e.symm; omega)).trans h1
        clear hgrow hob
        go_wp2
        go_roundw
        case rel => exact ⟨k + 1, by omega, by go_num, by rw [E.out]; unfold nums at hown4 ⊢; rw [List.map_append]; exact hown4, H5, B5⟩
        case measure => simp [intOf]; omega
      · obtain rfl : k = l.length := by omega
        rw [List.take_length] at hown
        have hob := own_ge hown
        obtain ⟨A', c', rfl, hle, hr, hO⟩ := own_open rfl hown (fun e => absurd (hob g0 e) (by omega))
        clear hob hown
        have hP := QP.plan_f 100 M v l (fun x hx => by have := hw.out x hx; omega) (by omega) (by omega) (by omega) (by omega) (by omega) (by omega)
        rw [QP.planR_yes (by omega)] at hP
        have hP := Lib.hid hP
        have hR := Lib.hid hr
        have hpl := planC_le (M - v) l
        have HO := Lib.hid hO
        clear hr hO c1
        go_wp2_with fail
        refine (most_some _ _ _ _ H4).mono ?_
        rintro e w' ⟨rfl, rfl⟩
        go_wp2_with fail
        refine (live_some _ _ _ _ H4).mono ?_
        rintro e w' ⟨rfl, rfl⟩
        go_wp2_with fail
        refine (admit_Plan.calls 100 M v A' c' l _ _ (Kd.C_of_reads (d := (0 : Int)) (h1 := fun _ => rfl) hR.out) hle hP.out).mono ?_
        rintro e w4 ⟨rfl, hdr⟩
        obtain ⟨nq, rfl⟩ := hdr.out
        clear hdr
        have HO : Hid (OwnAt (wr.drewN nq) g0 A' l) := HO.out
        have H4 := led_drewN H4 nq
        have B4 : Below w.heap.size w (wr.drewN nq) := ⟨B4.os, B4.tape, B4.output, B4.size, B4.block⟩
        clear hP hR
        generalize wr.drewN nq = wr2 at *
        go_wp2_with fail
        go_loopw [13] (fun i wr => TakeRel w.heap.size g0 M v A' l w i wr) (fun i _ => l.length - (intOf i).toNat)
        case atStart => exact ⟨0, by omega, rfl, by simpa [sumL] using H4, HO.out, B4⟩
        case round =>
          obtain ⟨k, hk, rfl, H6, O6, B6⟩ := hrel
          have hs := sumL_bd (l.take k) (fun x hx => hw.out x (List.mem_of_mem_take hx))
          have htl : (l.take k).length ≤ 50 := by rw [List.length_take]; omega
          have hsum := planC_sum k (M - v) l (by omega) hk
          by_cases c1 : k < l.length
          · obtain ⟨g, rfl, hgg, hc⟩ := O6 (by omega)
            have hck := hc k c1
            have hx := hw.out _ (List.getElem_mem c1)
            have E := Lib.hid (takeL_at l k c1)
            have O6 := Lib.hid O6
            clear hc
            have w1 : IntKind.i64.wrap (M - (v + sumL (l.take k))) = M - (v + sumL (l.take k)) := IntWalk.i64_in _ (by omega)
            by_cases c2 : k < QP.planC (M - v) l
            · have hf := planC_yes c2 c1
              have d1 : l[k] ≤ M - (v + sumL (l.take k)) := by clear w1; omega
              have hnow : Hid (admit_Now.f (M - (v + sumL (l.take k))) l[k] = some true) := by
                show _ = _
                rw [QP.now_f]
                have e1 : decide (l[k] ≥ 0) = true := decide_eq_true hx.1
                have e2 : decide (l[k] ≤ M - (v + sumL (l.take k))) = true := decide_eq_true d1
                rw [e1, e2]; rfl
              have hi0 : (0 : Int) ≤ (k : Int) := by clear w1; omega
              have hi1 : (k : Int) < (l.length : Int) := by clear w1; omega
              have q1 : Hid (0 ≤ v + sumL (l.take k) ∧ v + sumL (l.take k) ≤ M ∧ M ≤ 100000) := by show _ ∧ _; clear w1; omega
              have q2 : Hid (0 ≤ l[k] ∧ l[k] ≤ M - (v + sumL (l.take k))) := by show _ ∧ _; clear w1; omega
              go_wp2_with fail
              go_quiet (first
                | (go_at_call 23; exact q_same (fits_yes (led_drewN H6 _) q1.out.1 q1.out.2.1 q1.out.2.2 q2.out))
                | (go_at_call 24; exact q_same (room_some _ _ _ _ (led_drewN H6 _) q1.out.1 q1.out.2.1 q1.out.2.2))
                | (go_at_call 13; exact q_drawn (admit_Now.calls _ _ true _ hnow.out)))
              go_wp2_with fail
              refine (take_yes (led_drewN H6 _) (by clear w1; omega) (by clear w1; omega) (by clear w1; omega) (by clear w1; omega) (by clear w1; omega)).mono ?_
              rintro e w5 ⟨rfl, H7, o7⟩
              have O7 := OwnAt.only (own_drewN O6.out _) o7
              have B7 := (bel_drewN B6 _).trans (o7.below hgw)
              clear w1 o7
              go_wp2_with fail
              go_roundw
              case rel => exact ⟨k + 1, by omega, by go_num, by rw [E.out, sumL_append]; simp only [sumL]; rw [show v + (sumL (l.take k) + (l[k] + 0)) = v + sumL (l.take k) + l[k] by omega]; exact H7, O7, B7⟩
              case measure => simp [intOf]; omega
            · have c3 : k = QP.planC (M - v) l := by clear w1; omega
              have hf := planC_no c3 c1 hx.1
              have d1 : ¬ l[k] ≤ M - (v + sumL (l.take k)) := by clear w1; omega
              have hnow : Hid (admit_Now.f (M - (v + sumL (l.take k))) l[k] = some false) := by
                show _ = _
                rw [QP.now_f]
                have e2 : decide (l[k] ≤ M - (v + sumL (l.take k))) = false := decide_eq_false d1
                rw [e2]; simp
              have hi0 : (0 : Int) ≤ (k : Int) := by clear w1; omega
              have hi1 : (k : Int) < (l.length : Int) := by clear w1; omega
              have c4 : ¬ (k : Int) < (QP.planC (M - v) l : Int) := by clear w1; omega
              have c5 : decide ((k : Int) < (QP.planC (M - v) l : Int)) = false := decide_eq_false c4
              have c6 : decide (k < QP.planC (M - v) l) = false := decide_eq_false c2
              have C3 := Lib.hid c3
              clear c3 c2
              have q1 : Hid (0 ≤ v + sumL (l.take k) ∧ v + sumL (l.take k) ≤ M ∧ M ≤ 100000) := by show _ ∧ _; clear w1; omega
              have q2 : Hid (¬ (0 ≤ l[k] ∧ l[k] ≤ M - (v + sumL (l.take k)))) := by show ¬ (_ ∧ _); clear w1; omega
              go_wp2_with fail
              go_quiet (first
                | (go_at_call 23; exact q_same (fits_not (led_drewN H6 _) q1.out.1 q1.out.2.1 q1.out.2.2 q2.out))
                | (go_at_call 24; exact q_same (room_some _ _ _ _ (led_drewN H6 _) q1.out.1 q1.out.2.1 q1.out.2.2))
                | (go_at_call 13; exact q_drawn (admit_Now.calls _ _ false _ hnow.out)))
              go_wp2_with fail
              refine (take_no (led_drewN H6 _) (by clear w1; omega) (by clear w1; omega) (by clear w1; omega) (by clear w1; omega) (by clear w1; omega)).mono ?_
              rintro e w5 ⟨rfl, H7, o7⟩
              have B7 := (bel_drewN B6 _).trans (o7.below hgw)
              clear w1 o7
              go_wp2_with fail
              go_ret
              exact ⟨rfl, B7⟩
          · have c2 : QP.planC (M - v) l = l.length := by omega
            obtain rfl : k = l.length := by omega
            have C2 := Lib.hid c2
            clear c2 c1
            rw [C2.out]
            go_wp2_with fail
            go_ret
            exact ⟨rfl, B6⟩
  · refine (take_no H (by omega) (by omega) (by omega) hv (by omega)).mono ?_
    rintro e w3 ⟨rfl, H3, o3⟩
    have B3 := B2.trans (o3.below hgw)
    have d := decide_eq_false c
    go_wp2_with fail
    refine (most_some _ _ _ _ H3).mono ?_
    rintro e w' ⟨rfl, rfl⟩
    go_wp2_with fail
    go_ret
    exact ⟨by first | rfl | (simp; omega), B3⟩
set_option maxHeartbeats 400000 in
theorem law_long (a b v : Int) (A : Option Addr) (n cap : Nat) (w : World) (hn : 50 < n) (hn' : n ≤ 9223372036854775807) :
    Calls Try.prog 11 #[.int .u8 a, .int .u8 b, .int .u8 v, .slice A n cap] w fun e w' => e = .returned (.bool true) ∧ Below w.heap.size w w' := by
  have haw := Lib.hid (QP.awake_ok 10 (by omega))
  go_enter Try.func11, Try.ntmps11
  go_wp2_with fail
  refine (erewhilelaw20_awake.calls 10 true _ haw.out).mono ?_
  rintro e w1 ⟨rfl, hb1⟩
  go_wp2_with fail
  go_ret
  exact ⟨rfl, hb1⟩
theorem law_ok (a b v : Int) (A : Option Addr) (len cap : Nat) (zs : List Int) (w : World) (ha : (Lit.int .u8 a).wf = true) (hb : (Lit.int .u8 b).wf = true) (hv : (Lit.int .u8 v).wf = true)
    (h : (A = none ∧ len = 0 ∧ cap = 0 ∧ zs = []) ∨ ∃ x, A = some x ∧ len ≤ cap ∧ cap ≤ maxLen ∧ zs.length = cap ∧ (∀ i, i < zs.length → w.cell? (x.add i) = some (.int .u8 (zs.getD i 0))) ∧ ∀ n ∈ zs, (Lit.int .u8 n).wf = true) :
    Calls Try.prog 11 #[.int .u8 a, .int .u8 b, .int .u8 v, .slice A len cap] w fun e w' => e = .returned (.bool true) ∧ Below w.heap.size w w' := by
  obtain ⟨l, rfl, hA, hm, hwf⟩ := intsAt_of h
  have h1 := wf8 ha
  have h2 := wf8 hb
  have h3 := wf8 hv
  by_cases c : l.length ≤ 50
  · exact law_at a b v (M2 a b) A cap l w h1.1 h1.2 h2.1 h2.2 h3.1 h3.2 (M2_bd a b).1 (M2_bd a b).2 rfl c (fun x hx => wf8 (hwf x hx)) hA
  · exact law_long a b v A l.length cap w (by omega) (by unfold maxLen at hm; omega)
end Go.Proofs.Ytacpceakdnomnaa.Q
