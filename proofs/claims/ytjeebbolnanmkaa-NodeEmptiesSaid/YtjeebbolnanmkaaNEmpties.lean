/- The law NodeEmpties. -/
import Derived.Test.YtjeebbolnanmkaaNEmptU
namespace Go.Proofs.Ytjeebbolnanmkaa.N
open Go.BigFrame Go.RowKit Go.Proofs.YtjeebbolnanmkaaW.PrintMore Go.Proofs.YtjeebbolnanmkaaW.PrintWords
set_option linter.unusedVariables false
set_option linter.unusedSimpArgs false
def SwapRel (B : Nat) (w : World) (g : Nat) (ls : List Sp) (n1 : Nat) (i : Value) (wr : World) : Prop := ∃ (j : Nat) (ms : List Sp), i = .int .i64 j ∧ j ≤ n1 ∧ ms.Perm ls ∧ RowAt wr g ms ∧ Below B w wr
theorem wf_u8' {n : Int} (h : (Lit.int .u8 n).wf = true) : 0 ≤ n ∧ n ≤ 255 := by
  simp [Lit.wf, IntKind.min, IntKind.max, IntKind.bits, IntKind.signed] at h
  omega
theorem bytes_of {w : World} {a : Option Addr} {len cap : Nat} {zs : List Int} (h : (a = none ∧ len = 0 ∧ cap = 0 ∧ zs = []) ∨ ∃ x, a = some x ∧ len ≤ cap ∧ cap ≤ maxLen ∧ zs.length = cap ∧ (∀ i, i < zs.length → w.cell? (x.add i) = some (.int .u8 (zs.getD i 0))) ∧ ∀ n ∈ zs, (Lit.int .u8 n).wf = true) :
    BytesAt w a len (fun j => (zs.getD j 0).toNat) := fun j hj => by
  rcases h with ⟨_, h, _⟩ | ⟨x, e, h1, h2, h3, h4, h5⟩
  · omega
  · have hz : j < zs.length := by omega
    have hm : zs.getD j 0 ∈ zs := by rw [List.getD_eq_getElem?_getD, List.getElem?_eq_getElem hz]; exact List.getElem_mem hz
    obtain ⟨b1, b2⟩ := wf_u8' (h5 _ hm)
    refine ⟨x, e, ?_, ?_⟩
    · show w.cell? (x.add j) = some (.int .u8 (((zs.getD j 0).toNat : Nat) : Int))
      rw [h4 j hz, Int.toNat_of_nonneg b1]
    · show (zs.getD j 0).toNat ≤ 255
      omega
def TakeRel (w : World) (ls ms : List Sp) (N : Nat) (r i : Value) (wr : World) : Prop := ∃ (j : Nat) (rr : Option Addr) (e : List Ent), i = .int .i64 j ∧ r = .pointer rr ∧ j ≤ N ∧ RootAt wr rr e ∧ LeftE ls ms j e ∧ Below w.heap.size w wr
def FirstRel (w : World) (ms : List Sp) (y : Sp) (jj : Nat) (f k : Value) (wr : World) : Prop := ∃ (kk : Nat) (fb : Bool), k = .int .i64 kk ∧ f = .bool fb ∧ kk ≤ jj ∧ fb = decide (y ∉ ms.take kk) ∧ Below w.heap.size w wr
theorem RootAt.right {w : World} {q : Nat} {e : List Ent} (h : RootAt w (some ⟨q, 0, none⟩) e) (ha : Asc e) (hl : e.length ≤ 400) (X : World) (hX : Below w.heap.size w X) :
    Calls Try.prog 20 #[.pointer (some ⟨q, 0, none⟩), .bool true] X fun e w' => e = .returned (.bool true) ∧ Below X.heap.size X w' := by
  rcases h with ⟨e, _⟩ | ⟨q', h, n, e, hn, h0, h2, h4⟩
  · cases e
  · cases e
    have hp := hn.tall h0 h2
    have hh : h ≤ 50 := by
      refine Nat.le_of_not_lt fun hc => ?_
      have : 2 ^ 9 ≤ 2 ^ h := Nat.pow_le_pow_right (by decide) (by omega)
      omega
    exact right_nd (hn.below hX) (by rw [if_pos rfl]; exact h0) h2 h4 ha hh
def GrowRel (w : World) (ls : List Sp) (r i : Value) (wr : World) : Prop := ∃ (j : Nat) (rr : Option Addr), i = .int .i64 j ∧ r = .pointer rr ∧ j ≤ ls.length ∧ RootAt wr rr (putsE ls j) ∧ Below w.heap.size w wr
set_option maxHeartbeats 12800000 in
set_option maxRecDepth 100000 in
theorem empties_ok {w : World} {A : Option Addr} {c : Nat} {ls : List Sp} (hs : SpotsAt w A ls) {A1 : Option Addr} {n1 c1 : Nat} {z : Nat → Nat} (hz : BytesAt w A1 n1 z) :
    Calls Try.prog 10 #[.slice A ls.length c, .slice A1 n1 c1] w fun e w' => e = .returned (.bool true) ∧ Below w.heap.size w w' := by
  have HS := Lib.hid hs
  have HZ := Lib.hid hz
  obtain ⟨N, hN⟩ : ∃ N, ls.length = N := ⟨_, rfl⟩
  have HN := Lib.hid hN
  rw [hN]
  clear hs hz hN
  go_enter Try.func10, Try.ntmps10
  go_wp2_with fail
  refine (awake_ok w).mono ?_
  rintro e w1 ⟨rfl, hb1⟩
  have HB1 := Lib.hid hb1
  clear hb1
  by_cases hn : 30 < N
  · have hg : decide ((30 : Int) < (N : Int)) = true := by simp; omega
    go_wp2_with fail
    go_ret
    exact ⟨rfl, HB1.out⟩
  have hg : decide ((30 : Int) < (N : Int)) = false := by simp; omega
  by_cases hn1 : 60 < n1
  · have hg1 : decide ((60 : Int) < (n1 : Int)) = true := by simp; omega
    go_wp2_with fail
    go_ret
    exact ⟨rfl, HB1.out⟩
  have hg1 : decide ((60 : Int) < (n1 : Int)) = false := by simp; omega
  go_wp2_with fail
  go_loopw [5, 6] (fun r i wr => GrowRel w1 ls r i wr) (fun _ i _ => (N - intOf i).toNat)
  case atStart => exact ⟨0, none, rfl, rfl, Nat.zero_le _, .inl ⟨rfl, rfl⟩, Below.refl _ _⟩
  case round =>
    obtain ⟨j, rr, rfl, rfl, hj, hr, hbr⟩ := hrel
    rw [HN.out] at hj
    have HBr := Lib.hid hbr
    have HR := Lib.hid hr
    by_cases hjn : j < N
    · have hjl : j < ls.length := by rw [HN.out]; exact hjn
      have hbw := HB1.out.trans (hbr.mono HB1.out.size)
      obtain ⟨b, off, rfl, hblt, hcs⟩ := (HS.out.below hbw) (by rw [HN.out]; omega)
      obtain ⟨s0, s1, s2, s3⟩ := hcs j hjl
      have hps := putsE_succ hjl
      have HG := Lib.hid (grow_at hr (putsE_ok ls j (by omega)).1 (ls[j]) (j : Int))
      rw [← hps] at HG
      clear hps hcs hr hbr hbw
      generalize ls[j]'(_) = y at *
      have e1 : (0 : Int) ≤ (j : Int) := by omega
      have e2 : (j : Int) < (N : Int) := by omega
      have e3 : IntKind.u64.wrap (j : Int) = (j : Int) := by rw [IntKind.wrap_u64]; omega
      go_wp2_with fail
      refine HG.out.mono ?_
      rintro e w5 ⟨r5, rfl, hr5, hb5⟩
      go_wp2_with fail
      go_roundw
      case rel => exact ⟨j + 1, r5, by simp, rfl, by rw [HN.out]; exact hjn, hr5, HBr.out.trans (hb5.mono HBr.out.size)⟩
      case measure => (simp [intOf] <;> omega)
    · obtain rfl : j = N := by omega
      have hok := putsE_ok ls j (by rw [HN.out]; exact Nat.le_refl _)
      rw [show ls.take j = ls from List.take_of_length_le (by rw [HN.out]; exact Nat.le_refl _)] at hok
      have HOk := Lib.hid hok
      generalize putsE ls j = e0 at *
      clear hok hr hbr hj hjn
      by_cases hN0 : j = 0
      · subst hN0
        obtain rfl : e0 = [] := List.eq_nil_of_length_eq_zero (by have := HOk.out.2.1; omega)
        obtain rfl : rr = none := by
          rcases HR.out with ⟨h, _⟩ | ⟨q, h, n, _, hnd, h0, _⟩
          · exact h
          · exact absurd rfl (hnd.ne h0)
        have HRun := Lib.hid (app_S_nil (wr.alloc (.cells #[] 26)) wr.heap.size A c 30)
        clear HS
        obtain ⟨wa, hwa⟩ : ∃ X, X = wr := ⟨wr, rfl⟩
        subst hwa
        go_wp2_with (at_builtin; refine Lib.wpList_append_run _ rfl _ _ _ _ rfl _ _ rfl rfl _ _ HRun.out ?_)
        have hbx : Below wa.heap.size wa (wa.alloc (.cells #[] 26)) := (Below.refl _ _).alloc (Nat.le_refl _) _
        have HB2 := Lib.hid (HB1.out.trans ((HBr.out.trans (hbx.mono HBr.out.size)).mono HB1.out.size))
        clear hbx HRun
        generalize wa.alloc (.cells #[] 26) = W1 at *
        go_loopw [8] (fun i X => i = .int .i64 0 ∧ X = W1) (fun i _ => 0)
        case atStart => exact ⟨rfl, rfl⟩
        case round =>
          obtain ⟨rfl, rfl⟩ := hrel
          by_cases hz1 : (0 : Int) < (n1 : Int)
          all_goals (
            go_wp2_with fail
            go_loopw [5, 13] (fun r i X => r = .pointer none ∧ i = .int .i64 0 ∧ X = wr) (fun _ i _ => 0)
            case atStart => exact ⟨rfl, rfl, rfl⟩
            case round =>
              obtain ⟨rfl, rfl, rfl⟩ := hrel
              go_wp2_with fail
              go_ret
              exact ⟨rfl, HB2.out⟩)
      · have hN1 : 0 < j := by omega
        have hbw := HB1.out.trans (HBr.out.mono HB1.out.size)
        have hbx : Below wr.heap.size wr (wr.alloc (.cells #[] 26)) := (Below.refl _ _).alloc (Nat.le_refl _) _
        have hs1 := (HS.out.below hbw).below hbx
        obtain ⟨v', w', hr', ho', hb'⟩ := app_S_run (w := wr.alloc (.cells #[] 26)) wr.heap.size (.slice (some ⟨wr.heap.size, 0, none⟩) 0 0) 0 [] (empty_own wr 26 4 (by decide)) A j c ls HN.out hs1 hN1 j (by omega) (by omega) hbx.size 30
        rw [List.nil_append] at ho'
        obtain ⟨g, cm, rfl, hBg, hrow, hcm1, hcm2⟩ := own_row (by rw [HN.out]; exact ho') (by rw [HN.out]; exact hN1)
        rw [HN.out] at hr' hcm1
        have HRun := Lib.hid hr'
        have HBx := Lib.hid (hbx.trans hb')
        have HRow := Lib.hid hrow
        obtain ⟨wa, hwa⟩ : ∃ X, X = wr := ⟨wr, rfl⟩
        subst hwa
        clear hr' ho' hbx hb' hrow hs1 hbw HS
        go_wp2_with (at_builtin; refine Lib.wpList_append_run _ rfl _ _ _ _ rfl _ _ rfl rfl _ _ HRun.out ?_)
        have hwB := Nat.le_trans HB1.out.size HBr.out.size
        have HB2 := Lib.hid (HB1.out.trans ((HBr.out.trans (HBx.out.mono HBr.out.size)).mono HB1.out.size))
        have hsz : wa.heap.size ≤ w'.heap.size := HBx.out.size
        have HBB := Lib.hid HBx.out
        clear HRun HBx HBr HB1
        obtain ⟨B, hB⟩ : ∃ B, wa.heap.size = B := ⟨_, rfl⟩
        have HBW := Lib.hid hB
        rw [hB] at hBg hsz hwB
        clear hB
        have d0 : ((j : Int) == 0) = false := by rw [beq_eq_false_iff_ne]; omega
        have d1 : (j : Int) ≠ 0 := by omega
        have d2 : (j == 0) = false := by rw [beq_eq_false_iff_ne]; omega
        have d3 : decide ((0 : Int) < (j : Int)) = true := by simp <;> omega
        have d4 : (0 : Int) < (j : Int) := by omega
        go_loopw [8] (fun i X => SwapRel B w' g ls n1 i X) (fun i _ => (n1 - intOf i).toNat)
        case atStart => exact ⟨0, ls, rfl, Nat.zero_le _, List.Perm.refl _, HRow.out, Below.refl _ _⟩
        case round =>
          obtain ⟨i, ms, rfl, hi, hpm, hrw, hbr⟩ := hrel
          have HPm := Lib.hid hpm
          have HRw := Lib.hid hrw
          have HBr := Lib.hid hbr
          have hml : ms.length = j := by rw [hpm.length_eq, HN.out]
          have HMl := Lib.hid hml
          clear hpm hrw hbr
          by_cases hin : i < n1
          · obtain ⟨xa, rfl, hzc, hz255⟩ := (HZ.out.below (HB2.out.trans (HBr.out.mono hwB))) i hin
            generalize z i = zi at *
            obtain ⟨a, ha⟩ : ∃ a, i % j = a := ⟨_, rfl⟩
            obtain ⟨b, hb⟩ : ∃ b, zi % j = b := ⟨_, rfl⟩
            have haj : a < j := by rw [← ha]; exact Nat.mod_lt _ hN1
            have hbj : b < j := by rw [← hb]; exact Nat.mod_lt _ hN1
            have q0 : IntKind.i64.wrap (zi : Int) = (zi : Int) := by rw [IntKind.wrap_i64]; omega
            have q1 : Int.tmod (i : Int) (j : Int) = (a : Int) := by rw [Int.tmod_eq_emod_of_nonneg (by omega)]; omega
            have q2 : Int.tmod (zi : Int) (j : Int) = (b : Int) := by rw [Int.tmod_eq_emod_of_nonneg (by omega)]; omega
            have q3 : IntKind.i64.wrap (a : Int) = (a : Int) := by rw [IntKind.wrap_i64]; omega
            have q4 : IntKind.i64.wrap (b : Int) = (b : Int) := by rw [IntKind.wrap_i64]; omega
            have e1 : (0 : Int) ≤ (i : Int) := by omega
            have e2 : (i : Int) < (n1 : Int) := by omega
            have q5 : IntKind.i64.wrap ((i : Int) + 1) = (i : Int) + 1 := by rw [IntKind.wrap_i64]; omega
            have hza : ∀ x : Wd (Below wr.heap.size wr), x.w.cell? (xa.add i) = some (.int .u8 zi) := fun x => (x.h.cell (World.block_lt_of_cell? _ _ hzc)).trans hzc
            clear ha hb hzc
            go_wp2_with fail
            have := cls_ne wr
            refine wp_region_cls (S := Below wr.heap.size wr) (by kernel_rfl) (by kernel_rfl) (bel_drewN _ _ (n := 1)) ?_
            repeat (go_big_quiet_step (fail))
            refine wpQuiet_nil ?_
            rintro w5 ⟨⟨_, hx5⟩, rfl⟩
            try dsimp only
            clear hza this q0 q1 q2 q3 q4
            go_wp2_with fail
            have hrw5 := HRw.out.stay (hx5.block g HRw.out.lt)
            have ham : a < ms.length := by rw [HMl.out]; exact haj
            have hbm : b < ms.length := by rw [HMl.out]; exact hbj
            obtain ⟨s0, s1, s2, s3⟩ := hrw5.spot a ham
            obtain ⟨r0, r1, r2, r3⟩ := hrw5.spot b hbm
            have HRw5 := Lib.hid hrw5
            have hg5 := hrw5.lt
            have HSet := Lib.hid (List.set_set_perm ham hbm)
            have HBr5 := Lib.hid (HBr.out.trans (hx5.mono (Nat.le_trans hsz HBr.out.size)))
            clear hrw5 hx5
            generalize ms[a]'(_) = ya at *
            generalize ms[b]'(_) = yb at *
            have f1 : (0 : Int) ≤ (a : Int) := by omega
            have f2 : (a : Int) < (j : Int) := by omega
            have f3 : (0 : Int) ≤ (b : Int) := by omega
            have f4 : (b : Int) < (j : Int) := by omega
            have ng : g ≠ w5.heap.size := by omega
            have ng2 : g ≠ w5.heap.size + 1 := by omega
            go_cut [11, 12] (fun p q wx => ∃ P Q, p = .pointer (some ⟨P, 0, none⟩) ∧ q = .pointer (some ⟨Q, 0, none⟩) ∧ P ≠ Q ∧ Blk wx P #[.int .i64 ya.br, .int .i64 ya.vol, .int .i64 ya.blk, .int .u64 ya.num] 26 ∧ Blk wx Q #[.int .i64 yb.br, .int .i64 yb.vol, .int .i64 yb.blk, .int .u64 yb.num] 26 ∧ Below w5.heap.size w5 wx ∧ w5.heap.size ≤ P ∧ w5.heap.size ≤ Q)
            case first =>
              go_region_with (fail)
              all_goals go_wp2_with fail
              all_goals go_meet
              all_goals first
                | exact ⟨_, _, rfl, rfl, by omega, (pair_new w5 _ _ _).1, (pair_new w5 _ _ _).2.1, (pair_new w5 _ _ _).2.2, Nat.le_refl _, Nat.le_succ _⟩
                | exact ⟨_, _, rfl, rfl, by omega, (pair_new w5 _ _ _).2.1, (pair_new w5 _ _ _).1, (pair_new w5 _ _ _).2.2, Nat.le_succ _, Nat.le_refl _⟩
            case rest =>
              obtain ⟨P, Q, rfl, rfl, hPQ, hP, hQ, hbc, hP5, hQ5⟩ := hcut
              have hrw6 := HRw5.out.stay (hbc.block g hg5)
              have p0 := hP.cell 0
              have p1 := hP.cell 1
              have p2 := hP.cell 2
              have p3 := hP.cell 3
              have p4 := hQ.cell 0
              have p5 := hQ.cell 1
              have p6 := hQ.cell 2
              have p7 := hQ.cell 3
              simp only [List.getElem?_toArray, List.getElem?_cons_zero, List.getElem?_cons_succ] at p0 p1 p2 p3 p4 p5 p6 p7
              obtain ⟨u0, u1, u2, u3⟩ : SpAt wc g (a * 4) (ms[a]'(by rw [HMl.out]; exact haj)) := hrw6.spot a _
              obtain ⟨v0, v1, v2, v3⟩ : SpAt wc g (b * 4) (ms[b]'(by rw [HMl.out]; exact hbj)) := hrw6.spot b _
              have fz : ∀ o, wc.frozen? ⟨g, o, none⟩ = false := hrw6.frozen
              have HRw6 := Lib.hid hrw6
              have HB6 := Lib.hid (HBr5.out.trans (hbc.mono (Nat.le_trans hsz HBr5.out.size)))
              have nP : g ≠ P := by omega
              have nQ : g ≠ Q := by omega
              clear s0 s1 s2 s3 r0 r1 r2 r3 hP hQ hrw6 hbc ng ng2
              go_wp2_with fail
              obtain ⟨wd, hwd⟩ : ∃ X, X = World.drew wc := ⟨_, rfl⟩
              have HRwd : RowAt wd g ms := by rw [hwd]; exact HRw6.out.stay rfl
              have HBd : Below B w' wd := by rw [hwd]; exact HB6.out.trans (bel_drewN _ _ (n := 1))
              have ham : a < ms.length := by rw [HMl.out]; exact haj
              have hbm : b < ms.length := by rw [HMl.out]; exact hbj
              have nP' : P ≠ g := Ne.symm nP
              have nQ' : Q ≠ g := Ne.symm nQ
              refine wp_region_held_drew (S := (fun X => X.cell? ⟨P, 0, none⟩ = some (.int .i64 ya.br) ∧ X.cell? ⟨P, 1, none⟩ = some (.int .i64 ya.vol) ∧ X.cell? ⟨P, 2, none⟩ = some (.int .i64 ya.blk) ∧ X.cell? ⟨P, 3, none⟩ = some (.int .u64 ya.num) ∧ X.cell? ⟨Q, 0, none⟩ = some (.int .i64 yb.br) ∧ X.cell? ⟨Q, 1, none⟩ = some (.int .i64 yb.vol) ∧ X.cell? ⟨Q, 2, none⟩ = some (.int .i64 yb.blk) ∧ X.cell? ⟨Q, 3, none⟩ = some (.int .u64 yb.num))) (by kernel_rfl) ⟨p0, p1, p2, p3, p4, p5, p6, p7⟩ (fun hHeld => ?_)
              rw [← hwd] at hHeld ⊢
              clear hwd p0 p1 p2 p3 p4 p5 p6 p7 u0 u1 u2 u3 v0 v1 v2 v3 fz
              obtain ⟨u0, u1, u2, u3⟩ := HRwd.spot a ham
              have fz := HRwd.frozen
              generalize ms[a]'(_) = yc at *
              refine take_at (i := 0) (v := ?_) rfl (by kernel_rfl) (by kernel_rfl) (by kernel_rfl) (fun _ _ _ h => h) (Or.inl ⟨by rfl, ?_⟩) (by assumption) ?_
              rotate_left
              · (intro w' hSw; (try dsimp only at hSw); go_simp <;> (with_reducible rfl))
              try simp only [Act.put, List.setIfInBounds_toArray, List.set_cons_zero, List.set_cons_succ]
              refine take_at (i := 1) (v := ?_) rfl (by kernel_rfl) (by kernel_rfl) (by kernel_rfl) (fun _ _ _ h => h) (Or.inl ⟨by rfl, ?_⟩) (by assumption) ?_
              rotate_left
              · (intro w' hSw; (try dsimp only at hSw); go_simp <;> (with_reducible rfl))
              try simp only [Act.put, List.setIfInBounds_toArray, List.set_cons_zero, List.set_cons_succ]
              refine take_at (i := 2) (v := ?_) rfl (by kernel_rfl) (by kernel_rfl) (by kernel_rfl) (fun _ _ _ h => h) (Or.inl ⟨by rfl, ?_⟩) (by assumption) ?_
              rotate_left
              · (intro w' hSw; (try dsimp only at hSw); go_simp <;> (with_reducible rfl))
              try simp only [Act.put, List.setIfInBounds_toArray, List.set_cons_zero, List.set_cons_succ]
              refine take_at (i := 3) (v := ?_) rfl (by kernel_rfl) (by kernel_rfl) (by kernel_rfl) (fun _ _ _ h => h) (Or.inl ⟨by rfl, ?_⟩) (by assumption) ?_
              rotate_left
              · (intro w' hSw; (try dsimp only at hSw); go_simp <;> (with_reducible rfl))
              try simp only [Act.put, List.setIfInBounds_toArray, List.set_cons_zero, List.set_cons_succ]
              refine take_at (i := 4) (v := ?_) rfl (by kernel_rfl) (by kernel_rfl) (by kernel_rfl) (fun _ _ _ h => h) (Or.inl ⟨by rfl, ?_⟩) (by assumption) ?_
              rotate_left
              · (intro w' hSw; (try dsimp only at hSw); go_simp <;> (with_reducible rfl))
              try simp only [Act.put, List.setIfInBounds_toArray, List.set_cons_zero, List.set_cons_succ]
              refine take_at (i := 5) (v := ?_) rfl (by kernel_rfl) (by kernel_rfl) (by kernel_rfl) (fun _ _ _ h => h) (Or.inl ⟨by rfl, ?_⟩) (by assumption) ?_
              rotate_left
              · (intro w' hSw; (try dsimp only at hSw); go_simp <;> (with_reducible rfl))
              try simp only [Act.put, List.setIfInBounds_toArray, List.set_cons_zero, List.set_cons_succ]
              refine take_at (i := 6) (v := ?_) rfl (by kernel_rfl) (by kernel_rfl) (by kernel_rfl) (fun _ _ _ h => h) (Or.inl ⟨by rfl, ?_⟩) (by assumption) ?_
              rotate_left
              · (intro w' hSw; (try dsimp only at hSw); go_simp <;> (with_reducible rfl))
              try simp only [Act.put, List.setIfInBounds_toArray, List.set_cons_zero, List.set_cons_succ]
              refine one_at (i := 7) rfl (by kernel_rfl) (by rfl) (fun K hK => ?_)
              go_simp
              have hrX1 := HRwd.put a ham yb
              have hkX1 : ∀ q, q ≠ g → ((((wd.setCell ⟨g, a * 4, none⟩ (.int .i64 yb.br)).setCell ⟨g, a * 4 + 1, none⟩ (.int .i64 yb.vol)).setCell ⟨g, a * 4 + 2, none⟩ (.int .i64 yb.blk)).setCell ⟨g, a * 4 + 3, none⟩ (.int .u64 yb.num)).heap[q]? = wd.heap[q]? := fun q hq => (((set_off _ hq).trans (set_off _ hq)).trans (set_off _ hq)).trans (set_off _ hq)
              have hbX1 : Below B w' ((((wd.setCell ⟨g, a * 4, none⟩ (.int .i64 yb.br)).setCell ⟨g, a * 4 + 1, none⟩ (.int .i64 yb.vol)).setCell ⟨g, a * 4 + 2, none⟩ (.int .i64 yb.blk)).setCell ⟨g, a * 4 + 3, none⟩ (.int .u64 yb.num)) := ((((HBd.setCell (p := ⟨g, a * 4, none⟩) hBg _).setCell (p := ⟨g, a * 4 + 1, none⟩) hBg _).setCell (p := ⟨g, a * 4 + 2, none⟩) hBg _).setCell (p := ⟨g, a * 4 + 3, none⟩) hBg _)
              generalize hXX1 : ((((wd.setCell ⟨g, a * 4, none⟩ (.int .i64 yb.br)).setCell ⟨g, a * 4 + 1, none⟩ (.int .i64 yb.vol)).setCell ⟨g, a * 4 + 2, none⟩ (.int .i64 yb.blk)).setCell ⟨g, a * 4 + 3, none⟩ (.int .u64 yb.num)) = X1 at hrX1 hkX1 hbX1 ⊢
              clear hXX1
              have hSX1 : (fun X => X.cell? ⟨P, 0, none⟩ = some (.int .i64 ya.br) ∧ X.cell? ⟨P, 1, none⟩ = some (.int .i64 ya.vol) ∧ X.cell? ⟨P, 2, none⟩ = some (.int .i64 ya.blk) ∧ X.cell? ⟨P, 3, none⟩ = some (.int .u64 ya.num) ∧ X.cell? ⟨Q, 0, none⟩ = some (.int .i64 yb.br) ∧ X.cell? ⟨Q, 1, none⟩ = some (.int .i64 yb.vol) ∧ X.cell? ⟨Q, 2, none⟩ = some (.int .i64 yb.blk) ∧ X.cell? ⟨Q, 3, none⟩ = some (.int .u64 yb.num)) X1 := ⟨(World.cell?_of_block (hkX1 P (Ne.symm nP))).trans hHeld.1, (World.cell?_of_block (hkX1 P (Ne.symm nP))).trans hHeld.2.1, (World.cell?_of_block (hkX1 P (Ne.symm nP))).trans hHeld.2.2.1, (World.cell?_of_block (hkX1 P (Ne.symm nP))).trans hHeld.2.2.2.1, (World.cell?_of_block (hkX1 Q (Ne.symm nQ))).trans hHeld.2.2.2.2.1, (World.cell?_of_block (hkX1 Q (Ne.symm nQ))).trans hHeld.2.2.2.2.2.1, (World.cell?_of_block (hkX1 Q (Ne.symm nQ))).trans hHeld.2.2.2.2.2.2.1, (World.cell?_of_block (hkX1 Q (Ne.symm nQ))).trans hHeld.2.2.2.2.2.2.2⟩
              refine hK.out _ _ hSX1 (fun _ => ?_)
              clear hK K
              try simp only [Act.put, List.setIfInBounds_toArray, List.set_cons_zero, List.set_cons_succ]
              clear u0 u1 u2 u3 fz
              obtain ⟨u0, u1, u2, u3⟩ := hrX1.spot b (by rw [List.length_set]; exact hbm)
              have fz := hrX1.frozen
              generalize (ms.set a yb)[b]'(_) = yd at *
              refine take_at (i := 8) (v := ?_) rfl (by kernel_rfl) (by kernel_rfl) (by kernel_rfl) (fun _ _ _ h => h) (Or.inl ⟨by rfl, ?_⟩) (by assumption) ?_
              rotate_left
              · (intro w' hSw; (try dsimp only at hSw); go_simp <;> (with_reducible rfl))
              try simp only [Act.put, List.setIfInBounds_toArray, List.set_cons_zero, List.set_cons_succ]
              refine one_at (i := 9) rfl (by kernel_rfl) (by rfl) (fun K hK => ?_)
              go_simp
              have hrX2 := hrX1.put b (by rw [List.length_set]; exact hbm) ya
              have hkX2 : ∀ q, q ≠ g → ((((X1.setCell ⟨g, b * 4, none⟩ (.int .i64 ya.br)).setCell ⟨g, b * 4 + 1, none⟩ (.int .i64 ya.vol)).setCell ⟨g, b * 4 + 2, none⟩ (.int .i64 ya.blk)).setCell ⟨g, b * 4 + 3, none⟩ (.int .u64 ya.num)).heap[q]? = X1.heap[q]? := fun q hq => (((set_off _ hq).trans (set_off _ hq)).trans (set_off _ hq)).trans (set_off _ hq)
              have hbX2 : Below B w' ((((X1.setCell ⟨g, b * 4, none⟩ (.int .i64 ya.br)).setCell ⟨g, b * 4 + 1, none⟩ (.int .i64 ya.vol)).setCell ⟨g, b * 4 + 2, none⟩ (.int .i64 ya.blk)).setCell ⟨g, b * 4 + 3, none⟩ (.int .u64 ya.num)) := ((((hbX1.setCell (p := ⟨g, b * 4, none⟩) hBg _).setCell (p := ⟨g, b * 4 + 1, none⟩) hBg _).setCell (p := ⟨g, b * 4 + 2, none⟩) hBg _).setCell (p := ⟨g, b * 4 + 3, none⟩) hBg _)
              generalize hXX2 : ((((X1.setCell ⟨g, b * 4, none⟩ (.int .i64 ya.br)).setCell ⟨g, b * 4 + 1, none⟩ (.int .i64 ya.vol)).setCell ⟨g, b * 4 + 2, none⟩ (.int .i64 ya.blk)).setCell ⟨g, b * 4 + 3, none⟩ (.int .u64 ya.num)) = X2 at hrX2 hkX2 hbX2 ⊢
              clear hXX2
              have hSX2 : (fun X => X.cell? ⟨P, 0, none⟩ = some (.int .i64 ya.br) ∧ X.cell? ⟨P, 1, none⟩ = some (.int .i64 ya.vol) ∧ X.cell? ⟨P, 2, none⟩ = some (.int .i64 ya.blk) ∧ X.cell? ⟨P, 3, none⟩ = some (.int .u64 ya.num) ∧ X.cell? ⟨Q, 0, none⟩ = some (.int .i64 yb.br) ∧ X.cell? ⟨Q, 1, none⟩ = some (.int .i64 yb.vol) ∧ X.cell? ⟨Q, 2, none⟩ = some (.int .i64 yb.blk) ∧ X.cell? ⟨Q, 3, none⟩ = some (.int .u64 yb.num)) X2 := ⟨(World.cell?_of_block (hkX2 P (Ne.symm nP))).trans hSX1.1, (World.cell?_of_block (hkX2 P (Ne.symm nP))).trans hSX1.2.1, (World.cell?_of_block (hkX2 P (Ne.symm nP))).trans hSX1.2.2.1, (World.cell?_of_block (hkX2 P (Ne.symm nP))).trans hSX1.2.2.2.1, (World.cell?_of_block (hkX2 Q (Ne.symm nQ))).trans hSX1.2.2.2.2.1, (World.cell?_of_block (hkX2 Q (Ne.symm nQ))).trans hSX1.2.2.2.2.2.1, (World.cell?_of_block (hkX2 Q (Ne.symm nQ))).trans hSX1.2.2.2.2.2.2.1, (World.cell?_of_block (hkX2 Q (Ne.symm nQ))).trans hSX1.2.2.2.2.2.2.2⟩
              refine hK.out _ _ hSX2 (fun _ => ?_)
              clear hK K
              try simp only [Act.put, List.setIfInBounds_toArray, List.set_cons_zero, List.set_cons_succ]
              refine wpAnyH_done (by kernel_rfl) ?_ _
              try simp only [Act.put, List.setIfInBounds_toArray, List.set_cons_zero, List.set_cons_succ]
              have HR7 := Lib.hid hrX2
              have HB7 := Lib.hid hbX2
              clear hrX2 hbX2 hrX1 hbX1 hSX1 hSX2 hHeld u0 u1 u2 u3 fz hkX1 hkX2
              go_wp2_with fail
              go_roundw
              case rel => exact ⟨i + 1, _, by simp, hin, HSet.out.trans HPm.out, HR7.out, HB7.out⟩
              case measure => (simp [intOf] <;> omega)
          · obtain rfl : i = n1 := by omega
            obtain ⟨wb, hwb⟩ : ∃ X, X = wr := ⟨wr, rfl⟩
            subst hwb
            have hbw : Below wa.heap.size wa wb := by rw [HBW.out]; exact (show Below B wa w' by rw [← HBW.out]; exact HBB.out).trans HBr.out
            have hR0 := HR.out.below hbw
            have hLf : LeftE ls ms 0 e0 := ⟨HOk.out.1, by rw [HN.out]; exact HOk.out.2.1, fun x => by rw [HOk.out.2.2]; simp⟩
            have HBb : Hid (Below w.heap.size w wb) := HB2.out.trans (HBr.out.mono hwB)
            have HR0 := Lib.hid hR0
            have HLf := Lib.hid hLf
            have hgb := HRw.out.lt
            clear hbw hR0 hLf HZ HR HB2 HBB HRow HBr
            by_cases hjz : (0 : Int) < (j : Int)
            case neg => exact absurd d4 hjz
            have dn : decide ((i : Int) < (i : Int)) = false := by simp
            go_wp2_with fail
            go_loopw [5, 13] (fun r ii X => TakeRel wb ls ms j r ii X) (fun _ ii _ => (j - intOf ii).toNat)
            case atStart => exact ⟨0, rr, e0, rfl, rfl, Nat.zero_le _, HR0.out, HLf.out, Below.refl _ _⟩
            case round =>
              obtain ⟨jj, r1, e1, rfl, rfl, hjj, hr, hlf, hbr⟩ := hrel
              have HR1 := Lib.hid hr
              have HL1 := Lib.hid hlf
              have HBr := Lib.hid hbr
              clear hr hlf hbr
              by_cases hjn : jj < j
              · have hjm : jj < ms.length := by rw [HMl.out]; exact hjn
                have HFi := Lib.hid (left_first HL1.out HPm.out hjm)
                have HSt := Lib.hid (left_step HL1.out hjm)
                have HNo : Hid (∀ h : e1 = [], ms[jj] ∈ ms.take jj) := fun h => by
                  have h2 := HL1.out
                  rw [h] at h2
                  exact left_none h2 HPm.out hjm
                have HSy := Lib.hid (HRw.out.spot jj hjm)
                have HSk : Hid (∀ kk (h : kk < jj), SpAt wb g (kk * 4) (ms[kk]'(by omega)) ∧ ms.take (kk + 1) = ms.take kk ++ [ms[kk]'(by omega)]) := fun kk h => ⟨HRw.out.spot kk (by omega), List.take_succ_eq_append_getElem (by omega)⟩
                generalize ms[jj]'(_) = y at *
                have g1 : (0 : Int) ≤ (jj : Int) := by omega
                have g2 : (jj : Int) < (j : Int) := by omega
                have g3 : IntKind.i64.wrap ((jj : Int) + 1) = (jj : Int) + 1 := by rw [IntKind.wrap_i64]; omega
                go_wp2_with fail
                obtain ⟨wo, hwo⟩ : ∃ X, X = wr := ⟨wr, rfl⟩
                subst hwo
                go_loopw [14, 15] (fun f k X => FirstRel wo ms y jj f k X) (fun _ k _ => (jj - intOf k).toNat)
                case atStart => exact ⟨0, true, rfl, rfl, Nat.zero_le _, by simp, Below.refl _ _⟩
                case round =>
                  obtain ⟨kk, fb, rfl, rfl, hkk, hfb, hbk⟩ := hrel
                  have HBk := Lib.hid hbk
                  have HFb := Lib.hid hfb
                  have hbw := HBr.out.trans (hbk.mono HBr.out.size)
                  clear hbk hfb
                  by_cases hkn : kk < jj
                  · obtain ⟨s0, s1, s2, s3⟩ := HSy.out.below hbw hgb
                    obtain ⟨hsk, htk⟩ := HSk.out kk hkn
                    obtain ⟨r0, r1', r2, r3⟩ := hsk.below hbw hgb
                    have HTk := Lib.hid htk
                    clear hsk htk hbw
                    generalize ms[kk]'(_) = x at *
                    have HE := sp_ne x y
                    have HDx : Hid (∃ bx, (!decide (x = y)) = bx) := ⟨_, rfl⟩
                    obtain ⟨bx, hbx⟩ := HDx.out
                    rw [hbx] at HE
                    have HBX := Lib.hid hbx
                    have x0 := cls_cell s0
                    have x1 := cls_cell s1
                    have x2 := cls_cell s2
                    have x3 := cls_cell s3
                    have x4 := cls_cell r0
                    have x5 := cls_cell r1'
                    have x6 := cls_cell r2
                    have x7 := cls_cell r3
                    clear s0 s1 s2 s3 r0 r1' r2 r3 hbx HDx
                    have h1 : (0 : Int) ≤ (kk : Int) := by omega
                    have h2 : (kk : Int) < (jj : Int) := by omega
                    have h3 : (kk : Int) < (j : Int) := by omega
                    have h4 : IntKind.i64.wrap ((kk : Int) + 1) = (kk : Int) + 1 := by rw [IntKind.wrap_i64]; omega
                    have := cls_ne wr
                    cases fb with
                    | false =>
                      go_wp2_with fail
                      refine wp_region_cls (S := Below wr.heap.size wr) (by kernel_rfl) (by kernel_rfl) (bel_drewN _ _ (n := 1)) ?_
                      repeat (go_big_quiet_step (fail))
                      refine wpQuiet_nil ?_
                      rintro w9 ⟨⟨_, hx9⟩, rfl⟩
                      try dsimp only
                      have HX9 := Lib.hid hx9
                      clear x0 x1 x2 x3 x4 x5 x6 x7 HE hx9 this
                      go_wp2_with fail
                      go_roundw
                      case rel => exact ⟨kk + 1, false, by simp, rfl, hkn, by
                        have := HFb.out
                        rw [HTk.out]
                        symm at this ⊢
                        rw [decide_eq_false_iff_not] at this ⊢
                        intro h
                        exact this (fun h2 => h (List.mem_append_left _ h2)), HBk.out.trans (HX9.out.mono HBk.out.size)⟩
                      case measure => (simp [intOf] <;> omega)
                    | true =>
                      go_wp2_with fail
                      refine wp_region_cls (S := Below wr.heap.size wr) (by kernel_rfl) (by kernel_rfl) (bel_drewN _ _ (n := 1)) ?_
                      repeat (go_big_quiet_step (fail))
                      refine wpQuiet_nil ?_
                      rintro w9 ⟨⟨_, hx9⟩, rfl⟩
                      try dsimp only
                      have HX9 := Lib.hid hx9
                      clear x0 x1 x2 x3 x4 x5 x6 x7 HE hx9 this
                      go_wp2_with fail
                      go_roundw
                      case rel => exact ⟨kk + 1, bx, by simp, rfl, hkn, by
                        have := HFb.out
                        rw [HTk.out, ← HBX.out]
                        symm at this ⊢
                        rw [decide_eq_true_iff] at this
                        rw [Bool.eq_iff_iff, decide_eq_true_iff, Bool.not_eq_true', decide_eq_false_iff_not, List.mem_append, List.mem_singleton, not_or]
                        exact ⟨fun h => fun e => h.2 e.symm, fun h => ⟨this, fun e => h e.symm⟩⟩, HBk.out.trans (HX9.out.mono HBk.out.size)⟩
                      case measure => (simp [intOf] <;> omega)
                  · obtain rfl : kk = jj := by omega
                    have hf : fb = hasE y e1 := by rw [HFb.out, HFi.out]
                    subst hf
                    obtain ⟨s0, s1, s2, s3⟩ := HSy.out.below hbw hgb
                    have hr1 := HR1.out.below HBk.out
                    have HBw := Lib.hid hbw
                    have dk : decide ((kk : Int) < (kk : Int)) = false := by simp
                    clear hbw HSk
                    rcases hr1 with ⟨rfl, rfl⟩ | ⟨q, h, n, rfl, hnd, h0, h2, h4⟩
                    · have hno := HNo.out rfl
                      have hfn : hasE y [] = false := rfl
                      rw [hfn]
                      go_wp2_with fail
                      go_roundw
                      case rel => exact ⟨kk + 1, none, [], by simp, rfl, hjn, .inl ⟨rfl, rfl⟩, HSt.out, HBw.out⟩
                      case measure => (simp [intOf] <;> omega)
                    · have HDel := Lib.hid (Del_at hnd h0 h2 h4 HL1.out.1 y)
                      have HNd := Lib.hid (RootAt.right (.inr ⟨q, h, n, rfl, hnd, h0, h2, h4⟩) HL1.out.1 (by have := HL1.out.2.1; rw [HN.out] at this; omega))
                      have HRr : Hid (RootAt wr (some ⟨q, 0, none⟩) e1) := .inr ⟨q, h, n, rfl, hnd, h0, h2, h4⟩
                      clear hnd h0 h2 h4
                      go_wp2_with fail
                      refine HDel.out.mono ?_
                      rintro e w5 hp
                      rcases hp with ⟨hh, rfl, hb5⟩ | ⟨hh, r', rfl, hr5, hb5⟩
                      · have HRi := Lib.hid (HNd.out w5 hb5)
                        have HB5 := Lib.hid hb5
                        rw [hh]
                        clear hb5
                        go_wp2_with fail
                        refine HRi.out.mono ?_
                        rintro e w6 ⟨rfl, hb6⟩
                        have HB6 := Lib.hid (HB5.out.trans (hb6.mono HB5.out.size))
                        have hst := HSt.out
                        rw [delE_none hh] at hst
                        have HS6 := Lib.hid hst
                        clear hb6 hst
                        go_wp2_with fail
                        go_roundw
                        case rel => exact ⟨kk + 1, _, e1, by simp, rfl, hjn, HRr.out.below HB6.out, HS6.out, HBw.out.trans (HB6.out.mono HBw.out.size)⟩
                        case measure => (simp [intOf] <;> omega)
                      · have HB5 := Lib.hid hb5
                        have HR5 := Lib.hid hr5
                        rw [hh]
                        have hle : (delE y e1).length ≤ 30 := by have := HSt.out.2.1; rw [HN.out] at this; omega
                        clear hb5
                        cases r' with
                        | none =>
                          clear hr5
                          go_wp2_with fail
                          go_roundw
                          case rel => exact ⟨kk + 1, none, _, by simp, rfl, hjn, HR5.out, HSt.out, HBw.out.trans (HB5.out.mono HBw.out.size)⟩
                          case measure => (simp [intOf] <;> omega)
                        | some a5 =>
                          obtain ⟨q5, rfl⟩ : ∃ q5, a5 = ⟨q5, 0, none⟩ := by
                            rcases hr5 with ⟨e, _⟩ | ⟨q5, _, _, e, _⟩
                            · cases e
                            · cases e; exact ⟨q5, rfl⟩
                          have HRi := Lib.hid (RootAt.right hr5 HSt.out.1 (by omega) w5 (Below.refl _ _))
                          clear hr5
                          go_wp2_with fail
                          refine HRi.out.mono ?_
                          rintro e w6 ⟨rfl, hb6⟩
                          have HB6 := Lib.hid hb6
                          clear hb6
                          go_wp2_with fail
                          go_roundw
                          case rel => exact ⟨kk + 1, _, _, by simp, rfl, hjn, HR5.out.below HB6.out, HSt.out, HBw.out.trans ((HB5.out.trans (HB6.out.mono HB5.out.size)).mono HBw.out.size)⟩
                          case measure => (simp [intOf] <;> omega)
              · obtain rfl : jj = j := by omega
                obtain rfl : e1 = [] := left_end (by rw [HMl.out]; exact HL1.out) HPm.out
                obtain rfl : r1 = none := by
                  rcases HR1.out with ⟨h, _⟩ | ⟨q, h, n, _, hnd, h0, _⟩
                  · exact h
                  · exact absurd rfl (hnd.ne h0)
                have dk : decide ((jj : Int) < (jj : Int)) = false := by simp
                go_wp2_with fail
                go_ret
                exact ⟨rfl, HBb.out.trans (HBr.out.mono HBb.out.size)⟩
end Go.Proofs.Ytjeebbolnanmkaa.N
