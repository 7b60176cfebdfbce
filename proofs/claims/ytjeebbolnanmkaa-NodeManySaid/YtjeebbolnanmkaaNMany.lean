/- The law NodeMany. -/
import Derived.Test.YtjeebbolnanmkaaNManyU
namespace Go.Proofs.Ytjeebbolnanmkaa.N
open Go.BigFrame Go.RowKit Go.Proofs.YtjeebbolnanmkaaW.PrintMore Go.Proofs.YtjeebbolnanmkaaW.PrintWords
set_option linter.unusedVariables false
set_option linter.unusedSimpArgs false
set_option maxHeartbeats 25600000 in
set_option maxRecDepth 100000 in
theorem many_ok {w : World} {A : Option Addr} {c : Nat} {ds : List Dd} (hd : DeedsAt w A ds) :
    Calls Try.prog 11 #[.slice A ds.length c] w fun e w' => e = .returned (.bool true) ∧ Below w.heap.size w w' := by
  have HD := Lib.hid hd
  obtain ⟨N, hN⟩ : ∃ N, ds.length = N := ⟨_, rfl⟩
  have HN := Lib.hid hN
  rw [hN]
  clear hd hN
  go_enter Try.func11, Try.ntmps11
  go_wp2_with fail
  refine (awake_ok w).mono ?_
  rintro e w1 ⟨rfl, hb1⟩
  have HB1 := Lib.hid hb1
  by_cases hn : N ≤ 60
  · have hg : decide ((60 : Int) < (N : Int)) = false := by simp; omega
    have HP : Hid (Calls Try.prog 21 #[.slice A N c] w1 (PlayPost w1 (playE ds))) := by
      have := play_at (c := c) (HD.out.below hb1) (by rw [HN.out]; exact hn)
      rw [HN.out] at this
      exact this
    clear hb1
    go_wp2_with fail
    refine HP.out.mono ?_
    rintro e w2 ⟨r, L, rfl, hr, hl, hb2, _⟩
    have HB2 := Lib.hid (HB1.out.trans (hb2.mono HB1.out.size))
    have hlen : (playE ds).length ≤ 60 := by have := playE_len ds; have := HN.out; omega
    have HL := Lib.hid hl
    clear hl hb2 HP
    generalize playE ds = l at *
    rcases hr with ⟨rfl, rfl⟩ | ⟨q, H, n, rfl, hnd, h0, h2, h4⟩
    · go_wp2_with fail
      go_ret
      exact ⟨rfl, HB2.out⟩
    · have hp := hnd.high h0 h2
      have hH : H ≤ 5 := by
        refine Nat.le_of_not_lt fun hc => ?_
        have : 2 ^ 6 ≤ 2 ^ H := Nat.pow_le_pow_right (by decide) (by omega)
        omega
      have hl1 : 1 ≤ l.length := by
        have := hnd.ne h0
        cases l with
        | nil => exact absurd rfl this
        | cons x t => simp
      have HNd := Lib.hid hnd
      clear hnd hp
      go_wp2_with fail
      have hk0 := heap_alloc_new w2 (.cells #[.pointer (some ⟨q, 0, none⟩)] 36)
      have hbx : Below w2.heap.size w2 (w2.alloc (.cells #[.pointer (some ⟨q, 0, none⟩)] 36)) := (Below.refl _ _).alloc (Nat.le_refl _) _
      obtain ⟨B0, hB0⟩ : ∃ B0, w2.heap.size = B0 := ⟨_, rfl⟩
      have HB0 := Lib.hid hB0
      have HBX := Lib.hid hbx
      rw [hB0] at hk0
      simp only [hB0]
      clear hbx hB0
      generalize w2.alloc (.cells #[.pointer (some ⟨q, 0, none⟩)] 36) = W3 at *
      have HK0 := Lib.hid hk0
      clear hk0
      go_loopw [6, 7, 8] (fun cn hi lv wr => LevRel w2 l H cn hi lv wr) (fun _ hi _ _ => (12 - intOf hi).toNat)
      case atStart =>
        have hlo : (if H = 0 then 1 else 2) ≤ n := by
          by_cases hH0 : H = 0
          · rw [if_pos hH0]; exact h0
          · rw [if_neg hH0]; exact h2 (by omega)
        refine ⟨0, 0, rfl, rfl, HBX.out, .inl ⟨H, if H = 0 then 1 else 2, [q], [l], some ⟨B0, 0, none⟩, 1, by omega, rfl, ?_, ⟨⟨n, hlo, h4, HNd.out.below HBX.out⟩, trivial⟩, by simp, by split <;> omega, by split <;> omega, fun h => by rw [if_neg (by omega)], fun h => by omega, by simp, by simp, fun _ => rfl⟩⟩
        exact fun _ => ⟨B0, 0, rfl, (Array.getElem?_eq_some_iff.1 HK0.out).1, fun j hj => by
          obtain rfl : j = 0 := by simpa using hj
          simp only [World.cell?, HK0.out]; rfl⟩
      case round =>
        clear h0 h2 h4
        obtain ⟨cnt, d, rfl, rfl, hbr, hcase⟩ := hrel
        have HBr := Lib.hid hbr
        clear hbr
        rcases hcase with ⟨h, lo, qs, ls, Aq, cq, hdh, rfl, hka, hkid, hls, g1, g2, g3, g4, g5, g6, g7⟩ | ⟨Aq, cq, rfl, rfl, hcm, hpw⟩
        · have hlong := level_long g1 g2 hkid
          rw [hls] at hlong
          have hc60 : qs.length ≤ 60 := by
            have := Nat.mul_le_mul_right qs.length g1
            omega
          have hc0 : 0 < qs.length := by omega
          obtain ⟨kss, hkss, hkk⟩ : ∃ kss : List (List Nat), All2 (KidsOf wr) qs kss ∧ ((h = 0 ∧ kss.flatten = []) ∨ ∃ h' lss, h = h' + 1 ∧ All2 (Kid wr h' 2) kss.flatten lss ∧ lss.flatten = ls.flatten ∧ 2 * qs.length ≤ kss.flatten.length) := by
            cases h with
            | zero =>
              obtain ⟨kss, a, b⟩ := level_leaves hkid
              exact ⟨kss, a, .inl ⟨rfl, b⟩⟩
            | succ h =>
              have := g3 (by omega)
              subst this
              obtain ⟨kss, lss, a, b, c, e⟩ := level_kids hkid
              exact ⟨kss, a, .inr ⟨h, lss, rfl, b, c, e⟩⟩
          have hkl : kss.flatten.length ≤ 60 := by
            rcases hkk with ⟨_, e⟩ | ⟨h', lss, _, a, b, _⟩
            · rw [e]; simp
            · have := level_long (by decide) (by decide) a
              rw [b, hls] at this
              omega
          obtain ⟨b, off, rfl, hblt, hqc⟩ := hka hc0
          have HQ := Lib.hid hqc
          have HKs := Lib.hid hkss
          have hkN := hkss.length
          obtain ⟨M, hM⟩ : ∃ M, qs.length = M := ⟨_, rfl⟩
          have HM := Lib.hid hM
          have HStep : Hid (∀ {nx : Value} {X : World}, X.ownsRow wr.heap.size 36 1 nx kss.flatten.length (kps kss.flatten) → Below wr.heap.size wr X → LevRel w2 l H (.int .i64 ((cnt : Int) + (qs.length : Int))) (.int .i64 ((d : Int) + 1)) nx X) := fun ho hb => lev_step hdh hkid hls g1 g2 g3 g4 g5 g6 g7 hkk ho hb (HBr.out.trans (hb.mono HBr.out.size))
          rw [hM] at HStep hc60 hc0 hkN g5 ⊢
          have hdH : d ≤ 5 := by omega
          have hcnt : cnt ≤ 60 := by omega
          have HKN : Hid (kss.length = M) := hkN.symm
          have HKL := Lib.hid hkl
          have HBlt := Lib.hid hblt
          have e1 : (0 : Int) < (M : Int) := by omega
          have e1b : decide ((0 : Int) < (M : Int)) = true := by simp <;> omega
          have e2 : decide ((d : Int) < (10 : Int)) = true := by simp <;> omega
          have e3 : (d : Int) < (10 : Int) := by omega
          have w1' : IntKind.i64.wrap ((cnt : Int) + (M : Int)) = (cnt : Int) + (M : Int) := by rw [IntKind.wrap_i64]; omega
          have w2' : IntKind.i64.wrap ((d : Int) + 1) = (d : Int) + 1 := by rw [IntKind.wrap_i64]; omega
          clear hM hkN hkl hqc hkss hkk hka hkid hls g1 g2 g3 g4 g5 g6 g7 hdh hlong hblt
          go_wp2_with fail
          obtain ⟨wo, hwo⟩ : ∃ X, X = wr := ⟨wr, rfl⟩
          subst hwo
          go_loopw [9, 10] (fun nx i wi => NextRel wo kss M nx i wi) (fun _ i _ => (M - intOf i).toNat)
          case atStart => exact ⟨0, _, rfl, rfl, Nat.zero_le _, ⟨rfl, .inl ⟨rfl, by simp [flen]⟩⟩, Below.refl _ _⟩
          case round =>
            obtain ⟨j, nx, rfl, rfl, hj, ho, hbi⟩ := hrel
            by_cases hjn : j < M
            · have hjq : j < qs.length := by rw [HM.out]; exact hjn
              have hjk : j < kss.length := by rw [HKN.out]; exact hjn
              have q0 := bel_cell hbi HBlt.out (HQ.out j hjq)
              have hko := (HKs.out.get j hjq hjk).below hbi
              have hfl := flen_succ kss j hjk
              have hft := flat_take kss j hjk
              have hfle : flen kss (j + 1) ≤ 60 := Nat.le_trans (flen_le kss (j + 1)) HKL.out
              obtain ⟨m, hm⟩ : ∃ m, (kss[j]).length = m := ⟨_, rfl⟩
              obtain ⟨C, cc, c2, hkC, hC0⟩ := hko.cell
              have HLf : Hid (∀ x : Wd (Below wr.heap.size wr), Calls Try.prog 19 #[.pointer (some ⟨qs[j], 0, none⟩)] x.w fun e w'' => e = .returned (.bool (m == 0)) ∧ ∃ m : Wd (Below wr.heap.size wr), w'' = m.w) := fun x => Calls.clsB (by rw [← hm]; exact (hko.below x.h).leaf) (Nat.le_refl _)
              have HRun : Hid (∀ x : Wd (Below wr.heap.size wr), ∃ v' w', (Builtin.append_ #[37, 37] 37 #[nx, .slice C m cc]).run Try.prog x.w = .ok v' w' ∧ w'.ownsRow wo.heap.size 36 1 v' (flen kss (j + 1)) (kps (kss.take (j + 1)).flatten) ∧ Below wo.heap.size x.w w') := fun x => by
                rw [hft]
                exact app_K_run wo.heap.size nx (flen kss j) _ (own_stay ho (fun q hq => x.h.block q (own_lt ho q hq))) C m cc kss[j] hm (hkC.below x.h) (by rw [← hm]; exact hC0) (flen kss (j + 1)) (by rw [hfl, hm]) (by omega) (Nat.le_trans hbi.size x.h.size) _
              rw [hm] at c2
              have HBi := Lib.hid hbi
              clear hko hfl hft hfle hm hkC hC0 ho hbi
              generalize qs[j]'(_) = qj at *
              have x0 := cls_cell q0
              have x1 := cls_cell c2
              clear q0 c2
              have e1 : (0 : Int) ≤ (j : Int) := by omega
              have e2 : (j : Int) < (M : Int) := by omega
              have e3 : decide ((j : Int) < (100 : Int)) = true := by simp <;> omega
              have e3b : (j : Int) < (100 : Int) := by omega
              have w1' : IntKind.i64.wrap ((j : Int) + 1) = (j : Int) + 1 := by rw [IntKind.wrap_i64]; omega
              have := cls_ne wr
              by_cases hm0 : m = 0
              all_goals (first
                | (subst hm0; rw [show ((0 : Nat) == 0) = true by rfl] at HLf)
                | (have m1 : (m == 0) = false := by rw [beq_eq_false_iff_ne]; omega
                   have m2 : ((m : Int) == 0) = false := by rw [beq_eq_false_iff_ne]; omega
                   have m3 : decide ((m : Int) = 0) = false := by simp <;> omega
                   rw [m1] at HLf))
              all_goals (
                go_wp2_with fail
                refine wp_region_cls (S := Below wr.heap.size wr) (by kernel_rfl) (by kernel_rfl) (bel_drewN _ _ (n := 1)) ?_
                repeat (go_big_quiet_step (with_reducible (exact HLf.out _)))
                refine wpQuiet_nil ?_
                rintro _ ⟨x, rfl⟩
                obtain ⟨v', w', hr, ho', hb'⟩ := HRun.out x
                have HR := Lib.hid hr
                have HO := Lib.hid ho'
                have HB' := Lib.hid (HBi.out.trans ((x.h.mono HBi.out.size).trans hb'))
                clear hr ho' hb'
                go_wp2_with (at_builtin; refine Lib.wpList_append_run _ rfl _ _ _ _ rfl _ _ rfl rfl _ _ HR.out ?_)
                go_roundw
                case rel => exact ⟨j + 1, _, rfl, by simp, hjn, HO.out, HB'.out⟩
                case measure => (simp [intOf] <;> omega))
            · obtain rfl : j = M := by omega
              have e4 : flen kss j = kss.flatten.length := by rw [← HKN.out]; exact flen_all kss
              have e5 : kss.take j = kss := List.take_of_length_le (by rw [HKN.out]; exact Nat.le_refl _)
              rw [e4, e5] at ho
              have HF := Lib.hid (HStep.out ho hbi)
              clear e4 e5 ho hbi
              go_wp2_with fail
              go_roundw
              case rel => exact HF.out
              case measure => (simp [intOf] <;> omega)
        · obtain ⟨A3, c3, n0⟩ := list_cell (HL.out.below HBr.out) rfl
          obtain ⟨M3, hM3⟩ : ∃ M3, l.length = M3 := ⟨_, rfl⟩
          rw [hM3] at n0 hcm hpw hl1 hlen
          clear hM3
          have x0 := cls_cell n0
          have hcm2 : cnt ≤ M3 := by omega
          clear n0
          have := cls_ne wr
          have f0 : max (M3 : Int) 1 = (M3 : Int) := by omega
          have f1 : decide ((cnt : Int) ≤ (M3 : Int)) = true := by simp <;> omega
          have f1b : (cnt : Int) ≤ (M3 : Int) := by omega
          have f1c : decide (cnt ≤ M3) = true := by simp <;> omega
          have f2 : (1 : Int) ≤ (M3 : Int) := by omega
          have f3 : decide ((M3 : Int) < 1) = false := by simp <;> omega
          have h05 : H = 0 ∨ H = 1 ∨ H = 2 ∨ H = 3 ∨ H = 4 ∨ H = 5 := by omega
          rcases h05 with rfl | rfl | rfl | rfl | rfl | rfl
          all_goals (try (
            have hpw2 := hpw.resolve_left (by decide)
            simp only [Nat.reduceAdd, Nat.reducePow] at hpw2))
          all_goals clear hpw
          all_goals (
            try simp only [Nat.zero_add, Nat.reduceAdd]
            try (have f5 : decide ((4 : Int) ≤ (M3 : Int)) = true := by simp <;> omega)
            try (have f6 : decide ((8 : Int) ≤ (M3 : Int)) = true := by simp <;> omega)
            try (have f7 : decide ((16 : Int) ≤ (M3 : Int)) = true := by simp <;> omega)
            try (have f8 : decide ((32 : Int) ≤ (M3 : Int)) = true := by simp <;> omega)
            try (have f9 : decide ((64 : Int) ≤ (M3 : Int)) = true := by simp <;> omega)
            clear hcm hlen hcm2
            try clear hpw2
            go_wp2_with fail
            try simp only [List.append_eq, List.cons_append, List.nil_append]
            refine wp_region_cls (S := Below wr.heap.size wr) (by kernel_rfl) (by kernel_rfl) (bel_drewN _ _ (n := 1)) ?_
            repeat (go_big_quiet_step (fail))
            refine wpQuiet_nil ?_
            rintro _ ⟨x, rfl⟩
            go_wp2_with fail
            go_ret
            exact ⟨rfl, HB2.out.trans ((HBr.out.trans (x.h.mono HBr.out.size)).mono HB2.out.size)⟩)
  · have hg : decide ((60 : Int) < (N : Int)) = true := by simp; omega
    go_wp2_with fail
    go_ret
    exact ⟨rfl, HB1.out⟩
end Go.Proofs.Ytjeebbolnanmkaa.N
