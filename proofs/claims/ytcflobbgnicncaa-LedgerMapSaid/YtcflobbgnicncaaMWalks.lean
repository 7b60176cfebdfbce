/- The walks of extent.Map's functions. -/
import Derived.Test.YtcflobbgnicncaaMBase
namespace Go.Proofs.Ytcflobbgnicncaa.L
open Go.RowKit Go.Maps
set_option linter.unusedVariables false
set_option linter.unusedSimpArgs false
/-- The segment of a sector. -/
def segOf (b at0 : Int) : Int := (at0 - 2) / b
theorem segOf_in {a b at0 : Int} (h : okS a b) (h0 : 2 ≤ at0) (h1 : at0 < 2 + a * b) : 0 ≤ segOf b at0 ∧ segOf b at0 < a := by
  unfold okS at h
  unfold segOf
  refine ⟨Int.ediv_nonneg (by omega) (by omega), ?_⟩
  exact Int.ediv_lt_of_lt_mul (by omega) (by omega)
def okAt (a b at0 : Int) : Prop := 2 ≤ at0 ∧ at0 < 2 + a * b
theorem of_at {a b at0 : Int} (w : World) (h : okS a b) (h0 : okAt a b at0) : Calls Try.prog 30 #[.agg #[.int .i64 a, .int .i64 b], .int .i64 at0] w fun e w' => (∃ s, e = .returned (.tuple #[.int .i64 (segOf b at0), .int .i64 s, .bool true])) ∧ Below w.heap.size w w' := by
  obtain ⟨h1, h2⟩ := h0
  have h' := h
  unfold okS at h'
  have hm := mulb (i := a) (b := b) (by omega) (by omega) (by omega) (by omega)
  have e : PLedgerMap.segment_Shape_Of.f a b at0 = some (segOf b at0, Int.tmod (wrap64 (at0 - 2)) b, true) := by
    unfold PLedgerMap.segment_Shape_Of.f
    have e1 : PLedgerMap.segment_Shape_may.f a b = some true := by
      have := may_f a b
      rw [decide_eq_true h] at this
      exact this
    have e2 : PLedgerMap.segment_Shape_Sectors.f a b = some (2 + a * b) := by
      unfold PLedgerMap.segment_Shape_Sectors.f
      rw [e1]
      simp only [Option.bind_some, if_true]
      rw [w64 (a := a * b) (by omega) (by omega), w64 (by omega) (by omega)]
    rw [e1]
    simp only [Option.bind_some, if_true]
    rw [if_neg (by omega), e2]
    simp only [Option.bind_some]
    rw [if_neg (by omega), if_neg (by omega)]
    have e3 : wrap64 (at0 - 2) = at0 - 2 := w64 (by omega) (by omega)
    rw [e3]
    have s := segOf_in h h1 h2
    have e4 : Int.tdiv (at0 - 2) b = segOf b at0 := by unfold segOf; rw [Int.tdiv_eq_ediv_of_nonneg (by omega)]
    rw [e4, w64 (by omega) (by omega)]
  refine (PLedgerMap.segment_Shape_Of.calls a b at0 _ _ _ w e).mono ?_
  rintro e w' ⟨rfl, hb⟩
  exact ⟨⟨_, rfl⟩, hb⟩
section
variable {w : World} {B m bm bl N : Nat} {a b : Int} {D1 D2 : Dm}
theorem slot_at (h : EM w B m bm bl a b N D1 D2) (hs : okS a b) (num at0 : Int) (hn : num ≠ 0) (ha : okAt a b at0) :
    Calls Try.prog 29 #[.pointer (some ⟨m, 0, none⟩), .int .u64 num, .int .i64 at0] w fun e w' => e = .returned (.tuple #[.int .i64 (segOf b at0), .int .i64 0]) ∧ Below w.heap.size w w' := by
  have c0 := h.c0
  have c1 := h.c1
  have HN : (num == 0) = false := by simpa using hn
  have HO := Lib.hid (of_at w hs ha)
  clear h hs ha hn
  go_enter Try.func29, Try.ntmps29
  go_wp2_with fail
  refine HO.out.mono ?_
  rintro e w' ⟨⟨s, rfl⟩, hb⟩
  go_wp2_with fail
  go_ret2
  exact ⟨rfl, hb⟩
set_option maxHeartbeats 800000 in
theorem mnew_at (w : World) (a b : Int) : Calls Try.prog 22 #[.agg #[.int .i64 a, .int .i64 b]] w fun e w' => (∃ m bm bl, e = .returned (.pointer (some ⟨m, 0, none⟩)) ∧ EM w' w.heap.size m bm bl a b 0 (.map []) (.map [])) ∧ Below w.heap.size w w' := by
  have hmm := @run_makeMap Try.prog
  go_enter Try.func22, Try.ntmps22
  go_wp2_with fail
  go_ret
  have e0 := World.ownsMap_made (H := Nat) (w.alloc (.cells #[.int .i64 a, .int .i64 b] 23)) Try.prog 47 (plainElem Try.prog 3)
  have e1 := World.ownsMap_made (H := Nat) ((w.alloc (.cells #[.int .i64 a, .int .i64 b] 23)).alloc (.map #[] 0)) Try.prog 3 (plainElem Try.prog 3)
  simp only [World.size_alloc] at e0 e1
  refine ⟨⟨w.heap.size + 1 + 1 + 1, w.heap.size + 1, w.heap.size + 1 + 1, rfl, by omega, by omega, by omega, by omega, by omega, by omega, ?_, (e0.alloc _).alloc _, e1.alloc _⟩, (((Below.refl _ _).alloc (Nat.le_refl _) _).alloc (by simp) _ |>.alloc (by simp; omega) _).alloc (by simp; omega) _⟩
  have h := heap_alloc_new (((w.alloc (.cells #[.int .i64 a, .int .i64 b] 23)).alloc (.map #[] 0)).alloc (.map #[] 0)) (.cells #[.int .i64 a, .int .i64 b, .map (some (w.heap.size + 1)), .map (some (w.heap.size + 1 + 1))] 56)
  simp only [World.size_alloc] at h
  exact h
set_option maxHeartbeats 800000 in
theorem put_at (h : EM w B m bm bl a b N D1 D2) (hs : okS a b) (hN : N ≤ 1000) (num at0 : Int) (hn : 0 < num) (hn2 : num ≤ 1000) (ha : okAt a b at0) (hh : Maps.has D1 (kU num) = false) {K : Int} (hK : Bnd D2 K) (hK2 : K ≤ 1000) :
    Calls Try.prog 23 #[.pointer (some ⟨m, 0, none⟩), .int .u64 num, .int .i64 at0] w fun e w' => e = .returned (.int .i64 0) ∧ EM w' B m bm bl a b (N + 1 + 1) (D1.put (kU num) (li at0)) (D2.put (kI (segOf b at0)) (li (at_ D2 (kI (segOf b at0)) + 1))) ∧ FrM bm bl w w' := by
  have HS := Lib.hid (slot_at h hs num at0 (by omega) ha)
  have H := Lib.hid h
  have hsg := segOf_in hs ha.1 ha.2
  have hat2 := mulb (i := a) (b := b) (by unfold okS at hs; omega) (by unfold okS at hs; omega) (by unfold okS at hs; omega) (by unfold okS at hs; omega)
  have hs2 : segOf b at0 < 64 := by unfold okS at hs; omega
  have ha1 := ha.1
  have ha2 := ha.2
  have hkey := keyU (n := num) (by omega) (by omega)
  have hkeyI := keyI (n := segOf b at0) (by omega) (by omega)
  have hb := hK (segOf b at0)
  have HH := Lib.hid hh
  generalize segOf b at0 = sg at *
  clear h ha hh
  go_enter Try.func23, Try.ntmps23
  go_wp2_with fail
  refine HS.out.mono ?_
  rintro e w1 ⟨rfl, hb1⟩
  replace H := Lib.hid (H.out.below hb1)
  have c2 := H.out.c2
  have c3 := H.out.c3
  have z1 := hb1.size
  go_wp2_with (first
    | (at_lookup; refine wpList_lookup_own_ok_int _ rfl _ _ 53 rfl 47 3 .i64 lawU Try.underlying53 Try.underlying3 (zeroI _) bm N D1 rfl H.out.o1 _ _ rfl hkey ?_; intro c hat hwc; rw [HH.out])
    | (at_mapUpdate; refine wpList_mapUpdate_own _ rfl _ _ _ 53 rfl 47 3 lawU Try.underlying53 _ bm N D1 rfl H.out.o1 (by unfold maxLen; omega) _ _ _ rfl rfl hkey _ [] (plainElem_int Try.underlying3 (wfI (by omega) (by omega))) ?_; intro w2 hown2 hg2; have H2 := Lib.hid (H.out.put1 hown2 hg2); have c2' := H2.out.c2; have c3' := H2.out.c3)
    | (at_lookup; refine wpList_lookup_own_int _ rfl _ _ 54 rfl 3 3 .i64 lawI Try.underlying54 Try.underlying3 (zeroI _) bl (N + 1) D2 rfl H2.out.o2 _ _ rfl hkeyI ?_; intro c3v hat3 hwc3)
    | (at_mapUpdate; refine wpList_mapUpdate_own _ rfl _ _ _ 54 rfl 3 3 lawI Try.underlying54 _ bl (N + 1) D2 rfl H2.out.o2 (by unfold maxLen; omega) _ _ _ rfl rfl hkeyI _ [] (plainElem_int Try.underlying3 (wrap64_wf _)) ?_; intro w4 hown4 hg4; have H4 := Lib.hid (H2.out.put2 hown4 hg4)))
  go_ret
  obtain rfl := at_of hat3
  have e := H4.out
  rw [show wrap64 (at_ D2 (kI sg) + 1) = at_ D2 (kI sg) + 1 from w64 (by omega) (by omega)] at e
  exact ⟨rfl, e, ((FrM.of_below hb1).trans (FrM.of_one hg2)).trans (FrM.of_two hg4)⟩
set_option maxHeartbeats 800000 in
theorem move_no (h : EM w B m bm bl a b N D1 D2) (hs : okS a b) (num at0 : Int) (hn : 0 < num) (hn2 : num ≤ 1000) (ha : okAt a b at0) (hh : Maps.has D1 (kU num) = false) :
    Calls Try.prog 24 #[.pointer (some ⟨m, 0, none⟩), .int .u64 num, .int .i64 at0] w fun e w' => e = .returned (.int .i64 4) ∧ Below w.heap.size w w' := by
  have HS := Lib.hid (slot_at h hs num at0 (by omega) ha)
  have H := Lib.hid h
  have hkey := keyU (n := num) (by omega) (by omega)
  have HH := Lib.hid hh
  generalize segOf b at0 = sg at *
  clear h ha hh
  go_enter Try.func24, Try.ntmps24
  go_wp2_with fail
  refine HS.out.mono ?_
  rintro e w1 ⟨rfl, hb1⟩
  replace H := Lib.hid (H.out.below hb1)
  have c2 := H.out.c2
  go_wp2_with (first
    | (at_lookup; refine wpList_lookup_own_ok_int _ rfl _ _ 53 rfl 47 3 .i64 lawU Try.underlying53 Try.underlying3 (zeroI _) bm N D1 rfl H.out.o1 _ _ rfl hkey ?_; intro c hat hwc; rw [HH.out]))
  go_ret
  exact ⟨rfl, hb1⟩
set_option maxHeartbeats 1600000 in
theorem move_yes (h : EM w B m bm bl a b N D1 D2) (hs : okS a b) (hN : N ≤ 1000) (num at0 : Int) (hn : 0 < num) (hn2 : num ≤ 1000) (ha : okAt a b at0) (hh : Maps.has D1 (kU num) = true) (hold : okAt a b (at_ D1 (kU num))) {K : Int} (hK : Bnd D2 K) (hK2 : K ≤ 1000) :
    Calls Try.prog 24 #[.pointer (some ⟨m, 0, none⟩), .int .u64 num, .int .i64 at0] w fun e w' => e = .returned (.int .i64 0) ∧
      (∃ D2a D2b, D2a = D2.put (kI (segOf b (at_ D1 (kU num)))) (li (at_ D2 (kI (segOf b (at_ D1 (kU num)))) - 1)) ∧ D2b = D2a.put (kI (segOf b at0)) (li (at_ D2a (kI (segOf b at0)) + 1)) ∧ EM w' B m bm bl a b (N + 1 + 1 + 1) (D1.put (kU num) (li at0)) D2b) ∧ FrM bm bl w w' := by
  have HS := Lib.hid (slot_at h hs num at0 (by omega) ha)
  have HOf : Hid (∀ W, Calls Try.prog 30 #[.agg #[.int .i64 a, .int .i64 b], .int .i64 (at_ D1 (kU num))] W fun e w' => (∃ s, e = .returned (.tuple #[.int .i64 (segOf b (at_ D1 (kU num))), .int .i64 s, .bool true])) ∧ Below W.heap.size W w') := fun W => of_at W hs hold
  have H := Lib.hid h
  have hsg := segOf_in hs ha.1 ha.2
  have hsf := segOf_in hs hold.1 hold.2
  have hat2 := mulb (i := a) (b := b) (by unfold okS at hs; omega) (by unfold okS at hs; omega) (by unfold okS at hs; omega) (by unfold okS at hs; omega)
  have hs2 : segOf b at0 < 64 := by unfold okS at hs; omega
  have hs3 : segOf b (at_ D1 (kU num)) < 64 := by unfold okS at hs; omega
  have ha1 := ha.1
  have ha2 := ha.2
  have hkey := keyU (n := num) (by omega) (by omega)
  have hkeyI := keyI (n := segOf b at0) (by omega) (by omega)
  have hkeyF := keyI (n := segOf b (at_ D1 (kU num))) (by omega) (by omega)
  have hb := hK (segOf b (at_ D1 (kU num)))
  have HK := Lib.hid (hK.put h.o2.isMap (segOf b (at_ D1 (kU num))) (at_ D2 (kI (segOf b (at_ D1 (kU num)))) - 1) (by omega))
  have HH := Lib.hid hh
  have HD1 : Hid (∀ c, D1.atKey (kU num) (.lit (.int .i64 0)) = .lit (.int .i64 c) → at_ D1 (kU num) = c) := fun c h => at_of h
  generalize segOf b at0 = sg at *
  generalize hfr : segOf b (at_ D1 (kU num)) = fr at *
  clear h ha hh hold hfr
  go_enter Try.func24, Try.ntmps24
  go_wp2_with fail
  refine HS.out.mono ?_
  rintro e w1 ⟨rfl, hb1⟩
  replace H := Lib.hid (H.out.below hb1)
  have c0 := H.out.c0
  have c1 := H.out.c1
  have c2 := H.out.c2
  have z1 := hb1.size
  go_wp2_with (first
    | (at_lookup; refine wpList_lookup_own_ok_int _ rfl _ _ 53 rfl 47 3 .i64 lawU Try.underlying53 Try.underlying3 (zeroI _) bm N D1 rfl H.out.o1 _ _ rfl hkey ?_; intro c hat hwc; rw [HH.out]; obtain rfl := HD1.out c hat))
  refine (HOf.out _).mono ?_
  rintro e w2 ⟨⟨s, rfl⟩, hb2⟩
  replace H := Lib.hid (H.out.below hb2)
  have c3 := H.out.c3
  have z2 := hb2.size
  go_wp2_with (first
    | (at_lookup; refine wpList_lookup_own_int _ rfl _ _ 54 rfl 3 3 .i64 lawI Try.underlying54 Try.underlying3 (zeroI _) bl N D2 rfl H.out.o2 _ _ rfl hkeyF ?_; intro v1 hv1 hwv1)
    | (at_mapUpdate; refine wpList_mapUpdate_own _ rfl _ _ _ 54 rfl 3 3 lawI Try.underlying54 _ bl N D2 rfl H.out.o2 (by unfold maxLen; omega) _ _ _ rfl rfl hkeyF _ [] (plainElem_int Try.underlying3 (wrap64_wf _)) ?_; intro w4 hown4 hg4; have H4 := Lib.hid (H.out.put2 hown4 hg4); have c3' := H4.out.c3)
    | (at_lookup; refine wpList_lookup_own_int _ rfl _ _ 54 rfl 3 3 .i64 lawI Try.underlying54 Try.underlying3 (zeroI _) bl (N + 1) _ rfl H4.out.o2 _ _ rfl hkeyI ?_; intro v2 hv2 hwv2)
    | (at_mapUpdate; refine wpList_mapUpdate_own _ rfl _ _ _ 54 rfl 3 3 lawI Try.underlying54 _ bl (N + 1) _ rfl H4.out.o2 (by unfold maxLen; omega) _ _ _ rfl rfl hkeyI _ [] (plainElem_int Try.underlying3 (wrap64_wf _)) ?_; intro w5 hown5 hg5; have H5 := Lib.hid (H4.out.put2 hown5 hg5); have c2' := H5.out.c2)
    | (at_mapUpdate; refine wpList_mapUpdate_own _ rfl _ _ _ 53 rfl 47 3 lawU Try.underlying53 _ bm (N + 1 + 1) D1 rfl H5.out.o1 (by unfold maxLen; omega) _ _ _ rfl rfl hkey _ [] (plainElem_int Try.underlying3 (wfI (by omega) (by omega))) ?_; intro w6 hown6 hg6; have H6 := Lib.hid (H5.out.put1 hown6 hg6)))
  go_ret
  have q1 := at_of hv1
  rw [← q1, show wrap64 (at_ D2 (kI fr) - 1) = at_ D2 (kI fr) - 1 from w64 (by omega) (by omega)] at hv2 H6
  have q2 := at_of hv2
  have hb2' := HK.out sg
  rw [← q2] at H6
  have e : EM w6 B m bm bl a b (N + 1 + 1 + 1) (D1.put (kU num) (li at0)) ((D2.put (kI fr) (li (at_ D2 (kI fr) - 1))).put (kI sg) (li (wrap64 (at_ (D2.put (kI fr) (li (at_ D2 (kI fr) - 1))) (kI sg) + 1)))) := H6.out
  rw [show wrap64 (at_ (D2.put (kI fr) (li (at_ D2 (kI fr) - 1))) (kI sg) + 1) = at_ (D2.put (kI fr) (li (at_ D2 (kI fr) - 1))) (kI sg) + 1 from w64 (by omega) (by omega)] at e
  exact ⟨rfl, ⟨_, _, rfl, rfl, e⟩, ((((FrM.of_below hb1).trans (FrM.of_below hb2)).trans (FrM.of_two hg4)).trans (FrM.of_two hg5)).trans (FrM.of_one hg6)⟩
set_option maxHeartbeats 1600000 in
theorem drop_yes (h : EM w B m bm bl a b N D1 D2) (hs : okS a b) (hN : N ≤ 1000) (num : Int) (hn : 0 < num) (hn2 : num ≤ 1000) (hh : Maps.has D1 (kU num) = true) (hold : okAt a b (at_ D1 (kU num))) {K : Int} (hK : Bnd D2 K) (hK2 : K ≤ 1000) :
    Calls Try.prog 25 #[.pointer (some ⟨m, 0, none⟩), .int .u64 num] w fun e w' => e = .returned (.int .i64 0) ∧
      EM w' B m bm bl a b (N + 1) (D1.del (kU num)) (D2.put (kI (segOf b (at_ D1 (kU num)))) (li (at_ D2 (kI (segOf b (at_ D1 (kU num)))) - 1))) ∧ FrM bm bl w w' := by
  have HOf : Hid (∀ W, Calls Try.prog 30 #[.agg #[.int .i64 a, .int .i64 b], .int .i64 (at_ D1 (kU num))] W fun e w' => (∃ s, e = .returned (.tuple #[.int .i64 (segOf b (at_ D1 (kU num))), .int .i64 s, .bool true])) ∧ Below W.heap.size W w') := fun W => of_at W hs hold
  have H := Lib.hid h
  have hsf := segOf_in hs hold.1 hold.2
  have hs3 : segOf b (at_ D1 (kU num)) < 64 := by unfold okS at hs; omega
  have hkey := keyU (n := num) (by omega) (by omega)
  have hkeyF := keyI (n := segOf b (at_ D1 (kU num))) (by omega) (by omega)
  have hb := hK (segOf b (at_ D1 (kU num)))
  have HH := Lib.hid hh
  have HD1 : Hid (∀ c, D1.atKey (kU num) (.lit (.int .i64 0)) = .lit (.int .i64 c) → at_ D1 (kU num) = c) := fun c h => at_of h
  have c0 := h.c0
  have c1 := h.c1
  have c2 := h.c2
  generalize hfr : segOf b (at_ D1 (kU num)) = fr at *
  clear h hh hold hfr
  go_enter Try.func25, Try.ntmps25
  go_wp2_with (first
    | (at_lookup; refine wpList_lookup_own_ok_int _ rfl _ _ 53 rfl 47 3 .i64 lawU Try.underlying53 Try.underlying3 (zeroI _) bm N D1 rfl H.out.o1 _ _ rfl hkey ?_; intro c hat hwc; rw [HH.out]; obtain rfl := HD1.out c hat))
  refine (HOf.out _).mono ?_
  rintro e w2 ⟨⟨s, rfl⟩, hb2⟩
  replace H := Lib.hid (H.out.below hb2)
  have c3 := H.out.c3
  have z2 := hb2.size
  go_wp2_with (first
    | (at_lookup; refine wpList_lookup_own_int _ rfl _ _ 54 rfl 3 3 .i64 lawI Try.underlying54 Try.underlying3 (zeroI _) bl N D2 rfl H.out.o2 _ _ rfl hkeyF ?_; intro v1 hv1 hwv1)
    | (at_mapUpdate; refine wpList_mapUpdate_own _ rfl _ _ _ 54 rfl 3 3 lawI Try.underlying54 _ bl N D2 rfl H.out.o2 (by unfold maxLen; omega) _ _ _ rfl rfl hkeyF _ [] (plainElem_int Try.underlying3 (wrap64_wf _)) ?_; intro w4 hown4 hg4; have H4 := Lib.hid (H.out.put2 hown4 hg4); have c2' := H4.out.c2)
    | (at_delete; refine wpList_delete_own _ rfl _ _ 53 47 rfl 3 lawU Try.underlying53 _ bm (N + 1) D1 rfl H4.out.o1 _ _ rfl hkey ?_; intro w5 hown5 hturn5))
  go_ret
  have q1 := at_of hv1
  rw [← q1, show wrap64 (at_ D2 (kI fr) - 1) = at_ D2 (kI fr) - 1 from w64 (by omega) (by omega)] at H4
  have h4 := H4.out
  have hg5 := hturn5.grown
  refine ⟨rfl, ⟨h4.m0, h4.m1, h4.m2, h4.n1, h4.n2, h4.n3, (hg5.block m h4.lt (by simp [h4.n2])).trans h4.hm, hown5, h4.o2.kept hg5 (by simp [h4.n1.symm])⟩, ((FrM.of_below hb2).trans (FrM.of_two hg4)).trans (FrM.of_one hg5)⟩
theorem mlive_at (h : EM w B m bm bl a b N D1 D2) (s : Int) (h0 : 0 ≤ s) (h1 : s ≤ 1000) :
    Calls Try.prog 26 #[.pointer (some ⟨m, 0, none⟩), .int .i64 s] w fun e w' => e = .returned (.int .i64 (at_ D2 (kI s))) ∧ w = w' := by
  have c3 := h.c3
  have H := Lib.hid h
  have hkey := keyI (n := s) (by omega) (by omega)
  clear h
  go_enter Try.func26, Try.ntmps26
  go_wp2_with (first
    | (at_lookup; refine wpList_lookup_own_int _ rfl _ _ 54 rfl 3 3 .i64 lawI Try.underlying54 Try.underlying3 (zeroI _) bl N D2 rfl H.out.o2 _ _ rfl hkey ?_; intro v1 hv1 hwv1))
  go_ret
  exact ⟨by rw [at_of hv1]; rfl, rfl⟩
theorem mlen_at (h : EM w B m bm bl a b N D1 D2) :
    Calls Try.prog 27 #[.pointer (some ⟨m, 0, none⟩)] w fun e w' => e = .returned (.int .i64 (Maps.size D1)) ∧ w = w' := by
  have c2 := h.c2
  have H := Lib.hid h
  clear h
  go_enter Try.func27, Try.ntmps27
  go_wp2_with (first
    | (at_len; refine wpList_len_own _ rfl _ 53 rfl 47 3 Try.underlying53 _ bm N D1 rfl H.out.o1 ?_))
  go_ret
  exact ⟨rfl, rfl⟩
end
end Go.Proofs.Ytcflobbgnicncaa.L
