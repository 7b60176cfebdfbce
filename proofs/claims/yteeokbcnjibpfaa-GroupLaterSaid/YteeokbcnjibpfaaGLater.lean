/- The walk of GroupLater. -/
import Derived.Test.YteeokbcnjibpfaaGKeep
namespace Go.Proofs.Yteeokbcnjibpfaa.G
open Go.RowKit Go.Proofs.YteeokbcnjibpfaaW.PrintMore Go.Proofs.YteeokbcnjibpfaaW.PrintWords
set_option linter.unusedVariables false
set_option linter.unusedSimpArgs false
def LastNRel (w : World) (acc : List (Int × Int)) (last i : Value) (wr : World) : Prop := w = wr ∧ ∃ n : Nat, i = .int .i64 n ∧ n ≤ acc.length ∧ last = .int .u64 (lastN (acc.take n))
theorem lastN_take (acc : List (Int × Int)) (n : Nat) (h : n < acc.length) : lastN (acc.take (n + 1)) = acc[n].2 := by
  rw [List.take_succ_eq_append_getElem h, lastN_app]
/-- Numbers in the block s. -/
def WasAt (w : World) (s : Nat) (A : Option Addr) (l : List Int) : Prop := 0 < l.length → A = some ⟨s, 0, none⟩ ∧ ∀ j (h : j < l.length), w.cell? ⟨s, j, none⟩ = some (.int .u64 l[j])
theorem WasAt.stay {w w' : World} {s : Nat} {A : Option Addr} {l : List Int} (h : WasAt w s A l) (hb : w'.heap[s]? = w.heap[s]?) : WasAt w' s A l := fun hl =>
  ⟨(h hl).1, fun j hj => (World.cell?_of_block (w := w) (a := ⟨s, j, none⟩) hb).trans ((h hl).2 j hj)⟩
theorem WasAt.nums {w : World} {s : Nat} {A : Option Addr} {l : List Int} (h : WasAt w s A l) (hs : s < w.heap.size) : NumsAt w w.heap.size A l := fun hl =>
  ⟨s, 0, (h hl).1, hs, fun j hj => by rw [Nat.zero_add]; exact (h hl).2 j hj⟩
theorem was_own {w : World} {B N : Nat} {v : Value} {l : List Int} (h : w.ownsRow B 23 1 v N (u64s l)) (hN : l.length = N) (hB : B < w.heap.size) : ∃ s A k, v = .slice A N k ∧ B ≤ s ∧ s < w.heap.size ∧ WasAt w s A l := by
  subst hN
  rcases h.2 with ⟨rfl, e⟩ | ⟨g, cap, cur, rfl, hg, hh, hle, _⟩
  · exact ⟨B, none, 0, by rw [e], Nat.le_refl _, hB, fun hl => by omega⟩
  · refine ⟨g, some ⟨g, 0, none⟩, cap, rfl, hg, (Array.getElem?_eq_some_iff.1 hh).1, fun hl => ⟨rfl, fun j hj => ?_⟩⟩
    rw [h.cellAt j (by omega)]
    simp [u64s, List.getElem?_eq_getElem hj]
theorem cutAny_len (m : Int) (V : Nat) (a : List (Int × Int)) : (cutAny m V a).length ≤ V := by
  unfold cutAny; split
  · simp
  · rw [cutList_len]; exact Nat.le_refl _
theorem cutAny_later {V : Nat} {a : List (Int × Int)} (more : List (Int × Int)) {m : Int} (h : Good V a) (hm : m ≤ lastN a) : cutAny m V (more.foldl (stepAcc V) a) = cutAny m V a := by
  obtain ⟨r, hr⟩ := foldl_pre V more a
  have hg := (foldl_good V more a h).1
  rw [hr] at hg ⊢
  unfold cutAny
  split
  · rfl
  · exact cut_later hg hm
/-- The walk's stores into the first cut. -/
def StoreRel (w : World) (B q s c N : Nat) (i : Value) (wr : World) : Prop := ∃ n : Nat, i = .int .i64 n ∧ n ≤ N ∧ Below B w wr ∧ wr.heap.size = w.heap.size ∧ wr.heap[q]? = w.heap[q]? ∧ wr.heap[s]? = w.heap[s]? ∧ (0 < N → ∃ arr, wr.heap[c]? = some (.cells arr 23 (0, 0)) ∧ N ≤ arr.size)
theorem storeRel_step {w wr : World} {B q s c N n : Nat} (h : Below B w wr) (h1 : wr.heap.size = w.heap.size) (h2 : wr.heap[q]? = w.heap[q]?) (h3 : wr.heap[s]? = w.heap[s]?) {arr : Array Value} (h4 : wr.heap[c]? = some (.cells arr 23 (0, 0))) (h5 : N ≤ arr.size) (hB : B ≤ c) (hq : q ≠ c) (hs : s ≠ c) (hn : n < N) (v : Value) :
    StoreRel w B q s c N (.int .i64 ((n : Int) + 1)) (wr.setCell ⟨c, n, none⟩ v) :=
  ⟨n + 1, by simp, by omega, h.setCell hB _, by simpa using h1, (Below.heap_setCell _ _ _ _ hq).trans h2, (Below.heap_setCell _ _ _ _ hs).trans h3, fun _ => ⟨_, set_at h4, by simpa using h5⟩⟩
theorem box_new (w : World) (m : Int) (v : Value) : (w.alloc (.cells #[.int .u64 m, v] 31)).cell? ⟨w.heap.size, 0, none⟩ = some (.int .u64 m) ∧ (w.alloc (.cells #[.int .u64 m, v] 31)).cell? ⟨w.heap.size, 1, none⟩ = some v ∧ w.heap.size < (w.alloc (.cells #[.int .u64 m, v] 31)).heap.size ∧ Below w.heap.size w (w.alloc (.cells #[.int .u64 m, v] 31)) := by
  have h := heap_alloc_new w (.cells #[.int .u64 m, v] 31)
  exact ⟨by simp only [World.cell?, h]; rfl, by simp only [World.cell?, h]; rfl, by simp, (Below.refl _ _).alloc (Nat.le_refl _) _⟩
def LaterRel (w : World) (B g gv V s : Nat) (acc more : List (Int × Int)) (i : Value) (wr : World) : Prop := ∃ n : Nat, i = .int .i64 n ∧ n ≤ more.length ∧ GKeep wr B g gv V s ((more.take n).foldl (stepAcc V) acc) ∧ wr.heap[s]? = w.heap[s]? ∧ Below B w wr
theorem fold_step (V : Nat) (acc more : List (Int × Int)) (n : Nat) (h : n < more.length) : (more.take (n + 1)).foldl (stepAcc V) acc = stepAcc V ((more.take n).foldl (stepAcc V) acc) (more[n].1, more[n].2) := by
  rw [List.take_succ_eq_append_getElem h, List.foldl_append]; rfl
set_option maxHeartbeats 3200000 in
set_option maxRecDepth 100000 in
theorem later_ok (v : Int) (A A2 : Option Addr) (k k2 : Nat) (l more : List (Int × Int)) (m : Int) (w : World) (hv : -9223372036854775808 ≤ v) (hv' : v ≤ 9223372036854775807) (m0 : 0 ≤ m) (m1 : m ≤ 18446744073709551615) (hm : l.length ≤ maxLen) (hm2 : more.length ≤ maxLen) (hA : EvAt w w.heap.size A l) (hA2 : EvAt w w.heap.size A2 more) (hR : Ranged l) (hR2 : Ranged more) :
    Calls Try.prog 10 #[.int .i64 v, .slice A l.length k, .slice A2 more.length k2, .int .u64 m] w fun e w' => e = .returned (.bool true) ∧ Below w.heap.size w w' := by
  obtain ⟨i0, hi0, hz0, hz1, hz2⟩ := info_parts infoU
  have HA := Lib.hid hA
  have HR := Lib.hid hR
  have HA2 := Lib.hid hA2
  have HR2 := Lib.hid hR2
  simp only [maxLen] at hm hm2
  clear hA hR hA2 hR2
  go_enter Try.func10, Try.ntmps10
  go_wp2_with fail
  refine (awake_ok _).mono ?_
  rintro e w1 ⟨rfl, hb1⟩
  by_cases d1 : 40 < l.length
  · go_wp2_with fail
    go_ret
    exact ⟨rfl, hb1⟩
  by_cases d2 : 20 < more.length
  · go_wp2_with fail
    go_ret
    exact ⟨rfl, hb1⟩
  go_wp2_with fail
  refine (play_law v _ A k l hv hv' rfl d1 HA.out HR.out hb1).mono ?_
  rintro e w2 ⟨g, gv, x, acc, -, rfl, hat, hG, hlen, hb2⟩
  have B2 := hb1.trans (hb2.mono hb1.size)
  have B12 := hb2
  have HG := Lib.hid hat.g
  have HX := Lib.hid hat.r
  have HO := Lib.hid hG
  have V8 := volsOf_le v
  generalize volsOf v = V at *
  have HB1 := Lib.hid hb1
  clear hat hG hb1 hb2
  obtain ⟨A1, c5, k5, hev⟩ := HX.out.evs
  have HE := Lib.hid hev
  clear hev
  go_wp2_with fail
  go_loopw [12, 13] (fun last i wr => LastNRel w2 acc last i wr) (fun _ i _ => (acc.length - intOf i).toNat)
  case atStart => exact ⟨rfl, 0, rfl, by omega, rfl⟩
  case round =>
    obtain ⟨rfl, n, rfl, hn, rfl⟩ := hrel
    by_cases cc : n < acc.length
    · obtain ⟨q, off, rfl, hlt, hcs⟩ := HE.out (by omega)
      have y2 := (hcs n cc).2
      have e1 : (0 : Int) ≤ (n : Int) := by omega
      have e2 : (n : Int) < (acc.length : Int) := by omega
      have HS := Lib.hid (lastN_take acc n cc)
      clear hcs
      go_wp2_with fail
      go_roundw
      case rel => exact ⟨rfl, n + 1, by simp, by omega, by rw [HS.out]⟩
      case measure => simp [intOf]; omega
    · obtain rfl : n = acc.length := by omega
      rw [List.take_length]
      have HL : Hid (∀ more : List (Int × Int), m ≤ lastN acc → cutAny m V (more.foldl (stepAcc V) acc) = cutAny m V acc) := fun more h => cutAny_later more HO.out h
      generalize lastN acc = la at *
      by_cases cm : la < m
      · go_wp2_with fail
        go_ret
        exact ⟨rfl, B2⟩
      replace HL := Lib.hid (HL.out more (by omega))
      have hN := cutAny_len m V acc
      go_wp2_with fail
      refine (cut_any HG.out HO.out (by omega) m m0 m1 V8).mono ?_
      rintro e w3 ⟨A3, k3, rfl, hown3, hb3⟩
      generalize hLL : cutAny m V acc = L at *
      have HO3 := Lib.hid hown3
      obtain ⟨N, hNe⟩ : ∃ N, L.length = N := ⟨_, rfl⟩
      have HNe := Lib.hid hNe
      rw [hNe] at hN ⊢
      have z3 := hb3.size
      have hX := hb3.alloc hb3.size (.cells #[.int .u64 m, .slice A3 N k3] 31)
      have hXe := hX.alloc hX.size (.cells #[] 23)
      have fm : 0 + N ≤ maxLen := by simp only [maxLen]; omega
      have fb : (0 + N) * 8 ≤ 140737488355328 := by omega
      have f1 : ∀ u ∈ u64s L, u.oneCell' = true := by simp [u64s, Value.oneCell']
      have HOW : Hid (((w3.alloc (.cells #[.int .u64 m, .slice A3 N k3] 31)).alloc (.cells #[] 23)).ownsRow w2.heap.size 23 1 (.slice A3 N k3) N (u64s L)) := by
        have h := hown3
        unfold OwnNums at h
        rw [hNe] at h
        exact (h.alloc _).alloc _
      clear hown3 hNe
      have HEm : Hid (((w3.alloc (.cells #[.int .u64 m, .slice A3 N k3] 31)).alloc (.cells #[] 23)).ownsRow (w3.heap.size + 1) 23 1 (.slice (some ⟨w3.heap.size + 1, 0, none⟩) 0 0) 0 []) := by
        have h := empty_own (w3.alloc (.cells #[.int .u64 m, .slice A3 N k3] 31))
        simp only [World.size_alloc] at h
        exact h
      go_wp2_with (at_builtin; refine list_both rfl (.tmp 69) (.tmp 71) 29 rfl (w3.heap.size + 1) w2.heap.size 23 i0 (.int .u64 0) 1 8 Try.underlying29 hi0 hz0 hz1 hz2 rfl (by decide) _ _ _ (by rfl) HEm.out _ _ _ (by rfl) HOW.out f1 fm fb (by simp) ?_; intro v4 w4 hown4 hgr4 hat4)
      clear HOW HEm fm fb f1 hat4 k5 HE
      have lt4 : w3.heap.size + 1 < w4.heap.size := by have := hgr4.size; simp at this; omega
      have B4 : Below w2.heap.size w2 w4 := hXe.grown hgr4 (by simp; omega) (fun q hq => by simp [Value.ownBlock] at hq; omega)
      have hq4 : w4.heap[w3.heap.size]? = some (.cells #[.int .u64 m, .slice A3 N k3] 31) := by
        rw [hgr4.block _ (by simp; omega) (by simp [Value.ownBlock]), Below.heap_alloc _ _ _ (by simp), heap_alloc_new]
      rw [List.nil_append, Nat.zero_add] at hown4
      obtain ⟨s, A5, k5, rfl, hs1, hs2, hwas⟩ := was_own hown4 HNe.out lt4
      have HWas := Lib.hid hwas
      have hc : ∃ c, w2.heap.size ≤ c ∧ c < w3.heap.size ∧ (0 < N → A3 = some ⟨c, 0, none⟩ ∧ ∃ arr, w4.heap[c]? = some (.cells arr 23 (0, 0)) ∧ N ≤ arr.size) ∨ N = 0 := by
        have hn := HNe.out
        rcases HO3.out.2 with ⟨e1, e2⟩ | ⟨c, cap, cur, e1, e2, e3, e4, e5, e6, e7⟩
        · exact ⟨0, .inr (by omega)⟩
        · have clt := (Array.getElem?_eq_some_iff.1 e3).1
          cases e1
          exact ⟨c, .inl ⟨e2, clt, fun _ => ⟨rfl, cur, by rw [hgr4.block _ (by simp; omega) (by simp [Value.ownBlock]; omega), Below.heap_alloc _ _ _ (by simp; omega), Below.heap_alloc _ _ _ clt]; exact e3, by omega⟩⟩⟩
      have HO3 := Lib.hid hc
      clear hgr4 hown4 hwas hX hXe hb3 hc
      generalize w3.heap.size = q3 at *
      obtain ⟨c, hc⟩ := HO3.out
      have HC := Lib.hid hc
      clear hc HO3
      go_loopw [17] (fun i wr => StoreRel w4 w2.heap.size q3 s c N i wr) (fun i _ => (N - intOf i).toNat)
      case atStart =>
        refine ⟨0, rfl, by omega, Below.refl _ _, rfl, rfl, rfl, fun h => ?_⟩
        rcases HC.out with ⟨_, _, h3⟩ | h3
        · exact (h3 h).2
        · omega
      case round =>
        obtain ⟨n, rfl, hn, hb, h1, h2, h3, h4⟩ := hrel
        have hq := h2.trans hq4
        have c0 : wr.cell? ⟨q3, 0, none⟩ = some (.int .u64 m) := by simp only [World.cell?, hq]; rfl
        have c1 : wr.cell? ⟨q3, 1, none⟩ = some (.slice A3 N k3) := by simp only [World.cell?, hq]; rfl
        have H := Lib.hid (And.intro h2 (And.intro h3 h4))
        clear hq h2 h3 h4
        by_cases cc : n < N
        · obtain ⟨arr, h5, h6⟩ := H.out.2.2 (by omega)
          obtain ⟨cb, clt, c3⟩ := HC.out.resolve_right (by omega)
          obtain rfl := (c3 (by omega)).1
          have g1 : wr.cell? ⟨c, n, none⟩ = some (arr[n]'(by omega)) := by simp [World.cell?, h5, show n < arr.size by omega]
          have g2 : wr.frozen? ⟨c, n, none⟩ = false := by simp [World.frozen?, h5]
          have HS := Lib.hid (storeRel_step (s := s) (q := q3) hb h1 H.out.1 H.out.2.1 h5 h6 cb (by omega) (by omega) cc (.int .u64 7))
          have e1 : (0 : Int) ≤ (n : Int) := by omega
          have e2 : (n : Int) < (N : Int) := by omega
          clear c3 h5
          go_wp2_with fail
          go_roundw
          case rel => exact HS.out
          case measure => simp [intOf]; omega
        · have B5 : Below w2.heap.size w2 wr := B4.trans hb
          have F5 := B2.trans (B5.mono B2.size)
          have HK := Lib.hid (gkeep_new (s := s) HG.out B5 (by omega) (by omega))
          have HW5 := Lib.hid (HWas.out.stay H.out.2.1)
          have z12 := B12.size
          have B15 := B12.trans (B5.mono B12.size)
          clear H HWas HG hb h1
          go_wp2_with fail
          clear c0 c1
          go_loopw [18] (fun i w' => LaterRel wr w1.heap.size g gv V s acc more i w') (fun i _ => (more.length - intOf i).toNat)
          case atStart => exact ⟨0, rfl, by omega, HK.out, rfl, Below.refl _ _⟩
          case round =>
            obtain ⟨n, rfl, hn, hk, hks, hb⟩ := hrel
            have HK2 := Lib.hid hk
            have HKS := Lib.hid hks
            have hfl := foldl_good V (more.take n) acc HO.out
            have hfl2 : (more.take n).length ≤ 20 := by simp; omega
            have HGd := Lib.hid hfl.1
            have hlen2 : ((more.take n).foldl (stepAcc V) acc).length ≤ 60 := by have := hfl.2; omega
            have F6 := HB1.out.trans ((B15.trans hb).mono HB1.out.size)
            clear hk hks hfl
            by_cases cc : n < more.length
            · obtain ⟨q, off, rfl, hlt, hcs⟩ := HA2.out (by omega)
              have y1 := (F6.cell (p := ⟨q, off + n * 2, none⟩) hlt).trans (hcs n cc).1
              have y2 := (F6.cell (p := ⟨q, off + n * 2 + 1, none⟩) hlt).trans (hcs n cc).2
              have rg := HR2.out n cc
              have HS := Lib.hid (fold_step V acc more n cc)
              have e1 : (0 : Int) ≤ (n : Int) := by omega
              have e2 : (n : Int) < (more.length : Int) := by omega
              clear hcs F6
              generalize more[n].1 = vol at *
              generalize more[n].2 = num at *
              obtain ⟨⟨r1, r2⟩, r3, r4⟩ := rg
              by_cases cv : vol = -1
              · subst cv
                have HD := Lib.hid (keep_barrier HK2.out HGd.out (by omega) num r3 r4)
                go_wp2_with (first | (go_at_call 21; refine HD.out.mono ?_; rintro e w6 ⟨⟨n0, rfl⟩, h6, hb6, hs6⟩))
                go_roundw
                case rel => exact ⟨n + 1, by simp, by omega, by rw [HS.out]; exact h6, hs6.trans HKS.out, hb.trans hb6⟩
                case measure => simp [intOf]; omega
              · have CV : (vol == -1) = false := by simpa using cv
                have HD := Lib.hid (keep_wrote HK2.out.drew HGd.out (by omega) vol num cv r1 r2 V8 r3 r4)
                clear cv
                go_wp2_with fail
                go_region_with (first | (go_at_call 20; refine HD.out.mono ?_; rintro e w6 ⟨⟨n0, rfl⟩, h6, hb6, hs6⟩))
                all_goals (go_wp2_with fail; go_roundw; (case rel => exact ⟨n + 1, by simp, by omega, by rw [HS.out]; exact h6, hs6.trans HKS.out, hb.trans (bel_drew hb6)⟩); (case measure => simp [intOf]; omega))
            · obtain rfl : n = more.length := by omega
              rw [List.take_length] at HK2 HGd hlen2
              have HW6 := Lib.hid (HW5.out.stay HKS.out)
              have hsl : s < wr.heap.size := by obtain ⟨R, _, h, _⟩ := HK2.out; exact h
              have hgat := HK2.out.ga
              have HGA := Lib.hid hgat
              have HL2 := HL.out
              have HCA := Lib.hid (cut_any hgat HGd.out (by omega) m m0 m1 V8)
              rw [HL2] at HCA
              have HN2 := Lib.hid (HW6.out.nums hsl)
              clear hgat HL2 HKS HK2 HW6 HW5 HK
              have hn := HNe.out
              rw [hn] at HCA
              go_wp2_with fail
              refine HCA.out.mono ?_
              rintro e w7 ⟨A7, k7, rfl, hown7, hb7⟩
              have hn7 : NumsAt w7 w7.heap.size A7 L := by
                obtain ⟨A', c', e, _, h⟩ := numsAt_own hown7
                cases e
                exact h
              obtain ⟨b0, b1, blt, bb⟩ := box_new w7 m (.slice A7 N k7)
              have C7 : Below wr.heap.size wr (w7.alloc (.cells #[.int .u64 m, .slice A7 N k7] 31)) := hb7.trans (bb.mono hb7.size)
              have HN5 := Lib.hid ((HN2.out.below C7).lift C7.size)
              have HN7 := Lib.hid ((hn7.below bb).lift bb.size)
              have G7 := HB1.out.trans ((B15.trans (hb.trans (C7.mono (by have := hb.size; have := B15.size; omega)))).mono HB1.out.size)
              clear hn7 hown7 HN2 HCA bb C7
              go_wp2_with fail
              generalize w7.alloc (.cells #[.int .u64 m, .slice A7 N k7] 31) = W7 at *
              generalize w7.heap.size = q7 at *
              refine (cut_none m W7).mono ?_
              rintro e w8 ⟨rfl, hb8⟩
              unfold nilS
              obtain ⟨d0, d1', dlt, db⟩ := box_new w8 0 (.slice none 0 0)
              have C9 : Below W7.heap.size W7 (w8.alloc (.cells #[.int .u64 0, .slice none 0 0] 31)) := hb8.trans (db.mono hb8.size)
              go_wp2_with fail
              generalize w8.alloc (.cells #[.int .u64 0, .slice none 0 0] 31) = W9 at *
              generalize w8.heap.size = q8 at *
              refine (before_none m W9).mono ?_
              rintro e w10 ⟨rfl, rfl⟩
              obtain ⟨bc, bf⟩ := bcell C9
              have b1' := (bc q7 1 blt).trans b1
              replace HN5 := Lib.hid ((HN5.out.below C9).lift C9.size)
              replace HN7 := Lib.hid ((HN7.out.below C9).lift C9.size)
              have G9 := G7.trans (C9.mono G7.size)
              have HSame : Hid (Calls Try.prog 17 #[.slice A5 N k5, .slice A7 N k7] W9 fun e w' => e = .returned (.int .i64 1) ∧ ∃ n, w' = W9.drewN n) := by
                have h := same_at A5 A7 k5 k7 L L (by omega) (by omega) HN5.out HN7.out
                rw [hn, show sameN L L = 1 from if_pos rfl] at h
                exact h
              clear bc bf b0 b1 d0 HN5 HN7 C9 hb8 db
              go_wp2_with fail
              refine HSame.out.mono ?_
              rintro e w11 ⟨rfl, nd, rfl⟩
              have d1'' : (W9.drewN nd).cell? ⟨q8, 1, none⟩ = some (.slice none 0 0) := d1'
              have G11 := G9.trans (bel_drewN w.heap.size W9 (n := nd))
              go_wp2_with fail
              refine (wrote_none _ 0 1).mono ?_
              rintro e w12 ⟨rfl, rfl⟩
              go_wp2_with fail
              refine (barrier_none _ 1).mono ?_
              rintro e w13 ⟨rfl, rfl⟩
              go_wp2_with fail
              refine (barriers_none _).mono ?_
              rintro e w14 ⟨rfl, rfl⟩
              unfold nilS
              go_wp2_with fail
              go_ret
              exact ⟨rfl, G11⟩
end Go.Proofs.Yteeokbcnjibpfaa.G
