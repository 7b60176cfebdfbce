/- The walk of LedgerBack: it answers true, whatever the bytes, for a slice of whatever length. -/
import Derived.Test.YtcflobbgnicncaaLNums
import Derived.Laws.OwnMore
import Derived.Deep.RegionHeld3
import Derived.IntWalk
namespace Go.Proofs.Ytcflobbgnicncaa.L
open Go.RowKit
set_option linter.unusedVariables false
set_option linter.unusedSimpArgs false
theorem infoI : (Try.prog.info? 3).map (fun i => (i.zero, i.size, i.bytes)) = some (some (.int .i64 0), 1, 8) := by kernel_rfl
/-- What was taken of some needs. -/
def got (M : Int) : Int → List Int → List Int
  | _, [] => []
  | live, x :: xs => if x ≤ M - live then x :: got M (live + x) xs else got M live xs
theorem got_yes {M live a : Int} {l : List Int} (c : a ≤ M - live) : got M live (a :: l) = a :: got M (live + a) l := if_pos c
theorem got_no {M live a : Int} {l : List Int} (c : ¬ a ≤ M - live) : got M live (a :: l) = got M live l := if_neg c
theorem got_snoc (M : Int) : ∀ (l : List Int) (live x : Int), got M live (l ++ [x]) = if x ≤ M - (live + sumL (got M live l)) then got M live l ++ [x] else got M live l
  | [], live, x => by simp [got, sumL]
  | a :: l, live, x => by
    by_cases c : a ≤ M - live
    · rw [List.cons_append, got_yes c, got_yes c, got_snoc M l]
      have e : live + sumL (a :: got M (live + a) l) = live + a + sumL (got M (live + a) l) := by simp only [sumL]; omega
      rw [e]
      by_cases d : x ≤ M - (live + a + sumL (got M (live + a) l))
      · rw [if_pos d, if_pos d]; rfl
      · rw [if_neg d, if_neg d]
    · rw [List.cons_append, got_no c, got_no c, got_snoc M l]
theorem got_len (M : Int) : ∀ (l : List Int) (live : Int), (got M live l).length ≤ l.length
  | [], live => by simp [got]
  | a :: l, live => by
    have h1 := got_len M l (live + a)
    have h2 := got_len M l live
    by_cases c : a ≤ M - live
    · rw [got_yes c, List.length_cons, List.length_cons]; omega
    · rw [got_no c, List.length_cons]; omega
theorem got_mem (M : Int) : ∀ (l : List Int) (live x : Int), x ∈ got M live l → x ∈ l
  | [], live, x, h => by simp [got] at h
  | a :: l, live, x, h => by
    simp only [got] at h
    split at h
    · rcases List.mem_cons.1 h with rfl | h
      · exact List.mem_cons_self
      · exact List.mem_cons_of_mem _ (got_mem M l _ x h)
    · exact List.mem_cons_of_mem _ (got_mem M l _ x h)
theorem got_sum (M : Int) : ∀ (l : List Int) (live : Int), live ≤ M → live + sumL (got M live l) ≤ M
  | [], live, h => by simp only [got, sumL]; omega
  | a :: l, live, h => by
    simp only [got]
    split
    · have := got_sum M l (live + a) (by omega); simp only [sumL]; omega
    · exact got_sum M l live h
def nums (l : List Int) : List Value := l.map (Value.int .i64)
theorem own_ge {w : World} {base n size : Nat} {e : TypeId} {v : Value} {xs : List Value} (h : w.ownsRow base e size v n xs) : ∀ q, v.ownBlock = some q → base ≤ q := fun q hq => by
  rcases h.2 with ⟨e, _⟩ | ⟨g, cap, cur, e, hg, _⟩
  · rw [e] at hq; cases hq
  · rw [e] at hq; simp only [Value.ownBlock, Option.some.injEq] at hq; omega
/-- The first loop's head. -/
def GotRel (B g0 : Nat) (M : Int) (l : List Int) (w : World) (v i : Value) (wr : World) : Prop :=
  ∃ k : Nat, k ≤ l.length ∧ i = .int .i64 k ∧ wr.ownsRow (g0 + 1) 3 1 v (got M 0 (l.take k)).length (nums (got M 0 (l.take k))) ∧ IsLed wr g0 M (sumL (got M 0 (l.take k))) ∧ Below B w wr
/-- The second loop's head: r is given back from the front. -/
def GiveRel (B g0 : Nat) (M : Int) (v : Value) (r : List Int) (w : World) (i : Value) (wr : World) : Prop :=
  ∃ k : Nat, k ≤ r.length ∧ i = .int .i64 k ∧ wr.ownsRow (g0 + 1) 3 1 v r.length (nums r) ∧ IsLed wr g0 M (sumL (r.drop k)) ∧ Below B w wr
theorem zero_own (w : World) (B : Nat) (hb : B ≤ w.heap.size) : (w.alloc (.cells #[] 3)).ownsRow B 3 1 (.slice (some ⟨w.heap.size, 0, none⟩) 0 0) 0 [] :=
  ⟨rfl, .inr ⟨w.heap.size, 0, #[], rfl, hb, heap_alloc_new _ _, Nat.le_refl _, by simp [maxLen], rfl, rfl⟩⟩
theorem bel_new {wr w5 : World} (hg : (wr.alloc (.cells #[] 3)).drew.grownBy w5 (Value.ownBlock (.slice (some ⟨wr.heap.size, 0, none⟩) 0 0))) : Below wr.heap.size wr w5 :=
  ((Below.refl _ _).alloc (Nat.le_refl _) _).drew.grown hg (by simp) (fun p hp => by cases hp; exact Nat.le_refl _)
theorem bel_own {wr w5 w6 : World} {B n size : Nat} {e : TypeId} {v : Value} {xs : List Value} (h : Below B wr w5) (hB : B ≤ w5.heap.size) (ho : w5.ownsRow B e size v n xs) (hg : w5.grownBy w6 v.ownBlock) : Below B wr w6 :=
  h.grown hg hB (own_ge ho)
theorem src_cells {w W : World} {B g c : Nat} {G : List Int} (h : w.ownsRow B 3 1 (.slice (some ⟨g, 0, none⟩) G.length c) G.length (nums G)) (hb : Below w.heap.size w W) (q m : Nat) (hq : q + m ≤ G.length) :
    ∀ j u, (nums ((G.drop q).take m))[j]? = some u → W.cell? ((⟨g, q, none⟩ : Addr).add j) = some u := by
  intro j u hu
  have hj : j < m ∧ q + j < G.length := by
    have := (List.getElem?_eq_some_iff.1 hu).1
    simp [nums] at this; omega
  have hlt : g < w.heap.size := by
    rcases h.2 with ⟨e, e2⟩ | ⟨g', cap, cur, e, _, hh, _⟩
    · cases e
    · cases e; exact (Array.getElem?_eq_some_iff.1 hh).1
  have e : ((⟨g, q, none⟩ : Addr).add j) = ⟨g, q + j, none⟩ := by simp [Addr.add]
  rw [e, hb.cell (p := ⟨g, q + j, none⟩) hlt, h.cellAt (q + j) (by omega), ← hu]
  simp [nums, List.getElem?_take, hj.1]
theorem nums_one (l : List Int) : ∀ u ∈ nums l, u.oneCell' = true := by
  intro u hu
  simp [nums] at hu
  obtain ⟨x, _, rfl⟩ := hu
  rfl
theorem nums_len (l : List Int) : (nums l).length = l.length := by simp [nums]
theorem step_own {P : Program} {w : World} {ops : Array Oper} {o : Oper} {a : Act} {K : Act → World → Prop} {Q : Exit → Act → World → Prop} {E : Prop} (hgd : o.guard = none) (s x : Operand) (t : TypeId)
    (ho : o.op = .call { callee := .builtin .append, args := #[s, x], argTypes := #[t, t] })
    (base : Nat) (e : TypeId) (i : TypeInfo) (z : Value) (size bytes : Nat) (ht : P.underlying t = some (.slice e)) (hi : P.info? e = some i) (hz : i.zero = some z)
    (hsize : i.size = size) (hby : i.bytes = bytes) (hzs : z.cells.size = size) (hsz : 0 < size)
    (v : Value) (n : Nat) (xs : List Value) (hs : a.eval s = v) (hown : w.ownsRow base e size v n xs)
    (ad : Addr) (m c : Nat) (news : List Value) (hx : a.eval x = .slice (some ad) m c) (hl : news.length = m * size) (hnews : ∀ j u, news[j]? = some u → w.cell? (ad.add j) = some u) (h1 : ∀ u ∈ news, u.oneCell' = true)
    (h63 : n + m ≤ maxLen) (hbytes : (n + m) * bytes ≤ 140737488355328) (hbase : base ≤ w.heap.size)
    (h : ∀ v' w', w'.ownsRow base e size v' (n + m) (xs ++ news) → w.grownBy w' v.ownBlock → (v' = .slice none 0 0 ↔ v = .slice none 0 0 ∧ m = 0) → K (a.put o.dst v') w') :
    if Region.wanted o (yielded ops a.tmps) = true then Oper.wp P o a w K Q else E := by
  have hw : Region.wanted o (yielded ops a.tmps) = true := by simp [Region.wanted, hgd]
  rw [if_pos hw]
  exact wp_append_own w s x t ho base e i z size bytes ht hi hz hsize hby hzs hsz v n xs hs hown ad m c news hx hl hnews h1 h63 hbytes hbase h
theorem own_only {w w' : World} {base n size g0 : Nat} {e : TypeId} {v : Value} {xs : List Value} (h : w.ownsRow base e size v n xs) (o : Only g0 w w') (hg : g0 < base) : w'.ownsRow base e size v n xs := by
  refine ⟨h.1, ?_⟩
  rcases h.2 with h2 | ⟨g, cap, cur, e1, e2, e3, r⟩
  · exact .inl h2
  · exact .inr ⟨g, cap, cur, e1, e2, (o.block g (by omega)).trans e3, r⟩
set_option maxHeartbeats 6400000 in
set_option maxRecDepth 100000 in
theorem back_at (a b M : Int) (t : Nat) (A : Option Addr) (cap : Nat) (l : List Int) (w : World) (ha : 0 ≤ a) (ha' : a ≤ 255) (hb : 0 ≤ b) (hb' : b ≤ 255) (ht' : t ≤ 255) (hM0 : 1 ≤ M) (hM1 : M ≤ 320) (hMe : Hid (mostAt a b = M))
    (hl : l.length ≤ 60) (hw : Hid (∀ x ∈ l, 0 ≤ x ∧ x ≤ 255)) (hA : Hid (IntsAt .u8 w w.heap.size A l)) :
    Calls Try.prog 4 #[.int .u8 a, .int .u8 b, .slice A l.length cap, .int .u8 t] w fun e w' => e = .returned (.bool true) ∧ Below w.heap.size w w' := by
  obtain ⟨i0, hi0, hz0, hz1, hz2⟩ := info_parts infoI
  go_enter Try.func4, Try.ntmps4
  go_wp2_with fail
  refine (awake_ok _).mono ?_
  rintro e w1 ⟨rfl, hb1⟩
  go_wp2_with fail
  refine (shape_any a b _ ha ha' hb hb').mono ?_
  rintro e w2 ⟨rfl, hb2⟩
  go_wp2_with fail
  refine (new_shape a b _).mono ?_
  rintro e w3 ⟨g0, rfl, hg, H1, hb3⟩
  have s1 := hb1.size
  have s2 := hb2.size
  have hgw : w.heap.size ≤ g0 := by omega
  have B3 : Below w.heap.size w w3 := (hb1.trans (hb2.mono (by omega))).trans (hb3.mono (by omega))
  rw [hMe.out] at H1
  clear hb1 hb2 hb3 s1 s2 hg
  go_wp2_with fail
  go_loopw [10, 26] (fun v i wr => GotRel w.heap.size g0 M l w v i wr) (fun _ i _ => l.length - (intOf i).toNat)
  case atStart => exact ⟨0, by omega, rfl, ⟨rfl, .inl ⟨rfl, rfl⟩⟩, H1, B3⟩
  case round =>
    obtain ⟨k, hk, rfl, hown, H4, B4⟩ := hrel
    have hltg := H4.lt
    by_cases c1 : k < l.length
    · obtain ⟨bb, off, rfl, hbl, hck⟩ := (hA.out.below B4).get k c1
      have hx := hw.out _ (List.getElem_mem c1)
      have E := Lib.hid (takeL_at l k c1)
      have hS := got_sum M (l.take k) 0 (by omega)
      have hS0 := (sumL_bd (got M 0 (l.take k)) (fun x hx => hw.out x (List.mem_of_mem_take (got_mem M _ _ x hx)))).1
      have hgl := got_len M (l.take k) 0
      have htl : (l.take k).length ≤ 60 := by rw [List.length_take]; omega
      by_cases c2 : l[k] ≤ M - sumL (got M 0 (l.take k))
      · go_wp2_with fail
        refine (take_yes H4 (by omega) (by omega) (by omega) (by omega) (by omega)).mono ?_
        rintro e w4 ⟨rfl, H5, o5⟩
        have hown5 := own_only hown o5 (by omega)
        have B5 := B4.trans (o5.below hgw)
        have hlt5 := H5.lt
        go_wp2_with (at_builtin; refine wpList_append_own _ rfl _ _ 38 rfl (g0 + 1) 3 i0 (.int .i64 0) 1 8 Try.underlying38 hi0 hz0 hz1 hz2 rfl (by decide) _ _ _ rfl (hown5.alloc _) ⟨w4.heap.size, 0, none⟩ 1 1 [.int .i64 l[k]] rfl rfl ?c1 ?c2 ?c3 ?c4 ?c5 ?_)
        case c1 => exact World.news_of_block (cs := #[.int .i64 l[k]]) (t := 3) (fr := (0, 0)) (heap_alloc_new w4 _)
        case c2 => simp [Value.oneCell']
        case c3 => simp [maxLen]; omega
        case c4 => omega
        case c5 => simp; omega
        intro v' w5 hown6 hgrow _
        have hob := own_ge hown5
        have B6 : Below w.heap.size w w5 := (B5.alloc B5.size _).grown hgrow (by have := B5.size; simp; omega) (fun q hq => by have := hob q hq; omega)
        have H6 : IsLed w5 g0 M (sumL (got M 0 (l.take k)) + l[k]) := by
          have h1 : IsLed (w4.alloc (.cells #[.int .i64 l[k]] 3)) g0 M (sumL (got M 0 (l.take k)) + l[k]) := (Below.heap_alloc w4 _ g0 hlt5).trans H5
          exact (hgrow.block g0 (by simp; omega) (fun e => by have := hob g0 e.symm; omega)).trans h1
        have E2 : Hid (got M 0 (l.take (k + 1)) = got M 0 (l.take k) ++ [l[k]]) := by
          show _ = _
          rw [E.out, got_snoc, if_pos (by omega)]
        clear hgrow hob
        go_wp2
        go_roundw
        case rel => exact ⟨k + 1, by omega, by go_num, by rw [E2.out]; unfold nums at hown6 ⊢; rw [List.map_append, List.length_append]; exact hown6, by rw [E2.out, sumL_append]; simpa [sumL] using H6, B6⟩
        case measure => simp [intOf]; omega
      · have E2 : Hid (got M 0 (l.take (k + 1)) = got M 0 (l.take k)) := by
          show _ = _
          rw [E.out, got_snoc, if_neg (by omega)]
        go_wp2_with fail
        refine (take_no H4 (by omega) (by omega) (by omega) (by omega) (by omega)).mono ?_
        rintro e w4 ⟨rfl, H5, o5⟩
        have hown5 := own_only hown o5 (by omega)
        have B5 := B4.trans (o5.below hgw)
        go_wp2_with fail
        go_roundw
        case rel => exact ⟨k + 1, by omega, by go_num, by rw [E2.out]; exact hown5, by rw [E2.out]; exact H5, B5⟩
        case measure => simp [intOf]; omega
    · obtain rfl : k = l.length := by omega
      rw [List.take_length] at hown H4
      have hgs := got_sum M l 0 (by omega)
      have hgm : Hid (∀ x ∈ got M 0 l, 0 ≤ x ∧ x ≤ 255) := fun x hx => hw.out x (got_mem M l 0 x hx)
      have hgl := got_len M l 0
      generalize got M 0 l = G at *
      by_cases c2 : 0 < G.length
      · obtain ⟨g, cp, cur, rfl, hgg, hh, hn, hcap, hcs, hct⟩ := hown.2.resolve_left (fun h => by omega)
        obtain ⟨q, hq⟩ : ∃ q : Nat, q = t % G.length := ⟨_, rfl⟩
        have hq1 : q < G.length := by rw [hq]; exact Nat.mod_lt _ c2
        have HQ : Hid ((t : Int) % (G.length : Int) = (q : Int)) := by show _ = _; rw [hq]; exact (Int.natCast_emod t G.length).symm
        clear hq
        have hp0 : (0 : Int) < (G.length : Int) := by omega
        go_wp2_with fail
        rw [HQ.out]
        have e1 : (0 : Int) ≤ (q : Int) := by omega
        have e2 : (q : Int) ≤ (G.length : Int) := by omega
        have e3 : (G.length : Int) ≤ (cp : Int) := by omega
        have e4 : (q : Int) ≤ (cp : Int) := by omega
        have hcq : ¬ cp = q := by omega
        have hcq0 : ¬ cp = 0 := by omega
        have HOWN := Lib.hid hown
        have hwz := B4.size
        have fl1 : Hid ((nums ((G.drop q).take (G.length - q))).length = (G.length - q) * 1) := by show _ = _; rw [nums_len, List.length_take, List.length_drop]; omega
        have fl2 : Hid ((nums ((G.drop 0).take q)).length = q * 1) := by show _ = _; rw [nums_len, List.length_take, List.length_drop]; omega
        have fm : 0 + (G.length - q) ≤ maxLen := by simp only [maxLen]; omega
        have fm2 : 0 + (G.length - q) + q ≤ maxLen := by simp only [maxLen]; omega
        have fb : (0 + (G.length - q)) * 8 ≤ 140737488355328 := by omega
        have fb2 : (0 + (G.length - q) + q) * 8 ≤ 140737488355328 := by omega
        have fz : g0 + 1 ≤ wr.heap.size := by omega
        clear hown hh hct hcs
        go_region_held3 (fun _ => True) (exact trivial) (first
          | (refine step_own rfl (.tmp 49) (.tmp 52) 38 rfl (g0 + 1) 3 i0 (.int .i64 0) 1 8 Try.underlying38 hi0 hz0 hz1 hz2 rfl (by decide) _ 0 [] (by rfl) (zero_own _ _ fz) ⟨g, q, none⟩ (G.length - q) _ (nums ((G.drop q).take (G.length - q))) (by rfl) fl1.out (src_cells HOWN.out ((Below.refl _ _).alloc (Nat.le_refl _) _) q (G.length - q) (by omega)) (nums_one _) fm fb (by simp; omega) ?_; intro v5 w5 hown5 hgr5 hnil5; have hB5 := bel_new hgr5; have hz5 := hB5.size)
          | (refine step_own rfl (.tmp 53) (.tmp 56) 38 rfl (g0 + 1) 3 i0 (.int .i64 0) 1 8 Try.underlying38 hi0 hz0 hz1 hz2 rfl (by decide) _ _ _ (by rfl) hown5 ⟨g, 0, none⟩ q _ (nums ((G.drop 0).take q)) (by rfl) fl2.out (src_cells HOWN.out hB5 0 q (by omega)) (nums_one _) fm2 fb2 (by omega) ?_; intro v6 w6 hown6 hgr6 hnil6))
        have hge5 := own_ge hown5
        have B6 : Below w.heap.size w w6 := (B4.trans (hB5.mono B4.size)).grown hgr6 (by have := B4.size; omega) (fun p hp => by have := hge5 p hp; omega)
        have H6 : IsLed w6 g0 M (sumL G) := by
          have h5 : IsLed w5 g0 M (0 + sumL G) := by rw [Int.zero_add]; exact H4.below hB5 hltg
          rw [Int.zero_add] at h5
          exact (hgr6.block g0 (by omega) (fun e => by have := hge5 g0 e.symm; omega)).trans h5
        have hRl : (G.drop q ++ G.take q).length = G.length := by simp; omega
        have hown7 : w6.ownsRow (g0 + 1) 3 1 v6 (G.drop q ++ G.take q).length (nums (G.drop q ++ G.take q)) := by
          have e1 : 0 + (G.length - q) + q = (G.drop q ++ G.take q).length := by rw [hRl]; omega
          have e2 : [] ++ nums ((G.drop q).take (G.length - q)) ++ nums ((G.drop 0).take q) = nums (G.drop q ++ G.take q) := by
            rw [List.take_of_length_le (by simp)]; simp [nums]
          rw [e1, e2] at hown6; exact hown6
        have hRs : sumL (G.drop q ++ G.take q) = sumL G := by
          rw [sumL_append]
          have := sumL_append (G.take q) (G.drop q)
          rw [List.take_append_drop] at this; omega
        have hRm : Hid (∀ x ∈ G.drop q ++ G.take q, 0 ≤ x ∧ x ≤ 255) := fun x hx => by
          rcases List.mem_append.1 hx with h | h
          · exact hgm.out x (List.mem_of_mem_drop h)
          · exact hgm.out x (List.mem_of_mem_take h)
        rw [← hRs] at H6
        have hR0 : 0 < (G.drop q ++ G.take q).length := by omega
        have hR60 : (G.drop q ++ G.take q).length ≤ 60 := by omega
        have hRM : sumL (G.drop q ++ G.take q) ≤ M := by omega
        clear hown6 hgr6 hnil6 hge5 hgr5 hown5 hnil5 hB5 HOWN fl1 fl2 fm fm2 fb fb2 H4 B4 e1 e2 e3 e4 HQ hRs hRl hgs hgm hcq hcq0 hn hcap hgg hq1
        generalize G.drop q ++ G.take q = R at *
        obtain ⟨g6, cp6, cur6, rfl, hg6, hh6, hn6, hcap6, hcs6, hct6⟩ := hown7.2.resolve_left (fun h => by omega)
        clear hh6 hcs6 hct6
        go_wp2_with fail
        go_loopw [60] (fun i wr => GiveRel w.heap.size g0 M (.slice (some ⟨g6, 0, none⟩) R.length cp6) R w i wr) (fun i _ => R.length - (intOf i).toNat)
        case atStart => exact ⟨0, by omega, rfl, hown7, by rw [List.drop_zero]; exact H6, B6⟩
        case round =>
          obtain ⟨k, hk, rfl, hown8, H7, B7⟩ := hrel
          by_cases c : k < R.length
          · have hck : wr.cell? ⟨g6, k, none⟩ = some (.int .i64 R[k]) := by
              rw [hown8.cellAt k (by omega)]; simp [nums, List.getElem?_eq_getElem c]
            have hx := hRm.out _ (List.getElem_mem c)
            have hd : sumL (R.drop k) = R[k] + sumL (R.drop (k + 1)) := by rw [List.drop_eq_getElem_cons c]; rfl
            have hs := sumL_bd (R.drop (k + 1)) (fun x hx => hRm.out x (List.mem_of_mem_drop hx))
            have hall := sumL_append (R.take k) (R.drop k)
            rw [List.take_append_drop] at hall
            have hs2 := sumL_bd (R.take k) (fun x hx => hRm.out x (List.mem_of_mem_take hx))
            rw [hd] at H7
            have HD := Lib.hid hd
            have hfin : R[k] + sumL (R.drop (k + 1)) ≤ M := by omega
            clear hd hall hs2
            go_wp2_with fail
            refine (give_yes H7 (by omega) (by omega) (by omega) (by omega) (by omega)).mono ?_
            rintro e w8 ⟨rfl, H8, o8⟩
            go_wp2_with fail
            go_roundw
            case rel => exact ⟨k + 1, by omega, by go_num, own_only hown8 o8 (by omega), by rw [show sumL (R.drop (k + 1)) = R[k] + sumL (R.drop (k + 1)) - R[k] by omega]; exact H8, B7.trans (o8.below hgw)⟩
            case measure => simp [intOf]; omega
          · obtain rfl : k = R.length := by omega
            rw [List.drop_length] at H7
            have H7 : IsLed wr g0 M 0 := H7
            go_wp2_with fail
            refine (live_at H7 0 (by first | rfl | omega)).mono ?_
            rintro e w' ⟨rfl, rfl⟩
            go_wp2_with fail
            refine (room_at H7 (by omega) (by omega) (by omega) M (by omega)).mono ?_
            rintro e w' ⟨rfl, rfl⟩
            go_wp2_with fail
            refine (most_some _ _ _ _ H7).mono ?_
            rintro e w' ⟨rfl, rfl⟩
            go_wp2_with fail
            refine (give_at H7 (by omega) (by omega) (by omega) 2 0 (by decide) (by decide)).mono ?_
            rintro e w9 ⟨rfl, H9, o9⟩
            go_wp2_with fail
            go_ret
            exact ⟨rfl, B7.trans (o9.below hgw)⟩
      · have hG : G = [] := List.eq_nil_of_length_eq_zero (by omega)
        subst hG
        have H7 : IsLed wr g0 M 0 := H4
        have B7 := B4
        rcases hown.2 with ⟨rfl, _⟩ | ⟨g, cp, cur, rfl, _⟩
        · go_wp2_with fail
          refine wp_loop_rounds 1 ?_
          rw [rounds_succ]
          go_wp2_with fail
          refine (live_at H7 0 (by first | rfl | omega)).mono ?_
          rintro e w' ⟨rfl, rfl⟩
          go_wp2_with fail
          refine (room_at H7 (by omega) (by omega) (by omega) M (by omega)).mono ?_
          rintro e w' ⟨rfl, rfl⟩
          go_wp2_with fail
          refine (most_some _ _ _ _ H7).mono ?_
          rintro e w' ⟨rfl, rfl⟩
          go_wp2_with fail
          refine (give_at H7 (by omega) (by omega) (by omega) 2 0 (by decide) (by decide)).mono ?_
          rintro e w9 ⟨rfl, H9, o9⟩
          go_wp2_with fail
          go_ret
          exact ⟨rfl, B7.trans (o9.below hgw)⟩
        · go_wp2_with fail
          refine wp_loop_rounds 1 ?_
          rw [rounds_succ]
          go_wp2_with fail
          refine (live_at H7 0 (by first | rfl | omega)).mono ?_
          rintro e w' ⟨rfl, rfl⟩
          go_wp2_with fail
          refine (room_at H7 (by omega) (by omega) (by omega) M (by omega)).mono ?_
          rintro e w' ⟨rfl, rfl⟩
          go_wp2_with fail
          refine (most_some _ _ _ _ H7).mono ?_
          rintro e w' ⟨rfl, rfl⟩
          go_wp2_with fail
          refine (give_at H7 (by omega) (by omega) (by omega) 2 0 (by decide) (by decide)).mono ?_
          rintro e w9 ⟨rfl, H9, o9⟩
          go_wp2_with fail
          go_ret
          exact ⟨rfl, B7.trans (o9.below hgw)⟩
set_option maxHeartbeats 400000 in
theorem back_long (a b t : Int) (A : Option Addr) (n cap : Nat) (w : World) (hn : 60 < n) (hn' : n ≤ 9223372036854775807) :
    Calls Try.prog 4 #[.int .u8 a, .int .u8 b, .slice A n cap, .int .u8 t] w fun e w' => e = .returned (.bool true) ∧ Below w.heap.size w w' := by
  go_enter Try.func4, Try.ntmps4
  go_wp2_with fail
  refine (awake_ok _).mono ?_
  rintro e w1 ⟨rfl, hb1⟩
  go_wp2_with fail
  go_ret
  exact ⟨rfl, hb1⟩
theorem back_ok (a b t : Int) (A : Option Addr) (len cap : Nat) (zs : List Int) (w : World) (ha : 0 ≤ a) (ha' : a ≤ 255) (hb : 0 ≤ b) (hb' : b ≤ 255) (ht : 0 ≤ t) (ht' : t ≤ 255)
    (h : (A = none ∧ len = 0 ∧ cap = 0 ∧ zs = []) ∨ ∃ x, A = some x ∧ len ≤ cap ∧ cap ≤ maxLen ∧ zs.length = cap ∧ (∀ i, i < zs.length → w.cell? (x.add i) = some (.int .u8 (zs.getD i 0))) ∧ ∀ n ∈ zs, (Lit.int .u8 n).wf = true) :
    Calls Try.prog 4 #[.int .u8 a, .int .u8 b, .slice A len cap, .int .u8 t] w fun e w' => e = .returned (.bool true) ∧ Below w.heap.size w w' := by
  obtain ⟨l, rfl, hA, hm, hwf⟩ := intsAt_of h
  obtain ⟨n, rfl⟩ : ∃ n : Nat, t = n := ⟨t.toNat, by omega⟩
  by_cases c : l.length ≤ 60
  · exact back_at a b (mostAt a b) n A cap l w ha ha' hb hb' (by omega) (mostAt_bd a b).1 (by have := (mostAt_bd a b).2; omega) rfl c (fun x hx => wf8 (hwf x hx)) hA
  · exact back_long a b n A l.length cap w (by omega) (by unfold maxLen at hm; omega)
end Go.Proofs.Ytcflobbgnicncaa.L
