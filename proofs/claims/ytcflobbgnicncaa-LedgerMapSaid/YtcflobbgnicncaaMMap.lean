/- The walk of LedgerMap. -/
import Derived.Test.YtcflobbgnicncaaMWalks
namespace Go.Proofs.Ytcflobbgnicncaa.L
open Go.RowKit Go.Maps Go.Proofs.YtcflobbgnicncaaW.PrintWords Go.Proofs.YtcflobbgnicncaaW.PrintMore
set_option linter.unusedVariables false
set_option linter.unusedSimpArgs false
def MapRel (w : World) (l : List (Bool × Int)) (B g m bm bl q : Nat) (a b M : Int) (next i : Value) (wr : World) : Prop :=
  ∃ (k : Nat) (n live : Int) (D1 D2 : Dm), i = .int .i64 k ∧ next = .int .u64 n ∧ k ≤ l.length ∧ 1 ≤ n ∧ n ≤ k + 1 ∧ 0 ≤ live ∧ live ≤ M ∧ IsLed wr g M live ∧ EM wr B m bm bl a b (5 * k) D1 D2 ∧ MInv a b D1 D2 n live (5 * k) ∧
    wr.heap[q]? = some (.cells #[.int .i64 a, .int .i64 b] 23 (0, 0)) ∧ Below w.heap.size w wr
def Done (w W : World) (B g m bm bl q : Nat) (a b M : Int) (k : Nat) (nn lv : Int) (E1 E2 : Dm) : Prop :=
  IsLed W g M lv ∧ EM W B m bm bl a b (5 * (k + 1)) E1 E2 ∧ MInv a b E1 E2 nn lv (5 * ((k : Int) + 1)) ∧ W.heap[q]? = some (.cells #[.int .i64 a, .int .i64 b] 23 (0, 0)) ∧ Below w.heap.size w W ∧ 0 ≤ lv ∧ lv ≤ M ∧ 1 ≤ nn ∧ nn ≤ (k : Int) + 2
theorem MInv.mono {a b : Int} {D1 D2 : Dm} {next live K K' : Int} (h : MInv a b D1 D2 next live K) (hk : K ≤ K') : MInv a b D1 D2 next live K' := ⟨h.size, h.sum, fun s => by have := h.bnd s; omega, h.keys, h.ats⟩
theorem sumLv_bd {D : Dm} {K : Int} (h : Bnd D K) (hK : 0 ≤ K) : ∀ S : Nat, -((S : Int) * K) ≤ sumLv D S ∧ sumLv D S ≤ (S : Int) * K
  | 0 => by simp [sumLv]
  | S + 1 => by
    have ih := sumLv_bd h hK S
    have hb := h (S : Int)
    have e : ((S + 1 : Nat) : Int) * K = (S : Int) * K + K := by rw [Int.natCast_add, Int.add_mul]; simp
    simp only [sumLv]
    omega
theorem u64_nonneg (v : Int) : 0 ≤ IntKind.u64.wrap v := by simp [IntKind.wrap, IntKind.bits, IntKind.signed]; omega
theorem u64_id {v : Int} (h0 : 0 ≤ v) (h1 : v ≤ 18446744073709551615) : IntKind.u64.wrap v = v := by simp [IntKind.wrap, IntKind.bits, IntKind.signed]; omega
theorem tmod_in {u c : Int} (h : 0 ≤ u) (hc : 1 ≤ c) : ∃ t, u.tmod c = t ∧ 0 ≤ t ∧ t < c := ⟨_, rfl, by rw [Int.tmod_eq_emod_of_nonneg h]; exact Int.emod_nonneg _ (by omega), by rw [Int.tmod_eq_emod_of_nonneg h]; exact Int.emod_lt_of_pos _ (by omega)⟩
theorem bel_drewN' (B : Nat) (w : World) {n : Nat} : Below B w (w.drewN n) := ⟨rfl, rfl, rfl, Nat.le_refl _, fun _ _ => rfl⟩
theorem bel_undrew {w w' : World} (h : Below w.drew.heap.size w.drew w') : Below w.heap.size w w' := (bel_drewN' w.heap.size w (n := 1)).trans h
theorem EM.base {w : World} {B B' m bm bl N : Nat} {a b : Int} {D1 D2 : Dm} (h : EM w B m bm bl a b N D1 D2) (hB : B' ≤ B) : EM w B' m bm bl a b N D1 D2 :=
  ⟨Nat.le_trans hB h.m0, Nat.le_trans hB h.m1, Nat.le_trans hB h.m2, h.n1, h.n2, h.n3, h.hm, h.o1, h.o2⟩
/-- Behind both News. -/
structure LM0 (W3 W : World) (g m bm bl : Nat) (a b M : Int) : Prop where
  led : IsLed W g M 0
  em : EM W W3.heap.size m bm bl a b 0 (.map []) (.map [])
  g0 : W3.heap.size ≤ g
  g1 : g ≠ m
  g2 : g ≠ bm
  g3 : g ≠ bl
  bel : Below W3.heap.size W3 W
theorem lm_le {W3 w4 w5 : World} {g m bm bl : Nat} {a b M : Int} (hg : W3.heap.size ≤ g) (hl : IsLed w4 g M 0) (h4 : Below W3.heap.size W3 w4) (he : EM w5 w4.heap.size m bm bl a b 0 (.map []) (.map [])) (h5 : Below w4.heap.size w4 w5) : LM0 W3 w5 g m bm bl a b M := by
  have q := hl.lt
  have q0 := he.m0
  have q1 := he.m1
  have q2 := he.m2
  exact ⟨hl.below h5 q, he.base h4.size, hg, by omega, by omega, by omega, h4.trans (h5.mono h4.size)⟩
theorem lm_el {W3 w4 w5 : World} {g m bm bl : Nat} {a b M : Int} (hg : w5.heap.size ≤ g) (hl : IsLed w4 g M 0) (h4 : Below w5.heap.size w5 w4) (he : EM w5 W3.heap.size m bm bl a b 0 (.map []) (.map [])) (h5 : Below W3.heap.size W3 w5) : LM0 W3 w4 g m bm bl a b M := by
  have q0 := he.lt
  have q1 := he.o1.lt
  have q2 := he.o2.lt
  have z := h5.size
  exact ⟨hl, he.below h4, by omega, by omega, by omega, by omega, h5.trans (h4.mono z)⟩
set_option maxHeartbeats 6400000 in
set_option maxRecDepth 100000 in
theorem map_at (a b M : Int) (u v : Int) (A : Option Addr) (cap : Nat) (l : List (Bool × Int)) (w : World) (hu0 : 0 ≤ u) (hu1 : u ≤ 255) (hv0 : 0 ≤ v) (hv1 : v ≤ 255) (ha : segsOf u = a) (hb : sizeOf' v = b) (hM : mostAt u v = M) (hl : l.length ≤ 60) (hA : ActsAt w w.heap.size A l) (hR : ∀ x ∈ l, -9223372036854775808 ≤ x.2 ∧ x.2 ≤ 9223372036854775807) :
    Calls Try.prog 10 #[.int .u8 u, .int .u8 v, .slice A l.length cap] w fun e w' => e = .returned (.bool true) ∧ Below w.heap.size w w' := by
  have HA := Lib.hid hA
  have HR := Lib.hid hR
  have hS : okS a b := by subst ha hb; exact shape_ok u v
  have hMb : 1 ≤ M ∧ M ≤ 320 := by subst hM; exact mostAt_bd u v
  have HSh : Hid (∀ W, Calls Try.prog 21 #[.int .u8 u, .int .u8 v] W fun e w' => e = .returned (.agg #[.int .i64 a, .int .i64 b]) ∧ Below W.heap.size W w') := fun W => by subst ha hb; exact shape_any u v W hu0 hu1 hv0 hv1
  have HNw : Hid (∀ W, Calls Try.prog 12 #[.agg #[.int .i64 a, .int .i64 b]] W fun e w' => ∃ g, e = .returned (.pointer (some ⟨g, 0, none⟩)) ∧ W.heap.size ≤ g ∧ IsLed w' g M 0 ∧ Below W.heap.size W w') := fun W => by subst ha hb hM; exact new_shape u v W
  have hS' := hS
  unfold okS at hS'
  have hab := mulb (i := a) (b := b) (by omega) (by omega) (by omega) (by omega)
  have hab1 : 1 ≤ a * b := by have := Int.mul_le_mul (show (1 : Int) ≤ a by omega) (show (1 : Int) ≤ b by omega) (by omega) (by omega : (0 : Int) ≤ a); omega
  have HSS := Lib.hid hS
  obtain ⟨sa0, sa1, sb0, sb1⟩ := hS'
  clear hA hR ha hb hM hS
  go_enter Try.func10, Try.ntmps10
  go_wp2_with fail
  refine (awake_ok _).mono ?_
  rintro e w1 ⟨rfl, hb1⟩
  go_wp2_with fail
  refine (HSh.out _).mono ?_
  rintro e w2 ⟨rfl, hb2⟩
  have B2 := hb1.trans (hb2.mono hb1.size)
  go_wp2_with fail
  have B3 := B2.alloc (by have := hb1.size; have := hb2.size; omega) (.cells #[.int .i64 a, .int .i64 b] 23)
  have hq := heap_alloc_new w2 (.cells #[.int .i64 a, .int .i64 b] 23)
  have hql : w2.heap.size < (w2.alloc (.cells #[.int .i64 a, .int .i64 b] 23)).heap.size := by simp
  generalize w2.alloc (.cells #[.int .i64 a, .int .i64 b] 23) = W3 at *
  generalize w2.heap.size = q at *
  have c0 : W3.cell? ⟨q, 0, none⟩ = some (.int .i64 a) := by simp only [World.cell?, hq]; rfl
  have c1 : W3.cell? ⟨q, 1, none⟩ = some (.int .i64 b) := by simp only [World.cell?, hq]; rfl
  go_region_held3 (fun w' => w'.cell? ⟨q, 0, none⟩ = some (.int .i64 a) ∧ w'.cell? ⟨q, 1, none⟩ = some (.int .i64 b)) (go_keep)
    (first
    | (go_at_call 12; refine (HNw.out _).mono ?_; rintro e w4 ⟨g, rfl, hg, hled, hb4⟩; have l4 : q < w4.heap.size := Nat.lt_of_lt_of_le (by first | exact hql | exact l5) hb4.size; have t4 : w4.cell? ⟨q, 0, none⟩ = some (.int .i64 a) := (hb4.cell (p := ⟨q, 0, none⟩) (by first | exact hql | exact l5)).trans (by first | exact c0 | exact t5); have s4 : w4.cell? ⟨q, 1, none⟩ = some (.int .i64 b) := (hb4.cell (p := ⟨q, 1, none⟩) (by first | exact hql | exact l5)).trans (by first | exact c1 | exact s5))
    | (go_at_call 22; refine (mnew_at _ a b).mono ?_; rintro e w5 ⟨⟨m, bm, bl, rfl, hem⟩, hb5⟩; have l5 : q < w5.heap.size := Nat.lt_of_lt_of_le (by first | exact hql | exact l4) hb5.size; have t5 : w5.cell? ⟨q, 0, none⟩ = some (.int .i64 a) := (hb5.cell (p := ⟨q, 0, none⟩) (by first | exact hql | exact l4)).trans (by first | exact c0 | exact t4); have s5 : w5.cell? ⟨q, 1, none⟩ = some (.int .i64 b) := (hb5.cell (p := ⟨q, 1, none⟩) (by first | exact hql | exact l4)).trans (by first | exact c1 | exact s4)))
  have P0 : LM0 W3 w5 g m bm bl a b M := lm_le hg hled (bel_undrew hb4) hem hb5
  have hq5 := (P0.bel.block q hql).trans hq
  have B5 := B3.trans (P0.bel.mono B3.size)
  obtain ⟨P1, P2, g0, g1, g2, g3, P3⟩ := P0
  have hBz := P3.size
  have hwB := B3.size
  clear hled hb4 hem hb5 hg l4 l5 t4 t5 s4 s5 c0 c1 hq P3 B2 B3 hb1 hb2
  generalize W3.heap.size = B at *
  go_wp2_with fail
  go_loopw [10, 31] (fun next i wr => MapRel w l B g m bm bl q a b M next i wr) (fun _ i _ => (l.length - intOf i).toNat)
  case atStart => exact ⟨0, 1, 0, _, _, rfl, rfl, by omega, by omega, by omega, by omega, by omega, P1, P2, minv_new (by omega), hq5, B5⟩
  case round =>
    obtain ⟨k, n, live, D1, D2, rfl, rfl, hk, hn1, hn2, hl0, hl1, hled, hem, hinv, hqq, hbel⟩ := hrel
    have F := hbel
    have F5 := B5
    have HL := Lib.hid hled
    have HE := Lib.hid hem
    have HI := Lib.hid hinv
    have HQ := Lib.hid hqq
    have c0 : wr.cell? ⟨q, 0, none⟩ = some (.int .i64 a) := by simp only [World.cell?, hqq]; rfl
    have c1 : wr.cell? ⟨q, 1, none⟩ = some (.int .i64 b) := by simp only [World.cell?, hqq]; rfl
    have lq := (Array.getElem?_eq_some_iff.1 hqq).1
    clear hled hem hinv hqq
    by_cases cc : k < l.length
    · obtain ⟨ab, off, rfl, hlt, hcs⟩ := HA.out (by omega)
      have y1 := (F.cell (p := ⟨ab, off + k * 2, none⟩) hlt).trans (hcs k cc).1
      have y2 := (F.cell (p := ⟨ab, off + k * 2 + 1, none⟩) hlt).trans (hcs k cc).2
      have rg := HR.out _ (List.getElem_mem cc)
      have e1 : (0 : Int) ≤ (k : Int) := by omega
      have e2 : (k : Int) < (l.length : Int) := by omega
      have zab : ab < wr.heap.size := Nat.lt_of_lt_of_le hlt F.size
      clear hcs
      generalize l[k].1 = out at *
      generalize l[k].2 = vN at *
      cases out
      · have hUw : 0 ≤ IntKind.u64.wrap vN := u64_nonneg vN
        obtain ⟨t, ht, ht0, ht1⟩ := tmod_in hUw hab1
        have hA2 : okAt a b (2 + t) := ⟨by omega, by omega⟩
        have F0 := F.alloc F.size (.cells #[.bool false, .int .i64 vN] 32)
        have fr0 : Below wr.heap.size wr (wr.alloc (.cells #[.bool false, .int .i64 vN] 32)) := (Below.refl _ _).alloc (Nat.le_refl _) _
        have zb := heap_alloc_new wr (.cells #[.bool false, .int .i64 vN] 32)
        have zlt : wr.heap.size < (wr.alloc (.cells #[.bool false, .int .i64 vN] 32)).heap.size := by simp
        go_wp2_with fail
        clear ht
        replace HL := Lib.hid (HL.out.below fr0 HL.out.lt)
        replace HE := Lib.hid (HE.out.below fr0)
        replace HQ := Lib.hid ((fr0.block q lq).trans HQ.out)
        generalize wr.alloc (.cells #[.bool false, .int .i64 vN] 32) = W0 at *
        generalize wr.heap.size = qb at *
        clear fr0 F zab y1 y2
        by_cases ct : live + 1 ≤ M
        · refine (take_yes HL.out hl0 hl1 (by omega) (n := 1) (by omega) (by omega)).mono ?_
          rintro e w6 ⟨rfl, hl6, ho6⟩
          have HE6 := Lib.hid (HE.out.only ho6 (Ne.symm g1) (Ne.symm g2) (Ne.symm g3))
          have hl6' := Lib.hid hl6
          have fq := Lib.hid ((ho6.block q (by omega)).trans HQ.out)
          have F6 := F0.trans ((ho6.below g0).mono (by omega))
          clear hl6
          go_wp2_with fail
          refine (put_at HE6.out HSS.out (by omega) n (2 + t) (by omega) (by omega) hA2 HI.out.fresh HI.out.bnd (by omega)).mono ?_
          rintro e w7 ⟨rfl, he7, hf7⟩
          have DN : Done w w7 B g m bm bl q a b M k (n + 1) (live + 1) _ _ := ⟨hl6'.out.frm hf7 g2 g3, he7.mono (by omega), (HI.out.put (HE6.out.o1.tidy lawU) HE6.out.o2.isMap (2 + t) _ hA2 (segOf_in HSS.out hA2.1 hA2.2)).mono (by omega), (hf7.block q (by have := Array.getElem?_eq_some_iff.1 fq.out; exact this.1) (by have := HE6.out.m1; omega) (by have := HE6.out.m2; omega)).trans fq.out, F6.trans (hf7.below (by have := HE6.out.m1; have := F5.size; omega) (by have := HE6.out.m2; have := F5.size; omega) F6.size), by omega, by omega, by omega, by omega⟩
          generalize (D1.put (kU n) (li (2 + t))) = E1 at *
          generalize (D2.put (kI (segOf b (2 + t))) (li (at_ D2 (kI (segOf b (2 + t))) + 1))) = E2 at *
          clear he7 hf7 HE6 HE HI HL hl6' HQ fq F6 F0
          obtain ⟨TL, TE, TI, TQ, TF, t0, t1, t2, t3⟩ := DN
          have TLh := Lib.hid TL
          have TEh := Lib.hid TE
          have TIh := Lib.hid TI
          have TQh := Lib.hid TQ
          have hz1 := TI.size
          have hz2 := TI.sum
          have x0 : w7.cell? ⟨q, 0, none⟩ = some (.int .i64 a) := by simp only [World.cell?, TQ]; rfl
          clear TL TE TI TQ
          have TS : Hid (∀ S : Nat, (S : Int) ≤ a → -64000 ≤ sumLv E2 S ∧ sumLv E2 S ≤ 64000) := fun S hS => by
            have := sumLv_bd TIh.out.bnd (by omega) S
            have h2 : (S : Int) * (5 * ((k : Int) + 1)) ≤ 64 * 1000 := Int.mul_le_mul (by omega) (by omega) (by omega) (by omega)
            omega
          go_wp2_with fail
          go_loopw [15, 88] (fun sum j wr2 => ∃ s : Nat, j = .int .i64 s ∧ (s : Int) ≤ a ∧ sum = .int .i64 (sumLv E2 s) ∧ w7 = wr2) (fun _ j _ => (a - intOf j).toNat)
          case atStart => exact ⟨0, rfl, by omega, rfl, rfl⟩
          case round =>
            obtain ⟨s, rfl, hs, rfl, rfl⟩ := hrel
            by_cases cs : (s : Int) < a
            · have q1 := TS.out s (by omega)
              have q2 := TIh.out.bnd s
              have q3 : sumLv E2 (s + 1) = sumLv E2 s + at_ E2 (kI s) := rfl
              have QV := Lib.hid (mlive_at TEh.out s (by omega) (by omega))
              have Q3 := Lib.hid q3
              clear q3
              generalize sumLv E2 s = ss at *
              generalize at_ E2 (kI s) = vv at *
              go_wp2_with fail
              refine QV.out.mono ?_
              rintro e wz ⟨rfl, rfl⟩
              go_wp2_with fail
              go_roundw
              case rel => exact ⟨s + 1, by simp, by omega, by rw [Q3.out], by first | rfl | trivial⟩
              case measure => simp [intOf]; omega
            · have hs2 : s = a.toNat := by omega
              subst hs2
              rw [hz2]
              have LV := Lib.hid (live_some g M (live + 1) w7 TLh.out)
              have MV := Lib.hid (most_some g M (live + 1) w7 TLh.out)
              have ZV := Lib.hid (mlen_at TEh.out)
              rw [hz1] at ZV
              clear hz1 hz2
              go_wp2_with fail
              refine LV.out.mono ?_
              rintro e wz ⟨rfl, rfl⟩
              go_wp2_with fail
              refine ZV.out.mono ?_
              rintro e wz ⟨rfl, rfl⟩
              go_wp2_with fail
              refine MV.out.mono ?_
              rintro e wz ⟨rfl, rfl⟩
              go_wp2_with fail
              go_roundw
              case rel => exact ⟨k + 1, (n + 1), (live + 1), _, _, by simp, rfl, by omega, t2, by omega, t0, t1, TLh.out, TEh.out, by have := TIh.out; simpa using this, TQh.out, TF⟩
              case measure => simp [intOf]; omega
        · refine (take_no HL.out hl0 hl1 (by omega) (n := 1) (by omega) (by omega)).mono ?_
          rintro e w6 ⟨rfl, hl6, ho6⟩
          have DN : Done w w6 B g m bm bl q a b M k n live D1 D2 := ⟨hl6, (HE.out.only ho6 (Ne.symm g1) (Ne.symm g2) (Ne.symm g3)).mono (by omega), HI.out.mono (by omega), (ho6.block q (by omega)).trans HQ.out, F0.trans ((ho6.below g0).mono (by omega)), by omega, by omega, by omega, by omega⟩
          clear hl6 ho6 HE HI HL HQ F0
          obtain ⟨TL, TE, TI, TQ, TF, t0, t1, t2, t3⟩ := DN
          have TLh := Lib.hid TL
          have TEh := Lib.hid TE
          have TIh := Lib.hid TI
          have TQh := Lib.hid TQ
          have hz1 := TI.size
          have hz2 := TI.sum
          have x0 : w6.cell? ⟨q, 0, none⟩ = some (.int .i64 a) := by simp only [World.cell?, TQ]; rfl
          clear TL TE TI TQ
          have TS : Hid (∀ S : Nat, (S : Int) ≤ a → -64000 ≤ sumLv D2 S ∧ sumLv D2 S ≤ 64000) := fun S hS => by
            have := sumLv_bd TIh.out.bnd (by omega) S
            have h2 : (S : Int) * (5 * ((k : Int) + 1)) ≤ 64 * 1000 := Int.mul_le_mul (by omega) (by omega) (by omega) (by omega)
            omega
          go_wp2_with fail
          go_loopw [15, 88] (fun sum j wr2 => ∃ s : Nat, j = .int .i64 s ∧ (s : Int) ≤ a ∧ sum = .int .i64 (sumLv D2 s) ∧ w6 = wr2) (fun _ j _ => (a - intOf j).toNat)
          case atStart => exact ⟨0, rfl, by omega, rfl, rfl⟩
          case round =>
            obtain ⟨s, rfl, hs, rfl, rfl⟩ := hrel
            by_cases cs : (s : Int) < a
            · have q1 := TS.out s (by omega)
              have q2 := TIh.out.bnd s
              have q3 : sumLv D2 (s + 1) = sumLv D2 s + at_ D2 (kI s) := rfl
              have QV := Lib.hid (mlive_at TEh.out s (by omega) (by omega))
              have Q3 := Lib.hid q3
              clear q3
              generalize sumLv D2 s = ss at *
              generalize at_ D2 (kI s) = vv at *
              go_wp2_with fail
              refine QV.out.mono ?_
              rintro e wz ⟨rfl, rfl⟩
              go_wp2_with fail
              go_roundw
              case rel => exact ⟨s + 1, by simp, by omega, by rw [Q3.out], by first | rfl | trivial⟩
              case measure => simp [intOf]; omega
            · have hs2 : s = a.toNat := by omega
              subst hs2
              rw [hz2]
              have LV := Lib.hid (live_some g M live w6 TLh.out)
              have MV := Lib.hid (most_some g M live w6 TLh.out)
              have ZV := Lib.hid (mlen_at TEh.out)
              rw [hz1] at ZV
              clear hz1 hz2
              go_wp2_with fail
              refine LV.out.mono ?_
              rintro e wz ⟨rfl, rfl⟩
              go_wp2_with fail
              refine ZV.out.mono ?_
              rintro e wz ⟨rfl, rfl⟩
              go_wp2_with fail
              refine MV.out.mono ?_
              rintro e wz ⟨rfl, rfl⟩
              go_wp2_with fail
              go_roundw
              case rel => exact ⟨k + 1, n, live, _, _, by simp, rfl, by omega, t2, by omega, t0, t1, TLh.out, TEh.out, by have := TIh.out; simpa using this, TQh.out, TF⟩
              case measure => simp [intOf]; omega
      · have hUw : 0 ≤ IntKind.u64.wrap vN := u64_nonneg vN
        obtain ⟨t, ht, ht0, ht1⟩ := tmod_in hUw hab1
        have hA2 : okAt a b (2 + t) := ⟨by omega, by omega⟩
        have F0 := F.alloc F.size (.cells #[.bool true, .int .i64 vN] 32)
        have fr0 : Below wr.heap.size wr (wr.alloc (.cells #[.bool true, .int .i64 vN] 32)) := (Below.refl _ _).alloc (Nat.le_refl _) _
        have zb := heap_alloc_new wr (.cells #[.bool true, .int .i64 vN] 32)
        have zlt : wr.heap.size < (wr.alloc (.cells #[.bool true, .int .i64 vN] 32)).heap.size := by simp
        obtain ⟨t', ht', ht0', ht1'⟩ := tmod_in hUw hn1
        have hw' : IntKind.u64.wrap (1 + t') = 1 + t' := u64_id (by omega) (by omega)
        go_wp2_with fail
        clear ht ht' hw'
        have zm := HE.out.o1.lt
        have zl := HE.out.o2.lt
        have zg := HL.out.lt
        replace HL := Lib.hid (HL.out.below fr0 HL.out.lt)
        replace HE := Lib.hid (HE.out.below fr0)
        replace HQ := Lib.hid ((fr0.block q lq).trans HQ.out)
        generalize wr.alloc (.cells #[.bool true, .int .i64 vN] 32) = W0 at *
        generalize wr.heap.size = qb at *
        clear fr0 F zab y1 y2
        by_cases ch : Maps.has D1 (kU (1 + t')) = true
        · have hold := HI.out.ats _ ch
          have HH := Lib.hid ch
          refine (move_yes HE.out HSS.out (by omega) (1 + t') (2 + t) (by omega) (by omega) hA2 ch hold HI.out.bnd (by omega)).mono ?_
          rintro e w6 ⟨rfl, ⟨D2a, D2b, e1', e2', he6⟩, hf6⟩
          have hi6 := HI.out.move (HE.out.o1.tidy lawU) HE.out.o2.isMap (1 + t') (2 + t) _ _ HH.out hA2 (segOf_in HSS.out hA2.1 hA2.2) (segOf_in HSS.out hold.1 hold.2) e1' e2'
          have hh6 : Maps.has (D1.put (kU (1 + t')) (li (2 + t))) (kU (1 + t')) = true := has_put_same (D := D1) (HE.out.o1.isMap) (isKey .u64 (1 + t')) (li (2 + t))
          have ha6 : at_ (D1.put (kU (1 + t')) (li (2 + t))) (kU (1 + t')) = 2 + t := at_put_same HE.out.o1.isMap .u64 _ _
          have hl6 := HL.out.frm hf6 g2 g3
          have fq := (hf6.block q (Array.getElem?_eq_some_iff.1 HQ.out).1 (by have := HE.out.m1; omega) (by have := HE.out.m2; omega)).trans HQ.out
          have fb := (hf6.block qb zlt (by omega) (by omega)).trans zb
          have F6 := F0.trans (hf6.below (by have := HE.out.m1; omega) (by have := HE.out.m2; omega) F0.size)
          have HX := Lib.hid (And.intro he6 (And.intro hi6 (And.intro hh6 (And.intro ha6 (And.intro hl6 fq)))))
          have zb1 : w6.cell? ⟨qb, 1, none⟩ = some (.int .i64 vN) := by simp only [World.cell?, fb]; rfl
          clear he6 hi6 hh6 ha6 hl6 fq fb hold HE HI HL HQ F0 e1' e2' zb hf6 HH ch
          generalize (D1.put (kU (1 + t')) (li (2 + t))) = E1 at *
          by_cases c3 : vN.tmod 3 = 0
          · have C3 : (vN.tmod 3 == 0) = true := by simpa using c3
            clear c3
            have HD := Lib.hid (drop_yes HX.out.1 HSS.out (by omega) (1 + t') (by omega) (by omega) HX.out.2.2.1 (by rw [HX.out.2.2.2.1]; exact hA2) HX.out.2.1.bnd (by omega))
            go_wp2_with fail
            refine HD.out.mono ?_
            rintro e w7 ⟨rfl, he7, hf7⟩
            have hlp := HX.out.2.1.pos (HX.out.1.o1.tidy lawU) _ HX.out.2.2.1
            have hi7 := HX.out.2.1.drop (HX.out.1.o1.tidy lawU) HX.out.1.o2.isMap (1 + t') _ HX.out.2.2.1 (segOf_in (at0 := at_ E1 (kU (1 + t'))) HSS.out (by rw [HX.out.2.2.2.1]; omega) (by rw [HX.out.2.2.2.1]; omega))
            have hl7 := HX.out.2.2.2.2.1.frm hf7 g2 g3
            have fq7 := (hf7.block q (Array.getElem?_eq_some_iff.1 HX.out.2.2.2.2.2).1 (by have := HX.out.1.m1; omega) (by have := HX.out.1.m2; omega)).trans HX.out.2.2.2.2.2
            have F7 := F6.trans (hf7.below (by have := HX.out.1.m1; omega) (by have := HX.out.1.m2; omega) F6.size)
            have HG := Lib.hid (give_yes hl7 hl0 hl1 (by omega) (n := 1) (by omega) hlp)
            have HY := Lib.hid (And.intro he7 (And.intro hi7 fq7))
            clear he7 hi7 fq7 hl7 hf7 HX F6 HD zb1
            go_wp2_with fail
            refine HG.out.mono ?_
            rintro e w8 ⟨rfl, hl8, ho8⟩
            have DN : Done w w8 B g m bm bl q a b M k n (live - 1) _ _ := ⟨hl8, (HY.out.1.only ho8 (Ne.symm g1) (Ne.symm g2) (Ne.symm g3)).mono (by omega), HY.out.2.1.mono (by omega), (ho8.block q (by omega)).trans HY.out.2.2, F7.trans ((ho8.below g0).mono (by omega)), by omega, by omega, by omega, by omega⟩
            clear hl8 ho8 HY HG F7 hlp
            generalize (E1.del (kU (1 + t'))) = E3 at *
            generalize (D2b.put (kI (segOf b (at_ E1 (kU (1 + t'))))) (li (at_ D2b (kI (segOf b (at_ E1 (kU (1 + t'))))) - 1))) = E4 at *
            obtain ⟨TL, TE, TI, TQ, TF, t0, t1, t2, t3⟩ := DN
            have TLh := Lib.hid TL
            have TEh := Lib.hid TE
            have TIh := Lib.hid TI
            have TQh := Lib.hid TQ
            have hz1 := TI.size
            have hz2 := TI.sum
            have x0 : w8.cell? ⟨q, 0, none⟩ = some (.int .i64 a) := by simp only [World.cell?, TQ]; rfl
            clear TL TE TI TQ
            have TS : Hid (∀ S : Nat, (S : Int) ≤ a → -64000 ≤ sumLv E4 S ∧ sumLv E4 S ≤ 64000) := fun S hS => by
              have := sumLv_bd TIh.out.bnd (by omega) S
              have h2 : (S : Int) * (5 * ((k : Int) + 1)) ≤ 64 * 1000 := Int.mul_le_mul (by omega) (by omega) (by omega) (by omega)
              omega
            go_wp2_with fail
            go_loopw [15, 88] (fun sum j wr2 => ∃ s : Nat, j = .int .i64 s ∧ (s : Int) ≤ a ∧ sum = .int .i64 (sumLv E4 s) ∧ w8 = wr2) (fun _ j _ => (a - intOf j).toNat)
            case atStart => exact ⟨0, rfl, by omega, rfl, rfl⟩
            case round =>
              obtain ⟨s, rfl, hs, rfl, rfl⟩ := hrel
              by_cases cs : (s : Int) < a
              · have q1 := TS.out s (by omega)
                have q2 := TIh.out.bnd s
                have q3 : sumLv E4 (s + 1) = sumLv E4 s + at_ E4 (kI s) := rfl
                have QV := Lib.hid (mlive_at TEh.out s (by omega) (by omega))
                have Q3 := Lib.hid q3
                clear q3
                generalize sumLv E4 s = ss at *
                generalize at_ E4 (kI s) = vv at *
                go_wp2_with fail
                refine QV.out.mono ?_
                rintro e wz ⟨rfl, rfl⟩
                go_wp2_with fail
                go_roundw
                case rel => exact ⟨s + 1, by simp, by omega, by rw [Q3.out], by first | rfl | trivial⟩
                case measure => simp [intOf]; omega
              · have hs2 : s = a.toNat := by omega
                subst hs2
                rw [hz2]
                have LV := Lib.hid (live_some g M (live - 1) w8 TLh.out)
                have MV := Lib.hid (most_some g M (live - 1) w8 TLh.out)
                have ZV := Lib.hid (mlen_at TEh.out)
                rw [hz1] at ZV
                clear hz1 hz2
                go_wp2_with fail
                refine LV.out.mono ?_
                rintro e wz ⟨rfl, rfl⟩
                go_wp2_with fail
                refine ZV.out.mono ?_
                rintro e wz ⟨rfl, rfl⟩
                go_wp2_with fail
                refine MV.out.mono ?_
                rintro e wz ⟨rfl, rfl⟩
                go_wp2_with fail
                go_roundw
                case rel => exact ⟨k + 1, n, (live - 1), _, _, by simp, rfl, by omega, t2, by omega, t0, t1, TLh.out, TEh.out, by have := TIh.out; simpa using this, TQh.out, TF⟩
                case measure => simp [intOf]; omega
          · have C3 : (vN.tmod 3 == 0) = false := by simpa using c3
            clear c3
            have DN : Done w w6 B g m bm bl q a b M k n live E1 D2b := ⟨HX.out.2.2.2.2.1, HX.out.1.mono (by omega), HX.out.2.1.mono (by omega), HX.out.2.2.2.2.2, F6, by omega, by omega, by omega, by omega⟩
            clear HX F6
            obtain ⟨TL, TE, TI, TQ, TF, t0, t1, t2, t3⟩ := DN
            have TLh := Lib.hid TL
            have TEh := Lib.hid TE
            have TIh := Lib.hid TI
            have TQh := Lib.hid TQ
            have hz1 := TI.size
            have hz2 := TI.sum
            have x0 : w6.cell? ⟨q, 0, none⟩ = some (.int .i64 a) := by simp only [World.cell?, TQ]; rfl
            clear TL TE TI TQ
            have TS : Hid (∀ S : Nat, (S : Int) ≤ a → -64000 ≤ sumLv D2b S ∧ sumLv D2b S ≤ 64000) := fun S hS => by
              have := sumLv_bd TIh.out.bnd (by omega) S
              have h2 : (S : Int) * (5 * ((k : Int) + 1)) ≤ 64 * 1000 := Int.mul_le_mul (by omega) (by omega) (by omega) (by omega)
              omega
            go_wp2_with fail
            go_loopw [15, 88] (fun sum j wr2 => ∃ s : Nat, j = .int .i64 s ∧ (s : Int) ≤ a ∧ sum = .int .i64 (sumLv D2b s) ∧ w6 = wr2) (fun _ j _ => (a - intOf j).toNat)
            case atStart => exact ⟨0, rfl, by omega, rfl, rfl⟩
            case round =>
              obtain ⟨s, rfl, hs, rfl, rfl⟩ := hrel
              by_cases cs : (s : Int) < a
              · have q1 := TS.out s (by omega)
                have q2 := TIh.out.bnd s
                have q3 : sumLv D2b (s + 1) = sumLv D2b s + at_ D2b (kI s) := rfl
                have QV := Lib.hid (mlive_at TEh.out s (by omega) (by omega))
                have Q3 := Lib.hid q3
                clear q3
                generalize sumLv D2b s = ss at *
                generalize at_ D2b (kI s) = vv at *
                go_wp2_with fail
                refine QV.out.mono ?_
                rintro e wz ⟨rfl, rfl⟩
                go_wp2_with fail
                go_roundw
                case rel => exact ⟨s + 1, by simp, by omega, by rw [Q3.out], by first | rfl | trivial⟩
                case measure => simp [intOf]; omega
              · have hs2 : s = a.toNat := by omega
                subst hs2
                rw [hz2]
                have LV := Lib.hid (live_some g M live w6 TLh.out)
                have MV := Lib.hid (most_some g M live w6 TLh.out)
                have ZV := Lib.hid (mlen_at TEh.out)
                rw [hz1] at ZV
                clear hz1 hz2
                go_wp2_with fail
                refine LV.out.mono ?_
                rintro e wz ⟨rfl, rfl⟩
                go_wp2_with fail
                refine ZV.out.mono ?_
                rintro e wz ⟨rfl, rfl⟩
                go_wp2_with fail
                refine MV.out.mono ?_
                rintro e wz ⟨rfl, rfl⟩
                go_wp2_with fail
                go_roundw
                case rel => exact ⟨k + 1, n, live, _, _, by simp, rfl, by omega, t2, by omega, t0, t1, TLh.out, TEh.out, by have := TIh.out; simpa using this, TQh.out, TF⟩
                case measure => simp [intOf]; omega
        · have ch' : Maps.has D1 (kU (1 + t')) = false := by simpa using ch
          refine (move_no HE.out HSS.out (1 + t') (2 + t) (by omega) (by omega) hA2 ch').mono ?_
          rintro e w6 ⟨rfl, hb6⟩
          have DN : Done w w6 B g m bm bl q a b M k n live D1 D2 := ⟨HL.out.below hb6 HL.out.lt, (HE.out.below hb6).mono (by omega), HI.out.mono (by omega), (hb6.block q (Array.getElem?_eq_some_iff.1 HQ.out).1).trans HQ.out, F0.trans (hb6.mono F0.size), by omega, by omega, by omega, by omega⟩
          clear hb6 HE HI HL HQ F0 ch ch' zb
          obtain ⟨TL, TE, TI, TQ, TF, t0, t1, t2, t3⟩ := DN
          have TLh := Lib.hid TL
          have TEh := Lib.hid TE
          have TIh := Lib.hid TI
          have TQh := Lib.hid TQ
          have hz1 := TI.size
          have hz2 := TI.sum
          have x0 : w6.cell? ⟨q, 0, none⟩ = some (.int .i64 a) := by simp only [World.cell?, TQ]; rfl
          clear TL TE TI TQ
          have TS : Hid (∀ S : Nat, (S : Int) ≤ a → -64000 ≤ sumLv D2 S ∧ sumLv D2 S ≤ 64000) := fun S hS => by
            have := sumLv_bd TIh.out.bnd (by omega) S
            have h2 : (S : Int) * (5 * ((k : Int) + 1)) ≤ 64 * 1000 := Int.mul_le_mul (by omega) (by omega) (by omega) (by omega)
            omega
          go_wp2_with fail
          go_loopw [15, 88] (fun sum j wr2 => ∃ s : Nat, j = .int .i64 s ∧ (s : Int) ≤ a ∧ sum = .int .i64 (sumLv D2 s) ∧ w6 = wr2) (fun _ j _ => (a - intOf j).toNat)
          case atStart => exact ⟨0, rfl, by omega, rfl, rfl⟩
          case round =>
            obtain ⟨s, rfl, hs, rfl, rfl⟩ := hrel
            by_cases cs : (s : Int) < a
            · have q1 := TS.out s (by omega)
              have q2 := TIh.out.bnd s
              have q3 : sumLv D2 (s + 1) = sumLv D2 s + at_ D2 (kI s) := rfl
              have QV := Lib.hid (mlive_at TEh.out s (by omega) (by omega))
              have Q3 := Lib.hid q3
              clear q3
              generalize sumLv D2 s = ss at *
              generalize at_ D2 (kI s) = vv at *
              go_wp2_with fail
              refine QV.out.mono ?_
              rintro e wz ⟨rfl, rfl⟩
              go_wp2_with fail
              go_roundw
              case rel => exact ⟨s + 1, by simp, by omega, by rw [Q3.out], by first | rfl | trivial⟩
              case measure => simp [intOf]; omega
            · have hs2 : s = a.toNat := by omega
              subst hs2
              rw [hz2]
              have LV := Lib.hid (live_some g M live w6 TLh.out)
              have MV := Lib.hid (most_some g M live w6 TLh.out)
              have ZV := Lib.hid (mlen_at TEh.out)
              rw [hz1] at ZV
              clear hz1 hz2
              go_wp2_with fail
              refine LV.out.mono ?_
              rintro e wz ⟨rfl, rfl⟩
              go_wp2_with fail
              refine ZV.out.mono ?_
              rintro e wz ⟨rfl, rfl⟩
              go_wp2_with fail
              refine MV.out.mono ?_
              rintro e wz ⟨rfl, rfl⟩
              go_wp2_with fail
              go_roundw
              case rel => exact ⟨k + 1, n, live, _, _, by simp, rfl, by omega, t2, by omega, t0, t1, TLh.out, TEh.out, by have := TIh.out; simpa using this, TQh.out, TF⟩
              case measure => simp [intOf]; omega
    · obtain rfl : k = l.length := by omega
      go_wp2_with fail
      go_ret
      exact ⟨rfl, F⟩
theorem map_long (u v : Int) (A : Option Addr) (n cap : Nat) (w : World) (hn : 60 < n) (hn' : n ≤ 9223372036854775807) :
    Calls Try.prog 10 #[.int .u8 u, .int .u8 v, .slice A n cap] w fun e w' => e = .returned (.bool true) ∧ Below w.heap.size w w' := by
  go_enter Try.func10, Try.ntmps10
  go_wp2_with fail
  refine (awake_ok _).mono ?_
  rintro e w1 ⟨rfl, hb1⟩
  go_wp2_with fail
  go_ret
  exact ⟨rfl, hb1⟩
theorem map_ok (u v : Int) (A : Option Addr) (cap : Nat) (l : List (Bool × Int)) (w : World) (hu0 : 0 ≤ u) (hu1 : u ≤ 255) (hv0 : 0 ≤ v) (hv1 : v ≤ 255) (hm : l.length ≤ maxLen) (hA : ActsAt w w.heap.size A l) (hR : ∀ x ∈ l, -9223372036854775808 ≤ x.2 ∧ x.2 ≤ 9223372036854775807) :
    Calls Try.prog 10 #[.int .u8 u, .int .u8 v, .slice A l.length cap] w fun e w' => e = .returned (.bool true) ∧ Below w.heap.size w w' := by
  by_cases c : l.length ≤ 60
  · exact map_at _ _ _ u v A cap l w hu0 hu1 hv0 hv1 rfl rfl rfl c hA hR
  · exact map_long u v A l.length cap w (by omega) (by unfold maxLen at hm; omega)
end Go.Proofs.Ytcflobbgnicncaa.L
