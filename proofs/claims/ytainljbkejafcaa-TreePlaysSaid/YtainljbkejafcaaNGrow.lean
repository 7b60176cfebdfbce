/- The walk of grow. -/
import Derived.Test.YtainljbkejafcaaNRoot
namespace Go.Proofs.Ytainljbkejafcaa.N
open Go.RowKit Go.Proofs.YtainljbkejafcaaW.PrintMore Go.Proofs.YtainljbkejafcaaW.PrintWords
set_option linter.unusedVariables false
set_option linter.unusedSimpArgs false
def RootPost (w : World) (l : List Ent) (e : Ending) (w' : World) : Prop := ∃ r, e = .returned (.pointer r) ∧ RootAt w' r l ∧ Below w.heap.size w w'
/-- Put on a root. -/
def PutRoot (w : World) (l : List Ent) (e : Ending) (w' : World) : Prop := ∃ h lo n had, NdsPost w h lo l (PutR n had) e w' ∧ 0 < lo ∧ (0 < h → 2 ≤ lo) ∧ lo ≤ 2 ∧ (lo = min n 2)
theorem put_root {w : World} {r : Option Addr} {l : List Ent} (hr : RootAt w r l) (ha : Asc l) (k : Sp) (v : Int) :
    Calls Try.prog 33 #[.pointer r, .agg #[.int .i64 k.br, .int .i64 k.vol, .int .i64 k.blk, .int .u64 k.num], .int .u64 v] w (PutRoot w (insE k v l)) := by
  rcases hr with ⟨rfl, rfl⟩ | ⟨q, h, n, rfl, hn, h0, h2, h4⟩
  · refine (put_nil k v w).mono fun e w' hp => ⟨0, 1, 1, false, ?_, by omega, fun h => by omega, by omega, by omega⟩
    exact leaf_one (l := []) (l' := [(k, v)]) hp rfl rfl 1 (by simp) (by simp) _ (.inl rfl)
  · exact (put_nd k v h hn h0 h2 h4 ha).mono fun e w' hp => ⟨h, _, n, _, hp, by omega, fun hh => by have := h2 hh; omega, by omega, rfl⟩
/-- A new root over two nodes. -/
theorem over_two {w1 W : World} {kb pb nb q1 q2 h n1 n2 : Nat} {m1 m2 : List Ent} (hk : W.heap[kb]? = some (.cells #[.int .i64 (hd m1).br, .int .i64 (hd m1).vol, .int .i64 (hd m1).blk, .int .u64 (hd m1).num, .int .i64 (hd m2).br, .int .i64 (hd m2).vol, .int .i64 (hd m2).blk, .int .u64 (hd m2).num] 26 (0, 0)))
    (hp : W.heap[pb]? = some (.cells #[.pointer (some ⟨q1, 0, none⟩), .pointer (some ⟨q2, 0, none⟩)] 36 (0, 0))) (hn : W.heap[nb]? = some (.cells #[.slice (some ⟨kb, 0, none⟩) 2 2, .slice none 0 0, .slice (some ⟨pb, 0, none⟩) 2 2] 39 (0, 0))) (hb : Below w1.heap.size w1 W)
    (h1 : Nd w1 h q1 m1 n1) (h2 : Nd w1 h q2 m2 n2) (a1 : 2 ≤ n1 ∧ n1 ≤ 4) (a2 : 2 ≤ n2 ∧ n2 ≤ 4) : Nd W (h + 1) nb (m1 ++ m2) 2 := by
  refine nd_succ.2 ⟨[q1, q2], [m1, m2], rfl, by simp, ⟨some ⟨kb, 0, none⟩, 2, some ⟨pb, 0, none⟩, 2, hn, fun _ => ⟨kb, 0, rfl, (Array.getElem?_eq_some_iff.1 hk).1, fun j hj => ?_⟩, fun _ => ⟨pb, 0, rfl, (Array.getElem?_eq_some_iff.1 hp).1, fun j hj => ?_⟩, by simp, by simp [maxLen], by simp, by simp [maxLen], rfl, by simp⟩, ⟨n1, a1.1, a1.2, h1.below hb⟩, ⟨n2, a2.1, a2.2, h2.below hb⟩, trivial⟩
  · have hj' : j < 2 := by simpa using hj
    match j, hj' with
    | 0, _ => exact ⟨by simp only [World.cell?, hk]; rfl, by simp only [World.cell?, hk]; rfl, by simp only [World.cell?, hk]; rfl, by simp only [World.cell?, hk]; rfl⟩
    | 1, _ => exact ⟨by simp only [World.cell?, hk]; rfl, by simp only [World.cell?, hk]; rfl, by simp only [World.cell?, hk]; rfl, by simp only [World.cell?, hk]; rfl⟩
  · have hj' : j < 2 := by simpa using hj
    match j, hj' with
    | 0, _ => simp only [World.cell?, hp]; rfl
    | 1, _ => simp only [World.cell?, hp]; rfl
set_option maxHeartbeats 3200000 in
set_option maxRecDepth 100000 in
theorem grow_at {w : World} {r : Option Addr} {l : List Ent} (hr : RootAt w r l) (ha : Asc l) (k : Sp) (v : Int) :
    Calls Try.prog 30 #[.pointer r, .agg #[.int .i64 k.br, .int .i64 k.vol, .int .i64 k.blk, .int .u64 k.num], .int .u64 v] w (RootPost w (insE k v l)) := by
  have HP : Hid (∀ X, Below w.heap.size w X → Calls Try.prog 33 #[.pointer r, .agg #[.int .i64 k.br, .int .i64 k.vol, .int .i64 k.blk, .int .u64 k.num], .int .u64 v] X (PutRoot X (insE k v l))) := fun X hX => put_root (hr.below hX) ha k v
  clear hr ha
  go_enter Try.func30, Try.ntmps30
  go_wp2_with fail
  have hbw : Below w.heap.size w (w.alloc (.cells #[.int .i64 k.br, .int .i64 k.vol, .int .i64 k.blk, .int .u64 k.num] 26)) := (Below.refl _ _).alloc (Nat.le_refl _) _
  generalize w.alloc (.cells #[.int .i64 k.br, .int .i64 k.vol, .int .i64 k.blk, .int .u64 k.num] 26) = W at *
  refine (HP.out _ hbw).mono ?_
  rintro e w1 ⟨h, lo, n, had, ⟨s, ns, ls, rfl, t1, t2, t3, t4, t5, t6, t7⟩, l0, l2, l3, l4⟩
  have HB := Lib.hid (hbw.trans (t7.mono hbw.size))
  clear hbw t7 HP
  rcases t6 with h1 | ⟨h1, hn4, _⟩
  · match ns, ls, t4, h1 with
    | [q], [m], t4, _ =>
      have L4 := Lib.hid l4
      clear l4
      obtain ⟨x, x1, x2, x3⟩ := t4.1
      have c0 := t3 0 (by simp)
      have HX := Lib.hid x3
      have HT := Lib.hid t5
      clear t3 x3 t5 t4
      simp only [List.getElem_cons_zero, List.length_singleton] at c0 ⊢
      go_wp2_with fail
      go_ret
      exact ⟨_, rfl, .inr ⟨q, h, x, rfl, by rw [← HT.out]; simpa using HX.out, by omega, fun hh => by have := l2 hh; omega, x2⟩, HB.out⟩
  · match ns, ls, t4, h1 with
    | [q1, q2], [m1, m2], t4, _ =>
      obtain ⟨⟨x, x1, x2, x3⟩, ⟨y, y1, y2, y3⟩, _⟩ := t4
      have c0 := t3 0 (by simp)
      have c1 := t3 1 (by simp)
      simp only [List.getElem_cons_zero, List.getElem_cons_succ, List.length_cons, List.length_nil] at c0 c1 ⊢
      have hlo : lo = 2 := by omega
      subst hlo
      clear l4 hn4 h1 l0 l3
      obtain ⟨k1, ⟨A1, ca1, kc1, p1, sp1, ea1, eb1⟩, kl1, kh1⟩ := x3.keys
      subst kl1
      obtain ⟨k2, ⟨A2, ca2, kc2, p2, sp2, ea2, eb2⟩, kl2, kh2⟩ := y3.keys
      subst kl2
      obtain ⟨b1, o1, rfl, bl1, bc1⟩ := sp1 (by omega)
      obtain ⟨b2, o2, rfl, bl2, bc2⟩ := sp2 (by omega)
      obtain ⟨u0, u1, u2, u3⟩ := bc1 0 (by omega)
      obtain ⟨v0, v1, v2, v3⟩ := bc2 0 (by omega)
      rw [kh1 (by omega)] at u0 u1 u2 u3
      rw [kh2 (by omega)] at v0 v1 v2 v3
      simp only [Nat.zero_mul, Nat.add_zero] at u0 u1 u2 u3 v0 v1 v2 v3
      have HX := Lib.hid x3
      have HY := Lib.hid y3
      have HT := Lib.hid t5
      have r1 : ((k1.length : Int) == 0) = false := by rw [beq_eq_false_iff_ne]; omega
      have r2 : ((k2.length : Int) == 0) = false := by rw [beq_eq_false_iff_ne]; omega
      have r3 : (0 : Int) < (k1.length : Int) := by omega
      have r4 : (0 : Int) < (k2.length : Int) := by omega
      have HD := Lib.hid (And.intro (show hd m1 = hd m1 from rfl) (show hd m2 = hd m2 from rfl))
      have r5 : 0 < k1.length := by omega
      have r6 : 0 < k2.length := by omega
      clear t3 x3 y3 t5 bc1 bc2 sp1 sp2 kh1 kh2
      generalize hk1 : hd m1 = z1 at *
      generalize hk2 : hd m2 = z2 at *
      have HK := Lib.hid (And.intro hk1 hk2)
      clear hk1 hk2 HD
      generalize k1.length = n1 at *
      generalize k2.length = n2 at *
      have hheld : ∀ X, Below w1.heap.size w1 X → (fun w' => w'.cell? ⟨s, 0, none⟩ = some (.pointer (some ⟨q1, 0, none⟩)) ∧ w'.cell? ⟨s, 1, none⟩ = some (.pointer (some ⟨q2, 0, none⟩)) ∧ w'.cell? ⟨q1, 0, none⟩ = some (.slice (some ⟨b1, o1, none⟩) n1 ca1) ∧ w'.cell? ⟨q2, 0, none⟩ = some (.slice (some ⟨b2, o2, none⟩) n2 ca2) ∧ w'.cell? ⟨b1, o1, none⟩ = some (.int .i64 z1.br) ∧ w'.cell? ⟨b1, o1 + 1, none⟩ = some (.int .i64 z1.vol) ∧ w'.cell? ⟨b1, o1 + 2, none⟩ = some (.int .i64 z1.blk) ∧ w'.cell? ⟨b1, o1 + 3, none⟩ = some (.int .u64 z1.num) ∧ w'.cell? ⟨b2, o2, none⟩ = some (.int .i64 z2.br) ∧ w'.cell? ⟨b2, o2 + 1, none⟩ = some (.int .i64 z2.vol) ∧ w'.cell? ⟨b2, o2 + 2, none⟩ = some (.int .i64 z2.blk) ∧ w'.cell? ⟨b2, o2 + 3, none⟩ = some (.int .u64 z2.num)) X := fun X hX => ⟨(hX.cell (p := ⟨s, 0, none⟩) t2).trans c0, (hX.cell (p := ⟨s, 1, none⟩) t2).trans c1, (hX.cell (p := ⟨q1, 0, none⟩) p1).trans kc1, (hX.cell (p := ⟨q2, 0, none⟩) p2).trans kc2, (hX.cell (p := ⟨b1, _, none⟩) bl1).trans u0, (hX.cell (p := ⟨b1, _, none⟩) bl1).trans u1, (hX.cell (p := ⟨b1, _, none⟩) bl1).trans u2, (hX.cell (p := ⟨b1, _, none⟩) bl1).trans u3, (hX.cell (p := ⟨b2, _, none⟩) bl2).trans v0, (hX.cell (p := ⟨b2, _, none⟩) bl2).trans v1, (hX.cell (p := ⟨b2, _, none⟩) bl2).trans v2, (hX.cell (p := ⟨b2, _, none⟩) bl2).trans v3⟩
      go_wp2_with fail
      go_region_held3 (fun w' => w'.cell? ⟨s, 0, none⟩ = some (.pointer (some ⟨q1, 0, none⟩)) ∧ w'.cell? ⟨s, 1, none⟩ = some (.pointer (some ⟨q2, 0, none⟩)) ∧ w'.cell? ⟨q1, 0, none⟩ = some (.slice (some ⟨b1, o1, none⟩) n1 ca1) ∧ w'.cell? ⟨q2, 0, none⟩ = some (.slice (some ⟨b2, o2, none⟩) n2 ca2) ∧ w'.cell? ⟨b1, o1, none⟩ = some (.int .i64 z1.br) ∧ w'.cell? ⟨b1, o1 + 1, none⟩ = some (.int .i64 z1.vol) ∧ w'.cell? ⟨b1, o1 + 2, none⟩ = some (.int .i64 z1.blk) ∧ w'.cell? ⟨b1, o1 + 3, none⟩ = some (.int .u64 z1.num) ∧ w'.cell? ⟨b2, o2, none⟩ = some (.int .i64 z2.br) ∧ w'.cell? ⟨b2, o2 + 1, none⟩ = some (.int .i64 z2.vol) ∧ w'.cell? ⟨b2, o2 + 2, none⟩ = some (.int .i64 z2.blk) ∧ w'.cell? ⟨b2, o2 + 3, none⟩ = some (.int .u64 z2.num)) ((refine hheld _ ?_; repeat (first | exact Below.refl _ _ | exact bel_drewN _ _ (n := 1) | refine Below.trans ?_ (bel_drewN _ _ (n := 1)) | refine Below.alloc ?_ (by simp <;> omega) _))) (fail)
      all_goals go_wp2_with fail
      · go_ret
        obtain ⟨W, hW, h1, h2, h3, hb⟩ := three_allocs w1 (.cells #[.int .i64 z1.br, .int .i64 z1.vol, .int .i64 z1.blk, .int .u64 z1.num, .int .i64 z2.br, .int .i64 z2.vol, .int .i64 z2.blk, .int .u64 z2.num] 26) (.cells #[.pointer (some ⟨q1, 0, none⟩), .pointer (some ⟨q2, 0, none⟩)] 36) (.cells #[.slice (some ⟨w1.heap.size, 0, none⟩) 2 2, .slice none 0 0, .slice (some ⟨w1.heap.size + 1, 0, none⟩) 2 2] 39)
        subst hW
        obtain ⟨e1, e2⟩ := HK.out
        subst e1 e2
        have hb' := hb.trans (bel_drewN w1.heap.size _ (n := 1))
        exact ⟨_, rfl, .inr ⟨w1.heap.size + 1 + 1, h + 1, 2, rfl, by rw [← HT.out]; simpa using over_two (W := World.drew _) h1 h2 h3 hb' HX.out HY.out ⟨x1, x2⟩ ⟨y1, y2⟩, by omega, fun _ => by omega, by omega⟩, HB.out.trans (hb'.mono HB.out.size)⟩
      · go_ret
        obtain ⟨W, hW, h1, h2, h3, hb⟩ := three_allocs w1 (.cells #[.pointer (some ⟨q1, 0, none⟩), .pointer (some ⟨q2, 0, none⟩)] 36) (.cells #[.int .i64 z1.br, .int .i64 z1.vol, .int .i64 z1.blk, .int .u64 z1.num, .int .i64 z2.br, .int .i64 z2.vol, .int .i64 z2.blk, .int .u64 z2.num] 26) (.cells #[.slice (some ⟨w1.heap.size + 1, 0, none⟩) 2 2, .slice none 0 0, .slice (some ⟨w1.heap.size, 0, none⟩) 2 2] 39)
        subst hW
        obtain ⟨e1, e2⟩ := HK.out
        subst e1 e2
        have hb' := hb.trans (bel_drewN w1.heap.size _ (n := 1))
        exact ⟨_, rfl, .inr ⟨w1.heap.size + 1 + 1, h + 1, 2, rfl, by rw [← HT.out]; simpa using over_two (W := World.drew _) h2 h1 h3 hb' HX.out HY.out ⟨x1, x2⟩ ⟨y1, y2⟩, by omega, fun _ => by omega, by omega⟩, HB.out.trans (hb'.mono HB.out.size)⟩
end Go.Proofs.Ytainljbkejafcaa.N
