/- TTurned: joined by merge.py. -/
import Derived.Test.YtainljbkejafcaaTB
import Derived.Test.YtainljbkejafcaaTC
import Derived.Test.YtainljbkejafcaaTPur2
import Derived.LaidEqlPtr
/- The law TreeTurned. -/
namespace Go.Proofs.Ytainljbkejafcaa.N
open Go.BigFrame Go.RowKit Go.Shelf Go.Proofs.YtainljbkejafcaaW.PrintMore Go.Proofs.YtainljbkejafcaaW.PrintWords
set_option linter.unusedVariables false
set_option linter.unusedSimpArgs false
def fourAtU (w : World) (b : Nat) (s : Sp) : Prop := w.cell? ⟨b, 0, none⟩ = some (.int .i64 s.br) ∧ w.cell? ⟨b, 1, none⟩ = some (.int .i64 s.vol) ∧ w.cell? ⟨b, 2, none⟩ = some (.int .i64 s.blk) ∧ w.cell? ⟨b, 3, none⟩ = some (.int .u64 s.num)
theorem four_atU {w : World} {b : Nat} {s : Sp} (h : Blk w b (spC s) 26) : fourAtU w b s := ⟨h.cell 0, h.cell 1, h.cell 2, h.cell 3⟩
theorem spot_below {w w' : World} {b o B : Nat} {s : Sp} (h : w.cell? ⟨b, o, none⟩ = some (.int .i64 s.br) ∧ w.cell? ⟨b, o + 1, none⟩ = some (.int .i64 s.vol) ∧ w.cell? ⟨b, o + 2, none⟩ = some (.int .i64 s.blk) ∧ w.cell? ⟨b, o + 3, none⟩ = some (.int .u64 s.num)) (hb : Below B w w') (hlt : b < B) :
    w'.cell? ⟨b, o, none⟩ = some (.int .i64 s.br) ∧ w'.cell? ⟨b, o + 1, none⟩ = some (.int .i64 s.vol) ∧ w'.cell? ⟨b, o + 2, none⟩ = some (.int .i64 s.blk) ∧ w'.cell? ⟨b, o + 3, none⟩ = some (.int .u64 s.num) :=
  ⟨bel_cell hb hlt h.1, bel_cell hb hlt h.2.1, bel_cell hb hlt h.2.2.1, bel_cell hb hlt h.2.2.2⟩
theorem wf_t8 {n : Int} (h : (Lit.int .u8 n).wf = true) : 0 ≤ n ∧ n ≤ 255 := by
  simp [Lit.wf, IntKind.min, IntKind.max, IntKind.bits, IntKind.signed] at h
  omega
def nxt (s : Sp) : Int := IntKind.u64.wrap (s.num + 1)
set_option maxRecDepth 100000 in
theorem ptr_same (p : Option Addr) (W : World) : (binOp .eql 66 (.pointer p) (.pointer p)).run Try.prog W = .ok (.bool true) W := by
  cases p with
  | none => exact run_eql_pointer_nil W _ none (by rfl)
  | some a =>
    have h : (Try.prog.info? 102).isSome = true := by kernel_rfl
    obtain ⟨j, hj⟩ := Option.isSome_iff_exists.1 h
    exact run_eql_ptr_same W a Try.underlying66 hj
theorem len_ins (k : Sp) (v : Int) (l : List Ent) {j : Nat} (h : l.length ≤ j) : (insE k v l).length ≤ j + 1 := by
  rw [insE_length]
  split <;> omega
theorem SetE.ok {f : Sp → Int} {P : Sp → Prop} {l : List Ent} (h : SetE f P l) (hp : ∀ s, P s → s.ok) : AllOk l := fun x hx => hp _ ((h.2 x).1 hx).1
theorem SetE.sub {f : Sp → Int} {P Q : Sp → Prop} {l : List Ent} (h : SetE f P l) (e : ∀ s, P s ↔ Q s) : SetE f Q l := ⟨h.1, fun x => by rw [h.2, e]⟩
theorem take_set {ls : List Sp} {j : Nat} (hj : j < ls.length) (s : Sp) : (s = ls[j] ∨ s ∈ ls.take j) ↔ s ∈ ls.take (j + 1) := by
  rw [List.take_succ_eq_append_getElem hj, List.mem_append, List.mem_singleton, or_comm]
theorem drop_set {ls : List Sp} {j r : Nat} (hr : r < ls.length) (e : r + 1 + j = ls.length) (s : Sp) : (s = ls[r] ∨ s ∈ ls.drop (ls.length - j)) ↔ s ∈ ls.drop (ls.length - (j + 1)) := by
  rw [show ls.length - j = r + 1 by omega, show ls.length - (j + 1) = r by omega, List.drop_eq_getElem_cons hr, List.mem_cons]
/-- The spots that stand m behind the first j. -/
def Turn (ls : List Sp) (m j : Nat) (s : Sp) : Prop := ∃ i, i < j ∧ ls[(i + m) % ls.length]? = some s
theorem turn_set {ls : List Sp} {m j r : Nat} (hr : r < ls.length) (e : (j + m) % ls.length = r) (s : Sp) : (s = ls[r] ∨ Turn ls m j s) ↔ Turn ls m (j + 1) s := by
  constructor
  · rintro (rfl | ⟨i, hi, h⟩)
    · exact ⟨j, by omega, by rw [e]; exact List.getElem?_eq_getElem hr⟩
    · exact ⟨i, by omega, h⟩
  · rintro ⟨i, hi, h⟩
    by_cases hij : i = j
    · subst hij
      rw [e, List.getElem?_eq_getElem hr] at h
      exact .inl (Option.some.inj h).symm
    · exact .inr ⟨i, by omega, h⟩
theorem turn_all {ls : List Sp} {m : Nat} (s : Sp) : Turn ls m ls.length s ↔ s ∈ ls := by
  constructor
  · rintro ⟨i, _, h⟩
    exact List.mem_of_getElem? h
  · intro h
    obtain ⟨r, hr, e⟩ := List.getElem_of_mem h
    have hm : m % ls.length < ls.length := Nat.mod_lt _ (by omega)
    refine ⟨(r + (ls.length - m % ls.length)) % ls.length, Nat.mod_lt _ (by omega), ?_⟩
    have e1 : ((r + (ls.length - m % ls.length)) % ls.length + m) % ls.length = r := by
      rw [Nat.mod_add_mod]
      have h3 : (r + (ls.length - m % ls.length) + m) % ls.length = r := by
        have h4 : (r + (ls.length - m % ls.length) + m) % ls.length = (r + ls.length + ls.length * (m / ls.length)) % ls.length := by
          congr 1
          have := Nat.div_add_mod m ls.length
          omega
        rw [h4, Nat.add_mul_mod_self_left, Nat.add_mod_right, Nat.mod_eq_of_lt hr]
      exact h3
    rw [e1, List.getElem?_eq_getElem hr, e]
/-- Three trees that are put together. -/
def TurnT (w : World) (ls : List Sp) (n m : Nat) (a b c i : Value) (X : World) : Prop := ∃ (j : Nat) (pa pb pc : Option Addr) (la lb lc : List Ent), i = .int .i64 j ∧ j ≤ n ∧ a = .pointer pa ∧ b = .pointer pb ∧ c = .pointer pc ∧ TreeAt X pa la ∧ TreeAt X pb lb ∧ TreeAt X pc lc ∧
  SetE nxt (fun s => s ∈ ls.take j) la ∧ SetE nxt (fun s => s ∈ ls.drop (n - j)) lb ∧ SetE nxt (Turn ls m j) lc ∧ la.length ≤ j ∧ lb.length ≤ j ∧ lc.length ≤ j ∧ Below w.heap.size w X
theorem same_selfU {X : World} {A B : Option Addr} {l : List Ent} {n c d : Nat} (ha : ItemsAt X A l) (hb : ItemsAt X B l) (hn : l.length = n) (hl : n ≤ 900) :
    Calls Try.prog 39 #[.slice A n c, .slice B n d] X fun e w' => e = .returned (.bool true) ∧ Below X.heap.size X w' := by
  have h := same25 (n := n) (m := n) (c := c) (d := d) ha hb hn hn (by omega)
  rwa [decide_eq_true rfl] at h
section
variable {X : World} {p : Option Addr} {l l' : List Ent} {n : Nat} {k : Sp} {v : Int}
theorem all_u (ht : TreeAt X p l) (ha : Asc l) (hok : AllOk l) (hn : l.length = n) (hl : n ≤ 150) : ∀ Y, Below X.heap.size X Y → Calls Try.prog 47 #[.pointer p] Y fun e w' => ∃ A c, e = .returned (.slice A n c) ∧ ItemsAt w' A l ∧ Below Y.heap.size Y w' := fun Y hY => by
  subst hn
  exact all_tree (ht.below hY) ha hl hok
theorem put_u (ht : TreeAt X p l) (ha : Asc l) (hl : l.length ≤ 900) (hk : insE k v l = l') : ∀ Y, Below X.heap.size X Y → Calls Try.prog 43 #[.pointer p, .agg #[.int .i64 k.br, .int .i64 k.vol, .int .i64 k.blk, .int .u64 k.num], .int .u64 v] Y fun e w' => ∃ p', e = .returned (.pointer p') ∧ TreeAt w' p' l' ∧ Below Y.heap.size Y w' := fun Y hY => by
  subst hk
  exact put_tree (ht.below hY) ha (by omega) k v
theorem del_u (ht : TreeAt X p l) (ha : Asc l) (hl : l.length ≤ 900) (hk : delE k l = l') : ∀ Y, Below X.heap.size X Y → Calls Try.prog 41 #[.pointer p, .agg #[.int .i64 k.br, .int .i64 k.vol, .int .i64 k.blk, .int .u64 k.num]] Y fun e w' => ∃ p', e = .returned (.pointer p') ∧ TreeAt w' p' l' ∧ Below Y.heap.size Y w' := fun Y hY => by
  subst hk
  exact (del_tree (ht.below hY) ha (by omega) k).mono fun e w' hp => by
    obtain ⟨p', a, b, c, _⟩ := hp
    exact ⟨p', a, b, c⟩
theorem del_no (ht : TreeAt X p l) (ha : Asc l) (hl : l.length ≤ 900) (hk : hasE k l = false) : ∀ Y, Below X.heap.size X Y → Calls Try.prog 41 #[.pointer p, .agg #[.int .i64 k.br, .int .i64 k.vol, .int .i64 k.blk, .int .u64 k.num]] Y fun e w' => e = .returned (.pointer p) ∧ Below Y.heap.size Y w' := fun Y hY =>
  (del_tree (ht.below hY) ha (by omega) k).mono fun e w' hp => by
    obtain ⟨p', a, b, c, d⟩ := hp
    rw [d hk] at a
    exact ⟨a, c⟩
end
set_option maxHeartbeats 12800000 in
set_option maxRecDepth 100000 in
theorem turned_ok {w : World} {A : Option Addr} {c : Nat} {ls : List Sp} (hs : SpotsAt w A ls) (hok : ∀ j (h : j < ls.length), ls[j].ok) {by_ : Int} (h0 : 0 ≤ by_) (h1 : by_ ≤ 255) (k : Sp) :
    Calls Try.prog 15 #[.slice A ls.length c, .int .u8 by_, k.v] w fun e w' => e = .returned (.bool true) ∧ Below w.heap.size w w' := by
  unfold Sp.v
  obtain ⟨m, hm⟩ : ∃ m : Nat, by_ = (m : Int) := ⟨by_.toNat, by omega⟩
  subst hm
  have hm8 : m ≤ 255 := by omega
  have HM := Lib.hid hm8
  have HS := Lib.hid hs
  have HOk : Hid (∀ s ∈ ls, s.ok) := fun s hs => by
    obtain ⟨j, hj, e⟩ := List.getElem_of_mem hs
    rw [← e]
    exact hok j hj
  obtain ⟨N, hN⟩ : ∃ N, ls.length = N := ⟨_, rfl⟩
  have HN := Lib.hid hN
  rw [hN]
  clear hs hN hok h0 h1 hm8
  go_enter Try.func15, Try.ntmps15
  go_wp2_with fail
  have hbw : Below w.heap.size w (w.alloc (.cells #[.int .i64 k.br, .int .i64 k.vol, .int .i64 k.blk, .int .u64 k.num] 26)) := (Below.refl _ _).alloc (Nat.le_refl _) _
  have hbox : Blk (w.alloc (.cells #[.int .i64 k.br, .int .i64 k.vol, .int .i64 k.blk, .int .u64 k.num] 26)) w.heap.size (spC k) 26 := Blk.new w #[.int .i64 k.br, .int .i64 k.vol, .int .i64 k.blk, .int .u64 k.num] 26
  refine (awake25 _).mono ?_
  rintro e w1 ⟨rfl, hb1⟩
  generalize w.alloc (.cells #[.int .i64 k.br, .int .i64 k.vol, .int .i64 k.blk, .int .u64 k.num] 26) = W at *
  have HB1 := Lib.hid (hbw.trans (hb1.mono hbw.size))
  have HBox1 := Lib.hid (Blk.below hbox hb1 hbox.lt)
  clear hb1 hbw hbox
  by_cases hn : N ≤ 40
  case neg =>
    have hg : decide ((40 : Int) < (N : Int)) = true := by simp; omega
    go_wp2_with fail
    go_ret
    exact ⟨rfl, HB1.out⟩
  have hg : decide ((40 : Int) < (N : Int)) = false := by simp; omega
  go_wp2_with fail
  refine (new_tree w1).mono ?_
  rintro e w2 ⟨ba, rfl, hta, hb2⟩
  go_wp2_with fail
  refine (new_tree w2).mono ?_
  rintro e w3 ⟨bb, rfl, htb, hb3⟩
  go_wp2_with fail
  refine (new_tree w3).mono ?_
  rintro e w4 ⟨bc, rfl, htc, hb4⟩
  have hb14 : Below w1.heap.size w1 w4 := (hb2.trans (hb3.mono hb2.size)).trans (hb4.mono (Nat.le_trans hb2.size hb3.size))
  have HTa := Lib.hid ((hta.below hb3).below hb4)
  have HTb := Lib.hid (htb.below hb4)
  have HTc := Lib.hid htc
  have HB4 := Lib.hid (HB1.out.trans (hb14.mono HB1.out.size))
  have HBox4 := Lib.hid (Blk.below HBox1.out hb14 HBox1.out.lt)
  have HS4 := Lib.hid (HS.out.below HB4.out)
  have HL := Lib.hid hn
  clear hb2 hb3 hb4 hb14 hta htb htc hg hn HB1 HBox1 HS
  go_wp2_with fail
  go_loopw [7, 8, 9, 10] (fun a b c i X => TurnT w4 ls N m a b c i X) (fun _ _ _ i _ => (N - intOf i).toNat)
  case atStart => exact ⟨0, _, _, _, [], [], [], rfl, Nat.zero_le _, rfl, rfl, rfl, HTa.out, HTb.out, HTc.out, SetE.nil.sub (by simp), SetE.nil.sub (fun s => by rw [Nat.sub_zero, ← HN.out, List.drop_length]; simp), SetE.nil.sub (fun s => by simp [Turn]), Nat.le_refl _, Nat.le_refl _, Nat.le_refl _, Below.refl _ _⟩
  case round =>
    obtain ⟨j, pa, pb, pc, la, lb, lc, rfl, hj, rfl, rfl, rfl, hta, htb, htc, hsa, hsb, hsc, na, nb, nc, hbr⟩ := hrel
    have HBr := Lib.hid hbr
    have HTA := Lib.hid hta
    have HTB := Lib.hid htb
    have HTC := Lib.hid htc
    have HSA := Lib.hid hsa
    have HSB := Lib.hid hsb
    have HSC := Lib.hid hsc
    have HNA := Lib.hid (And.intro na (And.intro nb nc))
    clear hta htb htc hsa hsb hsc na nb nc
    by_cases hjn : j < N
    · have hL := HL.out
      have hm8 := HM.out
      have hjl : j < ls.length := by rw [HN.out]; exact hjn
      obtain ⟨r, hr⟩ : ∃ r, r + 1 + j = N := ⟨N - 1 - j, by omega⟩
      have hrl : r < ls.length := by rw [HN.out]; omega
      obtain ⟨q, hq⟩ : ∃ q, (j + m) % N = q := ⟨_, rfl⟩
      have hqN : q < N := by rw [← hq]; exact Nat.mod_lt _ (by omega)
      have hql : q < ls.length := by rw [HN.out]; exact hqN
      obtain ⟨ga, oa, hAe, la4, ca⟩ := HS4.out (by omega)
      subst hAe
      have sA := ca j hjl
      have sB := ca r hrl
      have sC := ca q hql
      have hga : ga < wr.heap.size := Nat.lt_of_lt_of_le la4 hbr.size
      obtain ⟨s0, s1, s2, s3⟩ := spot_below sA hbr la4
      obtain ⟨t0, t1, t2, t3⟩ := spot_below sB hbr la4
      obtain ⟨u0, u1, u2, u3⟩ := spot_below sC hbr la4
      obtain ⟨sa, hsa⟩ : ∃ s, ls[j] = s := ⟨_, rfl⟩
      obtain ⟨sb, hsb⟩ : ∃ s, ls[r] = s := ⟨_, rfl⟩
      obtain ⟨sc, hsc⟩ : ∃ s, ls[q] = s := ⟨_, rfl⟩
      rw [hsa] at s0 s1 s2 s3
      rw [hsb] at t0 t1 t2 t3
      rw [hsc] at u0 u1 u2 u3
      have HHd : Hid (∀ X, Below wr.heap.size wr X → (fun w' => w'.cell? ⟨ga, oa + j * 4, none⟩ = some (.int .i64 sa.br) ∧ w'.cell? ⟨ga, oa + j * 4 + 1, none⟩ = some (.int .i64 sa.vol) ∧ w'.cell? ⟨ga, oa + j * 4 + 2, none⟩ = some (.int .i64 sa.blk) ∧ w'.cell? ⟨ga, oa + j * 4 + 3, none⟩ = some (.int .u64 sa.num) ∧ w'.cell? ⟨ga, oa + r * 4, none⟩ = some (.int .i64 sb.br) ∧ w'.cell? ⟨ga, oa + r * 4 + 1, none⟩ = some (.int .i64 sb.vol) ∧ w'.cell? ⟨ga, oa + r * 4 + 2, none⟩ = some (.int .i64 sb.blk) ∧ w'.cell? ⟨ga, oa + r * 4 + 3, none⟩ = some (.int .u64 sb.num) ∧ w'.cell? ⟨ga, oa + q * 4, none⟩ = some (.int .i64 sc.br) ∧ w'.cell? ⟨ga, oa + q * 4 + 1, none⟩ = some (.int .i64 sc.vol) ∧ w'.cell? ⟨ga, oa + q * 4 + 2, none⟩ = some (.int .i64 sc.blk) ∧ w'.cell? ⟨ga, oa + q * 4 + 3, none⟩ = some (.int .u64 sc.num)) X) := fun X hX => ⟨bel_cell hX hga s0, bel_cell hX hga s1, bel_cell hX hga s2, bel_cell hX hga s3, bel_cell hX hga t0, bel_cell hX hga t1, bel_cell hX hga t2, bel_cell hX hga t3, bel_cell hX hga u0, bel_cell hX hga u1, bel_cell hX hga u2, bel_cell hX hga u3⟩
      have HIa : Hid (SetE nxt (fun s => s ∈ ls.take (j + 1)) (insE sa (nxt sa) la)) := (HSA.out.ins sa).sub (fun s => by rw [← hsa]; exact take_set hjl s)
      have HIb : Hid (SetE nxt (fun s => s ∈ ls.drop (N - (j + 1))) (insE sb (nxt sb) lb)) := (HSB.out.ins sb).sub (fun s => by rw [← hsb, ← HN.out]; exact drop_set hrl (by rw [HN.out]; exact hr) s)
      have HIc : Hid (SetE nxt (Turn ls m (j + 1)) (insE sc (nxt sc) lc)) := (HSC.out.ins sc).sub (fun s => by rw [← hsc]; exact turn_set hql (by rw [HN.out]; exact hq) s)
      have e1 : (0 : Int) ≤ (j : Int) := by omega
      have e2 : (j : Int) < (N : Int) := by omega
      have HPa := Lib.hid (put_u (k := sa) (v := nxt sa) HTA.out HSA.out.1 (by have := HNA.out; omega) rfl)
      clear sA sB sC s0 s1 s2 s3 t0 t1 t2 t3 u0 u1 u2 u3 hsa hsb hsc ca hbr la4 hjl hrl hql
      unfold nxt at HPa
      go_upto_region 9 with fail
      have held := HHd.out
      refine wp_region_held_drew (S := (fun w' => w'.cell? ⟨ga, oa + j * 4, none⟩ = some (.int .i64 sa.br) ∧ w'.cell? ⟨ga, oa + j * 4 + 1, none⟩ = some (.int .i64 sa.vol) ∧ w'.cell? ⟨ga, oa + j * 4 + 2, none⟩ = some (.int .i64 sa.blk) ∧ w'.cell? ⟨ga, oa + j * 4 + 3, none⟩ = some (.int .u64 sa.num) ∧ w'.cell? ⟨ga, oa + r * 4, none⟩ = some (.int .i64 sb.br) ∧ w'.cell? ⟨ga, oa + r * 4 + 1, none⟩ = some (.int .i64 sb.vol) ∧ w'.cell? ⟨ga, oa + r * 4 + 2, none⟩ = some (.int .i64 sb.blk) ∧ w'.cell? ⟨ga, oa + r * 4 + 3, none⟩ = some (.int .u64 sb.num) ∧ w'.cell? ⟨ga, oa + q * 4, none⟩ = some (.int .i64 sc.br) ∧ w'.cell? ⟨ga, oa + q * 4 + 1, none⟩ = some (.int .i64 sc.vol) ∧ w'.cell? ⟨ga, oa + q * 4 + 2, none⟩ = some (.int .i64 sc.blk) ∧ w'.cell? ⟨ga, oa + q * 4 + 3, none⟩ = some (.int .u64 sc.num))) (by kernel_rfl) (held _ (bel_drewN _ _ (n := 1))) (fun hHeld => ?_)
      obtain ⟨Y0, hwd⟩ : ∃ Wn, Wn = World.drew wr := ⟨_, rfl⟩
      rw [← hwd] at hHeld ⊢
      have hbY0 : Below wr.heap.size wr Y0 := by rw [hwd]; exact bel_drewN _ _ (n := 1)
      clear hwd 
      refine take_at (i := 0) (v := ?_) rfl (by kernel_rfl) (by kernel_rfl) (by kernel_rfl) (fun _ _ _ h => h) (Or.inl ⟨by rfl, ?_⟩) (by assumption) ?_
      rotate_left
      · (intro w' hSw; (try dsimp only at hSw); go_simp <;> (with_reducible rfl))
      try simp only [Act.put, List.setIfInBounds_toArray, List.set_cons_zero, List.set_cons_succ]
      refine take_at (i := 1) (v := ?_) rfl (by kernel_rfl) (by kernel_rfl) (by kernel_rfl) (fun _ _ _ h => h) (Or.inl ⟨by rfl, ?_⟩) (by assumption) ?_
      rotate_left
      · (intro w' hSw; (try dsimp only at hSw); go_simp <;> (with_reducible rfl))
      try simp only [Act.put, List.setIfInBounds_toArray, List.set_cons_zero, List.set_cons_succ]
      refine take_at (i := 2) (v := ?_) rfl (by kernel_rfl) (by kernel_rfl) (by kernel_rfl) (fun _ _ _ h => h) (Or.inl ⟨by rfl, ?_⟩) (by assumption) ?_
      rotate_left
      · (intro w' hSw; (try dsimp only at hSw); go_simp <;> (with_reducible rfl))
      try simp only [Act.put, List.setIfInBounds_toArray, List.set_cons_zero, List.set_cons_succ]
      refine take_at (i := 3) (v := ?_) rfl (by kernel_rfl) (by kernel_rfl) (by kernel_rfl) (fun _ _ _ h => h) (Or.inl ⟨by rfl, ?_⟩) (by assumption) ?_
      rotate_left
      · (intro w' hSw; (try dsimp only at hSw); go_simp <;> (with_reducible rfl))
      try simp only [Act.put, List.setIfInBounds_toArray, List.set_cons_zero, List.set_cons_succ]
      refine take_at (i := 4) (v := ?_) rfl (by kernel_rfl) (by kernel_rfl) (by kernel_rfl) (fun _ _ _ h => h) (Or.inl ⟨by rfl, ?_⟩) (by assumption) ?_
      rotate_left
      · (intro w' hSw; (try dsimp only at hSw); go_simp <;> (with_reducible rfl))
      try simp only [Act.put, List.setIfInBounds_toArray, List.set_cons_zero, List.set_cons_succ]
      refine take_at (i := 5) (v := ?_) rfl (by kernel_rfl) (by kernel_rfl) (by kernel_rfl) (fun _ _ _ h => h) (Or.inl ⟨by rfl, ?_⟩) (by assumption) ?_
      rotate_left
      · (intro w' hSw; (try dsimp only at hSw); go_simp <;> (with_reducible rfl))
      try simp only [Act.put, List.setIfInBounds_toArray, List.set_cons_zero, List.set_cons_succ]
      refine take_at (i := 6) (v := ?_) rfl (by kernel_rfl) (by kernel_rfl) (by kernel_rfl) (fun _ _ _ h => h) (Or.inl ⟨by rfl, ?_⟩) (by assumption) ?_
      rotate_left
      · (intro w' hSw; (try dsimp only at hSw); go_simp <;> (with_reducible rfl))
      try simp only [Act.put, List.setIfInBounds_toArray, List.set_cons_zero, List.set_cons_succ]
      refine take_at (i := 7) (v := ?_) rfl (by kernel_rfl) (by kernel_rfl) (by kernel_rfl) (fun _ _ _ h => h) (Or.inl ⟨by rfl, ?_⟩) (by assumption) ?_
      rotate_left
      · (intro w' hSw; (try dsimp only at hSw); go_simp <;> (with_reducible rfl))
      try simp only [Act.put, List.setIfInBounds_toArray, List.set_cons_zero, List.set_cons_succ]
      refine take_at (i := 8) (v := ?_) rfl (by kernel_rfl) (by kernel_rfl) (by kernel_rfl) (fun _ _ _ h => h) (Or.inl ⟨by rfl, ?_⟩) (by assumption) ?_
      rotate_left
      · (intro w' hSw; (try dsimp only at hSw); go_simp <;> (with_reducible rfl))
      try simp only [Act.put, List.setIfInBounds_toArray, List.set_cons_zero, List.set_cons_succ]
      refine take_at (i := 9) (v := ?_) rfl (by kernel_rfl) (by kernel_rfl) (by kernel_rfl) (fun _ _ _ h => h) (Or.inl ⟨by rfl, ?_⟩) (by assumption) ?_
      rotate_left
      · (intro w' hSw; (try dsimp only at hSw); go_simp <;> (with_reducible rfl))
      try simp only [Act.put, List.setIfInBounds_toArray, List.set_cons_zero, List.set_cons_succ]
      refine take_at (i := 10) (v := ?_) rfl (by kernel_rfl) (by kernel_rfl) (by kernel_rfl) (fun _ _ _ h => h) (Or.inl ⟨by rfl, ?_⟩) (by assumption) ?_
      rotate_left
      · (intro w' hSw; (try dsimp only at hSw); go_simp <;> (with_reducible rfl))
      try simp only [Act.put, List.setIfInBounds_toArray, List.set_cons_zero, List.set_cons_succ]
      refine one_at (i := 11) rfl (by kernel_rfl) (by rfl) (fun K hK => ?_)
      go_simp
      refine (HPa.out Y0 hbY0).mono ?_
      rintro e Y1 ⟨pa', rfl, hta, hb1⟩
      have hbY1 := hbY0.trans (hb1.mono hbY0.size)
      go_simp
      refine hK.out _ _ (held _ hbY1) (fun hHeld1 => ?_)
      clear hK K
      try simp only [Act.put, List.setIfInBounds_toArray, List.set_cons_zero, List.set_cons_succ]
      refine take_at (i := 12) (v := ?_) rfl (by kernel_rfl) (by kernel_rfl) (by kernel_rfl) (fun _ _ _ h => h) (Or.inl ⟨by rfl, ?_⟩) (by assumption) ?_
      rotate_left
      · (intro w' hSw; (try dsimp only at hSw); go_simp <;> (with_reducible rfl))
      try simp only [Act.put, List.setIfInBounds_toArray, List.set_cons_zero, List.set_cons_succ]
      refine wpAnyH_done (by kernel_rfl) ?_ _
      try simp only [Act.put, List.setIfInBounds_toArray, List.set_cons_zero, List.set_cons_succ]
      have HTA1 := Lib.hid hta
      have HY1 := Lib.hid hbY1
      have HTB1 := Lib.hid (HTB.out.below HY1.out)
      have HPb := Lib.hid (put_u (k := sb) (v := nxt sb) HTB1.out HSB.out.1 (by have := HNA.out; omega) rfl)
      unfold nxt at HPb
      clear held hHeld hHeld1 hb1 hbY0 hbY1 hta HPa
      obtain ⟨n1, hn1⟩ : ∃ n1, n1 + 1 = N := ⟨N - 1, by omega⟩
      have w1' : IntKind.i64.wrap ((N : Int) - 1) = (n1 : Int) := by rw [IntKind.wrap_i64]; omega
      have w2' : IntKind.i64.wrap ((n1 : Int) - (j : Int)) = (r : Int) := by rw [IntKind.wrap_i64]; omega
      have e3 : (0 : Int) ≤ (r : Int) := by omega
      have e4 : (r : Int) < (N : Int) := by omega
      go_upto_region 10 with fail
      have held : ∀ X, Below Y1.heap.size Y1 X → (fun w' => w'.cell? ⟨ga, oa + j * 4, none⟩ = some (.int .i64 sa.br) ∧ w'.cell? ⟨ga, oa + j * 4 + 1, none⟩ = some (.int .i64 sa.vol) ∧ w'.cell? ⟨ga, oa + j * 4 + 2, none⟩ = some (.int .i64 sa.blk) ∧ w'.cell? ⟨ga, oa + j * 4 + 3, none⟩ = some (.int .u64 sa.num) ∧ w'.cell? ⟨ga, oa + r * 4, none⟩ = some (.int .i64 sb.br) ∧ w'.cell? ⟨ga, oa + r * 4 + 1, none⟩ = some (.int .i64 sb.vol) ∧ w'.cell? ⟨ga, oa + r * 4 + 2, none⟩ = some (.int .i64 sb.blk) ∧ w'.cell? ⟨ga, oa + r * 4 + 3, none⟩ = some (.int .u64 sb.num) ∧ w'.cell? ⟨ga, oa + q * 4, none⟩ = some (.int .i64 sc.br) ∧ w'.cell? ⟨ga, oa + q * 4 + 1, none⟩ = some (.int .i64 sc.vol) ∧ w'.cell? ⟨ga, oa + q * 4 + 2, none⟩ = some (.int .i64 sc.blk) ∧ w'.cell? ⟨ga, oa + q * 4 + 3, none⟩ = some (.int .u64 sc.num)) X := fun X hX => HHd.out X (HY1.out.trans (hX.mono HY1.out.size))
      refine wp_region_held_drew (S := (fun w' => w'.cell? ⟨ga, oa + j * 4, none⟩ = some (.int .i64 sa.br) ∧ w'.cell? ⟨ga, oa + j * 4 + 1, none⟩ = some (.int .i64 sa.vol) ∧ w'.cell? ⟨ga, oa + j * 4 + 2, none⟩ = some (.int .i64 sa.blk) ∧ w'.cell? ⟨ga, oa + j * 4 + 3, none⟩ = some (.int .u64 sa.num) ∧ w'.cell? ⟨ga, oa + r * 4, none⟩ = some (.int .i64 sb.br) ∧ w'.cell? ⟨ga, oa + r * 4 + 1, none⟩ = some (.int .i64 sb.vol) ∧ w'.cell? ⟨ga, oa + r * 4 + 2, none⟩ = some (.int .i64 sb.blk) ∧ w'.cell? ⟨ga, oa + r * 4 + 3, none⟩ = some (.int .u64 sb.num) ∧ w'.cell? ⟨ga, oa + q * 4, none⟩ = some (.int .i64 sc.br) ∧ w'.cell? ⟨ga, oa + q * 4 + 1, none⟩ = some (.int .i64 sc.vol) ∧ w'.cell? ⟨ga, oa + q * 4 + 2, none⟩ = some (.int .i64 sc.blk) ∧ w'.cell? ⟨ga, oa + q * 4 + 3, none⟩ = some (.int .u64 sc.num))) (by kernel_rfl) (held _ (bel_drewN _ _ (n := 1))) (fun hHeld => ?_)
      obtain ⟨Z0, hwd⟩ : ∃ Wn, Wn = World.drew Y1 := ⟨_, rfl⟩
      rw [← hwd] at hHeld ⊢
      have hbZ0 : Below Y1.heap.size Y1 Z0 := by rw [hwd]; exact bel_drewN _ _ (n := 1)
      clear hwd 
      refine take_at (i := 0) (v := ?_) rfl (by kernel_rfl) (by kernel_rfl) (by kernel_rfl) (fun _ _ _ h => h) (Or.inl ⟨by rfl, ?_⟩) (by assumption) ?_
      rotate_left
      · (intro w' hSw; (try dsimp only at hSw); go_simp <;> (with_reducible rfl))
      try simp only [Act.put, List.setIfInBounds_toArray, List.set_cons_zero, List.set_cons_succ]
      refine take_at (i := 1) (v := ?_) rfl (by kernel_rfl) (by kernel_rfl) (by kernel_rfl) (fun _ _ _ h => h) (Or.inl ⟨by rfl, ?_⟩) (by assumption) ?_
      rotate_left
      · (intro w' hSw; (try dsimp only at hSw); go_simp <;> (with_reducible rfl))
      try simp only [Act.put, List.setIfInBounds_toArray, List.set_cons_zero, List.set_cons_succ]
      refine take_at (i := 2) (v := ?_) rfl (by kernel_rfl) (by kernel_rfl) (by kernel_rfl) (fun _ _ _ h => h) (Or.inl ⟨by rfl, ?_⟩) (by assumption) ?_
      rotate_left
      · (intro w' hSw; (try dsimp only at hSw); go_simp <;> (with_reducible rfl))
      try simp only [Act.put, List.setIfInBounds_toArray, List.set_cons_zero, List.set_cons_succ]
      refine take_at (i := 3) (v := ?_) rfl (by kernel_rfl) (by kernel_rfl) (by kernel_rfl) (fun _ _ _ h => h) (Or.inl ⟨by rfl, ?_⟩) (by assumption) ?_
      rotate_left
      · (intro w' hSw; (try dsimp only at hSw); go_simp <;> (with_reducible rfl))
      try simp only [Act.put, List.setIfInBounds_toArray, List.set_cons_zero, List.set_cons_succ]
      refine take_at (i := 4) (v := ?_) rfl (by kernel_rfl) (by kernel_rfl) (by kernel_rfl) (fun _ _ _ h => h) (Or.inl ⟨by rfl, ?_⟩) (by assumption) ?_
      rotate_left
      · (intro w' hSw; (try dsimp only at hSw); go_simp <;> (with_reducible rfl))
      try simp only [Act.put, List.setIfInBounds_toArray, List.set_cons_zero, List.set_cons_succ]
      refine take_at (i := 5) (v := ?_) rfl (by kernel_rfl) (by kernel_rfl) (by kernel_rfl) (fun _ _ _ h => h) (Or.inl ⟨by rfl, ?_⟩) (by assumption) ?_
      rotate_left
      · (intro w' hSw; (try dsimp only at hSw); go_simp <;> (with_reducible rfl))
      try simp only [Act.put, List.setIfInBounds_toArray, List.set_cons_zero, List.set_cons_succ]
      refine take_at (i := 6) (v := ?_) rfl (by kernel_rfl) (by kernel_rfl) (by kernel_rfl) (fun _ _ _ h => h) (Or.inl ⟨by rfl, ?_⟩) (by assumption) ?_
      rotate_left
      · (intro w' hSw; (try dsimp only at hSw); go_simp <;> (with_reducible rfl))
      try simp only [Act.put, List.setIfInBounds_toArray, List.set_cons_zero, List.set_cons_succ]
      refine take_at (i := 7) (v := ?_) rfl (by kernel_rfl) (by kernel_rfl) (by kernel_rfl) (fun _ _ _ h => h) (Or.inl ⟨by rfl, ?_⟩) (by assumption) ?_
      rotate_left
      · (intro w' hSw; (try dsimp only at hSw); go_simp <;> (with_reducible rfl))
      try simp only [Act.put, List.setIfInBounds_toArray, List.set_cons_zero, List.set_cons_succ]
      refine take_at (i := 8) (v := ?_) rfl (by kernel_rfl) (by kernel_rfl) (by kernel_rfl) (fun _ _ _ h => h) (Or.inl ⟨by rfl, ?_⟩) (by assumption) ?_
      rotate_left
      · (intro w' hSw; (try dsimp only at hSw); go_simp <;> (with_reducible rfl))
      try simp only [Act.put, List.setIfInBounds_toArray, List.set_cons_zero, List.set_cons_succ]
      refine take_at (i := 9) (v := ?_) rfl (by kernel_rfl) (by kernel_rfl) (by kernel_rfl) (fun _ _ _ h => h) (Or.inl ⟨by rfl, ?_⟩) (by assumption) ?_
      rotate_left
      · (intro w' hSw; (try dsimp only at hSw); go_simp <;> (with_reducible rfl))
      try simp only [Act.put, List.setIfInBounds_toArray, List.set_cons_zero, List.set_cons_succ]
      refine take_at (i := 10) (v := ?_) rfl (by kernel_rfl) (by kernel_rfl) (by kernel_rfl) (fun _ _ _ h => h) (Or.inl ⟨by rfl, ?_⟩) (by assumption) ?_
      rotate_left
      · (intro w' hSw; (try dsimp only at hSw); go_simp <;> (with_reducible rfl))
      try simp only [Act.put, List.setIfInBounds_toArray, List.set_cons_zero, List.set_cons_succ]
      refine take_at (i := 11) (v := ?_) rfl (by kernel_rfl) (by kernel_rfl) (by kernel_rfl) (fun _ _ _ h => h) (Or.inl ⟨by rfl, ?_⟩) (by assumption) ?_
      rotate_left
      · (intro w' hSw; (try dsimp only at hSw); go_simp <;> (with_reducible rfl))
      try simp only [Act.put, List.setIfInBounds_toArray, List.set_cons_zero, List.set_cons_succ]
      refine take_at (i := 12) (v := ?_) rfl (by kernel_rfl) (by kernel_rfl) (by kernel_rfl) (fun _ _ _ h => h) (Or.inl ⟨by rfl, ?_⟩) (by assumption) ?_
      rotate_left
      · (intro w' hSw; (try dsimp only at hSw); go_simp <;> (with_reducible rfl))
      try simp only [Act.put, List.setIfInBounds_toArray, List.set_cons_zero, List.set_cons_succ]
      refine take_at (i := 13) (v := ?_) rfl (by kernel_rfl) (by kernel_rfl) (by kernel_rfl) (fun _ _ _ h => h) (Or.inl ⟨by rfl, ?_⟩) (by assumption) ?_
      rotate_left
      · (intro w' hSw; (try dsimp only at hSw); go_simp <;> (with_reducible rfl))
      try simp only [Act.put, List.setIfInBounds_toArray, List.set_cons_zero, List.set_cons_succ]
      refine take_at (i := 14) (v := ?_) rfl (by kernel_rfl) (by kernel_rfl) (by kernel_rfl) (fun _ _ _ h => h) (Or.inl ⟨by rfl, ?_⟩) (by assumption) ?_
      rotate_left
      · (intro w' hSw; (try dsimp only at hSw); go_simp <;> (with_reducible rfl))
      try simp only [Act.put, List.setIfInBounds_toArray, List.set_cons_zero, List.set_cons_succ]
      refine take_at (i := 15) (v := ?_) rfl (by kernel_rfl) (by kernel_rfl) (by kernel_rfl) (fun _ _ _ h => h) (Or.inl ⟨by rfl, ?_⟩) (by assumption) ?_
      rotate_left
      · (intro w' hSw; (try dsimp only at hSw); go_simp <;> (with_reducible rfl))
      try simp only [Act.put, List.setIfInBounds_toArray, List.set_cons_zero, List.set_cons_succ]
      refine take_at (i := 16) (v := ?_) rfl (by kernel_rfl) (by kernel_rfl) (by kernel_rfl) (fun _ _ _ h => h) (Or.inl ⟨by rfl, ?_⟩) (by assumption) ?_
      rotate_left
      · (intro w' hSw; (try dsimp only at hSw); go_simp <;> (with_reducible rfl))
      try simp only [Act.put, List.setIfInBounds_toArray, List.set_cons_zero, List.set_cons_succ]
      refine take_at (i := 17) (v := ?_) rfl (by kernel_rfl) (by kernel_rfl) (by kernel_rfl) (fun _ _ _ h => h) (Or.inl ⟨by rfl, ?_⟩) (by assumption) ?_
      rotate_left
      · (intro w' hSw; (try dsimp only at hSw); go_simp <;> (with_reducible rfl))
      try simp only [Act.put, List.setIfInBounds_toArray, List.set_cons_zero, List.set_cons_succ]
      refine take_at (i := 18) (v := ?_) rfl (by kernel_rfl) (by kernel_rfl) (by kernel_rfl) (fun _ _ _ h => h) (Or.inl ⟨by rfl, ?_⟩) (by assumption) ?_
      rotate_left
      · (intro w' hSw; (try dsimp only at hSw); go_simp <;> (with_reducible rfl))
      try simp only [Act.put, List.setIfInBounds_toArray, List.set_cons_zero, List.set_cons_succ]
      refine one_at (i := 19) rfl (by kernel_rfl) (by rfl) (fun K hK => ?_)
      go_simp
      refine ((fun (X : World) (hX : Below Y1.heap.size Y1 X) => HPb.out X hX) Z0 hbZ0).mono ?_
      rintro e Z1 ⟨pb', rfl, htb, hb1⟩
      have hbZ1 := hbZ0.trans (hb1.mono hbZ0.size)
      go_simp
      refine hK.out _ _ (held _ hbZ1) (fun hHeld1 => ?_)
      clear hK K
      try simp only [Act.put, List.setIfInBounds_toArray, List.set_cons_zero, List.set_cons_succ]
      refine take_at (i := 20) (v := ?_) rfl (by kernel_rfl) (by kernel_rfl) (by kernel_rfl) (fun _ _ _ h => h) (Or.inl ⟨by rfl, ?_⟩) (by assumption) ?_
      rotate_left
      · (intro w' hSw; (try dsimp only at hSw); go_simp <;> (with_reducible rfl))
      try simp only [Act.put, List.setIfInBounds_toArray, List.set_cons_zero, List.set_cons_succ]
      refine wpAnyH_done (by kernel_rfl) ?_ _
      try simp only [Act.put, List.setIfInBounds_toArray, List.set_cons_zero, List.set_cons_succ]
      have HTB2 := Lib.hid htb
      have HY2 := Lib.hid (HY1.out.trans (hbZ1.mono HY1.out.size))
      have HTA2 := Lib.hid (HTA1.out.below hbZ1)
      have HTC2 := Lib.hid (HTC.out.below HY2.out)
      have HPc := Lib.hid (put_u (k := sc) (v := nxt sc) HTC2.out HSC.out.1 (by have := HNA.out; omega) rfl)
      unfold nxt at HPc
      clear held hHeld hHeld1 hb1 hbZ0 hbZ1 htb HPb w1' w2' e3 e4 HTA1 HTB1 HY1
      have hqI : ((j : Int) + (m : Int)) % (N : Int) = (q : Int) := by rw [← hq]; simp
      have e3 : (0 : Int) ≤ (q : Int) := by omega
      have e4 : (q : Int) < (N : Int) := by omega
      go_upto_region 12 with fail
      rw [hqI]
      clear hqI
      have held : ∀ X, Below Z1.heap.size Z1 X → (fun w' => w'.cell? ⟨ga, oa + j * 4, none⟩ = some (.int .i64 sa.br) ∧ w'.cell? ⟨ga, oa + j * 4 + 1, none⟩ = some (.int .i64 sa.vol) ∧ w'.cell? ⟨ga, oa + j * 4 + 2, none⟩ = some (.int .i64 sa.blk) ∧ w'.cell? ⟨ga, oa + j * 4 + 3, none⟩ = some (.int .u64 sa.num) ∧ w'.cell? ⟨ga, oa + r * 4, none⟩ = some (.int .i64 sb.br) ∧ w'.cell? ⟨ga, oa + r * 4 + 1, none⟩ = some (.int .i64 sb.vol) ∧ w'.cell? ⟨ga, oa + r * 4 + 2, none⟩ = some (.int .i64 sb.blk) ∧ w'.cell? ⟨ga, oa + r * 4 + 3, none⟩ = some (.int .u64 sb.num) ∧ w'.cell? ⟨ga, oa + q * 4, none⟩ = some (.int .i64 sc.br) ∧ w'.cell? ⟨ga, oa + q * 4 + 1, none⟩ = some (.int .i64 sc.vol) ∧ w'.cell? ⟨ga, oa + q * 4 + 2, none⟩ = some (.int .i64 sc.blk) ∧ w'.cell? ⟨ga, oa + q * 4 + 3, none⟩ = some (.int .u64 sc.num)) X := fun X hX => HHd.out X (HY2.out.trans (hX.mono HY2.out.size))
      refine wp_region_held_drew (S := (fun w' => w'.cell? ⟨ga, oa + j * 4, none⟩ = some (.int .i64 sa.br) ∧ w'.cell? ⟨ga, oa + j * 4 + 1, none⟩ = some (.int .i64 sa.vol) ∧ w'.cell? ⟨ga, oa + j * 4 + 2, none⟩ = some (.int .i64 sa.blk) ∧ w'.cell? ⟨ga, oa + j * 4 + 3, none⟩ = some (.int .u64 sa.num) ∧ w'.cell? ⟨ga, oa + r * 4, none⟩ = some (.int .i64 sb.br) ∧ w'.cell? ⟨ga, oa + r * 4 + 1, none⟩ = some (.int .i64 sb.vol) ∧ w'.cell? ⟨ga, oa + r * 4 + 2, none⟩ = some (.int .i64 sb.blk) ∧ w'.cell? ⟨ga, oa + r * 4 + 3, none⟩ = some (.int .u64 sb.num) ∧ w'.cell? ⟨ga, oa + q * 4, none⟩ = some (.int .i64 sc.br) ∧ w'.cell? ⟨ga, oa + q * 4 + 1, none⟩ = some (.int .i64 sc.vol) ∧ w'.cell? ⟨ga, oa + q * 4 + 2, none⟩ = some (.int .i64 sc.blk) ∧ w'.cell? ⟨ga, oa + q * 4 + 3, none⟩ = some (.int .u64 sc.num))) (by kernel_rfl) (held _ (bel_drewN _ _ (n := 1))) (fun hHeld => ?_)
      obtain ⟨T0, hwd⟩ : ∃ Wn, Wn = World.drew Z1 := ⟨_, rfl⟩
      rw [← hwd] at hHeld ⊢
      have hbT0 : Below Z1.heap.size Z1 T0 := by rw [hwd]; exact bel_drewN _ _ (n := 1)
      clear hwd 
      refine take_at (i := 0) (v := ?_) rfl (by kernel_rfl) (by kernel_rfl) (by kernel_rfl) (fun _ _ _ h => h) (Or.inl ⟨by rfl, ?_⟩) (by assumption) ?_
      rotate_left
      · (intro w' hSw; (try dsimp only at hSw); go_simp <;> (with_reducible rfl))
      try simp only [Act.put, List.setIfInBounds_toArray, List.set_cons_zero, List.set_cons_succ]
      refine take_at (i := 1) (v := ?_) rfl (by kernel_rfl) (by kernel_rfl) (by kernel_rfl) (fun _ _ _ h => h) (Or.inl ⟨by rfl, ?_⟩) (by assumption) ?_
      rotate_left
      · (intro w' hSw; (try dsimp only at hSw); go_simp <;> (with_reducible rfl))
      try simp only [Act.put, List.setIfInBounds_toArray, List.set_cons_zero, List.set_cons_succ]
      refine take_at (i := 2) (v := ?_) rfl (by kernel_rfl) (by kernel_rfl) (by kernel_rfl) (fun _ _ _ h => h) (Or.inl ⟨by rfl, ?_⟩) (by assumption) ?_
      rotate_left
      · (intro w' hSw; (try dsimp only at hSw); go_simp <;> (with_reducible rfl))
      try simp only [Act.put, List.setIfInBounds_toArray, List.set_cons_zero, List.set_cons_succ]
      refine take_at (i := 3) (v := ?_) rfl (by kernel_rfl) (by kernel_rfl) (by kernel_rfl) (fun _ _ _ h => h) (Or.inl ⟨by rfl, ?_⟩) (by assumption) ?_
      rotate_left
      · (intro w' hSw; (try dsimp only at hSw); go_simp <;> (with_reducible rfl))
      try simp only [Act.put, List.setIfInBounds_toArray, List.set_cons_zero, List.set_cons_succ]
      refine take_at (i := 4) (v := ?_) rfl (by kernel_rfl) (by kernel_rfl) (by kernel_rfl) (fun _ _ _ h => h) (Or.inl ⟨by rfl, ?_⟩) (by assumption) ?_
      rotate_left
      · (intro w' hSw; (try dsimp only at hSw); go_simp <;> (with_reducible rfl))
      try simp only [Act.put, List.setIfInBounds_toArray, List.set_cons_zero, List.set_cons_succ]
      refine take_at (i := 5) (v := ?_) rfl (by kernel_rfl) (by kernel_rfl) (by kernel_rfl) (fun _ _ _ h => h) (Or.inl ⟨by rfl, ?_⟩) (by assumption) ?_
      rotate_left
      · (intro w' hSw; (try dsimp only at hSw); go_simp <;> (with_reducible rfl))
      try simp only [Act.put, List.setIfInBounds_toArray, List.set_cons_zero, List.set_cons_succ]
      refine take_at (i := 6) (v := ?_) rfl (by kernel_rfl) (by kernel_rfl) (by kernel_rfl) (fun _ _ _ h => h) (Or.inl ⟨by rfl, ?_⟩) (by assumption) ?_
      rotate_left
      · (intro w' hSw; (try dsimp only at hSw); go_simp <;> (with_reducible rfl))
      try simp only [Act.put, List.setIfInBounds_toArray, List.set_cons_zero, List.set_cons_succ]
      refine take_at (i := 7) (v := ?_) rfl (by kernel_rfl) (by kernel_rfl) (by kernel_rfl) (fun _ _ _ h => h) (Or.inl ⟨by rfl, ?_⟩) (by assumption) ?_
      rotate_left
      · (intro w' hSw; (try dsimp only at hSw); go_simp <;> (with_reducible rfl))
      try simp only [Act.put, List.setIfInBounds_toArray, List.set_cons_zero, List.set_cons_succ]
      refine take_at (i := 8) (v := ?_) rfl (by kernel_rfl) (by kernel_rfl) (by kernel_rfl) (fun _ _ _ h => h) (Or.inl ⟨by rfl, ?_⟩) (by assumption) ?_
      rotate_left
      · (intro w' hSw; (try dsimp only at hSw); go_simp <;> (with_reducible rfl))
      try simp only [Act.put, List.setIfInBounds_toArray, List.set_cons_zero, List.set_cons_succ]
      refine take_at (i := 9) (v := ?_) rfl (by kernel_rfl) (by kernel_rfl) (by kernel_rfl) (fun _ _ _ h => h) (Or.inl ⟨by rfl, ?_⟩) (by assumption) ?_
      rotate_left
      · (intro w' hSw; (try dsimp only at hSw); go_simp <;> (with_reducible rfl))
      try simp only [Act.put, List.setIfInBounds_toArray, List.set_cons_zero, List.set_cons_succ]
      refine take_at (i := 10) (v := ?_) rfl (by kernel_rfl) (by kernel_rfl) (by kernel_rfl) (fun _ _ _ h => h) (Or.inl ⟨by rfl, ?_⟩) (by assumption) ?_
      rotate_left
      · (intro w' hSw; (try dsimp only at hSw); go_simp <;> (with_reducible rfl))
      try simp only [Act.put, List.setIfInBounds_toArray, List.set_cons_zero, List.set_cons_succ]
      refine one_at (i := 11) rfl (by kernel_rfl) (by rfl) (fun K hK => ?_)
      go_simp
      refine ((fun (X : World) (hX : Below Z1.heap.size Z1 X) => HPc.out X hX) T0 hbT0).mono ?_
      rintro e T1 ⟨pc', rfl, htc, hb1⟩
      have hbT1 := hbT0.trans (hb1.mono hbT0.size)
      go_simp
      refine hK.out _ _ (held _ hbT1) (fun hHeld1 => ?_)
      clear hK K
      try simp only [Act.put, List.setIfInBounds_toArray, List.set_cons_zero, List.set_cons_succ]
      refine take_at (i := 12) (v := ?_) rfl (by kernel_rfl) (by kernel_rfl) (by kernel_rfl) (fun _ _ _ h => h) (Or.inl ⟨by rfl, ?_⟩) (by assumption) ?_
      rotate_left
      · (intro w' hSw; (try dsimp only at hSw); go_simp <;> (with_reducible rfl))
      try simp only [Act.put, List.setIfInBounds_toArray, List.set_cons_zero, List.set_cons_succ]
      refine wpAnyH_done (by kernel_rfl) ?_ _
      try simp only [Act.put, List.setIfInBounds_toArray, List.set_cons_zero, List.set_cons_succ]
      have HT := Lib.hid (And.intro (HTA2.out.below hbT1) (And.intro (HTB2.out.below hbT1) htc))
      have HB := Lib.hid (HBr.out.trans ((HY2.out.trans (hbT1.mono HY2.out.size)).mono HBr.out.size))
      clear held hHeld hHeld1 hb1 hbT0 hbT1 htc HPc e3 e4
      go_wp2_with fail
      go_roundw
      case rel => exact ⟨j + 1, pa', pb', pc', _, _, _, by simp, hjn, rfl, rfl, rfl, HT.out.1, HT.out.2.1, HT.out.2.2, HIa.out, HIb.out, HIc.out, len_ins _ _ _ HNA.out.1, len_ins _ _ _ HNA.out.2.1, len_ins _ _ _ HNA.out.2.2, HB.out⟩
      case measure => (simp [intOf] <;> omega)
    · obtain rfl : j = N := by omega
      have hjl := HN.out
      have hAll : Hid (SetE nxt (fun s => s ∈ ls) la) := HSA.out.sub (fun s => by rw [List.take_of_length_le (by omega)])
      have hba : la = lb := (HSB.out.eq hAll.out (fun s => by rw [Nat.sub_self, List.drop_zero])).symm
      have hca : la = lc := (HSC.out.eq hAll.out (fun s => by rw [← hjl]; exact turn_all s)).symm
      subst hba hca
      have hokA := hAll.out.ok HOk.out
      have hL := HL.out
      obtain ⟨n, hn⟩ : ∃ n, la.length = n := ⟨_, rfl⟩
      have hn40 : n ≤ 40 := by have := HNA.out.1; omega
      have HOA := Lib.hid hokA
      have HNn := Lib.hid hn
      have HN40 := Lib.hid hn40
      have HBw := Lib.hid (HB4.out.trans (HBr.out.mono HB4.out.size))
      have HBx := Lib.hid (Blk.below HBox4.out HBr.out HBox4.out.lt)
      have HAa := Lib.hid (all_u HTA.out hAll.out.1 HOA.out HNn.out (by omega))
      have HAb := Lib.hid (all_u HTB.out hAll.out.1 HOA.out HNn.out (by omega))
      have HAc := Lib.hid (all_u HTC.out hAll.out.1 HOA.out HNn.out (by omega))
      clear hjl hokA hn hn40 hbr HSA HSB HSC HNA HBox4 HB4 HTa HTb HTc HS4
      go_wp2_with fail
      refine (HAa.out wr (Below.refl _ _)).mono ?_
      rintro e X1 ⟨A1, c1, rfl, i1, b1⟩
      go_wp2_with fail
      refine (HAb.out X1 b1).mono ?_
      rintro e X2 ⟨A2, c2, rfl, i2, b2⟩
      have b02 := b1.trans (b2.mono b1.size)
      go_wp2_with fail
      refine (same_selfU (c := c1) (d := c2) (i1.below b2) i2 HNn.out (by have := HN40.out; omega)).mono ?_
      rintro e X3 ⟨rfl, b3⟩
      have b03 := b02.trans (b3.mono b02.size)
      clear i1 i2 b1 b2 b3 b02
      go_wp2_with fail
      refine (HAa.out X3 b03).mono ?_
      rintro e X4 ⟨A4, c4, rfl, i4, b4⟩
      have b04 := b03.trans (b4.mono b03.size)
      go_wp2_with fail
      refine (HAc.out X4 b04).mono ?_
      rintro e X5 ⟨A5, c5, rfl, i5, b5⟩
      have b05 := b04.trans (b5.mono b04.size)
      go_wp2_with fail
      refine (same_selfU (c := c4) (d := c5) (i4.below b5) i5 HNn.out (by have := HN40.out; omega)).mono ?_
      rintro e X6 ⟨rfl, b6⟩
      have b06 := b05.trans (b6.mono b05.size)
      have HT6 := Lib.hid (HTA.out.below b06)
      have HB6 := Lib.hid (HBw.out.trans (b06.mono HBw.out.size))
      have HX6 := Lib.hid (Blk.below HBx.out b06 HBx.out.lt)
      have HHd : Hid (∀ X, Below X6.heap.size X6 X → (fun w' => w'.cell? ⟨w.heap.size, 0, none⟩ = some (.int .i64 k.br) ∧ w'.cell? ⟨w.heap.size, 1, none⟩ = some (.int .i64 k.vol) ∧ w'.cell? ⟨w.heap.size, 2, none⟩ = some (.int .i64 k.blk) ∧ w'.cell? ⟨w.heap.size, 3, none⟩ = some (.int .u64 k.num)) X) := fun X hX => four_atU (Blk.below HX6.out hX HX6.out.lt)
      clear i4 i5 b4 b5 b6 b03 b04 b05 b06 HAa HAb HAc HTB HTC HTA HBr HBw HBx
      have HGe := Lib.hid (get_tree HT6.out hAll.out.1 k)
      obtain ⟨k0, k1, k2, k3⟩ := HHd.out X6 (Below.refl _ _)
      generalize hH : hasE k la = H at *
      generalize valE k la = V at *
      have HH := Lib.hid hH
      clear hH
      go_wp2_with fail
      refine HGe.out.mono ?_
      rintro e X7 ⟨rfl, b7⟩
      have HT7 := Lib.hid (HT6.out.below b7)
      have HB7 := Lib.hid (HB6.out.trans (b7.mono HB6.out.size))
      have HHe : Hid (∀ X, Below X7.heap.size X7 X → (fun w' => w'.cell? ⟨w.heap.size, 0, none⟩ = some (.int .i64 k.br) ∧ w'.cell? ⟨w.heap.size, 1, none⟩ = some (.int .i64 k.vol) ∧ w'.cell? ⟨w.heap.size, 2, none⟩ = some (.int .i64 k.blk) ∧ w'.cell? ⟨w.heap.size, 3, none⟩ = some (.int .u64 k.num)) X) := fun X hX => HHd.out X (b7.trans (hX.mono b7.size))
      clear k0 k1 k2 k3 b7 HT6 HB6 HX6 HHd HGe
      cases H with
      | true =>
        have hag := hAll.out.again HH.out 7
        have hp1 : insE k 7 la = insE k 7 la := rfl
        have HP1 := Lib.hid (put_u (v := 7) HT7.out hAll.out.1 (by rw [HNn.out]; have := HN40.out; omega) hp1)
        have HA1 := Lib.hid (all_u HT7.out hAll.out.1 HOA.out HNn.out (by have := HN40.out; omega))
        have HD1 := Lib.hid (del_u (k := k) HT7.out hAll.out.1 (by rw [HNn.out]; have := HN40.out; omega) rfl)
        have hlen7 : (insE k 7 la).length ≤ 900 := by have := len_ins k 7 la (Nat.le_of_eq HNn.out); have := HN40.out; omega
        obtain ⟨n1, hn1⟩ : ∃ n1, n1 + 1 = n := by
          refine ⟨n - 1, ?_⟩
          obtain ⟨y, hy, _⟩ := (hasE_iff hAll.out.1).1 HH.out
          have := List.length_pos_of_mem hy
          rw [HNn.out] at this
          omega
        have hdl : (delE k la).length = n1 := by rw [delE_length, if_pos HH.out, HNn.out]; omega
        have hdok : AllOk (delE k la) := delE_ok HOA.out
        have HQ := Lib.hid (And.intro hag (And.intro hlen7 (And.intro hdl hdok)))
        have f1 : IntKind.i64.wrap ((n : Int) - 1) = (n1 : Int) := by rw [IntKind.wrap_i64]; have := HN40.out; omega
        have f2 : ((n1 : Int) == (n1 : Int)) = true := by simp
        have held := HHe.out
        clear hag hlen7 hdl hdok hL hjn hp1
        unfold nxt at HQ
        go_upto_region 17 with fail
        refine wp_region_held_drew (S := (fun w' => w'.cell? ⟨w.heap.size, 0, none⟩ = some (.int .i64 k.br) ∧ w'.cell? ⟨w.heap.size, 1, none⟩ = some (.int .i64 k.vol) ∧ w'.cell? ⟨w.heap.size, 2, none⟩ = some (.int .i64 k.blk) ∧ w'.cell? ⟨w.heap.size, 3, none⟩ = some (.int .u64 k.num))) (by kernel_rfl) (held _ (bel_drewN _ _ (n := 1))) (fun hHeld => ?_)
        obtain ⟨E0, hwd⟩ : ∃ Wn, Wn = World.drew X7 := ⟨_, rfl⟩
        rw [← hwd] at hHeld ⊢
        have hbE0 : Below X7.heap.size X7 E0 := by rw [hwd]; exact bel_drewN _ _ (n := 1)
        clear hwd 
        refine take_at (i := 0) (v := ?_) rfl (by kernel_rfl) (by kernel_rfl) (by kernel_rfl) (fun _ _ _ h => h) (Or.inl ⟨by rfl, ?_⟩) (by assumption) ?_
        rotate_left
        · (intro w' hSw; (try dsimp only at hSw); go_simp <;> (with_reducible rfl))
        try simp only [Act.put, List.setIfInBounds_toArray, List.set_cons_zero, List.set_cons_succ]
        refine take_at (i := 1) (v := ?_) rfl (by kernel_rfl) (by kernel_rfl) (by kernel_rfl) (fun _ _ _ h => h) (Or.inl ⟨by rfl, ?_⟩) (by assumption) ?_
        rotate_left
        · (intro w' hSw; (try dsimp only at hSw); go_simp <;> (with_reducible rfl))
        try simp only [Act.put, List.setIfInBounds_toArray, List.set_cons_zero, List.set_cons_succ]
        refine take_at (i := 3) (v := ?_) rfl (by kernel_rfl) (by kernel_rfl) (by kernel_rfl) (fun _ _ _ h => h) (Or.inl ⟨by rfl, ?_⟩) (by assumption) ?_
        rotate_left
        · (intro w' hSw; (try dsimp only at hSw); go_simp <;> (with_reducible rfl))
        try simp only [Act.put, List.setIfInBounds_toArray, List.set_cons_zero, List.set_cons_succ]
        refine take_at (i := 4) (v := ?_) rfl (by kernel_rfl) (by kernel_rfl) (by kernel_rfl) (fun _ _ _ h => h) (Or.inl ⟨by rfl, ?_⟩) (by assumption) ?_
        rotate_left
        · (intro w' hSw; (try dsimp only at hSw); go_simp <;> (with_reducible rfl))
        try simp only [Act.put, List.setIfInBounds_toArray, List.set_cons_zero, List.set_cons_succ]
        refine take_at (i := 5) (v := ?_) rfl (by kernel_rfl) (by kernel_rfl) (by kernel_rfl) (fun _ _ _ h => h) (Or.inl ⟨by rfl, ?_⟩) (by assumption) ?_
        rotate_left
        · (intro w' hSw; (try dsimp only at hSw); go_simp <;> (with_reducible rfl))
        try simp only [Act.put, List.setIfInBounds_toArray, List.set_cons_zero, List.set_cons_succ]
        refine take_at (i := 6) (v := ?_) rfl (by kernel_rfl) (by kernel_rfl) (by kernel_rfl) (fun _ _ _ h => h) (Or.inl ⟨by rfl, ?_⟩) (by assumption) ?_
        rotate_left
        · (intro w' hSw; (try dsimp only at hSw); go_simp <;> (with_reducible rfl))
        try simp only [Act.put, List.setIfInBounds_toArray, List.set_cons_zero, List.set_cons_succ]
        refine take_at (i := 9) (v := ?_) rfl (by kernel_rfl) (by kernel_rfl) (by kernel_rfl) (fun _ _ _ h => h) (Or.inl ⟨by rfl, ?_⟩) (by assumption) ?_
        rotate_left
        · (intro w' hSw; (try dsimp only at hSw); go_simp <;> (with_reducible rfl))
        try simp only [Act.put, List.setIfInBounds_toArray, List.set_cons_zero, List.set_cons_succ]
        refine one_at (i := 2) rfl (by kernel_rfl) (by rfl) (fun K hK => ?_)
        go_simp
        refine (HP1.out E0 hbE0).mono ?_
        rintro e E1 ⟨p1, rfl, ht1, hb1⟩
        have hbE1 := hbE0.trans (hb1.mono hbE0.size)
        go_simp
        refine hK.out _ _ (held _ hbE1) (fun hHeld1 => ?_)
        clear hK K
        try simp only [Act.put, List.setIfInBounds_toArray, List.set_cons_zero, List.set_cons_succ]
        refine one_at (i := 7) rfl (by kernel_rfl) (by rfl) (fun K hK => ?_)
        go_simp
        refine ((fun (X : World) (hX : Below X7.heap.size X7 X) => put_u (k := k) (v := IntKind.u64.wrap (k.num + 1)) ht1 (insE_asc hAll.out.1) HQ.out.2.1 HQ.out.1 _ (Below.refl _ _)) E1 hbE1).mono ?_
        rintro e E2 ⟨p2, rfl, ht2, hb2⟩
        have hbE2 := hbE1.trans (hb2.mono hbE1.size)
        go_simp
        refine hK.out _ _ (held _ hbE2) (fun hHeld2 => ?_)
        clear hK K
        try simp only [Act.put, List.setIfInBounds_toArray, List.set_cons_zero, List.set_cons_succ]
        refine one_at (i := 8) rfl (by kernel_rfl) (by rfl) (fun K hK => ?_)
        go_simp
        refine ((fun (X : World) (hX : Below X7.heap.size X7 X) => all_u ht2 hAll.out.1 HOA.out HNn.out (by have := HN40.out; omega) _ (Below.refl _ _)) E2 hbE2).mono ?_
        rintro e E3 ⟨A3, c3, rfl, hi3, hb3⟩
        have hbE3 := hbE2.trans (hb3.mono hbE2.size)
        go_simp
        refine hK.out _ _ (held _ hbE3) (fun hHeld3 => ?_)
        clear hK K
        try simp only [Act.put, List.setIfInBounds_toArray, List.set_cons_zero, List.set_cons_succ]
        refine one_at (i := 10) rfl (by kernel_rfl) (by rfl) (fun K hK => ?_)
        go_simp
        refine (HA1.out E3 hbE3).mono ?_
        rintro e E4 ⟨A4, c4, rfl, hi4, hb4⟩
        have hbE4 := hbE3.trans (hb4.mono hbE3.size)
        go_simp
        refine hK.out _ _ (held _ hbE4) (fun hHeld4 => ?_)
        clear hK K
        try simp only [Act.put, List.setIfInBounds_toArray, List.set_cons_zero, List.set_cons_succ]
        refine one_at (i := 11) rfl (by kernel_rfl) (by rfl) (fun K hK => ?_)
        go_simp
        refine ((fun (X : World) (hX : Below X7.heap.size X7 X) => same_selfU (c := c3) (d := c4) (hi3.below hb4) hi4 HNn.out (by have := HN40.out; omega)) E4 hbE4).mono ?_
        rintro e E5 ⟨rfl, hb5⟩
        have hbE5 := hbE4.trans (hb5.mono hbE4.size)
        go_simp
        refine hK.out _ _ (held _ hbE5) (fun hHeld5 => ?_)
        clear hK K
        try simp only [Act.put, List.setIfInBounds_toArray, List.set_cons_zero, List.set_cons_succ]
        refine take_at (i := 12) (v := ?_) rfl (by kernel_rfl) (by kernel_rfl) (by kernel_rfl) (fun _ _ _ h => h) (Or.inl ⟨by rfl, ?_⟩) (by assumption) ?_
        rotate_left
        · (intro w' hSw; (try dsimp only at hSw); go_simp <;> (with_reducible rfl))
        try simp only [Act.put, List.setIfInBounds_toArray, List.set_cons_zero, List.set_cons_succ]
        refine take_at (i := 13) (v := ?_) rfl (by kernel_rfl) (by kernel_rfl) (by kernel_rfl) (fun _ _ _ h => h) (Or.inl ⟨by rfl, ?_⟩) (by assumption) ?_
        rotate_left
        · (intro w' hSw; (try dsimp only at hSw); go_simp <;> (with_reducible rfl))
        try simp only [Act.put, List.setIfInBounds_toArray, List.set_cons_zero, List.set_cons_succ]
        refine take_at (i := 14) (v := ?_) rfl (by kernel_rfl) (by kernel_rfl) (by kernel_rfl) (fun _ _ _ h => h) (Or.inl ⟨by rfl, ?_⟩) (by assumption) ?_
        rotate_left
        · (intro w' hSw; (try dsimp only at hSw); go_simp <;> (with_reducible rfl))
        try simp only [Act.put, List.setIfInBounds_toArray, List.set_cons_zero, List.set_cons_succ]
        refine take_at (i := 18) (v := ?_) rfl (by kernel_rfl) (by kernel_rfl) (by kernel_rfl) (fun _ _ _ h => h) (Or.inl ⟨by rfl, ?_⟩) (by assumption) ?_
        rotate_left
        · (intro w' hSw; (try dsimp only at hSw); go_simp <;> (with_reducible rfl))
        try simp only [Act.put, List.setIfInBounds_toArray, List.set_cons_zero, List.set_cons_succ]
        refine one_at (i := 15) rfl (by kernel_rfl) (by rfl) (fun K hK => ?_)
        go_simp
        refine (HD1.out E5 hbE5).mono ?_
        rintro e E6 ⟨p6, rfl, ht6, hb6⟩
        have hbE6 := hbE5.trans (hb6.mono hbE5.size)
        go_simp
        refine hK.out _ _ (held _ hbE6) (fun hHeld6 => ?_)
        clear hK K
        try simp only [Act.put, List.setIfInBounds_toArray, List.set_cons_zero, List.set_cons_succ]
        refine one_at (i := 16) rfl (by kernel_rfl) (by rfl) (fun K hK => ?_)
        go_simp
        refine ((fun (X : World) (hX : Below X7.heap.size X7 X) => all_u ht6 (delE_asc hAll.out.1) HQ.out.2.2.2 HQ.out.2.2.1 (by have := HN40.out; omega) _ (Below.refl _ _)) E6 hbE6).mono ?_
        rintro e E7 ⟨A7, c7, rfl, hi7, hb7⟩
        have hbE7 := hbE6.trans (hb7.mono hbE6.size)
        go_simp
        refine hK.out _ _ (held _ hbE7) (fun hHeld7 => ?_)
        clear hK K
        try simp only [Act.put, List.setIfInBounds_toArray, List.set_cons_zero, List.set_cons_succ]
        refine take_at (i := 17) (v := ?_) rfl (by kernel_rfl) (by kernel_rfl) (by kernel_rfl) (fun _ _ _ h => h) (Or.inl ⟨by rfl, ?_⟩) (by assumption) ?_
        rotate_left
        · (intro w' hSw; (try dsimp only at hSw); go_simp <;> (with_reducible rfl))
        try simp only [Act.put, List.setIfInBounds_toArray, List.set_cons_zero, List.set_cons_succ]
        refine one_at (i := 19) rfl (by kernel_rfl) (by rfl) (fun K hK => ?_)
        go_simp
        refine (HA1.out E7 hbE7).mono ?_
        rintro e E8 ⟨A8, c8, rfl, hi8, hb8⟩
        have hbE8 := hbE7.trans (hb8.mono hbE7.size)
        go_simp
        refine hK.out _ _ (held _ hbE8) (fun hHeld8 => ?_)
        clear hK K
        try simp only [Act.put, List.setIfInBounds_toArray, List.set_cons_zero, List.set_cons_succ]
        refine take_at (i := 20) (v := ?_) rfl (by kernel_rfl) (by kernel_rfl) (by kernel_rfl) (fun _ _ _ h => h) (Or.inl ⟨by rfl, ?_⟩) (by assumption) ?_
        rotate_left
        · (intro w' hSw; (try dsimp only at hSw); go_simp <;> (with_reducible rfl))
        try simp only [Act.put, List.setIfInBounds_toArray, List.set_cons_zero, List.set_cons_succ]
        refine take_at (i := 21) (v := ?_) rfl (by kernel_rfl) (by kernel_rfl) (by kernel_rfl) (fun _ _ _ h => h) (Or.inl ⟨by rfl, ?_⟩) (by assumption) ?_
        rotate_left
        · (intro w' hSw; (try dsimp only at hSw); go_simp <;> (with_reducible rfl))
        try simp only [Act.put, List.setIfInBounds_toArray, List.set_cons_zero, List.set_cons_succ]
        refine take_at (i := 22) (v := ?_) rfl (by kernel_rfl) (by kernel_rfl) (by kernel_rfl) (fun _ _ _ h => h) (Or.inl ⟨by rfl, ?_⟩) (by assumption) ?_
        rotate_left
        · (intro w' hSw; (try dsimp only at hSw); go_simp <;> (with_reducible rfl))
        try simp only [Act.put, List.setIfInBounds_toArray, List.set_cons_zero, List.set_cons_succ]
        refine take_at (i := 23) (v := ?_) rfl (by kernel_rfl) (by kernel_rfl) (by kernel_rfl) (fun _ _ _ h => h) (Or.inl ⟨by rfl, ?_⟩) (by assumption) ?_
        rotate_left
        · (intro w' hSw; (try dsimp only at hSw); go_simp <;> (with_reducible rfl))
        try simp only [Act.put, List.setIfInBounds_toArray, List.set_cons_zero, List.set_cons_succ]
        refine take_at (i := 24) (v := ?_) rfl (by kernel_rfl) (by kernel_rfl) (by kernel_rfl) (fun _ _ _ h => h) (Or.inl ⟨by rfl, ?_⟩) (by assumption) ?_
        rotate_left
        · (intro w' hSw; (try dsimp only at hSw); go_simp <;> (with_reducible rfl))
        try simp only [Act.put, List.setIfInBounds_toArray, List.set_cons_zero, List.set_cons_succ]
        refine wpAnyH_done (by kernel_rfl) ?_ _
        try simp only [Act.put, List.setIfInBounds_toArray, List.set_cons_zero, List.set_cons_succ]
        have HBe := Lib.hid (HB7.out.trans (hbE8.mono HB7.out.size))
        clear hb1 hb2 hb3 hb4 hb5 hb6 hb7 hb8
        go_wp2_with fail
        go_ret
        exact ⟨rfl, HBe.out⟩
      | false =>
        have hid := ins_del hAll.out.1 HH.out 3
        have HD0 := Lib.hid (del_no HT7.out hAll.out.1 (by rw [HNn.out]; have := HN40.out; omega) HH.out)
        have HP1 := Lib.hid (put_u (k := k) (v := 3) HT7.out hAll.out.1 (by rw [HNn.out]; have := HN40.out; omega) rfl)
        have HA1 := Lib.hid (all_u HT7.out hAll.out.1 HOA.out HNn.out (by have := HN40.out; omega))
        have hlen3 : (insE k 3 la).length ≤ 900 := by have := len_ins k 3 la (Nat.le_of_eq HNn.out); have := HN40.out; omega
        have HQ := Lib.hid (And.intro hid hlen3)
        have hps := ptr_same pa
        have held := HHe.out
        clear hid hlen3 hL hjn
        go_upto_region 18 with fail
        refine wp_region_held_drew (S := (fun w' => w'.cell? ⟨w.heap.size, 0, none⟩ = some (.int .i64 k.br) ∧ w'.cell? ⟨w.heap.size, 1, none⟩ = some (.int .i64 k.vol) ∧ w'.cell? ⟨w.heap.size, 2, none⟩ = some (.int .i64 k.blk) ∧ w'.cell? ⟨w.heap.size, 3, none⟩ = some (.int .u64 k.num))) (by kernel_rfl) (held _ (bel_drewN _ _ (n := 1))) (fun hHeld => ?_)
        obtain ⟨E0, hwd⟩ : ∃ Wn, Wn = World.drew X7 := ⟨_, rfl⟩
        rw [← hwd] at hHeld ⊢
        have hbE0 : Below X7.heap.size X7 E0 := by rw [hwd]; exact bel_drewN _ _ (n := 1)
        clear hwd 
        refine take_at (i := 0) (v := ?_) rfl (by kernel_rfl) (by kernel_rfl) (by kernel_rfl) (fun _ _ _ h => h) (Or.inl ⟨by rfl, ?_⟩) (by assumption) ?_
        rotate_left
        · (intro w' hSw; (try dsimp only at hSw); go_simp <;> (with_reducible rfl))
        try simp only [Act.put, List.setIfInBounds_toArray, List.set_cons_zero, List.set_cons_succ]
        refine take_at (i := 1) (v := ?_) rfl (by kernel_rfl) (by kernel_rfl) (by kernel_rfl) (fun _ _ _ h => h) (Or.inl ⟨by rfl, ?_⟩) (by assumption) ?_
        rotate_left
        · (intro w' hSw; (try dsimp only at hSw); go_simp <;> (with_reducible rfl))
        try simp only [Act.put, List.setIfInBounds_toArray, List.set_cons_zero, List.set_cons_succ]
        refine take_at (i := 3) (v := ?_) rfl (by kernel_rfl) (by kernel_rfl) (by kernel_rfl) (fun _ _ _ h => h) (Or.inl ⟨by rfl, ?_⟩) (by assumption) ?_
        rotate_left
        · (intro w' hSw; (try dsimp only at hSw); go_simp <;> (with_reducible rfl))
        try simp only [Act.put, List.setIfInBounds_toArray, List.set_cons_zero, List.set_cons_succ]
        refine one_at (i := 2) rfl (by kernel_rfl) (by rfl) (fun K hK => ?_)
        go_simp
        refine (HD0.out E0 hbE0).mono ?_
        rintro e E1 ⟨rfl, hb1⟩
        have hbE1 := hbE0.trans (hb1.mono hbE0.size)
        go_simp
        refine hK.out _ _ (held _ hbE1) (fun hHeld1 => ?_)
        clear hK K
        try simp only [Act.put, List.setIfInBounds_toArray, List.set_cons_zero, List.set_cons_succ]
        refine take_at (i := 4) (v := ?_) rfl (by kernel_rfl) (by kernel_rfl) (by kernel_rfl) (fun _ _ _ h => h) (Or.inl ⟨by rfl, ?_⟩) (by assumption) ?_
        rotate_left
        · (intro w' hSw; (try dsimp only at hSw); go_simp <;> (with_reducible rfl))
        try simp only [Act.put, List.setIfInBounds_toArray, List.set_cons_zero, List.set_cons_succ]
        refine take_at (i := 5) (v := ?_) rfl (by kernel_rfl) (by kernel_rfl) (by kernel_rfl) (fun _ _ _ h => h) (Or.inl ⟨by rfl, ?_⟩) (by assumption) ?_
        rotate_left
        · (intro w' hSw; (try dsimp only at hSw); go_simp <;> (with_reducible rfl))
        try simp only [Act.put, List.setIfInBounds_toArray, List.set_cons_zero, List.set_cons_succ]
        refine take_at (i := 6) (v := ?_) rfl (by kernel_rfl) (by kernel_rfl) (by kernel_rfl) (fun _ _ _ h => h) (Or.inl ⟨by rfl, ?_⟩) (by assumption) ?_
        rotate_left
        · (intro w' hSw; (try dsimp only at hSw); go_simp <;> (with_reducible rfl))
        try simp only [Act.put, List.setIfInBounds_toArray, List.set_cons_zero, List.set_cons_succ]
        refine take_at (i := 7) (v := ?_) rfl (by kernel_rfl) (by kernel_rfl) (by kernel_rfl) (fun _ _ _ h => h) (Or.inl ⟨by rfl, ?_⟩) (by assumption) ?_
        rotate_left
        · (intro w' hSw; (try dsimp only at hSw); go_simp <;> (with_reducible rfl))
        try simp only [Act.put, List.setIfInBounds_toArray, List.set_cons_zero, List.set_cons_succ]
        refine take_at (i := 9) (v := ?_) rfl (by kernel_rfl) (by kernel_rfl) (by kernel_rfl) (fun _ _ _ h => h) (Or.inl ⟨by rfl, ?_⟩) (by assumption) ?_
        rotate_left
        · (intro w' hSw; (try dsimp only at hSw); go_simp <;> (with_reducible rfl))
        try simp only [Act.put, List.setIfInBounds_toArray, List.set_cons_zero, List.set_cons_succ]
        refine take_at (i := 12) (v := ?_) rfl (by kernel_rfl) (by kernel_rfl) (by kernel_rfl) (fun _ _ _ h => h) (Or.inl ⟨by rfl, ?_⟩) (by assumption) ?_
        rotate_left
        · (intro w' hSw; (try dsimp only at hSw); go_simp <;> (with_reducible rfl))
        try simp only [Act.put, List.setIfInBounds_toArray, List.set_cons_zero, List.set_cons_succ]
        refine one_at (i := 8) rfl (by kernel_rfl) (by rfl) (fun K hK => ?_)
        go_simp
        refine (HP1.out E1 hbE1).mono ?_
        rintro e E2 ⟨p2, rfl, ht2, hb2⟩
        have hbE2 := hbE1.trans (hb2.mono hbE1.size)
        go_simp
        refine hK.out _ _ (held _ hbE2) (fun hHeld2 => ?_)
        clear hK K
        try simp only [Act.put, List.setIfInBounds_toArray, List.set_cons_zero, List.set_cons_succ]
        refine one_at (i := 10) rfl (by kernel_rfl) (by rfl) (fun K hK => ?_)
        go_simp
        refine ((fun (X : World) (hX : Below X7.heap.size X7 X) => del_u (k := k) ht2 (insE_asc hAll.out.1) HQ.out.2 HQ.out.1 _ (Below.refl _ _)) E2 hbE2).mono ?_
        rintro e E3 ⟨p3, rfl, ht3, hb3⟩
        have hbE3 := hbE2.trans (hb3.mono hbE2.size)
        go_simp
        refine hK.out _ _ (held _ hbE3) (fun hHeld3 => ?_)
        clear hK K
        try simp only [Act.put, List.setIfInBounds_toArray, List.set_cons_zero, List.set_cons_succ]
        refine one_at (i := 11) rfl (by kernel_rfl) (by rfl) (fun K hK => ?_)
        go_simp
        refine ((fun (X : World) (hX : Below X7.heap.size X7 X) => all_u ht3 hAll.out.1 HOA.out HNn.out (by have := HN40.out; omega) _ (Below.refl _ _)) E3 hbE3).mono ?_
        rintro e E4 ⟨A4, c4, rfl, hi4, hb4⟩
        have hbE4 := hbE3.trans (hb4.mono hbE3.size)
        go_simp
        refine hK.out _ _ (held _ hbE4) (fun hHeld4 => ?_)
        clear hK K
        try simp only [Act.put, List.setIfInBounds_toArray, List.set_cons_zero, List.set_cons_succ]
        refine one_at (i := 13) rfl (by kernel_rfl) (by rfl) (fun K hK => ?_)
        go_simp
        refine (HA1.out E4 hbE4).mono ?_
        rintro e E5 ⟨A5, c5, rfl, hi5, hb5⟩
        have hbE5 := hbE4.trans (hb5.mono hbE4.size)
        go_simp
        refine hK.out _ _ (held _ hbE5) (fun hHeld5 => ?_)
        clear hK K
        try simp only [Act.put, List.setIfInBounds_toArray, List.set_cons_zero, List.set_cons_succ]
        refine one_at (i := 14) rfl (by kernel_rfl) (by rfl) (fun K hK => ?_)
        go_simp
        refine ((fun (X : World) (hX : Below X7.heap.size X7 X) => same_selfU (c := c4) (d := c5) (hi4.below hb5) hi5 HNn.out (by have := HN40.out; omega)) E5 hbE5).mono ?_
        rintro e E6 ⟨rfl, hb6⟩
        have hbE6 := hbE5.trans (hb6.mono hbE5.size)
        go_simp
        refine hK.out _ _ (held _ hbE6) (fun hHeld6 => ?_)
        clear hK K
        try simp only [Act.put, List.setIfInBounds_toArray, List.set_cons_zero, List.set_cons_succ]
        refine take_at (i := 15) (v := ?_) rfl (by kernel_rfl) (by kernel_rfl) (by kernel_rfl) (fun _ _ _ h => h) (Or.inl ⟨by rfl, ?_⟩) (by assumption) ?_
        rotate_left
        · (intro w' hSw; (try dsimp only at hSw); go_simp <;> (with_reducible rfl))
        try simp only [Act.put, List.setIfInBounds_toArray, List.set_cons_zero, List.set_cons_succ]
        refine take_at (i := 16) (v := ?_) rfl (by kernel_rfl) (by kernel_rfl) (by kernel_rfl) (fun _ _ _ h => h) (Or.inl ⟨by rfl, ?_⟩) (by assumption) ?_
        rotate_left
        · (intro w' hSw; (try dsimp only at hSw); go_simp <;> (with_reducible rfl))
        try simp only [Act.put, List.setIfInBounds_toArray, List.set_cons_zero, List.set_cons_succ]
        refine wpAnyH_done (by kernel_rfl) ?_ _
        try simp only [Act.put, List.setIfInBounds_toArray, List.set_cons_zero, List.set_cons_succ]
        have HBe := Lib.hid (HB7.out.trans (hbE6.mono HB7.out.size))
        clear hb1 hb2 hb3 hb4 hb5 hb6
        go_wp2_with fail
        go_ret
        exact ⟨rfl, HBe.out⟩
end Go.Proofs.Ytainljbkejafcaa.N
