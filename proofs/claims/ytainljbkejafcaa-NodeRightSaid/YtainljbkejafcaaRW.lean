/- RW: joined by merge.py. -/
import Derived.Test.YtainljbkejafcaaNLeaf
import Derived.Deep.Slices
import Derived.Deep.Fields
import Derived.Deep.Strs
import Derived.ChangeSame
import Derived.Lib.SmallJoins
import Derived.Test.YtainljbkejafcaaRS
import Derived.ChangeArms
import Derived.Test.YtainljbkejafcaaRA
import Derived.Laws.IdiomArrays
/- A spot, slices of spots, and of whatever has a fixed form, that came in. -/
namespace Go.Proofs.Ytainljbkejafcaa.N
open Go.ChangeShapes Go.WideShapes Go.Deep Go.RowKit Go.Joins
set_option linter.unusedVariables false
set_option linter.unusedSimpArgs false
theorem wf_i64 {n : Int} (h : (Lit.int .i64 n).wf = true) : -9223372036854775808 ≤ n ∧ n ≤ 9223372036854775807 := by
  simp [Lit.wf, IntKind.min, IntKind.max, IntKind.bits, IntKind.signed] at h
  omega
theorem wf_u64 {n : Int} (h : (Lit.int .u64 n).wf = true) : 0 ≤ n ∧ n ≤ 18446744073709551615 := by
  simp [Lit.wf, IntKind.min, IntKind.max, IntKind.bits, IntKind.signed] at h
  omega
section
variable {H : Type} {enc : TypeId × Value → H} {P : Program} {w : World} {base : Nat} {spare : Nat → Bool} {held : Bool}
theorem open_rows {α : Type} (E : α → List Value) (ok : α → Prop) (k : Nat) {t e : TypeId} {fuel : Nat} {cs : List Value} {x : DataW H × List MemPlace} (ht : P.underlying t = some (.slice e)) (hk : P.cellsOf e = k)
    (k0 : ∀ s, 0 < (E s).length)
    (hdec : ∀ fuel cs x, DataW.trod enc P w base spare held fuel e cs = some x → ∃ s, cs = E s ∧ ok s) (h : DataW.trod enc P w base spare held fuel t cs = some x) :
    ∃ (A : Option Addr) (cap : Nat) (l : List α), cs = [.slice A l.length cap] ∧ l.length ≤ cap ∧ cap ≤ maxLen ∧
      (0 < l.length → ∃ b off, A = some ⟨b, off, none⟩ ∧ b < w.heap.size ∧ ∀ j (h : j < l.length) i u, (E l[j])[i]? = some u → w.cell? ⟨b, off + j * k + i, none⟩ = some u) ∧ ∀ j (h : j < l.length), ok l[j] := by
  rcases open_slice ht h with h0' | ⟨a, len, cap, m, n, D, Pl, hcs, hb, hl, hm, hmm, hx, hi⟩
  · exact ⟨none, 0, [], h0'.1, Nat.le_refl _, Nat.zero_le _, fun h => absurd h (by simp), fun j h => absurd h (by simp)⟩
  · have hml : len ≤ m := by rw [hmm]; split <;> omega
    have key : ∀ j, j < len → ∃ s : α, ok s ∧ ∀ i u, (E s)[i]? = some u → w.cell? ((a.add (j * k)).add i) = some u := fun j hj => by
      obtain ⟨cs', hc, ht'⟩ := hi j (by omega)
      rw [hk] at hc
      obtain ⟨_, hcl, hat⟩ := World.cells?_some hc
      obtain ⟨s, rfl, hs⟩ := hdec _ _ _ ht'
      refine ⟨s, hs, fun i u hu => ?_⟩
      have hil := (List.getElem?_eq_some_iff.1 hu).1
      have := hat i (by omega)
      rw [this, hu]
    by_cases hz : len = 0
    · subst hz
      exact ⟨some a, cap, [], hcs, by simp, hm, fun h => absurd h (by simp), fun j h => absurd h (by simp)⟩
    · refine ⟨some a, cap, (List.range len).attach.map fun j => Classical.choose (key j.1 (List.mem_range.1 j.2)), by simpa using hcs, by simpa using hl, hm, fun _ => ?_, fun j h => ?_⟩
      · obtain ⟨b, off, spot⟩ := a
        obtain ⟨s0, _, h0⟩ := key 0 (by omega)
        have c0 := h0 0 _ (List.getElem?_eq_getElem (k0 s0))
        have hspot : spot = none := by simpa [Addr.add] using World.cell?_spot c0
        subst hspot
        have lt := World.block_lt_of_cell? w _ c0
        refine ⟨b, off, rfl, by simpa [Addr.add] using lt, fun j hj i u hu => ?_⟩
        simp only [List.getElem_map, List.getElem_attach, List.getElem_range] at hu
        have := (Classical.choose_spec (key j (by simpa using hj))).2 i u hu
        rw [Go.WideShapes.add_plain, Go.WideShapes.add_plain] at this
        exact this
      · simp only [List.getElem_map, List.getElem_attach, List.getElem_range]
        exact (Classical.choose_spec (key j (by simpa using h))).1
end
/-- What a spot's numbers are. -/
def Sp.ok (s : Sp) : Prop := (-9223372036854775808 ≤ s.br ∧ s.br ≤ 9223372036854775807) ∧ (-9223372036854775808 ≤ s.vol ∧ s.vol ≤ 9223372036854775807) ∧ (-9223372036854775808 ≤ s.blk ∧ s.blk ≤ 9223372036854775807) ∧ (0 ≤ s.num ∧ s.num ≤ 18446744073709551615)
section
variable {H : Type} {enc : TypeId × Value → H} {w : World} {base : Nat} {spare : Nat → Bool} {held : Bool}
theorem list4 {α : Type} {l : List α} (h : l.length = 4) : ∃ a b c d, l = [a, b, c, d] := by
  match l, h with
  | [a, b, c, d], _ => exact ⟨a, b, c, d, rfl⟩
set_option maxRecDepth 100000 in
theorem sp_of {fuel : Nat} {cs : List Value} {x : DataW H × List MemPlace} (h : DataW.trod enc Try.prog w base spare held fuel 26 cs = some x) : ∃ s : Sp, cs = s.cs ∧ s.ok := by
  obtain ⟨y0, y1, n, rfl, hl, h0, h1⟩ := trod_struct2 Try.underlying26 h
  have hc : Try.prog.cellsOf 26 = 4 := by kernel_rfl
  have hp : Try.prog.cellsOf 23 = 3 := by kernel_rfl
  have hi : Try.prog.cellsOf 3 = 1 := by kernel_rfl
  have hu : Try.prog.cellsOf 24 = 1 := by kernel_rfl
  rw [hc] at hl
  obtain ⟨c0, c1, c2, c3, rfl⟩ := list4 hl
  simp only [hp, hu] at h0 h1
  obtain ⟨z0, z1, z2, m, rfl, _, g0, g1, g2⟩ := trod_struct3 Try.underlying23 h0
  simp only [hi] at g0 g1 g2
  obtain ⟨n0, e0, _, w0⟩ := DataW.trod_int Try.underlying3 g0
  obtain ⟨n1, e1, _, w1⟩ := DataW.trod_int Try.underlying3 g1
  obtain ⟨n2, e2, _, w2⟩ := DataW.trod_int Try.underlying3 g2
  obtain ⟨n3, e3, _, w3⟩ := DataW.trod_int Try.underlying24 h1
  simp at e0 e1 e2 e3
  subst e0 e1 e2 e3
  exact ⟨⟨n0, n1, n2, n3⟩, rfl, wf_i64 w0, wf_i64 w1, wf_i64 w2, wf_u64 w3⟩
set_option maxRecDepth 100000 in
theorem open_spot {r : Reach} {b0 : Nat} {v : Value} {d : DataW H} {p : List MemPlace} (hv : Value.okWide Try.prog w r b0 26 v) (h : DataW.Trod enc Try.prog w base spare held 26 v d p) : ∃ s : Sp, v = s.v ∧ s.ok := by
  obtain ⟨cs, rfl, _⟩ := okWide_struct Try.underlying26 hv
  obtain ⟨fuel, hf⟩ := h
  obtain ⟨s, hs, ho⟩ := sp_of hf
  refine ⟨s, ?_, ho⟩
  have : cs.toList = s.cs := by simpa [Value.cells] using hs
  unfold Sp.v
  rw [← Array.toArray_toList (xs := cs), this]
  rfl
/-- A slice of spots that came in. -/
theorem open_spots {fuel : Nat} {cs : List Value} {x : DataW H × List MemPlace} (h : DataW.trod enc Try.prog w base spare held fuel 30 cs = some x) :
    ∃ (A : Option Addr) (cap : Nat) (l : List Sp), cs = [.slice A l.length cap] ∧ l.length ≤ cap ∧ cap ≤ maxLen ∧ SpotsAt w A l ∧ ∀ j (h : j < l.length), l[j].ok := by
  obtain ⟨A, cap, l, h1, h2, h3, h4, h5⟩ := open_rows Sp.cs Sp.ok 4 Try.underlying30 (by kernel_rfl) (fun s => by simp [Sp.cs]) (fun _ _ _ h => sp_of h) h
  refine ⟨A, cap, l, h1, h2, h3, fun hl => ?_, h5⟩
  obtain ⟨b, off, e, hlt, hc⟩ := h4 hl
  exact ⟨b, off, e, hlt, fun j hj => ⟨hc j hj 0 _ rfl, hc j hj 1 _ rfl, hc j hj 2 _ rfl, hc j hj 3 _ rfl⟩⟩
end
end Go.Proofs.Ytainljbkejafcaa.N

/- Deeds that came in. -/
namespace Go.Proofs.Ytainljbkejafcaa.N
open Go.ChangeShapes Go.WideShapes Go.Deep Go.RowKit Go.Joins
set_option linter.unusedVariables false
set_option linter.unusedSimpArgs false
def Dd.cs (d : Dd) : List Value := [.bool d.del, .int .i64 d.k.br, .int .i64 d.k.vol, .int .i64 d.k.blk, .int .u64 d.k.num, .int .u64 d.v]
section
variable {w : World} {H : Type} {enc : TypeId × Value → H} {base : Nat} {spare : Nat → Bool} {held : Bool}
theorem list6 {α : Type} {l : List α} (h : l.length = 6) : ∃ a b c d e f, l = [a, b, c, d, e, f] := by
  match l, h with
  | [a, b, c, d, e, f], _ => exact ⟨a, b, c, d, e, f, rfl⟩
set_option maxRecDepth 100000 in
theorem deed_of {fuel : Nat} {cs : List Value} {x : DataW H × List MemPlace} (h : DataW.trod enc Try.prog w base spare held fuel 51 cs = some x) : ∃ d : Dd, cs = d.cs ∧ d.k.ok := by
  obtain ⟨y0, y1, y2, n, rfl, hl, h0, h1, h2⟩ := trod_struct3 Try.underlying51 h
  have hc : Try.prog.cellsOf 51 = 6 := by kernel_rfl
  have hs : Try.prog.cellsOf 26 = 4 := by kernel_rfl
  have hb : Try.prog.cellsOf 4 = 1 := by kernel_rfl
  have hu : Try.prog.cellsOf 24 = 1 := by kernel_rfl
  rw [hc] at hl
  obtain ⟨c0, c1, c2, c3, c4, c5, rfl⟩ := list6 hl
  simp only [hs, hu, hb] at h0 h1 h2
  obtain ⟨b0, e0, _⟩ := DataW.trod_bool Try.underlying4 h0
  obtain ⟨s, e1, ho⟩ := sp_of h1
  obtain ⟨n3, e3, _, w3⟩ := DataW.trod_int Try.underlying24 h2
  simp [Sp.cs] at e0 e1 e3
  obtain ⟨f1, f2, f3, f4⟩ := e1
  subst e0 f1 f2 f3 f4 e3
  exact ⟨⟨b0, s, n3⟩, rfl, ho⟩
theorem open_deeds {fuel : Nat} {cs : List Value} {x : DataW H × List MemPlace} (h : DataW.trod enc Try.prog w base spare held fuel 46 cs = some x) :
    ∃ (A : Option Addr) (cap : Nat) (l : List Dd), cs = [.slice A l.length cap] ∧ l.length ≤ cap ∧ cap ≤ maxLen ∧ DeedsAt w A l ∧ ∀ j (h : j < l.length), l[j].k.ok := by
  obtain ⟨A, cap, l, h1, h2, h3, h4, h5⟩ := open_rows Dd.cs (fun d => d.k.ok) 6 Try.underlying46 (by kernel_rfl) (fun s => by simp [Dd.cs]) (fun _ _ _ h => deed_of h) h
  refine ⟨A, cap, l, h1, h2, h3, fun hl => ?_, h5⟩
  obtain ⟨b, off, e, hlt, hc⟩ := h4 hl
  exact ⟨b, off, e, hlt, fun j hj => ⟨hc j hj 0 _ rfl, hc j hj 1 _ rfl, hc j hj 2 _ rfl, hc j hj 3 _ rfl, hc j hj 4 _ rfl, hc j hj 5 _ rfl⟩⟩
end
end Go.Proofs.Ytainljbkejafcaa.N

/- The law NodeRight. -/
namespace Go.Proofs.Ytainljbkejafcaa.N
open Go.BigFrame Go.RowKit Go.Proofs.YtainljbkejafcaaW.PrintMore Go.Proofs.YtainljbkejafcaaW.PrintWords
set_option linter.unusedVariables false
set_option linter.unusedSimpArgs false
set_option maxHeartbeats 12800000 in
set_option maxRecDepth 100000 in
theorem rights_ok {w : World} {A : Option Addr} {c : Nat} {ds : List Dd} (hd : DeedsAt w A ds) (z : Nat → Nat) (hz : ∀ j, z j ≤ 255) (sp : Nat) (hsp : sp ≤ 255) :
    Calls Try.prog 8 #[.slice A ds.length c, .agg #[.int .u8 (z 0), .int .u8 (z 1), .int .u8 (z 2), .int .u8 (z 3)], .int .u8 sp] w fun e w' => e = .returned (.bool true) ∧ Below w.heap.size w w' := by
  have HD := Lib.hid hd
  have HZ := Lib.hid hz
  have HSp := Lib.hid hsp
  obtain ⟨N, hN⟩ : ∃ N, ds.length = N := ⟨_, rfl⟩
  have HN := Lib.hid hN
  rw [hN]
  clear hd hN hz hsp
  go_enter Try.func8, Try.ntmps8
  go_wp2_with fail
  have hbw : Below w.heap.size w (w.alloc (.cells #[.int .u8 (z 0), .int .u8 (z 1), .int .u8 (z 2), .int .u8 (z 3)] 58)) := (Below.refl _ _).alloc (Nat.le_refl _) _
  have hbox := heap_alloc_new w (.cells #[.int .u8 (z 0), .int .u8 (z 1), .int .u8 (z 2), .int .u8 (z 3)] 58)
  refine (awake_ok _).mono ?_
  rintro e w1 ⟨rfl, hb1⟩
  have zbox := (Array.getElem?_eq_some_iff.1 hbox).1
  have hbox1 := (hb1.block _ zbox).trans hbox
  have HB1 : Hid (Below w.heap.size w w1) := hbw.trans (hb1.mono hbw.size)
  have HBox := Lib.hid hbox1
  clear hbox hbw hb1 zbox hbox1
  by_cases hn : N ≤ 40
  case neg =>
    have hg : decide ((40 : Int) < (N : Int)) = true := by simp; omega
    go_wp2_with fail
    go_ret
    exact ⟨rfl, HB1.out⟩
  have hg : decide ((40 : Int) < (N : Int)) = false := by simp; omega
  have HP : Hid (Calls Try.prog 28 #[.slice A N c] w1 (PlayPost w1 (playE ds))) := by
    have := play_at (c := c) (HD.out.below HB1.out) (by rw [HN.out]; omega)
    rw [HN.out] at this
    exact this
  go_wp2_with fail
  refine HP.out.mono ?_
  rintro e w2 ⟨r, L, rfl, hr, hl, hb2, _⟩
  have HB2 := Lib.hid (HB1.out.trans (hb2.mono HB1.out.size))
  have HBox2 := Lib.hid ((hb2.block _ (Array.getElem?_eq_some_iff.1 HBox.out).1).trans HBox.out)
  have HA := Lib.hid (playE_asc ds)
  have hlen : (playE ds).length ≤ 40 := by have := playE_len ds; have := HN.out; omega
  clear hb2 HP HBox
  generalize playE ds = l at *
  have HL := Lib.hid hl
  have HR := Lib.hid hr
  clear hl hr
  cases r with
  | none =>
    have HN1 := Lib.hid (right_nil w2 true)
    go_wp2_with fail
    refine HN1.out.mono ?_
    rintro e w3 ⟨rfl, hb3⟩
    have HB3 := Lib.hid (HB2.out.trans (hb3.mono HB2.out.size))
    have HN2 := Lib.hid (right_nil w3 false)
    rw [show rightN 0 true = false by rfl]
    clear hb3
    go_wp2_with fail
    refine HN2.out.mono ?_
    rintro e w4 ⟨rfl, hb4⟩
    rw [show rightN 0 false = false by rfl]
    go_wp2_with fail
    go_ret
    exact ⟨rfl, HB3.out.trans (hb4.mono HB3.out.size)⟩
  | some a0 =>
    obtain ⟨q, rfl⟩ : ∃ q, a0 = ⟨q, 0, none⟩ := by
      rcases HR.out with ⟨e, _⟩ | ⟨q, _, _, e, _⟩
      · cases e
      · cases e; exact ⟨q, rfl⟩
    obtain ⟨M, hM⟩ : ∃ M, l.length = M := ⟨_, rfl⟩
    have HM := Lib.hid hM
    obtain ⟨A3, c3, n0⟩ := list_cell HL.out hM
    have HRt : Hid (∀ x : Wd (Below w2.heap.size w2), Calls Try.prog 27 #[.pointer (some ⟨q, 0, none⟩), .bool true] x.w fun e w'' => e = .returned (.bool true) ∧ ∃ m : Wd (Below w2.heap.size w2), w'' = m.w) := fun x => Calls.clsB (by have := root_right HR.out HA.out (by omega) x.w x.h true; simpa using this) (Nat.le_refl _)
    have HRf : Hid (∀ x : Wd (Below w2.heap.size w2), Calls Try.prog 27 #[.pointer (some ⟨q, 0, none⟩), .bool false] x.w fun e w'' => e = .returned (.bool (decide (2 ≤ M))) ∧ ∃ m : Wd (Below w2.heap.size w2), w'' = m.w) := fun x => Calls.clsB (by have := root_right HR.out HA.out (by omega) x.w x.h false; rw [hM] at this; simpa using this) (Nat.le_refl _)
    clear hM
    have x0 := cls_cell n0
    have := cls_ne w2
    clear n0
    go_wp2_with fail
    go_cut [51] (fun b wx => b = .bool false ∧ Below w2.heap.size w2 wx)
    case first =>
      by_cases h2 : 2 ≤ M
      all_goals (first
        | (rw [show decide (2 ≤ M) = true by simp [h2]] at HRf
           have f1 : decide ((2 : Int) ≤ (M : Int)) = true := by simp <;> omega
           clear h2)
        | (rw [show decide (2 ≤ M) = false by simp [h2]] at HRf
           have f1 : decide ((2 : Int) ≤ (M : Int)) = false := by simp <;> omega
           clear h2))
      all_goals (
        refine wp_region_cls (S := Below w2.heap.size w2) (by kernel_rfl) (by kernel_rfl) (bel_drewN _ _ (n := 1)) ?_
        repeat (go_big_quiet_step (with_reducible (first | exact HRt.out _ | exact HRf.out _)))
        refine wpQuiet_nil ?_
        rintro w9 ⟨⟨_, hx9⟩, rfl⟩
        try dsimp only
        go_wp2_with fail
        go_meet
        exact ⟨rfl, hx9⟩)
    case rest =>
      obtain ⟨rfl, hb3⟩ := hcut
      have HB3 := Lib.hid (HB2.out.trans (hb3.mono HB2.out.size))
      have HBox3 := Lib.hid ((hb3.block _ (Array.getElem?_eq_some_iff.1 HBox2.out).1).trans HBox2.out)
      have HR3 := Lib.hid (HR.out.below hb3)
      clear hb3 HRt HRf x0 this HR HBox2 HB2
      rcases HR3.out with ⟨e, _⟩ | ⟨q', h, n, e, hnd, h0, h2, h4⟩
      · cases e
      cases e
      obtain ⟨A1, c1, A2, n2, c2, A4, n4, c4, hq⟩ := nd_cells hnd
      have k0 : wc.cell? ⟨q, 0, none⟩ = some (.slice A1 n c1) := by simp only [World.cell?, hq]; rfl
      have k1 : wc.cell? ⟨q, 1, none⟩ = some (.slice A2 n2 c2) := by simp only [World.cell?, hq]; rfl
      have k2 : wc.cell? ⟨q, 2, none⟩ = some (.slice A4 n4 c4) := by simp only [World.cell?, hq]; rfl
      have qz := (Array.getElem?_eq_some_iff.1 hq).1
      have qn : q ≠ wc.heap.size := by omega
      go_wp2_with fail
      have hbx : Below wc.heap.size wc (wc.alloc (.cells #[.slice A1 n c1, .slice A2 n2 c2, .slice A4 n4 c4] 39)) := (Below.refl _ _).alloc (Nat.le_refl _) _
      have hnew := heap_alloc_new wc (.cells #[.slice A1 n c1, .slice A2 n2 c2, .slice A4 n4 c4] 39)
      have hcp : CpN wc (wc.alloc (.cells #[.slice A1 n c1, .slice A2 n2 c2, .slice A4 n4 c4] 39)) wc.heap.size h l n := cp_of hnd (hnew.trans hq.symm)
      have hh5 : h ≤ 5 := by
        have hp := hnd.tall h0 h2
        refine Nat.le_of_not_lt fun hc => ?_
        have : 2 ^ 6 ≤ 2 ^ h := Nat.pow_le_pow_right (by decide) (by omega)
        have := HM.out
        omega
      have HCp := Lib.hid hcp
      have HBx := Lib.hid hbx
      have hz := (Array.getElem?_eq_some_iff.1 hnew).1
      clear hcp hbx hnew k0 k1 k2 hq qz qn hnd
      generalize wc.alloc (.cells #[.slice A1 n c1, .slice A2 n2 c2, .slice A4 n4 c4] 39) = W4 at *
      obtain ⟨top, htop⟩ : ∃ top, wc.heap.size = top := ⟨_, rfl⟩
      have HTop := Lib.hid htop
      rw [htop] at HCp hz ⊢
      clear htop
      obtain ⟨w3, hw3⟩ : ∃ X, X = wc := ⟨wc, rfl⟩
      subst hw3
      go_loopw [11, 12] (fun mp ip X => WayRel w3 top mp ip X) (fun _ ip _ => (4 - intOf ip).toNat)
      case atStart => exact ⟨top, h, n, 0, l, rfl, rfl, by omega, by rw [HTop.out]; exact Nat.le_refl _, hz, HCp.out, h0, h2, h4, hh5, HA.out, lift_self _ _, HBx.out⟩
      case round =>
        obtain ⟨mb, h, n, i, l, rfl, rfl, hi, hmb, hmz, hcp, h0, h2, h4, hh, ha, hlf, hbr⟩ := hrel
        have HCp := Lib.hid hcp
        have HLf := Lib.hid hlf
        have HBr := Lib.hid hbr
        have HAs := Lib.hid ha
        have HNs := Lib.hid (show 0 < n ∧ (0 < h → 2 ≤ n) ∧ n ≤ 4 ∧ h ≤ 5 ∧ i ≤ 4 from ⟨h0, h2, h4, hh, hi⟩)
        have HM := Lib.hid (show w3.heap.size ≤ mb ∧ mb < wr.heap.size from ⟨hmb, hmz⟩)
        obtain ⟨C2, Q2, cc2, hc2, hQ⟩ := cp_kids hcp h0
        clear hcp hlf hbr ha h2 h4 hh HM
        have HM := Lib.hid (show w3.heap.size ≤ mb ∧ mb < wr.heap.size from ⟨hmb, hmz⟩)
        clear hmb hmz h0
        obtain ⟨W, hW⟩ : ∃ X, X = wr := ⟨wr, rfl⟩
        subst hW
        go_upto_region 16 with fail
        go_cut [69] (fun b X => b = .bool (decide (i < 4 ∧ h ≠ 0)) ∧ X = W)
        case first =>
          by_cases hi4 : i < 4
          · have f1 : decide ((i : Int) < 4) = true := by simp; omega
            by_cases hz : h = 0
            · have f2 : decide ((0 : Int) < (Q2 : Int)) = false := by have := hQ.2 hz; simp; omega
              have f3 : decide (i < 4 ∧ h ≠ 0) = false := by simp; omega
              have F3 := Lib.hid f3
              clear hQ hz hi hi4 f3
              go_wp2_with fail
              all_goals go_meet
              all_goals exact ⟨by have := F3.out; simp_all, rfl⟩
            · have f2 : decide ((0 : Int) < (Q2 : Int)) = true := by simp; rcases Nat.eq_zero_or_pos Q2 with e | e; exact absurd (hQ.1 e) hz; exact e
              have f3 : decide (i < 4 ∧ h ≠ 0) = true := by simp; omega
              have F3 := Lib.hid f3
              clear hQ hz hi hi4 f3
              go_wp2_with fail
              all_goals go_meet
              all_goals exact ⟨by have := F3.out; simp_all, rfl⟩
          · have f1 : decide ((i : Int) < 4) = false := by simp; omega
            have f3 : decide (i < 4 ∧ h ≠ 0) = false := by simp; omega
            have F3 := Lib.hid f3
            clear hQ hi hi4 f3
            go_wp2_with fail
            all_goals go_meet
            all_goals exact ⟨by have := F3.out; simp_all, rfl⟩
        case rest =>
          obtain ⟨rfl, rfl⟩ := hcut
          clear hc2 hQ
          by_cases hgo : i < 4 ∧ h ≠ 0
          · rw [decide_eq_true hgo]
            obtain ⟨hi4, hh0⟩ := hgo
            obtain ⟨h, rfl⟩ : ∃ h', h = h' + 1 := ⟨h - 1, by omega⟩
            obtain ⟨qs, ls, A, ca, C, cc, hn, rfl, hls, hp, hs, hkd, hall, hca, hcm, hcc, hcn⟩ := HCp.out
            clear HCp hh0
            have h2 : 2 ≤ n := HNs.out.2.1 (by omega)
            obtain ⟨zi, hzi⟩ : ∃ zi, z i = zi := ⟨_, rfl⟩
            have hz255 : zi ≤ 255 := by rw [← hzi]; exact HZ.out i
            obtain ⟨k, hk⟩ : ∃ k, zi % n = k := ⟨_, rfl⟩
            have hkn : k < n := by rw [← hk]; exact Nat.mod_lt _ (by omega)
            have hkq : k < qs.length := by omega
            have hkl : k < ls.length := by omega
            have hn4 : n ≤ 4 := HNs.out.2.2.1
            have q0 : IntKind.i64.wrap (zi : Int) = (zi : Int) := by rw [IntKind.wrap_i64]; omega
            have q2 : Int.tmod (zi : Int) (n : Int) = (k : Int) := by rw [Int.tmod_eq_emod_of_nonneg (by omega)]; omega
            have q4 : IntKind.i64.wrap (k : Int) = (k : Int) := by rw [IntKind.wrap_i64]; omega
            have d0 : ((n : Int) == 0) = false := by rw [beq_eq_false_iff_ne]; omega
            have d1 : (n : Int) ≠ 0 := by omega
            have d2 : (n == 0) = false := by rw [beq_eq_false_iff_ne]; omega
            have e1 : (0 : Int) ≤ (i : Int) := by omega
            have e2 : (i : Int) < 4 := by omega
            have m2 : wc.cell? ⟨mb, 2, none⟩ = some (.slice C n cc) := by simp only [World.cell?, hp]; rfl
            have hbx := (HBr.out.block _ (Array.getElem?_eq_some_iff.1 HBox3.out).1).trans HBox3.out
            have zc : wc.cell? ⟨w.heap.size, i, none⟩ = some (.int .u8 (zi : Nat)) := by
              have : i = 0 ∨ i = 1 ∨ i = 2 ∨ i = 3 := by omega
              rw [← hzi]
              rcases this with e | e | e | e <;> (rw [e]; simp only [World.cell?, hbx]; rfl)
            clear hbx
            have xm2 := cls_cell m2
            have xzc := cls_cell zc
            have HHs := Lib.hid (show n = qs.length ∧ ls.length = n ∧ n ≤ ca ∧ ca ≤ maxLen ∧ n ≤ cc ∧ cc ≤ maxLen ∧ 2 ≤ n ∧ i + 1 ≤ 4 ∧ k < n from ⟨hn, hls, hca, hcm, hcc, hcn, h2, hi4, hkn⟩)
            have HSt := Lib.hid (show SpotsAt w3 A (ls.map hd) ∧ KidsAt w3 C qs ∧ All2 (Kid w3 h 2) qs ls from ⟨hs, hkd, hall⟩)
            have HP := Lib.hid hp
            clear hk hkn hn4 hz255 hzi hn hls hca hcm hcc hcn h2 hi4 hi hs hkd hall zc hp
            have := cls_ne wc
            go_wp2_with fail
            refine wp_region_cls (S := Below wc.heap.size wc) (by kernel_rfl) (by kernel_rfl) (bel_drewN _ _ (n := 1)) ?_
            repeat (go_big_quiet_step (fail))
            refine wpQuiet_nil ?_
            rintro w5 ⟨⟨_, hx5⟩, rfl⟩
            try dsimp only
            clear xm2 xzc this q0 q2 q4 d0 d1 d2 m2
            obtain ⟨s, s2, s4, hkid⟩ := HSt.out.2.2.get k hkq hkl
            obtain ⟨A1, c1, A2, n2, c2, A4, n4, c4, hq⟩ := nd_cells hkid
            have hgd : qs.getD k 0 = qs[k] := by rw [List.getD_eq_getElem?_getD, List.getElem?_eq_getElem hkq]; rfl
            have hqz := (Array.getElem?_eq_some_iff.1 hq).1
            have hq5 : w5.heap[qs[k]]? = _ := (hx5.block _ (Nat.lt_of_lt_of_le hqz HBr.out.size)).trans ((HBr.out.block _ hqz).trans hq)
            have hqz5 := (Array.getElem?_eq_some_iff.1 hq5).1
            have hp5 := (hx5.block mb HM.out.2).trans HP.out
            have hmz5 := (Array.getElem?_eq_some_iff.1 hp5).1
            have hkd5 := (HSt.out.2.1.below HBr.out).below hx5
            obtain ⟨b, off, rfl, hblt, hcs⟩ := hkd5 (by omega)
            have kc := hcs k hkq
            have m2 : w5.cell? ⟨mb, 2, none⟩ = some (.slice (some ⟨b, off, none⟩) n cc) := by simp only [World.cell?, hp5]; rfl
            have kc0 : w5.cell? ⟨qs[k], 0, none⟩ = some (.slice A1 s c1) := by simp only [World.cell?, hq5]; rfl
            have kc1 : w5.cell? ⟨qs[k], 1, none⟩ = some (.slice A2 n2 c2) := by simp only [World.cell?, hq5]; rfl
            have kc2 : w5.cell? ⟨qs[k], 2, none⟩ = some (.slice A4 n4 c4) := by simp only [World.cell?, hq5]; rfl
            obtain ⟨v', w', hr', ho', hb'⟩ := app_K_run (w := (w5.alloc (.cells #[.slice A1 s c1, .slice A2 n2 c2, .slice A4 n4 c4] 39)).alloc (.cells #[] 36)) (w5.heap.size + 1) (.slice (some ⟨w5.heap.size + 1, 0, none⟩) 0 0) 0 [] (by have := empty_own (w5.alloc (.cells #[.slice A1 s c1, .slice A2 n2 c2, .slice A4 n4 c4] 39)) 36 1 (by decide); rw [World.size_alloc] at this; exact this) (some ⟨b, off, none⟩) n cc qs HHs.out.1.symm ((hkd5.below ((Below.refl _ _).alloc (Nat.le_refl _) _)).below ((Below.refl _ _).alloc (Nat.le_refl _) _)) (fun e => by cases e) n (by omega) (by have := HNs.out; omega) (by rw [World.size_alloc, World.size_alloc]; omega) 37
            rw [List.nil_append] at ho'
            obtain ⟨g, cg, hv', hBg, hrow, hc1, hc2⟩ := own_krow (by rw [← HHs.out.1]; exact ho') (by omega)
            rw [← HHs.out.1] at hv' hc1
            subst hv'
            have HRun := Lib.hid hr'
            have HSte := Lib.hid (way_round (top := top) (i := i) (k := k) (h := h) HM.out HHs.out ⟨HNs.out.2.2.1, HNs.out.2.2.2.1⟩ HSt.out.1 HSt.out.2.2 HAs.out HLf.out HBr.out hx5 HP.out hgd hq hb' hBg hrow hc1 hc2)
            have hsz := hb'.size
            rw [World.size_alloc, World.size_alloc] at hsz
            have hpw : w'.heap[mb]? = _ := (hb'.block mb (by omega)).trans ((alloc_stay _ _ mb (by rw [World.size_alloc]; omega)).trans ((alloc_stay _ _ mb hmz5).trans hp5))
            have m2' : w'.cell? ⟨mb, 2, none⟩ = some (.slice (some ⟨b, off, none⟩) n cc) := by simp only [World.cell?, hpw]; rfl
            have mf : w'.frozen? ⟨mb, 2, none⟩ = false := by simp only [World.frozen?, hpw]; simp
            have gf := hrow.frozen k
            have gc := hrow.cell k hkq
            have ng : mb ≠ g := by omega
            have ng' : g ≠ mb := by omega
            have l1 : mb < w5.heap.size := by omega
            have l2 : qs[k] < w5.heap.size := by omega
            have l3 : b < w5.heap.size := by omega
            have l4 : mb < w5.heap.size + 1 := by omega
            have e3 : (0 : Int) ≤ (k : Int) := by omega
            have e4 : (k : Int) < (n : Int) := by have := HHs.out; omega
            have e5 : k < n := HHs.out.2.2.2.2.2.2.2.2
            have e6 : (i : Int) + 1 ≤ 4 := by have := HHs.out.2.2.2.2.2.2.2.1; omega
            clear hr' ho' hb' hrow hpw hx5 hq hq5 hp5 hkd5 hcs hkid hgd hqz hqz5 hmz5 hblt hsz hBg hc1 hc2 hkl
            generalize qs[k]'(_) = q at *
            obtain ⟨wo, hwo⟩ : ∃ X, X = w5 := ⟨w5, rfl⟩
            subst hwo
            go_wp2_with (at_builtin; refine Lib.wpList_append_run _ rfl _ _ _ _ rfl _ _ rfl rfl _ _ HRun.out ?_)
            go_roundw
            case rel => exact HSte.out
            case measure => (simp [intOf] <;> omega)
          · rw [decide_eq_false hgo]
            obtain ⟨ks, vs, qs, A, ca, B, cb, C, cc, hma⟩ := cp_cells HCp.out HNs.out.1 HNs.out.2.1 HNs.out.2.2.1 HAs.out
            obtain ⟨W0, hW0⟩ : ∃ X, X = wc := ⟨wc, rfl⟩
            subst hW0
            obtain ⟨N, hN⟩ : ∃ N, ks.length = N := ⟨_, rfl⟩
            obtain ⟨V, hV⟩ : ∃ V, vs.length = V := ⟨_, rfl⟩
            obtain ⟨KN, hKN⟩ : ∃ KN, qs.length = KN := ⟨_, rfl⟩
            have HNk := Lib.hid hN
            have HNv := Lib.hid hV
            have HNq := Lib.hid hKN
            have HMb : Hid (Blk W0 mb #[.slice A N ca, .slice B V cb, .slice C KN cc] 39) := by have := hma.hp; rw [hN, hV, hKN] at this; exact this
            have HSs := Lib.hid (hma.keys.below HBr.out)
            have HSv := Lib.hid (hma.vals.below HBr.out)
            have HSq := Lib.hid (hma.kids.below HBr.out)
            have Hn1 := Lib.hid hma.na
            have Hn2 := Lib.hid hma.nb
            have Hn3 := Lib.hid hma.nc
            have HShp := Lib.hid hma.shp
            have HRis := Lib.hid hma.ris
            have hl1 := hma.h1
            have hl4 := hma.h4
            rw [hN, hV, hKN] at HShp
            rw [hN] at Hn1 hl1 hl4
            rw [hV] at Hn2
            rw [hKN] at Hn3
            have HLn : Hid (1 ≤ N ∧ N ≤ 4 ∧ V ≤ 4 ∧ KN ≤ 4) := ⟨hl1, hl4, by have := HShp.out; unfold Shp at this; omega, by have := HShp.out; unfold Shp at this; omega⟩
            have hMz : mb < W0.heap.size := HM.out.2
            have hMb : w3.heap.size ≤ mb := HM.out.1
            have hBW : w3.heap.size ≤ W0.heap.size := HBr.out.size
            clear hma hN hV hKN hl1 hl4 hgo HCp HAs HNs HBox3 HA HL HR3 HBx HTop HD HN
            go_upto_region 24 with fail
            go_cut [11] (fun m X => m = .pointer (some ⟨mb, 0, none⟩) ∧ ∃ v1 v2 v3, Own3 w3.heap.size W0 X mb v1 N (sps ks) v2 V (u64s vs) v3 KN (kps qs))
            case first =>
              have held : ∀ X, Below W0.heap.size W0 X → (fun w' => w'.cell? ⟨mb, 0, none⟩ = some (.slice A N ca) ∧ w'.cell? ⟨mb, 1, none⟩ = some (.slice B V cb) ∧ w'.cell? ⟨mb, 2, none⟩ = some (.slice C KN cc)) X := fun X hX => by
                have hP := HMb.out.below hX hMz
                exact ⟨(hP.cell 0).trans rfl, (hP.cell 1).trans rfl, (hP.cell 2).trans rfl⟩
              apply use_tail
              case main =>
                intro tail
                have cp0 : C3 W0 W0.drew none none none := ⟨bel_drewN _ _ (n := 1), trivial, trivial, trivial, (fun q hq => by cases hq), (fun q hq => by cases hq), (fun q hq => by cases hq)⟩
                refine Z_start [23, 26, 29] (fun w' => w'.cell? ⟨mb, 0, none⟩ = some (.slice A N ca) ∧ w'.cell? ⟨mb, 1, none⟩ = some (.slice B V cb) ∧ w'.cell? ⟨mb, 2, none⟩ = some (.slice C KN cc)) (by kernel_rfl) ?_
                generalize World.drew W0 = X0 at *
                refine Z_free (i := 0) (v := ?_) rfl (by kernel_rfl) (by kernel_rfl) (by kernel_rfl) (by kernel_rfl) (fun _ _ _ h => h) (Or.inl ⟨by rfl, ?_⟩) (fun _ => held _ cp0.b) ?_
                rotate_left
                · (intro w' hSw; (try dsimp only at hSw); go_simp <;> (with_reducible rfl))
                try simp only [Act.put, List.setIfInBounds_toArray, List.set_cons_zero, List.set_cons_succ]
                refine Z_free (i := 1) (v := ?_) rfl (by kernel_rfl) (by kernel_rfl) (by kernel_rfl) (by kernel_rfl) (fun _ _ _ h => h) (Or.inl ⟨by rfl, ?_⟩) (fun _ => held _ cp0.b) ?_
                rotate_left
                · (intro w' hSw; (try dsimp only at hSw); go_simp <;> (with_reducible rfl))
                try simp only [Act.put, List.setIfInBounds_toArray, List.set_cons_zero, List.set_cons_succ]
                refine Z_free (i := 2) (v := ?_) rfl (by kernel_rfl) (by kernel_rfl) (by kernel_rfl) (by kernel_rfl) (fun _ _ _ h => h) (Or.inl ⟨by rfl, ?_⟩) (fun _ => held _ cp0.b) ?_
                rotate_left
                · (intro w' hSw; (try dsimp only at hSw); go_simp <;> (with_reducible rfl))
                try simp only [Act.put, List.setIfInBounds_toArray, List.set_cons_zero, List.set_cons_succ]
                refine Z_free (i := 4) (v := ?_) rfl (by kernel_rfl) (by kernel_rfl) (by kernel_rfl) (by kernel_rfl) (fun _ _ _ h => h) (Or.inl ⟨by rfl, ?_⟩) (fun _ => held _ cp0.b) ?_
                rotate_left
                · (intro w' hSw; (try dsimp only at hSw); go_simp <;> (with_reducible rfl))
                try simp only [Act.put, List.setIfInBounds_toArray, List.set_cons_zero, List.set_cons_succ]
                refine Z_free (i := 10) (v := ?_) rfl (by kernel_rfl) (by kernel_rfl) (by kernel_rfl) (by kernel_rfl) (fun _ _ _ h => h) (Or.inl ⟨by rfl, ?_⟩) (fun _ => held _ cp0.b) ?_
                rotate_left
                · (intro w' hSw; (try dsimp only at hSw); go_simp <;> (with_reducible rfl))
                try simp only [Act.put, List.setIfInBounds_toArray, List.set_cons_zero, List.set_cons_succ]
                refine Z_free (i := 16) (v := ?_) rfl (by kernel_rfl) (by kernel_rfl) (by kernel_rfl) (by kernel_rfl) (fun _ _ _ h => h) (Or.inl ⟨by rfl, ?_⟩) (fun _ => held _ cp0.b) ?_
                rotate_left
                · (intro w' hSw; (try dsimp only at hSw); go_simp <;> (with_reducible rfl))
                try simp only [Act.put, List.setIfInBounds_toArray, List.set_cons_zero, List.set_cons_succ]
                refine Z_take (i := 5) (v := ?_) [[5], [5], [5]] rfl (by kernel_rfl) (by kernel_rfl) (by kernel_rfl) (by kernel_rfl) (by kernel_rfl) (fun _ _ _ h => h) (Or.inl ⟨by rfl, ?_⟩) (held _ cp0.b) ?_
                rotate_left
                · (intro w' hSw; (try dsimp only at hSw); go_simp <;> (with_reducible rfl))
                try simp only [Act.put, List.setIfInBounds_toArray, List.set_cons_zero, List.set_cons_succ]
                refine Z_take (i := 6) (v := ?_) [[6], [6], [6]] rfl (by kernel_rfl) (by kernel_rfl) (by kernel_rfl) (by kernel_rfl) (by kernel_rfl) (fun _ _ _ h => h) (Or.inl ⟨by rfl, ?_⟩) (held _ cp0.b) ?_
                rotate_left
                · (intro w' hSw; (try dsimp only at hSw); go_simp <;> (with_reducible rfl))
                try simp only [Act.put, List.setIfInBounds_toArray, List.set_cons_zero, List.set_cons_succ]
                refine Z_take (i := 7) (v := ?_) [[7], [7], [7]] rfl (by kernel_rfl) (by kernel_rfl) (by kernel_rfl) (by kernel_rfl) (by kernel_rfl) (fun _ _ _ h => h) (Or.inl ⟨by rfl, ?_⟩) (held _ cp0.b) ?_
                rotate_left
                · (intro w' hSw; (try dsimp only at hSw); go_simp <;> (with_reducible rfl))
                try simp only [Act.put, List.setIfInBounds_toArray, List.set_cons_zero, List.set_cons_succ]
                refine Z_take (i := 11) (v := ?_) [[13, 12, 11], [11], [11]] rfl (by kernel_rfl) (by kernel_rfl) (by kernel_rfl) (by kernel_rfl) (by kernel_rfl) (fun _ _ _ h => h) (Or.inl ⟨by rfl, ?_⟩) (held _ cp0.b) ?_
                rotate_left
                · (intro w' hSw; (try dsimp only at hSw); go_simp <;> (with_reducible rfl))
                try simp only [Act.put, List.setIfInBounds_toArray, List.set_cons_zero, List.set_cons_succ]
                refine Z_take (i := 12) (v := ?_) [[13, 12], [12], [12]] rfl (by kernel_rfl) (by kernel_rfl) (by kernel_rfl) (by kernel_rfl) (by kernel_rfl) (fun _ _ _ h => h) (Or.inl ⟨by rfl, ?_⟩) (held _ cp0.b) ?_
                rotate_left
                · (intro w' hSw; (try dsimp only at hSw); go_simp <;> (with_reducible rfl))
                try simp only [Act.put, List.setIfInBounds_toArray, List.set_cons_zero, List.set_cons_succ]
                refine Z_take (i := 13) (v := ?_) [[13], [13], [13]] rfl (by kernel_rfl) (by kernel_rfl) (by kernel_rfl) (by kernel_rfl) (by kernel_rfl) (fun _ _ _ h => h) (Or.inl ⟨by rfl, ?_⟩) (held _ cp0.b) ?_
                rotate_left
                · (intro w' hSw; (try dsimp only at hSw); go_simp <;> (with_reducible rfl))
                try simp only [Act.put, List.setIfInBounds_toArray, List.set_cons_zero, List.set_cons_succ]
                refine Z_take (i := 17) (v := ?_) [[19, 18, 17], [19, 18, 17], [17]] rfl (by kernel_rfl) (by kernel_rfl) (by kernel_rfl) (by kernel_rfl) (by kernel_rfl) (fun _ _ _ h => h) (Or.inl ⟨by rfl, ?_⟩) (held _ cp0.b) ?_
                rotate_left
                · (intro w' hSw; (try dsimp only at hSw); go_simp <;> (with_reducible rfl))
                try simp only [Act.put, List.setIfInBounds_toArray, List.set_cons_zero, List.set_cons_succ]
                refine Z_take (i := 18) (v := ?_) [[19, 18], [19, 18], [18]] rfl (by kernel_rfl) (by kernel_rfl) (by kernel_rfl) (by kernel_rfl) (by kernel_rfl) (fun _ _ _ h => h) (Or.inl ⟨by rfl, ?_⟩) (held _ cp0.b) ?_
                rotate_left
                · (intro w' hSw; (try dsimp only at hSw); go_simp <;> (with_reducible rfl))
                try simp only [Act.put, List.setIfInBounds_toArray, List.set_cons_zero, List.set_cons_succ]
                refine Z_take (i := 19) (v := ?_) [[19], [19], [19]] rfl (by kernel_rfl) (by kernel_rfl) (by kernel_rfl) (by kernel_rfl) (by kernel_rfl) (fun _ _ _ h => h) (Or.inl ⟨by rfl, ?_⟩) (held _ cp0.b) ?_
                rotate_left
                · (intro w' hSw; (try dsimp only at hSw); go_simp <;> (with_reducible rfl))
                try simp only [Act.put, List.setIfInBounds_toArray, List.set_cons_zero, List.set_cons_succ]
                refine Z_three (i := 3) (j := 9) (m := 15) rfl rfl rfl (by kernel_rfl) (by rfl) (by rfl) (by rfl) (fun K hK => ?_) (fun K hK => ?_) (fun K hK => ?_)
                · go_simp
                  have cp1 := cp0.new1
                  clear cp0
                  generalize hX1 : World.alloc X0 (.cells #[] 26) = X1 at cp1 ⊢
                  clear hX1
                  refine hK.out _ _ (fun _ => held _ cp1.b) ?_
                  clear hK K
                  try simp only [Act.put, List.setIfInBounds_toArray, List.set_cons_zero, List.set_cons_succ]
                  refine Z_three (i := 8) (j := 9) (m := 15) rfl rfl rfl (by kernel_rfl) (by rfl) (by rfl) (by rfl) (fun K hK => ?_) (fun K hK => ?_) (fun K hK => ?_)
                  · refine app_S (.tmp 115) (.tmp 119) rfl W0.heap.size (.slice (some ⟨X0.heap.size, 0, none⟩) 0 0) 0 [] (by rfl) cp1.p1 _ N _ ks (by rfl) HNk.out (HSs.out.below cp1.b) Hn1.out N (by omega) (by have := HLn.out; omega) cp1.b.size ?_
                    intro A2 c2 X2 ho2 hg2 ha2 hc2
                    rw [List.nil_append] at ho2
                    have cp2 := cp1.app1 ho2 hg2 ha2 hc2
                    clear cp1 ho2 hg2 ha2 hc2
                    refine hK.out _ _ (fun _ => held _ cp2.b) ?_
                    clear hK K
                    try simp only [Act.put, List.setIfInBounds_toArray, List.set_cons_zero, List.set_cons_succ]
                    refine Z_two (i := 9) (j := 15) rfl rfl (by kernel_rfl) (by rfl) (by rfl) (fun K hK => ?_) (fun K hK => ?_)
                    · go_simp
                      have cp3 := cp2.new2
                      clear cp2
                      generalize hX3 : World.alloc X2 (.cells #[] 24) = X3 at cp3 ⊢
                      clear hX3
                      refine hK.out _ _ (fun _ => held _ cp3.b) ?_
                      clear hK K
                      try simp only [Act.put, List.setIfInBounds_toArray, List.set_cons_zero, List.set_cons_succ]
                      refine Z_two (i := 14) (j := 15) rfl rfl (by kernel_rfl) (by rfl) (by rfl) (fun K hK => ?_) (fun K hK => ?_)
                      · refine app_U (.tmp 121) (.tmp 125) rfl W0.heap.size (.slice (some ⟨X2.heap.size, 0, none⟩) 0 0) 0 [] (by rfl) cp3.p2 _ V _ vs (by rfl) HNv.out (HSv.out.below cp3.b) Hn2.out V (by omega) (by have := HLn.out; omega) cp3.b.size ?_
                        intro A4 c4 X4 ho4 hg4 ha4 hc4
                        rw [List.nil_append] at ho4
                        have cp4 := cp3.app2 ho4 hg4 ha4 hc4
                        clear cp3 ho4 hg4 ha4 hc4
                        refine hK.out _ _ (fun _ => held _ cp4.b) ?_
                        clear hK K
                        try simp only [Act.put, List.setIfInBounds_toArray, List.set_cons_zero, List.set_cons_succ]
                        refine Z_one (i := 15) rfl (by kernel_rfl) (by rfl) (fun K hK => ?_)
                        go_simp
                        have cp5 := cp4.new3
                        clear cp4
                        generalize hX5 : World.alloc X4 (.cells #[] 36) = X5 at cp5 ⊢
                        clear hX5
                        refine hK.out _ _ (fun _ => held _ cp5.b) ?_
                        clear hK K
                        try simp only [Act.put, List.setIfInBounds_toArray, List.set_cons_zero, List.set_cons_succ]
                        refine Z_one (i := 20) rfl (by kernel_rfl) (by rfl) (fun K hK => ?_)
                        refine app_K (.tmp 127) (.tmp 131) rfl W0.heap.size (.slice (some ⟨X4.heap.size, 0, none⟩) 0 0) 0 [] (by rfl) cp5.p3 _ KN _ qs (by rfl) HNq.out (HSq.out.below cp5.b) Hn3.out KN (by omega) (by have := HLn.out; omega) cp5.b.size ?_
                        intro A6 c6 X6 ho6 hg6 ha6 hc6
                        rw [List.nil_append] at ho6
                        have cp6 := cp5.app3 ho6 hg6 ha6 hc6
                        clear cp5 ho6 hg6 ha6 hc6
                        refine hK.out _ _ (fun _ => held _ cp6.b) ?_
                        clear hK K
                        try simp only [Act.put, List.setIfInBounds_toArray, List.set_cons_zero, List.set_cons_succ]
                        refine Z_relist (listed' := #[true, true, true, true, true, true, true, true, true, true, true, true, true, true, true, true, true, true, true, true, true, false, false, false, false, false, false, false, false, false]) (by kernel_rfl) ?_
                        generalize (Value.slice (some ⟨X0.heap.size, 0, none⟩) 0 0) = b0
                        generalize (Value.slice (some ⟨X2.heap.size, 0, none⟩) 0 0) = b1
                        generalize (Value.slice (some ⟨X4.heap.size, 0, none⟩) 0 0) = b2
                        revert cp6
                        revert b2
                        revert b1
                        revert b0
                        revert X6
                        revert c6
                        revert A6
                        revert c4
                        revert A4
                        revert c2
                        revert A2
                        exact tail.out
                      · go_simp
                        have cp7 := cp3.new3
                        clear cp3
                        generalize hX7 : World.alloc X3 (.cells #[] 36) = X7 at cp7 ⊢
                        clear hX7
                        refine hK.out _ _ (fun _ => held _ cp7.b) ?_
                        clear hK K
                        try simp only [Act.put, List.setIfInBounds_toArray, List.set_cons_zero, List.set_cons_succ]
                        refine Z_one (i := 14) rfl (by kernel_rfl) (by rfl) (fun K hK => ?_)
                        refine app_U (.tmp 121) (.tmp 125) rfl W0.heap.size (.slice (some ⟨X2.heap.size, 0, none⟩) 0 0) 0 [] (by rfl) cp7.p2 _ V _ vs (by rfl) HNv.out (HSv.out.below cp7.b) Hn2.out V (by omega) (by have := HLn.out; omega) cp7.b.size ?_
                        intro A8 c8 X8 ho8 hg8 ha8 hc8
                        rw [List.nil_append] at ho8
                        have cp8 := cp7.app2 ho8 hg8 ha8 hc8
                        clear cp7 ho8 hg8 ha8 hc8
                        refine hK.out _ _ (fun _ => held _ cp8.b) ?_
                        clear hK K
                        try simp only [Act.put, List.setIfInBounds_toArray, List.set_cons_zero, List.set_cons_succ]
                        refine Z_one (i := 20) rfl (by kernel_rfl) (by rfl) (fun K hK => ?_)
                        refine app_K (.tmp 127) (.tmp 131) rfl W0.heap.size (.slice (some ⟨X3.heap.size, 0, none⟩) 0 0) 0 [] (by rfl) cp8.p3 _ KN _ qs (by rfl) HNq.out (HSq.out.below cp8.b) Hn3.out KN (by omega) (by have := HLn.out; omega) cp8.b.size ?_
                        intro A9 c9 X9 ho9 hg9 ha9 hc9
                        rw [List.nil_append] at ho9
                        have cp9 := cp8.app3 ho9 hg9 ha9 hc9
                        clear cp8 ho9 hg9 ha9 hc9
                        refine hK.out _ _ (fun _ => held _ cp9.b) ?_
                        clear hK K
                        try simp only [Act.put, List.setIfInBounds_toArray, List.set_cons_zero, List.set_cons_succ]
                        refine Z_relist (listed' := #[true, true, true, true, true, true, true, true, true, true, true, true, true, true, true, true, true, true, true, true, true, false, false, false, false, false, false, false, false, false]) (by kernel_rfl) ?_
                        generalize (Value.slice (some ⟨X0.heap.size, 0, none⟩) 0 0) = b0
                        generalize (Value.slice (some ⟨X2.heap.size, 0, none⟩) 0 0) = b1
                        generalize (Value.slice (some ⟨X3.heap.size, 0, none⟩) 0 0) = b2
                        revert cp9
                        revert b2
                        revert b1
                        revert b0
                        revert X9
                        revert c9
                        revert A9
                        revert c8
                        revert A8
                        revert c2
                        revert A2
                        exact tail.out
                    · go_simp
                      have cp10 := cp2.new3
                      clear cp2
                      generalize hX10 : World.alloc X2 (.cells #[] 36) = X10 at cp10 ⊢
                      clear hX10
                      refine hK.out _ _ (fun _ => held _ cp10.b) ?_
                      clear hK K
                      try simp only [Act.put, List.setIfInBounds_toArray, List.set_cons_zero, List.set_cons_succ]
                      refine Z_one (i := 9) rfl (by kernel_rfl) (by rfl) (fun K hK => ?_)
                      go_simp
                      have cp11 := cp10.new2
                      clear cp10
                      generalize hX11 : World.alloc X10 (.cells #[] 24) = X11 at cp11 ⊢
                      clear hX11
                      refine hK.out _ _ (fun _ => held _ cp11.b) ?_
                      clear hK K
                      try simp only [Act.put, List.setIfInBounds_toArray, List.set_cons_zero, List.set_cons_succ]
                      refine Z_one (i := 14) rfl (by kernel_rfl) (by rfl) (fun K hK => ?_)
                      refine app_U (.tmp 121) (.tmp 125) rfl W0.heap.size (.slice (some ⟨X10.heap.size, 0, none⟩) 0 0) 0 [] (by rfl) cp11.p2 _ V _ vs (by rfl) HNv.out (HSv.out.below cp11.b) Hn2.out V (by omega) (by have := HLn.out; omega) cp11.b.size ?_
                      intro A12 c12 X12 ho12 hg12 ha12 hc12
                      rw [List.nil_append] at ho12
                      have cp12 := cp11.app2 ho12 hg12 ha12 hc12
                      clear cp11 ho12 hg12 ha12 hc12
                      refine hK.out _ _ (fun _ => held _ cp12.b) ?_
                      clear hK K
                      try simp only [Act.put, List.setIfInBounds_toArray, List.set_cons_zero, List.set_cons_succ]
                      refine Z_one (i := 20) rfl (by kernel_rfl) (by rfl) (fun K hK => ?_)
                      refine app_K (.tmp 127) (.tmp 131) rfl W0.heap.size (.slice (some ⟨X2.heap.size, 0, none⟩) 0 0) 0 [] (by rfl) cp12.p3 _ KN _ qs (by rfl) HNq.out (HSq.out.below cp12.b) Hn3.out KN (by omega) (by have := HLn.out; omega) cp12.b.size ?_
                      intro A13 c13 X13 ho13 hg13 ha13 hc13
                      rw [List.nil_append] at ho13
                      have cp13 := cp12.app3 ho13 hg13 ha13 hc13
                      clear cp12 ho13 hg13 ha13 hc13
                      refine hK.out _ _ (fun _ => held _ cp13.b) ?_
                      clear hK K
                      try simp only [Act.put, List.setIfInBounds_toArray, List.set_cons_zero, List.set_cons_succ]
                      refine Z_relist (listed' := #[true, true, true, true, true, true, true, true, true, true, true, true, true, true, true, true, true, true, true, true, true, false, false, false, false, false, false, false, false, false]) (by kernel_rfl) ?_
                      generalize (Value.slice (some ⟨X0.heap.size, 0, none⟩) 0 0) = b0
                      generalize (Value.slice (some ⟨X10.heap.size, 0, none⟩) 0 0) = b1
                      generalize (Value.slice (some ⟨X2.heap.size, 0, none⟩) 0 0) = b2
                      revert cp13
                      revert b2
                      revert b1
                      revert b0
                      revert X13
                      revert c13
                      revert A13
                      revert c12
                      revert A12
                      revert c2
                      revert A2
                      exact tail.out
                  · go_simp
                    have cp14 := cp1.new2
                    clear cp1
                    generalize hX14 : World.alloc X1 (.cells #[] 24) = X14 at cp14 ⊢
                    clear hX14
                    refine hK.out _ _ (fun _ => held _ cp14.b) ?_
                    clear hK K
                    try simp only [Act.put, List.setIfInBounds_toArray, List.set_cons_zero, List.set_cons_succ]
                    refine Z_two (i := 8) (j := 15) rfl rfl (by kernel_rfl) (by rfl) (by rfl) (fun K hK => ?_) (fun K hK => ?_)
                    · refine app_S (.tmp 115) (.tmp 119) rfl W0.heap.size (.slice (some ⟨X0.heap.size, 0, none⟩) 0 0) 0 [] (by rfl) cp14.p1 _ N _ ks (by rfl) HNk.out (HSs.out.below cp14.b) Hn1.out N (by omega) (by have := HLn.out; omega) cp14.b.size ?_
                      intro A15 c15 X15 ho15 hg15 ha15 hc15
                      rw [List.nil_append] at ho15
                      have cp15 := cp14.app1 ho15 hg15 ha15 hc15
                      clear cp14 ho15 hg15 ha15 hc15
                      refine hK.out _ _ (fun _ => held _ cp15.b) ?_
                      clear hK K
                      try simp only [Act.put, List.setIfInBounds_toArray, List.set_cons_zero, List.set_cons_succ]
                      refine Z_two (i := 14) (j := 15) rfl rfl (by kernel_rfl) (by rfl) (by rfl) (fun K hK => ?_) (fun K hK => ?_)
                      · refine app_U (.tmp 121) (.tmp 125) rfl W0.heap.size (.slice (some ⟨X1.heap.size, 0, none⟩) 0 0) 0 [] (by rfl) cp15.p2 _ V _ vs (by rfl) HNv.out (HSv.out.below cp15.b) Hn2.out V (by omega) (by have := HLn.out; omega) cp15.b.size ?_
                        intro A16 c16 X16 ho16 hg16 ha16 hc16
                        rw [List.nil_append] at ho16
                        have cp16 := cp15.app2 ho16 hg16 ha16 hc16
                        clear cp15 ho16 hg16 ha16 hc16
                        refine hK.out _ _ (fun _ => held _ cp16.b) ?_
                        clear hK K
                        try simp only [Act.put, List.setIfInBounds_toArray, List.set_cons_zero, List.set_cons_succ]
                        refine Z_one (i := 15) rfl (by kernel_rfl) (by rfl) (fun K hK => ?_)
                        go_simp
                        have cp17 := cp16.new3
                        clear cp16
                        generalize hX17 : World.alloc X16 (.cells #[] 36) = X17 at cp17 ⊢
                        clear hX17
                        refine hK.out _ _ (fun _ => held _ cp17.b) ?_
                        clear hK K
                        try simp only [Act.put, List.setIfInBounds_toArray, List.set_cons_zero, List.set_cons_succ]
                        refine Z_one (i := 20) rfl (by kernel_rfl) (by rfl) (fun K hK => ?_)
                        refine app_K (.tmp 127) (.tmp 131) rfl W0.heap.size (.slice (some ⟨X16.heap.size, 0, none⟩) 0 0) 0 [] (by rfl) cp17.p3 _ KN _ qs (by rfl) HNq.out (HSq.out.below cp17.b) Hn3.out KN (by omega) (by have := HLn.out; omega) cp17.b.size ?_
                        intro A18 c18 X18 ho18 hg18 ha18 hc18
                        rw [List.nil_append] at ho18
                        have cp18 := cp17.app3 ho18 hg18 ha18 hc18
                        clear cp17 ho18 hg18 ha18 hc18
                        refine hK.out _ _ (fun _ => held _ cp18.b) ?_
                        clear hK K
                        try simp only [Act.put, List.setIfInBounds_toArray, List.set_cons_zero, List.set_cons_succ]
                        refine Z_relist (listed' := #[true, true, true, true, true, true, true, true, true, true, true, true, true, true, true, true, true, true, true, true, true, false, false, false, false, false, false, false, false, false]) (by kernel_rfl) ?_
                        generalize (Value.slice (some ⟨X0.heap.size, 0, none⟩) 0 0) = b0
                        generalize (Value.slice (some ⟨X1.heap.size, 0, none⟩) 0 0) = b1
                        generalize (Value.slice (some ⟨X16.heap.size, 0, none⟩) 0 0) = b2
                        revert cp18
                        revert b2
                        revert b1
                        revert b0
                        revert X18
                        revert c18
                        revert A18
                        revert c16
                        revert A16
                        revert c15
                        revert A15
                        exact tail.out
                      · go_simp
                        have cp19 := cp15.new3
                        clear cp15
                        generalize hX19 : World.alloc X15 (.cells #[] 36) = X19 at cp19 ⊢
                        clear hX19
                        refine hK.out _ _ (fun _ => held _ cp19.b) ?_
                        clear hK K
                        try simp only [Act.put, List.setIfInBounds_toArray, List.set_cons_zero, List.set_cons_succ]
                        refine Z_one (i := 14) rfl (by kernel_rfl) (by rfl) (fun K hK => ?_)
                        refine app_U (.tmp 121) (.tmp 125) rfl W0.heap.size (.slice (some ⟨X1.heap.size, 0, none⟩) 0 0) 0 [] (by rfl) cp19.p2 _ V _ vs (by rfl) HNv.out (HSv.out.below cp19.b) Hn2.out V (by omega) (by have := HLn.out; omega) cp19.b.size ?_
                        intro A20 c20 X20 ho20 hg20 ha20 hc20
                        rw [List.nil_append] at ho20
                        have cp20 := cp19.app2 ho20 hg20 ha20 hc20
                        clear cp19 ho20 hg20 ha20 hc20
                        refine hK.out _ _ (fun _ => held _ cp20.b) ?_
                        clear hK K
                        try simp only [Act.put, List.setIfInBounds_toArray, List.set_cons_zero, List.set_cons_succ]
                        refine Z_one (i := 20) rfl (by kernel_rfl) (by rfl) (fun K hK => ?_)
                        refine app_K (.tmp 127) (.tmp 131) rfl W0.heap.size (.slice (some ⟨X15.heap.size, 0, none⟩) 0 0) 0 [] (by rfl) cp20.p3 _ KN _ qs (by rfl) HNq.out (HSq.out.below cp20.b) Hn3.out KN (by omega) (by have := HLn.out; omega) cp20.b.size ?_
                        intro A21 c21 X21 ho21 hg21 ha21 hc21
                        rw [List.nil_append] at ho21
                        have cp21 := cp20.app3 ho21 hg21 ha21 hc21
                        clear cp20 ho21 hg21 ha21 hc21
                        refine hK.out _ _ (fun _ => held _ cp21.b) ?_
                        clear hK K
                        try simp only [Act.put, List.setIfInBounds_toArray, List.set_cons_zero, List.set_cons_succ]
                        refine Z_relist (listed' := #[true, true, true, true, true, true, true, true, true, true, true, true, true, true, true, true, true, true, true, true, true, false, false, false, false, false, false, false, false, false]) (by kernel_rfl) ?_
                        generalize (Value.slice (some ⟨X0.heap.size, 0, none⟩) 0 0) = b0
                        generalize (Value.slice (some ⟨X1.heap.size, 0, none⟩) 0 0) = b1
                        generalize (Value.slice (some ⟨X15.heap.size, 0, none⟩) 0 0) = b2
                        revert cp21
                        revert b2
                        revert b1
                        revert b0
                        revert X21
                        revert c21
                        revert A21
                        revert c20
                        revert A20
                        revert c15
                        revert A15
                        exact tail.out
                    · go_simp
                      have cp22 := cp14.new3
                      clear cp14
                      generalize hX22 : World.alloc X14 (.cells #[] 36) = X22 at cp22 ⊢
                      clear hX22
                      refine hK.out _ _ (fun _ => held _ cp22.b) ?_
                      clear hK K
                      try simp only [Act.put, List.setIfInBounds_toArray, List.set_cons_zero, List.set_cons_succ]
                      refine Z_one (i := 8) rfl (by kernel_rfl) (by rfl) (fun K hK => ?_)
                      refine app_S (.tmp 115) (.tmp 119) rfl W0.heap.size (.slice (some ⟨X0.heap.size, 0, none⟩) 0 0) 0 [] (by rfl) cp22.p1 _ N _ ks (by rfl) HNk.out (HSs.out.below cp22.b) Hn1.out N (by omega) (by have := HLn.out; omega) cp22.b.size ?_
                      intro A23 c23 X23 ho23 hg23 ha23 hc23
                      rw [List.nil_append] at ho23
                      have cp23 := cp22.app1 ho23 hg23 ha23 hc23
                      clear cp22 ho23 hg23 ha23 hc23
                      refine hK.out _ _ (fun _ => held _ cp23.b) ?_
                      clear hK K
                      try simp only [Act.put, List.setIfInBounds_toArray, List.set_cons_zero, List.set_cons_succ]
                      refine Z_one (i := 14) rfl (by kernel_rfl) (by rfl) (fun K hK => ?_)
                      refine app_U (.tmp 121) (.tmp 125) rfl W0.heap.size (.slice (some ⟨X1.heap.size, 0, none⟩) 0 0) 0 [] (by rfl) cp23.p2 _ V _ vs (by rfl) HNv.out (HSv.out.below cp23.b) Hn2.out V (by omega) (by have := HLn.out; omega) cp23.b.size ?_
                      intro A24 c24 X24 ho24 hg24 ha24 hc24
                      rw [List.nil_append] at ho24
                      have cp24 := cp23.app2 ho24 hg24 ha24 hc24
                      clear cp23 ho24 hg24 ha24 hc24
                      refine hK.out _ _ (fun _ => held _ cp24.b) ?_
                      clear hK K
                      try simp only [Act.put, List.setIfInBounds_toArray, List.set_cons_zero, List.set_cons_succ]
                      refine Z_one (i := 20) rfl (by kernel_rfl) (by rfl) (fun K hK => ?_)
                      refine app_K (.tmp 127) (.tmp 131) rfl W0.heap.size (.slice (some ⟨X14.heap.size, 0, none⟩) 0 0) 0 [] (by rfl) cp24.p3 _ KN _ qs (by rfl) HNq.out (HSq.out.below cp24.b) Hn3.out KN (by omega) (by have := HLn.out; omega) cp24.b.size ?_
                      intro A25 c25 X25 ho25 hg25 ha25 hc25
                      rw [List.nil_append] at ho25
                      have cp25 := cp24.app3 ho25 hg25 ha25 hc25
                      clear cp24 ho25 hg25 ha25 hc25
                      refine hK.out _ _ (fun _ => held _ cp25.b) ?_
                      clear hK K
                      try simp only [Act.put, List.setIfInBounds_toArray, List.set_cons_zero, List.set_cons_succ]
                      refine Z_relist (listed' := #[true, true, true, true, true, true, true, true, true, true, true, true, true, true, true, true, true, true, true, true, true, false, false, false, false, false, false, false, false, false]) (by kernel_rfl) ?_
                      generalize (Value.slice (some ⟨X0.heap.size, 0, none⟩) 0 0) = b0
                      generalize (Value.slice (some ⟨X1.heap.size, 0, none⟩) 0 0) = b1
                      generalize (Value.slice (some ⟨X14.heap.size, 0, none⟩) 0 0) = b2
                      revert cp25
                      revert b2
                      revert b1
                      revert b0
                      revert X25
                      revert c25
                      revert A25
                      revert c24
                      revert A24
                      revert c23
                      revert A23
                      exact tail.out
                  · go_simp
                    have cp26 := cp1.new3
                    clear cp1
                    generalize hX26 : World.alloc X1 (.cells #[] 36) = X26 at cp26 ⊢
                    clear hX26
                    refine hK.out _ _ (fun _ => held _ cp26.b) ?_
                    clear hK K
                    try simp only [Act.put, List.setIfInBounds_toArray, List.set_cons_zero, List.set_cons_succ]
                    refine Z_two (i := 8) (j := 9) rfl rfl (by kernel_rfl) (by rfl) (by rfl) (fun K hK => ?_) (fun K hK => ?_)
                    · refine app_S (.tmp 115) (.tmp 119) rfl W0.heap.size (.slice (some ⟨X0.heap.size, 0, none⟩) 0 0) 0 [] (by rfl) cp26.p1 _ N _ ks (by rfl) HNk.out (HSs.out.below cp26.b) Hn1.out N (by omega) (by have := HLn.out; omega) cp26.b.size ?_
                      intro A27 c27 X27 ho27 hg27 ha27 hc27
                      rw [List.nil_append] at ho27
                      have cp27 := cp26.app1 ho27 hg27 ha27 hc27
                      clear cp26 ho27 hg27 ha27 hc27
                      refine hK.out _ _ (fun _ => held _ cp27.b) ?_
                      clear hK K
                      try simp only [Act.put, List.setIfInBounds_toArray, List.set_cons_zero, List.set_cons_succ]
                      refine Z_one (i := 9) rfl (by kernel_rfl) (by rfl) (fun K hK => ?_)
                      go_simp
                      have cp28 := cp27.new2
                      clear cp27
                      generalize hX28 : World.alloc X27 (.cells #[] 24) = X28 at cp28 ⊢
                      clear hX28
                      refine hK.out _ _ (fun _ => held _ cp28.b) ?_
                      clear hK K
                      try simp only [Act.put, List.setIfInBounds_toArray, List.set_cons_zero, List.set_cons_succ]
                      refine Z_one (i := 14) rfl (by kernel_rfl) (by rfl) (fun K hK => ?_)
                      refine app_U (.tmp 121) (.tmp 125) rfl W0.heap.size (.slice (some ⟨X27.heap.size, 0, none⟩) 0 0) 0 [] (by rfl) cp28.p2 _ V _ vs (by rfl) HNv.out (HSv.out.below cp28.b) Hn2.out V (by omega) (by have := HLn.out; omega) cp28.b.size ?_
                      intro A29 c29 X29 ho29 hg29 ha29 hc29
                      rw [List.nil_append] at ho29
                      have cp29 := cp28.app2 ho29 hg29 ha29 hc29
                      clear cp28 ho29 hg29 ha29 hc29
                      refine hK.out _ _ (fun _ => held _ cp29.b) ?_
                      clear hK K
                      try simp only [Act.put, List.setIfInBounds_toArray, List.set_cons_zero, List.set_cons_succ]
                      refine Z_one (i := 20) rfl (by kernel_rfl) (by rfl) (fun K hK => ?_)
                      refine app_K (.tmp 127) (.tmp 131) rfl W0.heap.size (.slice (some ⟨X1.heap.size, 0, none⟩) 0 0) 0 [] (by rfl) cp29.p3 _ KN _ qs (by rfl) HNq.out (HSq.out.below cp29.b) Hn3.out KN (by omega) (by have := HLn.out; omega) cp29.b.size ?_
                      intro A30 c30 X30 ho30 hg30 ha30 hc30
                      rw [List.nil_append] at ho30
                      have cp30 := cp29.app3 ho30 hg30 ha30 hc30
                      clear cp29 ho30 hg30 ha30 hc30
                      refine hK.out _ _ (fun _ => held _ cp30.b) ?_
                      clear hK K
                      try simp only [Act.put, List.setIfInBounds_toArray, List.set_cons_zero, List.set_cons_succ]
                      refine Z_relist (listed' := #[true, true, true, true, true, true, true, true, true, true, true, true, true, true, true, true, true, true, true, true, true, false, false, false, false, false, false, false, false, false]) (by kernel_rfl) ?_
                      generalize (Value.slice (some ⟨X0.heap.size, 0, none⟩) 0 0) = b0
                      generalize (Value.slice (some ⟨X27.heap.size, 0, none⟩) 0 0) = b1
                      generalize (Value.slice (some ⟨X1.heap.size, 0, none⟩) 0 0) = b2
                      revert cp30
                      revert b2
                      revert b1
                      revert b0
                      revert X30
                      revert c30
                      revert A30
                      revert c29
                      revert A29
                      revert c27
                      revert A27
                      exact tail.out
                    · go_simp
                      have cp31 := cp26.new2
                      clear cp26
                      generalize hX31 : World.alloc X26 (.cells #[] 24) = X31 at cp31 ⊢
                      clear hX31
                      refine hK.out _ _ (fun _ => held _ cp31.b) ?_
                      clear hK K
                      try simp only [Act.put, List.setIfInBounds_toArray, List.set_cons_zero, List.set_cons_succ]
                      refine Z_one (i := 8) rfl (by kernel_rfl) (by rfl) (fun K hK => ?_)
                      refine app_S (.tmp 115) (.tmp 119) rfl W0.heap.size (.slice (some ⟨X0.heap.size, 0, none⟩) 0 0) 0 [] (by rfl) cp31.p1 _ N _ ks (by rfl) HNk.out (HSs.out.below cp31.b) Hn1.out N (by omega) (by have := HLn.out; omega) cp31.b.size ?_
                      intro A32 c32 X32 ho32 hg32 ha32 hc32
                      rw [List.nil_append] at ho32
                      have cp32 := cp31.app1 ho32 hg32 ha32 hc32
                      clear cp31 ho32 hg32 ha32 hc32
                      refine hK.out _ _ (fun _ => held _ cp32.b) ?_
                      clear hK K
                      try simp only [Act.put, List.setIfInBounds_toArray, List.set_cons_zero, List.set_cons_succ]
                      refine Z_one (i := 14) rfl (by kernel_rfl) (by rfl) (fun K hK => ?_)
                      refine app_U (.tmp 121) (.tmp 125) rfl W0.heap.size (.slice (some ⟨X26.heap.size, 0, none⟩) 0 0) 0 [] (by rfl) cp32.p2 _ V _ vs (by rfl) HNv.out (HSv.out.below cp32.b) Hn2.out V (by omega) (by have := HLn.out; omega) cp32.b.size ?_
                      intro A33 c33 X33 ho33 hg33 ha33 hc33
                      rw [List.nil_append] at ho33
                      have cp33 := cp32.app2 ho33 hg33 ha33 hc33
                      clear cp32 ho33 hg33 ha33 hc33
                      refine hK.out _ _ (fun _ => held _ cp33.b) ?_
                      clear hK K
                      try simp only [Act.put, List.setIfInBounds_toArray, List.set_cons_zero, List.set_cons_succ]
                      refine Z_one (i := 20) rfl (by kernel_rfl) (by rfl) (fun K hK => ?_)
                      refine app_K (.tmp 127) (.tmp 131) rfl W0.heap.size (.slice (some ⟨X1.heap.size, 0, none⟩) 0 0) 0 [] (by rfl) cp33.p3 _ KN _ qs (by rfl) HNq.out (HSq.out.below cp33.b) Hn3.out KN (by omega) (by have := HLn.out; omega) cp33.b.size ?_
                      intro A34 c34 X34 ho34 hg34 ha34 hc34
                      rw [List.nil_append] at ho34
                      have cp34 := cp33.app3 ho34 hg34 ha34 hc34
                      clear cp33 ho34 hg34 ha34 hc34
                      refine hK.out _ _ (fun _ => held _ cp34.b) ?_
                      clear hK K
                      try simp only [Act.put, List.setIfInBounds_toArray, List.set_cons_zero, List.set_cons_succ]
                      refine Z_relist (listed' := #[true, true, true, true, true, true, true, true, true, true, true, true, true, true, true, true, true, true, true, true, true, false, false, false, false, false, false, false, false, false]) (by kernel_rfl) ?_
                      generalize (Value.slice (some ⟨X0.heap.size, 0, none⟩) 0 0) = b0
                      generalize (Value.slice (some ⟨X26.heap.size, 0, none⟩) 0 0) = b1
                      generalize (Value.slice (some ⟨X1.heap.size, 0, none⟩) 0 0) = b2
                      revert cp34
                      revert b2
                      revert b1
                      revert b0
                      revert X34
                      revert c34
                      revert A34
                      revert c33
                      revert A33
                      revert c32
                      revert A32
                      exact tail.out
                · go_simp
                  have cp35 := cp0.new2
                  clear cp0
                  generalize hX35 : World.alloc X0 (.cells #[] 24) = X35 at cp35 ⊢
                  clear hX35
                  refine hK.out _ _ (fun _ => held _ cp35.b) ?_
                  clear hK K
                  try simp only [Act.put, List.setIfInBounds_toArray, List.set_cons_zero, List.set_cons_succ]
                  refine Z_two (i := 3) (j := 15) rfl rfl (by kernel_rfl) (by rfl) (by rfl) (fun K hK => ?_) (fun K hK => ?_)
                  · go_simp
                    have cp36 := cp35.new1
                    clear cp35
                    generalize hX36 : World.alloc X35 (.cells #[] 26) = X36 at cp36 ⊢
                    clear hX36
                    refine hK.out _ _ (fun _ => held _ cp36.b) ?_
                    clear hK K
                    try simp only [Act.put, List.setIfInBounds_toArray, List.set_cons_zero, List.set_cons_succ]
                    refine Z_two (i := 8) (j := 15) rfl rfl (by kernel_rfl) (by rfl) (by rfl) (fun K hK => ?_) (fun K hK => ?_)
                    · refine app_S (.tmp 115) (.tmp 119) rfl W0.heap.size (.slice (some ⟨X35.heap.size, 0, none⟩) 0 0) 0 [] (by rfl) cp36.p1 _ N _ ks (by rfl) HNk.out (HSs.out.below cp36.b) Hn1.out N (by omega) (by have := HLn.out; omega) cp36.b.size ?_
                      intro A37 c37 X37 ho37 hg37 ha37 hc37
                      rw [List.nil_append] at ho37
                      have cp37 := cp36.app1 ho37 hg37 ha37 hc37
                      clear cp36 ho37 hg37 ha37 hc37
                      refine hK.out _ _ (fun _ => held _ cp37.b) ?_
                      clear hK K
                      try simp only [Act.put, List.setIfInBounds_toArray, List.set_cons_zero, List.set_cons_succ]
                      refine Z_two (i := 14) (j := 15) rfl rfl (by kernel_rfl) (by rfl) (by rfl) (fun K hK => ?_) (fun K hK => ?_)
                      · refine app_U (.tmp 121) (.tmp 125) rfl W0.heap.size (.slice (some ⟨X0.heap.size, 0, none⟩) 0 0) 0 [] (by rfl) cp37.p2 _ V _ vs (by rfl) HNv.out (HSv.out.below cp37.b) Hn2.out V (by omega) (by have := HLn.out; omega) cp37.b.size ?_
                        intro A38 c38 X38 ho38 hg38 ha38 hc38
                        rw [List.nil_append] at ho38
                        have cp38 := cp37.app2 ho38 hg38 ha38 hc38
                        clear cp37 ho38 hg38 ha38 hc38
                        refine hK.out _ _ (fun _ => held _ cp38.b) ?_
                        clear hK K
                        try simp only [Act.put, List.setIfInBounds_toArray, List.set_cons_zero, List.set_cons_succ]
                        refine Z_one (i := 15) rfl (by kernel_rfl) (by rfl) (fun K hK => ?_)
                        go_simp
                        have cp39 := cp38.new3
                        clear cp38
                        generalize hX39 : World.alloc X38 (.cells #[] 36) = X39 at cp39 ⊢
                        clear hX39
                        refine hK.out _ _ (fun _ => held _ cp39.b) ?_
                        clear hK K
                        try simp only [Act.put, List.setIfInBounds_toArray, List.set_cons_zero, List.set_cons_succ]
                        refine Z_one (i := 20) rfl (by kernel_rfl) (by rfl) (fun K hK => ?_)
                        refine app_K (.tmp 127) (.tmp 131) rfl W0.heap.size (.slice (some ⟨X38.heap.size, 0, none⟩) 0 0) 0 [] (by rfl) cp39.p3 _ KN _ qs (by rfl) HNq.out (HSq.out.below cp39.b) Hn3.out KN (by omega) (by have := HLn.out; omega) cp39.b.size ?_
                        intro A40 c40 X40 ho40 hg40 ha40 hc40
                        rw [List.nil_append] at ho40
                        have cp40 := cp39.app3 ho40 hg40 ha40 hc40
                        clear cp39 ho40 hg40 ha40 hc40
                        refine hK.out _ _ (fun _ => held _ cp40.b) ?_
                        clear hK K
                        try simp only [Act.put, List.setIfInBounds_toArray, List.set_cons_zero, List.set_cons_succ]
                        refine Z_relist (listed' := #[true, true, true, true, true, true, true, true, true, true, true, true, true, true, true, true, true, true, true, true, true, false, false, false, false, false, false, false, false, false]) (by kernel_rfl) ?_
                        generalize (Value.slice (some ⟨X35.heap.size, 0, none⟩) 0 0) = b0
                        generalize (Value.slice (some ⟨X0.heap.size, 0, none⟩) 0 0) = b1
                        generalize (Value.slice (some ⟨X38.heap.size, 0, none⟩) 0 0) = b2
                        revert cp40
                        revert b2
                        revert b1
                        revert b0
                        revert X40
                        revert c40
                        revert A40
                        revert c38
                        revert A38
                        revert c37
                        revert A37
                        exact tail.out
                      · go_simp
                        have cp41 := cp37.new3
                        clear cp37
                        generalize hX41 : World.alloc X37 (.cells #[] 36) = X41 at cp41 ⊢
                        clear hX41
                        refine hK.out _ _ (fun _ => held _ cp41.b) ?_
                        clear hK K
                        try simp only [Act.put, List.setIfInBounds_toArray, List.set_cons_zero, List.set_cons_succ]
                        refine Z_one (i := 14) rfl (by kernel_rfl) (by rfl) (fun K hK => ?_)
                        refine app_U (.tmp 121) (.tmp 125) rfl W0.heap.size (.slice (some ⟨X0.heap.size, 0, none⟩) 0 0) 0 [] (by rfl) cp41.p2 _ V _ vs (by rfl) HNv.out (HSv.out.below cp41.b) Hn2.out V (by omega) (by have := HLn.out; omega) cp41.b.size ?_
                        intro A42 c42 X42 ho42 hg42 ha42 hc42
                        rw [List.nil_append] at ho42
                        have cp42 := cp41.app2 ho42 hg42 ha42 hc42
                        clear cp41 ho42 hg42 ha42 hc42
                        refine hK.out _ _ (fun _ => held _ cp42.b) ?_
                        clear hK K
                        try simp only [Act.put, List.setIfInBounds_toArray, List.set_cons_zero, List.set_cons_succ]
                        refine Z_one (i := 20) rfl (by kernel_rfl) (by rfl) (fun K hK => ?_)
                        refine app_K (.tmp 127) (.tmp 131) rfl W0.heap.size (.slice (some ⟨X37.heap.size, 0, none⟩) 0 0) 0 [] (by rfl) cp42.p3 _ KN _ qs (by rfl) HNq.out (HSq.out.below cp42.b) Hn3.out KN (by omega) (by have := HLn.out; omega) cp42.b.size ?_
                        intro A43 c43 X43 ho43 hg43 ha43 hc43
                        rw [List.nil_append] at ho43
                        have cp43 := cp42.app3 ho43 hg43 ha43 hc43
                        clear cp42 ho43 hg43 ha43 hc43
                        refine hK.out _ _ (fun _ => held _ cp43.b) ?_
                        clear hK K
                        try simp only [Act.put, List.setIfInBounds_toArray, List.set_cons_zero, List.set_cons_succ]
                        refine Z_relist (listed' := #[true, true, true, true, true, true, true, true, true, true, true, true, true, true, true, true, true, true, true, true, true, false, false, false, false, false, false, false, false, false]) (by kernel_rfl) ?_
                        generalize (Value.slice (some ⟨X35.heap.size, 0, none⟩) 0 0) = b0
                        generalize (Value.slice (some ⟨X0.heap.size, 0, none⟩) 0 0) = b1
                        generalize (Value.slice (some ⟨X37.heap.size, 0, none⟩) 0 0) = b2
                        revert cp43
                        revert b2
                        revert b1
                        revert b0
                        revert X43
                        revert c43
                        revert A43
                        revert c42
                        revert A42
                        revert c37
                        revert A37
                        exact tail.out
                    · go_simp
                      have cp44 := cp36.new3
                      clear cp36
                      generalize hX44 : World.alloc X36 (.cells #[] 36) = X44 at cp44 ⊢
                      clear hX44
                      refine hK.out _ _ (fun _ => held _ cp44.b) ?_
                      clear hK K
                      try simp only [Act.put, List.setIfInBounds_toArray, List.set_cons_zero, List.set_cons_succ]
                      refine Z_one (i := 8) rfl (by kernel_rfl) (by rfl) (fun K hK => ?_)
                      refine app_S (.tmp 115) (.tmp 119) rfl W0.heap.size (.slice (some ⟨X35.heap.size, 0, none⟩) 0 0) 0 [] (by rfl) cp44.p1 _ N _ ks (by rfl) HNk.out (HSs.out.below cp44.b) Hn1.out N (by omega) (by have := HLn.out; omega) cp44.b.size ?_
                      intro A45 c45 X45 ho45 hg45 ha45 hc45
                      rw [List.nil_append] at ho45
                      have cp45 := cp44.app1 ho45 hg45 ha45 hc45
                      clear cp44 ho45 hg45 ha45 hc45
                      refine hK.out _ _ (fun _ => held _ cp45.b) ?_
                      clear hK K
                      try simp only [Act.put, List.setIfInBounds_toArray, List.set_cons_zero, List.set_cons_succ]
                      refine Z_one (i := 14) rfl (by kernel_rfl) (by rfl) (fun K hK => ?_)
                      refine app_U (.tmp 121) (.tmp 125) rfl W0.heap.size (.slice (some ⟨X0.heap.size, 0, none⟩) 0 0) 0 [] (by rfl) cp45.p2 _ V _ vs (by rfl) HNv.out (HSv.out.below cp45.b) Hn2.out V (by omega) (by have := HLn.out; omega) cp45.b.size ?_
                      intro A46 c46 X46 ho46 hg46 ha46 hc46
                      rw [List.nil_append] at ho46
                      have cp46 := cp45.app2 ho46 hg46 ha46 hc46
                      clear cp45 ho46 hg46 ha46 hc46
                      refine hK.out _ _ (fun _ => held _ cp46.b) ?_
                      clear hK K
                      try simp only [Act.put, List.setIfInBounds_toArray, List.set_cons_zero, List.set_cons_succ]
                      refine Z_one (i := 20) rfl (by kernel_rfl) (by rfl) (fun K hK => ?_)
                      refine app_K (.tmp 127) (.tmp 131) rfl W0.heap.size (.slice (some ⟨X36.heap.size, 0, none⟩) 0 0) 0 [] (by rfl) cp46.p3 _ KN _ qs (by rfl) HNq.out (HSq.out.below cp46.b) Hn3.out KN (by omega) (by have := HLn.out; omega) cp46.b.size ?_
                      intro A47 c47 X47 ho47 hg47 ha47 hc47
                      rw [List.nil_append] at ho47
                      have cp47 := cp46.app3 ho47 hg47 ha47 hc47
                      clear cp46 ho47 hg47 ha47 hc47
                      refine hK.out _ _ (fun _ => held _ cp47.b) ?_
                      clear hK K
                      try simp only [Act.put, List.setIfInBounds_toArray, List.set_cons_zero, List.set_cons_succ]
                      refine Z_relist (listed' := #[true, true, true, true, true, true, true, true, true, true, true, true, true, true, true, true, true, true, true, true, true, false, false, false, false, false, false, false, false, false]) (by kernel_rfl) ?_
                      generalize (Value.slice (some ⟨X35.heap.size, 0, none⟩) 0 0) = b0
                      generalize (Value.slice (some ⟨X0.heap.size, 0, none⟩) 0 0) = b1
                      generalize (Value.slice (some ⟨X36.heap.size, 0, none⟩) 0 0) = b2
                      revert cp47
                      revert b2
                      revert b1
                      revert b0
                      revert X47
                      revert c47
                      revert A47
                      revert c46
                      revert A46
                      revert c45
                      revert A45
                      exact tail.out
                  · go_simp
                    have cp48 := cp35.new3
                    clear cp35
                    generalize hX48 : World.alloc X35 (.cells #[] 36) = X48 at cp48 ⊢
                    clear hX48
                    refine hK.out _ _ (fun _ => held _ cp48.b) ?_
                    clear hK K
                    try simp only [Act.put, List.setIfInBounds_toArray, List.set_cons_zero, List.set_cons_succ]
                    refine Z_one (i := 3) rfl (by kernel_rfl) (by rfl) (fun K hK => ?_)
                    go_simp
                    have cp49 := cp48.new1
                    clear cp48
                    generalize hX49 : World.alloc X48 (.cells #[] 26) = X49 at cp49 ⊢
                    clear hX49
                    refine hK.out _ _ (fun _ => held _ cp49.b) ?_
                    clear hK K
                    try simp only [Act.put, List.setIfInBounds_toArray, List.set_cons_zero, List.set_cons_succ]
                    refine Z_one (i := 8) rfl (by kernel_rfl) (by rfl) (fun K hK => ?_)
                    refine app_S (.tmp 115) (.tmp 119) rfl W0.heap.size (.slice (some ⟨X48.heap.size, 0, none⟩) 0 0) 0 [] (by rfl) cp49.p1 _ N _ ks (by rfl) HNk.out (HSs.out.below cp49.b) Hn1.out N (by omega) (by have := HLn.out; omega) cp49.b.size ?_
                    intro A50 c50 X50 ho50 hg50 ha50 hc50
                    rw [List.nil_append] at ho50
                    have cp50 := cp49.app1 ho50 hg50 ha50 hc50
                    clear cp49 ho50 hg50 ha50 hc50
                    refine hK.out _ _ (fun _ => held _ cp50.b) ?_
                    clear hK K
                    try simp only [Act.put, List.setIfInBounds_toArray, List.set_cons_zero, List.set_cons_succ]
                    refine Z_one (i := 14) rfl (by kernel_rfl) (by rfl) (fun K hK => ?_)
                    refine app_U (.tmp 121) (.tmp 125) rfl W0.heap.size (.slice (some ⟨X0.heap.size, 0, none⟩) 0 0) 0 [] (by rfl) cp50.p2 _ V _ vs (by rfl) HNv.out (HSv.out.below cp50.b) Hn2.out V (by omega) (by have := HLn.out; omega) cp50.b.size ?_
                    intro A51 c51 X51 ho51 hg51 ha51 hc51
                    rw [List.nil_append] at ho51
                    have cp51 := cp50.app2 ho51 hg51 ha51 hc51
                    clear cp50 ho51 hg51 ha51 hc51
                    refine hK.out _ _ (fun _ => held _ cp51.b) ?_
                    clear hK K
                    try simp only [Act.put, List.setIfInBounds_toArray, List.set_cons_zero, List.set_cons_succ]
                    refine Z_one (i := 20) rfl (by kernel_rfl) (by rfl) (fun K hK => ?_)
                    refine app_K (.tmp 127) (.tmp 131) rfl W0.heap.size (.slice (some ⟨X35.heap.size, 0, none⟩) 0 0) 0 [] (by rfl) cp51.p3 _ KN _ qs (by rfl) HNq.out (HSq.out.below cp51.b) Hn3.out KN (by omega) (by have := HLn.out; omega) cp51.b.size ?_
                    intro A52 c52 X52 ho52 hg52 ha52 hc52
                    rw [List.nil_append] at ho52
                    have cp52 := cp51.app3 ho52 hg52 ha52 hc52
                    clear cp51 ho52 hg52 ha52 hc52
                    refine hK.out _ _ (fun _ => held _ cp52.b) ?_
                    clear hK K
                    try simp only [Act.put, List.setIfInBounds_toArray, List.set_cons_zero, List.set_cons_succ]
                    refine Z_relist (listed' := #[true, true, true, true, true, true, true, true, true, true, true, true, true, true, true, true, true, true, true, true, true, false, false, false, false, false, false, false, false, false]) (by kernel_rfl) ?_
                    generalize (Value.slice (some ⟨X48.heap.size, 0, none⟩) 0 0) = b0
                    generalize (Value.slice (some ⟨X0.heap.size, 0, none⟩) 0 0) = b1
                    generalize (Value.slice (some ⟨X35.heap.size, 0, none⟩) 0 0) = b2
                    revert cp52
                    revert b2
                    revert b1
                    revert b0
                    revert X52
                    revert c52
                    revert A52
                    revert c51
                    revert A51
                    revert c50
                    revert A50
                    exact tail.out
                · go_simp
                  have cp53 := cp0.new3
                  clear cp0
                  generalize hX53 : World.alloc X0 (.cells #[] 36) = X53 at cp53 ⊢
                  clear hX53
                  refine hK.out _ _ (fun _ => held _ cp53.b) ?_
                  clear hK K
                  try simp only [Act.put, List.setIfInBounds_toArray, List.set_cons_zero, List.set_cons_succ]
                  refine Z_two (i := 3) (j := 9) rfl rfl (by kernel_rfl) (by rfl) (by rfl) (fun K hK => ?_) (fun K hK => ?_)
                  · go_simp
                    have cp54 := cp53.new1
                    clear cp53
                    generalize hX54 : World.alloc X53 (.cells #[] 26) = X54 at cp54 ⊢
                    clear hX54
                    refine hK.out _ _ (fun _ => held _ cp54.b) ?_
                    clear hK K
                    try simp only [Act.put, List.setIfInBounds_toArray, List.set_cons_zero, List.set_cons_succ]
                    refine Z_two (i := 8) (j := 9) rfl rfl (by kernel_rfl) (by rfl) (by rfl) (fun K hK => ?_) (fun K hK => ?_)
                    · refine app_S (.tmp 115) (.tmp 119) rfl W0.heap.size (.slice (some ⟨X53.heap.size, 0, none⟩) 0 0) 0 [] (by rfl) cp54.p1 _ N _ ks (by rfl) HNk.out (HSs.out.below cp54.b) Hn1.out N (by omega) (by have := HLn.out; omega) cp54.b.size ?_
                      intro A55 c55 X55 ho55 hg55 ha55 hc55
                      rw [List.nil_append] at ho55
                      have cp55 := cp54.app1 ho55 hg55 ha55 hc55
                      clear cp54 ho55 hg55 ha55 hc55
                      refine hK.out _ _ (fun _ => held _ cp55.b) ?_
                      clear hK K
                      try simp only [Act.put, List.setIfInBounds_toArray, List.set_cons_zero, List.set_cons_succ]
                      refine Z_one (i := 9) rfl (by kernel_rfl) (by rfl) (fun K hK => ?_)
                      go_simp
                      have cp56 := cp55.new2
                      clear cp55
                      generalize hX56 : World.alloc X55 (.cells #[] 24) = X56 at cp56 ⊢
                      clear hX56
                      refine hK.out _ _ (fun _ => held _ cp56.b) ?_
                      clear hK K
                      try simp only [Act.put, List.setIfInBounds_toArray, List.set_cons_zero, List.set_cons_succ]
                      refine Z_one (i := 14) rfl (by kernel_rfl) (by rfl) (fun K hK => ?_)
                      refine app_U (.tmp 121) (.tmp 125) rfl W0.heap.size (.slice (some ⟨X55.heap.size, 0, none⟩) 0 0) 0 [] (by rfl) cp56.p2 _ V _ vs (by rfl) HNv.out (HSv.out.below cp56.b) Hn2.out V (by omega) (by have := HLn.out; omega) cp56.b.size ?_
                      intro A57 c57 X57 ho57 hg57 ha57 hc57
                      rw [List.nil_append] at ho57
                      have cp57 := cp56.app2 ho57 hg57 ha57 hc57
                      clear cp56 ho57 hg57 ha57 hc57
                      refine hK.out _ _ (fun _ => held _ cp57.b) ?_
                      clear hK K
                      try simp only [Act.put, List.setIfInBounds_toArray, List.set_cons_zero, List.set_cons_succ]
                      refine Z_one (i := 20) rfl (by kernel_rfl) (by rfl) (fun K hK => ?_)
                      refine app_K (.tmp 127) (.tmp 131) rfl W0.heap.size (.slice (some ⟨X0.heap.size, 0, none⟩) 0 0) 0 [] (by rfl) cp57.p3 _ KN _ qs (by rfl) HNq.out (HSq.out.below cp57.b) Hn3.out KN (by omega) (by have := HLn.out; omega) cp57.b.size ?_
                      intro A58 c58 X58 ho58 hg58 ha58 hc58
                      rw [List.nil_append] at ho58
                      have cp58 := cp57.app3 ho58 hg58 ha58 hc58
                      clear cp57 ho58 hg58 ha58 hc58
                      refine hK.out _ _ (fun _ => held _ cp58.b) ?_
                      clear hK K
                      try simp only [Act.put, List.setIfInBounds_toArray, List.set_cons_zero, List.set_cons_succ]
                      refine Z_relist (listed' := #[true, true, true, true, true, true, true, true, true, true, true, true, true, true, true, true, true, true, true, true, true, false, false, false, false, false, false, false, false, false]) (by kernel_rfl) ?_
                      generalize (Value.slice (some ⟨X53.heap.size, 0, none⟩) 0 0) = b0
                      generalize (Value.slice (some ⟨X55.heap.size, 0, none⟩) 0 0) = b1
                      generalize (Value.slice (some ⟨X0.heap.size, 0, none⟩) 0 0) = b2
                      revert cp58
                      revert b2
                      revert b1
                      revert b0
                      revert X58
                      revert c58
                      revert A58
                      revert c57
                      revert A57
                      revert c55
                      revert A55
                      exact tail.out
                    · go_simp
                      have cp59 := cp54.new2
                      clear cp54
                      generalize hX59 : World.alloc X54 (.cells #[] 24) = X59 at cp59 ⊢
                      clear hX59
                      refine hK.out _ _ (fun _ => held _ cp59.b) ?_
                      clear hK K
                      try simp only [Act.put, List.setIfInBounds_toArray, List.set_cons_zero, List.set_cons_succ]
                      refine Z_one (i := 8) rfl (by kernel_rfl) (by rfl) (fun K hK => ?_)
                      refine app_S (.tmp 115) (.tmp 119) rfl W0.heap.size (.slice (some ⟨X53.heap.size, 0, none⟩) 0 0) 0 [] (by rfl) cp59.p1 _ N _ ks (by rfl) HNk.out (HSs.out.below cp59.b) Hn1.out N (by omega) (by have := HLn.out; omega) cp59.b.size ?_
                      intro A60 c60 X60 ho60 hg60 ha60 hc60
                      rw [List.nil_append] at ho60
                      have cp60 := cp59.app1 ho60 hg60 ha60 hc60
                      clear cp59 ho60 hg60 ha60 hc60
                      refine hK.out _ _ (fun _ => held _ cp60.b) ?_
                      clear hK K
                      try simp only [Act.put, List.setIfInBounds_toArray, List.set_cons_zero, List.set_cons_succ]
                      refine Z_one (i := 14) rfl (by kernel_rfl) (by rfl) (fun K hK => ?_)
                      refine app_U (.tmp 121) (.tmp 125) rfl W0.heap.size (.slice (some ⟨X54.heap.size, 0, none⟩) 0 0) 0 [] (by rfl) cp60.p2 _ V _ vs (by rfl) HNv.out (HSv.out.below cp60.b) Hn2.out V (by omega) (by have := HLn.out; omega) cp60.b.size ?_
                      intro A61 c61 X61 ho61 hg61 ha61 hc61
                      rw [List.nil_append] at ho61
                      have cp61 := cp60.app2 ho61 hg61 ha61 hc61
                      clear cp60 ho61 hg61 ha61 hc61
                      refine hK.out _ _ (fun _ => held _ cp61.b) ?_
                      clear hK K
                      try simp only [Act.put, List.setIfInBounds_toArray, List.set_cons_zero, List.set_cons_succ]
                      refine Z_one (i := 20) rfl (by kernel_rfl) (by rfl) (fun K hK => ?_)
                      refine app_K (.tmp 127) (.tmp 131) rfl W0.heap.size (.slice (some ⟨X0.heap.size, 0, none⟩) 0 0) 0 [] (by rfl) cp61.p3 _ KN _ qs (by rfl) HNq.out (HSq.out.below cp61.b) Hn3.out KN (by omega) (by have := HLn.out; omega) cp61.b.size ?_
                      intro A62 c62 X62 ho62 hg62 ha62 hc62
                      rw [List.nil_append] at ho62
                      have cp62 := cp61.app3 ho62 hg62 ha62 hc62
                      clear cp61 ho62 hg62 ha62 hc62
                      refine hK.out _ _ (fun _ => held _ cp62.b) ?_
                      clear hK K
                      try simp only [Act.put, List.setIfInBounds_toArray, List.set_cons_zero, List.set_cons_succ]
                      refine Z_relist (listed' := #[true, true, true, true, true, true, true, true, true, true, true, true, true, true, true, true, true, true, true, true, true, false, false, false, false, false, false, false, false, false]) (by kernel_rfl) ?_
                      generalize (Value.slice (some ⟨X53.heap.size, 0, none⟩) 0 0) = b0
                      generalize (Value.slice (some ⟨X54.heap.size, 0, none⟩) 0 0) = b1
                      generalize (Value.slice (some ⟨X0.heap.size, 0, none⟩) 0 0) = b2
                      revert cp62
                      revert b2
                      revert b1
                      revert b0
                      revert X62
                      revert c62
                      revert A62
                      revert c61
                      revert A61
                      revert c60
                      revert A60
                      exact tail.out
                  · go_simp
                    have cp63 := cp53.new2
                    clear cp53
                    generalize hX63 : World.alloc X53 (.cells #[] 24) = X63 at cp63 ⊢
                    clear hX63
                    refine hK.out _ _ (fun _ => held _ cp63.b) ?_
                    clear hK K
                    try simp only [Act.put, List.setIfInBounds_toArray, List.set_cons_zero, List.set_cons_succ]
                    refine Z_one (i := 3) rfl (by kernel_rfl) (by rfl) (fun K hK => ?_)
                    go_simp
                    have cp64 := cp63.new1
                    clear cp63
                    generalize hX64 : World.alloc X63 (.cells #[] 26) = X64 at cp64 ⊢
                    clear hX64
                    refine hK.out _ _ (fun _ => held _ cp64.b) ?_
                    clear hK K
                    try simp only [Act.put, List.setIfInBounds_toArray, List.set_cons_zero, List.set_cons_succ]
                    refine Z_one (i := 8) rfl (by kernel_rfl) (by rfl) (fun K hK => ?_)
                    refine app_S (.tmp 115) (.tmp 119) rfl W0.heap.size (.slice (some ⟨X63.heap.size, 0, none⟩) 0 0) 0 [] (by rfl) cp64.p1 _ N _ ks (by rfl) HNk.out (HSs.out.below cp64.b) Hn1.out N (by omega) (by have := HLn.out; omega) cp64.b.size ?_
                    intro A65 c65 X65 ho65 hg65 ha65 hc65
                    rw [List.nil_append] at ho65
                    have cp65 := cp64.app1 ho65 hg65 ha65 hc65
                    clear cp64 ho65 hg65 ha65 hc65
                    refine hK.out _ _ (fun _ => held _ cp65.b) ?_
                    clear hK K
                    try simp only [Act.put, List.setIfInBounds_toArray, List.set_cons_zero, List.set_cons_succ]
                    refine Z_one (i := 14) rfl (by kernel_rfl) (by rfl) (fun K hK => ?_)
                    refine app_U (.tmp 121) (.tmp 125) rfl W0.heap.size (.slice (some ⟨X53.heap.size, 0, none⟩) 0 0) 0 [] (by rfl) cp65.p2 _ V _ vs (by rfl) HNv.out (HSv.out.below cp65.b) Hn2.out V (by omega) (by have := HLn.out; omega) cp65.b.size ?_
                    intro A66 c66 X66 ho66 hg66 ha66 hc66
                    rw [List.nil_append] at ho66
                    have cp66 := cp65.app2 ho66 hg66 ha66 hc66
                    clear cp65 ho66 hg66 ha66 hc66
                    refine hK.out _ _ (fun _ => held _ cp66.b) ?_
                    clear hK K
                    try simp only [Act.put, List.setIfInBounds_toArray, List.set_cons_zero, List.set_cons_succ]
                    refine Z_one (i := 20) rfl (by kernel_rfl) (by rfl) (fun K hK => ?_)
                    refine app_K (.tmp 127) (.tmp 131) rfl W0.heap.size (.slice (some ⟨X0.heap.size, 0, none⟩) 0 0) 0 [] (by rfl) cp66.p3 _ KN _ qs (by rfl) HNq.out (HSq.out.below cp66.b) Hn3.out KN (by omega) (by have := HLn.out; omega) cp66.b.size ?_
                    intro A67 c67 X67 ho67 hg67 ha67 hc67
                    rw [List.nil_append] at ho67
                    have cp67 := cp66.app3 ho67 hg67 ha67 hc67
                    clear cp66 ho67 hg67 ha67 hc67
                    refine hK.out _ _ (fun _ => held _ cp67.b) ?_
                    clear hK K
                    try simp only [Act.put, List.setIfInBounds_toArray, List.set_cons_zero, List.set_cons_succ]
                    refine Z_relist (listed' := #[true, true, true, true, true, true, true, true, true, true, true, true, true, true, true, true, true, true, true, true, true, false, false, false, false, false, false, false, false, false]) (by kernel_rfl) ?_
                    generalize (Value.slice (some ⟨X63.heap.size, 0, none⟩) 0 0) = b0
                    generalize (Value.slice (some ⟨X53.heap.size, 0, none⟩) 0 0) = b1
                    generalize (Value.slice (some ⟨X0.heap.size, 0, none⟩) 0 0) = b2
                    revert cp67
                    revert b2
                    revert b1
                    revert b0
                    revert X67
                    revert c67
                    revert A67
                    revert c66
                    revert A66
                    revert c65
                    revert A65
                    exact tail.out
              case prf =>
                intro A1 c1 A2 c2 A3 c3 X0 b0 b1 b2 cp0
                refine Z_take (i := 21) (v := ?_) [[22, 21], [21], [21]] rfl (by kernel_rfl) (by kernel_rfl) (by kernel_rfl) (by kernel_rfl) (by kernel_rfl) (fun _ _ _ h => h) (Or.inl ⟨by rfl, ?_⟩) (held _ cp0.b) ?_
                rotate_left
                · (intro w' hSw; (try dsimp only at hSw); go_simp <;> (with_reducible rfl))
                try simp only [Act.put, List.setIfInBounds_toArray, List.set_cons_zero, List.set_cons_succ]
                refine Z_take (i := 22) (v := ?_) [[22], [22], [22]] rfl (by kernel_rfl) (by kernel_rfl) (by kernel_rfl) (by kernel_rfl) (by kernel_rfl) (fun _ _ _ h => h) (Or.inl ⟨by rfl, ?_⟩) (held _ cp0.b) ?_
                rotate_left
                · (intro w' hSw; (try dsimp only at hSw); go_simp <;> (with_reducible rfl))
                try simp only [Act.put, List.setIfInBounds_toArray, List.set_cons_zero, List.set_cons_succ]
                refine Z_one (i := 23) rfl (by kernel_rfl) (by rfl) (fun K hK => ?_)
                have hP := HMb.out.below cp0.b hMz
                have y0 : X0.cell? ⟨mb, 0, none⟩ = some (.slice A N ca) := (hP.cell 0).trans rfl
                have y1 : X0.cell? ⟨mb, 1, none⟩ = some (.slice B V cb) := (hP.cell 1).trans rfl
                have y2 : X0.cell? ⟨mb, 2, none⟩ = some (.slice C KN cc) := (hP.cell 2).trans rfl
                have y3 := hP.frozen 0
                have y4 := hP.frozen 1
                have y5 := hP.frozen 2
                clear hP
                go_simp
                refine hK.out _ _ (fun h => absurd h (none_of_not (by kernel_rfl))) ?_
                clear hK K
                try simp only [Act.put, List.setIfInBounds_toArray, List.set_cons_zero, List.set_cons_succ]
                refine Z_one (i := 24) rfl (by kernel_rfl) (by rfl) (fun K hK => ?_)
                go_simp
                refine hK.out _ _ (fun h => absurd h (none_of_not (by kernel_rfl))) ?_
                clear hK K
                try simp only [Act.put, List.setIfInBounds_toArray, List.set_cons_zero, List.set_cons_succ]
                refine Z_one (i := 25) rfl (by kernel_rfl) (by rfl) (fun K hK => ?_)
                go_simp
                refine hK.out _ _ (fun h => absurd h (none_of_not (by kernel_rfl))) ?_
                clear hK K
                try simp only [Act.put, List.setIfInBounds_toArray, List.set_cons_zero, List.set_cons_succ]
                refine Z_one (i := 26) rfl (by kernel_rfl) (by rfl) (fun K hK => ?_)
                go_simp
                refine hK.out _ _ (fun h => absurd h (none_of_not (by kernel_rfl))) ?_
                clear hK K
                try simp only [Act.put, List.setIfInBounds_toArray, List.set_cons_zero, List.set_cons_succ]
                refine Z_one (i := 27) rfl (by kernel_rfl) (by rfl) (fun K hK => ?_)
                go_simp
                refine hK.out _ _ (fun h => absurd h (none_of_not (by kernel_rfl))) ?_
                clear hK K
                try simp only [Act.put, List.setIfInBounds_toArray, List.set_cons_zero, List.set_cons_succ]
                refine Z_one (i := 28) rfl (by kernel_rfl) (by rfl) (fun K hK => ?_)
                go_simp
                refine hK.out _ _ (fun h => absurd h (none_of_not (by kernel_rfl))) ?_
                clear hK K
                try simp only [Act.put, List.setIfInBounds_toArray, List.set_cons_zero, List.set_cons_succ]
                refine Z_one (i := 29) rfl (by kernel_rfl) (by rfl) (fun K hK => ?_)
                go_simp
                refine hK.out _ _ (fun h => absurd h (none_of_not (by kernel_rfl))) ?_
                clear hK K
                try simp only [Act.put, List.setIfInBounds_toArray, List.set_cons_zero, List.set_cons_succ]
                refine Z_done (by kernel_rfl) ?_ _
                go_wp2_with fail
                all_goals go_meet
                all_goals exact ⟨rfl, _, _, _, cp0.done HMb.out hMb⟩
            case rest =>
              obtain ⟨rfl, v1, v2, v3, hO⟩ := hcut
              obtain ⟨gb, c1, e1, hg1, hs1, hc1, hcm1⟩ := own_srow (by rw [HNk.out]; exact hO.p1) (by rw [HNk.out]; exact HLn.out.1)
              obtain ⟨A2, c2, e2, n2⟩ := own_parts hO.p2
              obtain ⟨A3, c3, e3, n3⟩ := own_parts hO.p3
              rw [HNk.out] at e1 hc1
              subst e1 e2 e3
              have HO := Lib.hid hO
              obtain ⟨W1, hW1⟩ : ∃ X, X = wc := ⟨wc, rfl⟩
              subst hW1
              have HNN := Lib.hid (And.intro hBW (And.intro hMb hMz))
              have HC := Lib.hid (And.intro hc1 hcm1)
              have lc0 : W1.cell? ⟨mb, 0, none⟩ = some (.slice (some ⟨gb, 0, none⟩) N c1) := (hO.hp.cell 0).trans rfl
              have lc1 : W1.cell? ⟨mb, 1, none⟩ = some (.slice A2 V c2) := (hO.hp.cell 1).trans rfl
              have lc2 : W1.cell? ⟨mb, 2, none⟩ = some (.slice A3 KN c3) := (hO.hp.cell 2).trans rfl
              have lf0 := hO.hp.frozen 0
              have lf1 := hO.hp.frozen 1
              have lf2 := hO.hp.frozen 2
              have HSz := Lib.hid (And.intro hO.hp.lt hO.off.size)
              have hgne : some mb ≠ (Value.slice (some ⟨gb, 0, none⟩) N c1).ownBlock := by
                intro e
                have : mb = gb := by simpa [Value.ownBlock] using e
                omega
              have HGn := Lib.hid hgne
              clear hO n2 n3 hgne hMz hMb hBW hc1 hcm1 hg1
              have hsp : sp % 5 = 0 ∨ sp % 5 = 1 ∨ sp % 5 = 2 ∨ sp % 5 = 3 ∨ sp % 5 = 4 := by omega
              rcases hsp with hsp | hsp | hsp | hsp | hsp
              · have f0 : Int.tmod (sp : Int) 5 = 0 := by rw [Int.tmod_eq_emod_of_nonneg (by omega)]; omega
                obtain ⟨M, hM⟩ : ∃ M, N = M + 1 := ⟨N - 1, by have := HLn.out.1; omega⟩
                subst hM
                obtain ⟨b', o', e', hlt', hc'⟩ := hs1 (by rw [HNk.out]; omega)
                cases e'
                obtain ⟨s0, s1, s2, s3⟩ := hc' M (by rw [HNk.out]; omega)
                rw [Nat.zero_add] at s0 s1 s2 s3
                obtain ⟨x, hx⟩ : ∃ x, x = ks[M]'(by rw [HNk.out]; omega) := ⟨_, rfl⟩
                rw [← hx] at s0 s1 s2 s3
                have HX : Hid (x = ks[M]'(by rw [HNk.out]; omega)) := hx
                have g1 : (0 : Int) ≤ (M : Int) := by omega
                have g2 : (M : Int) < (M : Int) + 1 := by omega
                have g3 : (M : Int) ≤ 3 := by have := HLn.out; omega
                have g5 : IntKind.i64.wrap (M : Int) = (M : Int) := by rw [IntKind.wrap_i64]; omega
                have hgb := HGn.out
                clear hsp hx hc' hlt' hs1 lc1 lc2 lf1 lf2
                go_upto_region 27 with fail
                have held : ∀ X, Below W1.heap.size W1 X → (fun w' => w'.cell? ⟨mb, 0, none⟩ = some (.slice (some ⟨gb, 0, none⟩) (M + 1) c1) ∧ w'.cell? ⟨gb, M * 4, none⟩ = some (.int .i64 x.br) ∧ w'.cell? ⟨gb, M * 4 + 1, none⟩ = some (.int .i64 x.vol) ∧ w'.cell? ⟨gb, M * 4 + 2, none⟩ = some (.int .i64 x.blk) ∧ w'.cell? ⟨gb, M * 4 + 3, none⟩ = some (.int .u64 x.num)) X := fun X hX => ⟨bel_cell hX (World.block_lt_of_cell? _ _ lc0) lc0, bel_cell hX (World.block_lt_of_cell? _ _ s0) s0, bel_cell hX (World.block_lt_of_cell? _ _ s1) s1, bel_cell hX (World.block_lt_of_cell? _ _ s2) s2, bel_cell hX (World.block_lt_of_cell? _ _ s3) s3⟩
                have hb0 : Below W1.heap.size W1 W1.drew := bel_drewN _ _ (n := 1)
                refine Z_start [18, 21] (fun w' => w'.cell? ⟨mb, 0, none⟩ = some (.slice (some ⟨gb, 0, none⟩) (M + 1) c1) ∧ w'.cell? ⟨gb, M * 4, none⟩ = some (.int .i64 x.br) ∧ w'.cell? ⟨gb, M * 4 + 1, none⟩ = some (.int .i64 x.vol) ∧ w'.cell? ⟨gb, M * 4 + 2, none⟩ = some (.int .i64 x.blk) ∧ w'.cell? ⟨gb, M * 4 + 3, none⟩ = some (.int .u64 x.num)) (by kernel_rfl) ?_
                generalize World.drew W1 = X0 at *
                refine Z_free (i := 0) (v := ?_) rfl (by kernel_rfl) (by kernel_rfl) (by kernel_rfl) (by kernel_rfl) (fun _ _ _ h => h) (Or.inl ⟨by rfl, ?_⟩) (fun _ => held _ hb0) ?_
                rotate_left
                · (intro w' hSw; (try dsimp only at hSw); go_simp <;> (with_reducible rfl))
                try simp only [Act.put, List.setIfInBounds_toArray, List.set_cons_zero, List.set_cons_succ]
                refine Z_free (i := 1) (v := ?_) rfl (by kernel_rfl) (by kernel_rfl) (by kernel_rfl) (by kernel_rfl) (fun _ _ _ h => h) (Or.inl ⟨by rfl, ?_⟩) (fun _ => held _ hb0) ?_
                rotate_left
                · (intro w' hSw; (try dsimp only at hSw); go_simp <;> (with_reducible rfl))
                try simp only [Act.put, List.setIfInBounds_toArray, List.set_cons_zero, List.set_cons_succ]
                refine Z_free (i := 5) (v := ?_) rfl (by kernel_rfl) (by kernel_rfl) (by kernel_rfl) (by kernel_rfl) (fun _ _ _ h => h) (Or.inl ⟨by rfl, ?_⟩) (fun _ => held _ hb0) ?_
                rotate_left
                · (intro w' hSw; (try dsimp only at hSw); go_simp <;> (with_reducible rfl))
                try simp only [Act.put, List.setIfInBounds_toArray, List.set_cons_zero, List.set_cons_succ]
                refine Z_free (i := 9) (v := ?_) rfl (by kernel_rfl) (by kernel_rfl) (by kernel_rfl) (by kernel_rfl) (fun _ _ _ h => h) (Or.inl ⟨by rfl, ?_⟩) (fun _ => held _ hb0) ?_
                rotate_left
                · (intro w' hSw; (try dsimp only at hSw); go_simp <;> (with_reducible rfl))
                try simp only [Act.put, List.setIfInBounds_toArray, List.set_cons_zero, List.set_cons_succ]
                refine Z_take (i := 2) (v := ?_) [[4, 3, 2], [2]] rfl (by kernel_rfl) (by kernel_rfl) (by kernel_rfl) (by kernel_rfl) (by kernel_rfl) (fun _ _ _ h => h) (Or.inl ⟨by rfl, ?_⟩) (held _ hb0) ?_
                rotate_left
                · (intro w' hSw; (try dsimp only at hSw); go_simp <;> (with_reducible rfl))
                try simp only [Act.put, List.setIfInBounds_toArray, List.set_cons_zero, List.set_cons_succ]
                refine Z_take (i := 3) (v := ?_) [[4, 3], [3]] rfl (by kernel_rfl) (by kernel_rfl) (by kernel_rfl) (by kernel_rfl) (by kernel_rfl) (fun _ _ _ h => h) (Or.inl ⟨by rfl, ?_⟩) (held _ hb0) ?_
                rotate_left
                · (intro w' hSw; (try dsimp only at hSw); go_simp <;> (with_reducible rfl))
                try simp only [Act.put, List.setIfInBounds_toArray, List.set_cons_zero, List.set_cons_succ]
                refine Z_take (i := 4) (v := ?_) [[4], [4]] rfl (by kernel_rfl) (by kernel_rfl) (by kernel_rfl) (by kernel_rfl) (by kernel_rfl) (fun _ _ _ h => h) (Or.inl ⟨by rfl, ?_⟩) (held _ hb0) ?_
                rotate_left
                · (intro w' hSw; (try dsimp only at hSw); go_simp <;> (with_reducible rfl))
                try simp only [Act.put, List.setIfInBounds_toArray, List.set_cons_zero, List.set_cons_succ]
                refine Z_take (i := 6) (v := ?_) [[17, 16, 15, 8, 7, 6], [6]] rfl (by kernel_rfl) (by kernel_rfl) (by kernel_rfl) (by kernel_rfl) (by kernel_rfl) (fun _ _ _ h => h) (Or.inl ⟨by rfl, ?_⟩) (held _ hb0) ?_
                rotate_left
                · (intro w' hSw; (try dsimp only at hSw); go_simp <;> (with_reducible rfl))
                try simp only [Act.put, List.setIfInBounds_toArray, List.set_cons_zero, List.set_cons_succ]
                refine Z_take (i := 7) (v := ?_) [[17, 16, 15, 8, 7], [7]] rfl (by kernel_rfl) (by kernel_rfl) (by kernel_rfl) (by kernel_rfl) (by kernel_rfl) (fun _ _ _ h => h) (Or.inl ⟨by rfl, ?_⟩) (held _ hb0) ?_
                rotate_left
                · (intro w' hSw; (try dsimp only at hSw); go_simp <;> (with_reducible rfl))
                try simp only [Act.put, List.setIfInBounds_toArray, List.set_cons_zero, List.set_cons_succ]
                refine Z_take (i := 8) (v := ?_) [[17, 16, 15, 8], [8]] rfl (by kernel_rfl) (by kernel_rfl) (by kernel_rfl) (by kernel_rfl) (by kernel_rfl) (fun _ _ _ h => h) (Or.inl ⟨by rfl, ?_⟩) (held _ hb0) ?_
                rotate_left
                · (intro w' hSw; (try dsimp only at hSw); go_simp <;> (with_reducible rfl))
                try simp only [Act.put, List.setIfInBounds_toArray, List.set_cons_zero, List.set_cons_succ]
                refine Z_take (i := 10) (v := ?_) [[17, 16, 15, 14, 13, 12, 11, 10], [10]] rfl (by kernel_rfl) (by kernel_rfl) (by kernel_rfl) (by kernel_rfl) (by kernel_rfl) (fun _ _ _ h => h) (Or.inl ⟨by rfl, ?_⟩) (held _ hb0) ?_
                rotate_left
                · (intro w' hSw; (try dsimp only at hSw); go_simp <;> (with_reducible rfl))
                try simp only [Act.put, List.setIfInBounds_toArray, List.set_cons_zero, List.set_cons_succ]
                refine Z_take (i := 11) (v := ?_) [[17, 16, 15, 14, 13, 12, 11], [11]] rfl (by kernel_rfl) (by kernel_rfl) (by kernel_rfl) (by kernel_rfl) (by kernel_rfl) (fun _ _ _ h => h) (Or.inl ⟨by rfl, ?_⟩) (held _ hb0) ?_
                rotate_left
                · (intro w' hSw; (try dsimp only at hSw); go_simp <;> (with_reducible rfl))
                try simp only [Act.put, List.setIfInBounds_toArray, List.set_cons_zero, List.set_cons_succ]
                refine Z_take (i := 12) (v := ?_) [[17, 16, 15, 14, 13, 12], [12]] rfl (by kernel_rfl) (by kernel_rfl) (by kernel_rfl) (by kernel_rfl) (by kernel_rfl) (fun _ _ _ h => h) (Or.inl ⟨by rfl, ?_⟩) (held _ hb0) ?_
                rotate_left
                · (intro w' hSw; (try dsimp only at hSw); go_simp <;> (with_reducible rfl))
                try simp only [Act.put, List.setIfInBounds_toArray, List.set_cons_zero, List.set_cons_succ]
                refine Z_take (i := 13) (v := ?_) [[17, 16, 15, 14, 13], [13]] rfl (by kernel_rfl) (by kernel_rfl) (by kernel_rfl) (by kernel_rfl) (by kernel_rfl) (fun _ _ _ h => h) (Or.inl ⟨by rfl, ?_⟩) (held _ hb0) ?_
                rotate_left
                · (intro w' hSw; (try dsimp only at hSw); go_simp <;> (with_reducible rfl))
                try simp only [Act.put, List.setIfInBounds_toArray, List.set_cons_zero, List.set_cons_succ]
                refine Z_take (i := 14) (v := ?_) [[17, 16, 15, 14], [14]] rfl (by kernel_rfl) (by kernel_rfl) (by kernel_rfl) (by kernel_rfl) (by kernel_rfl) (fun _ _ _ h => h) (Or.inl ⟨by rfl, ?_⟩) (held _ hb0) ?_
                rotate_left
                · (intro w' hSw; (try dsimp only at hSw); go_simp <;> (with_reducible rfl))
                try simp only [Act.put, List.setIfInBounds_toArray, List.set_cons_zero, List.set_cons_succ]
                refine Z_take (i := 15) (v := ?_) [[17, 16, 15], [15]] rfl (by kernel_rfl) (by kernel_rfl) (by kernel_rfl) (by kernel_rfl) (by kernel_rfl) (fun _ _ _ h => h) (Or.inl ⟨by rfl, ?_⟩) (held _ hb0) ?_
                rotate_left
                · (intro w' hSw; (try dsimp only at hSw); go_simp <;> (with_reducible rfl))
                try simp only [Act.put, List.setIfInBounds_toArray, List.set_cons_zero, List.set_cons_succ]
                refine Z_take (i := 16) (v := ?_) [[17, 16], [16]] rfl (by kernel_rfl) (by kernel_rfl) (by kernel_rfl) (by kernel_rfl) (by kernel_rfl) (fun _ _ _ h => h) (Or.inl ⟨by rfl, ?_⟩) (held _ hb0) ?_
                rotate_left
                · (intro w' hSw; (try dsimp only at hSw); go_simp <;> (with_reducible rfl))
                try simp only [Act.put, List.setIfInBounds_toArray, List.set_cons_zero, List.set_cons_succ]
                refine Z_one (i := 17) rfl (by kernel_rfl) (by rfl) (fun K hK => ?_)
                go_simp
                have hb1 : Below W1.heap.size W1 (World.alloc X0 (.cells #[.int .i64 x.br, .int .i64 x.vol, .int .i64 x.blk, .int .u64 x.num] 26)) := hb0.alloc hb0.size _
                have hsn := spot_new X0 x
                generalize hX1 : World.alloc X0 (.cells #[.int .i64 x.br, .int .i64 x.vol, .int .i64 x.blk, .int .u64 x.num] 26) = X1 at hb1 hsn ⊢
                obtain ⟨Z1, hZ1⟩ : ∃ Z, Z = X0.heap.size := ⟨_, rfl⟩
                rw [← hZ1] at hsn ⊢
                clear hX1 hZ1
                refine hK.out _ _ (fun _ => held _ hb1) ?_
                clear hK K
                try simp only [Act.put, List.setIfInBounds_toArray, List.set_cons_zero, List.set_cons_succ]
                refine Z_one (i := 18) rfl (by kernel_rfl) (by rfl) (fun K hK => ?_)
                refine app_S (.tmp 147) (.tmp 160) rfl W0.heap.size (.slice (some ⟨gb, 0, none⟩) (M + 1) c1) (M + 1) ks (by rfl) (own_stay HO.out.p1 (fun q hq => hb1.block q (own_lt HO.out.p1 q hq))) _ 1 _ [x] (by rfl) rfl hsn (fun e => by cases e) (M + 2) (by omega) (by have := HLn.out; omega) (Nat.le_trans HO.out.off.size hb1.size) ?_
                intro A2 c2 X2 ho2 hg2 ha2 hc2
                refine hK.out _ _ (fun h => absurd h (none_of_not (by kernel_rfl))) ?_
                clear hK K
                try simp only [Act.put, List.setIfInBounds_toArray, List.set_cons_zero, List.set_cons_succ]
                refine Z_one (i := 19) rfl (by kernel_rfl) (by rfl) (fun K hK => ?_)
                go_simp
                refine hK.out _ _ (fun h => absurd h (none_of_not (by kernel_rfl))) ?_
                clear hK K
                try simp only [Act.put, List.setIfInBounds_toArray, List.set_cons_zero, List.set_cons_succ]
                refine Z_one (i := 20) rfl (by kernel_rfl) (by rfl) (fun K hK => ?_)
                go_simp
                refine hK.out _ _ (fun h => absurd h (none_of_not (by kernel_rfl))) ?_
                clear hK K
                try simp only [Act.put, List.setIfInBounds_toArray, List.set_cons_zero, List.set_cons_succ]
                refine Z_one (i := 21) rfl (by kernel_rfl) (by rfl) (fun K hK => ?_)
                have hP := (HO.out.hp.below hb1 HO.out.hp.lt).kept_row hg2 hgb
                have y0 : X2.cell? ⟨mb, 0, none⟩ = some (.slice (some ⟨gb, 0, none⟩) (M + 1) c1) := (hP.cell 0).trans rfl
                have y1 := hP.frozen 0
                go_simp
                clear y0 y1
                refine hK.out _ _ (fun h => absurd h (none_of_not (by kernel_rfl))) ?_
                clear hK K
                try simp only [Act.put, List.setIfInBounds_toArray, List.set_cons_zero, List.set_cons_succ]
                refine Z_done (by kernel_rfl) ?_ _
                skip
                have hsk := sp_key HO.out HNN.out.1 HNN.out.2.1 HNN.out.2.2 HNk.out HRis.out HShp.out HLn.out.1 hb1 hg2 A2 c2 HX.out ho2
                have HSpo := Lib.hid hsk
                clear hsk
                go_wp2_with fail
                refine (right_bad (HLf.out.use (HSpo.out).1 (HSpo.out).2) true).mono ?_
                rintro e wz ⟨rfl, hbz⟩
                go_wp2_with fail
                go_ret
                exact ⟨rfl, HB3.out.trans ((HBr.out.trans ((HSpo.out).1.bB.trans (hbz.mono (by have := (HSpo.out).1.bB.size; have := HBr.out.size; omega)))).mono HB3.out.size)⟩
              · have f0 : Int.tmod (sp : Int) 5 = 1 := by rw [Int.tmod_eq_emod_of_nonneg (by omega)]; omega
                obtain ⟨A', c', w', hr', hg'⟩ := app_U1 W0.heap.size (.slice A2 V c2) V (u64s vs) HO.out.p2 HSz.out.2 (by have := HLn.out; omega) 5 32
                have hv := sp_val HO.out HNN.out.1 HNN.out.2.1 HNN.out.2.2 HNk.out HRis.out HShp.out HLn.out.1 ((Below.refl _ _).alloc (Nat.le_refl _) _) hg' A' c'
                obtain ⟨_, hbk⟩ := HO.out.grow HNN.out.1 HNN.out.2.2 ((Below.refl _ _).alloc (Nat.le_refl _) _) hg' (own_ge HO.out.p2)
                have m1 : w'.cell? ⟨mb, 1, none⟩ = some (.slice A2 V c2) := (hbk.cell 1).trans rfl
                have m2 := hbk.frozen 1
                have hlt := HSz.out.1
                have HRun := Lib.hid hr'
                have HSpo := Lib.hid hv
                clear hr' hg' hv hbk hsp hs1 lc0 lc2 lf0 lf2
                go_wp2_with (at_builtin; refine Lib.wpList_append_run _ rfl _ _ _ _ rfl _ _ rfl rfl _ _ HRun.out ?_)
                refine (right_bad (HLf.out.use (HSpo.out).1 (HSpo.out).2) true).mono ?_
                rintro e wz ⟨rfl, hbz⟩
                go_wp2_with fail
                go_ret
                exact ⟨rfl, HB3.out.trans ((HBr.out.trans ((HSpo.out).1.bB.trans (hbz.mono (by have := (HSpo.out).1.bB.size; have := HBr.out.size; omega)))).mono HB3.out.size)⟩
              · have f0 : Int.tmod (sp : Int) 5 = 2 := by rw [Int.tmod_eq_emod_of_nonneg (by omega)]; omega
                obtain ⟨A', c', w', hr', hg'⟩ := app_K1 W0.heap.size (.slice A3 KN c3) KN (kps qs) HO.out.p3 HSz.out.2 (by have := HLn.out; omega) 37
                have hv := sp_kid HO.out HNN.out.1 HNN.out.2.1 HNN.out.2.2 HNk.out HRis.out HShp.out HLn.out.1 ((Below.refl _ _).alloc (Nat.le_refl _) _) hg' A' c'
                obtain ⟨_, hbk⟩ := HO.out.grow HNN.out.1 HNN.out.2.2 ((Below.refl _ _).alloc (Nat.le_refl _) _) hg' (own_ge HO.out.p3)
                have m1 : w'.cell? ⟨mb, 2, none⟩ = some (.slice A3 KN c3) := (hbk.cell 2).trans rfl
                have m2 := hbk.frozen 2
                have hlt := HSz.out.1
                have HRun := Lib.hid hr'
                have HSpo := Lib.hid hv
                clear hr' hg' hv hbk hsp hs1 lc0 lc1 lf0 lf1
                go_wp2_with (at_builtin; refine Lib.wpList_append_run _ rfl _ _ _ _ rfl _ _ rfl rfl _ _ HRun.out ?_)
                refine (right_bad (HLf.out.use (HSpo.out).1 (HSpo.out).2) true).mono ?_
                rintro e wz ⟨rfl, hbz⟩
                go_wp2_with fail
                go_ret
                exact ⟨rfl, HB3.out.trans ((HBr.out.trans ((HSpo.out).1.bB.trans (hbz.mono (by have := (HSpo.out).1.bB.size; have := HBr.out.size; omega)))).mono HB3.out.size)⟩
              · have f0 : Int.tmod (sp : Int) 5 = 3 := by rw [Int.tmod_eq_emod_of_nonneg (by omega)]; omega
                obtain ⟨M, hM⟩ : ∃ M, N = M + 1 := ⟨N - 1, by have := HLn.out.1; omega⟩
                subst hM
                have g1 : (0 : Int) ≤ (M : Int) := by omega
                have g2 : (M : Int) ≤ (c1 : Int) := by have := HC.out; omega
                have g3 : (M : Int) ≤ 3 := by have := HLn.out; omega
                have g5 : IntKind.i64.wrap (M : Int) = (M : Int) := by rw [IntKind.wrap_i64]; omega
                have g4 : M ≤ c1 := by have := HC.out; omega
                clear hsp hs1 lc1 lc2 lf1 lf2
                go_upto_region 33 with fail
                have held : ∀ X, Below W1.heap.size W1 X → (fun w' => w'.cell? ⟨mb, 0, none⟩ = some (.slice (some ⟨gb, 0, none⟩) (M + 1) c1)) X := fun X hX => bel_cell hX (World.block_lt_of_cell? _ _ lc0) lc0
                have hb0 : Below W1.heap.size W1 W1.drew := bel_drewN _ _ (n := 1)
                refine Z_start [14] (fun w' => w'.cell? ⟨mb, 0, none⟩ = some (.slice (some ⟨gb, 0, none⟩) (M + 1) c1)) (by kernel_rfl) ?_
                generalize World.drew W1 = X0 at *
                refine Z_free (i := 0) (v := ?_) rfl (by kernel_rfl) (by kernel_rfl) (by kernel_rfl) (by kernel_rfl) (fun _ _ _ h => h) (Or.inl ⟨by rfl, ?_⟩) (fun _ => held _ hb0) ?_
                rotate_left
                · (intro w' hSw; (try dsimp only at hSw); go_simp <;> (with_reducible rfl))
                try simp only [Act.put, List.setIfInBounds_toArray, List.set_cons_zero, List.set_cons_succ]
                refine Z_free (i := 1) (v := ?_) rfl (by kernel_rfl) (by kernel_rfl) (by kernel_rfl) (by kernel_rfl) (fun _ _ _ h => h) (Or.inl ⟨by rfl, ?_⟩) (fun _ => held _ hb0) ?_
                rotate_left
                · (intro w' hSw; (try dsimp only at hSw); go_simp <;> (with_reducible rfl))
                try simp only [Act.put, List.setIfInBounds_toArray, List.set_cons_zero, List.set_cons_succ]
                refine Z_free (i := 5) (v := ?_) rfl (by kernel_rfl) (by kernel_rfl) (by kernel_rfl) (by kernel_rfl) (fun _ _ _ h => h) (Or.inl ⟨by rfl, ?_⟩) (fun _ => held _ hb0) ?_
                rotate_left
                · (intro w' hSw; (try dsimp only at hSw); go_simp <;> (with_reducible rfl))
                try simp only [Act.put, List.setIfInBounds_toArray, List.set_cons_zero, List.set_cons_succ]
                refine Z_take (i := 2) (v := ?_) [[2]] rfl (by kernel_rfl) (by kernel_rfl) (by kernel_rfl) (by kernel_rfl) (by kernel_rfl) (fun _ _ _ h => h) (Or.inl ⟨by rfl, ?_⟩) (held _ hb0) ?_
                rotate_left
                · (intro w' hSw; (try dsimp only at hSw); go_simp <;> (with_reducible rfl))
                try simp only [Act.put, List.setIfInBounds_toArray, List.set_cons_zero, List.set_cons_succ]
                refine Z_take (i := 3) (v := ?_) [[3]] rfl (by kernel_rfl) (by kernel_rfl) (by kernel_rfl) (by kernel_rfl) (by kernel_rfl) (fun _ _ _ h => h) (Or.inl ⟨by rfl, ?_⟩) (held _ hb0) ?_
                rotate_left
                · (intro w' hSw; (try dsimp only at hSw); go_simp <;> (with_reducible rfl))
                try simp only [Act.put, List.setIfInBounds_toArray, List.set_cons_zero, List.set_cons_succ]
                refine Z_take (i := 4) (v := ?_) [[4]] rfl (by kernel_rfl) (by kernel_rfl) (by kernel_rfl) (by kernel_rfl) (by kernel_rfl) (fun _ _ _ h => h) (Or.inl ⟨by rfl, ?_⟩) (held _ hb0) ?_
                rotate_left
                · (intro w' hSw; (try dsimp only at hSw); go_simp <;> (with_reducible rfl))
                try simp only [Act.put, List.setIfInBounds_toArray, List.set_cons_zero, List.set_cons_succ]
                refine Z_take (i := 6) (v := ?_) [[6]] rfl (by kernel_rfl) (by kernel_rfl) (by kernel_rfl) (by kernel_rfl) (by kernel_rfl) (fun _ _ _ h => h) (Or.inl ⟨by rfl, ?_⟩) (held _ hb0) ?_
                rotate_left
                · (intro w' hSw; (try dsimp only at hSw); go_simp <;> (with_reducible rfl))
                try simp only [Act.put, List.setIfInBounds_toArray, List.set_cons_zero, List.set_cons_succ]
                refine Z_take (i := 7) (v := ?_) [[7]] rfl (by kernel_rfl) (by kernel_rfl) (by kernel_rfl) (by kernel_rfl) (by kernel_rfl) (fun _ _ _ h => h) (Or.inl ⟨by rfl, ?_⟩) (held _ hb0) ?_
                rotate_left
                · (intro w' hSw; (try dsimp only at hSw); go_simp <;> (with_reducible rfl))
                try simp only [Act.put, List.setIfInBounds_toArray, List.set_cons_zero, List.set_cons_succ]
                refine Z_take (i := 8) (v := ?_) [[8]] rfl (by kernel_rfl) (by kernel_rfl) (by kernel_rfl) (by kernel_rfl) (by kernel_rfl) (fun _ _ _ h => h) (Or.inl ⟨by rfl, ?_⟩) (held _ hb0) ?_
                rotate_left
                · (intro w' hSw; (try dsimp only at hSw); go_simp <;> (with_reducible rfl))
                try simp only [Act.put, List.setIfInBounds_toArray, List.set_cons_zero, List.set_cons_succ]
                refine Z_take (i := 9) (v := ?_) [[9]] rfl (by kernel_rfl) (by kernel_rfl) (by kernel_rfl) (by kernel_rfl) (by kernel_rfl) (fun _ _ _ h => h) (Or.inl ⟨by rfl, ?_⟩) (held _ hb0) ?_
                rotate_left
                · (intro w' hSw; (try dsimp only at hSw); go_simp <;> (with_reducible rfl))
                try simp only [Act.put, List.setIfInBounds_toArray, List.set_cons_zero, List.set_cons_succ]
                refine Z_take (i := 10) (v := ?_) [[10]] rfl (by kernel_rfl) (by kernel_rfl) (by kernel_rfl) (by kernel_rfl) (by kernel_rfl) (fun _ _ _ h => h) (Or.inl ⟨by rfl, ?_⟩) (held _ hb0) ?_
                rotate_left
                · (intro w' hSw; (try dsimp only at hSw); go_simp <;> (with_reducible rfl))
                try simp only [Act.put, List.setIfInBounds_toArray, List.set_cons_zero, List.set_cons_succ]
                refine Z_take (i := 11) (v := ?_) [[11]] rfl (by kernel_rfl) (by kernel_rfl) (by kernel_rfl) (by kernel_rfl) (by kernel_rfl) (fun _ _ _ h => h) (Or.inl ⟨by rfl, ?_⟩) (held _ hb0) ?_
                rotate_left
                · (intro w' hSw; (try dsimp only at hSw); go_simp <;> (with_reducible rfl))
                try simp only [Act.put, List.setIfInBounds_toArray, List.set_cons_zero, List.set_cons_succ]
                refine Z_take (i := 12) (v := ?_) [[13, 12]] rfl (by kernel_rfl) (by kernel_rfl) (by kernel_rfl) (by kernel_rfl) (by kernel_rfl) (fun _ _ _ h => h) (Or.inl ⟨by rfl, ?_⟩) (held _ hb0) ?_
                rotate_left
                · (intro w' hSw; (try dsimp only at hSw); go_simp <;> (with_reducible rfl))
                try simp only [Act.put, List.setIfInBounds_toArray, List.set_cons_zero, List.set_cons_succ]
                refine Z_take (i := 13) (v := ?_) [[13]] rfl (by kernel_rfl) (by kernel_rfl) (by kernel_rfl) (by kernel_rfl) (by kernel_rfl) (fun _ _ _ h => h) (Or.inl ⟨by rfl, ?_⟩) (held _ hb0) ?_
                rotate_left
                · (intro w' hSw; (try dsimp only at hSw); go_simp <;> (with_reducible rfl))
                try simp only [Act.put, List.setIfInBounds_toArray, List.set_cons_zero, List.set_cons_succ]
                refine Z_one (i := 14) rfl (by kernel_rfl) (by rfl) (fun K hK => ?_)
                have hP := HO.out.hp.below hb0 HO.out.hp.lt
                have y0 : X0.cell? ⟨mb, 0, none⟩ = some (.slice (some ⟨gb, 0, none⟩) (M + 1) c1) := (hP.cell 0).trans rfl
                have y1 := hP.frozen 0
                go_simp
                clear y0 y1
                refine hK.out _ _ (fun h => absurd h (none_of_not (by kernel_rfl))) ?_
                clear hK K
                try simp only [Act.put, List.setIfInBounds_toArray, List.set_cons_zero, List.set_cons_succ]
                refine Z_done (by kernel_rfl) ?_ _
                skip
                have HSpo := Lib.hid (sp_less HO.out HNN.out.1 HNN.out.2.1 HNN.out.2.2 HNk.out HRis.out HShp.out HLn.out.1 hb0 M rfl (some ⟨gb, 0, none⟩) (fun _ => rfl) c1 ⟨g4, HC.out.2⟩)
                go_wp2_with fail
                refine (right_bad (HLf.out.use (HSpo.out).1 (HSpo.out).2) true).mono ?_
                rintro e wz ⟨rfl, hbz⟩
                go_wp2_with fail
                go_ret
                exact ⟨rfl, HB3.out.trans ((HBr.out.trans ((HSpo.out).1.bB.trans (hbz.mono (by have := (HSpo.out).1.bB.size; have := HBr.out.size; omega)))).mono HB3.out.size)⟩
              · have f0 : Int.tmod (sp : Int) 5 = 4 := by rw [Int.tmod_eq_emod_of_nonneg (by omega)]; omega
                have HSpo := Lib.hid (sp_nil HO.out HNN.out.1 HNN.out.2.1 HNN.out.2.2 HNk.out HRis.out HShp.out HLn.out.1)
                clear hsp hs1
                go_wp2_with fail
                refine (right_bad (HLf.out.use (HSpo.out).1 (HSpo.out).2) true).mono ?_
                rintro e wz ⟨rfl, hbz⟩
                go_wp2_with fail
                go_ret
                exact ⟨rfl, HB3.out.trans ((HBr.out.trans ((HSpo.out).1.bB.trans (hbz.mono (by have := (HSpo.out).1.bB.size; have := HBr.out.size; omega)))).mono HB3.out.size)⟩
end Go.Proofs.Ytainljbkejafcaa.N

/- NodeRight: its arguments as they come in. -/
namespace Go.Proofs.Ytainljbkejafcaa.N
open Go.ChangeShapes Go.WideShapes Go.Deep Go.RowKit Go.Joins
set_option linter.unusedVariables false
set_option linter.unusedSimpArgs false
theorem wf_u8w {n : Int} (h : (Lit.int .u8 n).wf = true) : 0 ≤ n ∧ n ≤ 255 := by
  simp [Lit.wf, IntKind.min, IntKind.max, IntKind.bits, IntKind.signed] at h
  omega
section
variable {w : World} {H : Type} {enc : TypeId × Value → H} {base : Nat} {spare : Nat → Bool} {held : Bool}
set_option maxRecDepth 100000 in
theorem open_way {r : Reach} {b0 : Nat} {v : Value} {d : DataW H} {p : List MemPlace} (hv : Value.okWide Try.prog w r b0 58 v) (h : DataW.Trod enc Try.prog w base spare held 58 v d p) :
    ∃ z : Nat → Nat, (∀ j, z j ≤ 255) ∧ v = .agg #[.int .u8 (z 0 : Nat), .int .u8 (z 1 : Nat), .int .u8 (z 2 : Nat), .int .u8 (z 3 : Nat)] := by
  obtain ⟨cs, rfl, hsz, _⟩ : ∃ cs, v = .agg cs ∧ cs.size = Try.prog.cellsOf 58 ∧ Row.okWide Try.prog w r b0 58 cs := by
    simpa [Value.okWide, Try.underlying58] using hv
  have hc : Try.prog.cellsOf 58 = 4 := by kernel_rfl
  have hb : Try.prog.cellsOf 5 = 1 := by kernel_rfl
  rw [hc] at hsz
  obtain ⟨l⟩ := cs
  obtain ⟨c0, c1, c2, c3, rfl⟩ := list4 (l := l) (by simpa using hsz)
  obtain ⟨fuel, hf⟩ := h
  simp only [Value.cells] at hf
  obtain ⟨y0, y1, y2, y3, n, _, h0, h1, h2, h3⟩ := trod_array4 Try.underlying58 hb hf
  obtain ⟨n0, e0, _, w0⟩ := DataW.trod_int Try.underlying5 h0
  obtain ⟨n1, e1, _, w1⟩ := DataW.trod_int Try.underlying5 h1
  obtain ⟨n2, e2, _, w2⟩ := DataW.trod_int Try.underlying5 h2
  obtain ⟨n3, e3, _, w3⟩ := DataW.trod_int Try.underlying5 h3
  simp at e0 e1 e2 e3
  subst e0 e1 e2 e3
  have b0 := wf_u8w w0
  have b1 := wf_u8w w1
  have b2 := wf_u8w w2
  have b3 := wf_u8w w3
  refine ⟨fun j => if j = 0 then n0.toNat else if j = 1 then n1.toNat else if j = 2 then n2.toNat else n3.toNat, fun j => ?_, ?_⟩
  · dsimp only
    split
    · omega
    · split
      · omega
      · split <;> omega
  · have t0 : ((n0.toNat : Nat) : Int) = n0 := Int.toNat_of_nonneg b0.1
    have t1 : ((n1.toNat : Nat) : Int) = n1 := Int.toNat_of_nonneg b1.1
    have t2 : ((n2.toNat : Nat) : Int) = n2 := Int.toNat_of_nonneg b2.1
    have t3 : ((n3.toNat : Nat) : Int) = n3 := Int.toNat_of_nonneg b3.1
    simp [t0, t1, t2, t3]
end
theorem rights_int {w : World} {A : Option Addr} {c : Nat} {ds : List Dd} (hd : DeedsAt w A ds) (z : Nat → Nat) (hz : ∀ j, z j ≤ 255) (a : Int) (hw : (Lit.int .u8 a).wf = true) :
    Calls Try.prog 8 #[.slice A ds.length c, .agg #[.int .u8 (z 0 : Nat), .int .u8 (z 1 : Nat), .int .u8 (z 2 : Nat), .int .u8 (z 3 : Nat)], .int .u8 a] w fun e w' => e = .returned (.bool true) ∧ Below w.heap.size w w' := by
  obtain ⟨h1, h2⟩ := wf_u8w hw
  have := rights_ok (c := c) hd z hz a.toNat (by omega)
  rw [Int.toNat_of_nonneg h1] at this
  exact this
end Go.Proofs.Ytainljbkejafcaa.N
