/- slices.Insert of one element into a row that the walk owns, at any place. -/
import Derived.Test.YtainljbkejafcaaNPut
import Derived.Test.YtainljbkejafcaaNApp
import Derived.Shelf.Spec.SlicesInsert
import Derived.Lib.AppendZerosOnto
import Derived.Laws.NewBlocks
import Derived.Deep.RegionLaw
import Derived.Outline
namespace Go.Proofs.Ytainljbkejafcaa.N
open Go.RowKit Go.Proofs.YtainljbkejafcaaW.PrintMore Go.Proofs.YtainljbkejafcaaW.PrintWords
set_option linter.unusedVariables false
set_option linter.unusedSimpArgs false
theorem run_copy_rowN {P : Program} (w : World) (dT sT ty elem : TypeId) (g o dLen dCap : Nat) (a : Addr) (sLen sCap : Nat) (cur : Array Value) (t : TypeId) (cs : List Value) (k : Nat)
    (hu : P.underlying dT = some (.slice elem)) (hs : (P.info? elem).map (·.size) = some k)
    (hg : w.heap[g]? = some (.cells cur t (0, 0))) (hn : cs.length = Nat.min sLen dLen * k)
    (hsrc : ∀ j v, cs[j]? = some v → w.cell? (a.add j) = some v) (hfit : o + cs.length ≤ cur.size) (h1 : ∀ v ∈ cs, v.oneCell' = true) :
    (Builtin.copy_ #[dT, sT] ty #[.slice (some ⟨g, o, none⟩) dLen dCap, .slice (some a) sLen sCap]).run P w =
      .ok (goInt (Nat.min sLen dLen)) (w.setRow g (cur.toList.take o ++ cs ++ cur.toList.drop (o + cs.length)).toArray) := by
  have hl := run_loadCells_list (P := P) w a cs hsrc
  have hst := run_storeCells_at P g o t cs 0 cur w hg (by simpa using hfit) h1
  cases hq : P.info? elem with
  | none => simp [hq] at hs
  | some i =>
    have hi : i.size = k := by simpa [hq] using hs
    simp [Builtin.copy_, run_underlying hu, Builtin.lenOf, Builtin.firstCells, sizeOf, typeInfo, hq, hi, ← hn, hl, hst]
theorem wpList_append_eq {P : Program} (w : World) {ops : Array Oper} {rest : List Oper} {o : Oper} {a : Act} {Q : Exit → Act → World → Prop} (hgd : o.guard = none) (s x : Operand) (t tn : TypeId)
    (ho : o.op = .call { callee := .builtin .append, args := #[s, x], argTypes := #[t, tn] }) (vs vx : Value) (hs : a.eval s = vs) (hx : a.eval x = vx)
    (v' : Value) (w' : World) (hr : (Builtin.append_ #[t, tn] o.type #[vs, vx]).run P w = .ok v' w') (h : wpList P ops Q rest (a.put o.dst v') w') : wpList P ops Q (o :: rest) a w :=
  Lib.wpList_append_run w hgd s x t tn ho vs vx hs hx v' w' hr h
theorem below_grownB {B : Nat} {w w' : World} {row : Option Nat} (h : Below B w w') (hB : w.heap.size = B) : w.grownBy w' row := ⟨h.os, h.tape, h.output, h.size, fun i hi _ => h.block i (by omega)⟩
/-- What stands in the row behind both copies. -/
theorem ins_list (m : Nat) (L E1 E2 X C1 : List Value) (i n k : Nat) (htk : L.take (n * k) = E1 ++ E2) (h1 : E1.length = i * k) (h2 : E2.length = (n - i) * k) (hx : X.length = k) (hC : C1 = L.take ((i + 1) * k) ++ E2 ++ L.drop ((i + 1) * k + E2.length)) (hi : i < n) (hL : n * k ≤ L.length) (hm : C1.length = m) :
    (E1 ++ X ++ E2).length = (n + 1) * k ∧ (C1.take (i * k) ++ X ++ C1.drop (i * k + X.length)).length = C1.length ∧ (C1.take (i * k) ++ X ++ C1.drop (i * k + X.length)).take ((n + 1) * k) = E1 ++ X ++ E2 := by
  have a1 : (n + 1) * k = i * k + k + (n - i) * k := by
    rw [← Nat.succ_mul, ← Nat.add_mul]; congr 1; omega
  have a2 : n * k = i * k + (n - i) * k := by rw [← Nat.add_mul]; congr 1; omega
  have a3 : (i + 1) * k = i * k + k := Nat.succ_mul i k
  have a4 : i * k + k ≤ n * k := by rw [← a3]; exact Nat.mul_le_mul_right _ (by omega)
  have t1 : L.take (i * k) = E1 := by
    have := congrArg (List.take (i * k)) htk
    rw [List.take_take, Nat.min_eq_left (by omega), ← h1, List.take_left] at this
    rw [← h1]; exact this
  have hlt : (L.take ((i + 1) * k)).length = (i + 1) * k := by rw [List.length_take]; omega
  have c1 : C1.take (i * k) = E1 := by
    rw [hC, List.append_assoc, List.take_append_of_le_length (by rw [hlt]; omega), List.take_take, Nat.min_eq_left (by omega), t1]
  have c2 : C1.drop (i * k + X.length) = E2 ++ L.drop ((i + 1) * k + E2.length) := by
    rw [hC, hx, ← a3, List.append_assoc]
    exact List.drop_left' hlt
  have l1 : C1.length = (i + 1) * k + (E2.length + (L.length - ((i + 1) * k + E2.length))) := by
    rw [hC, List.append_assoc, List.length_append, hlt, List.length_append, List.length_drop]
  refine ⟨?_, ?_, ?_⟩
  · rw [List.length_append, List.length_append, h1, hx, h2]; omega
  · rw [c1, c2, List.length_append, List.length_append, List.length_append, List.length_drop, h1, hx, l1]; omega
  · rw [c1, c2, ← List.append_assoc]
    exact List.take_left' (by rw [List.length_append, List.length_append, h1, hx, h2]; omega)
theorem ovl_S (w : World) (g o vb la ca lb cb : Nat) (hne : vb ≠ g) (ca2 cb2 : Array Value) (ha : w.heap[vb]? = some (.cells ca2 26 (0, 0))) (hb : w.heap[g]? = some (.cells cb2 26 (0, 0))) (hz : cb2.size ≠ 0) :
    (callFunc 87 #[.slice (some ⟨vb, 0, none⟩) la ca, .slice (some ⟨g, o, none⟩) lb cb]).run Try.prog w = .ok (.value (.bool false)) w := by
  obtain ⟨i0, hi0, hz0, hz1, hz2⟩ := info_parts infoSp
  rw [run_callFunc_extern Try.func87 (by kernel_rfl) (by kernel_rfl) (by kernel_rfl) (e := Extern.SlicesOverlaps.overlaps #[30, 30] #[4]) (by kernel_rfl),
      Lib.run_overlaps_apart w 30 4 26 Try.underlying30 4 (fun w => by simp [sizeOf, typeInfo, hi0, hz1]) ⟨vb, 0, none⟩ ⟨g, o, none⟩ la ca lb cb hne 26 26 ca2.size cb2.size (by simp [World.shape?, ha]) (by simp [World.shape?, hb]) hz (by simp [World.frozen?, ha]) (by simp [World.frozen?, ha])]
  rfl
set_option maxHeartbeats 6400000 in
set_option maxRecDepth 100000 in
theorem insert_S {w : World} (B n i : Nat) (v : Value) (xs : List Sp) (x : Sp) (vb : Nat) (hown : w.ownsRow B 26 4 v n (sps xs)) (hl : xs.length = n) (hi : i ≤ n) (hn : n ≤ 1000) (hB : B ≤ w.heap.size)
    (hx : w.heap[vb]? = some (.cells #[.int .i64 x.br, .int .i64 x.vol, .int .i64 x.blk, .int .u64 x.num] 26 (0, 0))) (hne : v.ownBlock ≠ some vb) :
    Calls Try.prog 63 #[v, .int .i64 i, .slice (some ⟨vb, 0, none⟩) 1 1] w fun e w' => ∃ v', e = .returned v' ∧ w'.ownsRow B 26 4 v' (n + 1) (sps (xs.take i ++ [x] ++ xs.drop i)) ∧ w.grownBy w' v.ownBlock ∧ (v'.ownBlock = v.ownBlock ∨ ∃ g, v'.ownBlock = some g ∧ w.heap.size ≤ g) ∧ Below B w w' := by
  obtain ⟨i0, hi0, hz0, hz1, hz2⟩ := info_parts infoSp
  have hvlt := (Array.getElem?_eq_some_iff.1 hx).1
  have hX1 : ∀ j u, (sps [x])[j]? = some u → w.cell? ((⟨vb, 0, none⟩ : Addr).add j) = some u := fun j u hj => by
    have e : w.cell? ⟨vb, j, none⟩ = (sps [x]).toArray[j]? := by simp only [World.cell?, hx]; rfl
    rw [Addr.add_lit, Nat.zero_add, e]; simpa using hj
  by_cases hin : i = n
  · -- at the end
    subst hin
    have hfin : xs.take i ++ [x] ++ xs.drop i = xs ++ [x] := by rw [← hl, List.take_length, List.drop_length, List.append_nil]
    rw [hfin]
    clear hfin
    have HX := Lib.hid hX1
    have HL := Lib.hid hl
    have HH := Lib.hid hx
    clear hX1 hl hx
    have HR := fun ty => Lib.hid (run_append_own_at (P := Try.prog) w B 30 ty 26 i0 (.agg #[.int .i64 0, .int .i64 0, .int .i64 0, .int .u64 0]) 4 32 Try.underlying30 hi0 hz0 hz1 hz2 rfl (by decide) v i (sps xs) hown ⟨vb, 0, none⟩ 1 1 (sps [x]) rfl HX.out (sps_one [x]) (by simp only [maxLen]; omega) (by omega) hB)
    rcases hown.2 with ⟨hv, h0⟩ | ⟨g, cap, cur, hv, hg, hh, hle, hcm, hcs, htk⟩
    all_goals
      subst hv
      first | subst h0 | unfold maxLen at hcm
      have HOwn := Lib.hid hown
      first | clear hown hh hcs htk | clear hown
      go_enter Try.func63, Try.ntmps63
      go_wp2_with (at_builtin; obtain ⟨v', w', r1, r2, r3, _, r4⟩ := (HR _).out; refine wpList_append_eq _ rfl _ _ _ _ rfl _ _ rfl rfl _ _ r1 ?_; clear r1)
      all_goals (
        go_ret
        exact ⟨_, rfl, by rw [sps_app]; exact r2, r3, r4.imp_right (fun e => ⟨_, e, Nat.le_refl _⟩), (Below.refl B w).grown r3 hB (own_ge HOwn.out)⟩)
  rcases hown.2 with ⟨hv, h0⟩ | ⟨g, cap, cur, hv, hg, hh, hle, hcm, hcs, htk⟩
  · omega
  subst hv
  unfold maxLen at hcm
  have hlt : i < n := by omega
  have hvg : vb ≠ g := fun e => hne (by rw [e]; rfl)
  have hglt := (Array.getElem?_eq_some_iff.1 hh).1
  have hE1 : (sps (xs.take i)).length = i * 4 := by rw [sps_len, List.length_take, hl, Nat.min_eq_left hi]
  have hE2 : (sps (xs.drop i)).length = (n - i) * 4 := by rw [sps_len, List.length_drop, hl]
  have hE : sps xs = sps (xs.take i) ++ sps (xs.drop i) := by rw [← sps_app, List.take_append_drop]
  rw [hE] at htk
  have hF : sps (xs.take i ++ [x] ++ xs.drop i) = sps (xs.take i) ++ sps [x] ++ sps (xs.drop i) := by rw [sps_app, sps_app]
  rw [hF]
  have h1a := sps_one (xs.take i)
  have h1b := sps_one (xs.drop i)
  have h1x := sps_one [x]
  have hxl : (sps [x]).length = 4 := rfl
  generalize sps (xs.take i) = E1 at *
  generalize sps (xs.drop i) = E2 at *
  generalize hEx : sps [x] = EX at *
  have hcl : (n * 4) ≤ cur.toList.length := by rw [Array.length_toList, hcs]; exact Nat.mul_le_mul_right _ hle
  have hsrc2 : ∀ j u, E2[j]? = some u → w.cell? ⟨g, i * 4 + j, none⟩ = some u := fun j u hj => by
    simp only [World.cell?, hh]
    have hj2 : j < (n - i) * 4 := by rw [← hE2]; exact (List.getElem?_eq_some_iff.1 hj).1
    have e : (cur.toList.take (n * 4))[i * 4 + j]? = some u := by
      rw [htk, List.getElem?_append_right (by omega), hE1, show i * 4 + j - i * 4 = j by omega]; exact hj
    rw [List.getElem?_take] at e
    split at e
    · rw [← e]; simp
    · cases e
  clear hE hF hX1
  have hX2 : ∀ (W : World), W.heap[vb]? = w.heap[vb]? → ∀ j u, EX[j]? = some u → W.cell? ((⟨vb, 0, none⟩ : Addr).add j) = some u := fun W hW j u hj => by
    have e : W.cell? ⟨vb, j, none⟩ = (sps [x]).toArray[j]? := by simp only [World.cell?, hW, hx]; rfl
    rw [Addr.add_lit, Nat.zero_add, e, hEx]; simpa using hj
  have HX := Lib.hid hX2
  clear hX2
  have e1 : (0 : Int) ≤ (i : Int) + 1 := by omega
  have e2 : (i : Int) < (n : Int) := by omega
  have e3 : ¬ ((i : Int) = (n : Int)) := by omega
  have e4 : ((i : Int) + 1).toNat = i + 1 := by omega
  have e5 : (i : Int) ≤ (n : Int) := by omega
  have e6 : (i : Int) ≤ (n : Int) + 1 := by omega
  by_cases hroom : n + 1 ≤ cap
  · -- there is room
    have e7 : ¬ (cap = i) := by omega
    have e8 : ¬ (cap = i + 1) := by omega
    have e9 : ¬ ((cap : Int) < (n : Int) + 1) := by omega
    have e10 : (n : Int) + 1 ≤ (cap : Int) := by omega
    have hO := fun o la ca lb cb => Lib.hid (ovl_S w g o vb la ca lb cb hvg _ cur hx hh (by rw [hcs]; omega))
    have hc1 : Hid (∀ ty o1 o2 dl dc sl sc, o1 = (i + 1) * 4 → o2 = i * 4 → Nat.min sl dl = n - i → (Builtin.copy_ #[30, 30] ty #[.slice (some ⟨g, o1, none⟩) dl dc, .slice (some ⟨g, o2, none⟩) sl sc]).run Try.prog w.drew = .ok (goInt (n - i : Nat)) (w.drew.setRow g (cur.toList.take ((i + 1) * 4) ++ E2 ++ cur.toList.drop ((i + 1) * 4 + E2.length)).toArray)) := fun ty o1 o2 dl dc sl sc a1 a2 hmin => by
      subst a1 a2
      rw [run_copy_rowN w.drew 30 30 ty 26 g ((i + 1) * 4) dl dc ⟨g, i * 4, none⟩ sl sc cur 26 E2 4 Try.underlying30 (by rw [hi0]; simp [hz1]) hh (by rw [hE2, hmin]) (fun j u hj => by rw [Addr.add_lit]; exact hsrc2 j u hj) (by rw [hE2, hcs, ← Nat.add_mul]; exact Nat.mul_le_mul_right _ (by omega)) h1b, hmin]
    have hcl1 : (cur.toList.take ((i + 1) * 4) ++ E2 ++ cur.toList.drop ((i + 1) * 4 + E2.length)).length = cap * 4 := by
      rw [List.length_append, List.length_append, List.length_take, List.length_drop, Array.length_toList, hcs, hE2]
      omega
    obtain ⟨C1, hC1⟩ : ∃ C1, cur.toList.take ((i + 1) * 4) ++ E2 ++ cur.toList.drop ((i + 1) * 4 + E2.length) = C1 := ⟨_, rfl⟩
    rw [hC1] at hc1 hcl1
    have hh1 := setRow_heap w.drew g cur C1.toArray 26 (0, 0) hh
    have hvb1 : (w.drew.setRow g C1.toArray).heap[vb]? = w.heap[vb]? := setRow_block _ _ _ _ hvg
    have hbk : ∀ q, q ≠ g → (w.drew.setRow g C1.toArray).heap[q]? = w.heap[q]? := fun q hq => setRow_block _ _ _ _ hq
    have hsz1 : (w.drew.setRow g C1.toArray).heap.size = w.heap.size := by simp [World.setRow]
    have hfr1 : (w.drew.setRow g C1.toArray).os = w.os ∧ (w.drew.setRow g C1.toArray).tape = w.tape ∧ (w.drew.setRow g C1.toArray).output = w.output := ⟨rfl, rfl, rfl⟩
    generalize hW1 : w.drew.setRow g C1.toArray = W1 at *
    have hc2 : Hid (∀ ty o1 dl dc, o1 = i * 4 → 1 ≤ dl → (Builtin.copy_ #[30, 30] ty #[.slice (some ⟨g, o1, none⟩) dl dc, .slice (some ⟨vb, 0, none⟩) 1 1]).run Try.prog W1 = .ok (goInt 1) (W1.setRow g (C1.take (i * 4) ++ EX ++ C1.drop (i * 4 + EX.length)).toArray)) := fun ty o1 dl dc a1 hdl => by
      subst a1
      rw [run_copy_rowN W1 30 30 ty 26 g (i * 4) dl dc ⟨vb, 0, none⟩ 1 1 C1.toArray 26 EX 4 Try.underlying30 (by rw [hi0]; simp [hz1]) hh1 (by rw [hxl, show Nat.min 1 dl = 1 by simp only [Nat.min_def]; split <;> omega]) (HX.out W1 hvb1) (by rw [hxl, List.size_toArray, hcl1]; omega) h1x, show Nat.min 1 dl = 1 by simp only [Nat.min_def]; split <;> omega]
      rfl
    have hf := (ins_list (C1.length) cur.toList E1 E2 EX C1 i n 4 htk hE1 hE2 hxl hC1.symm (by omega) hcl rfl)
    obtain ⟨C2, hC2⟩ : ∃ C2, C1.take (i * 4) ++ EX ++ C1.drop (i * 4 + EX.length) = C2 := ⟨_, rfl⟩
    rw [hC2] at hc2 hf
    have HF := Lib.hid hf
    clear hC2 hf
    have HC := Lib.hid hcl1
    have HH1 := Lib.hid hh1
    have HB1 := Lib.hid (And.intro hbk (And.intro hsz1 hfr1))
    clear hx hh hC1 hsrc2 hne hE1 hE2 htk hh1 hvb1 hbk hsz1 hfr1 hown hl hcl hcl1 hEx h1a h1b h1x hxl hcs
    have HW := Lib.hid hW1
    clear hW1
    have hmin1 := Lib.hid (show Nat.min (n + 1 - i) (n - i) = n - i by simp only [Nat.min_def]; split <;> omega)
    have hmin2 := Lib.hid (show 1 ≤ n + 1 - i by omega)
    have hw1 : IntKind.i64.wrap ((i : Int) + 1) = (i : Int) + 1 := by rw [IntKind.wrap_i64]; omega
    go_enter Try.func63, Try.ntmps63
    go_wp2_with (simp only [(hO _ _ _ _ _).out])
    have q1 := hc1.out 3 ((i + 1) * 4) (i * 4) (n - i) (cap - (i + 1)) (n + 1 - i) (cap - i) (by simp) (by simp) hmin1.out
    go_region
    have q2 := hc2.out 3 (i * 4) (n + 1 - i) (cap - i) (by simp) hmin2.out
    go_wp2_with fail
    go_ret
    obtain ⟨hbk, hsz1, hf1, hf2, hf3⟩ := HB1.out
    refine ⟨_, rfl, ⟨HF.out.1, .inr ⟨g, cap, _, rfl, hg, setRow_heap _ _ _ _ _ _ HH1.out, hroom, by simp only [maxLen]; omega, ?_, ?_⟩⟩, ⟨hf1, hf2, hf3, by simp [World.setRow, hsz1], fun q hq hq2 => (setRow_block _ _ _ _ (fun e => hq2 (by rw [e]; rfl))).trans (hbk q (fun e => hq2 (by rw [e]; rfl)))⟩, .inl rfl, ⟨hf1, hf2, hf3, by simp [World.setRow, hsz1], fun q hq => (setRow_block _ _ _ _ (fun e => by omega)).trans (hbk q (fun e => by omega))⟩⟩
    · rw [List.size_toArray, HF.out.2.1, HC.out]
    · exact HF.out.2.2
  · -- there is none
    obtain rfl : cap = n := by omega
    have e7 : ¬ (cap = i) := by omega
    have e9 : (cap : Int) < (cap : Int) + 1 := by omega
    have hold : (Builtin.firstCells i0.size i (.slice (some ⟨g, 0, none⟩) i cap)).run Try.prog w.drew = .ok E1.toArray w.drew := by
      rw [hz1]
      exact run_firstCells_some w.drew 4 i ⟨g, 0, none⟩ i cap E1 hE1 (fun j u hj => by
        rw [Addr.add_lit, Nat.zero_add]
        have hj2 : j < i * 4 := by rw [← hE1]; exact (List.getElem?_eq_some_iff.1 hj).1
        have e : (cur.toList.take (cap * 4))[j]? = some u := by
          rw [htk, List.getElem?_append_left (by omega)]; exact hj
        show w.cell? _ = _
        simp only [World.cell?, hh]
        rw [List.getElem?_take] at e
        split at e
        · rw [← e]; simp
        · cases e)
    have hr1 : Hid (∃ W1 G ROW, (∀ ty, (Builtin.append_ #[30, 3] ty #[.slice (some ⟨g, 0, none⟩) i cap, .int .i64 ((cap : Int) + 1 - (i : Int))]).run Try.prog w = .ok (.slice (some ⟨w.heap.size, 0, none⟩) (cap + 1) G) W1) ∧ W1.heap[w.heap.size]? = some (.cells ROW 26 (0, 0)) ∧ Below w.heap.size w W1 ∧ cap + 1 ≤ G ∧ G ≤ 9223372036854775807 ∧ ROW.size = G * 4 ∧ ROW.toList.take (i * 4) = E1) := by
      have hg1 := grownCap_ge w (cap + 1) cap 26
      have hg2 := grownCap_le_maxLen w (cap + 1) cap 26 (by unfold maxLen; omega)
      unfold maxLen at hg2
      have h := fun ty => Lib.run_append_grow_zeros w 30 3 ty 26 i0 (.agg #[.int .i64 0, .int .i64 0, .int .i64 0, .int .u64 0]) .i64 .i64 Try.underlying30 Try.underlying3 hi0 hz0 (some ⟨g, 0, none⟩) i cap E1 hold (cap + 1 - i) (by omega) (by omega) (by omega) (by omega) (by rw [hz2]; omega) (by rw [hz2]; exact growslice_fits (by omega) (by omega))
      rw [show i + (cap + 1 - i) = cap + 1 by omega, show ((cap + 1 - i : Nat) : Int) = (cap : Int) + 1 - (i : Int) by omega] at h
      refine ⟨_, _, _, h, heap_alloc_new w.drew _, (bel_drewN w.heap.size w (n := 1)).alloc (Nat.le_refl _) _, hg1, by omega, ?_, ?_⟩
      · rw [Array.size_append, Array.size_append, List.size_toArray, hE1]
        simp only [Builtin.zeroCells, Value.cells, Array.size_map, Array.size_range]
        show i * 4 + (cap + 1 - i) * 4 + (_ - (cap + 1)) * 4 = _
        omega
      · rw [Array.toList_append, Array.toList_append, List.append_assoc]
        exact List.take_left' hE1
    obtain ⟨W1, G, ROW, r1, hh1, hb1, hG1, hG2, hRs, hRt⟩ := hr1.out
    clear hr1 hold
    have hvb1 : W1.heap[vb]? = w.heap[vb]? := hb1.block _ hvlt
    have hg1 : W1.heap[g]? = w.heap[g]? := hb1.block _ hglt
    obtain ⟨N0, hN0⟩ : ∃ N0, w.heap.size = N0 := ⟨_, rfl⟩
    rw [hN0] at r1 hh1 hb1
    have hbN : B ≤ N0 := by omega
    have hgN : g < N0 := by omega
    have hvN : vb < N0 := by omega
    have e8 : ¬ (G = i) := by omega
    have e10 : ¬ (G = i + 1) := by omega
    have hC1 : Hid (∀ ty o1 dl dc, o1 = i * 4 → 1 ≤ dl → (Builtin.copy_ #[30, 30] ty #[.slice (some ⟨N0, o1, none⟩) dl dc, .slice (some ⟨vb, 0, none⟩) 1 1]).run Try.prog W1 = .ok (goInt 1) (W1.setRow N0 (ROW.toList.take (i * 4) ++ EX ++ ROW.toList.drop (i * 4 + EX.length)).toArray)) := fun ty o1 dl dc a1 hdl => by
      subst a1
      rw [run_copy_rowN W1 30 30 ty 26 N0 (i * 4) dl dc ⟨vb, 0, none⟩ 1 1 ROW 26 EX 4 Try.underlying30 (by rw [hi0]; simp [hz1]) hh1 (by rw [hxl, show Nat.min 1 dl = 1 by simp only [Nat.min_def]; split <;> omega]) (HX.out W1 hvb1) (by rw [hxl, hRs]; omega) h1x, show Nat.min 1 dl = 1 by simp only [Nat.min_def]; split <;> omega]
      rfl
    have hcl1 : (ROW.toList.take (i * 4) ++ EX ++ ROW.toList.drop (i * 4 + EX.length)).length = G * 4 := by
      rw [List.length_append, List.length_append, List.length_take, List.length_drop, Array.length_toList, hRs, hxl]
      omega
    have hct : (ROW.toList.take (i * 4) ++ EX ++ ROW.toList.drop (i * 4 + EX.length)).take ((i + 1) * 4) = E1 ++ EX := by
      rw [hRt]
      exact List.take_left' (by rw [List.length_append, hE1, hxl]; omega)
    generalize ROW.toList.take (i * 4) ++ EX ++ ROW.toList.drop (i * 4 + EX.length) = C1 at *
    have hh2 := setRow_heap W1 N0 ROW C1.toArray 26 (0, 0) hh1
    have hb2 : Below N0 w (W1.setRow N0 C1.toArray) := bel_setRow hb1 (Nat.le_refl _) _
    generalize W1.setRow N0 C1.toArray = W2 at *
    have hg2 : W2.heap[g]? = some (.cells cur 26 (0, 0)) := (hb2.block _ hgN).trans hh
    have hC2 : Hid (∀ ty o1 o2 dl dc sl sc, o1 = (i + 1) * 4 → o2 = i * 4 → Nat.min sl dl = cap - i → (Builtin.copy_ #[30, 30] ty #[.slice (some ⟨N0, o1, none⟩) dl dc, .slice (some ⟨g, o2, none⟩) sl sc]).run Try.prog W2.drew = .ok (goInt (cap - i : Nat)) (W2.drew.setRow N0 (C1.take ((i + 1) * 4) ++ E2 ++ C1.drop ((i + 1) * 4 + E2.length)).toArray)) := fun ty o1 o2 dl dc sl sc a1 a2 hmin => by
      subst a1 a2
      rw [run_copy_rowN W2.drew 30 30 ty 26 N0 ((i + 1) * 4) dl dc ⟨g, i * 4, none⟩ sl sc C1.toArray 26 E2 4 Try.underlying30 (by rw [hi0]; simp [hz1]) hh2 (by rw [hE2, hmin]) (fun j u hj => by
        rw [Addr.add_lit]
        have h := hsrc2 j u hj
        show W2.cell? _ = _
        simp only [World.cell?, hg2]
        simp only [World.cell?, hh] at h
        exact h) (by rw [hE2, List.size_toArray, hcl1, ← Nat.add_mul]; exact Nat.mul_le_mul_right _ (by omega)) h1b, hmin]
    have hcl2 : (C1.take ((i + 1) * 4) ++ E2 ++ C1.drop ((i + 1) * 4 + E2.length)).length = G * 4 := by
      have : (i + 1) * 4 + (cap - i) * 4 ≤ G * 4 := by rw [← Nat.add_mul]; exact Nat.mul_le_mul_right _ (by omega)
      rw [List.length_append, List.length_append, List.length_take, List.length_drop, hcl1, hE2]
      omega
    have hct2 : (C1.take ((i + 1) * 4) ++ E2 ++ C1.drop ((i + 1) * 4 + E2.length)).take ((cap + 1) * 4) = E1 ++ EX ++ E2 := by
      rw [hct]
      exact List.take_left' (by rw [List.length_append, List.length_append, hE1, hxl, hE2]; omega)
    have hfl : (E1 ++ EX ++ E2).length = (cap + 1) * 4 := by rw [List.length_append, List.length_append, hE1, hxl, hE2]; omega
    generalize C1.take ((i + 1) * 4) ++ E2 ++ C1.drop ((i + 1) * 4 + E2.length) = C2 at *
    have hh3 := setRow_heap W2.drew N0 C1.toArray C2.toArray 26 (0, 0) hh2
    have hb3 : Below N0 w (W2.drew.setRow N0 C2.toArray) := bel_setRow (hb2.trans (bel_drewN _ _ (n := 1))) (Nat.le_refl _) _
    generalize W2.drew.setRow N0 C2.toArray = W3 at *
    have HF := Lib.hid (And.intro hh3 (And.intro hb3 (And.intro hcl2 (And.intro hct2 (And.intro hfl hN0)))))
    clear hx hh hsrc2 hne hE1 hE2 htk hown hl hcl hEx h1a h1b h1x hxl hcs hh1 hb1 hvb1 hg1 hRs hRt hcl1 hct hh2 hb2 hg2 hcl2 hct2 hh3 hb3 hfl hN0 HX
    have hmin1 := Lib.hid (show Nat.min (cap - i) (cap - i) = cap - i by simp only [Nat.min_def]; split <;> omega)
    have hmin2 := Lib.hid (show 1 ≤ cap + 1 - i by omega)
    have hbz : B ≤ N0 := hbN
    have HZ := Lib.hid hbz
    have hw1 : IntKind.i64.wrap ((i : Int) + 1) = (i : Int) + 1 := by rw [IntKind.wrap_i64]; omega
    have q1 := hC1.out 3 (i * 4) (cap + 1 - i) (G - i) (by simp) hmin2.out
    have q2 := hC2.out 3 ((i + 1) * 4) (i * 4) (cap - i) (G - (i + 1)) (cap - i) (cap - i) (by simp) (by simp) hmin1.out
    go_enter Try.func63, Try.ntmps63
    go_wp2_with (at_builtin; refine Lib.wpList_append_run _ rfl _ _ _ _ rfl _ _ rfl rfl _ _ (r1 _) ?_)
    go_region
    go_wp2_with fail
    go_ret
    obtain ⟨hh3, hb3, hcl2, hct2, hfl, hN0⟩ := HF.out
    subst hN0
    exact ⟨_, rfl, ⟨hfl, .inr ⟨w.heap.size, G, C2.toArray, rfl, HZ.out, hh3, hG1, by simp only [maxLen]; omega, by rw [List.size_toArray, hcl2], hct2⟩⟩, below_grownB hb3 rfl, .inr ⟨w.heap.size, rfl, Nat.le_refl _⟩, hb3.mono HZ.out⟩
theorem ovl_U (w : World) (g o vb la ca lb cb : Nat) (hne : vb ≠ g) (ca2 cb2 : Array Value) (ha : w.heap[vb]? = some (.cells ca2 24 (0, 0))) (hb : w.heap[g]? = some (.cells cb2 24 (0, 0))) (hz : cb2.size ≠ 0) :
    (callFunc 89 #[.slice (some ⟨vb, 0, none⟩) la ca, .slice (some ⟨g, o, none⟩) lb cb]).run Try.prog w = .ok (.value (.bool false)) w := by
  obtain ⟨i0, hi0, hz0, hz1, hz2⟩ := info_parts infoU
  rw [run_callFunc_extern Try.func89 (by kernel_rfl) (by kernel_rfl) (by kernel_rfl) (e := Extern.SlicesOverlaps.overlaps #[32, 32] #[4]) (by kernel_rfl),
      Lib.run_overlaps_apart w 32 4 24 Try.underlying32 1 (fun w => by simp [sizeOf, typeInfo, hi0, hz1]) ⟨vb, 0, none⟩ ⟨g, o, none⟩ la ca lb cb hne 24 24 ca2.size cb2.size (by simp [World.shape?, ha]) (by simp [World.shape?, hb]) hz (by simp [World.frozen?, ha]) (by simp [World.frozen?, ha])]
  rfl
set_option maxHeartbeats 6400000 in
set_option maxRecDepth 100000 in
theorem insert_U {w : World} (B n i : Nat) (v : Value) (xs : List Int) (x : Int) (vb : Nat) (hown : w.ownsRow B 24 1 v n (u64s xs)) (hl : xs.length = n) (hi : i ≤ n) (hn : n ≤ 1000) (hB : B ≤ w.heap.size)
    (hx : w.heap[vb]? = some (.cells #[.int .u64 x] 24 (0, 0))) (hne : v.ownBlock ≠ some vb) :
    Calls Try.prog 64 #[v, .int .i64 i, .slice (some ⟨vb, 0, none⟩) 1 1] w fun e w' => ∃ v', e = .returned v' ∧ w'.ownsRow B 24 1 v' (n + 1) (u64s (xs.take i ++ [x] ++ xs.drop i)) ∧ w.grownBy w' v.ownBlock ∧ (v'.ownBlock = v.ownBlock ∨ ∃ g, v'.ownBlock = some g ∧ w.heap.size ≤ g) ∧ Below B w w' := by
  obtain ⟨i0, hi0, hz0, hz1, hz2⟩ := info_parts infoU
  have hvlt := (Array.getElem?_eq_some_iff.1 hx).1
  have hX1 : ∀ j u, (u64s [x])[j]? = some u → w.cell? ((⟨vb, 0, none⟩ : Addr).add j) = some u := fun j u hj => by
    have e : w.cell? ⟨vb, j, none⟩ = (u64s [x]).toArray[j]? := by simp only [World.cell?, hx]; rfl
    rw [Addr.add_lit, Nat.zero_add, e]; simpa using hj
  by_cases hin : i = n
  · -- at the end
    subst hin
    have hfin : xs.take i ++ [x] ++ xs.drop i = xs ++ [x] := by rw [← hl, List.take_length, List.drop_length, List.append_nil]
    rw [hfin]
    clear hfin
    have HX := Lib.hid hX1
    have HL := Lib.hid hl
    have HH := Lib.hid hx
    clear hX1 hl hx
    have HR := fun ty => Lib.hid (run_append_own_at (P := Try.prog) w B 32 ty 24 i0 (.int .u64 0) 1 8 Try.underlying32 hi0 hz0 hz1 hz2 rfl (by decide) v i (u64s xs) hown ⟨vb, 0, none⟩ 1 1 (u64s [x]) rfl HX.out (u64s_one [x]) (by simp only [maxLen]; omega) (by omega) hB)
    rcases hown.2 with ⟨hv, h0⟩ | ⟨g, cap, cur, hv, hg, hh, hle, hcm, hcs, htk⟩
    all_goals
      subst hv
      first | subst h0 | unfold maxLen at hcm
      have HOwn := Lib.hid hown
      first | clear hown hh hcs htk | clear hown
      go_enter Try.func64, Try.ntmps64
      go_wp2_with (at_builtin; obtain ⟨v', w', r1, r2, r3, _, r4⟩ := (HR _).out; refine wpList_append_eq _ rfl _ _ _ _ rfl _ _ rfl rfl _ _ r1 ?_; clear r1)
      all_goals (
        go_ret
        exact ⟨_, rfl, by rw [u64s_app]; exact r2, r3, r4.imp_right (fun e => ⟨_, e, Nat.le_refl _⟩), (Below.refl B w).grown r3 hB (own_ge HOwn.out)⟩)
  rcases hown.2 with ⟨hv, h0⟩ | ⟨g, cap, cur, hv, hg, hh, hle, hcm, hcs, htk⟩
  · omega
  subst hv
  unfold maxLen at hcm
  have hlt : i < n := by omega
  have hvg : vb ≠ g := fun e => hne (by rw [e]; rfl)
  have hglt := (Array.getElem?_eq_some_iff.1 hh).1
  have hE1 : (u64s (xs.take i)).length = i * 1 := by rw [u64s_len1, List.length_take, hl, Nat.min_eq_left hi]
  have hE2 : (u64s (xs.drop i)).length = (n - i) * 1 := by rw [u64s_len1, List.length_drop, hl]
  have hE : u64s xs = u64s (xs.take i) ++ u64s (xs.drop i) := by rw [← u64s_app, List.take_append_drop]
  rw [hE] at htk
  have hF : u64s (xs.take i ++ [x] ++ xs.drop i) = u64s (xs.take i) ++ u64s [x] ++ u64s (xs.drop i) := by rw [u64s_app, u64s_app]
  rw [hF]
  have h1a := u64s_one (xs.take i)
  have h1b := u64s_one (xs.drop i)
  have h1x := u64s_one [x]
  have hxl : (u64s [x]).length = 1 := rfl
  generalize u64s (xs.take i) = E1 at *
  generalize u64s (xs.drop i) = E2 at *
  generalize hEx : u64s [x] = EX at *
  have hcl : (n * 1) ≤ cur.toList.length := by rw [Array.length_toList, hcs]; exact Nat.mul_le_mul_right _ hle
  have hsrc2 : ∀ j u, E2[j]? = some u → w.cell? ⟨g, i * 1 + j, none⟩ = some u := fun j u hj => by
    simp only [World.cell?, hh]
    have hj2 : j < (n - i) * 1 := by rw [← hE2]; exact (List.getElem?_eq_some_iff.1 hj).1
    have e : (cur.toList.take (n * 1))[i * 1 + j]? = some u := by
      rw [htk, List.getElem?_append_right (by omega), hE1, show i * 1 + j - i * 1 = j by omega]; exact hj
    rw [List.getElem?_take] at e
    split at e
    · rw [← e]; simp
    · cases e
  clear hE hF hX1
  have hX2 : ∀ (W : World), W.heap[vb]? = w.heap[vb]? → ∀ j u, EX[j]? = some u → W.cell? ((⟨vb, 0, none⟩ : Addr).add j) = some u := fun W hW j u hj => by
    have e : W.cell? ⟨vb, j, none⟩ = (u64s [x]).toArray[j]? := by simp only [World.cell?, hW, hx]; rfl
    rw [Addr.add_lit, Nat.zero_add, e, hEx]; simpa using hj
  have HX := Lib.hid hX2
  clear hX2
  have e1 : (0 : Int) ≤ (i : Int) + 1 := by omega
  have e2 : (i : Int) < (n : Int) := by omega
  have e3 : ¬ ((i : Int) = (n : Int)) := by omega
  have e4 : ((i : Int) + 1).toNat = i + 1 := by omega
  have e5 : (i : Int) ≤ (n : Int) := by omega
  have e6 : (i : Int) ≤ (n : Int) + 1 := by omega
  by_cases hroom : n + 1 ≤ cap
  · -- there is room
    have e7 : ¬ (cap = i) := by omega
    have e8 : ¬ (cap = i + 1) := by omega
    have e9 : ¬ ((cap : Int) < (n : Int) + 1) := by omega
    have e10 : (n : Int) + 1 ≤ (cap : Int) := by omega
    have hO := fun o la ca lb cb => Lib.hid (ovl_U w g o vb la ca lb cb hvg _ cur hx hh (by rw [hcs]; omega))
    have hc1 : Hid (∀ ty o1 o2 dl dc sl sc, o1 = (i + 1) * 1 → o2 = i * 1 → Nat.min sl dl = n - i → (Builtin.copy_ #[32, 32] ty #[.slice (some ⟨g, o1, none⟩) dl dc, .slice (some ⟨g, o2, none⟩) sl sc]).run Try.prog w.drew = .ok (goInt (n - i : Nat)) (w.drew.setRow g (cur.toList.take ((i + 1) * 1) ++ E2 ++ cur.toList.drop ((i + 1) * 1 + E2.length)).toArray)) := fun ty o1 o2 dl dc sl sc a1 a2 hmin => by
      subst a1 a2
      rw [run_copy_rowN w.drew 32 32 ty 24 g ((i + 1) * 1) dl dc ⟨g, i * 1, none⟩ sl sc cur 24 E2 1 Try.underlying32 (by rw [hi0]; simp [hz1]) hh (by rw [hE2, hmin]) (fun j u hj => by rw [Addr.add_lit]; exact hsrc2 j u hj) (by rw [hE2, hcs, ← Nat.add_mul]; exact Nat.mul_le_mul_right _ (by omega)) h1b, hmin]
    have hcl1 : (cur.toList.take ((i + 1) * 1) ++ E2 ++ cur.toList.drop ((i + 1) * 1 + E2.length)).length = cap * 1 := by
      rw [List.length_append, List.length_append, List.length_take, List.length_drop, Array.length_toList, hcs, hE2]
      omega
    obtain ⟨C1, hC1⟩ : ∃ C1, cur.toList.take ((i + 1) * 1) ++ E2 ++ cur.toList.drop ((i + 1) * 1 + E2.length) = C1 := ⟨_, rfl⟩
    rw [hC1] at hc1 hcl1
    have hh1 := setRow_heap w.drew g cur C1.toArray 24 (0, 0) hh
    have hvb1 : (w.drew.setRow g C1.toArray).heap[vb]? = w.heap[vb]? := setRow_block _ _ _ _ hvg
    have hbk : ∀ q, q ≠ g → (w.drew.setRow g C1.toArray).heap[q]? = w.heap[q]? := fun q hq => setRow_block _ _ _ _ hq
    have hsz1 : (w.drew.setRow g C1.toArray).heap.size = w.heap.size := by simp [World.setRow]
    have hfr1 : (w.drew.setRow g C1.toArray).os = w.os ∧ (w.drew.setRow g C1.toArray).tape = w.tape ∧ (w.drew.setRow g C1.toArray).output = w.output := ⟨rfl, rfl, rfl⟩
    generalize hW1 : w.drew.setRow g C1.toArray = W1 at *
    have hc2 : Hid (∀ ty o1 dl dc, o1 = i * 1 → 1 ≤ dl → (Builtin.copy_ #[32, 32] ty #[.slice (some ⟨g, o1, none⟩) dl dc, .slice (some ⟨vb, 0, none⟩) 1 1]).run Try.prog W1 = .ok (goInt 1) (W1.setRow g (C1.take (i * 1) ++ EX ++ C1.drop (i * 1 + EX.length)).toArray)) := fun ty o1 dl dc a1 hdl => by
      subst a1
      rw [run_copy_rowN W1 32 32 ty 24 g (i * 1) dl dc ⟨vb, 0, none⟩ 1 1 C1.toArray 24 EX 1 Try.underlying32 (by rw [hi0]; simp [hz1]) hh1 (by rw [hxl, show Nat.min 1 dl = 1 by simp only [Nat.min_def]; split <;> omega]) (HX.out W1 hvb1) (by rw [hxl, List.size_toArray, hcl1]; omega) h1x, show Nat.min 1 dl = 1 by simp only [Nat.min_def]; split <;> omega]
      rfl
    have hf := (ins_list (C1.length) cur.toList E1 E2 EX C1 i n 1 htk hE1 hE2 hxl hC1.symm (by omega) hcl rfl)
    obtain ⟨C2, hC2⟩ : ∃ C2, C1.take (i * 1) ++ EX ++ C1.drop (i * 1 + EX.length) = C2 := ⟨_, rfl⟩
    rw [hC2] at hc2 hf
    have HF := Lib.hid hf
    clear hC2 hf
    have HC := Lib.hid hcl1
    have HH1 := Lib.hid hh1
    have HB1 := Lib.hid (And.intro hbk (And.intro hsz1 hfr1))
    clear hx hh hC1 hsrc2 hne hE1 hE2 htk hh1 hvb1 hbk hsz1 hfr1 hown hl hcl hcl1 hEx h1a h1b h1x hxl hcs
    have HW := Lib.hid hW1
    clear hW1
    have hmin1 := Lib.hid (show Nat.min (n + 1 - i) (n - i) = n - i by simp only [Nat.min_def]; split <;> omega)
    have hmin2 := Lib.hid (show 1 ≤ n + 1 - i by omega)
    have hw1 : IntKind.i64.wrap ((i : Int) + 1) = (i : Int) + 1 := by rw [IntKind.wrap_i64]; omega
    go_enter Try.func64, Try.ntmps64
    go_wp2_with (simp only [(hO _ _ _ _ _).out])
    have q1 := hc1.out 3 ((i + 1)) (i) (n - i) (cap - (i + 1)) (n + 1 - i) (cap - i) (by simp) (by simp) hmin1.out
    go_region
    have q2 := hc2.out 3 (i) (n + 1 - i) (cap - i) (by simp) hmin2.out
    go_wp2_with fail
    go_ret
    obtain ⟨hbk, hsz1, hf1, hf2, hf3⟩ := HB1.out
    refine ⟨_, rfl, ⟨HF.out.1, .inr ⟨g, cap, _, rfl, hg, setRow_heap _ _ _ _ _ _ HH1.out, hroom, by simp only [maxLen]; omega, ?_, ?_⟩⟩, ⟨hf1, hf2, hf3, by simp [World.setRow, hsz1], fun q hq hq2 => (setRow_block _ _ _ _ (fun e => hq2 (by rw [e]; rfl))).trans (hbk q (fun e => hq2 (by rw [e]; rfl)))⟩, .inl rfl, ⟨hf1, hf2, hf3, by simp [World.setRow, hsz1], fun q hq => (setRow_block _ _ _ _ (fun e => by omega)).trans (hbk q (fun e => by omega))⟩⟩
    · rw [List.size_toArray, HF.out.2.1, HC.out]
    · exact HF.out.2.2
  · -- there is none
    obtain rfl : cap = n := by omega
    have e7 : ¬ (cap = i) := by omega
    have e9 : (cap : Int) < (cap : Int) + 1 := by omega
    have hold : (Builtin.firstCells i0.size i (.slice (some ⟨g, 0, none⟩) i cap)).run Try.prog w.drew = .ok E1.toArray w.drew := by
      rw [hz1]
      exact run_firstCells_some w.drew 1 i ⟨g, 0, none⟩ i cap E1 hE1 (fun j u hj => by
        rw [Addr.add_lit, Nat.zero_add]
        have hj2 : j < i * 1 := by rw [← hE1]; exact (List.getElem?_eq_some_iff.1 hj).1
        have e : (cur.toList.take (cap * 1))[j]? = some u := by
          rw [htk, List.getElem?_append_left (by omega)]; exact hj
        show w.cell? _ = _
        simp only [World.cell?, hh]
        rw [List.getElem?_take] at e
        split at e
        · rw [← e]; simp
        · cases e)
    have hr1 : Hid (∃ W1 G ROW, (∀ ty, (Builtin.append_ #[32, 3] ty #[.slice (some ⟨g, 0, none⟩) i cap, .int .i64 ((cap : Int) + 1 - (i : Int))]).run Try.prog w = .ok (.slice (some ⟨w.heap.size, 0, none⟩) (cap + 1) G) W1) ∧ W1.heap[w.heap.size]? = some (.cells ROW 24 (0, 0)) ∧ Below w.heap.size w W1 ∧ cap + 1 ≤ G ∧ G ≤ 9223372036854775807 ∧ ROW.size = G * 1 ∧ ROW.toList.take (i * 1) = E1) := by
      have hg1 := grownCap_ge w (cap + 1) cap 24
      have hg2 := grownCap_le_maxLen w (cap + 1) cap 24 (by unfold maxLen; omega)
      unfold maxLen at hg2
      have h := fun ty => Lib.run_append_grow_zeros w 32 3 ty 24 i0 (.int .u64 0) .i64 .i64 Try.underlying32 Try.underlying3 hi0 hz0 (some ⟨g, 0, none⟩) i cap E1 hold (cap + 1 - i) (by omega) (by omega) (by omega) (by omega) (by rw [hz2]; omega) (by rw [hz2]; exact growslice_fits (by omega) (by omega))
      rw [show i + (cap + 1 - i) = cap + 1 by omega, show ((cap + 1 - i : Nat) : Int) = (cap : Int) + 1 - (i : Int) by omega] at h
      refine ⟨_, _, _, h, heap_alloc_new w.drew _, (bel_drewN w.heap.size w (n := 1)).alloc (Nat.le_refl _) _, hg1, by omega, ?_, ?_⟩
      · rw [Array.size_append, Array.size_append, List.size_toArray, hE1]
        simp only [Builtin.zeroCells, Value.cells, Array.size_map, Array.size_range]
        show i * 1 + (cap + 1 - i) * 1 + (_ - (cap + 1)) * 1 = _
        omega
      · rw [Array.toList_append, Array.toList_append, List.append_assoc]
        exact List.take_left' hE1
    obtain ⟨W1, G, ROW, r1, hh1, hb1, hG1, hG2, hRs, hRt⟩ := hr1.out
    clear hr1 hold
    have hvb1 : W1.heap[vb]? = w.heap[vb]? := hb1.block _ hvlt
    have hg1 : W1.heap[g]? = w.heap[g]? := hb1.block _ hglt
    obtain ⟨N0, hN0⟩ : ∃ N0, w.heap.size = N0 := ⟨_, rfl⟩
    rw [hN0] at r1 hh1 hb1
    have hbN : B ≤ N0 := by omega
    have hgN : g < N0 := by omega
    have hvN : vb < N0 := by omega
    have e8 : ¬ (G = i) := by omega
    have e10 : ¬ (G = i + 1) := by omega
    have hC1 : Hid (∀ ty o1 dl dc, o1 = i * 1 → 1 ≤ dl → (Builtin.copy_ #[32, 32] ty #[.slice (some ⟨N0, o1, none⟩) dl dc, .slice (some ⟨vb, 0, none⟩) 1 1]).run Try.prog W1 = .ok (goInt 1) (W1.setRow N0 (ROW.toList.take (i * 1) ++ EX ++ ROW.toList.drop (i * 1 + EX.length)).toArray)) := fun ty o1 dl dc a1 hdl => by
      subst a1
      rw [run_copy_rowN W1 32 32 ty 24 N0 (i * 1) dl dc ⟨vb, 0, none⟩ 1 1 ROW 24 EX 1 Try.underlying32 (by rw [hi0]; simp [hz1]) hh1 (by rw [hxl, show Nat.min 1 dl = 1 by simp only [Nat.min_def]; split <;> omega]) (HX.out W1 hvb1) (by rw [hxl, hRs]; omega) h1x, show Nat.min 1 dl = 1 by simp only [Nat.min_def]; split <;> omega]
      rfl
    have hcl1 : (ROW.toList.take (i * 1) ++ EX ++ ROW.toList.drop (i * 1 + EX.length)).length = G * 1 := by
      rw [List.length_append, List.length_append, List.length_take, List.length_drop, Array.length_toList, hRs, hxl]
      omega
    have hct : (ROW.toList.take (i * 1) ++ EX ++ ROW.toList.drop (i * 1 + EX.length)).take ((i + 1) * 1) = E1 ++ EX := by
      rw [hRt]
      exact List.take_left' (by rw [List.length_append, hE1, hxl]; omega)
    generalize ROW.toList.take (i * 1) ++ EX ++ ROW.toList.drop (i * 1 + EX.length) = C1 at *
    have hh2 := setRow_heap W1 N0 ROW C1.toArray 24 (0, 0) hh1
    have hb2 : Below N0 w (W1.setRow N0 C1.toArray) := bel_setRow hb1 (Nat.le_refl _) _
    generalize W1.setRow N0 C1.toArray = W2 at *
    have hg2 : W2.heap[g]? = some (.cells cur 24 (0, 0)) := (hb2.block _ hgN).trans hh
    have hC2 : Hid (∀ ty o1 o2 dl dc sl sc, o1 = (i + 1) * 1 → o2 = i * 1 → Nat.min sl dl = cap - i → (Builtin.copy_ #[32, 32] ty #[.slice (some ⟨N0, o1, none⟩) dl dc, .slice (some ⟨g, o2, none⟩) sl sc]).run Try.prog W2.drew = .ok (goInt (cap - i : Nat)) (W2.drew.setRow N0 (C1.take ((i + 1) * 1) ++ E2 ++ C1.drop ((i + 1) * 1 + E2.length)).toArray)) := fun ty o1 o2 dl dc sl sc a1 a2 hmin => by
      subst a1 a2
      rw [run_copy_rowN W2.drew 32 32 ty 24 N0 ((i + 1) * 1) dl dc ⟨g, i * 1, none⟩ sl sc C1.toArray 24 E2 1 Try.underlying32 (by rw [hi0]; simp [hz1]) hh2 (by rw [hE2, hmin]) (fun j u hj => by
        rw [Addr.add_lit]
        have h := hsrc2 j u hj
        show W2.cell? _ = _
        simp only [World.cell?, hg2]
        simp only [World.cell?, hh] at h
        exact h) (by rw [hE2, List.size_toArray, hcl1, ← Nat.add_mul]; exact Nat.mul_le_mul_right _ (by omega)) h1b, hmin]
    have hcl2 : (C1.take ((i + 1) * 1) ++ E2 ++ C1.drop ((i + 1) * 1 + E2.length)).length = G * 1 := by
      have : (i + 1) * 1 + (cap - i) * 1 ≤ G * 1 := by rw [← Nat.add_mul]; exact Nat.mul_le_mul_right _ (by omega)
      rw [List.length_append, List.length_append, List.length_take, List.length_drop, hcl1, hE2]
      omega
    have hct2 : (C1.take ((i + 1) * 1) ++ E2 ++ C1.drop ((i + 1) * 1 + E2.length)).take ((cap + 1) * 1) = E1 ++ EX ++ E2 := by
      rw [hct]
      exact List.take_left' (by rw [List.length_append, List.length_append, hE1, hxl, hE2]; omega)
    have hfl : (E1 ++ EX ++ E2).length = (cap + 1) * 1 := by rw [List.length_append, List.length_append, hE1, hxl, hE2]; omega
    generalize C1.take ((i + 1) * 1) ++ E2 ++ C1.drop ((i + 1) * 1 + E2.length) = C2 at *
    have hh3 := setRow_heap W2.drew N0 C1.toArray C2.toArray 24 (0, 0) hh2
    have hb3 : Below N0 w (W2.drew.setRow N0 C2.toArray) := bel_setRow (hb2.trans (bel_drewN _ _ (n := 1))) (Nat.le_refl _) _
    generalize W2.drew.setRow N0 C2.toArray = W3 at *
    have HF := Lib.hid (And.intro hh3 (And.intro hb3 (And.intro hcl2 (And.intro hct2 (And.intro hfl hN0)))))
    clear hx hh hsrc2 hne hE1 hE2 htk hown hl hcl hEx h1a h1b h1x hxl hcs hh1 hb1 hvb1 hg1 hRs hRt hcl1 hct hh2 hb2 hg2 hcl2 hct2 hh3 hb3 hfl hN0 HX
    have hmin1 := Lib.hid (show Nat.min (cap - i) (cap - i) = cap - i by simp only [Nat.min_def]; split <;> omega)
    have hmin2 := Lib.hid (show 1 ≤ cap + 1 - i by omega)
    have hbz : B ≤ N0 := hbN
    have HZ := Lib.hid hbz
    have hw1 : IntKind.i64.wrap ((i : Int) + 1) = (i : Int) + 1 := by rw [IntKind.wrap_i64]; omega
    have q1 := hC1.out 3 (i) (cap + 1 - i) (G - i) (by simp) hmin2.out
    have q2 := hC2.out 3 ((i + 1)) (i) (cap - i) (G - (i + 1)) (cap - i) (cap - i) (by simp) (by simp) hmin1.out
    go_enter Try.func64, Try.ntmps64
    go_wp2_with (at_builtin; refine Lib.wpList_append_run _ rfl _ _ _ _ rfl _ _ rfl rfl _ _ (r1 _) ?_)
    go_region
    go_wp2_with fail
    go_ret
    obtain ⟨hh3, hb3, hcl2, hct2, hfl, hN0⟩ := HF.out
    subst hN0
    exact ⟨_, rfl, ⟨hfl, .inr ⟨w.heap.size, G, C2.toArray, rfl, HZ.out, hh3, hG1, by simp only [maxLen]; omega, by rw [List.size_toArray, hcl2], hct2⟩⟩, below_grownB hb3 rfl, .inr ⟨w.heap.size, rfl, Nat.le_refl _⟩, hb3.mono HZ.out⟩
end Go.Proofs.Ytainljbkejafcaa.N
