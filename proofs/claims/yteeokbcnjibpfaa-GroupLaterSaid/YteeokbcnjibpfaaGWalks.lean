/- The walks of group's New, next, Wrote and Barrier. -/
import Derived.Test.YteeokbcnjibpfaaGBase
import Derived.Test.YteeokbcnjibpfaaWMore
namespace Go.Proofs.Yteeokbcnjibpfaa.G
open Go.RowKit Go.Proofs.YteeokbcnjibpfaaW.PrintMore
set_option linter.unusedVariables false
set_option linter.unusedSimpArgs false
/-- What 'next' answers. -/
def nextE (last num : Int) : Int := if num < 1 ∨ num > 65535 then 2 else if num ≤ last then 15 else 0
set_option maxHeartbeats 800000 in
theorem next_any {w : World} {B g gv V : Nat} {R : Nat → Value} {L : Nat → List Int} {last : Int} (h : Grp w B g gv V R L last) (num : Int) (h0 : 0 ≤ num) (h1 : num ≤ 18446744073709551615) :
    Calls Try.prog 26 #[.pointer (some ⟨g, 0, none⟩), .int .u64 num] w fun e w' => e = .returned (.int .i64 (nextE last num)) ∧ w = w' := by
  have hc := h.c2
  have H := Lib.hid h
  clear h
  unfold nextE
  by_cases c1 : num < 1
  · rw [if_pos (.inl c1)]
    go_enter Try.func26, Try.ntmps26
    go_wp2
    go_ret
    exact ⟨rfl, rfl⟩
  by_cases c2 : num > 65535
  · rw [if_pos (.inr c2)]
    go_enter Try.func26, Try.ntmps26
    go_wp2
    go_ret
    exact ⟨rfl, rfl⟩
  rw [if_neg (by omega)]
  by_cases c3 : num ≤ last
  · rw [if_pos c3]
    go_enter Try.func26, Try.ntmps26
    go_wp2
    go_ret
    exact ⟨rfl, rfl⟩
  · rw [if_neg c3]
    go_enter Try.func26, Try.ntmps26
    go_wp2
    go_ret
    exact ⟨rfl, rfl⟩
/-- What 'Wrote' answers, and what becomes of the rows. -/
def wroteE (V : Nat) (last vol num : Int) : Int := if vol < 0 ∨ vol ≥ V then 2 else nextE last num
set_option maxHeartbeats 1600000 in
set_option maxRecDepth 100000 in
theorem wrote_no {w : World} {B g gv V : Nat} {R : Nat → Value} {L : Nat → List Int} {last : Int} (h : Grp w B g gv V R L last) (vol num : Int) (hv : -9223372036854775808 ≤ vol) (hv' : vol ≤ 9223372036854775807) (hV : V ≤ 8) (h0 : 0 ≤ num) (h1 : num ≤ 18446744073709551615) (hE : wroteE V last vol num ≠ 0) :
    Calls Try.prog 20 #[.pointer (some ⟨g, 0, none⟩), .int .i64 vol, .int .u64 num] w fun e w' => e = .returned (.int .i64 (wroteE V last vol num)) ∧ w = w' := by
  have hc := h.c0
  have H := Lib.hid h
  clear h
  have HE := Lib.hid hE
  clear hE
  by_cases c1 : vol < 0
  · have e : wroteE V last vol num = 2 := if_pos (.inl c1)
    rw [e]; clear e
    go_enter Try.func20, Try.ntmps20
    go_wp2
    go_ret
    exact ⟨rfl, rfl⟩
  by_cases c2 : vol ≥ V
  · have e : wroteE V last vol num = 2 := if_pos (.inr c2)
    rw [e]; clear e
    go_enter Try.func20, Try.ntmps20
    go_wp2
    go_ret
    exact ⟨rfl, rfl⟩
  have e : wroteE V last vol num = nextE last num := if_neg (by omega)
  have hn : (nextE last num == 0) = false := by have := HE.out; rw [e] at this; simpa using this
  rw [e]; clear e
  go_enter Try.func20, Try.ntmps20
  go_wp2_with fail
  refine (next_any H.out num h0 h1).mono ?_
  rintro e w' ⟨rfl, rfl⟩
  go_wp2_with fail
  go_ret
  exact ⟨rfl, rfl⟩
/-- An append of one number to an owned row: a step of a region that draws its order. -/
theorem step_one {P : Program} {w : World} {ops : Array Oper} {o : Oper} {a : Act} {K : Act → World → Prop} {Q : Exit → Act → World → Prop} {E : Prop} (hgd : o.guard = none) (s x : Operand) (t : TypeId)
    (ho : o.op = .call { callee := .builtin .append, args := #[s, x], argTypes := #[t, t] })
    (base : Nat) (e : TypeId) (i : TypeInfo) (z : Value) (size bytes : Nat) (ht : P.underlying t = some (.slice e)) (hi : P.info? e = some i) (hz : i.zero = some z)
    (hsize : i.size = size) (hby : i.bytes = bytes) (hzs : z.cells.size = size) (hsz : 0 < size)
    (v : Value) (n : Nat) (xs : List Value) (hs : a.eval s = v) (hown : w.ownsRow base e size v n xs)
    (ad : Addr) (m c : Nat) (news : List Value) (hx : a.eval x = .slice (some ad) m c) (hl : news.length = m * size) (hnews : ∀ j u, news[j]? = some u → w.cell? (ad.add j) = some u) (h1 : ∀ u ∈ news, u.oneCell' = true)
    (h63 : n + m ≤ maxLen) (hbytes : (n + m) * bytes ≤ 140737488355328) (hbase : base ≤ w.heap.size)
    (h : ∀ v' w', w'.ownsRow base e size v' (n + m) (xs ++ news) → w.grownBy w' v.ownBlock → (v'.ownBlock = v.ownBlock ∨ v'.ownBlock = some w.heap.size) → K (a.put o.dst v') w') :
    if Region.wanted o (yielded ops a.tmps) = true then Oper.wp P o a w K Q else E := by
  have hw : Region.wanted o (yielded ops a.tmps) = true := by simp [Region.wanted, hgd]
  rw [if_pos hw]
  obtain ⟨v', w', hr, h2, h3, _, h4⟩ := run_append_own_at (P := P) w base t o.type e i z size bytes ht hi hz hsize hby hzs hsz v n xs hown ad m c news hl hnews h1 h63 hbytes hbase
  unfold Oper.wp execOp
  simp only [ho, resolve, invoke, builtin, Sem.run_bind, Sem.run_pure, Result.andThen_ok, List.map_toArray, List.map_cons, List.map_nil, hs, hx, hr]
  exact h v' w' h2 h3 h4
theorem grown_drew {W w1 : World} {r : Option Nat} (h : W.drew.grownBy w1 r) : W.grownBy w1 r := ⟨h.os, h.tape, h.output, h.size, h.block⟩
theorem after_one {w w1 : World} {o : Obj} {B n g gv i : Nat} {e : TypeId} {v v1 x : Value} {xs xs' : List Value} {last : Int} (ho : w.ownsRow B e 1 v n xs) (h : w1.ownsRow B e 1 v1 (n + 1) xs') (hg : (w.alloc o).drew.grownBy w1 v.ownBlock)
    (l1 : gv < w.heap.size) (l2 : g < w.heap.size) (f1 : v.ownBlock ≠ some gv) (f2 : v.ownBlock ≠ some g) (c1 : w.cell? ⟨gv, i, none⟩ = some x) (c2 : w.frozen? ⟨gv, i, none⟩ = false) (c3 : w.cell? ⟨g, 2, none⟩ = some (.int .u64 last)) (c4 : w.frozen? ⟨g, 2, none⟩ = false) {y : Value} (c5 : w.cell? ⟨g, 0, none⟩ = some y) :
    ∃ g1 cp1, v1 = .slice (some ⟨g1, 0, none⟩) (n + 1) cp1 ∧ w1.cell? ⟨gv, i, none⟩ = some x ∧ w1.frozen? ⟨gv, i, none⟩ = false ∧ w1.cell? ⟨g, 2, none⟩ = some (.int .u64 last) ∧ w1.frozen? ⟨g, 2, none⟩ = false ∧ w1.cell? ⟨g, 0, none⟩ = some y := by
  obtain ⟨g1, cp1, cur, rfl, _⟩ := h.2.resolve_left (fun h => by omega)
  have q1 : w1.heap[gv]? = w.heap[gv]? := (hg.block gv (by simp; omega) (fun e => f1 e.symm)).trans (Below.heap_alloc w o gv l1)
  have q2 : w1.heap[g]? = w.heap[g]? := (hg.block g (by simp; omega) (fun e => f2 e.symm)).trans (Below.heap_alloc w o g l2)
  exact ⟨g1, cp1, rfl, (World.cell?_of_block (w := w) (a := ⟨gv, i, none⟩) q1).trans c1, (World.frozen?_of_block (w := w) (a := ⟨gv, i, none⟩) q1).trans c2, (World.cell?_of_block (w := w) (a := ⟨g, 2, none⟩) q2).trans c3, (World.frozen?_of_block (w := w) (a := ⟨g, 2, none⟩) q2).trans c4, (World.cell?_of_block (w := w) (a := ⟨g, 0, none⟩) q2).trans c5⟩
theorem frame_wrote {w w1 : World} {o : Obj} {row : Option Nat} (hgr : (w.alloc o).grownBy w1 row) {a b : Addr} (u v : Value) (k : Nat) (h1 : k < w.heap.size) (h2 : k ≠ a.block) (h3 : k ≠ b.block) (h4 : row ≠ some k) : ((w1.setCell a u).setCell b v).heap[k]? = w.heap[k]? := by
  rw [Below.heap_setCell _ _ _ _ h3, Below.heap_setCell _ _ _ _ h2, hgr.block k (by simp; omega) (fun e => h4 e.symm), Below.heap_alloc _ _ _ h1]
set_option maxHeartbeats 3200000 in
set_option maxRecDepth 100000 in
theorem wrote_yes {w : World} {B g gv V : Nat} {R : Nat → Value} {L : Nat → List Int} {last : Int} (h : Grp w B g gv V R L last) (i : Nat) (hi : i < V) (hV : V ≤ 8) (num : Int) (h0 : 0 ≤ num) (h1 : num ≤ 65535) (hL : (L i).length ≤ 1000) (hE : nextE last num = 0) :
    Calls Try.prog 20 #[.pointer (some ⟨g, 0, none⟩), .int .i64 i, .int .u64 num] w fun e w' => e = .returned (.int .i64 0) ∧ ∃ v', Grp w' B g gv V (upd R i v') (upd L i (L i ++ [num])) num ∧ Below B w w' ∧ (∀ k, k < w.heap.size → k ≠ gv → k ≠ g → (R i).ownBlock ≠ some k → w'.heap[k]? = w.heap[k]?) ∧ (v'.ownBlock = (R i).ownBlock ∨ v'.ownBlock = some (w.heap.size + 1)) := by
  obtain ⟨i0, hi0, hz0, hz1, hz2⟩ := info_parts infoU
  have hc := h.c0
  have hcv := h.cv i hi
  have hfv := h.frv i
  have hf2 := h.fr 2
  have hc2 := h.c2
  have hrow := h.row i (by omega)
  have hgvlt := h.gvlt
  have hglt := h.glt
  have hne := h.ne
  have hfg := h.fg i (by omega)
  have hfgv := h.fv i (by omega)
  have hgb := h.gb
  have hgvb := h.gvb
  have HE := Lib.hid hE
  have H := Lib.hid h
  have HR := Lib.hid hrow
  have fm : (L i).length + 1 ≤ maxLen := by simp only [maxLen]; omega
  have fb : ((L i).length + 1) * 8 ≤ 140737488355328 := by omega
  have fz : B ≤ w.heap.size := by omega
  have e1 : (0 : Int) ≤ (i : Int) := by omega
  have e2 : (i : Int) < (V : Int) := by omega
  clear h hE hrow
  go_enter Try.func20, Try.ntmps20
  go_wp2_with fail
  refine (next_any H.out num (by omega) (by omega)).mono ?_
  rintro e w' ⟨rfl, rfl⟩
  rw [HE.out]
  go_wp2_with fail
  go_region_law (first
    | (refine step_one rfl (.tmp 37) (.tmp 39) 29 rfl B 23 i0 (.int .u64 0) 1 8 Try.underlying29 hi0 hz0 hz1 hz2 rfl (by decide) (R i) _ _ (by rfl) (HR.out.alloc _) ⟨w.heap.size, 0, none⟩ 1 1 [.int .u64 num] (by rfl) (by rfl) (World.news_of_block (cs := #[.int .u64 num]) (t := 23) (fr := (0, 0)) (heap_alloc_new w _)) (by simp [Value.oneCell']) fm fb (by simp; omega) ?_; intro v1 w1 hown1 hgr1 hat1; have X := after_one HR.out hown1 hgr1 hgvlt hglt hfgv hfg hcv hfv hc2 hf2 hc; obtain ⟨g1, cp1, rfl, k1, k2, k3, k4, k5⟩ := X))
  all_goals go_wp2_with fail
  all_goals go_ret
  all_goals exact ⟨rfl, _, H.out.wrote i hi num _ _ (grown_drew hgr1) hown1 hat1, bel_wrote (Below.refl _ _) fz (grown_drew hgr1) (own_ge HR.out) hgvb hgb _ _, fun k h1 h2 h3 h4 => frame_wrote (grown_drew hgr1) _ _ k h1 h2 h3 h4, by simpa using hat1⟩
theorem wrote_yesB {w w0 : World} {B g gv V : Nat} {R : Nat → Value} {L : Nat → List Int} {last : Int} (h : Grp w B g gv V R L last) (hB : Below B w0 w) (i : Nat) (hi : i < V) (hV : V ≤ 8) (num : Int) (h0 : 0 ≤ num) (h1 : num ≤ 65535) (hL : (L i).length ≤ 1000) (hE : nextE last num = 0) :
    Calls Try.prog 20 #[.pointer (some ⟨g, 0, none⟩), .int .i64 i, .int .u64 num] w fun e w' => e = .returned (.int .i64 0) ∧ ∃ R', Grp w' B g gv V R' (upd L i (L i ++ [num])) num ∧ Below B w0 w' :=
  (wrote_yes h i hi hV num h0 h1 hL hE).mono fun e w' ⟨he, v', hg, hb, _⟩ => ⟨he, _, hg, hB.trans hb⟩
set_option maxHeartbeats 800000 in
theorem barrier_no {w : World} {B g gv V : Nat} {R : Nat → Value} {L : Nat → List Int} {last : Int} (h : Grp w B g gv V R L last) (num : Int) (h0 : 0 ≤ num) (h1 : num ≤ 18446744073709551615) (hE : nextE last num ≠ 0) :
    Calls Try.prog 21 #[.pointer (some ⟨g, 0, none⟩), .int .u64 num] w fun e w' => e = .returned (.int .i64 (nextE last num)) ∧ w = w' := by
  have H := Lib.hid h
  have hn : (nextE last num == 0) = false := by simpa using hE
  clear h hE
  go_enter Try.func21, Try.ntmps21
  go_wp2_with fail
  refine (next_any H.out num h0 h1).mono ?_
  rintro e w' ⟨rfl, rfl⟩
  go_wp2_with fail
  go_ret
  exact ⟨rfl, rfl⟩
theorem after_bar {w w1 : World} {o : Obj} {B n g : Nat} {e : TypeId} {v v1 x : Value} {xs xs' : List Value} {last : Int} (ho : w.ownsRow B e 1 v n xs) (h : w1.ownsRow B e 1 v1 (n + 1) xs') (hg : (w.alloc o).grownBy w1 v.ownBlock)
    (l2 : g < w.heap.size) (f2 : v.ownBlock ≠ some g) (c1 : w.cell? ⟨g, 1, none⟩ = some x) (c2 : w.frozen? ⟨g, 1, none⟩ = false) (c3 : w.cell? ⟨g, 2, none⟩ = some (.int .u64 last)) (c4 : w.frozen? ⟨g, 2, none⟩ = false) :
    ∃ g1 cp1, v1 = .slice (some ⟨g1, 0, none⟩) (n + 1) cp1 ∧ w1.cell? ⟨g, 1, none⟩ = some x ∧ w1.frozen? ⟨g, 1, none⟩ = false ∧ w1.cell? ⟨g, 2, none⟩ = some (.int .u64 last) ∧ w1.frozen? ⟨g, 2, none⟩ = false := by
  obtain ⟨g1, cp1, cur, rfl, _⟩ := h.2.resolve_left (fun h => by omega)
  have q2 : w1.heap[g]? = w.heap[g]? := (hg.block g (by simp; omega) (fun e => f2 e.symm)).trans (Below.heap_alloc w o g l2)
  exact ⟨g1, cp1, rfl, (World.cell?_of_block (w := w) (a := ⟨g, 1, none⟩) q2).trans c1, (World.frozen?_of_block (w := w) (a := ⟨g, 1, none⟩) q2).trans c2, (World.cell?_of_block (w := w) (a := ⟨g, 2, none⟩) q2).trans c3, (World.frozen?_of_block (w := w) (a := ⟨g, 2, none⟩) q2).trans c4⟩
/-- The same append, in a region that draws nothing. -/
theorem list_one {P : Program} {w : World} {ops : Array Oper} {rest : List Oper} {o : Oper} {a : Act} {Q : Exit → Act → World → Prop} (hgd : o.guard = none) (s x : Operand) (t : TypeId)
    (ho : o.op = .call { callee := .builtin .append, args := #[s, x], argTypes := #[t, t] })
    (base : Nat) (e : TypeId) (i : TypeInfo) (z : Value) (size bytes : Nat) (ht : P.underlying t = some (.slice e)) (hi : P.info? e = some i) (hz : i.zero = some z)
    (hsize : i.size = size) (hby : i.bytes = bytes) (hzs : z.cells.size = size) (hsz : 0 < size)
    (v : Value) (n : Nat) (xs : List Value) (hs : a.eval s = v) (hown : w.ownsRow base e size v n xs)
    (ad : Addr) (m c : Nat) (news : List Value) (hx : a.eval x = .slice (some ad) m c) (hl : news.length = m * size) (hnews : ∀ j u, news[j]? = some u → w.cell? (ad.add j) = some u) (h1 : ∀ u ∈ news, u.oneCell' = true)
    (h63 : n + m ≤ maxLen) (hbytes : (n + m) * bytes ≤ 140737488355328) (hbase : base ≤ w.heap.size)
    (h : ∀ v' w', w'.ownsRow base e size v' (n + m) (xs ++ news) → w.grownBy w' v.ownBlock → (v'.ownBlock = v.ownBlock ∨ v'.ownBlock = some w.heap.size) → wpList P ops Q rest (a.put o.dst v') w') : wpList P ops Q (o :: rest) a w := by
  refine wpList_plain hgd fun _ hK => ?_
  obtain ⟨v', w', hr, h2, h3, _, h4⟩ := run_append_own_at (P := P) w base t o.type e i z size bytes ht hi hz hsize hby hzs hsz v n xs hown ad m c news hl hnews h1 h63 hbytes hbase
  unfold Oper.wp execOp
  simp only [ho, resolve, invoke, builtin, Sem.run_bind, Sem.run_pure, Result.andThen_ok, List.map_toArray, List.map_cons, List.map_nil, hs, hx, hr]
  exact hK _ _ (h v' w' h2 h3 h4)
set_option maxHeartbeats 3200000 in
set_option maxRecDepth 100000 in
theorem barrier_yes {w : World} {B g gv V : Nat} {R : Nat → Value} {L : Nat → List Int} {last : Int} (h : Grp w B g gv V R L last) (num : Int) (h0 : 0 ≤ num) (h1 : num ≤ 65535) (hL : (L V).length ≤ 1000) (hE : nextE last num = 0) :
    Calls Try.prog 21 #[.pointer (some ⟨g, 0, none⟩), .int .u64 num] w fun e w' => e = .returned (.int .i64 0) ∧ ∃ v', Grp w' B g gv V (upd R V v') (upd L V (L V ++ [num])) num ∧ Below B w w' ∧ (∀ k, k < w.heap.size → k ≠ g → (R V).ownBlock ≠ some k → w'.heap[k]? = w.heap[k]?) ∧ (v'.ownBlock = (R V).ownBlock ∨ v'.ownBlock = some (w.heap.size + 1)) := by
  obtain ⟨i0, hi0, hz0, hz1, hz2⟩ := info_parts infoU
  have hc1 := h.c1
  have hf1 := h.fr 1
  have hf2 := h.fr 2
  have hc2 := h.c2
  have hrow := h.row V (by omega)
  have hglt := h.glt
  have hfg := h.fg V (by omega)
  have hgb := h.gb
  have HE := Lib.hid hE
  have H := Lib.hid h
  have HR := Lib.hid hrow
  have fm : (L V).length + 1 ≤ maxLen := by simp only [maxLen]; omega
  have fb : ((L V).length + 1) * 8 ≤ 140737488355328 := by omega
  have fz : B ≤ w.heap.size := by omega
  clear h hE hrow
  go_enter Try.func21, Try.ntmps21
  go_wp2_with fail
  refine (next_any H.out num (by omega) (by omega)).mono ?_
  rintro e w' ⟨rfl, rfl⟩
  rw [HE.out]
  go_wp2_with (at_builtin; refine list_one rfl (.tmp 17) (.tmp 19) 29 rfl B 23 i0 (.int .u64 0) 1 8 Try.underlying29 hi0 hz0 hz1 hz2 rfl (by decide) (R V) _ _ (by rfl) (HR.out.alloc _) ⟨w.heap.size, 0, none⟩ 1 1 [.int .u64 num] (by rfl) (by rfl) (World.news_of_block (cs := #[.int .u64 num]) (t := 23) (fr := (0, 0)) (heap_alloc_new w _)) (by simp [Value.oneCell']) fm fb (by simp; omega) ?_; intro v1 w1 hown1 hgr1 hat1; have X := after_bar HR.out hown1 hgr1 hglt hfg hc1 hf1 hc2 hf2; obtain ⟨g1, cp1, rfl, k1, k2, k3, k4⟩ := X)
  go_ret
  exact ⟨rfl, _, H.out.barred num _ _ hgr1 hown1 hat1, bel_wrote (Below.refl _ _) fz hgr1 (own_ge HR.out) hgb hgb _ _, fun k h1 h2 h3 => frame_wrote hgr1 _ _ k h1 h2 h2 h3, by simpa using hat1⟩
end Go.Proofs.Yteeokbcnjibpfaa.G
