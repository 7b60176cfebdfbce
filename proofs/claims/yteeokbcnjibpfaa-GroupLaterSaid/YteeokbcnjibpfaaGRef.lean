/- The walks of the document's group: New, Add, Last, and Same. -/
import Derived.Test.YteeokbcnjibpfaaGCut
namespace Go.Proofs.Yteeokbcnjibpfaa.G
open Go.RowKit Go.Proofs.YteeokbcnjibpfaaW.PrintMore Go.Proofs.YteeokbcnjibpfaaW.PrintWords
attribute [local go_sem] max2_int min2_int max_two min_two
set_option linter.unusedVariables false
set_option linter.unusedSimpArgs false
def evC : List (Int × Int) → List Value
  | [] => []
  | e :: es => .int .i64 e.1 :: .int .u64 e.2 :: evC es
theorem evC_len : ∀ l, (evC l).length = l.length * 2
  | [] => rfl
  | e :: es => by simp [evC, evC_len es]; omega
theorem evC_app : ∀ a b, evC (a ++ b) = evC a ++ evC b
  | [], b => rfl
  | e :: es, b => by simp [evC, evC_app es b]
theorem evC_vol : ∀ (l : List (Int × Int)) (i : Nat) (h : i < l.length), (evC l)[i * 2]? = some (.int .i64 l[i].1)
  | e :: es, 0, _ => rfl
  | e :: es, i + 1, h => by
    rw [show (i + 1) * 2 = i * 2 + 1 + 1 by omega]
    simp only [evC, List.getElem?_cons_succ]
    exact evC_vol es i (by simpa using h)
theorem evC_num : ∀ (l : List (Int × Int)) (i : Nat) (h : i < l.length), (evC l)[i * 2 + 1]? = some (.int .u64 l[i].2)
  | e :: es, 0, _ => rfl
  | e :: es, i + 1, h => by
    rw [show (i + 1) * 2 + 1 = i * 2 + 1 + 1 + 1 by omega]
    simp only [evC, List.getElem?_cons_succ]
    exact evC_num es i (by simpa using h)
theorem evC_one : ∀ (l : List (Int × Int)), ∀ u ∈ evC l, u.oneCell' = true
  | [], u, h => by simp [evC] at h
  | e :: es, u, h => by
    simp only [evC, List.mem_cons] at h
    rcases h with rfl | rfl | h
    · rfl
    · rfl
    · exact evC_one es u h
theorem infoE : (Try.prog.info? 37).map (fun i => (i.zero, i.size, i.bytes)) = some (some (.agg #[.int .i64 0, .int .u64 0]), 2, 16) := by kernel_rfl
structure RefG (w : World) (B x V : Nat) (rv : Value) (acc : List (Int × Int)) : Prop where
  xb : B ≤ x
  hx : w.heap[x]? = some (.cells #[.int .i64 V, rv] 35 (0, 0))
  row : w.ownsRow B 37 2 rv acc.length (evC acc)
  fx : rv.ownBlock ≠ some x
section
variable {w w' : World} {B x V : Nat} {rv : Value} {acc : List (Int × Int)}
theorem RefG.lt (h : RefG w B x V rv acc) : x < w.heap.size := (Array.getElem?_eq_some_iff.1 h.hx).1
theorem RefG.c0 (h : RefG w B x V rv acc) : w.cell? ⟨x, 0, none⟩ = some (.int .i64 V) := by simp [World.cell?, h.hx]
theorem RefG.c1 (h : RefG w B x V rv acc) : w.cell? ⟨x, 1, none⟩ = some rv := by simp [World.cell?, h.hx]
theorem RefG.f1 (h : RefG w B x V rv acc) (o : Nat) : w.frozen? ⟨x, o, none⟩ = false := by simp [World.frozen?, h.hx]
theorem RefG.stay (h : RefG w B x V rv acc) (h1 : w'.heap[x]? = w.heap[x]?) (h2 : ∀ q, rv.ownBlock = some q → w'.heap[q]? = w.heap[q]?) : RefG w' B x V rv acc := ⟨h.xb, h1.trans h.hx, own_stay h.row h2, h.fx⟩
theorem RefG.below (h : RefG w B x V rv acc) (hb : Below w.heap.size w w') : RefG w' B x V rv acc := h.stay (hb.block _ h.lt) (fun q hq => hb.block _ (own_lt h.row q hq))
/-- The row's slice, and its cells. -/
theorem RefG.cells (h : RefG w B x V rv acc) (ha : 0 < acc.length) : ∃ q c, rv = .slice (some ⟨q, 0, none⟩) acc.length c ∧ q < w.heap.size ∧ ∀ i (hi : i < acc.length), w.cell? ⟨q, i * 2, none⟩ = some (.int .i64 acc[i].1) ∧ w.cell? ⟨q, i * 2 + 1, none⟩ = some (.int .u64 acc[i].2) := by
  have hr := h.row
  obtain ⟨q, c, cur, rfl, hB, hh, _⟩ := hr.2.resolve_left (fun h => by omega)
  refine ⟨q, c, rfl, (Array.getElem?_eq_some_iff.1 hh).1, fun i hi => ⟨?_, ?_⟩⟩
  · rw [hr.cellAt _ (by omega), evC_vol acc i hi]
  · rw [hr.cellAt _ (by omega), evC_num acc i hi]
theorem RefG.slice (h : RefG w B x V rv acc) : ∃ A c, rv = .slice A acc.length c := by
  rcases h.row.2 with ⟨rfl, e⟩ | ⟨q, c, cur, rfl, _⟩
  · exact ⟨none, 0, by rw [e]⟩
  · exact ⟨_, _, rfl⟩
end
def RNewPost (w : World) (n : Nat) (e : Ending) (w' : World) : Prop := ∃ x, e = .returned (.pointer (some ⟨x, 0, none⟩)) ∧ w.heap.size ≤ x ∧ RefG w' w.heap.size x n nilS [] ∧ Below w.heap.size w w'
theorem rgrp_new (w : World) (n : Nat) : RefG (w.alloc (.cells #[.int .i64 n, nilS] 35)) w.heap.size w.heap.size n nilS [] :=
  ⟨Nat.le_refl _, heap_alloc_new _ _, ⟨rfl, .inl ⟨rfl, rfl⟩⟩, by simp [nilS, Value.ownBlock]⟩
set_option maxHeartbeats 800000 in
theorem rnew_at (v : Int) (n : Nat) (w : World) (hn : volsOf v = n) (hv : -9223372036854775808 ≤ v) (hv' : v ≤ 9223372036854775807) : Calls Try.prog 22 #[.int .i64 v] w (RNewPost w n) := by
  have HN := Lib.hid hn
  clear hn
  go_enter Try.func22, Try.ntmps22
  go_wp2
  · have e : n = 8 := by have := HN.out; unfold volsOf at this; rw [if_neg (by omega)] at this; split at this <;> omega
    subst e
    go_ret
    exact ⟨_, rfl, Nat.le_refl _, rgrp_new w 8, (Below.refl _ _).alloc (Nat.le_refl _) _⟩
  · have e : v = (n : Int) := by have := HN.out; unfold volsOf at this; rw [if_neg (by omega)] at this; split at this <;> omega
    subst e
    go_ret
    exact ⟨_, rfl, Nat.le_refl _, rgrp_new w n, (Below.refl _ _).alloc (Nat.le_refl _) _⟩
  · have e : n = 0 := by have := HN.out; unfold volsOf at this; split at this <;> (try split at this) <;> omega
    subst e
    go_ret
    exact ⟨_, rfl, Nat.le_refl _, rgrp_new w 0, (Below.refl _ _).alloc (Nat.le_refl _) _⟩
/-- The last event of a volume that is not above a moment, by the document. -/
def lastAcc (vol m : Int) (acc : List (Int × Int)) : Int := acc.foldl (fun d e => if e.1 = vol ∧ e.2 ≤ m then e.2 else d) 0
theorem lastAcc_step (vol m : Int) (acc : List (Int × Int)) (i : Nat) (h : i < acc.length) : lastAcc vol m (acc.take (i + 1)) = if acc[i].1 = vol ∧ acc[i].2 ≤ m then acc[i].2 else lastAcc vol m (acc.take i) := by
  unfold lastAcc
  rw [List.take_succ_eq_append_getElem h, List.foldl_append]
  rfl
def LastRel (w : World) (vol m : Int) (acc : List (Int × Int)) (n i : Value) (wr : World) : Prop := wr = w ∧ ∃ k : Nat, i = .int .i64 k ∧ k ≤ acc.length ∧ n = .int .u64 (lastAcc vol m (acc.take k))
set_option maxHeartbeats 3200000 in
set_option maxRecDepth 100000 in
theorem last_at {w : World} {B x V : Nat} {rv : Value} {acc : List (Int × Int)} (h : RefG w B x V rv acc) (vol m : Int) (ha : acc.length ≤ 1000) :
    Calls Try.prog 16 #[.pointer (some ⟨x, 0, none⟩), .int .i64 vol, .int .u64 m] w fun e w' => e = .returned (.int .u64 (lastAcc vol m acc)) ∧ w = w' := by
  have hc := h.c1
  obtain ⟨A, c, rfl⟩ := h.slice
  have H := Lib.hid h
  clear h
  go_enter Try.func16, Try.ntmps16
  go_wp2_with fail
  go_loopw [7, 8] (fun n i wr => LastRel w vol m acc n i wr) (fun _ i _ => (acc.length - intOf i).toNat)
  case atStart => exact ⟨rfl, 0, rfl, by omega, rfl⟩
  case round =>
    obtain ⟨rfl, k, rfl, hk, rfl⟩ := hrel
    by_cases cc : k < acc.length
    · obtain ⟨q, c', e', hq, hcs⟩ := H.out.cells (by omega)
      cases e'
      obtain ⟨y1, y2⟩ := hcs k cc
      have st := Lib.hid (lastAcc_step vol m acc k cc)
      have e1 : (0 : Int) ≤ (k : Int) := by omega
      have e2 : (k : Int) < (acc.length : Int) := by omega
      clear hcs
      by_cases d1 : acc[k].1 = vol
      · by_cases d2 : acc[k].2 ≤ m
        · rw [if_pos ⟨d1, d2⟩] at st
          have D1 : (acc[k].1 == vol) = true := by simp [d1]
          clear d1
          go_wp2_with fail
          go_roundw
          case rel => exact ⟨rfl, k + 1, by simp, by omega, by rw [st.out]⟩
          case measure => simp [intOf]; omega
        · rw [if_neg (fun h => d2 h.2)] at st
          have D1 : (acc[k].1 == vol) = true := by simp [d1]
          clear d1
          go_wp2_with fail
          go_roundw
          case rel => exact ⟨rfl, k + 1, by simp, by omega, by rw [st.out]⟩
          case measure => simp [intOf]; omega
      · rw [if_neg (fun h => d1 h.1)] at st
        have d3 : (acc[k].1 == vol) = false := by simpa using d1
        clear d1
        go_wp2_with fail
        go_roundw
        case rel => exact ⟨rfl, k + 1, by simp, by omega, by rw [st.out]⟩
        case measure => simp [intOf]; omega
    · obtain rfl : k = acc.length := by omega
      go_wp2_with fail
      go_ret
      exact ⟨by simp, rfl⟩
def sameN (la lb : List Int) : Int := if la = lb then 1 else 0
set_option maxHeartbeats 1600000 in
set_option maxRecDepth 100000 in
theorem same_len {w : World} (b1 b2 : Option Addr) (k1 k2 : Nat) (la lb : List Int) (hla : la.length ≤ 1000) (hlb : lb.length ≤ 1000) (e : la.length ≠ lb.length) :
    Calls Try.prog 17 #[.slice b1 la.length k1, .slice b2 lb.length k2] w fun e w' => e = .returned (.int .i64 (sameN la lb)) ∧ ∃ n, w' = w.drewN n := by
  have he : sameN la lb = 0 := if_neg (fun h => e (by rw [h]))
  rw [he]
  have D : ((la.length : Int) == (lb.length : Int)) = false := by simp; omega
  go_enter Try.func17, Try.ntmps17
  go_wp2_with fail
  go_ret
  exact ⟨rfl, 0, rfl⟩
def SameRel (w : World) (la lb : List Int) (N : Nat) (i : Value) (wr : World) : Prop := ∃ q, wr = w.drewN q ∧ ∃ n : Nat, i = .int .i64 n ∧ n ≤ N ∧ (∀ j (h1 : j < la.length) (h2 : j < lb.length), j < n → la[j] = lb[j])
set_option maxHeartbeats 1600000 in
set_option maxRecDepth 100000 in
theorem same_same {w : World} (b1 b2 : Option Addr) (k1 k2 : Nat) (la lb : List Int) (N : Nat) (hla : la.length = N) (hlb : lb.length = N) (hN : N ≤ 1000) (ha : NumsAt w w.heap.size b1 la) (hb : NumsAt w w.heap.size b2 lb) :
    Calls Try.prog 17 #[.slice b1 N k1, .slice b2 N k2] w fun e w' => e = .returned (.int .i64 (sameN la lb)) ∧ ∃ n, w' = w.drewN n := by
  have HA := Lib.hid ha
  have HB := Lib.hid hb
  have HLA := Lib.hid hla
  have HLB := Lib.hid hlb
  clear ha hb hla hlb
  go_enter Try.func17, Try.ntmps17
  go_wp2_with fail
  go_loopw [5] (fun i wr => SameRel w la lb N i wr) (fun i _ => (N - intOf i).toNat)
  case atStart => exact ⟨0, rfl, 0, rfl, by omega, fun j _ _ h => absurd h (by omega)⟩
  case round =>
    obtain ⟨q, rfl, n, rfl, hn, hlo⟩ := hrel
    have HLO := Lib.hid hlo
    clear hlo
    by_cases cc : n < N
    · have hna : n < la.length := by rw [HLA.out]; exact cc
      have hnb : n < lb.length := by rw [HLB.out]; exact cc
      obtain ⟨a1, o1, rfl, l1, q1⟩ := HA.out (by omega)
      obtain ⟨a2, o2, rfl, l2, q2⟩ := HB.out (by omega)
      have x1 := q1 n hna
      have x2 := q2 n hnb
      have e1 : (0 : Int) ≤ (n : Int) := by omega
      have e2 : (n : Int) < (N : Int) := by omega
      clear q1 q2
      by_cases d : la[n] = lb[n]
      · have D : (la[n] == lb[n]) = true := by simp [d]
        have HD := Lib.hid d
        clear d
        go_wp2_with fail
        go_quiet (fail)
        go_wp2_with fail
        go_roundw
        case rel => exact ⟨_, rfl, n + 1, by simp, by omega, fun j h1 h2 hj => if e : j = n then by subst e; exact HD.out else HLO.out j h1 h2 (by omega)⟩
        case measure => simp [intOf]; omega
      · have D : (la[n] == lb[n]) = false := by simpa using d
        have HD := Lib.hid d
        clear d
        go_wp2_with fail
        go_quiet (fail)
        go_wp2_with fail
        go_ret
        exact ⟨by rw [sameN, if_neg (fun h => HD.out (by subst h; rfl))]; rfl, _, World.drewN_drewN _ _ _⟩
    · obtain rfl : n = N := by omega
      have E : Hid (la = lb) := List.ext_getElem (HLA.out.trans HLB.out.symm) (fun j h1 h2 => HLO.out j h1 h2 (by rw [HLA.out] at h1; exact h1))
      go_wp2_with fail
      go_ret
      exact ⟨by rw [sameN, if_pos E.out]; rfl, _, rfl⟩
theorem same_at {w : World} (b1 b2 : Option Addr) (k1 k2 : Nat) (la lb : List Int) (hla : la.length ≤ 1000) (hlb : lb.length ≤ 1000) (ha : NumsAt w w.heap.size b1 la) (hb : NumsAt w w.heap.size b2 lb) :
    Calls Try.prog 17 #[.slice b1 la.length k1, .slice b2 lb.length k2] w fun e w' => e = .returned (.int .i64 (sameN la lb)) ∧ ∃ n, w' = w.drewN n := by
  by_cases e : la.length = lb.length
  · rw [e]
    exact same_same b1 b2 k1 k2 la lb lb.length e rfl hlb ha hb
  · exact same_len b1 b2 k1 k2 la lb hla hlb e
/-- Both rows are owned: an append of the one to the other. -/
theorem run_append_both {P : Program} {w : World} (base base' : Nat) (t ty e : TypeId) (i : TypeInfo) (z : Value) (size bytes : Nat) (ht : P.underlying t = some (.slice e)) (hi : P.info? e = some i) (hz : i.zero = some z)
    (hsize : i.size = size) (hby : i.bytes = bytes) (hzs : z.cells.size = size) (hsz : 0 < size)
    (v : Value) (n : Nat) (xs : List Value) (hown : w.ownsRow base e size v n xs)
    (v2 : Value) (m : Nat) (ys : List Value) (hown2 : w.ownsRow base' e size v2 m ys) (h1 : ∀ u ∈ ys, u.oneCell' = true)
    (h63 : n + m ≤ maxLen) (hbytes : (n + m) * bytes ≤ 140737488355328) (hbase : base ≤ w.heap.size) :
    ∃ v' w', (Builtin.append_ #[t, t] ty #[v, v2]).run P w = .ok v' w' ∧ w'.ownsRow base e size v' (n + m) (xs ++ ys) ∧ w.grownBy w' v.ownBlock ∧ (v'.ownBlock = v.ownBlock ∨ v'.ownBlock = some w.heap.size) := by
  rcases hown2.2 with ⟨rfl, rfl⟩ | ⟨g, cap, cur, rfl, _⟩
  · have e0 : ys = [] := by have := hown2.1; rw [Nat.zero_mul] at this; exact List.eq_nil_of_length_eq_zero this
    subst e0
    exact ⟨v, w, run_append_owned_none w base t ty e i size ht hi v n xs hown, by simpa using hown, ⟨rfl, rfl, rfl, Nat.le_refl _, fun _ _ _ => rfl⟩, .inl rfl⟩
  · obtain ⟨v', w', a, b, c, _, d⟩ := run_append_own_at (P := P) w base t ty e i z size bytes ht hi hz hsize hby hzs hsz v n xs hown ⟨g, 0, none⟩ m cap ys hown2.1 (fun j u hj => by
      have hjl : j < m * size := by rw [← hown2.1]; exact (List.getElem?_eq_some_iff.1 hj).1
      have ea : (⟨g, 0, none⟩ : Addr).add j = ⟨g, j, none⟩ := by
        unfold Addr.add
        split
        · subst_vars; rfl
        · simp
      rw [ea, hown2.cellAt j hjl, hj]) h1 h63 hbytes hbase
    exact ⟨v', w', a, b, c, d⟩
theorem list_both {P : Program} {w : World} {ops : Array Oper} {rest : List Oper} {o : Oper} {a : Act} {Q : Exit → Act → World → Prop} (hgd : o.guard = none) (s x : Operand) (t : TypeId)
    (ho : o.op = .call { callee := .builtin .append, args := #[s, x], argTypes := #[t, t] })
    (base base' : Nat) (e : TypeId) (i : TypeInfo) (z : Value) (size bytes : Nat) (ht : P.underlying t = some (.slice e)) (hi : P.info? e = some i) (hz : i.zero = some z)
    (hsize : i.size = size) (hby : i.bytes = bytes) (hzs : z.cells.size = size) (hsz : 0 < size)
    (v : Value) (n : Nat) (xs : List Value) (hs : a.eval s = v) (hown : w.ownsRow base e size v n xs)
    (v2 : Value) (m : Nat) (ys : List Value) (hx : a.eval x = v2) (hown2 : w.ownsRow base' e size v2 m ys) (h1 : ∀ u ∈ ys, u.oneCell' = true)
    (h63 : n + m ≤ maxLen) (hbytes : (n + m) * bytes ≤ 140737488355328) (hbase : base ≤ w.heap.size)
    (h : ∀ v' w', w'.ownsRow base e size v' (n + m) (xs ++ ys) → w.grownBy w' v.ownBlock → (v'.ownBlock = v.ownBlock ∨ v'.ownBlock = some w.heap.size) → wpList P ops Q rest (a.put o.dst v') w') : wpList P ops Q (o :: rest) a w := by
  refine wpList_plain hgd fun _ hK => ?_
  obtain ⟨v', w', hr, h2, h3, h4⟩ := run_append_both (P := P) (w := w) base base' t o.type e i z size bytes ht hi hz hsize hby hzs hsz v n xs hown v2 m ys hown2 h1 h63 hbytes hbase
  unfold Oper.wp execOp
  simp only [ho, resolve, invoke, builtin, Sem.run_bind, Sem.run_pure, Result.andThen_ok, List.map_toArray, List.map_cons, List.map_nil, hs, hx, hr]
  exact hK _ _ (h v' w' h2 h3 h4)
/-- What the document's Add answers. -/
def addE (V : Nat) (acc : List (Int × Int)) (vol num : Int) : Int := if vol < -1 ∨ vol ≥ V ∨ num < 1 ∨ num > 65535 then 2 else if ∀ i (h : i < acc.length), acc[i].2 < num then 0 else 15
def AddRel (w : World) (acc : List (Int × Int)) (num : Int) (i : Value) (wr : World) : Prop := wr = w ∧ ∃ k : Nat, i = .int .i64 k ∧ k ≤ acc.length ∧ ∀ j (h : j < acc.length), j < k → acc[j].2 < num
def AddPost (w : World) (B x V : Nat) (rv : Value) (acc : List (Int × Int)) (vol num : Int) (e : Ending) (w' : World) : Prop :=
  (e = .returned (.int .i64 (addE V acc vol num)) ∧ addE V acc vol num ≠ 0 ∧ w' = w) ∨
  (e = .returned (.int .i64 0) ∧ addE V acc vol num = 0 ∧ ∃ rv', RefG w' B x V rv' (acc ++ [(vol, num)]) ∧ (∀ k, rv'.ownBlock = some k → w.heap.size ≤ k) ∧ Below B w w' ∧ (∀ k, k < w.heap.size → k ≠ x → w'.heap[k]? = w.heap[k]?))
set_option maxHeartbeats 1600000 in
theorem add_range {w : World} {B x V : Nat} {rv : Value} {acc : List (Int × Int)} (h : RefG w B x V rv acc) (vol num : Int) (hV : V ≤ 8) (v0 : -9223372036854775808 ≤ vol) (v1 : vol ≤ 9223372036854775807) (h0 : 0 ≤ num) (h1 : num ≤ 18446744073709551615) (hc : vol < -1 ∨ vol ≥ V ∨ num < 1 ∨ num > 65535) :
    Calls Try.prog 23 #[.pointer (some ⟨x, 0, none⟩), .int .i64 vol, .int .u64 num] w fun e w' => e = .returned (.int .i64 2) ∧ w = w' := by
  have hc0 := h.c0
  clear h
  by_cases c1 : vol < -1
  · clear hc
    go_enter Try.func23, Try.ntmps23
    go_wp2_with fail
    go_ret
    exact ⟨rfl, rfl⟩
  by_cases c2 : vol ≥ V
  · clear hc
    go_enter Try.func23, Try.ntmps23
    go_wp2_with fail
    go_ret
    exact ⟨rfl, rfl⟩
  by_cases c3 : num < 1
  · clear hc
    go_enter Try.func23, Try.ntmps23
    go_wp2_with fail
    go_ret
    exact ⟨rfl, rfl⟩
  have c4 : 65535 < num := by omega
  clear hc
  go_enter Try.func23, Try.ntmps23
  go_wp2_with fail
  go_ret
  exact ⟨rfl, rfl⟩
theorem after_add {w w1 w2 : World} {x : Nat} {T : TypeId} {v1 r1 : Value} {xs : List Value} {o o2 : Obj} {n : Nat} {rb : Option Nat} (hx : x < w.heap.size) (hg1 : (w.alloc o).grownBy w1 rb) (hrb : ∀ q, rb = some q → w.heap.size ≤ q) (hown1 : w1.ownsRow w.heap.size T 2 v1 n xs) (hg2 : (w1.alloc o2).grownBy w2 v1.ownBlock)
    (c1 : w.cell? ⟨x, 1, none⟩ = some r1) (f1 : w.frozen? ⟨x, 1, none⟩ = false) :
    w2.cell? ⟨x, 1, none⟩ = some r1 ∧ w2.frozen? ⟨x, 1, none⟩ = false ∧ ∀ k, k < w.heap.size → w2.heap[k]? = w.heap[k]? := by
  have z1 : w.heap.size + 1 ≤ w1.heap.size := by have := hg1.size; simpa using this
  have all : ∀ k, k < w.heap.size → w2.heap[k]? = w.heap[k]? := fun k hk => by
    rw [hg2.block k (by simp; omega) (fun e => by have := own_ge hown1 k e.symm; omega), Below.heap_alloc _ _ _ (by omega), hg1.block k (by simp; omega) (fun e => by have := hrb k e.symm; omega), Below.heap_alloc _ _ _ hk]
  exact ⟨(World.cell?_of_block (w := w) (a := ⟨x, 1, none⟩) (all x hx)).trans c1, (World.frozen?_of_block (w := w) (a := ⟨x, 1, none⟩) (all x hx)).trans f1, all⟩
theorem own_base {w : World} {base base' n size : Nat} {e : TypeId} {v : Value} {xs : List Value} (h : w.ownsRow base e size v n xs) (hb : base' ≤ base) : w.ownsRow base' e size v n xs := by
  refine ⟨h.1, ?_⟩
  rcases h.2 with h2 | ⟨g, cap, cur, e1, e2, r⟩
  · exact .inl h2
  · exact .inr ⟨g, cap, cur, e1, by omega, r⟩
theorem one2 (vol num : Int) : ∀ u ∈ [Value.int .i64 vol, Value.int .u64 num], u.oneCell' = true := by simp [Value.oneCell']
theorem grown_sz {w w1 : World} {o : Obj} {rb : Option Nat} (h : (w.alloc o).grownBy w1 rb) (o2 : Obj) : w.heap.size ≤ (w1.alloc o2).heap.size := by
  have := h.size
  simp at this ⊢
  omega
theorem own_self (b n c : Nat) : ∀ q, (Value.slice (some ⟨b, 0, none⟩) n c).ownBlock = some q → b ≤ q := fun q hq => by
  simp only [Value.ownBlock, Option.some.injEq] at hq
  omega
theorem lit_own (w : World) (vol num : Int) : (w.alloc (.cells #[.int .i64 vol, .int .u64 num] 37)).ownsRow w.heap.size 37 2 (.slice (some ⟨w.heap.size, 0, none⟩) 1 1) 1 [.int .i64 vol, .int .u64 num] :=
  World.ownsRow_lit w #[Value.int .i64 vol, Value.int .u64 num] 1 (Nat.le_refl _) (by simp [maxLen]) rfl
theorem empty_ownE (w : World) : (w.alloc (.cells #[] 37)).ownsRow w.heap.size 37 2 (.slice (some ⟨w.heap.size, 0, none⟩) 0 0) 0 [] :=
  ⟨rfl, .inr ⟨w.heap.size, 0, #[], rfl, Nat.le_refl _, heap_alloc_new w _, Nat.le_refl _, by simp [maxLen], rfl, rfl⟩⟩
set_option maxHeartbeats 3200000 in
set_option maxRecDepth 100000 in
theorem add_rest {w : World} {B x V : Nat} {rv : Value} {acc : List (Int × Int)} (h : RefG w B x V rv acc) (vol num : Int) (hV : V ≤ 8) (ha : acc.length ≤ 1000) (c1 : -1 ≤ vol) (c2 : vol < V) (c3 : 1 ≤ num) (c4 : num ≤ 65535) :
    Calls Try.prog 23 #[.pointer (some ⟨x, 0, none⟩), .int .i64 vol, .int .u64 num] w (AddPost w B x V rv acc vol num) := by
  obtain ⟨i0, hi0, hz0, hz1, hz2⟩ := info_parts infoE
  have hc0 := h.c0
  have hc1 := h.c1
  have hf1 := h.f1 1
  have hlt := h.lt
  have fm : 0 + acc.length ≤ maxLen := by simp only [maxLen]; omega
  have fb : (0 + acc.length) * 16 ≤ 140737488355328 := by omega
  have fm2 : 0 + acc.length + 1 ≤ maxLen := by simp only [maxLen]; omega
  have fb2 : (0 + acc.length + 1) * 16 ≤ 140737488355328 := by omega
  have HA : Hid (addE V acc vol num = if ∀ i (h : i < acc.length), acc[i].2 < num then 0 else 15) := if_neg (by omega)
  have H := Lib.hid h
  obtain ⟨A, c, rfl⟩ := h.slice
  clear h
  go_enter Try.func23, Try.ntmps23
  go_wp2_with fail
  go_loopw [7] (fun i wr => AddRel w acc num i wr) (fun i _ => (acc.length - intOf i).toNat)
  case atStart => exact ⟨rfl, 0, rfl, by omega, fun j _ h => absurd h (by omega)⟩
  case round =>
    obtain ⟨rfl, k, rfl, hk, hlo⟩ := hrel
    have HLO := Lib.hid hlo
    clear hlo
    by_cases cc : k < acc.length
    · obtain ⟨q, c', e', hq, hcs⟩ := H.out.cells (by omega)
      cases e'
      obtain ⟨y1, y2⟩ := hcs k cc
      have e1 : (0 : Int) ≤ (k : Int) := by omega
      have e2 : (k : Int) < (acc.length : Int) := by omega
      clear hcs
      by_cases d : acc[k].2 < num
      · go_wp2_with fail
        go_roundw
        case rel => exact ⟨rfl, k + 1, by simp, by omega, fun j h hj => if e : j = k then by subst e; exact d else HLO.out j h (by omega)⟩
        case measure => simp [intOf]; omega
      · go_wp2_with fail
        go_ret
        have e5 : addE V acc vol num = 15 := by rw [HA.out]; exact if_neg (fun h => by have := h k cc; omega)
        exact .inl ⟨by rw [e5]; rfl, by rw [e5]; decide, rfl⟩
    · obtain rfl : k = acc.length := by omega
      go_wp2_with (first
        | (at_builtin; refine list_both rfl (.tmp 46) (.tmp 50) 22 rfl wr.heap.size B 37 i0 (.agg #[.int .i64 0, .int .u64 0]) 2 16 Try.underlying22 hi0 hz0 hz1 hz2 rfl (by decide) _ _ _ (by rfl) (empty_ownE wr) _ _ _ (by rfl) (H.out.row.alloc _) (evC_one _) fm fb (by simp) ?_; intro v1 w1 hown1 hgr1 hat1)
        | (at_builtin; refine list_both rfl (.tmp 51) (.tmp 55) 22 rfl wr.heap.size w1.heap.size 37 i0 (.agg #[.int .i64 0, .int .u64 0]) 2 16 Try.underlying22 hi0 hz0 hz1 hz2 rfl (by decide) v1 (0 + acc.length) ([] ++ evC acc) (by rfl) (hown1.alloc _) (.slice (some ⟨w1.heap.size, 0, none⟩) 1 1) 1 [.int .i64 vol, .int .u64 num] (by rfl) (lit_own w1 vol num) (one2 vol num) fm2 fb2 (grown_sz hgr1 _) ?_; intro v2 w2 hown2 hgr2 hat2; have X := after_add hlt hgr1 (own_self wr.heap.size 0 0) hown1 hgr2 hc1 hf1; obtain ⟨k1, k2, k3⟩ := X; obtain ⟨g2, cp2, cu2, rfl, q2⟩ := hown2.2.resolve_left (fun h => by omega)))
      go_ret
      have e5 : addE V acc vol num = 0 := by rw [HA.out]; exact if_pos (fun i h => HLO.out i h h)
      refine .inr ⟨rfl, e5, _, ⟨H.out.xb, set_at ((k3 x hlt).trans H.out.hx), ?_, ?_⟩, fun k hk => ?_, ?_, fun k hk hne => ?_⟩
      · have e6 : evC (acc ++ [(vol, num)]) = [] ++ evC acc ++ [.int .i64 vol, .int .u64 num] := by rw [evC_app]; rfl
        have e7 : (acc ++ [(vol, num)]).length = acc.length + 1 := by simp
        have hle : B ≤ wr.heap.size := by have := H.out.xb; omega
        have h2 := own_base hown2 hle
        rw [Nat.zero_add] at h2
        rw [e6, e7]
        exact own_stay h2 (fun q hq => Below.heap_setCell _ _ _ _ (by have := own_ge hown2 q hq; show q ≠ x; omega))
      · intro e; have := own_ge hown2 x e; omega
      · exact own_ge hown2 k hk
      · exact (((((Below.refl B wr).alloc (by have := H.out.xb; omega) _).grown hgr1 (by have := H.out.xb; simp; omega) (fun k hk => by have := own_self _ _ _ k hk; have := H.out.xb; omega)).alloc (by have := H.out.xb; have := hgr1.size; simp at this; omega) _).grown hgr2 (by have := H.out.xb; have := hgr1.size; simp at this ⊢; omega) (fun k hk => by have := own_ge hown1 k hk; have := H.out.xb; omega)).setCell H.out.xb _
      · rw [Below.heap_setCell _ _ _ _ hne, k3 k hk]
theorem add_at {w : World} {B x V : Nat} {rv : Value} {acc : List (Int × Int)} (h : RefG w B x V rv acc) (vol num : Int) (hV : V ≤ 8) (ha : acc.length ≤ 1000) (v0 : -9223372036854775808 ≤ vol) (v1 : vol ≤ 9223372036854775807) (h0 : 0 ≤ num) (h1 : num ≤ 18446744073709551615) :
    Calls Try.prog 23 #[.pointer (some ⟨x, 0, none⟩), .int .i64 vol, .int .u64 num] w (AddPost w B x V rv acc vol num) := by
  by_cases hc : vol < -1 ∨ vol ≥ V ∨ num < 1 ∨ num > 65535
  · have e : addE V acc vol num = 2 := if_pos hc
    exact (add_range h vol num hV v0 v1 h0 h1 hc).mono fun e' w' ⟨a, b⟩ => .inl ⟨by rw [a, e], by rw [e]; decide, b.symm⟩
  · exact add_rest h vol num hV ha (by omega) (by omega) (by omega) (by omega)
end Go.Proofs.Yteeokbcnjibpfaa.G
