/- A map of numbers (extent.Map) as it lies in memory: its block, and its two maps. -/
import Derived.Test.YtcflobbgnicncaaLActs
import Derived.Test.YtcflobbgnicncaaPLedgerMapx2
import Derived.Maps.Own
import Derived.Maps.OwnOps
import Derived.Maps.OwnSet
import Derived.IntWalk
import Derived.Deep.RegionHeld3
import Derived.Deep.QuietTactic
namespace Go.Proofs.Ytcflobbgnicncaa.L
open Go.RowKit Go.Maps
set_option linter.unusedVariables false
set_option linter.unusedSimpArgs false
abbrev Dm := DataW Nat
def li (c : Int) : Dm := .lit (.int .i64 c)
def kU (n : Int) : Lit := .int .u64 n
def kI (n : Int) : Lit := .int .i64 n
def valOf : Dm → Int
  | .lit (.int .i64 c) => c
  | _ => 0
/-- What a map has at a key. -/
def at_ (D : Dm) (k : Lit) : Int := valOf (D.atKey k (li 0))
theorem lawU : Keyed Try.prog 47 := int_keyed Try.underlying47
theorem lawI : Keyed Try.prog 3 := int_keyed Try.underlying3
theorem zeroI (w : World) : (zeroValue 3).run Try.prog w = .ok (.int .i64 0) w := by kernel_rfl
theorem keyU {n : Int} (h0 : 0 ≤ n) (h1 : n ≤ 18446744073709551615) : keyOf Try.prog 47 (.int .u64 n) = some (kU n) := keyOf_int_mk Try.underlying47 (by simp [Lit.wf, IntKind.min, IntKind.max, IntKind.bits, IntKind.signed]; omega)
theorem keyI {n : Int} (h0 : -9223372036854775808 ≤ n) (h1 : n ≤ 9223372036854775807) : keyOf Try.prog 3 (.int .i64 n) = some (kI n) := keyOf_int_mk Try.underlying3 (by simp [Lit.wf, IntKind.min, IntKind.max, IntKind.bits, IntKind.signed]; omega)
theorem wfI {n : Int} (h0 : -9223372036854775808 ≤ n) (h1 : n ≤ 9223372036854775807) : (Lit.int .i64 n).wf = true := by simp [Lit.wf, IntKind.min, IntKind.max, IntKind.bits, IntKind.signed]; omega
theorem at_of {D : Dm} {k : Lit} {c : Int} (h : D.atKey k (.lit (.int .i64 0)) = .lit (.int .i64 c)) : at_ D k = c := by unfold at_ li; rw [h]; rfl
theorem isKey (k : IntKind) (n : Int) : WideAt.IsKeyLit (.int k n) := by trivial
theorem at_put_same {D : Dm} (h : IsMap D) (k : IntKind) (n c : Int) : at_ (D.put (.int k n) (li c)) (.int k n) = c := by unfold at_; rw [atKey_put_same h (isKey k n)]; rfl
theorem at_put_other {D : Dm} {k k' : Lit} (h : k' ≠ k) (c : Int) : at_ (D.put k (li c)) k' = at_ D k' := by unfold at_; rw [atKey_put_other h]
theorem at_del_other {D : Dm} {k k' : Lit} (h : k' ≠ k) : at_ (D.del k) k' = at_ D k' := by unfold at_; rw [atKey_del_other h]
theorem kU_ne {a b : Int} (h : a ≠ b) : kU a ≠ kU b := fun e => h (by unfold kU at e; injection e)
theorem kI_ne {a b : Int} (h : a ≠ b) : kI a ≠ kI b := fun e => h (by unfold kI at e; injection e)
structure EM (w : World) (B m bm bl : Nat) (a b : Int) (N : Nat) (D1 D2 : Dm) : Prop where
  m0 : B ≤ m
  m1 : B ≤ bm
  m2 : B ≤ bl
  n1 : bm ≠ bl
  n2 : m ≠ bm
  n3 : m ≠ bl
  hm : w.heap[m]? = some (.cells #[.int .i64 a, .int .i64 b, .map (some bm), .map (some bl)] 56 (0, 0))
  o1 : w.ownsMap Try.prog 47 (plainElem (H := Nat) Try.prog 3) bm N D1
  o2 : w.ownsMap Try.prog 3 (plainElem (H := Nat) Try.prog 3) bl N D2
section
variable {w w' : World} {B m bm bl N : Nat} {a b : Int} {D1 D2 : Dm}
theorem EM.lt (h : EM w B m bm bl a b N D1 D2) : m < w.heap.size := (Array.getElem?_eq_some_iff.1 h.hm).1
theorem EM.c0 (h : EM w B m bm bl a b N D1 D2) : w.cell? ⟨m, 0, none⟩ = some (.int .i64 a) := by simp [World.cell?, h.hm]
theorem EM.c1 (h : EM w B m bm bl a b N D1 D2) : w.cell? ⟨m, 1, none⟩ = some (.int .i64 b) := by simp [World.cell?, h.hm]
theorem EM.c2 (h : EM w B m bm bl a b N D1 D2) : w.cell? ⟨m, 2, none⟩ = some (.map (some bm)) := by simp [World.cell?, h.hm]
theorem EM.c3 (h : EM w B m bm bl a b N D1 D2) : w.cell? ⟨m, 3, none⟩ = some (.map (some bl)) := by simp [World.cell?, h.hm]
theorem own_below {k : TypeId} {R : Value → Option (Dm × List MemPlace)} {q n : Nat} {D : Dm} (h : w.ownsMap Try.prog k R q n D) (hb : Below w.heap.size w w') : w'.ownsMap Try.prog k R q n D := by
  have hlt := h.lt
  obtain ⟨es, clock, h1, r⟩ := h
  exact ⟨es, clock, (hb.block q hlt).trans h1, r⟩
theorem EM.below (h : EM w B m bm bl a b N D1 D2) (hb : Below w.heap.size w w') : EM w' B m bm bl a b N D1 D2 :=
  ⟨h.m0, h.m1, h.m2, h.n1, h.n2, h.n3, (hb.block m h.lt).trans h.hm, own_below h.o1 hb, own_below h.o2 hb⟩
theorem EM.mono (h : EM w B m bm bl a b N D1 D2) {N' : Nat} (hn : N ≤ N') : EM w B m bm bl a b N' D1 D2 :=
  ⟨h.m0, h.m1, h.m2, h.n1, h.n2, h.n3, h.hm, h.o1.mono hn, h.o2.mono hn⟩
theorem EM.put1 (h : EM w B m bm bl a b N D1 D2) {D : Dm} (ho : w'.ownsMap Try.prog 47 (plainElem (H := Nat) Try.prog 3) bm (N + 1) D) (hg : w.grownBy w' (some bm)) : EM w' B m bm bl a b (N + 1) D D2 :=
  ⟨h.m0, h.m1, h.m2, h.n1, h.n2, h.n3, (hg.block m h.lt (by simp [h.n2])).trans h.hm, ho, (h.o2.kept hg (by simp [h.n1.symm])).mono (by omega)⟩
theorem EM.put2 (h : EM w B m bm bl a b N D1 D2) {D : Dm} (ho : w'.ownsMap Try.prog 3 (plainElem (H := Nat) Try.prog 3) bl (N + 1) D) (hg : w.grownBy w' (some bl)) : EM w' B m bm bl a b (N + 1) D1 D :=
  ⟨h.m0, h.m1, h.m2, h.n1, h.n2, h.n3, (hg.block m h.lt (by simp [h.n3])).trans h.hm, (h.o1.kept hg (by simp [h.n1])).mono (by omega), ho⟩
theorem bel_grown {B0 : Nat} {q : Nat} (hg : w.grownBy w' (some q)) (h : B0 ≤ w.heap.size) (hq : B0 ≤ q) : Below B0 w w' := (Below.refl B0 w).grown hg h (fun k hk => by cases hk; exact hq)
end
/-- Nothing but the two maps' blocks, and new ones, may have changed. -/
structure FrM (bm bl : Nat) (w w' : World) : Prop where
  os : w'.os = w.os
  tape : w'.tape = w.tape
  output : w'.output = w.output
  size : w.heap.size ≤ w'.heap.size
  block : ∀ k, k < w.heap.size → k ≠ bm → k ≠ bl → w'.heap[k]? = w.heap[k]?
theorem FrM.trans {bm bl : Nat} {w w1 w2 : World} (h1 : FrM bm bl w w1) (h2 : FrM bm bl w1 w2) : FrM bm bl w w2 :=
  ⟨h2.os.trans h1.os, h2.tape.trans h1.tape, h2.output.trans h1.output, Nat.le_trans h1.size h2.size, fun k hk a b => (h2.block k (Nat.lt_of_lt_of_le hk h1.size) a b).trans (h1.block k hk a b)⟩
theorem FrM.of_below {bm bl : Nat} {w w1 : World} (h : Below w.heap.size w w1) : FrM bm bl w w1 := ⟨h.os, h.tape, h.output, h.size, fun k hk _ _ => h.block k hk⟩
theorem FrM.of_one {bm bl : Nat} {w w1 : World} (h : w.grownBy w1 (some bm)) : FrM bm bl w w1 := ⟨h.os, h.tape, h.output, h.size, fun k hk a _ => h.block k hk (by simp [a])⟩
theorem FrM.of_two {bm bl : Nat} {w w1 : World} (h : w.grownBy w1 (some bl)) : FrM bm bl w w1 := ⟨h.os, h.tape, h.output, h.size, fun k hk _ a => h.block k hk (by simp [a])⟩
theorem FrM.below {bm bl B : Nat} {w w1 : World} (h : FrM bm bl w w1) (h1 : B ≤ bm) (h2 : B ≤ bl) (hB : B ≤ w.heap.size) : Below B w w1 := ⟨h.os, h.tape, h.output, h.size, fun k hk => h.block k (by omega) (by omega) (by omega)⟩
/-- The sum of the first S values. -/
def sumLv (D : Dm) : Nat → Int
  | 0 => 0
  | S + 1 => sumLv D S + at_ D (kI S)
theorem sumLv_put {D : Dm} (h : IsMap D) (s : Int) (c : Int) : ∀ S : Nat, 0 ≤ s → sumLv (D.put (kI s) (li c)) S = sumLv D S + if s < S then c - at_ D (kI s) else 0
  | 0, h0 => by simp [sumLv]; omega
  | S + 1, h0 => by
    simp only [sumLv]
    rw [sumLv_put h s c S h0]
    by_cases e : s = (S : Int)
    · subst e
      rw [show at_ (D.put (kI (S : Int)) (li c)) (kI (S : Int)) = c from at_put_same h .i64 _ c]
      rw [if_neg (by omega), if_pos (by omega)]
      omega
    · rw [at_put_other (kI_ne (fun q => e q.symm))]
      by_cases c1 : s < (S : Int)
      · rw [if_pos c1, if_pos (by omega)]; omega
      · rw [if_neg c1, if_neg (by omega)]; omega
def Bnd (D : Dm) (K : Int) : Prop := ∀ s : Int, -K ≤ at_ D (kI s) ∧ at_ D (kI s) ≤ K
theorem Bnd.put {D : Dm} {K : Int} (h : Bnd D K) (hm : IsMap D) (s c : Int) (hc : -(K + 1) ≤ c ∧ c ≤ K + 1) : Bnd (D.put (kI s) (li c)) (K + 1) := fun t => by
  by_cases e : t = s
  · subst e; rw [show at_ (D.put (kI t) (li c)) (kI t) = c from at_put_same hm .i64 t c]; exact hc
  · rw [at_put_other (kI_ne e)]; have := h t; omega
theorem own_only {w w' : World} {k : TypeId} {R : Value → Option (Dm × List MemPlace)} {q n g : Nat} {D : Dm} (h : w.ownsMap Try.prog k R q n D) (hb : Only g w w') (hq : q ≠ g) : w'.ownsMap Try.prog k R q n D := by
  obtain ⟨es, clock, h1, r⟩ := h
  exact ⟨es, clock, (hb.block q hq).trans h1, r⟩
theorem EM.only {w w' : World} {B m bm bl N g : Nat} {a b : Int} {D1 D2 : Dm} (h : EM w B m bm bl a b N D1 D2) (hb : Only g w w') (h1 : m ≠ g) (h2 : bm ≠ g) (h3 : bl ≠ g) : EM w' B m bm bl a b N D1 D2 :=
  ⟨h.m0, h.m1, h.m2, h.n1, h.n2, h.n3, (hb.block m h1).trans h.hm, own_only h.o1 hb h2, own_only h.o2 hb h3⟩
theorem IsLed.frm {w w' : World} {g bm bl : Nat} {m l : Int} (h : IsLed w g m l) (hb : FrM bm bl w w') (h1 : g ≠ bm) (h2 : g ≠ bl) : IsLed w' g m l := (hb.block g h.lt h1 h2).trans h
/-- What holds of the map, the ledger and the next number. -/
structure MInv (a b : Int) (D1 D2 : Dm) (next live K : Int) : Prop where
  size : (Maps.size D1 : Int) = live
  sum : sumLv D2 a.toNat = live
  bnd : Bnd D2 K
  keys : ∀ n, Maps.has D1 (kU n) = true → n < next
  ats : ∀ n, Maps.has D1 (kU n) = true → 2 ≤ at_ D1 (kU n) ∧ at_ D1 (kU n) < 2 + a * b
section
variable {a b : Int} {D1 D2 : Dm} {next live K : Int}
theorem minv_new (ha : 0 ≤ a) : MInv a b (.map []) (.map []) 1 0 0 := by
  have e : ∀ k, at_ (.map [] : Dm) k = 0 := fun k => by unfold at_ DataW.atKey; rfl
  refine ⟨rfl, ?_, fun s => by rw [e]; omega, fun n h => by simp [Maps.has] at h, fun n h => by simp [Maps.has] at h⟩
  have : ∀ S, sumLv (.map [] : Dm) S = 0 := fun S => by
    induction S with
    | zero => rfl
    | succ n ih => simp [sumLv, ih, e]
  exact this _
theorem MInv.fresh (h : MInv a b D1 D2 next live K) : Maps.has D1 (kU next) = false := by
  cases e : Maps.has D1 (kU next)
  · rfl
  · have := h.keys next e; omega
theorem MInv.put (h : MInv a b D1 D2 next live K) (ht : Tidy D1) (hm : IsMap D2) (at0 s : Int) (h0 : 2 ≤ at0 ∧ at0 < 2 + a * b) (hs : 0 ≤ s ∧ s < a) :
    MInv a b (D1.put (kU next) (li at0)) (D2.put (kI s) (li (at_ D2 (kI s) + 1))) (next + 1) (live + 1) (K + 1) := by
  have hb := h.bnd s
  refine ⟨?_, ?_, h.bnd.put hm s _ (by omega), fun n hn => ?_, fun n hn => ?_⟩
  · rw [size_put ht, h.fresh]; simp [h.size]
  · rw [sumLv_put hm s _ _ hs.1, h.sum, if_pos (by omega)]; omega
  · by_cases e : n = next
    · omega
    · rw [has_put_other (kU_ne e)] at hn; have := h.keys n hn; omega
  · by_cases e : n = next
    · subst e; rw [show at_ (D1.put (kU n) (li at0)) (kU n) = at0 from at_put_same ht.isMap .u64 n at0]; exact h0
    · rw [has_put_other (kU_ne e)] at hn; rw [at_put_other (kU_ne e)]; exact h.ats n hn
theorem MInv.move (h : MInv a b D1 D2 next live K) (ht : Tidy D1) (hm : IsMap D2) (num at0 s f : Int) (hh : Maps.has D1 (kU num) = true) (h0 : 2 ≤ at0 ∧ at0 < 2 + a * b) (hs : 0 ≤ s ∧ s < a) (hf : 0 ≤ f ∧ f < a) {D2a D2b : Dm} (e1 : D2a = D2.put (kI f) (li (at_ D2 (kI f) - 1))) (e2 : D2b = D2a.put (kI s) (li (at_ D2a (kI s) + 1))) :
    MInv a b (D1.put (kU num) (li at0)) D2b next live (K + 1 + 1) := by
  subst e1 e2
  have hb := h.bnd f
  have b1 := h.bnd.put hm f (at_ D2 (kI f) - 1) (by omega)
  have hm1 : IsMap (D2.put (kI f) (li (at_ D2 (kI f) - 1))) := hm.put _ _
  have hb2 := b1 s
  refine ⟨?_, ?_, b1.put hm1 s _ (by omega), fun n hn => ?_, fun n hn => ?_⟩
  · rw [size_put ht, hh]; simp [h.size]
  · rw [sumLv_put hm1 s _ _ hs.1, sumLv_put hm f _ _ hf.1, h.sum, if_pos (by omega), if_pos (by omega)]; omega
  · by_cases e : n = num
    · subst e; exact h.keys n hh
    · rw [has_put_other (kU_ne e)] at hn; exact h.keys n hn
  · by_cases e : n = num
    · subst e; rw [show at_ (D1.put (kU n) (li at0)) (kU n) = at0 from at_put_same ht.isMap .u64 n at0]; exact h0
    · rw [has_put_other (kU_ne e)] at hn; rw [at_put_other (kU_ne e)]; exact h.ats n hn
theorem MInv.drop (h : MInv a b D1 D2 next live K) (ht : Tidy D1) (hm : IsMap D2) (num f : Int) (hh : Maps.has D1 (kU num) = true) (hf : 0 ≤ f ∧ f < a) :
    MInv a b (D1.del (kU num)) (D2.put (kI f) (li (at_ D2 (kI f) - 1))) next (live - 1) (K + 1) := by
  have hb := h.bnd f
  refine ⟨?_, ?_, h.bnd.put hm f _ (by omega), fun n hn => ?_, fun n hn => ?_⟩
  · have := size_del (k := kU num) ht
    rw [hh, if_pos rfl] at this
    have := h.size
    omega
  · rw [sumLv_put hm f _ _ hf.1, h.sum, if_pos (by omega)]; omega
  · by_cases e : n = num
    · subst e; exact h.keys n hh
    · rw [has_del_other (kU_ne e)] at hn; exact h.keys n hn
  · by_cases e : n = num
    · subst e; rw [has_del_same] at hn; simp at hn
    · rw [has_del_other (kU_ne e)] at hn; rw [at_del_other (kU_ne e)]; exact h.ats n hn
theorem MInv.pos (h : MInv a b D1 D2 next live K) (ht : Tidy D1) (num : Int) (hh : Maps.has D1 (kU num) = true) : 1 ≤ live := by
  have := size_del (k := kU num) ht
  rw [hh, if_pos rfl] at this
  have := h.size
  omega
end
end Go.Proofs.Ytcflobbgnicncaa.L
