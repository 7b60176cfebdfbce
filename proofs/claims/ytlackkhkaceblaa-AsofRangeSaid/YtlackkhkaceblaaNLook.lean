/- NLook: joined by merge.py. -/
import Derived.Test.YtlackkhkaceblaaNPutEnd
/- The walks of look and Right over a leaf of rising keys. -/
namespace Go.Proofs.Ytlackkhkaceblaa.N
open Go.RowKit
set_option linter.unusedVariables false
set_option linter.unusedSimpArgs false
theorem results_tct {fn : Func} {p u t : Tmp} {ty : TypeId} (h : fn.results = #[.tmp t, .cell p ty, .tmp u]) (tmps : Array Value) (P : Program) (w : World) :
    (results fn tmps).run P w =
      ((asAddr (tmps.getD p undef)).run P w).andThen fun a w₁ => ((loadVar ty a).run P w₁).andThen fun v w₂ => .ok (.tuple #[tmps.getD t undef, v, tmps.getD u undef]) w₂ := by
  simp only [results, h]
  simp [Sem.run_bind, Result.andThen]
theorem before_at' (a b : Sp) (w : World) : Calls Try.prog 38 #[.agg #[.int .i64 a.br, .int .i64 a.vol, .int .i64 a.blk, .int .u64 a.num], .agg #[.int .i64 b.br, .int .i64 b.vol, .int .i64 b.blk, .int .u64 b.num]] w fun e w' => e = .returned (.bool (lt a b)) ∧ Below w.heap.size w w' := before_at a b w
/-- An operation is taken first, the operation itself written out. -/
theorem take_at {P : Program} {l : List Oper} {Q : Exit → Act → World → Prop} {md : Region.Mode} {S : World → Prop} {i : Nat} {oi : Oper} {v : Value} {fuel : Nat} {listed : Array Bool} {a : Act} {w : World} (hi : l[i]? = some oi)
    (hs : Region.noSelect l.toArray = true) (hf : Region.free md l.toArray listed i = true) (hr : (Region.ready md l.toArray listed).contains i = true)
    (hQ : ∀ c a w, Q (.panic c) (a.put oi.dst v) w → Q (.panic c) a w) (hy : YieldsIf P l.toArray S oi v a) (hS : S w)
    (h : wpAnyH P md l.toArray Q S fuel (listed.setIfInBounds i true) (a.put oi.dst v) w) : wpAnyH P md l.toArray Q S (fuel + 1) listed a w :=
  wpAnyH_take (by simpa using hi) hs hf hr hQ hy hS h
/-- One operation alone may come up, and is wanted. -/
theorem one_at {P : Program} {l : List Oper} {Q : Exit → Act → World → Prop} {md : Region.Mode} {S : World → Prop} {i : Nat} {o : Oper} {fuel : Nat} {listed : Array Bool} {a : Act} {w : World} (hi : l[i]? = some o)
    (hr : Region.ready md l.toArray listed = [i]) (hw : Region.wanted o (yielded l.toArray a.tmps) = true)
    (h : ∀ K' : Act → World → Prop, Shut (∀ a w, S w → (S w → wpAnyH P md l.toArray Q S fuel (listed.setIfInBounds i true) a w) → K' a w) → Oper.wp P o a w K' Q) : wpAnyH P md l.toArray Q S (fuel + 1) listed a w :=
  wpAnyH_ready hr (by simp) (AllReadyH.cons (by simpa using hi) (fun K hK => by rw [if_pos hw]; exact h K hK) AllReadyH.nil)
/-- Each key stands ahead of the next one. -/
def Rising (l : List Sp) : Prop := ∀ j (h : j + 1 < l.length), lt l[j] l[j + 1] = true
theorem cell_off (w : World) (q o o' : Nat) (v : Value) (h : o ≠ o') : (w.setCell ⟨q, o, none⟩ v).cell? ⟨q, o', none⟩ = w.cell? ⟨q, o', none⟩ := World.cell?_setCell_other _ _ _ _ (fun e => h (by injection e))
def zeroSp : Sp := ⟨0, 0, 0, 0⟩
def rightN (n : Nat) (root : Bool) : Bool := decide (1 ≤ n) && decide (n ≤ 4) && (root || decide (1 < n))
def LookPost (w : World) (n : Nat) (root : Bool) (e : Ending) (w' : World) : Prop := (∃ (h : Int) (s : Sp), e = .returned (.tuple #[.int .i64 h, .agg #[.int .i64 s.br, .int .i64 s.vol, .int .i64 s.blk, .int .u64 s.num], .bool (rightN n root)])) ∧ Below w.heap.size w w'
def LookRel (W : World) (n : Nat) (i : Value) (wr : World) : Prop := ∃ j : Nat, i = .int .i64 j ∧ j + 1 ≤ n ∧ Below W.heap.size W wr
end Go.Proofs.Ytlackkhkaceblaa.N
