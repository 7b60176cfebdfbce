/- TOpenD: joined by merge.py. -/
import Derived.Test.YtainljbkejafcaaNOpen
import Derived.Test.YtainljbkejafcaaTA
import Derived.ChangeArms
/- Deeds that came in. -/
namespace Go.Proofs.Ytainljbkejafcaa.N
open Go.ChangeShapes Go.WideShapes Go.Deep Go.RowKit Go.Joins
set_option linter.unusedVariables false
set_option linter.unusedSimpArgs false
def Dd.cs (d : Dd) : List Value := [.bool d.del, .int .i64 d.k.br, .int .i64 d.k.vol, .int .i64 d.k.blk, .int .u64 d.k.num, .int .u64 d.v]
section
variable {w : World} {H : Type} {enc : TypeId × Value → H} {base : Nat} {spare : Nat → Bool} {held : Bool}
theorem list6 {α : Type} {l : List α} (h : l.length = 6) : ∃ a b c d e f, l = [a, b, c, d, e, f] := by
  match l, h with
  | [a, b, c, d, e, f], _ => exact ⟨a, b, c, d, e, f, rfl⟩
set_option maxRecDepth 100000 in
theorem deed_of {fuel : Nat} {cs : List Value} {x : DataW H × List MemPlace} (h : DataW.trod enc Try.prog w base spare held fuel 80 cs = some x) : ∃ d : Dd, cs = d.cs ∧ d.k.ok := by
  obtain ⟨y0, y1, y2, n, rfl, hl, h0, h1, h2⟩ := trod_struct3 Try.underlying80 h
  have hc : Try.prog.cellsOf 80 = 6 := by kernel_rfl
  have hs : Try.prog.cellsOf 26 = 4 := by kernel_rfl
  have hb : Try.prog.cellsOf 4 = 1 := by kernel_rfl
  have hu : Try.prog.cellsOf 24 = 1 := by kernel_rfl
  rw [hc] at hl
  obtain ⟨c0, c1, c2, c3, c4, c5, rfl⟩ := list6 hl
  simp only [hs, hu, hb] at h0 h1 h2
  obtain ⟨b0, e0, _⟩ := DataW.trod_bool Try.underlying4 h0
  obtain ⟨s, e1, ho⟩ := sp_of h1
  obtain ⟨n3, e3, _, w3⟩ := DataW.trod_int Try.underlying24 h2
  simp [Sp.cs] at e0 e1 e3
  obtain ⟨f1, f2, f3, f4⟩ := e1
  subst e0 f1 f2 f3 f4 e3
  exact ⟨⟨b0, s, n3⟩, rfl, ho⟩
theorem open_deeds {fuel : Nat} {cs : List Value} {x : DataW H × List MemPlace} (h : DataW.trod enc Try.prog w base spare held fuel 65 cs = some x) :
    ∃ (A : Option Addr) (cap : Nat) (l : List Dd), cs = [.slice A l.length cap] ∧ l.length ≤ cap ∧ cap ≤ maxLen ∧ DeedsAt w A l ∧ ∀ j (h : j < l.length), l[j].k.ok := by
  obtain ⟨A, cap, l, h1, h2, h3, h4, h5⟩ := open_rows Dd.cs (fun d => d.k.ok) 6 Try.underlying65 (by kernel_rfl) (fun s => by simp [Dd.cs]) (fun _ _ _ h => deed_of h) h
  refine ⟨A, cap, l, h1, h2, h3, fun hl => ?_, h5⟩
  obtain ⟨b, off, e, hlt, hc⟩ := h4 hl
  exact ⟨b, off, e, hlt, fun j hj => ⟨hc j hj 0 _ rfl, hc j hj 1 _ rfl, hc j hj 2 _ rfl, hc j hj 3 _ rfl, hc j hj 4 _ rfl, hc j hj 5 _ rfl⟩⟩
end
end Go.Proofs.Ytainljbkejafcaa.N
