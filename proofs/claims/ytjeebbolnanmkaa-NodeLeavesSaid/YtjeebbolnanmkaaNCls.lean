/- A region that draws its order and whose operations and calls leave a class of worlds: one walk of the text's order serves every order. -/
import Derived.Test.YtjeebbolnanmkaaNOps
import Derived.BigQuiet
namespace Go.Proofs.Ytjeebbolnanmkaa.N
open Go Go.RowKit
structure Wd (S : World → Prop) where
  w : World
  h : S w
theorem wp_region_cls {P : Program} {S : World → Prop} {id : Nat} {Q : Exit → Act → World → Prop} {a : Act} {w : World} {l : List Oper} (hm : P.follows .mixedOrders = true) (hB : Region.lexB .any l.toArray = true) (hS : S w.drew)
    (h : wpQuiet P l.toArray (fun w' => ∃ x : Wd S, w' = x.w) (fun a' => ∀ w', (∃ x : Wd S, w' = x.w) → Q .normal a' w') l a) : (Code.region id l.toArray true).wp P Q a w :=
  wp_region_quiet (C := fun w' => ∃ x : Wd S, w' = x.w) hm hB ⟨⟨w.drew, hS⟩, rfl⟩ (by simpa using h)
/-- A call's contract at a world of the class. -/
theorem Calls.cls {P : Program} {f : FuncId} {args : Array Value} {S : World → Prop} {x : Wd S} {v : Value}
    (h : Calls P f args x.w fun e w' => e = .returned v ∧ S w') : Calls P f args x.w fun e w'' => e = .returned v ∧ ∃ m : Wd S, w'' = m.w :=
  h.mono fun _ w' ⟨he, hm⟩ => ⟨he, ⟨w', hm⟩, rfl⟩
theorem Calls.clsB {P : Program} {f : FuncId} {args : Array Value} {B : Nat} {w : World} {x : Wd (Below B w)} {v : Value}
    (h : Calls P f args x.w fun e w' => e = .returned v ∧ Below x.w.heap.size x.w w') (hB : B ≤ w.heap.size) : Calls P f args x.w fun e w'' => e = .returned v ∧ ∃ m : Wd (Below B w), w'' = m.w :=
  h.mono fun _ w' ⟨he, hm⟩ => ⟨he, ⟨w', x.h.trans (hm.mono (Nat.le_trans hB x.h.size))⟩, rfl⟩
end Go.Proofs.Ytjeebbolnanmkaa.N
