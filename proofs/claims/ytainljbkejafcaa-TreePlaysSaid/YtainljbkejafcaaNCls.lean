/- A region that draws its order and whose operations and calls leave a class of worlds: one walk of the text's order serves every order. -/
import Derived.Test.YtainljbkejafcaaNOps
import Derived.BigQuiet
namespace Go.Proofs.Ytainljbkejafcaa.N
open Go Go.RowKit
structure Wd (S : World → Prop) where
  w : World
  h : S w
theorem wp_region_cls {P : Program} {S : World → Prop} {id : Nat} {Q : Exit → Act → World → Prop} {a : Act} {w : World} {l : List Oper} (hm : P.follows .mixedOrders = true) (hB : Region.lexB .any l.toArray = true) (hS : S w.drew)
    (h : wpQuiet P l.toArray (fun w' => ∃ x : Wd S, w' = x.w) (fun a' => ∀ w', (∃ x : Wd S, w' = x.w) → Q .normal a' w') l a) : (Code.region id l.toArray true).wp P Q a w :=
  wp_region_quiet (C := fun w' => ∃ x : Wd S, w' = x.w) hm hB ⟨⟨w.drew, hS⟩, rfl⟩ (by simpa using h)
/-- A call's contract at a world of the class. -/
theorem Calls.cls {P : Program} {f : FuncId} {args : Array Value} {S : World → Prop} {x : Wd S} {v : Value}
    (h : Calls P f args x.w fun e w' => e = .returned v ∧ S w') : Calls P f args x.w fun e w'' => e = .returned v ∧ ∃ m : Wd S, w'' = m.w :=
  h.mono fun _ w' ⟨he, hm⟩ => ⟨he, ⟨w', hm⟩, rfl⟩
theorem Calls.clsB {P : Program} {f : FuncId} {args : Array Value} {B : Nat} {w : World} {x : Wd (Below B w)} {v : Value}
    (h : Calls P f args x.w fun e w' => e = .returned v ∧ Below x.w.heap.size x.w w') (hB : B ≤ w.heap.size) : Calls P f args x.w fun e w'' => e = .returned v ∧ ∃ m : Wd (Below B w), w'' = m.w :=
  h.mono fun _ w' ⟨he, hm⟩ => ⟨he, ⟨w', x.h.trans (hm.mono (Nat.le_trans hB x.h.size))⟩, rfl⟩
theorem cls_cell {w : World} {b o : Nat} {v : Value} (h : w.cell? ⟨b, o, none⟩ = some v) : ∀ x : Wd (Below w.heap.size w), x.w.cell? ⟨b, o, none⟩ = some v := fun x =>
  (x.h.cell (p := ⟨b, o, none⟩) (World.block_lt_of_cell? _ _ h)).trans h
theorem bel_cell {B : Nat} {w w' : World} {b o : Nat} {v : Value} (h : Below B w w') (hb : b < B) (hc : w.cell? ⟨b, o, none⟩ = some v) : w'.cell? ⟨b, o, none⟩ = some v := (h.cell (p := ⟨b, o, none⟩) hb).trans hc
theorem cls_ne (w : World) : Nonempty (Wd (Below w.heap.size w)) := ⟨⟨w, Below.refl _ _⟩⟩
section
variable {P : Program} {ops : Array Oper} {Q : Exit → Act → World → Prop} {md : Region.Mode} {S C : World → Prop} {Q' : Act → Prop}
/-- From a state at hand on: what is left is walked in a class of worlds. -/
theorem H_of_Q (hCS : ∀ w, C w → S w) (hQ : ∀ a w, C w → Q' a → Q .normal a w) : ∀ (fuel : Nat) (listed : Array Bool) (a : Act) (w : World), C w →
    wpAnyQ P md ops C Q' fuel listed a → wpAnyH P md ops Q S fuel listed a w
  | 0, _, _, _, hw, h => ⟨h.1, hQ _ _ hw h.2⟩
  | fuel + 1, _, _, _, hw, h => ⟨fun h0 => hQ _ _ hw (h.1 h0), fun i hi => wpOp_of_qOp hw (fun a' w' hw' hk => ⟨hCS _ hw', H_of_Q hCS hQ fuel _ a' w' hw' hk⟩) (h.2 i hi)⟩
end
/-- Behind the first k operations: the rest, in the text's order, in the worlds of a class. -/
theorem H_cls {P : Program} {Q : Exit → Act → World → Prop} {S T : World → Prop} {k fuel : Nat} {l : List Oper} {listed : Array Bool} {a : Act} {w : World} (hT : T w) (hTS : ∀ w, T w → S w)
    (hs : Region.noSelect l.toArray = true) (hB : Region.lexFrom .any l.toArray (l.drop k).length k listed = true) (hf : (l.drop k).length = fuel)
    (h : wpQuiet P l.toArray (fun w' => ∃ x : Wd T, w' = x.w) (fun a' => ∀ w', (∃ x : Wd T, w' = x.w) → Q .normal a' w') (l.drop k) a) : wpAnyH P .any l.toArray Q S fuel listed a w := by
  subst hf
  refine H_of_Q (C := fun w' => ∃ x : Wd T, w' = x.w) (Q' := fun a' => ∀ w', (∃ x : Wd T, w' = x.w) → Q .normal a' w') (fun w' ⟨x, hx⟩ => hTS _ (by rw [hx]; exact x.h)) (fun a' w' hw h => h w' hw) _ _ _ _ ⟨⟨w, hT⟩, rfl⟩ ?_
  exact wpAnyQ_lex hs (l.drop k) k listed a (fun j => by rw [List.getElem?_drop]; simp) hB h
end Go.Proofs.Ytainljbkejafcaa.N
