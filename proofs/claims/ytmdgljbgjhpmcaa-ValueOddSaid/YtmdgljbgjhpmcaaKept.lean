/- A region in whatever order whose operations keep all that stood: one walk in the order of the text. -/
import Derived.Test.YtmdgljbgjhpmcaaSk
import Derived.BigRegion
import Derived.BigQuiet
import Derived.Deep.QuietTactic
namespace Go.Proofs.Ytmdgljbgjhpmcaa
open Go.RowKit Go.Deep
set_option linter.unusedVariables false

/-- A world in which all that stood in w0 stands as it did. -/
structure Kept (w0 : World) where
  W : World
  h : Below w0.heap.size w0 W
instance {w0 : World} : Nonempty (Kept w0) := ⟨⟨w0, Below.refl _ _⟩⟩
theorem own_below {w w' : World} {B e size n : Nat} {v : Value} {xs : List Value} (h : w.ownsRow B e size v n xs) (hb : Below w.heap.size w w') : w'.ownsRow B e size v n xs := by
  refine ⟨h.1, ?_⟩
  rcases h.2 with hn | ⟨g, cap, cur, rfl, hg, hgg, rest⟩
  · exact .inl hn
  · exact .inr ⟨g, cap, cur, rfl, hg, by rw [hb.block g (Array.getElem?_eq_some_iff.1 hgg).1]; exact hgg, rest⟩
/-- A call that returns v, and leaves all that stood. -/
def ValIs (v : Value) (w : World) (e : Ending) (w' : World) : Prop := e = .returned v ∧ Below w.heap.size w w'
/-- .. and does nothing but draw. -/
def ValQ (v : Value) (w : World) (e : Ending) (w' : World) : Prop := e = .returned v ∧ ∃ m, w' = w.drewN m
theorem ValQ.is {v : Value} {w : World} {e : Ending} {w' : World} (h : ValQ v w e w') : ValIs v w e w' := by
  obtain ⟨h1, m, rfl⟩ := h
  exact ⟨h1, rfl, rfl, rfl, Nat.le_refl _, fun _ _ => rfl⟩
section
variable {P : Program}
theorem wp_region_kept {id : Nat} {Q : Exit → Act → World → Prop} {a : Act} {w : World} {l : List Oper} (hm : P.follows .mixedOrders = true) (hB : Region.lexB .any l.toArray = true)
    (h : wpQuiet P l.toArray (fun W => ∃ g : Kept w, W = g.W) (fun a' => ∀ W, Below w.heap.size w W → Q .normal a' W) l a) : (Code.region id l.toArray true).wp P Q a w := by
  refine wp_region_quiet (C := fun W => ∃ g : Kept w, W = g.W) hm hB ⟨⟨w.drew, (Below.refl _ _).drew⟩, rfl⟩ ?_
  have hf : (fun a' => ∀ w', (∃ g : Kept w, w' = g.W) → Q .normal a' w') = (fun a' => ∀ W, Below w.heap.size w W → Q .normal a' W) := by
    funext a'
    apply propext
    constructor
    · intro h W hW; exact h W ⟨⟨W, hW⟩, rfl⟩
    · rintro h _ ⟨g, rfl⟩; exact h _ g.h
  rw [hf]
  simpa using h
theorem kept_cell {w0 : World} {a : Addr} {v : Value} (h : w0.cell? a = some v) (g : Kept w0) : g.W.cell? a = some v :=
  (g.h.cell (World.block_lt_of_cell? w0 a h)).trans h
theorem kept_call {f : FuncId} {args : Array Value} {w0 : World} {g : Kept w0} {v : Value} (h : Calls P f args g.W (ValIs v g.W)) :
    Calls P f args g.W fun e w'' => e = .returned v ∧ ∃ g' : Kept w0, w'' = g'.W :=
  h.mono fun e w' ⟨he, hb⟩ => ⟨he, ⟨w', g.h.trans (hb.mono g.h.size)⟩, rfl⟩
theorem kept_callQ {f : FuncId} {args : Array Value} {w0 : World} {g : Kept w0} {v : Value} (h : Calls P f args g.W (ValQ v g.W)) :
    Calls P f args g.W fun e w'' => e = .returned v ∧ ∃ g' : Kept w0, w'' = g'.W :=
  kept_call (h.mono fun e w' h => h.is)
end
end Go.Proofs.Ytmdgljbgjhpmcaa
