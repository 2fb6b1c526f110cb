/- A region in whatever order whose operations keep all that stood: one walk in the order of the text. Cells of a block that the call itself holds. A block that the call itself holds, wherever it stands. The blocks that a call has made for itself, one behind the other. -/
import Derived.Test.YtkofaoaglnjkgaaSk
import Derived.BigRegion
import Derived.BigQuiet
import Derived.Deep.QuietTactic
namespace Go.Proofs.Ytkofaoaglnjkgaa
open Go.RowKit Go.Deep
set_option linter.unusedVariables false
set_option linter.unusedSimpArgs false

/-- A world in which all that stood in w0 stands as it did. -/
structure Kept (w0 : World) where
  W : World
  h : Below w0.heap.size w0 W
instance {w0 : World} : Nonempty (Kept w0) := ⟨⟨w0, Below.refl _ _⟩⟩
theorem own_below {w w' : World} {B e size n : Nat} {v : Value} {xs : List Value} (h : w.ownsRow B e size v n xs) (hb : Below w.heap.size w w') : w'.ownsRow B e size v n xs := by
  refine ⟨h.1, ?_⟩
  rcases h.2 with hn | ⟨g, cap, cur, rfl, hg, hgg, rest⟩
  · exact .inl hn
  · exact .inr ⟨g, cap, cur, rfl, hg, by rw [hb.block g (Array.getElem?_eq_some_iff.1 hgg).1]; exact hgg, rest⟩
/-- A call that returns v, and leaves all that stood. -/
def ValIs (v : Value) (w : World) (e : Ending) (w' : World) : Prop := e = .returned v ∧ Below w.heap.size w w'
/-- .. and does nothing but draw. -/
def ValQ (v : Value) (w : World) (e : Ending) (w' : World) : Prop := e = .returned v ∧ ∃ m, w' = w.drewN m
theorem ValQ.is {v : Value} {w : World} {e : Ending} {w' : World} (h : ValQ v w e w') : ValIs v w e w' := by
  obtain ⟨h1, m, rfl⟩ := h
  exact ⟨h1, rfl, rfl, rfl, Nat.le_refl _, fun _ _ => rfl⟩
section
variable {P : Program}
theorem wp_region_kept {id : Nat} {Q : Exit → Act → World → Prop} {a : Act} {w : World} {l : List Oper} (hm : P.follows .mixedOrders = true) (hB : Region.lexB .any l.toArray = true)
    (h : wpQuiet P l.toArray (fun W => ∃ g : Kept w, W = g.W) (fun a' => ∀ W, Below w.heap.size w W → Q .normal a' W) l a) : (Code.region id l.toArray true).wp P Q a w := by
  refine wp_region_quiet (C := fun W => ∃ g : Kept w, W = g.W) hm hB ⟨⟨w.drew, (Below.refl _ _).drew⟩, rfl⟩ ?_
  have hf : (fun a' => ∀ w', (∃ g : Kept w, w' = g.W) → Q .normal a' w') = (fun a' => ∀ W, Below w.heap.size w W → Q .normal a' W) := by
    funext a'
    apply propext
    constructor
    · intro h W hW; exact h W ⟨⟨W, hW⟩, rfl⟩
    · rintro h _ ⟨g, rfl⟩; exact h _ g.h
  rw [hf]
  simpa using h
theorem kept_cell {w0 : World} {a : Addr} {v : Value} (h : w0.cell? a = some v) (g : Kept w0) : g.W.cell? a = some v :=
  (g.h.cell (World.block_lt_of_cell? w0 a h)).trans h
theorem kept_call {f : FuncId} {args : Array Value} {w0 : World} {g : Kept w0} {v : Value} (h : Calls P f args g.W (ValIs v g.W)) :
    Calls P f args g.W fun e w'' => e = .returned v ∧ ∃ g' : Kept w0, w'' = g'.W :=
  h.mono fun e w' ⟨he, hb⟩ => ⟨he, ⟨w', g.h.trans (hb.mono g.h.size)⟩, rfl⟩
theorem kept_callQ {f : FuncId} {args : Array Value} {w0 : World} {g : Kept w0} {v : Value} (h : Calls P f args g.W (ValQ v g.W)) :
    Calls P f args g.W fun e w'' => e = .returned v ∧ ∃ g' : Kept w0, w'' = g'.W :=
  kept_call (h.mono fun e w' h => h.is)
end
end Go.Proofs.Ytkofaoaglnjkgaa

namespace Go.Proofs.Ytkofaoaglnjkgaa
open Go.RowKit Go.Deep
set_option linter.unusedVariables false
set_option linter.unusedSimpArgs false

/-- The block's first cells. -/
def CellsAt (w : World) (b : Nat) (vs : Array Value) : Prop := ∀ i v, vs[i]? = some v → w.cell? ⟨b, i, none⟩ = some v
def Soft (w : World) (b : Nat) : Prop := ∀ i, w.frozen? ⟨b, i, none⟩ = false
section
variable {w w' : World} {b : Nat} {vs : Array Value}
theorem CellsAt.at_ (h : CellsAt w b vs) (i : Nat) (v : Value) (hv : vs[i]? = some v) : w.cell? ⟨b, i, none⟩ = some v := h i v hv
theorem CellsAt.below {B : Nat} (h : CellsAt w b vs) (hb : Below B w w') (hlt : b < B) : CellsAt w' b vs := fun i v hv => (hb.cell (p := ⟨b, i, none⟩) hlt).trans (h i v hv)
theorem Soft.below {B : Nat} (h : Soft w b) (hb : Below B w w') (hlt : b < B) : Soft w' b := fun i => (hb.frozen (p := ⟨b, i, none⟩) hlt).trans (h i)
theorem CellsAt.drewN (h : CellsAt w b vs) (q : Nat) : CellsAt (w.drewN q) b vs := h
theorem Soft.drewN (h : Soft w b) (q : Nat) : Soft (w.drewN q) b := h
theorem CellsAt.set (h : CellsAt w b vs) {j : Nat} (hj : j < vs.size) (u : Value) : CellsAt (w.setCell ⟨b, j, none⟩ u) b (vs.setIfInBounds j u) := by
  intro i v hv
  by_cases hij : i = j
  · subst hij
    rw [Array.getElem?_setIfInBounds_self_of_lt hj] at hv
    cases hv
    exact World.cell?_setCell_same _ _ _ (h i _ (Array.getElem?_eq_getElem hj))
  · rw [Array.getElem?_setIfInBounds_ne (fun e => hij e.symm)] at hv
    rw [World.cell?_setCell_other _ _ _ _ (fun e => hij (congrArg Addr.off e).symm)]
    exact h i v hv
theorem CellsAt.setFar (h : CellsAt w b vs) {p : Addr} (hp : p.block ≠ b) (u : Value) : CellsAt (w.setCell p u) b vs := fun i v hv => by
  rw [World.cell?_setCell_other _ _ _ _ (fun e => hp (congrArg Addr.block e))]
  exact h i v hv
theorem Soft.set (h : Soft w b) (p : Addr) (u : Value) : Soft (w.setCell p u) b := fun i => by simpa using h i
theorem CellsAt.alloc_new (w : World) (cs : Array Value) (t : TypeId) : CellsAt (w.alloc (.cells cs t)) w.heap.size cs := fun i v h => by rw [World.cell?_alloc_new]; exact h
theorem Soft.alloc_new (w : World) (cs : Array Value) (t : TypeId) : Soft (w.alloc (.cells cs t)) w.heap.size := fun i => by simp
theorem CellsAt.alloc_at (w : World) (cs : Array Value) (t : TypeId) (b : Nat) (hb : b = w.heap.size) : CellsAt (w.alloc (.cells cs t)) b cs := by subst hb; exact CellsAt.alloc_new w cs t
theorem Soft.alloc_at (w : World) (cs : Array Value) (t : TypeId) (b : Nat) (hb : b = w.heap.size) : Soft (w.alloc (.cells cs t)) b := by subst hb; exact Soft.alloc_new w cs t
theorem CellsAt.alloc (h : CellsAt w b vs) (hb : b < w.heap.size) (o : Obj) : CellsAt (w.alloc o) b vs := h.below ((Below.refl w.heap.size w).alloc (Nat.le_refl _) o) hb
theorem Soft.alloc (h : Soft w b) (hb : b < w.heap.size) (o : Obj) : Soft (w.alloc o) b := h.below ((Below.refl w.heap.size w).alloc (Nat.le_refl _) o) hb
end
end Go.Proofs.Ytkofaoaglnjkgaa

namespace Go.Proofs.Ytkofaoaglnjkgaa
open Go.RowKit Go.Deep
set_option linter.unusedVariables false
set_option linter.unusedSimpArgs false

structure Box (w : World) (b : Nat) (cs : Array Value) : Prop where
  cells : CellsAt w b cs
  soft : Soft w b
  lt : b < w.heap.size
section
variable {w w' : World} {b : Nat} {cs : Array Value}
theorem Box.below {B : Nat} (h : Box w b cs) (hb : Below B w w') (hlt : b < B) : Box w' b cs := ⟨h.cells.below hb hlt, h.soft.below hb hlt, Nat.lt_of_lt_of_le h.lt hb.size⟩
theorem Box.call (h : Box w b cs) (hb : Below w.heap.size w w') : Box w' b cs := h.below hb h.lt
theorem Box.alloc (h : Box w b cs) (o : Obj) : Box (w.alloc o) b cs := h.call ((Below.refl _ _).alloc (Nat.le_refl _) _)
theorem Box.drewN (h : Box w b cs) (q : Nat) : Box (w.drewN q) b cs := ⟨h.cells, h.soft, h.lt⟩
theorem Box.set (h : Box w b cs) {j : Nat} (hj : j < cs.size) (u : Value) : Box (w.setCell ⟨b, j, none⟩ u) b (cs.setIfInBounds j u) := ⟨h.cells.set hj u, h.soft.set _ _, by simpa using h.lt⟩
theorem Box.setFar (h : Box w b cs) {p : Addr} (hp : p.block ≠ b) (u : Value) : Box (w.setCell p u) b cs := ⟨h.cells.setFar hp u, h.soft.set _ _, by simpa using h.lt⟩
theorem Box.new (w : World) (cs : Array Value) (t : TypeId) : Box (w.alloc (.cells cs t)) w.heap.size cs := ⟨CellsAt.alloc_new _ _ _, Soft.alloc_new _ _ _, by simp⟩
theorem Box.at_ (w : World) (cs : Array Value) (t : TypeId) (b : Nat) (hb : b = w.heap.size) : Box (w.alloc (.cells cs t)) b cs := by subst hb; exact Box.new _ _ _
theorem Box.drew (h : Box w b cs) : Box w.drew b cs := h.call (Below.refl _ _).drew
theorem below_step {W0 W w2 : World} (h : Below W0.heap.size W0 W) (hp : Below W.heap.size W w2) : Below W0.heap.size W0 w2 := h.trans (hp.mono h.size)
theorem Box.use {P : Prop} (h : Box w b cs) (k : Box w b cs → P) : P := k h
theorem Box.cell (h : Box w b cs) (j : Nat) {v : Value} (hj : cs[j]? = some v) : w.cell? ⟨b, j, none⟩ = some v := h.cells j v hj
end
end Go.Proofs.Ytkofaoaglnjkgaa

namespace Go.Proofs.Ytkofaoaglnjkgaa
open Go.RowKit Go.Deep
set_option linter.unusedVariables false
set_option linter.unusedSimpArgs false

/-- From block number 'base' on stand these blocks; below it all is as it was in w0. -/
structure Mem (base : Nat) (bs : List (Array Value)) (w0 w : World) : Prop where
  below : Below base w0 w
  cells : ∀ i cs, bs[i]? = some cs → CellsAt w (base + i) cs
  soft : ∀ i cs, bs[i]? = some cs → Soft w (base + i)
  room : base + bs.length ≤ w.heap.size
section
variable {base : Nat} {bs : List (Array Value)} {w0 w w' : World}
theorem Mem.cell (h : Mem base bs w0 w) (i j : Nat) {cs : Array Value} {v : Value} (hi : bs[i]? = some cs) (hj : cs[j]? = some v) : w.cell? ⟨base + i, j, none⟩ = some v := h.cells i cs hi j v hj
theorem Mem.lt (h : Mem base bs w0 w) (i : Nat) (hi : i < bs.length) : base + i < w.heap.size := by have := h.room; omega
theorem Mem.frozen (h : Mem base bs w0 w) (i : Nat) {cs : Array Value} (hi : bs[i]? = some cs) : ∀ j, w.frozen? ⟨base + i, j, none⟩ = false := h.soft i cs hi
theorem lt_of_get {α : Type} {l : List α} {i : Nat} {x : α} (h : l[i]? = some x) : i < l.length := (List.getElem?_eq_some_iff.1 h).1
theorem Mem.call (h : Mem base bs w0 w) (hb : Below w.heap.size w w') : Mem base bs w0 w' := by
  have hr := h.room
  exact ⟨h.below.trans (hb.mono (by omega)), fun i cs hi => (h.cells i cs hi).below hb (by have := lt_of_get hi; omega), fun i cs hi => (h.soft i cs hi).below hb (by have := lt_of_get hi; omega), Nat.le_trans h.room hb.size⟩
theorem Mem.set (h : Mem base bs w0 w) (i j : Nat) (u : Value) {cs : Array Value} (hi : bs[i]? = some cs) (hj : j < cs.size) : Mem base (bs.set i (cs.setIfInBounds j u)) w0 (w.setCell ⟨base + i, j, none⟩ u) := by
  refine ⟨h.below.setCell (Nat.le_add_right _ _) _, fun k ks hk => ?_, fun k ks hk => ?_, by simpa using h.room⟩
  · by_cases hik : i = k
    · subst hik
      rw [List.getElem?_set_self (lt_of_get hi)] at hk
      cases hk
      exact (h.cells i cs hi).set hj u
    · rw [List.getElem?_set_ne hik] at hk
      exact (h.cells k ks hk).setFar (show base + i ≠ base + k by omega) u
  · have hk' : ∃ ks', bs[k]? = some ks' := by
      have := lt_of_get hk
      rw [List.length_set] at this
      exact ⟨_, List.getElem?_eq_getElem this⟩
    obtain ⟨ks', hk'⟩ := hk'
    exact (h.soft k ks' hk').set _ _
theorem Mem.setFar (h : Mem base bs w0 w) {p : Addr} (hp : base + bs.length ≤ p.block) (u : Value) : Mem base bs w0 (w.setCell p u) :=
  ⟨h.below.setCell (by omega) _, fun k ks hk => (h.cells k ks hk).setFar (by have := lt_of_get hk; omega) u, fun k ks hk => (h.soft k ks hk).set _ _, by simpa using h.room⟩
theorem Mem.alloc (h : Mem base bs w0 w) (o : Obj) : Mem base bs w0 (w.alloc o) := h.call ((Below.refl _ _).alloc (Nat.le_refl _) _)
theorem Mem.drewN (h : Mem base bs w0 w) (q : Nat) : Mem base bs w0 (w.drewN q) := h.call ⟨rfl, rfl, rfl, Nat.le_refl _, fun _ _ => rfl⟩
theorem Mem.drew (h : Mem base bs w0 w) : Mem base bs w0 w.drew := h.call (Below.refl _ _).drew
theorem Mem.nil (w : World) : Mem w.heap.size [] w w := ⟨Below.refl _ _, (fun i cs h => by simp at h), (fun i cs h => by simp at h), Nat.le_refl _⟩
theorem Mem.push (h : Mem base bs w0 w) (hs : base + bs.length = w.heap.size) (cs : Array Value) (t : TypeId) : Mem base (bs ++ [cs]) w0 (w.alloc (.cells cs t)) := by
  have hlt : ∀ k ks, (bs ++ [cs])[k]? = some ks → (k < bs.length ∧ bs[k]? = some ks) ∨ (k = bs.length ∧ ks = cs) := by
    intro k ks hk
    rcases Nat.lt_or_ge k bs.length with h1 | h1
    · rw [List.getElem?_append_left h1] at hk; exact .inl ⟨h1, hk⟩
    · rw [List.getElem?_append_right h1] at hk
      have h2 : k = bs.length := by
        have := lt_of_get hk; simp at this; omega
      subst h2; simp at hk; exact .inr ⟨rfl, hk.symm⟩
  refine ⟨(h.alloc _).below, fun k ks hk => ?_, fun k ks hk => ?_, by simp; omega⟩
  · rcases hlt k ks hk with ⟨_, h1⟩ | ⟨rfl, rfl⟩
    · exact (h.alloc _).cells k ks h1
    · exact CellsAt.alloc_at _ _ _ _ hs
  · rcases hlt k ks hk with ⟨_, h1⟩ | ⟨rfl, rfl⟩
    · exact (h.alloc _).soft k ks h1
    · exact Soft.alloc_at _ ks _ _ hs
/-- What stood ahead of the call, read behind it. -/
theorem Mem.old (h : Mem base bs w0 w) {p : Addr} (hp : p.block < base) {v : Value} (hv : w0.cell? p = some v) : w.cell? p = some v := (h.below.cell hp).trans hv
theorem Mem.own {e size n : Nat} {v : Value} {xs : List Value} {B : Nat} (h : Mem w0.heap.size bs w0 w) (ho : w0.ownsRow B e size v n xs) : w.ownsRow B e size v n xs := own_below ho h.below
end
end Go.Proofs.Ytkofaoaglnjkgaa
