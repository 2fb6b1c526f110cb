/- Rows of rows that a call grows for itself. -/
import Derived.Test.YtkildbpfondgcaaCellRow
import Derived.Test.YtkildbpfondgcaaPrData
namespace Go.Proofs.Ytkildbpfondgcaa
open Go.RowKit Go.Deep
set_option linter.unusedVariables false

section
variable {α : Type} {size : Nat} {R : Rd α} {w w' : World} {a : Option Addr} {n : Nat} {xs : List α}
theorem Sl.grown {row : Option Nat} (h : Sl size R w a n xs) (hR : ∀ w w' cs x, R w cs x → R w' cs x) (hg : w.grownBy w' row) (hne : ∀ b off, a = some ⟨b, off, none⟩ → some b ≠ row) : Sl size R w' a n xs := by
  refine ⟨h.1, fun hn => ?_⟩
  obtain ⟨b, off, ha, hlt, hc⟩ := h.2 hn
  refine ⟨b, off, ha, Nat.lt_of_lt_of_le hlt hg.size, fun i x hx => ?_⟩
  obtain ⟨cs, hl, hr, hcell⟩ := hc i x hx
  exact ⟨cs, hl, hR _ _ _ _ hr, fun j v hj => (World.grownBy.cell_far hg ⟨b, off + i * size + j, none⟩ hlt (hne b off ha)).trans (hcell j v hj)⟩
end
/-- A row, as it lies in a row of rows. -/
def FRow : Rd (List CellD) := fun w cs xs => ∃ a n c, cs = [.slice a n c] ∧ Sl 3 CellR w a n xs
theorem FRow.stable : Stable FRow := by
  rintro w w' cs x hb ⟨a, n, c, rfl, h⟩
  exact ⟨a, n, c, rfl, h.below CellR.stable hb⟩
/-- Rows that a call has put into a row of its own; none of them lies in that row's own block. -/
def RowsOwn (w : World) (B : Nat) (e : TypeId) (v : Value) (m : Nat) (ls : List (List CellD)) : Prop :=
  ls.length = m ∧ ∃ vs : List Value, w.ownsRow B e 1 v m vs ∧ ∀ (i : Nat) (x : List CellD), ls[i]? = some x → ∃ a n c, vs[i]? = some (Value.slice a n c) ∧ Sl 3 CellR w a n x ∧ ∀ b off, a = some ⟨b, off, none⟩ → b < w.heap.size ∧ some b ≠ v.ownBlock
section
variable {w w' : World} {B m : Nat} {e : TypeId} {v : Value} {ls : List (List CellD)}
theorem RowsOwn.nil (w : World) (B : Nat) (e : TypeId) : RowsOwn w B e (.slice none 0 0) 0 [] := ⟨rfl, [], World.ownsRow_nil _ _ _ _, fun i x h => by simp at h⟩
theorem RowsOwn.call (h : RowsOwn w B e v m ls) (hb : Below w.heap.size w w') : RowsOwn w' B e v m ls := by
  obtain ⟨hl, vs, ho, hr⟩ := h
  refine ⟨hl, vs, own_below ho hb, fun i x hx => ?_⟩
  obtain ⟨a, n, c, h1, h2, h3⟩ := hr i x hx
  exact ⟨a, n, c, h1, h2.below CellR.stable hb, fun b off ha => ⟨Nat.lt_of_lt_of_le (h3 b off ha).1 hb.size, (h3 b off ha).2⟩⟩
theorem RowsOwn.alloc (h : RowsOwn w B e v m ls) (o : Obj) : RowsOwn (w.alloc o) B e v m ls := h.call ((Below.refl _ _).alloc (Nat.le_refl _) _)
theorem RowsOwn.snoc {g cap : Nat} {vs : List Value} {a : Option Addr} {n c : Nat} {x : List CellD} (h : RowsOwn w B e v m ls) (hvs : w.ownsRow B e 1 v m vs) (hown : w'.ownsRow B e 1 (.slice (some ⟨g, 0, none⟩) (m + 1) cap) (m + 1) (vs ++ [.slice a n c])) (hg : w.grownBy w' v.ownBlock) (hat : v.ownBlock = some g ∨ g = w.heap.size) (hx : Sl 3 CellR w a n x) (hxa : ∀ b off, a = some ⟨b, off, none⟩ → b < w.heap.size ∧ some b ≠ v.ownBlock) : RowsOwn w' B e (.slice (some ⟨g, 0, none⟩) (m + 1) cap) (m + 1) (ls ++ [x]) := by
  obtain ⟨hl, vs2, ho, hr⟩ := h
  obtain rfl : vs2 = vs := by
    rcases ho.2 with ⟨e1, e2⟩ | ⟨g1, cap1, cur1, e1, _, hg1, _, _, _, ht1⟩
    · subst e2
      have h1 := List.length_eq_zero_iff.1 (show vs2.length = 0 by rw [ho.1, Nat.zero_mul])
      have h2 := List.length_eq_zero_iff.1 (show vs.length = 0 by rw [hvs.1, Nat.zero_mul])
      rw [h1, h2]
    · rcases hvs.2 with ⟨e3, e4⟩ | ⟨g2, cap2, cur2, e3, _, hg2, _, _, _, ht2⟩
      · rw [e1] at e3; cases e3
      · rw [e1] at e3; cases e3
        rw [hg1] at hg2; cases hg2
        rw [← ht1, ← ht2]
  have hlv : vs2.length = m := by rw [ho.1, Nat.mul_one]
  have hne : ∀ b, (b < w.heap.size ∧ some b ≠ v.ownBlock) → b < w'.heap.size ∧ some b ≠ (Value.slice (some ⟨g, 0, none⟩) (m + 1) cap).ownBlock := fun b ⟨h1, h2⟩ => by
    refine ⟨Nat.lt_of_lt_of_le h1 hg.size, fun h => ?_⟩
    have : b = g := by simpa [Value.ownBlock] using h
    subst this
    rcases hat with h3 | h3
    · exact h2 h3.symm
    · omega
  refine ⟨by simp [hl], _, hown, fun i y hy => ?_⟩
  rcases Nat.lt_or_ge i m with h1 | h1
  · rw [List.getElem?_append_left (by omega)] at hy
    obtain ⟨a', n', c', h2, h3, h4⟩ := hr i y hy
    exact ⟨a', n', c', by rw [List.getElem?_append_left (by omega)]; exact h2, h3.grown (fun _ _ _ _ h => h) hg (fun b off ha => (h4 b off ha).2), fun b off ha => hne b (h4 b off ha)⟩
  · have hi : i = m := by
      have := (List.getElem?_eq_some_iff.1 hy).1
      simp [hl] at this; omega
    subst hi
    rw [List.getElem?_append_right (by omega), hl, Nat.sub_self] at hy
    simp at hy; subst hy
    exact ⟨a, n, c, by rw [List.getElem?_append_right (by omega), hlv]; simp, hx.grown (fun _ _ _ _ h => h) hg (fun b off ha => (hxa b off ha).2), fun b off ha => hne b (hxa b off ha)⟩
theorem RowsOwn.sl {ad : Option Addr} {c : Nat} (h : RowsOwn w B e (.slice ad m c) m ls) : Sl 1 FRow w ad m ls := by
  obtain ⟨hl, vs, ho, hr⟩ := h
  refine ⟨hl, fun hn => ?_⟩
  rcases ho.2 with ⟨_, h0⟩ | ⟨g, cap, cur, hv, hb, hg, _⟩
  · omega
  · simp only [Value.slice.injEq] at hv
    obtain ⟨rfl, _, rfl⟩ := hv
    refine ⟨g, 0, rfl, ?_, fun i x hi => ?_⟩
    · rcases Nat.lt_or_ge g w.heap.size with hlt | hge
      · exact hlt
      · rw [Array.getElem?_eq_none hge] at hg; cases hg
    · obtain ⟨a, n, c', h1, h2, _⟩ := hr i x hi
      refine ⟨[.slice a n c'], rfl, ⟨a, n, c', rfl, h2⟩, fun j u hj => ?_⟩
      have hj0 : j = 0 := by have := (List.getElem?_eq_some_iff.1 hj).1; simp at this; omega
      subst hj0
      simp at hj; subst hj
      have hil : i < m := by have := (List.getElem?_eq_some_iff.1 hi).1; omega
      have := ho.cellAt i (by omega)
      rw [h1] at this
      simpa using this
theorem RowsOwn.shape (h : RowsOwn w B e v m ls) : ∃ a c, v = .slice a m c := by
  obtain ⟨_, vs, ho, _⟩ := h
  obtain ⟨a, c, rfl, _⟩ := own_slice ho
  exact ⟨a, c, rfl⟩
/-- A row that a call has grown lies apart from all blocks that stood ahead of it. -/
theorem own_apart {w1 : World} {e' : TypeId} {size n c : Nat} {ad : Option Addr} {ys : List Value} (h : RowsOwn w B e v m ls) (hy : w1.ownsRow w.heap.size e' size (.slice ad n c) n ys) : ∀ b off, ad = some ⟨b, off, none⟩ → b < w1.heap.size ∧ some b ≠ v.ownBlock := by
  rintro b off rfl
  obtain ⟨_, vs, ho, _⟩ := h
  rcases hy.2 with ⟨h1, _⟩ | ⟨g, cap, cur, hv, hb, hg, _⟩
  · cases h1
  · simp only [Value.slice.injEq, Option.some.injEq] at hv
    obtain ⟨hv, _, _⟩ := hv
    cases hv
    refine ⟨(Array.getElem?_eq_some_iff.1 hg).1, fun h => ?_⟩
    have := (ho.lt b h.symm).2
    omega
end
end Go.Proofs.Ytkildbpfondgcaa
