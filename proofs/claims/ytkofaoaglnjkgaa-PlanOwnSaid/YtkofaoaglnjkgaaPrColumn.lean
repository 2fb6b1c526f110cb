/- The contract of catchmentlaw09.column. -/
import Derived.Test.YtkofaoaglnjkgaaCellRowm
import Derived.Test.YtkofaoaglnjkgaaVlCmpm
import Derived.Test.YtkofaoaglnjkgaaPrEx
import Derived.Test.YtkofaoaglnjkgaaPrStats
import Derived.Handy
namespace Go.Proofs.Ytkofaoaglnjkgaa
open Go.RowKit Go.Deep
set_option linter.unusedVariables false
set_option linter.unusedSimpArgs false

def colC (k : Int) (c : CellD) : CellD := if (fix c).kind = k then fix c else zeroCell
def colF (k : Int) (l : List CellD) : List CellD := (l.take 300).map (colC k)
theorem sl_all {α : Type} {size : Nat} {R : Rd α} {w : World} {a : Option Addr} {n : Nat} {xs : List α} (h : Sl size R w a n xs) : ∀ x ∈ xs, ∃ cs, R w cs x := by
  intro x hx
  obtain ⟨i, hi, rfl⟩ := List.getElem_of_mem hx
  have hn : i < n := by have := h.1; omega
  obtain ⟨b, off, _, _, hc⟩ := h.2 (by omega)
  obtain ⟨cs, _, hr, _⟩ := hc i _ (List.getElem?_eq_getElem hi)
  exact ⟨cs, hr⟩
theorem fix_zero : fix zeroCell = zeroCell := by kernel_rfl
theorem fix_good (c : CellD) (h0 : 0 ≤ c.kind) : 0 ≤ (fix c).kind ∧ (fix c).kind ≤ 3 ∧ ((fix c).kind = 3 → (fix c).n = 0) := by
  have h1 := fix_kind c h0
  refine ⟨h1.1, h1.2, fun h3 => ?_⟩
  unfold fix at h3 ⊢
  by_cases hc : chk c = 0
  · rw [if_pos hc] at h3 ⊢
    unfold chk at hc
    rw [if_neg (by omega)] at hc
    by_cases hb : (c.kind ≠ 3 ∧ c.s.size ≠ 0) ∨ (c.kind ≠ 1 ∧ c.kind ≠ 2 ∧ c.n ≠ 0) ∨ (c.kind = 2 ∧ c.n ≠ 0 ∧ c.n ≠ 1)
    · rw [if_pos hb] at hc; omega
    · omega
  · rw [if_neg hc] at h3; exact absurd h3 (by decide)
/-- Cells that are good as they are. -/
def GoodCol (l : List CellD) : Prop := ∀ c ∈ l, fix c = c ∧ 0 ≤ c.kind ∧ CellOK c
theorem colC_good (q : Int) (c : CellD) (h : CellOK c) : fix (colC q c) = colC q c ∧ 0 ≤ (colC q c).kind ∧ CellOK (colC q c) := by
  have hz : CellOK zeroCell := ⟨by decide, by decide, by decide⟩
  unfold colC
  split
  · refine ⟨fix_fix c, (fix_kind c h.2.1.1).1, ?_⟩
    unfold fix; split
    · exact h
    · exact hz
  · exact ⟨fix_zero, by decide, hz⟩
theorem colF_good {q : Int} {xs : List CellD} (h : ∀ x ∈ xs, CellOK x) : GoodCol (colF q xs) := by
  intro c hc
  obtain ⟨x, hx, rfl⟩ := List.mem_map.1 hc
  exact colC_good q x (h x (List.mem_of_mem_take hx))
theorem GoodCol.col {l : List CellD} (h : GoodCol l) : ColOK l := fun c hc => by
  have h1 := fix_good c (h c hc).2.1
  rw [(h c hc).1] at h1
  exact h1
theorem GoodCol.size {l : List CellD} (h : GoodCol l) : ∀ c ∈ l, c.s.size ≤ 64 := fun c hc => by
  have := fix_size c
  rw [(h c hc).1] at this; exact this
theorem GoodCol.cells {l : List CellD} (h : GoodCol l) : (l.map goodVal).map ValD.cell = l := by
  rw [List.map_map]
  calc l.map (ValD.cell ∘ goodVal) = l.map id := List.map_congr_left fun c hc => by
        show (goodVal c).cell = c
        rw [good_cell c (h c hc).2.1, (h c hc).1]
    _ = l := List.map_id l
theorem valsV_flat (l : List CellD) : valsV l = (l.map goodVal).flatMap fun d => [d.val] := by
  unfold valsV
  induction l with
  | nil => rfl
  | cons x l ih => simp only [List.map_cons, List.flatMap_cons, ih]; rfl
theorem GoodCol.reads {l : List CellD} (h : GoodCol l) (w : World) : ∀ c ∈ l, CellR w (cellV c) c := fun c hc => ⟨rfl, (h c hc).2.2⟩
theorem row_sl {w : World} {B n : Nat} {v : Value} {l : List CellD} (h : w.ownsRow B 106 1 v n (valsV l)) : ∃ a c, v = .slice a n c ∧ Sl 1 ValR w a n (l.map goodVal) := by
  obtain ⟨a, c, rfl, _⟩ := own_slice h
  rw [valsV_flat] at h
  exact ⟨a, c, rfl, own_sl (by decide) (fun _ => rfl) (fun _ _ => rfl) h⟩
def TruePost (w : World) (e : Ending) (w' : World) : Prop := e = .returned (.bool true) ∧ Below w.heap.size w w'
end Go.Proofs.Ytkofaoaglnjkgaa
