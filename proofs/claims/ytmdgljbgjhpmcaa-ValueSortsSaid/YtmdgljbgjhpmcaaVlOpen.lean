/- What a cell, handed in by whoever calls, reads as. -/
import Derived.Test.YtmdgljbgjhpmcaaBase
import Derived.Test.YtmdgljbgjhpmcaaRows
namespace Go.Proofs.Ytmdgljbgjhpmcaa
open Go.RowKit Go.Deep
set_option linter.unusedVariables false
set_option linter.unusedSimpArgs false

set_option maxRecDepth 100000 in
theorem opens_field {α H : Type} {enc : TypeId × Value → H} {P : Program} {t : TypeId} {size : Nat} {R : Rd α} (ho : Opens H enc P t size R) (hc : P.cellsOf t = size) {w : World} {base : Nat} {spare : Nat → Bool} {held : Bool} {n off : Nat} {cs cs' : List Value}
    (h : ∃ y, DataW.trod enc P w base spare held n t ((cs.drop off).take (P.cellsOf t)) = some y) (e : (cs.drop off).take size = cs') : ∃ x, R w cs' x := by
  obtain ⟨y, hy⟩ := h
  rw [hc, e] at hy
  exact (ho w base spare held n cs' y hy).2
theorem cells_kind : Try.prog.cellsOf 22 = 1 := by kernel_rfl
theorem cells_i64 : Try.prog.cellsOf 2 = 1 := by kernel_rfl
theorem cells_str : Try.prog.cellsOf 9 = 1 := by kernel_rfl
theorem cells_cell : Try.prog.cellsOf 24 = 3 := by kernel_rfl
section
variable {H : Type} {enc : TypeId × Value → H}
set_option maxRecDepth 100000 in
theorem opens_cell : Opens H enc Try.prog 24 3 CellR := by
  refine opens_struct Try.underlying24 cells_cell fun w base spare held n cs hl hf => ?_
  match cs, hl with
  | [v0, v1, v2], _ =>
    obtain ⟨x0, h0, w0⟩ := opens_field (opens_int Try.underlying22) cells_kind (cs' := [v0]) (hf 0 _ rfl) rfl
    obtain ⟨x1, h1, w1⟩ := opens_field (opens_int Try.underlying2) cells_i64 (cs' := [v1]) (hf 1 _ rfl) rfl
    obtain ⟨x2, h2, w2⟩ := opens_field (opens_str Try.underlying9) cells_str (cs' := [v2]) (hf 2 _ rfl) rfl
    cases h0; cases h1; cases h2
    exact ⟨⟨x0, x1, x2⟩, rfl, w2, bounds_u8 w0, bounds_i64 w1⟩
end
theorem laidOut : laidOutB Try.prog = true := by kernel_rfl
theorem own : ownKnob Try.prog.godebug = none := by kernel_rfl
set_option maxRecDepth 100000 in
theorem open_agg {P : Program} {t : TypeId} {fs : Array Field} (ht : P.underlying t = some (.struct fs)) {w : World} {r : Reach} {b : Nat} {v : Value} (h : Value.okWide P w r b t v) : ∃ cs : List Value, v = .agg cs.toArray ∧ v.cells.toList = cs := by
  unfold Value.okWide at h
  rw [ht] at h
  obtain ⟨cs, rfl, _⟩ := h
  exact ⟨cs.toList, by simp, by simp [Value.cells]⟩
set_option maxRecDepth 100000 in
theorem open_cell {H : Type} {enc : TypeId × Value → H} {w : World} {r : Reach} {b base : Nat} {spare : Nat → Bool} {held : Bool} {v : Value} {d : DataW H} {ps : List MemPlace} (h : Value.okWide Try.prog w r b 24 v) (ht : DataW.Trod enc Try.prog w base spare held 24 v d ps) :
    ∃ cs c, v = .agg (List.toArray cs) ∧ CellR w cs c := by
  obtain ⟨cs, hv, hcs⟩ := open_agg Try.underlying24 h
  obtain ⟨fuel, hf⟩ := ht
  rw [hcs] at hf
  obtain ⟨_, c, hr⟩ := opens_cell _ _ _ _ _ _ _ hf
  exact ⟨cs, c, hv, hr⟩
set_option maxRecDepth 100000 in
theorem slice_val {P : Program} {t e : TypeId} (hu : P.underlying t = some (.slice e)) {w : World} {r : Reach} {b : Nat} {v : Value} (h : Value.okWide P w r b t v) {a : Option Addr} {n c : Nat} (hc : v.cells.toList = [.slice a n c]) : v = .slice a n c := by
  unfold Value.okWide at h
  rw [hu] at h
  cases v
  case agg cs => simp [Cell.okWide, Cell.ok, hu] at h
  all_goals (simp [Value.cells] at hc)
  case slice => exact hc.1 ▸ by simp [hc]
set_option maxRecDepth 100000 in
theorem open_cells {H : Type} {enc : TypeId × Value → H} {w : World} {r : Reach} {b base : Nat} {spare : Nat → Bool} {held : Bool} {v : Value} {d : DataW H} {ps : List MemPlace} (h : Value.okWide Try.prog w r b 51 v) (ht : DataW.Trod enc Try.prog w base spare held 51 v d ps) :
    ∃ a n c xs, v = .slice a n c ∧ Sl 3 CellR w a n xs := by
  obtain ⟨fuel, hf⟩ := ht
  obtain ⟨_, xs, a, n, c, hcs, _, _, _, hs⟩ := opens_slice Try.underlying51 cells_cell (by decide) opens_cell _ _ _ _ _ _ _ hf
  exact ⟨a, n, c, xs, slice_val Try.underlying51 h hcs, hs⟩
end Go.Proofs.Ytmdgljbgjhpmcaa
