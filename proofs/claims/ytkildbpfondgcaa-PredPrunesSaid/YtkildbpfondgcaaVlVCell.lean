/- The contract of value.Cell. -/
import Derived.Test.YtkildbpfondgcaaVlVal
import Derived.Handy
namespace Go.Proofs.Ytkildbpfondgcaa
open Go.RowKit Go.Deep
set_option linter.unusedVariables false

set_option maxRecDepth 100000 in
set_option maxHeartbeats 2000000 in
theorem valueCell (v : ValD) (w : World) : Calls Try.prog 26 #[v.val] w (ValIs (.tuple #[.agg v.cell.cells, .bool true]) w) := by
  obtain ⟨i1, i2, i3, i4⟩ := assertsI64
  obtain ⟨b1, b2, b3, b4⟩ := assertsBool
  obtain ⟨s1, s2, s3, s4⟩ := assertsStr
  rcases v with _ | n | b | s
  · simp only [ValD.val, ValD.cell, CellD.cells]
    go_enter Try.func26, Try.ntmps26
    go_wp2
    go_returns
    exact ⟨rfl, by repeat (first | exact Below.refl _ _ | refine Below.alloc ?_ (by simp <;> omega) _)⟩
  · simp only [ValD.val, ValD.cell, CellD.cells]
    go_enter Try.func26, Try.ntmps26
    go_wp2
    go_returns
    exact ⟨rfl, by repeat (first | exact Below.refl _ _ | refine Below.alloc ?_ (by simp <;> omega) _)⟩
  · cases b
    all_goals
      simp only [ValD.val, ValD.cell, CellD.cells]
      go_enter Try.func26, Try.ntmps26
      go_wp2
      go_returns
      exact ⟨rfl, by repeat (first | exact Below.refl _ _ | refine Below.setCell ?_ (by simp <;> omega) _ | refine Below.alloc ?_ (by simp <;> omega) _)⟩
  · simp only [ValD.val, ValD.cell, CellD.cells]
    go_enter Try.func26, Try.ntmps26
    go_wp2
    go_returns
    exact ⟨rfl, by repeat (first | exact Below.refl _ _ | refine Below.alloc ?_ (by simp <;> omega) _)⟩
end Go.Proofs.Ytkildbpfondgcaa
