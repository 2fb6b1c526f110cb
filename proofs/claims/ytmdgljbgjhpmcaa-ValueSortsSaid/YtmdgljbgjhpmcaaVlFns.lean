/- The functions of chapter 1 by classes of a cell. -/
import Derived.Test.YtmdgljbgjhpmcaaVlAlive
import Derived.Test.YtmdgljbgjhpmcaaVlOpen
import Derived.Test.YtmdgljbgjhpmcaaVlBase
namespace Go.Proofs.Ytmdgljbgjhpmcaa
open Go.RowKit Go.Deep
set_option linter.unusedVariables false
set_option linter.unusedSimpArgs false

set_option maxRecDepth 100000 in
set_option maxHeartbeats 2000000 in
theorem lawCell (v : ValD) (w : World) : Calls Try.prog 12 #[v.val] w (ValIs (.agg v.cell.cells) w) := by
  obtain ⟨i1, i2, i3, i4⟩ := assertsI64
  obtain ⟨b1, b2, b3, b4⟩ := assertsBool
  obtain ⟨s1, s2, s3, s4⟩ := assertsStr
  cases v with
  | nil =>
    simp only [ValD.val, ValD.cell, CellD.cells]
    go_enter Try.func12, Try.ntmps12
    go_wp2
    go_returns
    exact ⟨rfl, by repeat (first | exact Below.refl _ _ | refine Below.alloc ?_ (by simp <;> omega) _)⟩
  | whole n =>
    simp only [ValD.val, ValD.cell, CellD.cells]
    go_enter Try.func12, Try.ntmps12
    go_wp2
    go_returns
    exact ⟨rfl, by repeat (first | exact Below.refl _ _ | refine Below.alloc ?_ (by simp <;> omega) _)⟩
  | truth b =>
    cases b
    all_goals
      simp only [ValD.val, ValD.cell, CellD.cells]
      go_enter Try.func12, Try.ntmps12
      go_wp2
      go_returns
      exact ⟨rfl, by repeat (first | exact Below.refl _ _ | refine Below.alloc ?_ (by simp <;> omega) _)⟩
  | text s =>
    simp only [ValD.val, ValD.cell, CellD.cells]
    go_enter Try.func12, Try.ntmps12
    go_wp2
    go_returns
    exact ⟨rfl, by repeat (first | exact Below.refl _ _ | refine Below.alloc ?_ (by simp <;> omega) _)⟩
end Go.Proofs.Ytmdgljbgjhpmcaa
