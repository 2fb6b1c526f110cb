/- The functions of chapter 1 by classes of a cell. -/
import Derived.Test.YtmdgljbgjhpmcaaVlAlive
import Derived.Test.YtmdgljbgjhpmcaaVlOpen
import Derived.Test.YtmdgljbgjhpmcaaKept
namespace Go.Proofs.Ytmdgljbgjhpmcaa
open Go.RowKit Go.Deep
set_option linter.unusedVariables false

/-- A value that stands in a row. -/
inductive ValD where
  | nil
  | whole (n : Int)
  | truth (b : Bool)
  | text (s : ByteArray)
def ValD.val : ValD → Value
  | .nil => .nilIface
  | .whole n => .iface 2 (.int .i64 n)
  | .truth b => .iface 4 (.bool b)
  | .text s => .iface 9 (.string s)
def ValD.cell : ValD → CellD
  | .nil => ⟨0, 0, ByteArray.empty⟩
  | .whole n => ⟨1, n, ByteArray.empty⟩
  | .truth b => ⟨2, if b then 1 else 0, ByteArray.empty⟩
  | .text s => ⟨3, 0, s⟩
def CellD.cells (c : CellD) : Array Value := #[.int .u8 c.kind, .int .i64 c.n, .string c.s]
set_option maxRecDepth 100000 in
set_option maxHeartbeats 1000000 in
theorem kindOf (v : ValD) (w : World) : Calls Try.prog 15 #[v.val] w (ValIs (.int .u8 v.cell.kind) w) := by
  obtain ⟨i1, i2, i3, i4⟩ := assertsI64
  obtain ⟨b1, b2, b3, b4⟩ := assertsBool
  obtain ⟨s1, s2, s3, s4⟩ := assertsStr
  cases v
  all_goals
    simp only [ValD.val, ValD.cell]
    go_enter Try.func15, Try.ntmps15
    go_wp2
    go_ret
    exact ⟨rfl, Below.refl _ _⟩
set_option maxRecDepth 100000 in
set_option maxHeartbeats 2000000 in
theorem lawCell (v : ValD) (w : World) : Calls Try.prog 12 #[v.val] w (ValIs (.agg v.cell.cells) w) := by
  obtain ⟨i1, i2, i3, i4⟩ := assertsI64
  obtain ⟨b1, b2, b3, b4⟩ := assertsBool
  obtain ⟨s1, s2, s3, s4⟩ := assertsStr
  cases v with
  | nil =>
    simp only [ValD.val, ValD.cell, CellD.cells]
    go_enter Try.func12, Try.ntmps12
    go_wp2
    go_returns
    exact ⟨rfl, by repeat (first | exact Below.refl _ _ | refine Below.alloc ?_ (by simp <;> omega) _)⟩
  | whole n =>
    simp only [ValD.val, ValD.cell, CellD.cells]
    go_enter Try.func12, Try.ntmps12
    go_wp2
    go_returns
    exact ⟨rfl, by repeat (first | exact Below.refl _ _ | refine Below.alloc ?_ (by simp <;> omega) _)⟩
  | truth b =>
    cases b
    all_goals
      simp only [ValD.val, ValD.cell, CellD.cells]
      go_enter Try.func12, Try.ntmps12
      go_wp2
      go_returns
      exact ⟨rfl, by repeat (first | exact Below.refl _ _ | refine Below.alloc ?_ (by simp <;> omega) _)⟩
  | text s =>
    simp only [ValD.val, ValD.cell, CellD.cells]
    go_enter Try.func12, Try.ntmps12
    go_wp2
    go_returns
    exact ⟨rfl, by repeat (first | exact Below.refl _ _ | refine Below.alloc ?_ (by simp <;> omega) _)⟩
end Go.Proofs.Ytmdgljbgjhpmcaa
