/- A value that stands in a row; its kind. -/
import Derived.Test.YtkofaoaglnjkgaaVlKit
import Derived.Test.YtkofaoaglnjkgaaVlCellD
import Derived.Test.YtkofaoaglnjkgaaKept
namespace Go.Proofs.Ytkofaoaglnjkgaa
open Go.RowKit Go.Deep
set_option linter.unusedVariables false
set_option linter.unusedSimpArgs false

/-- A value that stands in a row. -/
inductive ValD where
  | nil
  | whole (n : Int)
  | truth (b : Bool)
  | text (s : ByteArray)
def ValD.val : ValD → Value
  | .nil => .nilIface
  | .whole n => .iface 2 (.int .i64 n)
  | .truth b => .iface 4 (.bool b)
  | .text s => .iface 9 (.string s)
def ValD.cell : ValD → CellD
  | .nil => ⟨0, 0, ByteArray.empty⟩
  | .whole n => ⟨1, n, ByteArray.empty⟩
  | .truth b => ⟨2, if b then 1 else 0, ByteArray.empty⟩
  | .text s => ⟨3, 0, s⟩
def CellD.cells (c : CellD) : Array Value := #[.int .u8 c.kind, .int .i64 c.n, .string c.s]
set_option maxRecDepth 100000 in
set_option maxHeartbeats 1000000 in
theorem kindOf (v : ValD) (w : World) : Calls Try.prog 66 #[v.val] w (ValIs (.int .u8 v.cell.kind) w) := by
  obtain ⟨i1, i2, i3, i4⟩ := assertsI64
  obtain ⟨b1, b2, b3, b4⟩ := assertsBool
  obtain ⟨s1, s2, s3, s4⟩ := assertsStr
  cases v
  all_goals
    simp only [ValD.val, ValD.cell]
    go_enter Try.func66, Try.ntmps66
    go_wp2
    go_ret
    exact ⟨rfl, Below.refl _ _⟩
end Go.Proofs.Ytkofaoaglnjkgaa
