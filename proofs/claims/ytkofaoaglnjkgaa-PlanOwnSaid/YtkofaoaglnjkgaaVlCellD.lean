/- A cell as plain data. -/
import Derived.Test.YtkofaoaglnjkgaaSk
namespace Go.Proofs.Ytkofaoaglnjkgaa
open Go.RowKit Go.Deep
set_option linter.unusedVariables false
set_option linter.unusedSimpArgs false

structure CellD where
  kind : Int
  n : Int
  s : ByteArray
def CellR : Rd CellD := fun w cs c => cs = [.int .u8 c.kind, .int .i64 c.n, .string c.s] ∧ c.s.size ≤ maxLen ∧ (0 ≤ c.kind ∧ c.kind ≤ 255) ∧ (-9223372036854775808 ≤ c.n ∧ c.n ≤ 9223372036854775807)
theorem CellR.stable : Stable CellR := fun _ _ _ _ _ h => h
end Go.Proofs.Ytkofaoaglnjkgaa
