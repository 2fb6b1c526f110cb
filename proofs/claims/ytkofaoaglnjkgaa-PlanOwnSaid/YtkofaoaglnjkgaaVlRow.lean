/- The contract of catchmentlaw01.Row. -/
import Derived.Test.YtkofaoaglnjkgaaVlValue
import Derived.Test.YtkofaoaglnjkgaaKept
import Derived.Deep.AppendLies
import Derived.Maps.AppendAt
namespace Go.Proofs.Ytkofaoaglnjkgaa
open Go.RowKit Go.Deep
set_option linter.unusedVariables false
set_option linter.unusedSimpArgs false

def valsV (xs : List CellD) : List Value := xs.map fun c => (goodVal c).val
theorem valsV_len (xs : List CellD) : (valsV xs).length = xs.length := List.length_map _
theorem valsV_snoc (xs : List CellD) (k : Nat) (c : CellD) (h : xs[k]? = some c) : valsV (xs.take (k + 1)) = valsV (xs.take k) ++ [(goodVal c).val] := by
  unfold valsV; rw [List.take_add_one, h, List.map_append]; rfl
theorem infoVal : (Try.prog.info? 106).map (fun i => (i.zero, i.size, i.bytes)) = some (some .nilIface, 1, 16) := by kernel_rfl
theorem val_oneCell (v : ValD) : v.val.oneCell' = true := by cases v <;> rfl
def CellsOK (xs : List CellD) : Prop := ∀ c ∈ xs, 0 ≤ c.kind
end Go.Proofs.Ytkofaoaglnjkgaa
