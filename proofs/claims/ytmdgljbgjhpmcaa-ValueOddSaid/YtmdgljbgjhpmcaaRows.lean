/-
  No cell of these rows narrows 'for every input' (looked for: loops, veiled, ifaces, maps, wideKeys, modest, calm, conditions, laid).
  DERIVED. THE GIVEN ROWS OF THIS SEAT. 6 by the template 'for every input the law returns true; each argument reads behind the call as it read before'; 0 by the template 'total and deterministic' (their statements: YtmdgljbgjhpmcaaTotals.lean).
  GIVEN WITH THE SEED: the statements are not yours to turn. If you find one false, say at which input.
  Laid BY PROGRAM, IN A SANDBOX (cutbox-rows.mjs): the forced cells as the released guide's own fill.sh prints them over the translation d91cc40c867090a7… (all of the seat's roots in one cut). By AI agents, Wed Nov 11 2026. No macro, syntax, notation, axiom, sorry.
-/
import Derived.Test.YtmdgljbgjhpmcaaChecked
import GoSem.Claim
import GoSem.ClaimJoined
import GoSem.ClaimMapViews
import Derived.JoinedTies
import Derived.KernelRfl
namespace Go.Proofs.Ytmdgljbgjhpmcaa
/- THE CELL 'sum', in the pinned program and in every row, IS THE sha256 OF THE DUMP (.gsa) THAT YtmdgljbgjhpmcaaProg.lean LOADS. Nothing in Lean hashes anything: it is a label: what it is worth is what the hold of that sum in a sandbox is worth. -/
noncomputable def Try.pinned : Pinned := { name := "ytmdgljbgjhpmcaa", sum := "d91cc40c867090a7145d9dd6a3a880a5612daddc0619ba56281a052ef9b1156f", checked := Try.checked }
namespace Rows
def none {H : Type} : Left H := { results := [], args := [] }

/-- 'catchmentlaw01.ValueCells': WHATEVER THE INPUT: true; the input reads as it did. -/
def valueCellsSpec : ChangeSpec := { name := "valueCells", fn := fun _ => fun
  | [d] => { results := [.lit (.bool true)], args := [d] }
  | _ => none }
def valueCellsRow : OpenClaim := { program := "ytmdgljbgjhpmcaa", sum := "d91cc40c867090a7145d9dd6a3a880a5612daddc0619ba56281a052ef9b1156f", func := "catchment/catchmentlaw01.ValueCells", spec := "valueCells", apart := false }
def ValueCellsSaid : Prop := valueCellsRow.holds Try.pinned (OpenSpec.ofChange valueCellsSpec)

/-- ITS FALSE NEIGHBOUR: 'it returns false'. Refute it at one input. -/
def valueCellsWrong : ChangeSpec := { name := "valueCells", fn := fun _ => fun
  | [d] => { results := [.lit (.bool false)], args := [d] }
  | _ => none }
def ValueCellsWrongFalsely : Prop := valueCellsRow.holds Try.pinned (OpenSpec.ofChange valueCellsWrong)

/-- 'catchmentlaw01.ValueOrder': WHATEVER THE INPUT: true; the input reads as it did. -/
def valueOrderSpec : ChangeSpec := { name := "valueOrder", fn := fun _ => fun
  | [d1, d2, d3] => { results := [.lit (.bool true)], args := [d1, d2, d3] }
  | _ => none }
def valueOrderRow : OpenClaim := { program := "ytmdgljbgjhpmcaa", sum := "d91cc40c867090a7145d9dd6a3a880a5612daddc0619ba56281a052ef9b1156f", func := "catchment/catchmentlaw01.ValueOrder", spec := "valueOrder", apart := false }
def ValueOrderSaid : Prop := valueOrderRow.holds Try.pinned (OpenSpec.ofChange valueOrderSpec)

/-- ITS FALSE NEIGHBOUR: 'it returns false'. Refute it at one input. -/
def valueOrderWrong : ChangeSpec := { name := "valueOrder", fn := fun _ => fun
  | [d1, d2, d3] => { results := [.lit (.bool false)], args := [d1, d2, d3] }
  | _ => none }
def ValueOrderWrongFalsely : Prop := valueOrderRow.holds Try.pinned (OpenSpec.ofChange valueOrderWrong)

/-- 'catchmentlaw01.ValueOdd': WHATEVER THE INPUT: true; the input reads as it did. -/
def valueOddSpec : ChangeSpec := { name := "valueOdd", fn := fun _ => fun
  | [d1, d2, d3, d4, d5] => { results := [.lit (.bool true)], args := [d1, d2, d3, d4, d5] }
  | _ => none }
def valueOddRow : OpenClaim := { program := "ytmdgljbgjhpmcaa", sum := "d91cc40c867090a7145d9dd6a3a880a5612daddc0619ba56281a052ef9b1156f", func := "catchment/catchmentlaw01.ValueOdd", spec := "valueOdd", apart := false }
def ValueOddSaid : Prop := valueOddRow.holds Try.pinned (OpenSpec.ofChange valueOddSpec)

/-- ITS FALSE NEIGHBOUR: 'it returns false'. Refute it at one input. -/
def valueOddWrong : ChangeSpec := { name := "valueOdd", fn := fun _ => fun
  | [d1, d2, d3, d4, d5] => { results := [.lit (.bool false)], args := [d1, d2, d3, d4, d5] }
  | _ => none }
def ValueOddWrongFalsely : Prop := valueOddRow.holds Try.pinned (OpenSpec.ofChange valueOddWrong)

/-- 'catchmentlaw01.ValueNumbers': WHATEVER THE INPUT: true; the input reads as it did. -/
def valueNumbersSpec : ChangeSpec := { name := "valueNumbers", fn := fun _ => fun
  | [d1, d2] => { results := [.lit (.bool true)], args := [d1, d2] }
  | _ => none }
def valueNumbersRow : OpenClaim := { program := "ytmdgljbgjhpmcaa", sum := "d91cc40c867090a7145d9dd6a3a880a5612daddc0619ba56281a052ef9b1156f", func := "catchment/catchmentlaw01.ValueNumbers", spec := "valueNumbers", apart := false }
def ValueNumbersSaid : Prop := valueNumbersRow.holds Try.pinned (OpenSpec.ofChange valueNumbersSpec)

/-- ITS FALSE NEIGHBOUR: 'it returns false'. Refute it at one input. -/
def valueNumbersWrong : ChangeSpec := { name := "valueNumbers", fn := fun _ => fun
  | [d1, d2] => { results := [.lit (.bool false)], args := [d1, d2] }
  | _ => none }
def ValueNumbersWrongFalsely : Prop := valueNumbersRow.holds Try.pinned (OpenSpec.ofChange valueNumbersWrong)

/-- 'catchmentlaw01.ValueSorts': WHATEVER THE INPUT: true; the input reads as it did. -/
def valueSortsSpec : ChangeSpec := { name := "valueSorts", fn := fun _ => fun
  | [d] => { results := [.lit (.bool true)], args := [d] }
  | _ => none }
def valueSortsRow : OpenClaim := { program := "ytmdgljbgjhpmcaa", sum := "d91cc40c867090a7145d9dd6a3a880a5612daddc0619ba56281a052ef9b1156f", func := "catchment/catchmentlaw01.ValueSorts", spec := "valueSorts", apart := false }
def ValueSortsSaid : Prop := valueSortsRow.holds Try.pinned (OpenSpec.ofChange valueSortsSpec)

/-- ITS FALSE NEIGHBOUR: 'it returns false'. Refute it at one input. -/
def valueSortsWrong : ChangeSpec := { name := "valueSorts", fn := fun _ => fun
  | [d] => { results := [.lit (.bool false)], args := [d] }
  | _ => none }
def ValueSortsWrongFalsely : Prop := valueSortsRow.holds Try.pinned (OpenSpec.ofChange valueSortsWrong)

/-- 'catchmentlaw01.ValueThree': WHATEVER THE INPUT: true; the input reads as it did. -/
def valueThreeSpec : ChangeSpec := { name := "valueThree", fn := fun _ => fun
  | [d1, d2, d3] => { results := [.lit (.bool true)], args := [d1, d2, d3] }
  | _ => none }
def valueThreeRow : OpenClaim := { program := "ytmdgljbgjhpmcaa", sum := "d91cc40c867090a7145d9dd6a3a880a5612daddc0619ba56281a052ef9b1156f", func := "catchment/catchmentlaw01.ValueThree", spec := "valueThree", apart := false }
def ValueThreeSaid : Prop := valueThreeRow.holds Try.pinned (OpenSpec.ofChange valueThreeSpec)

/-- ITS FALSE NEIGHBOUR: 'it returns false'. Refute it at one input. -/
def valueThreeWrong : ChangeSpec := { name := "valueThree", fn := fun _ => fun
  | [d1, d2, d3] => { results := [.lit (.bool false)], args := [d1, d2, d3] }
  | _ => none }
def ValueThreeWrongFalsely : Prop := valueThreeRow.holds Try.pinned (OpenSpec.ofChange valueThreeWrong)

/- THE SECOND FORM. 'bulk': how many values and letters a reading holds, each counted each time it is reached (what is shared counts as often as it is met; a slice's spare places count too). A statement '..UptoSaid' is the law's where the arguments, and the package variables that the reading takes, are together of bulk at most 1048576: NARROWER than '..Said'. Prove '..Said' where nothing that the law and all that it calls make is longer than what came in: it says more and counts as full. Else prove '..UptoSaid'. A law counts once. -/
mutual
def uptoBulk {H : Type} : DataW H → Nat
  | .lit (.string bytes) => bytes.length + 1
  | .lit _ => 1
  | .nil => 1
  | .ptr d => uptoBulk d + 1
  | .slice elems spare => uptoBulkAll elems + uptoBulkAll spare + 1
  | .agg parts => uptoBulkAll parts + 1
  | .iface _ d => uptoBulk d + 1
  | .map entries => uptoBulkEntries entries + 1
  | .held _ => 1
def uptoBulkAll {H : Type} : List (DataW H) → Nat
  | [] => 0
  | d :: r => uptoBulk d + uptoBulkAll r
def uptoBulkEntries {H : Type} : List (Lit × DataW H) → Nat
  | [] => 0
  | x :: r => uptoBulkEntry x + uptoBulkEntries r
def uptoBulkEntry {H : Type} : Lit × DataW H → Nat
  | (.string bytes, d) => bytes.length + uptoBulk d + 1
  | (_, d) => uptoBulk d + 1
 end
def uptoSmall : (H : Type) → List (DataW H) → Bool := fun _ ds => decide (uptoBulkAll ds ≤ 1048576)
def OpenSpec.upto (s : _root_.Go.ChangeSpec) : _root_.Go.OpenSpec := { _root_.Go.OpenSpec.ofChange s with cond := some uptoSmall }

/-- 'catchmentlaw01.ValueCells', WHERE WHAT IT READS IS OF BULK AT MOST 1048576: true; the input reads as it did. -/
def valueCellsUptoRow : OpenClaim := { program := "ytmdgljbgjhpmcaa", sum := "d91cc40c867090a7145d9dd6a3a880a5612daddc0619ba56281a052ef9b1156f", func := "catchment/catchmentlaw01.ValueCells", spec := "valueCells", apart := false, narrowed := true }
def ValueCellsUptoSaid : Prop := valueCellsUptoRow.holds Try.pinned (OpenSpec.upto valueCellsSpec)

/-- 'catchmentlaw01.ValueOrder', WHERE WHAT IT READS IS OF BULK AT MOST 1048576: true; the input reads as it did. -/
def valueOrderUptoRow : OpenClaim := { program := "ytmdgljbgjhpmcaa", sum := "d91cc40c867090a7145d9dd6a3a880a5612daddc0619ba56281a052ef9b1156f", func := "catchment/catchmentlaw01.ValueOrder", spec := "valueOrder", apart := false, narrowed := true }
def ValueOrderUptoSaid : Prop := valueOrderUptoRow.holds Try.pinned (OpenSpec.upto valueOrderSpec)

/-- 'catchmentlaw01.ValueOdd', WHERE WHAT IT READS IS OF BULK AT MOST 1048576: true; the input reads as it did. -/
def valueOddUptoRow : OpenClaim := { program := "ytmdgljbgjhpmcaa", sum := "d91cc40c867090a7145d9dd6a3a880a5612daddc0619ba56281a052ef9b1156f", func := "catchment/catchmentlaw01.ValueOdd", spec := "valueOdd", apart := false, narrowed := true }
def ValueOddUptoSaid : Prop := valueOddUptoRow.holds Try.pinned (OpenSpec.upto valueOddSpec)

/-- 'catchmentlaw01.ValueNumbers', WHERE WHAT IT READS IS OF BULK AT MOST 1048576: true; the input reads as it did. -/
def valueNumbersUptoRow : OpenClaim := { program := "ytmdgljbgjhpmcaa", sum := "d91cc40c867090a7145d9dd6a3a880a5612daddc0619ba56281a052ef9b1156f", func := "catchment/catchmentlaw01.ValueNumbers", spec := "valueNumbers", apart := false, narrowed := true }
def ValueNumbersUptoSaid : Prop := valueNumbersUptoRow.holds Try.pinned (OpenSpec.upto valueNumbersSpec)

/-- 'catchmentlaw01.ValueSorts', WHERE WHAT IT READS IS OF BULK AT MOST 1048576: true; the input reads as it did. -/
def valueSortsUptoRow : OpenClaim := { program := "ytmdgljbgjhpmcaa", sum := "d91cc40c867090a7145d9dd6a3a880a5612daddc0619ba56281a052ef9b1156f", func := "catchment/catchmentlaw01.ValueSorts", spec := "valueSorts", apart := false, narrowed := true }
def ValueSortsUptoSaid : Prop := valueSortsUptoRow.holds Try.pinned (OpenSpec.upto valueSortsSpec)

/-- 'catchmentlaw01.ValueThree', WHERE WHAT IT READS IS OF BULK AT MOST 1048576: true; the input reads as it did. -/
def valueThreeUptoRow : OpenClaim := { program := "ytmdgljbgjhpmcaa", sum := "d91cc40c867090a7145d9dd6a3a880a5612daddc0619ba56281a052ef9b1156f", func := "catchment/catchmentlaw01.ValueThree", spec := "valueThree", apart := false, narrowed := true }
def ValueThreeUptoSaid : Prop := valueThreeUptoRow.holds Try.pinned (OpenSpec.upto valueThreeSpec)

end Rows
end Go.Proofs.Ytmdgljbgjhpmcaa
