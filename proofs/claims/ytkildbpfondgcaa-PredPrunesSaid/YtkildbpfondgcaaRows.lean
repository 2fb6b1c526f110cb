/-
  NARROWER THAN 'FOR EVERY INPUT', by the rows' own cells (each row's printed sentence says how): PredPrunes: loops · PredTurns: loops.
  DERIVED. THE GIVEN ROWS OF THIS SEAT. 3 by the template 'for every input the law returns true; each argument reads behind the call as it read before'; 0 by the template 'total and deterministic' (their statements: YtkildbpfondgcaaTotals.lean).
  GIVEN WITH THE SEED: the statements are not yours to turn. If you find one false, say at which input.
  Laid BY PROGRAM, IN A SANDBOX (cutbox-rows.mjs): the forced cells as the released guide's own fill.sh prints them over the translation 6c4b23531faf239d… (all of the seat's roots in one cut). By AI agents, Wed Nov 11 2026. No macro, syntax, notation, axiom, sorry.
-/
import Derived.Test.YtkildbpfondgcaaChecked
import GoSem.Claim
import GoSem.ClaimJoined
import GoSem.ClaimMapViews
import Derived.JoinedTies
import Derived.KernelRfl
namespace Go.Proofs.Ytkildbpfondgcaa
/- THE CELL 'sum', in the pinned program and in every row, IS THE sha256 OF THE DUMP (.gsa) THAT YtkildbpfondgcaaProg.lean LOADS. Nothing in Lean hashes anything: it is a label: what it is worth is what the hold of that sum in a sandbox is worth. -/
noncomputable def Try.pinned : Pinned := { name := "ytkildbpfondgcaa", sum := "6c4b23531faf239df1f1707d6379920f4ac4854148d786e8c8c2c52d4f157b06", checked := Try.checked }
namespace Rows
def none {H : Type} : Left H := { results := [], args := [] }

/-- 'catchmentlaw09.PredStats': WHATEVER THE INPUT: true; the input reads as it did. -/
def predStatsSpec : ChangeSpec := { name := "predStats", fn := fun _ => fun
  | [d1, d2] => { results := [.lit (.bool true)], args := [d1, d2] }
  | _ => none }
def predStatsRow : OpenClaim := { program := "ytkildbpfondgcaa", sum := "6c4b23531faf239df1f1707d6379920f4ac4854148d786e8c8c2c52d4f157b06", func := "catchment/catchmentlaw09.PredStats", spec := "predStats", unfollowed := true, recurses := true, apart := false }
def PredStatsSaid : Prop := predStatsRow.holds Try.pinned (OpenSpec.ofChange predStatsSpec)

/-- ITS FALSE NEIGHBOUR: 'it returns false'. Refute it at one input. -/
def predStatsWrong : ChangeSpec := { name := "predStats", fn := fun _ => fun
  | [d1, d2] => { results := [.lit (.bool false)], args := [d1, d2] }
  | _ => none }
def PredStatsWrongFalsely : Prop := predStatsRow.holds Try.pinned (OpenSpec.ofChange predStatsWrong)

/-- 'catchmentlaw09.PredPrunes': WHATEVER THE INPUT: true; the input reads as it did. -/
def predPrunesSpec : ChangeSpec := { name := "predPrunes", fn := fun _ => fun
  | [d1, d2, d3] => { results := [.lit (.bool true)], args := [d1, d2, d3] }
  | _ => none }
def predPrunesRow : OpenClaim := { program := "ytkildbpfondgcaa", sum := "6c4b23531faf239df1f1707d6379920f4ac4854148d786e8c8c2c52d4f157b06", func := "catchment/catchmentlaw09.PredPrunes", spec := "predPrunes", unfollowed := true, recurses := true, loops := true, apart := false }
def PredPrunesSaid : Prop := predPrunesRow.holds Try.pinned (OpenSpec.ofChange predPrunesSpec)

/-- ITS FALSE NEIGHBOUR: 'it returns false'. Refute it at one input. -/
def predPrunesWrong : ChangeSpec := { name := "predPrunes", fn := fun _ => fun
  | [d1, d2, d3] => { results := [.lit (.bool false)], args := [d1, d2, d3] }
  | _ => none }
def PredPrunesWrongFalsely : Prop := predPrunesRow.holds Try.pinned (OpenSpec.ofChange predPrunesWrong)

/-- 'catchmentlaw09.PredTurns': WHATEVER THE INPUT: true; the input reads as it did. -/
def predTurnsSpec : ChangeSpec := { name := "predTurns", fn := fun _ => fun
  | [d1, d2, d3, d4, d5] => { results := [.lit (.bool true)], args := [d1, d2, d3, d4, d5] }
  | _ => none }
def predTurnsRow : OpenClaim := { program := "ytkildbpfondgcaa", sum := "6c4b23531faf239df1f1707d6379920f4ac4854148d786e8c8c2c52d4f157b06", func := "catchment/catchmentlaw09.PredTurns", spec := "predTurns", unfollowed := true, recurses := true, loops := true, apart := false }
def PredTurnsSaid : Prop := predTurnsRow.holds Try.pinned (OpenSpec.ofChange predTurnsSpec)

/-- ITS FALSE NEIGHBOUR: 'it returns false'. Refute it at one input. -/
def predTurnsWrong : ChangeSpec := { name := "predTurns", fn := fun _ => fun
  | [d1, d2, d3, d4, d5] => { results := [.lit (.bool false)], args := [d1, d2, d3, d4, d5] }
  | _ => none }
def PredTurnsWrongFalsely : Prop := predTurnsRow.holds Try.pinned (OpenSpec.ofChange predTurnsWrong)

/- THE SECOND FORM. 'bulk': how many values and letters a reading holds, each counted each time it is reached (what is shared counts as often as it is met; a slice's spare places count too). A statement '..UptoSaid' is the law's where the arguments, and the package variables that the reading takes, are together of bulk at most 1048576: NARROWER than '..Said'. Prove '..Said' where nothing that the law and all that it calls make is longer than what came in: it says more and counts as full. Else prove '..UptoSaid'. A law counts once. -/
mutual
def uptoBulk {H : Type} : DataW H → Nat
  | .lit (.string bytes) => bytes.length + 1
  | .lit _ => 1
  | .nil => 1
  | .ptr d => uptoBulk d + 1
  | .slice elems spare => uptoBulkAll elems + uptoBulkAll spare + 1
  | .agg parts => uptoBulkAll parts + 1
  | .iface _ d => uptoBulk d + 1
  | .map entries => uptoBulkEntries entries + 1
  | .held _ => 1
def uptoBulkAll {H : Type} : List (DataW H) → Nat
  | [] => 0
  | d :: r => uptoBulk d + uptoBulkAll r
def uptoBulkEntries {H : Type} : List (Lit × DataW H) → Nat
  | [] => 0
  | x :: r => uptoBulkEntry x + uptoBulkEntries r
def uptoBulkEntry {H : Type} : Lit × DataW H → Nat
  | (.string bytes, d) => bytes.length + uptoBulk d + 1
  | (_, d) => uptoBulk d + 1
 end
def uptoSmall : (H : Type) → List (DataW H) → Bool := fun _ ds => decide (uptoBulkAll ds ≤ 1048576)
def OpenSpec.upto (s : _root_.Go.ChangeSpec) : _root_.Go.OpenSpec := { _root_.Go.OpenSpec.ofChange s with cond := some uptoSmall }

/-- 'catchmentlaw09.PredStats', WHERE WHAT IT READS IS OF BULK AT MOST 1048576: true; the input reads as it did. -/
def predStatsUptoRow : OpenClaim := { program := "ytkildbpfondgcaa", sum := "6c4b23531faf239df1f1707d6379920f4ac4854148d786e8c8c2c52d4f157b06", func := "catchment/catchmentlaw09.PredStats", spec := "predStats", unfollowed := true, recurses := true, apart := false, narrowed := true }
def PredStatsUptoSaid : Prop := predStatsUptoRow.holds Try.pinned (OpenSpec.upto predStatsSpec)

/-- 'catchmentlaw09.PredPrunes', WHERE WHAT IT READS IS OF BULK AT MOST 1048576: true; the input reads as it did. -/
def predPrunesUptoRow : OpenClaim := { program := "ytkildbpfondgcaa", sum := "6c4b23531faf239df1f1707d6379920f4ac4854148d786e8c8c2c52d4f157b06", func := "catchment/catchmentlaw09.PredPrunes", spec := "predPrunes", unfollowed := true, recurses := true, loops := true, apart := false, narrowed := true }
def PredPrunesUptoSaid : Prop := predPrunesUptoRow.holds Try.pinned (OpenSpec.upto predPrunesSpec)

/-- 'catchmentlaw09.PredTurns', WHERE WHAT IT READS IS OF BULK AT MOST 1048576: true; the input reads as it did. -/
def predTurnsUptoRow : OpenClaim := { program := "ytkildbpfondgcaa", sum := "6c4b23531faf239df1f1707d6379920f4ac4854148d786e8c8c2c52d4f157b06", func := "catchment/catchmentlaw09.PredTurns", spec := "predTurns", unfollowed := true, recurses := true, loops := true, apart := false, narrowed := true }
def PredTurnsUptoSaid : Prop := predTurnsUptoRow.holds Try.pinned (OpenSpec.upto predTurnsSpec)

end Rows
end Go.Proofs.Ytkildbpfondgcaa
