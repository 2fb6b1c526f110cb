/-
  No cell of these rows narrows 'for every input' (looked for: loops, veiled, ifaces, maps, wideKeys, modest, calm, conditions, laid).
  DERIVED. THE GIVEN ROWS OF THIS SEAT. 5 by the template 'for every input the law returns true; each argument reads behind the call as it read before'; 0 by the template 'total and deterministic' (their statements: YtlcolgibabibdaaTotals.lean).
  GIVEN WITH THE SEED: the statements are not yours to turn. If you find one false, say at which input.
  Laid BY PROGRAM, IN A SANDBOX (cutbox-rows.mjs): the forced cells as the released guide's own fill.sh prints them over the translation 53bfd3a3eae403f8… (all of the seat's roots in one cut). By AI agents, Wed Nov 11 2026. No macro, syntax, notation, axiom, sorry.
-/
import Derived.Test.YtlcolgibabibdaaChecked
import GoSem.Claim
import GoSem.ClaimJoined
import GoSem.ClaimMapViews
import Derived.JoinedTies
import Derived.KernelRfl
namespace Go.Proofs.Ytlcolgibabibdaa
/- THE CELL 'sum', in the pinned program and in every row, IS THE sha256 OF THE DUMP (.gsa) THAT YtlcolgibabibdaaProg.lean LOADS. Nothing in Lean hashes anything: it is a label: what it is worth is what the hold of that sum in a sandbox is worth. -/
noncomputable def Try.pinned : Pinned := { name := "ytlcolgibabibdaa", sum := "53bfd3a3eae403f867f164fee23aaece3f05f69a96fcde527c5cca4815464d63", checked := Try.checked }
namespace Rows
def none {H : Type} : Left H := { results := [], args := [] }

/-- 'catchmentlaw18.TravelFinds': WHATEVER THE INPUT: true; the input reads as it did. -/
def travelFindsSpec : ChangeSpec := { name := "travelFinds", fn := fun _ => fun
  | [d1, d2, d3] => { results := [.lit (.bool true)], args := [d1, d2, d3] }
  | _ => none }
def travelFindsRow : OpenClaim := { program := "ytlcolgibabibdaa", sum := "53bfd3a3eae403f867f164fee23aaece3f05f69a96fcde527c5cca4815464d63", func := "catchment/catchmentlaw18.TravelFinds", spec := "travelFinds", unfollowed := true, recurses := true, apart := false }
def TravelFindsSaid : Prop := travelFindsRow.holds Try.pinned (OpenSpec.ofChange travelFindsSpec)

/-- ITS FALSE NEIGHBOUR: 'it returns false'. Refute it at one input. -/
def travelFindsWrong : ChangeSpec := { name := "travelFinds", fn := fun _ => fun
  | [d1, d2, d3] => { results := [.lit (.bool false)], args := [d1, d2, d3] }
  | _ => none }
def TravelFindsWrongFalsely : Prop := travelFindsRow.holds Try.pinned (OpenSpec.ofChange travelFindsWrong)

/-- 'catchmentlaw18.TravelChains': WHATEVER THE INPUT: true; the input reads as it did. -/
def travelChainsSpec : ChangeSpec := { name := "travelChains", fn := fun _ => fun
  | [d1, d2, d3, d4] => { results := [.lit (.bool true)], args := [d1, d2, d3, d4] }
  | _ => none }
def travelChainsRow : OpenClaim := { program := "ytlcolgibabibdaa", sum := "53bfd3a3eae403f867f164fee23aaece3f05f69a96fcde527c5cca4815464d63", func := "catchment/catchmentlaw18.TravelChains", spec := "travelChains", unfollowed := true, recurses := true, apart := false }
def TravelChainsSaid : Prop := travelChainsRow.holds Try.pinned (OpenSpec.ofChange travelChainsSpec)

/-- ITS FALSE NEIGHBOUR: 'it returns false'. Refute it at one input. -/
def travelChainsWrong : ChangeSpec := { name := "travelChains", fn := fun _ => fun
  | [d1, d2, d3, d4] => { results := [.lit (.bool false)], args := [d1, d2, d3, d4] }
  | _ => none }
def TravelChainsWrongFalsely : Prop := travelChainsRow.holds Try.pinned (OpenSpec.ofChange travelChainsWrong)

/-- 'catchmentlaw18.TravelOrder': WHATEVER THE INPUT: true; the input reads as it did. -/
def travelOrderSpec : ChangeSpec := { name := "travelOrder", fn := fun _ => fun
  | [d1, d2, d3] => { results := [.lit (.bool true)], args := [d1, d2, d3] }
  | _ => none }
def travelOrderRow : OpenClaim := { program := "ytlcolgibabibdaa", sum := "53bfd3a3eae403f867f164fee23aaece3f05f69a96fcde527c5cca4815464d63", func := "catchment/catchmentlaw18.TravelOrder", spec := "travelOrder", unfollowed := true, recurses := true, apart := false }
def TravelOrderSaid : Prop := travelOrderRow.holds Try.pinned (OpenSpec.ofChange travelOrderSpec)

/-- ITS FALSE NEIGHBOUR: 'it returns false'. Refute it at one input. -/
def travelOrderWrong : ChangeSpec := { name := "travelOrder", fn := fun _ => fun
  | [d1, d2, d3] => { results := [.lit (.bool false)], args := [d1, d2, d3] }
  | _ => none }
def TravelOrderWrongFalsely : Prop := travelOrderRow.holds Try.pinned (OpenSpec.ofChange travelOrderWrong)

/-- 'catchmentlaw18.TravelOwn': WHATEVER THE INPUT: true; the input reads as it did. -/
def travelOwnSpec : ChangeSpec := { name := "travelOwn", fn := fun _ => fun
  | [d1, d2] => { results := [.lit (.bool true)], args := [d1, d2] }
  | _ => none }
def travelOwnRow : OpenClaim := { program := "ytlcolgibabibdaa", sum := "53bfd3a3eae403f867f164fee23aaece3f05f69a96fcde527c5cca4815464d63", func := "catchment/catchmentlaw18.TravelOwn", spec := "travelOwn", unfollowed := true, recurses := true, apart := false }
def TravelOwnSaid : Prop := travelOwnRow.holds Try.pinned (OpenSpec.ofChange travelOwnSpec)

/-- ITS FALSE NEIGHBOUR: 'it returns false'. Refute it at one input. -/
def travelOwnWrong : ChangeSpec := { name := "travelOwn", fn := fun _ => fun
  | [d1, d2] => { results := [.lit (.bool false)], args := [d1, d2] }
  | _ => none }
def TravelOwnWrongFalsely : Prop := travelOwnRow.holds Try.pinned (OpenSpec.ofChange travelOwnWrong)

/-- 'catchmentlaw18.TravelAll': WHATEVER THE INPUT: true; the input reads as it did. -/
def travelAllSpec : ChangeSpec := { name := "travelAll", fn := fun _ => fun
  | [d1, d2] => { results := [.lit (.bool true)], args := [d1, d2] }
  | _ => none }
def travelAllRow : OpenClaim := { program := "ytlcolgibabibdaa", sum := "53bfd3a3eae403f867f164fee23aaece3f05f69a96fcde527c5cca4815464d63", func := "catchment/catchmentlaw18.TravelAll", spec := "travelAll", unfollowed := true, recurses := true, apart := false }
def TravelAllSaid : Prop := travelAllRow.holds Try.pinned (OpenSpec.ofChange travelAllSpec)

/-- ITS FALSE NEIGHBOUR: 'it returns false'. Refute it at one input. -/
def travelAllWrong : ChangeSpec := { name := "travelAll", fn := fun _ => fun
  | [d1, d2] => { results := [.lit (.bool false)], args := [d1, d2] }
  | _ => none }
def TravelAllWrongFalsely : Prop := travelAllRow.holds Try.pinned (OpenSpec.ofChange travelAllWrong)

/- THE SECOND FORM. 'bulk': how many values and letters a reading holds, each counted each time it is reached (what is shared counts as often as it is met; a slice's spare places count too). A statement '..UptoSaid' is the law's where the arguments, and the package variables that the reading takes, are together of bulk at most 1048576: NARROWER than '..Said'. Prove '..Said' where nothing that the law and all that it calls make is longer than what came in: it says more and counts as full. Else prove '..UptoSaid'. A law counts once. -/
mutual
def uptoBulk {H : Type} : DataW H → Nat
  | .lit (.string bytes) => bytes.length + 1
  | .lit _ => 1
  | .nil => 1
  | .ptr d => uptoBulk d + 1
  | .slice elems spare => uptoBulkAll elems + uptoBulkAll spare + 1
  | .agg parts => uptoBulkAll parts + 1
  | .iface _ d => uptoBulk d + 1
  | .map entries => uptoBulkEntries entries + 1
  | .held _ => 1
def uptoBulkAll {H : Type} : List (DataW H) → Nat
  | [] => 0
  | d :: r => uptoBulk d + uptoBulkAll r
def uptoBulkEntries {H : Type} : List (Lit × DataW H) → Nat
  | [] => 0
  | x :: r => uptoBulkEntry x + uptoBulkEntries r
def uptoBulkEntry {H : Type} : Lit × DataW H → Nat
  | (.string bytes, d) => bytes.length + uptoBulk d + 1
  | (_, d) => uptoBulk d + 1
 end
def uptoSmall : (H : Type) → List (DataW H) → Bool := fun _ ds => decide (uptoBulkAll ds ≤ 1048576)
def OpenSpec.upto (s : _root_.Go.ChangeSpec) : _root_.Go.OpenSpec := { _root_.Go.OpenSpec.ofChange s with cond := some uptoSmall }

/-- 'catchmentlaw18.TravelFinds', WHERE WHAT IT READS IS OF BULK AT MOST 1048576: true; the input reads as it did. -/
def travelFindsUptoRow : OpenClaim := { program := "ytlcolgibabibdaa", sum := "53bfd3a3eae403f867f164fee23aaece3f05f69a96fcde527c5cca4815464d63", func := "catchment/catchmentlaw18.TravelFinds", spec := "travelFinds", unfollowed := true, recurses := true, apart := false, narrowed := true }
def TravelFindsUptoSaid : Prop := travelFindsUptoRow.holds Try.pinned (OpenSpec.upto travelFindsSpec)

/-- 'catchmentlaw18.TravelChains', WHERE WHAT IT READS IS OF BULK AT MOST 1048576: true; the input reads as it did. -/
def travelChainsUptoRow : OpenClaim := { program := "ytlcolgibabibdaa", sum := "53bfd3a3eae403f867f164fee23aaece3f05f69a96fcde527c5cca4815464d63", func := "catchment/catchmentlaw18.TravelChains", spec := "travelChains", unfollowed := true, recurses := true, apart := false, narrowed := true }
def TravelChainsUptoSaid : Prop := travelChainsUptoRow.holds Try.pinned (OpenSpec.upto travelChainsSpec)

/-- 'catchmentlaw18.TravelOrder', WHERE WHAT IT READS IS OF BULK AT MOST 1048576: true; the input reads as it did. -/
def travelOrderUptoRow : OpenClaim := { program := "ytlcolgibabibdaa", sum := "53bfd3a3eae403f867f164fee23aaece3f05f69a96fcde527c5cca4815464d63", func := "catchment/catchmentlaw18.TravelOrder", spec := "travelOrder", unfollowed := true, recurses := true, apart := false, narrowed := true }
def TravelOrderUptoSaid : Prop := travelOrderUptoRow.holds Try.pinned (OpenSpec.upto travelOrderSpec)

/-- 'catchmentlaw18.TravelOwn', WHERE WHAT IT READS IS OF BULK AT MOST 1048576: true; the input reads as it did. -/
def travelOwnUptoRow : OpenClaim := { program := "ytlcolgibabibdaa", sum := "53bfd3a3eae403f867f164fee23aaece3f05f69a96fcde527c5cca4815464d63", func := "catchment/catchmentlaw18.TravelOwn", spec := "travelOwn", unfollowed := true, recurses := true, apart := false, narrowed := true }
def TravelOwnUptoSaid : Prop := travelOwnUptoRow.holds Try.pinned (OpenSpec.upto travelOwnSpec)

/-- 'catchmentlaw18.TravelAll', WHERE WHAT IT READS IS OF BULK AT MOST 1048576: true; the input reads as it did. -/
def travelAllUptoRow : OpenClaim := { program := "ytlcolgibabibdaa", sum := "53bfd3a3eae403f867f164fee23aaece3f05f69a96fcde527c5cca4815464d63", func := "catchment/catchmentlaw18.TravelAll", spec := "travelAll", unfollowed := true, recurses := true, apart := false, narrowed := true }
def TravelAllUptoSaid : Prop := travelAllUptoRow.holds Try.pinned (OpenSpec.upto travelAllSpec)

end Rows
end Go.Proofs.Ytlcolgibabibdaa
