/-
  No cell of these rows narrows 'for every input' (looked for: loops, veiled, ifaces, maps, wideKeys, modest, calm, conditions, laid).
  DERIVED. THE GIVEN ROWS OF THIS SEAT. 6 by the template 'for every input the law returns true; each argument reads behind the call as it read before'; 0 by the template 'total and deterministic' (their statements: YtocjmllbbpfidaaTotals.lean).
  GIVEN WITH THE SEED: the statements are not yours to turn. If you find one false, say at which input.
  Laid BY PROGRAM, IN A SANDBOX (cutbox-rows.mjs): the forced cells as the released guide's own fill.sh prints them over the translation 3f02227ffb90a519… (all of the seat's roots in one cut). By AI agents, Wed Nov 11 2026. No macro, syntax, notation, axiom, sorry.
-/
import Derived.Test.YtocjmllbbpfidaaChecked
import GoSem.Claim
import GoSem.ClaimJoined
import GoSem.ClaimMapViews
import Derived.JoinedTies
import Derived.KernelRfl
namespace Go.Proofs.Ytocjmllbbpfidaa
/- THE CELL 'sum', in the pinned program and in every row, IS THE sha256 OF THE DUMP (.gsa) THAT YtocjmllbbpfidaaProg.lean LOADS. Nothing in Lean hashes anything: it is a label: what it is worth is what the hold of that sum in a sandbox is worth. -/
noncomputable def Try.pinned : Pinned := { name := "ytocjmllbbpfidaa", sum := "3f02227ffb90a519f7dc3e154b87f8b4f115500e0bd9f5c2c8fb5a404ac7e0ea", checked := Try.checked }
namespace Rows
def none {H : Type} : Left H := { results := [], args := [] }

/-- 'catchmentlaw02.SignsCounts': WHATEVER THE INPUT: true; the input reads as it did. -/
def signsCountsSpec : ChangeSpec := { name := "signsCounts", fn := fun _ => fun
  | [d1, d2] => { results := [.lit (.bool true)], args := [d1, d2] }
  | _ => none }
def signsCountsRow : OpenClaim := { program := "ytocjmllbbpfidaa", sum := "3f02227ffb90a519f7dc3e154b87f8b4f115500e0bd9f5c2c8fb5a404ac7e0ea", func := "catchment/catchmentlaw02.SignsCounts", spec := "signsCounts", apart := false }
def SignsCountsSaid : Prop := signsCountsRow.holds Try.pinned (OpenSpec.ofChange signsCountsSpec)

/-- ITS FALSE NEIGHBOUR: 'it returns false'. Refute it at one input. -/
def signsCountsWrong : ChangeSpec := { name := "signsCounts", fn := fun _ => fun
  | [d1, d2] => { results := [.lit (.bool false)], args := [d1, d2] }
  | _ => none }
def SignsCountsWrongFalsely : Prop := signsCountsRow.holds Try.pinned (OpenSpec.ofChange signsCountsWrong)

/-- 'catchmentlaw02.SignsAbove': WHATEVER THE INPUT: true; the input reads as it did. -/
def signsAboveSpec : ChangeSpec := { name := "signsAbove", fn := fun _ => fun
  | [d1, d2] => { results := [.lit (.bool true)], args := [d1, d2] }
  | _ => none }
def signsAboveRow : OpenClaim := { program := "ytocjmllbbpfidaa", sum := "3f02227ffb90a519f7dc3e154b87f8b4f115500e0bd9f5c2c8fb5a404ac7e0ea", func := "catchment/catchmentlaw02.SignsAbove", spec := "signsAbove", apart := false }
def SignsAboveSaid : Prop := signsAboveRow.holds Try.pinned (OpenSpec.ofChange signsAboveSpec)

/-- ITS FALSE NEIGHBOUR: 'it returns false'. Refute it at one input. -/
def signsAboveWrong : ChangeSpec := { name := "signsAbove", fn := fun _ => fun
  | [d1, d2] => { results := [.lit (.bool false)], args := [d1, d2] }
  | _ => none }
def SignsAboveWrongFalsely : Prop := signsAboveRow.holds Try.pinned (OpenSpec.ofChange signsAboveWrong)

/-- 'catchmentlaw02.SignsBound': WHATEVER THE INPUT: true; the input reads as it did. -/
def signsBoundSpec : ChangeSpec := { name := "signsBound", fn := fun _ => fun
  | [d1, d2, d3] => { results := [.lit (.bool true)], args := [d1, d2, d3] }
  | _ => none }
def signsBoundRow : OpenClaim := { program := "ytocjmllbbpfidaa", sum := "3f02227ffb90a519f7dc3e154b87f8b4f115500e0bd9f5c2c8fb5a404ac7e0ea", func := "catchment/catchmentlaw02.SignsBound", spec := "signsBound", apart := false }
def SignsBoundSaid : Prop := signsBoundRow.holds Try.pinned (OpenSpec.ofChange signsBoundSpec)

/-- ITS FALSE NEIGHBOUR: 'it returns false'. Refute it at one input. -/
def signsBoundWrong : ChangeSpec := { name := "signsBound", fn := fun _ => fun
  | [d1, d2, d3] => { results := [.lit (.bool false)], args := [d1, d2, d3] }
  | _ => none }
def SignsBoundWrongFalsely : Prop := signsBoundRow.holds Try.pinned (OpenSpec.ofChange signsBoundWrong)

/-- 'catchmentlaw02.SignsLike': WHATEVER THE INPUT: true; the input reads as it did. -/
def signsLikeSpec : ChangeSpec := { name := "signsLike", fn := fun _ => fun
  | [d1, d2] => { results := [.lit (.bool true)], args := [d1, d2] }
  | _ => none }
def signsLikeRow : OpenClaim := { program := "ytocjmllbbpfidaa", sum := "3f02227ffb90a519f7dc3e154b87f8b4f115500e0bd9f5c2c8fb5a404ac7e0ea", func := "catchment/catchmentlaw02.SignsLike", spec := "signsLike", apart := false }
def SignsLikeSaid : Prop := signsLikeRow.holds Try.pinned (OpenSpec.ofChange signsLikeSpec)

/-- ITS FALSE NEIGHBOUR: 'it returns false'. Refute it at one input. -/
def signsLikeWrong : ChangeSpec := { name := "signsLike", fn := fun _ => fun
  | [d1, d2] => { results := [.lit (.bool false)], args := [d1, d2] }
  | _ => none }
def SignsLikeWrongFalsely : Prop := signsLikeRow.holds Try.pinned (OpenSpec.ofChange signsLikeWrong)

/-- 'catchmentlaw02.SignsSelf': WHATEVER THE INPUT: true; the input reads as it did. -/
def signsSelfSpec : ChangeSpec := { name := "signsSelf", fn := fun _ => fun
  | [d1, d2] => { results := [.lit (.bool true)], args := [d1, d2] }
  | _ => none }
def signsSelfRow : OpenClaim := { program := "ytocjmllbbpfidaa", sum := "3f02227ffb90a519f7dc3e154b87f8b4f115500e0bd9f5c2c8fb5a404ac7e0ea", func := "catchment/catchmentlaw02.SignsSelf", spec := "signsSelf", apart := false }
def SignsSelfSaid : Prop := signsSelfRow.holds Try.pinned (OpenSpec.ofChange signsSelfSpec)

/-- ITS FALSE NEIGHBOUR: 'it returns false'. Refute it at one input. -/
def signsSelfWrong : ChangeSpec := { name := "signsSelf", fn := fun _ => fun
  | [d1, d2] => { results := [.lit (.bool false)], args := [d1, d2] }
  | _ => none }
def SignsSelfWrongFalsely : Prop := signsSelfRow.holds Try.pinned (OpenSpec.ofChange signsSelfWrong)

/-- 'catchmentlaw02.SignsTurn': WHATEVER THE INPUT: true; the input reads as it did. -/
def signsTurnSpec : ChangeSpec := { name := "signsTurn", fn := fun _ => fun
  | [d] => { results := [.lit (.bool true)], args := [d] }
  | _ => none }
def signsTurnRow : OpenClaim := { program := "ytocjmllbbpfidaa", sum := "3f02227ffb90a519f7dc3e154b87f8b4f115500e0bd9f5c2c8fb5a404ac7e0ea", func := "catchment/catchmentlaw02.SignsTurn", spec := "signsTurn", apart := false }
def SignsTurnSaid : Prop := signsTurnRow.holds Try.pinned (OpenSpec.ofChange signsTurnSpec)

/-- ITS FALSE NEIGHBOUR: 'it returns false'. Refute it at one input. -/
def signsTurnWrong : ChangeSpec := { name := "signsTurn", fn := fun _ => fun
  | [d] => { results := [.lit (.bool false)], args := [d] }
  | _ => none }
def SignsTurnWrongFalsely : Prop := signsTurnRow.holds Try.pinned (OpenSpec.ofChange signsTurnWrong)

/- THE SECOND FORM. 'bulk': how many values and letters a reading holds, each counted each time it is reached (what is shared counts as often as it is met; a slice's spare places count too). A statement '..UptoSaid' is the law's where the arguments, and the package variables that the reading takes, are together of bulk at most 1048576: NARROWER than '..Said'. Prove '..Said' where nothing that the law and all that it calls make is longer than what came in: it says more and counts as full. Else prove '..UptoSaid'. A law counts once. -/
mutual
def uptoBulk {H : Type} : DataW H → Nat
  | .lit (.string bytes) => bytes.length + 1
  | .lit _ => 1
  | .nil => 1
  | .ptr d => uptoBulk d + 1
  | .slice elems spare => uptoBulkAll elems + uptoBulkAll spare + 1
  | .agg parts => uptoBulkAll parts + 1
  | .iface _ d => uptoBulk d + 1
  | .map entries => uptoBulkEntries entries + 1
  | .held _ => 1
def uptoBulkAll {H : Type} : List (DataW H) → Nat
  | [] => 0
  | d :: r => uptoBulk d + uptoBulkAll r
def uptoBulkEntries {H : Type} : List (Lit × DataW H) → Nat
  | [] => 0
  | x :: r => uptoBulkEntry x + uptoBulkEntries r
def uptoBulkEntry {H : Type} : Lit × DataW H → Nat
  | (.string bytes, d) => bytes.length + uptoBulk d + 1
  | (_, d) => uptoBulk d + 1
 end
def uptoSmall : (H : Type) → List (DataW H) → Bool := fun _ ds => decide (uptoBulkAll ds ≤ 1048576)
def OpenSpec.upto (s : _root_.Go.ChangeSpec) : _root_.Go.OpenSpec := { _root_.Go.OpenSpec.ofChange s with cond := some uptoSmall }

/-- 'catchmentlaw02.SignsCounts', WHERE WHAT IT READS IS OF BULK AT MOST 1048576: true; the input reads as it did. -/
def signsCountsUptoRow : OpenClaim := { program := "ytocjmllbbpfidaa", sum := "3f02227ffb90a519f7dc3e154b87f8b4f115500e0bd9f5c2c8fb5a404ac7e0ea", func := "catchment/catchmentlaw02.SignsCounts", spec := "signsCounts", apart := false, narrowed := true }
def SignsCountsUptoSaid : Prop := signsCountsUptoRow.holds Try.pinned (OpenSpec.upto signsCountsSpec)

/-- 'catchmentlaw02.SignsAbove', WHERE WHAT IT READS IS OF BULK AT MOST 1048576: true; the input reads as it did. -/
def signsAboveUptoRow : OpenClaim := { program := "ytocjmllbbpfidaa", sum := "3f02227ffb90a519f7dc3e154b87f8b4f115500e0bd9f5c2c8fb5a404ac7e0ea", func := "catchment/catchmentlaw02.SignsAbove", spec := "signsAbove", apart := false, narrowed := true }
def SignsAboveUptoSaid : Prop := signsAboveUptoRow.holds Try.pinned (OpenSpec.upto signsAboveSpec)

/-- 'catchmentlaw02.SignsBound', WHERE WHAT IT READS IS OF BULK AT MOST 1048576: true; the input reads as it did. -/
def signsBoundUptoRow : OpenClaim := { program := "ytocjmllbbpfidaa", sum := "3f02227ffb90a519f7dc3e154b87f8b4f115500e0bd9f5c2c8fb5a404ac7e0ea", func := "catchment/catchmentlaw02.SignsBound", spec := "signsBound", apart := false, narrowed := true }
def SignsBoundUptoSaid : Prop := signsBoundUptoRow.holds Try.pinned (OpenSpec.upto signsBoundSpec)

/-- 'catchmentlaw02.SignsLike', WHERE WHAT IT READS IS OF BULK AT MOST 1048576: true; the input reads as it did. -/
def signsLikeUptoRow : OpenClaim := { program := "ytocjmllbbpfidaa", sum := "3f02227ffb90a519f7dc3e154b87f8b4f115500e0bd9f5c2c8fb5a404ac7e0ea", func := "catchment/catchmentlaw02.SignsLike", spec := "signsLike", apart := false, narrowed := true }
def SignsLikeUptoSaid : Prop := signsLikeUptoRow.holds Try.pinned (OpenSpec.upto signsLikeSpec)

/-- 'catchmentlaw02.SignsSelf', WHERE WHAT IT READS IS OF BULK AT MOST 1048576: true; the input reads as it did. -/
def signsSelfUptoRow : OpenClaim := { program := "ytocjmllbbpfidaa", sum := "3f02227ffb90a519f7dc3e154b87f8b4f115500e0bd9f5c2c8fb5a404ac7e0ea", func := "catchment/catchmentlaw02.SignsSelf", spec := "signsSelf", apart := false, narrowed := true }
def SignsSelfUptoSaid : Prop := signsSelfUptoRow.holds Try.pinned (OpenSpec.upto signsSelfSpec)

/-- 'catchmentlaw02.SignsTurn', WHERE WHAT IT READS IS OF BULK AT MOST 1048576: true; the input reads as it did. -/
def signsTurnUptoRow : OpenClaim := { program := "ytocjmllbbpfidaa", sum := "3f02227ffb90a519f7dc3e154b87f8b4f115500e0bd9f5c2c8fb5a404ac7e0ea", func := "catchment/catchmentlaw02.SignsTurn", spec := "signsTurn", apart := false, narrowed := true }
def SignsTurnUptoSaid : Prop := signsTurnUptoRow.holds Try.pinned (OpenSpec.upto signsTurnSpec)

end Rows
end Go.Proofs.Ytocjmllbbpfidaa
