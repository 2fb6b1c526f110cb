/-
  No cell of these rows narrows 'for every input' (looked for: loops, veiled, ifaces, maps, wideKeys, modest, calm, conditions, laid).
  DERIVED. THE GIVEN ROWS OF THIS SEAT. 6 by the template 'for every input the law returns true; each argument reads behind the call as it read before'; 0 by the template 'total and deterministic' (their statements: YtlclhinianamhaaTotals.lean).
  GIVEN WITH THE SEED: the statements are not yours to turn. If you find one false, say at which input.
  Laid BY PROGRAM, IN A SANDBOX (cutbox-rows.mjs): the forced cells as the released guide's own fill.sh prints them over the translation 87ccd45f256d513d… (all of the seat's roots in one cut). By AI agents, Wed Nov 11 2026. No macro, syntax, notation, axiom, sorry.
-/
import Derived.Test.YtlclhinianamhaaChecked
import GoSem.Claim
import GoSem.ClaimJoined
import GoSem.ClaimMapViews
import Derived.JoinedTies
import Derived.KernelRfl
namespace Go.Proofs.Ytlclhinianamhaa
/- THE CELL 'sum', in the pinned program and in every row, IS THE sha256 OF THE DUMP (.gsa) THAT YtlclhinianamhaaProg.lean LOADS. Nothing in Lean hashes anything: it is a label: what it is worth is what the hold of that sum in a sandbox is worth. -/
noncomputable def Try.pinned : Pinned := { name := "ytlclhinianamhaa", sum := "87ccd45f256d513db00841e0d4ac7b37a519a462935576e7d9f5311dc200b2dc", checked := Try.checked }
namespace Rows
def none {H : Type} : Left H := { results := [], args := [] }

/-- 'catchmentlaw22.EventChecks': WHATEVER THE INPUT: true; the input reads as it did. -/
def eventChecksSpec : ChangeSpec := { name := "eventChecks", fn := fun _ => fun
  | [d1, d2] => { results := [.lit (.bool true)], args := [d1, d2] }
  | _ => none }
def eventChecksRow : OpenClaim := { program := "ytlclhinianamhaa", sum := "87ccd45f256d513db00841e0d4ac7b37a519a462935576e7d9f5311dc200b2dc", func := "catchment/catchmentlaw22.EventChecks", spec := "eventChecks", unfollowed := true, recurses := true, plainKeys := false, apart := false }
def EventChecksSaid : Prop := eventChecksRow.holds Try.pinned (OpenSpec.ofChange eventChecksSpec)

/-- ITS FALSE NEIGHBOUR: 'it returns false'. Refute it at one input. -/
def eventChecksWrong : ChangeSpec := { name := "eventChecks", fn := fun _ => fun
  | [d1, d2] => { results := [.lit (.bool false)], args := [d1, d2] }
  | _ => none }
def EventChecksWrongFalsely : Prop := eventChecksRow.holds Try.pinned (OpenSpec.ofChange eventChecksWrong)

/-- 'catchmentlaw22.EventLast': WHATEVER THE INPUT: true; the input reads as it did. -/
def eventLastSpec : ChangeSpec := { name := "eventLast", fn := fun _ => fun
  | [d1, d2] => { results := [.lit (.bool true)], args := [d1, d2] }
  | _ => none }
def eventLastRow : OpenClaim := { program := "ytlclhinianamhaa", sum := "87ccd45f256d513db00841e0d4ac7b37a519a462935576e7d9f5311dc200b2dc", func := "catchment/catchmentlaw22.EventLast", spec := "eventLast", unfollowed := true, recurses := true, plainKeys := false, apart := false }
def EventLastSaid : Prop := eventLastRow.holds Try.pinned (OpenSpec.ofChange eventLastSpec)

/-- ITS FALSE NEIGHBOUR: 'it returns false'. Refute it at one input. -/
def eventLastWrong : ChangeSpec := { name := "eventLast", fn := fun _ => fun
  | [d1, d2] => { results := [.lit (.bool false)], args := [d1, d2] }
  | _ => none }
def EventLastWrongFalsely : Prop := eventLastRow.holds Try.pinned (OpenSpec.ofChange eventLastWrong)

/-- 'catchmentlaw22.EventRows': WHATEVER THE INPUT: true; the input reads as it did. -/
def eventRowsSpec : ChangeSpec := { name := "eventRows", fn := fun _ => fun
  | [d1, d2] => { results := [.lit (.bool true)], args := [d1, d2] }
  | _ => none }
def eventRowsRow : OpenClaim := { program := "ytlclhinianamhaa", sum := "87ccd45f256d513db00841e0d4ac7b37a519a462935576e7d9f5311dc200b2dc", func := "catchment/catchmentlaw22.EventRows", spec := "eventRows", unfollowed := true, recurses := true, plainKeys := false, apart := false }
def EventRowsSaid : Prop := eventRowsRow.holds Try.pinned (OpenSpec.ofChange eventRowsSpec)

/-- ITS FALSE NEIGHBOUR: 'it returns false'. Refute it at one input. -/
def eventRowsWrong : ChangeSpec := { name := "eventRows", fn := fun _ => fun
  | [d1, d2] => { results := [.lit (.bool false)], args := [d1, d2] }
  | _ => none }
def EventRowsWrongFalsely : Prop := eventRowsRow.holds Try.pinned (OpenSpec.ofChange eventRowsWrong)

/-- 'catchmentlaw22.EventOwn': WHATEVER THE INPUT: true; the input reads as it did. -/
def eventOwnSpec : ChangeSpec := { name := "eventOwn", fn := fun _ => fun
  | [d1, d2] => { results := [.lit (.bool true)], args := [d1, d2] }
  | _ => none }
def eventOwnRow : OpenClaim := { program := "ytlclhinianamhaa", sum := "87ccd45f256d513db00841e0d4ac7b37a519a462935576e7d9f5311dc200b2dc", func := "catchment/catchmentlaw22.EventOwn", spec := "eventOwn", unfollowed := true, recurses := true, plainKeys := false, apart := false }
def EventOwnSaid : Prop := eventOwnRow.holds Try.pinned (OpenSpec.ofChange eventOwnSpec)

/-- ITS FALSE NEIGHBOUR: 'it returns false'. Refute it at one input. -/
def eventOwnWrong : ChangeSpec := { name := "eventOwn", fn := fun _ => fun
  | [d1, d2] => { results := [.lit (.bool false)], args := [d1, d2] }
  | _ => none }
def EventOwnWrongFalsely : Prop := eventOwnRow.holds Try.pinned (OpenSpec.ofChange eventOwnWrong)

/-- 'catchmentlaw22.EventRefused': WHATEVER THE INPUT: true; the input reads as it did. -/
def eventRefusedSpec : ChangeSpec := { name := "eventRefused", fn := fun _ => fun
  | [d1, d2, d3] => { results := [.lit (.bool true)], args := [d1, d2, d3] }
  | _ => none }
def eventRefusedRow : OpenClaim := { program := "ytlclhinianamhaa", sum := "87ccd45f256d513db00841e0d4ac7b37a519a462935576e7d9f5311dc200b2dc", func := "catchment/catchmentlaw22.EventRefused", spec := "eventRefused", unfollowed := true, recurses := true, plainKeys := false, apart := false }
def EventRefusedSaid : Prop := eventRefusedRow.holds Try.pinned (OpenSpec.ofChange eventRefusedSpec)

/-- ITS FALSE NEIGHBOUR: 'it returns false'. Refute it at one input. -/
def eventRefusedWrong : ChangeSpec := { name := "eventRefused", fn := fun _ => fun
  | [d1, d2, d3] => { results := [.lit (.bool false)], args := [d1, d2, d3] }
  | _ => none }
def EventRefusedWrongFalsely : Prop := eventRefusedRow.holds Try.pinned (OpenSpec.ofChange eventRefusedWrong)

/-- 'catchmentlaw22.EventPlays': WHATEVER THE INPUT: true; the input reads as it did. -/
def eventPlaysSpec : ChangeSpec := { name := "eventPlays", fn := fun _ => fun
  | [d1, d2, d3] => { results := [.lit (.bool true)], args := [d1, d2, d3] }
  | _ => none }
def eventPlaysRow : OpenClaim := { program := "ytlclhinianamhaa", sum := "87ccd45f256d513db00841e0d4ac7b37a519a462935576e7d9f5311dc200b2dc", func := "catchment/catchmentlaw22.EventPlays", spec := "eventPlays", unfollowed := true, recurses := true, plainKeys := false, apart := false }
def EventPlaysSaid : Prop := eventPlaysRow.holds Try.pinned (OpenSpec.ofChange eventPlaysSpec)

/-- ITS FALSE NEIGHBOUR: 'it returns false'. Refute it at one input. -/
def eventPlaysWrong : ChangeSpec := { name := "eventPlays", fn := fun _ => fun
  | [d1, d2, d3] => { results := [.lit (.bool false)], args := [d1, d2, d3] }
  | _ => none }
def EventPlaysWrongFalsely : Prop := eventPlaysRow.holds Try.pinned (OpenSpec.ofChange eventPlaysWrong)

/- THE SECOND FORM. 'bulk': how many values and letters a reading holds, each counted each time it is reached (what is shared counts as often as it is met; a slice's spare places count too). A statement '..UptoSaid' is the law's where the arguments, and the package variables that the reading takes, are together of bulk at most 1048576: NARROWER than '..Said'. Prove '..Said' where nothing that the law and all that it calls make is longer than what came in: it says more and counts as full. Else prove '..UptoSaid'. A law counts once. -/
mutual
def uptoBulk {H : Type} : DataW H → Nat
  | .lit (.string bytes) => bytes.length + 1
  | .lit _ => 1
  | .nil => 1
  | .ptr d => uptoBulk d + 1
  | .slice elems spare => uptoBulkAll elems + uptoBulkAll spare + 1
  | .agg parts => uptoBulkAll parts + 1
  | .iface _ d => uptoBulk d + 1
  | .map entries => uptoBulkEntries entries + 1
  | .held _ => 1
def uptoBulkAll {H : Type} : List (DataW H) → Nat
  | [] => 0
  | d :: r => uptoBulk d + uptoBulkAll r
def uptoBulkEntries {H : Type} : List (Lit × DataW H) → Nat
  | [] => 0
  | x :: r => uptoBulkEntry x + uptoBulkEntries r
def uptoBulkEntry {H : Type} : Lit × DataW H → Nat
  | (.string bytes, d) => bytes.length + uptoBulk d + 1
  | (_, d) => uptoBulk d + 1
 end
def uptoSmall : (H : Type) → List (DataW H) → Bool := fun _ ds => decide (uptoBulkAll ds ≤ 1048576)
def OpenSpec.upto (s : _root_.Go.ChangeSpec) : _root_.Go.OpenSpec := { _root_.Go.OpenSpec.ofChange s with cond := some uptoSmall }

/-- 'catchmentlaw22.EventChecks', WHERE WHAT IT READS IS OF BULK AT MOST 1048576: true; the input reads as it did. -/
def eventChecksUptoRow : OpenClaim := { program := "ytlclhinianamhaa", sum := "87ccd45f256d513db00841e0d4ac7b37a519a462935576e7d9f5311dc200b2dc", func := "catchment/catchmentlaw22.EventChecks", spec := "eventChecks", unfollowed := true, recurses := true, plainKeys := false, apart := false, narrowed := true }
def EventChecksUptoSaid : Prop := eventChecksUptoRow.holds Try.pinned (OpenSpec.upto eventChecksSpec)

/-- 'catchmentlaw22.EventLast', WHERE WHAT IT READS IS OF BULK AT MOST 1048576: true; the input reads as it did. -/
def eventLastUptoRow : OpenClaim := { program := "ytlclhinianamhaa", sum := "87ccd45f256d513db00841e0d4ac7b37a519a462935576e7d9f5311dc200b2dc", func := "catchment/catchmentlaw22.EventLast", spec := "eventLast", unfollowed := true, recurses := true, plainKeys := false, apart := false, narrowed := true }
def EventLastUptoSaid : Prop := eventLastUptoRow.holds Try.pinned (OpenSpec.upto eventLastSpec)

/-- 'catchmentlaw22.EventRows', WHERE WHAT IT READS IS OF BULK AT MOST 1048576: true; the input reads as it did. -/
def eventRowsUptoRow : OpenClaim := { program := "ytlclhinianamhaa", sum := "87ccd45f256d513db00841e0d4ac7b37a519a462935576e7d9f5311dc200b2dc", func := "catchment/catchmentlaw22.EventRows", spec := "eventRows", unfollowed := true, recurses := true, plainKeys := false, apart := false, narrowed := true }
def EventRowsUptoSaid : Prop := eventRowsUptoRow.holds Try.pinned (OpenSpec.upto eventRowsSpec)

/-- 'catchmentlaw22.EventOwn', WHERE WHAT IT READS IS OF BULK AT MOST 1048576: true; the input reads as it did. -/
def eventOwnUptoRow : OpenClaim := { program := "ytlclhinianamhaa", sum := "87ccd45f256d513db00841e0d4ac7b37a519a462935576e7d9f5311dc200b2dc", func := "catchment/catchmentlaw22.EventOwn", spec := "eventOwn", unfollowed := true, recurses := true, plainKeys := false, apart := false, narrowed := true }
def EventOwnUptoSaid : Prop := eventOwnUptoRow.holds Try.pinned (OpenSpec.upto eventOwnSpec)

/-- 'catchmentlaw22.EventRefused', WHERE WHAT IT READS IS OF BULK AT MOST 1048576: true; the input reads as it did. -/
def eventRefusedUptoRow : OpenClaim := { program := "ytlclhinianamhaa", sum := "87ccd45f256d513db00841e0d4ac7b37a519a462935576e7d9f5311dc200b2dc", func := "catchment/catchmentlaw22.EventRefused", spec := "eventRefused", unfollowed := true, recurses := true, plainKeys := false, apart := false, narrowed := true }
def EventRefusedUptoSaid : Prop := eventRefusedUptoRow.holds Try.pinned (OpenSpec.upto eventRefusedSpec)

/-- 'catchmentlaw22.EventPlays', WHERE WHAT IT READS IS OF BULK AT MOST 1048576: true; the input reads as it did. -/
def eventPlaysUptoRow : OpenClaim := { program := "ytlclhinianamhaa", sum := "87ccd45f256d513db00841e0d4ac7b37a519a462935576e7d9f5311dc200b2dc", func := "catchment/catchmentlaw22.EventPlays", spec := "eventPlays", unfollowed := true, recurses := true, plainKeys := false, apart := false, narrowed := true }
def EventPlaysUptoSaid : Prop := eventPlaysUptoRow.holds Try.pinned (OpenSpec.upto eventPlaysSpec)

end Rows
end Go.Proofs.Ytlclhinianamhaa
