/- What predicates say, in plain words. -/
import Derived.Test.YtkofaoaglnjkgaaBase
import Derived.Test.YtkofaoaglnjkgaaVlBase
import Derived.Test.YtkofaoaglnjkgaaSgTop
import Derived.Test.YtkofaoaglnjkgaaSgBase
namespace Go.Proofs.Ytkofaoaglnjkgaa
open Go.RowKit Go.Deep
set_option linter.unusedVariables false
set_option linter.unusedSimpArgs false

/-- Which of the three answers are left. -/
structure B3 where
  no : Bool
  un : Bool
  ye : Bool
def B3.cells (b : B3) : Array Value := #[.bool b.no, .bool b.un, .bool b.ye]
def B3.get (b : B3) (i : Nat) : Bool := if i = 0 then b.no else if i = 1 then b.un else b.ye
def partB (g : Nat → Nat → Nat) (a b : B3) (m : Nat) : B3 :=
  ⟨(List.range m).any fun q => a.get (q / 3) && b.get (q % 3) && decide (g (q / 3) (q % 3) = 0), (List.range m).any fun q => a.get (q / 3) && b.get (q % 3) && decide (g (q / 3) (q % 3) = 1), (List.range m).any fun q => a.get (q / 3) && b.get (q % 3) && decide (g (q / 3) (q % 3) = 2)⟩
def bothB (g : Nat → Nat → Nat) (a b : B3) : B3 := partB g a b 9
theorem partB_miss {g : Nat → Nat → Nat} {a b : B3} {m : Nat} (h : (a.get (m / 3) && b.get (m % 3)) = false) : partB g a b (m + 1) = partB g a b m := by
  unfold partB
  simp [List.range_succ, h]
theorem partB_hit {g : Nat → Nat → Nat} {a b : B3} {m : Nat} (h : (a.get (m / 3) && b.get (m % 3)) = true) (hg : g (m / 3) (m % 3) ≤ 2) : (partB g a b (m + 1)).cells = (partB g a b m).cells.setIfInBounds (g (m / 3) (m % 3)) (.bool true) := by
  unfold partB B3.cells
  have h3 : g (m / 3) (m % 3) = 0 ∨ g (m / 3) (m % 3) = 1 ∨ g (m / 3) (m % 3) = 2 := by omega
  rcases h3 with h3 | h3 | h3 <;> simp [List.range_succ, h, h3]

/-- Does a value fit to a node? -/
noncomputable def fitsF (op : Nat) (v x : CellD) : Nat :=
  if op = 5 then (if x.kind = 0 then 2 else 0)
  else if x.kind = 0 then 1
  else if op = 1 then (if cmpC x v = 0 then 2 else 0)
  else if op = 2 then (if LessC x v then 2 else 0)
  else if op = 3 then (if LessC v x then 0 else 2)
  else if op = 4 then (if x.kind = 3 ∧ v.kind = 3 ∧ likeB x.s v.s = true then 2 else 0)
  else 1
/-- A node's own answer, for a row. -/
noncomputable def leafF (fs : List FieldD) (row : List CellD) (p : PredD) : Nat :=
  if placeI fs p.field < 0 then 1 else match row[(placeI fs p.field).toNat]? with | none => 1 | some x => fitsF p.op (fix p.value) x
noncomputable def evalN (fs : List FieldD) (row : List CellD) : Nat → PredD → Nat
  | 0, _ => 1
  | d + 1, p =>
    if p.op = 6 then p.kids.foldl (fun n k => min n (evalN fs row d k)) 2
    else if p.op = 7 then p.kids.foldl (fun n k => max n (evalN fs row d k)) 0
    else if p.op = 8 then (match p.kids with | [] => 1 | k :: _ => 2 - evalN fs row d k)
    else leafF fs row p
/-- Which answers statistics leave of a node with a field. -/
noncomputable def mayF (op : Nat) (v : CellD) (st : StatD) : B3 :=
  if op = 5 then ⟨st.some, false, decide (0 < st.nulls)⟩
  else if st.some = false then ⟨false, decide (0 < st.nulls), false⟩
  else
    let under := cmpC v (fix st.min)
    let over := if st.high = true then cmpC (fix st.max) v else 1
    if op = 1 then ⟨decide (under ≠ 0) || decide (over ≠ 0) || (decide (v.kind = 3) && decide (4 ≤ N v.s)), decide (0 < st.nulls), decide (0 ≤ under) && decide (0 ≤ over)⟩
    else if op = 2 then ⟨decide (0 ≤ over), decide (0 < st.nulls), decide (0 < under)⟩
    else if op = 3 then ⟨decide (0 < over), decide (0 < st.nulls), decide (0 ≤ under)⟩
    else if op = 4 then ⟨true, decide (0 < st.nulls), true⟩
    else ⟨true, true, true⟩
noncomputable def mleafF (fs : List FieldD) (sts : List StatD) (p : PredD) : B3 :=
  if placeI fs p.field < 0 then ⟨true, true, true⟩ else match sts[(placeI fs p.field).toNat]? with | none => ⟨true, true, true⟩ | some st => mayF p.op (fix p.value) st
noncomputable def mayN (fs : List FieldD) (sts : List StatD) : Nat → PredD → B3
  | 0, _ => ⟨true, true, true⟩
  | d + 1, p =>
    if p.op = 6 then p.kids.foldl (fun n k => bothB min n (mayN fs sts d k)) ⟨false, false, true⟩
    else if p.op = 7 then p.kids.foldl (fun n k => bothB max n (mayN fs sts d k)) ⟨true, false, false⟩
    else if p.op = 8 then (match p.kids with | [] => ⟨false, true, false⟩ | k :: _ => ⟨(mayN fs sts d k).ye, (mayN fs sts d k).un, (mayN fs sts d k).no⟩)
    else mleafF fs sts p
end Go.Proofs.Ytkofaoaglnjkgaa
