/- The contract of catchmentref02.Above. -/
import Derived.Test.YtlclhinianamhaaSgBytes
import Derived.Deep.RegionHeld3
import Derived.Laws.IdiomStrings
import Derived.StillTailTactics
namespace Go.Proofs.Ytlclhinianamhaa
open Go.RowKit Go.Deep
set_option linter.unusedVariables false
set_option linter.unusedSimpArgs false

/-- What lies above the first k signs. -/
noncomputable def aboveK (s : ByteArray) : Nat → Option ByteArray
  | 0 => none
  | k + 1 => if rn s (P s k) < 1114111 then some (s.extract 0 (P s k) ++ Utf8.encode (nextF (rn s (P s k)) : Nat)) else aboveK s k
noncomputable def aboveF (s : ByteArray) (n : Int) : ByteArray × Bool :=
  if clean s = false then (ByteArray.empty, false) else if (N s : Int) ≤ n then (s, true)
  else match aboveK s n.toNat with
    | some a => (a, true)
    | none => (ByteArray.empty, false)
def AbovePost (s : ByteArray) (n : Int) (w : World) (e : Ending) (w' : World) : Prop := e = .returned (.tuple #[.string (aboveF s n).1, .bool (aboveF s n).2]) ∧ Below w.heap.size w w'
def bCells (b : ByteArray) : Array Value := (b.data.toList.map fun b => Value.int .u8 (b.toNat : Int)).toArray
def BPost (E : ByteArray) (w : World) (e : Ending) (w' : World) : Prop := e = .returned (.slice (some ⟨w.heap.size, 0, none⟩) E.size E.size) ∧ w' = w.alloc (.cells (bCells E) 5)
theorem step_conv {P : Program} {ops : Array Oper} {o : Oper} {a : Act} {w : World} {K : Act → World → Prop} {Q : Exit → Act → World → Prop} {E : Prop} (hgd : o.guard = none) (src dst : TypeId) (x : Operand)
    (ho : o.op = .convert src dst x) (v r : Value) (hx : a.eval x = v) (hrun : (convert src dst v).run P w = .ok r w) (h : K (a.put o.dst r) w) :
    if Region.wanted o (yielded ops a.tmps) = true then Oper.wp P o a w K Q else E := by
  have hw : Region.wanted o (yielded ops a.tmps) = true := by simp [Region.wanted, hgd]
  rw [if_pos hw]
  unfold Oper.wp execOp
  simp only [ho, Sem.run_bind, Sem.run_pure, Result.andThen_ok, hx, hrun]
  exact h
theorem nextF_ok (c : Nat) (h : c < 1114111) (hs : ¬ (55296 ≤ c ∧ c < 57344)) : nextF c ≤ 1114111 ∧ ¬ (55296 ≤ nextF c ∧ nextF c < 57344) := by
  unfold nextF; split <;> omega
theorem enc_size4 (c : Nat) : (Utf8.encode (c : Int)).size ≤ 4 := encode_size_le _

end Go.Proofs.Ytlclhinianamhaa
