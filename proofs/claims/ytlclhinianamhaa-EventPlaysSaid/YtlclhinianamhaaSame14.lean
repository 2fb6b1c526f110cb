/- The contracts of catchmentref12.Texts and catchmentref14.SameSnap. -/
import Derived.Test.YtlclhinianamhaaGreat14m
import Derived.BigQuiet
import Derived.Lib.Strings
import Derived.Deep.QuietTactic
namespace Go.Proofs.Ytlclhinianamhaa
open Go.RowKit Go.Deep
set_option linter.unusedVariables false
set_option linter.unusedSimpArgs false

def TextsIs (w : World) (xs ys : List ByteArray) (e : Ending) (w' : World) : Prop := e = .returned (.bool (decide (xs = ys))) ∧ ∃ k, w' = w.drewN k
theorem bytes_ne {x y : ByteArray} (h : x ≠ y) : (x.toList == y.toList) = false := by
  rw [beq_eq_false_iff_ne, Lib.toList_data, Lib.toList_data]
  intro hc
  apply h
  cases x; cases y
  simp_all
theorem take_step {α : Type} {xs ys : List α} {k : Nat} {x : α} (h : xs.take k = ys.take k) (hx : xs[k]? = some x) (hy : ys[k]? = some x) : xs.take (k + 1) = ys.take (k + 1) := by
  rw [List.take_add_one, List.take_add_one, h, hx, hy]

def sameSnapB (s t : SnapD) : Bool := decide (s.id = t.id) && decide (s.parent = t.parent) && decide (s.seq = t.seq) && decide (s.offset = t.offset) && decide (s.time = t.time) && decide (s.schema = t.schema) && decide (s.mans = t.mans)
def SamePost (s t : SnapD) (w : World) (e : Ending) (w' : World) : Prop := e = .returned (.bool (sameSnapB s t)) ∧ Below w.heap.size w w'

end Go.Proofs.Ytlclhinianamhaa
