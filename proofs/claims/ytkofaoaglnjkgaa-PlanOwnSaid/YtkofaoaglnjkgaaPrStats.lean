/- The contract of pred.Stats. -/
import Derived.Test.YtkofaoaglnjkgaaPrPlain
import Derived.Test.YtkofaoaglnjkgaaBase
import Derived.Test.YtkofaoaglnjkgaaVlBase
import Derived.Test.YtkofaoaglnjkgaaVlCmpm
import Derived.Test.YtkofaoaglnjkgaaSgTop
import Derived.Handy
namespace Go.Proofs.Ytkofaoaglnjkgaa
open Go.RowKit Go.Deep
set_option linter.unusedVariables false
set_option linter.unusedSimpArgs false

def ValR : Rd ValD := fun _ cs d => cs = [d.val]
theorem ValR.stable : Stable ValR := fun _ _ _ _ _ h => h
def stCells (n nl : Nat) (sm : Bool) : Array Value := #[.int .i64 (n : Int), .int .i64 (nl : Int), .bool sm, .bool false, .int .u8 0, .int .i64 0, .string ⟨#[]⟩, .int .u8 0, .int .i64 0, .string ⟨#[]⟩]
theorem stCells_nulls (n nl : Nat) (sm : Bool) : (stCells n nl sm).setIfInBounds 1 (.int .i64 ((nl : Int) + 1)) = stCells n (nl + 1) sm := by simp [stCells]
theorem stCells_some (n nl : Nat) (sm : Bool) : (stCells n nl sm).setIfInBounds 2 (.bool true) = stCells n nl true := by simp [stCells]
theorem stc_some {w : World} {b n nl : Nat} {sm : Bool} (h : CellsAt w b ((stCells n nl sm).setIfInBounds 2 (.bool true))) : CellsAt w b (stCells n nl true) := by rw [stCells_some] at h; exact h
theorem stc_nulls {w : World} {b n nl : Nat} {sm : Bool} (h : CellsAt w b ((stCells n nl sm).setIfInBounds 1 (.int .i64 ((nl : Int) + 1)))) : CellsAt w b (stCells n (nl + 1) sm) := by rw [stCells_nulls] at h; exact h
theorem step_null {nl : Nat} {sm ok : Bool} {lc mc c : CellD} (h : c.kind = 0) : (StF.mk nl sm lc mc ok).step c = ⟨nl + 1, sm, lc, mc, ok⟩ := by unfold StF.step; rw [if_pos h]
theorem step_some {nl : Nat} {sm ok : Bool} {lc mc c : CellD} (h : c.kind ≠ 0) {l2 m2 : CellD} {ok2 : Bool} (hl : (if sm = false ∨ LessC c lc then c else lc) = l2) (hm : (if sm = false ∨ LessC mc c then c else mc) = m2) (ho : (ok && (if c.kind = 3 then clean c.s else true)) = ok2) : (StF.mk nl sm lc mc ok).step c = ⟨nl, true, l2, m2, ok2⟩ := by
  unfold StF.step; rw [if_neg h]; simp only [hl, hm, ho]
end Go.Proofs.Ytkofaoaglnjkgaa
