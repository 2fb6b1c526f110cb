/- The contract of catchmentlaw01.Value. -/
import Derived.Test.YtkofaoaglnjkgaaVlFix
namespace Go.Proofs.Ytkofaoaglnjkgaa
open Go.RowKit Go.Deep
set_option linter.unusedVariables false
set_option linter.unusedSimpArgs false

/-- What a fixed cell is worth. -/
def valOfFix (c : CellD) : ValD := valOf (fix c)
theorem valOfFix_eq (c : CellD) : valOfFix c = goodVal c := by
  unfold valOfFix fix goodVal
  by_cases hc : chk c = 0
  · rw [if_pos hc, if_pos hc]
  · rw [if_neg hc, if_neg hc]; rfl
theorem fix_kinds (c : CellD) (h0 : 0 ≤ c.kind) : (fix c).kind = 0 ∨ (fix c).kind = 1 ∨ (fix c).kind = 2 ∨ (fix c).kind = 3 := by
  unfold fix
  by_cases hc : chk c = 0
  · rw [if_pos hc]
    have hk : ¬ 3 < c.kind := by intro h; simp [chk, h] at hc
    omega
  · rw [if_neg hc]; exact .inl rfl
end Go.Proofs.Ytkofaoaglnjkgaa
