/- value: And, Or, Not, Is. Whether a value that stands in a row is a text. -/
import Derived.Test.YtkofaoaglnjkgaaVlKit
import Derived.Test.YtkofaoaglnjkgaaVlOrdP
import Derived.Test.YtkofaoaglnjkgaaVlFix
import Derived.Test.YtkofaoaglnjkgaaVlCmp
namespace Go.Proofs.Ytkofaoaglnjkgaa
open Go.RowKit
set_option linter.unusedVariables false
set_option linter.unusedSimpArgs false

def th (a : Int) : Int := if 2 < a then 1 else a
theorem th_cases (a : Int) (h : 0 ≤ a) : th a = 0 ∨ th a = 1 ∨ th a = 2 := by unfold th; split <;> omega
def IntIs (k : IntKind) (r : Int) (w : World) (e : Ending) (w' : World) : Prop := e = .returned (.int k r) ∧ w' = w
theorem intIs {k : IntKind} {r x : Int} (h : x = r) : Ending.returned (.int k x) = .returned (.int k r) := by rw [h]
set_option maxHeartbeats 1000000 in
theorem and_calls (a b p q r : Int) (w : World) (hp : th a = p) (hq : th b = q) (hr : min p q = r) : Calls Try.prog 59 #[.int .u8 a, .int .u8 b] w (IntIs .u8 r w) := by
  subst hp hq hr
  by_cases h1 : 2 < a
  · by_cases h2 : 2 < b
    · go_enter Try.func59, Try.ntmps59
      go_wp2
      all_goals (go_ret; exact ⟨intIs (by unfold th; (repeat' split) <;> omega), rfl⟩)
    · go_enter Try.func59, Try.ntmps59
      go_wp2
      all_goals (go_ret; exact ⟨intIs (by unfold th; (repeat' split) <;> omega), rfl⟩)
  · by_cases h2 : 2 < b
    · go_enter Try.func59, Try.ntmps59
      go_wp2
      all_goals (go_ret; exact ⟨intIs (by unfold th; (repeat' split) <;> omega), rfl⟩)
    · go_enter Try.func59, Try.ntmps59
      go_wp2
      all_goals (go_ret; exact ⟨intIs (by unfold th; (repeat' split) <;> omega), rfl⟩)
set_option maxHeartbeats 1000000 in
theorem or_calls (a b p q r : Int) (w : World) (hp : th a = p) (hq : th b = q) (hr : max p q = r) : Calls Try.prog 60 #[.int .u8 a, .int .u8 b] w (IntIs .u8 r w) := by
  subst hp hq hr
  by_cases h1 : 2 < a
  · by_cases h2 : 2 < b
    · go_enter Try.func60, Try.ntmps60
      go_wp2
      all_goals (go_ret; exact ⟨intIs (by unfold th; (repeat' split) <;> omega), rfl⟩)
    · go_enter Try.func60, Try.ntmps60
      go_wp2
      all_goals (go_ret; exact ⟨intIs (by unfold th; (repeat' split) <;> omega), rfl⟩)
  · by_cases h2 : 2 < b
    · go_enter Try.func60, Try.ntmps60
      go_wp2
      all_goals (go_ret; exact ⟨intIs (by unfold th; (repeat' split) <;> omega), rfl⟩)
    · go_enter Try.func60, Try.ntmps60
      go_wp2
      all_goals (go_ret; exact ⟨intIs (by unfold th; (repeat' split) <;> omega), rfl⟩)
theorem isTrue_calls (w : World) : Calls Try.prog 70 #[.bool true] w (IntIs .u8 2 w) := by
  go_enter Try.func70, Try.ntmps70
  go_wp2
  go_ret
  exact ⟨rfl, rfl⟩
theorem isFalse_calls (w : World) : Calls Try.prog 70 #[.bool false] w (IntIs .u8 0 w) := by
  go_enter Try.func70, Try.ntmps70
  go_wp2
  go_ret
  exact ⟨rfl, rfl⟩
theorem is_calls (x : Bool) (r : Int) (w : World) (hr : (if x = true then (2 : Int) else 0) = r) : Calls Try.prog 70 #[.bool x] w (IntIs .u8 r w) := by
  subst hr
  cases x
  · exact isFalse_calls w
  · exact isTrue_calls w
end Go.Proofs.Ytkofaoaglnjkgaa

namespace Go.Proofs.Ytkofaoaglnjkgaa
open Go.RowKit Go.Deep
set_option linter.unusedVariables false
set_option linter.unusedSimpArgs false

def textOf : ValD → ByteArray | .text s => s | _ => ByteArray.empty
def isText : ValD → Bool | .text _ => true | _ => false
theorem isText_kind (d : ValD) : isText d = decide (d.cell.kind = 3) := by cases d <;> rfl
theorem textOf_cell (d : ValD) (h : isText d = true) : textOf d = d.cell.s := by cases d <;> simp [isText] at h; rfl
theorem isText_iff (d : ValD) : isText d = true ↔ d.cell.kind = 3 := by rw [isText_kind]; simp
/-- The assertion's run, for any value. -/
def AssertText (v : Value) (s : ByteArray) (b : Bool) : Prop := ∀ (xT : TypeId) (W : World), (Instr.typeAssert v xT 9 true).run Try.prog W = .ok (.tuple #[.string s, .bool b]) W
theorem assertText (d : ValD) : AssertText d.val (textOf d) (isText d) := by
  obtain ⟨s1, s2, s3, s4⟩ := assertsStr
  intro xT W
  cases d
  · exact s4 _ _
  · exact s3 _ (by decide) _ _ _
  · exact s3 _ (by decide) _ _ _
  · exact s1 _ _ _
theorem chk_size {c : CellD} (h : chk c = 0) : c.s.size ≤ 64 := by
  unfold chk at h
  by_cases h1 : 3 < c.kind
  · rw [if_pos h1] at h; omega
  · rw [if_neg h1] at h
    by_cases h2 : (c.kind ≠ 3 ∧ c.s.size ≠ 0) ∨ (c.kind ≠ 1 ∧ c.kind ≠ 2 ∧ c.n ≠ 0) ∨ (c.kind = 2 ∧ c.n ≠ 0 ∧ c.n ≠ 1)
    · rw [if_pos h2] at h; omega
    · rw [if_neg h2] at h
      by_cases h3 : 64 < c.s.size
      · rw [if_pos h3] at h; omega
      · omega
theorem fix_size (c : CellD) : (fix c).s.size ≤ 64 := by
  unfold fix
  by_cases h : chk c = 0
  · rw [if_pos h]; exact chk_size h
  · rw [if_neg h]; exact Nat.zero_le _
theorem fix_fix (c : CellD) : fix (fix c) = fix c := by
  unfold fix
  by_cases h : chk c = 0
  · rw [if_pos h, if_pos h]
  · rw [if_neg h]; rfl
theorem fix_kind (c : CellD) (h0 : 0 ≤ c.kind) : 0 ≤ (fix c).kind ∧ (fix c).kind ≤ 3 := by
  unfold fix
  by_cases h : chk c = 0
  · rw [if_pos h]
    refine ⟨h0, ?_⟩
    unfold chk at h
    by_cases h1 : 3 < c.kind
    · rw [if_pos h1] at h; omega
    · omega
  · rw [if_neg h]; decide
theorem fix_kind0 (c : CellD) (h : (fix c).kind = 0) : fix c = zeroCell := by
  by_cases hc : chk c = 0
  · have hf : fix c = c := by unfold fix; rw [if_pos hc]
    rw [hf] at h ⊢
    obtain ⟨k, n, s⟩ := c
    obtain rfl : k = 0 := h
    unfold chk at hc
    by_cases h2 : n = 0
    · by_cases h3 : s.size = 0
      · subst h2; rw [empty_of h3]; rfl
      · simp [h3] at hc
    · simp [h2] at hc
  · unfold fix; rw [if_neg hc]
end Go.Proofs.Ytkofaoaglnjkgaa
