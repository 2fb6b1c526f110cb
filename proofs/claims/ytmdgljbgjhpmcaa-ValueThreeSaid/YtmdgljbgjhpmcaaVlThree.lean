/- value: And, Or, Not, Is, catchmentref01.Three; ValueThree. -/
import Derived.Test.YtmdgljbgjhpmcaaVlAlive
namespace Go.Proofs.Ytmdgljbgjhpmcaa
open Go.RowKit
set_option linter.unusedVariables false

def th (a : Int) : Int := if 2 < a then 1 else a
theorem th_cases (a : Int) (h : 0 ≤ a) : th a = 0 ∨ th a = 1 ∨ th a = 2 := by unfold th; split <;> omega
def IntIs (k : IntKind) (r : Int) (w : World) (e : Ending) (w' : World) : Prop := e = .returned (.int k r) ∧ w' = w
theorem intIs {k : IntKind} {r x : Int} (h : x = r) : Ending.returned (.int k x) = .returned (.int k r) := by rw [h]
set_option maxHeartbeats 1000000 in
theorem and_calls (a b p q r : Int) (w : World) (hp : th a = p) (hq : th b = q) (hr : min p q = r) : Calls Try.prog 22 #[.int .u8 a, .int .u8 b] w (IntIs .u8 r w) := by
  subst hp hq hr
  by_cases h1 : 2 < a
  · by_cases h2 : 2 < b
    · go_enter Try.func22, Try.ntmps22
      go_wp2
      all_goals (go_ret; exact ⟨intIs (by unfold th; (repeat' split) <;> omega), rfl⟩)
    · go_enter Try.func22, Try.ntmps22
      go_wp2
      all_goals (go_ret; exact ⟨intIs (by unfold th; (repeat' split) <;> omega), rfl⟩)
  · by_cases h2 : 2 < b
    · go_enter Try.func22, Try.ntmps22
      go_wp2
      all_goals (go_ret; exact ⟨intIs (by unfold th; (repeat' split) <;> omega), rfl⟩)
    · go_enter Try.func22, Try.ntmps22
      go_wp2
      all_goals (go_ret; exact ⟨intIs (by unfold th; (repeat' split) <;> omega), rfl⟩)
set_option maxHeartbeats 1000000 in
theorem or_calls (a b p q r : Int) (w : World) (hp : th a = p) (hq : th b = q) (hr : max p q = r) : Calls Try.prog 23 #[.int .u8 a, .int .u8 b] w (IntIs .u8 r w) := by
  subst hp hq hr
  by_cases h1 : 2 < a
  · by_cases h2 : 2 < b
    · go_enter Try.func23, Try.ntmps23
      go_wp2
      all_goals (go_ret; exact ⟨intIs (by unfold th; (repeat' split) <;> omega), rfl⟩)
    · go_enter Try.func23, Try.ntmps23
      go_wp2
      all_goals (go_ret; exact ⟨intIs (by unfold th; (repeat' split) <;> omega), rfl⟩)
  · by_cases h2 : 2 < b
    · go_enter Try.func23, Try.ntmps23
      go_wp2
      all_goals (go_ret; exact ⟨intIs (by unfold th; (repeat' split) <;> omega), rfl⟩)
    · go_enter Try.func23, Try.ntmps23
      go_wp2
      all_goals (go_ret; exact ⟨intIs (by unfold th; (repeat' split) <;> omega), rfl⟩)
set_option maxHeartbeats 1000000 in
theorem not_calls (a p r : Int) (w : World) (h0 : 0 ≤ a) (hp : th a = p) (hr : 2 - p = r) : Calls Try.prog 24 #[.int .u8 a] w (IntIs .u8 r w) := by
  subst hp hr
  by_cases h1 : 2 < a
  · go_enter Try.func24, Try.ntmps24
    go_wp2
    all_goals (go_ret; exact ⟨intIs (by unfold th; (repeat' split) <;> omega), rfl⟩)
  · go_enter Try.func24, Try.ntmps24
    go_wp2
    all_goals (go_ret; exact ⟨intIs (by unfold th; (repeat' split) <;> omega), rfl⟩)
set_option maxHeartbeats 1000000 in
theorem refThree (a p : Int) (w : World) (hp : th a = p) : Calls Try.prog 21 #[.int .i64 a] w (IntIs .i64 p w) := by
  subst hp
  by_cases h1 : 2 < a
  · go_enter Try.func21, Try.ntmps21
    go_wp2
    all_goals (go_ret; exact ⟨intIs (by unfold th; (repeat' split) <;> omega), rfl⟩)
  · go_enter Try.func21, Try.ntmps21
    go_wp2
    all_goals (go_ret; exact ⟨intIs (by unfold th; (repeat' split) <;> omega), rfl⟩)
theorem isTrue_calls (w : World) : Calls Try.prog 25 #[.bool true] w (IntIs .u8 2 w) := by
  go_enter Try.func25, Try.ntmps25
  go_wp2
  go_ret
  exact ⟨rfl, rfl⟩
theorem isFalse_calls (w : World) : Calls Try.prog 25 #[.bool false] w (IntIs .u8 0 w) := by
  go_enter Try.func25, Try.ntmps25
  go_wp2
  go_ret
  exact ⟨rfl, rfl⟩
theorem is_calls (x : Bool) (r : Int) (w : World) (hr : (if x = true then (2 : Int) else 0) = r) : Calls Try.prog 25 #[.bool x] w (IntIs .u8 r w) := by
  subst hr
  cases x
  · exact isFalse_calls w
  · exact isTrue_calls w
end Go.Proofs.Ytmdgljbgjhpmcaa
