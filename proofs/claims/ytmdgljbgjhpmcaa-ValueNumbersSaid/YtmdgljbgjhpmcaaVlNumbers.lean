/- value: ValueNumbers. -/
import Derived.Test.YtmdgljbgjhpmcaaVlAlive
namespace Go.Proofs.Ytmdgljbgjhpmcaa
open Go.RowKit
set_option linter.unusedVariables false

set_option maxRecDepth 100000 in
set_option maxHeartbeats 4000000 in
theorem valueNumbers (a b : Int) (w : World) (ha : -9223372036854775808 ≤ a ∧ a ≤ 9223372036854775807) (hb : -9223372036854775808 ≤ b ∧ b ≤ 9223372036854775807) :
    Calls Try.prog 6 #[.int .i64 a, .int .i64 b] w (TruthPost w) := by
  obtain ⟨i1, i2, i3, i4⟩ := assertsI64
  obtain ⟨b1, b2, b3, b4⟩ := assertsBool
  obtain ⟨s1, s2, s3, s4⟩ := assertsStr
  have haa : (a == a) = true := by simp
  have hna : (a != a) = false := by simp
  have hnb : (b != b) = false := by simp
  clear ha hb
  go_enter Try.func6, Try.ntmps6
  go_wp2_with fail
  refine (alive_calls _).mono ?_
  rintro e w1 ⟨rfl, hb1⟩
  have B1 := Lib.hid hb1
  clear hb1
  by_cases h1 : a < b
  · have h2 : ¬ b < a := by omega
    go_wp2
    go_ret
    exact ⟨rfl, B1.out⟩
  · by_cases h2 : b < a
    · go_wp2
      go_ret
      exact ⟨rfl, B1.out⟩
    · go_wp2
      go_ret
      exact ⟨rfl, B1.out⟩
end Go.Proofs.Ytmdgljbgjhpmcaa
