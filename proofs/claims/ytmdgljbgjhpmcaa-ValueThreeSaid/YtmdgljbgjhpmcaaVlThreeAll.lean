/- value: ValueThree. -/
import Derived.Test.YtmdgljbgjhpmcaaVlThree0
import Derived.Test.YtmdgljbgjhpmcaaVlThree1
import Derived.Test.YtmdgljbgjhpmcaaVlThree2
namespace Go.Proofs.Ytmdgljbgjhpmcaa
open Go.RowKit
set_option linter.unusedVariables false

theorem valueThree (a b c : Int) (w : World) (ha : 0 ≤ a ∧ a ≤ 255) (hb : 0 ≤ b ∧ b ≤ 255) (hc : 0 ≤ c ∧ c ≤ 255) : Calls Try.prog 8 #[.int .u8 a, .int .u8 b, .int .u8 c] w (TruthPost w) := by
  rcases th_cases a ha.1 with h1 | h1 | h1 <;> rcases th_cases b hb.1 with h2 | h2 | h2 <;> rcases th_cases c hc.1 with h3 | h3 | h3
  · exact three000 a b c w ha hb hc h1 h2 h3
  · exact three001 a b c w ha hb hc h1 h2 h3
  · exact three002 a b c w ha hb hc h1 h2 h3
  · exact three010 a b c w ha hb hc h1 h2 h3
  · exact three011 a b c w ha hb hc h1 h2 h3
  · exact three012 a b c w ha hb hc h1 h2 h3
  · exact three020 a b c w ha hb hc h1 h2 h3
  · exact three021 a b c w ha hb hc h1 h2 h3
  · exact three022 a b c w ha hb hc h1 h2 h3
  · exact three100 a b c w ha hb hc h1 h2 h3
  · exact three101 a b c w ha hb hc h1 h2 h3
  · exact three102 a b c w ha hb hc h1 h2 h3
  · exact three110 a b c w ha hb hc h1 h2 h3
  · exact three111 a b c w ha hb hc h1 h2 h3
  · exact three112 a b c w ha hb hc h1 h2 h3
  · exact three120 a b c w ha hb hc h1 h2 h3
  · exact three121 a b c w ha hb hc h1 h2 h3
  · exact three122 a b c w ha hb hc h1 h2 h3
  · exact three200 a b c w ha hb hc h1 h2 h3
  · exact three201 a b c w ha hb hc h1 h2 h3
  · exact three202 a b c w ha hb hc h1 h2 h3
  · exact three210 a b c w ha hb hc h1 h2 h3
  · exact three211 a b c w ha hb hc h1 h2 h3
  · exact three212 a b c w ha hb hc h1 h2 h3
  · exact three220 a b c w ha hb hc h1 h2 h3
  · exact three221 a b c w ha hb hc h1 h2 h3
  · exact three222 a b c w ha hb hc h1 h2 h3
end Go.Proofs.Ytmdgljbgjhpmcaa
