/- signs: SignsCounts and SignsAbove. -/
import Derived.Test.YtocjmllbbpfidaaSgAlive
namespace Go.Proofs.Ytocjmllbbpfidaa
open Go.RowKit Go.Deep
set_option linter.unusedVariables false

theorem list_self (s : ByteArray) : (s.toList == s.toList) = true := by simp
set_option maxRecDepth 100000 in
set_option maxHeartbeats 4000000 in
theorem signsCounts (s : ByteArray) (n : Int) (w : World) (hs : s.size ≤ maxLen) (hn : -9223372036854775808 ≤ n ∧ n ≤ 9223372036854775807) :
    Calls Try.prog 3 #[.string s, .int .i64 n] w (TruthPost w) := by
  go_enter Try.func3, Try.ntmps3
  go_wp2_with fail
  refine (alive_calls _).mono ?_
  rintro e w1 ⟨rfl, hb1⟩
  have B1 := Lib.hid hb1
  clear hb1
  by_cases hbig : 3000 < s.size
  · go_wp2
    go_ret
    exact ⟨rfl, B1.out⟩
  · go_wp2_with fail
    refine (signs_calls s _ (by omega)).mono ?_
    rintro e w2 ⟨lv, av, rfl, hol, hoa, hb2, hne⟩
    obtain ⟨al, cl, rfl, hl1, hl2, hl3⟩ := own_slice hol
    have B2 := Lib.hid (B1.out.trans (hb2.mono B1.out.size))
    clear hol hoa hb2 hne hl3
    go_wp2_with fail
    refine (count_calls s _ (by omega)).mono ?_
    rintro e w3 ⟨rfl, hb3⟩
    have B3 := Lib.hid (B2.out.trans (hb3.mono B2.out.size))
    clear hb3
    have hNN : ((N s : Int) == (N s : Int)) = true := by simp
    go_wp2_with fail
    refine (clean_calls s _ (by omega)).mono ?_
    rintro e w4 ⟨rfl, hb4⟩
    have B4 := Lib.hid (B3.out.trans (hb4.mono B3.out.size))
    clear hb4
    generalize clean s = cb
    have hcc : (cb == cb) = true := by simp
    go_wp2_with fail
    refine (first_calls s n _ (by omega) hn).mono ?_
    rintro e w5 ⟨rfl, hb5⟩
    have B5 := Lib.hid (B4.out.trans (hb5.mono B4.out.size))
    clear hb5
    go_wp2_with fail
    refine (refFirst s n _ (by omega)).mono ?_
    rintro e w6 ⟨rfl, hb6⟩
    have B6 := Lib.hid (B5.out.trans (hb6.mono B5.out.size))
    clear hb6
    generalize firstF s n = f
    have hff := list_self f
    go_wp2
    go_ret
    exact ⟨rfl, B6.out⟩

set_option maxRecDepth 100000 in
set_option maxHeartbeats 4000000 in
theorem signsAbove (s : ByteArray) (n : Int) (w : World) (hs : s.size ≤ maxLen) (hn : -9223372036854775808 ≤ n ∧ n ≤ 9223372036854775807) :
    Calls Try.prog 4 #[.string s, .int .i64 n] w (TruthPost w) := by
  go_enter Try.func4, Try.ntmps4
  go_wp2_with fail
  refine (alive_calls _).mono ?_
  rintro e w1 ⟨rfl, hb1⟩
  have B1 := Lib.hid hb1
  clear hb1
  by_cases hbig : 3000 < s.size
  · go_wp2
    go_ret
    exact ⟨rfl, B1.out⟩
  · go_wp2_with fail
    refine (above_calls s n _ (by omega) hn).mono ?_
    rintro e w2 ⟨rfl, hb2⟩
    have B2 := Lib.hid (B1.out.trans (hb2.mono B1.out.size))
    clear hb2
    go_wp2_with fail
    refine (refAbove s n _ (by omega) hn).mono ?_
    rintro e w3 ⟨rfl, hb3⟩
    have B3 := Lib.hid (B2.out.trans (hb3.mono B2.out.size))
    clear hb3
    generalize aboveF s n = p
    obtain ⟨a, ok⟩ := p
    have hff := list_self a
    have hcc : (ok == ok) = true := by simp
    dsimp only
    go_wp2
    go_ret
    exact ⟨rfl, B3.out⟩
end Go.Proofs.Ytocjmllbbpfidaa
