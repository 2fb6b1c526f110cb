/- value: ValueThree, a of the class 1. -/
import Derived.Test.YtmdgljbgjhpmcaaVlThree
namespace Go.Proofs.Ytmdgljbgjhpmcaa
open Go.RowKit
set_option linter.unusedVariables false

set_option maxRecDepth 100000 in
set_option maxHeartbeats 4000000 in
theorem three100 (a b c : Int) (w : World) (ha : 0 ≤ a ∧ a ≤ 255) (hb : 0 ≤ b ∧ b ≤ 255) (hc : 0 ≤ c ∧ c ≤ 255) (ta : th a = 1) (tb : th b = 0) (tc : th c = 0) :
    Calls Try.prog 8 #[.int .u8 a, .int .u8 b, .int .u8 c] w (TruthPost w) := by
  have th0 : th 0 = 0 := rfl
  have th1 : th 1 = 1 := rfl
  have th2 : th 2 = 2 := rfl
  have mn00 : min (0 : Int) 0 = 0 := by decide
  have mx00 : max (0 : Int) 0 = 0 := by decide
  have mn01 : min (0 : Int) 1 = 0 := by decide
  have mx01 : max (0 : Int) 1 = 1 := by decide
  have mn02 : min (0 : Int) 2 = 0 := by decide
  have mx02 : max (0 : Int) 2 = 2 := by decide
  have mn10 : min (1 : Int) 0 = 0 := by decide
  have mx10 : max (1 : Int) 0 = 1 := by decide
  have mn11 : min (1 : Int) 1 = 1 := by decide
  have mx11 : max (1 : Int) 1 = 1 := by decide
  have mn12 : min (1 : Int) 2 = 1 := by decide
  have mx12 : max (1 : Int) 2 = 2 := by decide
  have mn20 : min (2 : Int) 0 = 0 := by decide
  have mx20 : max (2 : Int) 0 = 2 := by decide
  have mn21 : min (2 : Int) 1 = 1 := by decide
  have mx21 : max (2 : Int) 1 = 2 := by decide
  have mn22 : min (2 : Int) 2 = 2 := by decide
  have mx22 : max (2 : Int) 2 = 2 := by decide
  have sb0 : (2 : Int) - 0 = 2 := by decide
  have sb1 : (2 : Int) - 1 = 1 := by decide
  have sb2 : (2 : Int) - 2 = 0 := by decide
  have hwa : RowKit.wrap64 a = a := by unfold RowKit.wrap64; omega
  have hwb : RowKit.wrap64 b = b := by unfold RowKit.wrap64; omega
  have ha0 := ha.1
  have hb0 := hb.1
  have p0 : (0 : Int) ≤ 0 := by decide
  have p1 : (0 : Int) ≤ 1 := by decide
  have p2 : (0 : Int) ≤ 2 := by decide
  go_enter Try.func8, Try.ntmps8
  go_wp2_with fail
  refine (alive_calls _).mono ?_
  rintro e w1 ⟨rfl, hb1⟩
  have B1 := Lib.hid hb1
  clear hb1
  by_cases hgt : b < a
  · have hdec : decide (b < a) = true := by simpa using hgt
    have hd : 0 < a - b := by omega
    have hd1 : 1 ≤ a - b := by omega
    have hd2 : a - b ≤ 255 := by omega
    go_wp2_with (first
      | (go_at_call 22; refine (and_calls _ _ _ _ _ _ (by assumption) (by assumption) (by assumption)).mono ?_; rintro e w' ⟨rfl, rfl⟩)
      | (go_at_call 23; refine (or_calls _ _ _ _ _ _ (by assumption) (by assumption) (by assumption)).mono ?_; rintro e w' ⟨rfl, rfl⟩)
      | (go_at_call 24; refine (not_calls _ _ _ _ (by assumption) (by assumption) (by assumption)).mono ?_; rintro e w' ⟨rfl, rfl⟩)
      | (go_at_call 21; refine (refThree _ _ _ (by assumption)).mono ?_; rintro e w' ⟨rfl, rfl⟩)
      | (go_at_call 25; refine (is_calls _ 2 _ (by simp <;> omega)).mono ?_; rintro e w' ⟨rfl, rfl⟩))
    all_goals (go_ret; exact ⟨rfl, B1.out⟩)
  · have hdec : decide (b < a) = false := by simpa using hgt
    have hd : a - b ≤ 0 := by omega
    have hd2 : -255 ≤ a - b := by omega
    go_wp2_with (first
      | (go_at_call 22; refine (and_calls _ _ _ _ _ _ (by assumption) (by assumption) (by assumption)).mono ?_; rintro e w' ⟨rfl, rfl⟩)
      | (go_at_call 23; refine (or_calls _ _ _ _ _ _ (by assumption) (by assumption) (by assumption)).mono ?_; rintro e w' ⟨rfl, rfl⟩)
      | (go_at_call 24; refine (not_calls _ _ _ _ (by assumption) (by assumption) (by assumption)).mono ?_; rintro e w' ⟨rfl, rfl⟩)
      | (go_at_call 21; refine (refThree _ _ _ (by assumption)).mono ?_; rintro e w' ⟨rfl, rfl⟩)
      | (go_at_call 25; refine (is_calls _ 0 _ (by simp <;> omega)).mono ?_; rintro e w' ⟨rfl, rfl⟩))
    all_goals (go_ret; exact ⟨rfl, B1.out⟩)
set_option maxRecDepth 100000 in
set_option maxHeartbeats 4000000 in
theorem three101 (a b c : Int) (w : World) (ha : 0 ≤ a ∧ a ≤ 255) (hb : 0 ≤ b ∧ b ≤ 255) (hc : 0 ≤ c ∧ c ≤ 255) (ta : th a = 1) (tb : th b = 0) (tc : th c = 1) :
    Calls Try.prog 8 #[.int .u8 a, .int .u8 b, .int .u8 c] w (TruthPost w) := by
  have th0 : th 0 = 0 := rfl
  have th1 : th 1 = 1 := rfl
  have th2 : th 2 = 2 := rfl
  have mn00 : min (0 : Int) 0 = 0 := by decide
  have mx00 : max (0 : Int) 0 = 0 := by decide
  have mn01 : min (0 : Int) 1 = 0 := by decide
  have mx01 : max (0 : Int) 1 = 1 := by decide
  have mn02 : min (0 : Int) 2 = 0 := by decide
  have mx02 : max (0 : Int) 2 = 2 := by decide
  have mn10 : min (1 : Int) 0 = 0 := by decide
  have mx10 : max (1 : Int) 0 = 1 := by decide
  have mn11 : min (1 : Int) 1 = 1 := by decide
  have mx11 : max (1 : Int) 1 = 1 := by decide
  have mn12 : min (1 : Int) 2 = 1 := by decide
  have mx12 : max (1 : Int) 2 = 2 := by decide
  have mn20 : min (2 : Int) 0 = 0 := by decide
  have mx20 : max (2 : Int) 0 = 2 := by decide
  have mn21 : min (2 : Int) 1 = 1 := by decide
  have mx21 : max (2 : Int) 1 = 2 := by decide
  have mn22 : min (2 : Int) 2 = 2 := by decide
  have mx22 : max (2 : Int) 2 = 2 := by decide
  have sb0 : (2 : Int) - 0 = 2 := by decide
  have sb1 : (2 : Int) - 1 = 1 := by decide
  have sb2 : (2 : Int) - 2 = 0 := by decide
  have hwa : RowKit.wrap64 a = a := by unfold RowKit.wrap64; omega
  have hwb : RowKit.wrap64 b = b := by unfold RowKit.wrap64; omega
  have ha0 := ha.1
  have hb0 := hb.1
  have p0 : (0 : Int) ≤ 0 := by decide
  have p1 : (0 : Int) ≤ 1 := by decide
  have p2 : (0 : Int) ≤ 2 := by decide
  go_enter Try.func8, Try.ntmps8
  go_wp2_with fail
  refine (alive_calls _).mono ?_
  rintro e w1 ⟨rfl, hb1⟩
  have B1 := Lib.hid hb1
  clear hb1
  by_cases hgt : b < a
  · have hdec : decide (b < a) = true := by simpa using hgt
    have hd : 0 < a - b := by omega
    have hd1 : 1 ≤ a - b := by omega
    have hd2 : a - b ≤ 255 := by omega
    go_wp2_with (first
      | (go_at_call 22; refine (and_calls _ _ _ _ _ _ (by assumption) (by assumption) (by assumption)).mono ?_; rintro e w' ⟨rfl, rfl⟩)
      | (go_at_call 23; refine (or_calls _ _ _ _ _ _ (by assumption) (by assumption) (by assumption)).mono ?_; rintro e w' ⟨rfl, rfl⟩)
      | (go_at_call 24; refine (not_calls _ _ _ _ (by assumption) (by assumption) (by assumption)).mono ?_; rintro e w' ⟨rfl, rfl⟩)
      | (go_at_call 21; refine (refThree _ _ _ (by assumption)).mono ?_; rintro e w' ⟨rfl, rfl⟩)
      | (go_at_call 25; refine (is_calls _ 2 _ (by simp <;> omega)).mono ?_; rintro e w' ⟨rfl, rfl⟩))
    all_goals (go_ret; exact ⟨rfl, B1.out⟩)
  · have hdec : decide (b < a) = false := by simpa using hgt
    have hd : a - b ≤ 0 := by omega
    have hd2 : -255 ≤ a - b := by omega
    go_wp2_with (first
      | (go_at_call 22; refine (and_calls _ _ _ _ _ _ (by assumption) (by assumption) (by assumption)).mono ?_; rintro e w' ⟨rfl, rfl⟩)
      | (go_at_call 23; refine (or_calls _ _ _ _ _ _ (by assumption) (by assumption) (by assumption)).mono ?_; rintro e w' ⟨rfl, rfl⟩)
      | (go_at_call 24; refine (not_calls _ _ _ _ (by assumption) (by assumption) (by assumption)).mono ?_; rintro e w' ⟨rfl, rfl⟩)
      | (go_at_call 21; refine (refThree _ _ _ (by assumption)).mono ?_; rintro e w' ⟨rfl, rfl⟩)
      | (go_at_call 25; refine (is_calls _ 0 _ (by simp <;> omega)).mono ?_; rintro e w' ⟨rfl, rfl⟩))
    all_goals (go_ret; exact ⟨rfl, B1.out⟩)
set_option maxRecDepth 100000 in
set_option maxHeartbeats 4000000 in
theorem three102 (a b c : Int) (w : World) (ha : 0 ≤ a ∧ a ≤ 255) (hb : 0 ≤ b ∧ b ≤ 255) (hc : 0 ≤ c ∧ c ≤ 255) (ta : th a = 1) (tb : th b = 0) (tc : th c = 2) :
    Calls Try.prog 8 #[.int .u8 a, .int .u8 b, .int .u8 c] w (TruthPost w) := by
  have th0 : th 0 = 0 := rfl
  have th1 : th 1 = 1 := rfl
  have th2 : th 2 = 2 := rfl
  have mn00 : min (0 : Int) 0 = 0 := by decide
  have mx00 : max (0 : Int) 0 = 0 := by decide
  have mn01 : min (0 : Int) 1 = 0 := by decide
  have mx01 : max (0 : Int) 1 = 1 := by decide
  have mn02 : min (0 : Int) 2 = 0 := by decide
  have mx02 : max (0 : Int) 2 = 2 := by decide
  have mn10 : min (1 : Int) 0 = 0 := by decide
  have mx10 : max (1 : Int) 0 = 1 := by decide
  have mn11 : min (1 : Int) 1 = 1 := by decide
  have mx11 : max (1 : Int) 1 = 1 := by decide
  have mn12 : min (1 : Int) 2 = 1 := by decide
  have mx12 : max (1 : Int) 2 = 2 := by decide
  have mn20 : min (2 : Int) 0 = 0 := by decide
  have mx20 : max (2 : Int) 0 = 2 := by decide
  have mn21 : min (2 : Int) 1 = 1 := by decide
  have mx21 : max (2 : Int) 1 = 2 := by decide
  have mn22 : min (2 : Int) 2 = 2 := by decide
  have mx22 : max (2 : Int) 2 = 2 := by decide
  have sb0 : (2 : Int) - 0 = 2 := by decide
  have sb1 : (2 : Int) - 1 = 1 := by decide
  have sb2 : (2 : Int) - 2 = 0 := by decide
  have hwa : RowKit.wrap64 a = a := by unfold RowKit.wrap64; omega
  have hwb : RowKit.wrap64 b = b := by unfold RowKit.wrap64; omega
  have ha0 := ha.1
  have hb0 := hb.1
  have p0 : (0 : Int) ≤ 0 := by decide
  have p1 : (0 : Int) ≤ 1 := by decide
  have p2 : (0 : Int) ≤ 2 := by decide
  go_enter Try.func8, Try.ntmps8
  go_wp2_with fail
  refine (alive_calls _).mono ?_
  rintro e w1 ⟨rfl, hb1⟩
  have B1 := Lib.hid hb1
  clear hb1
  by_cases hgt : b < a
  · have hdec : decide (b < a) = true := by simpa using hgt
    have hd : 0 < a - b := by omega
    have hd1 : 1 ≤ a - b := by omega
    have hd2 : a - b ≤ 255 := by omega
    go_wp2_with (first
      | (go_at_call 22; refine (and_calls _ _ _ _ _ _ (by assumption) (by assumption) (by assumption)).mono ?_; rintro e w' ⟨rfl, rfl⟩)
      | (go_at_call 23; refine (or_calls _ _ _ _ _ _ (by assumption) (by assumption) (by assumption)).mono ?_; rintro e w' ⟨rfl, rfl⟩)
      | (go_at_call 24; refine (not_calls _ _ _ _ (by assumption) (by assumption) (by assumption)).mono ?_; rintro e w' ⟨rfl, rfl⟩)
      | (go_at_call 21; refine (refThree _ _ _ (by assumption)).mono ?_; rintro e w' ⟨rfl, rfl⟩)
      | (go_at_call 25; refine (is_calls _ 2 _ (by simp <;> omega)).mono ?_; rintro e w' ⟨rfl, rfl⟩))
    all_goals (go_ret; exact ⟨rfl, B1.out⟩)
  · have hdec : decide (b < a) = false := by simpa using hgt
    have hd : a - b ≤ 0 := by omega
    have hd2 : -255 ≤ a - b := by omega
    go_wp2_with (first
      | (go_at_call 22; refine (and_calls _ _ _ _ _ _ (by assumption) (by assumption) (by assumption)).mono ?_; rintro e w' ⟨rfl, rfl⟩)
      | (go_at_call 23; refine (or_calls _ _ _ _ _ _ (by assumption) (by assumption) (by assumption)).mono ?_; rintro e w' ⟨rfl, rfl⟩)
      | (go_at_call 24; refine (not_calls _ _ _ _ (by assumption) (by assumption) (by assumption)).mono ?_; rintro e w' ⟨rfl, rfl⟩)
      | (go_at_call 21; refine (refThree _ _ _ (by assumption)).mono ?_; rintro e w' ⟨rfl, rfl⟩)
      | (go_at_call 25; refine (is_calls _ 0 _ (by simp <;> omega)).mono ?_; rintro e w' ⟨rfl, rfl⟩))
    all_goals (go_ret; exact ⟨rfl, B1.out⟩)
set_option maxRecDepth 100000 in
set_option maxHeartbeats 4000000 in
theorem three110 (a b c : Int) (w : World) (ha : 0 ≤ a ∧ a ≤ 255) (hb : 0 ≤ b ∧ b ≤ 255) (hc : 0 ≤ c ∧ c ≤ 255) (ta : th a = 1) (tb : th b = 1) (tc : th c = 0) :
    Calls Try.prog 8 #[.int .u8 a, .int .u8 b, .int .u8 c] w (TruthPost w) := by
  have th0 : th 0 = 0 := rfl
  have th1 : th 1 = 1 := rfl
  have th2 : th 2 = 2 := rfl
  have mn00 : min (0 : Int) 0 = 0 := by decide
  have mx00 : max (0 : Int) 0 = 0 := by decide
  have mn01 : min (0 : Int) 1 = 0 := by decide
  have mx01 : max (0 : Int) 1 = 1 := by decide
  have mn02 : min (0 : Int) 2 = 0 := by decide
  have mx02 : max (0 : Int) 2 = 2 := by decide
  have mn10 : min (1 : Int) 0 = 0 := by decide
  have mx10 : max (1 : Int) 0 = 1 := by decide
  have mn11 : min (1 : Int) 1 = 1 := by decide
  have mx11 : max (1 : Int) 1 = 1 := by decide
  have mn12 : min (1 : Int) 2 = 1 := by decide
  have mx12 : max (1 : Int) 2 = 2 := by decide
  have mn20 : min (2 : Int) 0 = 0 := by decide
  have mx20 : max (2 : Int) 0 = 2 := by decide
  have mn21 : min (2 : Int) 1 = 1 := by decide
  have mx21 : max (2 : Int) 1 = 2 := by decide
  have mn22 : min (2 : Int) 2 = 2 := by decide
  have mx22 : max (2 : Int) 2 = 2 := by decide
  have sb0 : (2 : Int) - 0 = 2 := by decide
  have sb1 : (2 : Int) - 1 = 1 := by decide
  have sb2 : (2 : Int) - 2 = 0 := by decide
  have hwa : RowKit.wrap64 a = a := by unfold RowKit.wrap64; omega
  have hwb : RowKit.wrap64 b = b := by unfold RowKit.wrap64; omega
  have ha0 := ha.1
  have hb0 := hb.1
  have p0 : (0 : Int) ≤ 0 := by decide
  have p1 : (0 : Int) ≤ 1 := by decide
  have p2 : (0 : Int) ≤ 2 := by decide
  go_enter Try.func8, Try.ntmps8
  go_wp2_with fail
  refine (alive_calls _).mono ?_
  rintro e w1 ⟨rfl, hb1⟩
  have B1 := Lib.hid hb1
  clear hb1
  by_cases hgt : b < a
  · have hdec : decide (b < a) = true := by simpa using hgt
    have hd : 0 < a - b := by omega
    have hd1 : 1 ≤ a - b := by omega
    have hd2 : a - b ≤ 255 := by omega
    go_wp2_with (first
      | (go_at_call 22; refine (and_calls _ _ _ _ _ _ (by assumption) (by assumption) (by assumption)).mono ?_; rintro e w' ⟨rfl, rfl⟩)
      | (go_at_call 23; refine (or_calls _ _ _ _ _ _ (by assumption) (by assumption) (by assumption)).mono ?_; rintro e w' ⟨rfl, rfl⟩)
      | (go_at_call 24; refine (not_calls _ _ _ _ (by assumption) (by assumption) (by assumption)).mono ?_; rintro e w' ⟨rfl, rfl⟩)
      | (go_at_call 21; refine (refThree _ _ _ (by assumption)).mono ?_; rintro e w' ⟨rfl, rfl⟩)
      | (go_at_call 25; refine (is_calls _ 2 _ (by simp <;> omega)).mono ?_; rintro e w' ⟨rfl, rfl⟩))
    all_goals (go_ret; exact ⟨rfl, B1.out⟩)
  · have hdec : decide (b < a) = false := by simpa using hgt
    have hd : a - b ≤ 0 := by omega
    have hd2 : -255 ≤ a - b := by omega
    go_wp2_with (first
      | (go_at_call 22; refine (and_calls _ _ _ _ _ _ (by assumption) (by assumption) (by assumption)).mono ?_; rintro e w' ⟨rfl, rfl⟩)
      | (go_at_call 23; refine (or_calls _ _ _ _ _ _ (by assumption) (by assumption) (by assumption)).mono ?_; rintro e w' ⟨rfl, rfl⟩)
      | (go_at_call 24; refine (not_calls _ _ _ _ (by assumption) (by assumption) (by assumption)).mono ?_; rintro e w' ⟨rfl, rfl⟩)
      | (go_at_call 21; refine (refThree _ _ _ (by assumption)).mono ?_; rintro e w' ⟨rfl, rfl⟩)
      | (go_at_call 25; refine (is_calls _ 0 _ (by simp <;> omega)).mono ?_; rintro e w' ⟨rfl, rfl⟩))
    all_goals (go_ret; exact ⟨rfl, B1.out⟩)
set_option maxRecDepth 100000 in
set_option maxHeartbeats 4000000 in
theorem three111 (a b c : Int) (w : World) (ha : 0 ≤ a ∧ a ≤ 255) (hb : 0 ≤ b ∧ b ≤ 255) (hc : 0 ≤ c ∧ c ≤ 255) (ta : th a = 1) (tb : th b = 1) (tc : th c = 1) :
    Calls Try.prog 8 #[.int .u8 a, .int .u8 b, .int .u8 c] w (TruthPost w) := by
  have th0 : th 0 = 0 := rfl
  have th1 : th 1 = 1 := rfl
  have th2 : th 2 = 2 := rfl
  have mn00 : min (0 : Int) 0 = 0 := by decide
  have mx00 : max (0 : Int) 0 = 0 := by decide
  have mn01 : min (0 : Int) 1 = 0 := by decide
  have mx01 : max (0 : Int) 1 = 1 := by decide
  have mn02 : min (0 : Int) 2 = 0 := by decide
  have mx02 : max (0 : Int) 2 = 2 := by decide
  have mn10 : min (1 : Int) 0 = 0 := by decide
  have mx10 : max (1 : Int) 0 = 1 := by decide
  have mn11 : min (1 : Int) 1 = 1 := by decide
  have mx11 : max (1 : Int) 1 = 1 := by decide
  have mn12 : min (1 : Int) 2 = 1 := by decide
  have mx12 : max (1 : Int) 2 = 2 := by decide
  have mn20 : min (2 : Int) 0 = 0 := by decide
  have mx20 : max (2 : Int) 0 = 2 := by decide
  have mn21 : min (2 : Int) 1 = 1 := by decide
  have mx21 : max (2 : Int) 1 = 2 := by decide
  have mn22 : min (2 : Int) 2 = 2 := by decide
  have mx22 : max (2 : Int) 2 = 2 := by decide
  have sb0 : (2 : Int) - 0 = 2 := by decide
  have sb1 : (2 : Int) - 1 = 1 := by decide
  have sb2 : (2 : Int) - 2 = 0 := by decide
  have hwa : RowKit.wrap64 a = a := by unfold RowKit.wrap64; omega
  have hwb : RowKit.wrap64 b = b := by unfold RowKit.wrap64; omega
  have ha0 := ha.1
  have hb0 := hb.1
  have p0 : (0 : Int) ≤ 0 := by decide
  have p1 : (0 : Int) ≤ 1 := by decide
  have p2 : (0 : Int) ≤ 2 := by decide
  go_enter Try.func8, Try.ntmps8
  go_wp2_with fail
  refine (alive_calls _).mono ?_
  rintro e w1 ⟨rfl, hb1⟩
  have B1 := Lib.hid hb1
  clear hb1
  by_cases hgt : b < a
  · have hdec : decide (b < a) = true := by simpa using hgt
    have hd : 0 < a - b := by omega
    have hd1 : 1 ≤ a - b := by omega
    have hd2 : a - b ≤ 255 := by omega
    go_wp2_with (first
      | (go_at_call 22; refine (and_calls _ _ _ _ _ _ (by assumption) (by assumption) (by assumption)).mono ?_; rintro e w' ⟨rfl, rfl⟩)
      | (go_at_call 23; refine (or_calls _ _ _ _ _ _ (by assumption) (by assumption) (by assumption)).mono ?_; rintro e w' ⟨rfl, rfl⟩)
      | (go_at_call 24; refine (not_calls _ _ _ _ (by assumption) (by assumption) (by assumption)).mono ?_; rintro e w' ⟨rfl, rfl⟩)
      | (go_at_call 21; refine (refThree _ _ _ (by assumption)).mono ?_; rintro e w' ⟨rfl, rfl⟩)
      | (go_at_call 25; refine (is_calls _ 2 _ (by simp <;> omega)).mono ?_; rintro e w' ⟨rfl, rfl⟩))
    all_goals (go_ret; exact ⟨rfl, B1.out⟩)
  · have hdec : decide (b < a) = false := by simpa using hgt
    have hd : a - b ≤ 0 := by omega
    have hd2 : -255 ≤ a - b := by omega
    go_wp2_with (first
      | (go_at_call 22; refine (and_calls _ _ _ _ _ _ (by assumption) (by assumption) (by assumption)).mono ?_; rintro e w' ⟨rfl, rfl⟩)
      | (go_at_call 23; refine (or_calls _ _ _ _ _ _ (by assumption) (by assumption) (by assumption)).mono ?_; rintro e w' ⟨rfl, rfl⟩)
      | (go_at_call 24; refine (not_calls _ _ _ _ (by assumption) (by assumption) (by assumption)).mono ?_; rintro e w' ⟨rfl, rfl⟩)
      | (go_at_call 21; refine (refThree _ _ _ (by assumption)).mono ?_; rintro e w' ⟨rfl, rfl⟩)
      | (go_at_call 25; refine (is_calls _ 0 _ (by simp <;> omega)).mono ?_; rintro e w' ⟨rfl, rfl⟩))
    all_goals (go_ret; exact ⟨rfl, B1.out⟩)
set_option maxRecDepth 100000 in
set_option maxHeartbeats 4000000 in
theorem three112 (a b c : Int) (w : World) (ha : 0 ≤ a ∧ a ≤ 255) (hb : 0 ≤ b ∧ b ≤ 255) (hc : 0 ≤ c ∧ c ≤ 255) (ta : th a = 1) (tb : th b = 1) (tc : th c = 2) :
    Calls Try.prog 8 #[.int .u8 a, .int .u8 b, .int .u8 c] w (TruthPost w) := by
  have th0 : th 0 = 0 := rfl
  have th1 : th 1 = 1 := rfl
  have th2 : th 2 = 2 := rfl
  have mn00 : min (0 : Int) 0 = 0 := by decide
  have mx00 : max (0 : Int) 0 = 0 := by decide
  have mn01 : min (0 : Int) 1 = 0 := by decide
  have mx01 : max (0 : Int) 1 = 1 := by decide
  have mn02 : min (0 : Int) 2 = 0 := by decide
  have mx02 : max (0 : Int) 2 = 2 := by decide
  have mn10 : min (1 : Int) 0 = 0 := by decide
  have mx10 : max (1 : Int) 0 = 1 := by decide
  have mn11 : min (1 : Int) 1 = 1 := by decide
  have mx11 : max (1 : Int) 1 = 1 := by decide
  have mn12 : min (1 : Int) 2 = 1 := by decide
  have mx12 : max (1 : Int) 2 = 2 := by decide
  have mn20 : min (2 : Int) 0 = 0 := by decide
  have mx20 : max (2 : Int) 0 = 2 := by decide
  have mn21 : min (2 : Int) 1 = 1 := by decide
  have mx21 : max (2 : Int) 1 = 2 := by decide
  have mn22 : min (2 : Int) 2 = 2 := by decide
  have mx22 : max (2 : Int) 2 = 2 := by decide
  have sb0 : (2 : Int) - 0 = 2 := by decide
  have sb1 : (2 : Int) - 1 = 1 := by decide
  have sb2 : (2 : Int) - 2 = 0 := by decide
  have hwa : RowKit.wrap64 a = a := by unfold RowKit.wrap64; omega
  have hwb : RowKit.wrap64 b = b := by unfold RowKit.wrap64; omega
  have ha0 := ha.1
  have hb0 := hb.1
  have p0 : (0 : Int) ≤ 0 := by decide
  have p1 : (0 : Int) ≤ 1 := by decide
  have p2 : (0 : Int) ≤ 2 := by decide
  go_enter Try.func8, Try.ntmps8
  go_wp2_with fail
  refine (alive_calls _).mono ?_
  rintro e w1 ⟨rfl, hb1⟩
  have B1 := Lib.hid hb1
  clear hb1
  by_cases hgt : b < a
  · have hdec : decide (b < a) = true := by simpa using hgt
    have hd : 0 < a - b := by omega
    have hd1 : 1 ≤ a - b := by omega
    have hd2 : a - b ≤ 255 := by omega
    go_wp2_with (first
      | (go_at_call 22; refine (and_calls _ _ _ _ _ _ (by assumption) (by assumption) (by assumption)).mono ?_; rintro e w' ⟨rfl, rfl⟩)
      | (go_at_call 23; refine (or_calls _ _ _ _ _ _ (by assumption) (by assumption) (by assumption)).mono ?_; rintro e w' ⟨rfl, rfl⟩)
      | (go_at_call 24; refine (not_calls _ _ _ _ (by assumption) (by assumption) (by assumption)).mono ?_; rintro e w' ⟨rfl, rfl⟩)
      | (go_at_call 21; refine (refThree _ _ _ (by assumption)).mono ?_; rintro e w' ⟨rfl, rfl⟩)
      | (go_at_call 25; refine (is_calls _ 2 _ (by simp <;> omega)).mono ?_; rintro e w' ⟨rfl, rfl⟩))
    all_goals (go_ret; exact ⟨rfl, B1.out⟩)
  · have hdec : decide (b < a) = false := by simpa using hgt
    have hd : a - b ≤ 0 := by omega
    have hd2 : -255 ≤ a - b := by omega
    go_wp2_with (first
      | (go_at_call 22; refine (and_calls _ _ _ _ _ _ (by assumption) (by assumption) (by assumption)).mono ?_; rintro e w' ⟨rfl, rfl⟩)
      | (go_at_call 23; refine (or_calls _ _ _ _ _ _ (by assumption) (by assumption) (by assumption)).mono ?_; rintro e w' ⟨rfl, rfl⟩)
      | (go_at_call 24; refine (not_calls _ _ _ _ (by assumption) (by assumption) (by assumption)).mono ?_; rintro e w' ⟨rfl, rfl⟩)
      | (go_at_call 21; refine (refThree _ _ _ (by assumption)).mono ?_; rintro e w' ⟨rfl, rfl⟩)
      | (go_at_call 25; refine (is_calls _ 0 _ (by simp <;> omega)).mono ?_; rintro e w' ⟨rfl, rfl⟩))
    all_goals (go_ret; exact ⟨rfl, B1.out⟩)
set_option maxRecDepth 100000 in
set_option maxHeartbeats 4000000 in
theorem three120 (a b c : Int) (w : World) (ha : 0 ≤ a ∧ a ≤ 255) (hb : 0 ≤ b ∧ b ≤ 255) (hc : 0 ≤ c ∧ c ≤ 255) (ta : th a = 1) (tb : th b = 2) (tc : th c = 0) :
    Calls Try.prog 8 #[.int .u8 a, .int .u8 b, .int .u8 c] w (TruthPost w) := by
  have th0 : th 0 = 0 := rfl
  have th1 : th 1 = 1 := rfl
  have th2 : th 2 = 2 := rfl
  have mn00 : min (0 : Int) 0 = 0 := by decide
  have mx00 : max (0 : Int) 0 = 0 := by decide
  have mn01 : min (0 : Int) 1 = 0 := by decide
  have mx01 : max (0 : Int) 1 = 1 := by decide
  have mn02 : min (0 : Int) 2 = 0 := by decide
  have mx02 : max (0 : Int) 2 = 2 := by decide
  have mn10 : min (1 : Int) 0 = 0 := by decide
  have mx10 : max (1 : Int) 0 = 1 := by decide
  have mn11 : min (1 : Int) 1 = 1 := by decide
  have mx11 : max (1 : Int) 1 = 1 := by decide
  have mn12 : min (1 : Int) 2 = 1 := by decide
  have mx12 : max (1 : Int) 2 = 2 := by decide
  have mn20 : min (2 : Int) 0 = 0 := by decide
  have mx20 : max (2 : Int) 0 = 2 := by decide
  have mn21 : min (2 : Int) 1 = 1 := by decide
  have mx21 : max (2 : Int) 1 = 2 := by decide
  have mn22 : min (2 : Int) 2 = 2 := by decide
  have mx22 : max (2 : Int) 2 = 2 := by decide
  have sb0 : (2 : Int) - 0 = 2 := by decide
  have sb1 : (2 : Int) - 1 = 1 := by decide
  have sb2 : (2 : Int) - 2 = 0 := by decide
  have hwa : RowKit.wrap64 a = a := by unfold RowKit.wrap64; omega
  have hwb : RowKit.wrap64 b = b := by unfold RowKit.wrap64; omega
  have ha0 := ha.1
  have hb0 := hb.1
  have p0 : (0 : Int) ≤ 0 := by decide
  have p1 : (0 : Int) ≤ 1 := by decide
  have p2 : (0 : Int) ≤ 2 := by decide
  go_enter Try.func8, Try.ntmps8
  go_wp2_with fail
  refine (alive_calls _).mono ?_
  rintro e w1 ⟨rfl, hb1⟩
  have B1 := Lib.hid hb1
  clear hb1
  by_cases hgt : b < a
  · have hdec : decide (b < a) = true := by simpa using hgt
    have hd : 0 < a - b := by omega
    have hd1 : 1 ≤ a - b := by omega
    have hd2 : a - b ≤ 255 := by omega
    go_wp2_with (first
      | (go_at_call 22; refine (and_calls _ _ _ _ _ _ (by assumption) (by assumption) (by assumption)).mono ?_; rintro e w' ⟨rfl, rfl⟩)
      | (go_at_call 23; refine (or_calls _ _ _ _ _ _ (by assumption) (by assumption) (by assumption)).mono ?_; rintro e w' ⟨rfl, rfl⟩)
      | (go_at_call 24; refine (not_calls _ _ _ _ (by assumption) (by assumption) (by assumption)).mono ?_; rintro e w' ⟨rfl, rfl⟩)
      | (go_at_call 21; refine (refThree _ _ _ (by assumption)).mono ?_; rintro e w' ⟨rfl, rfl⟩)
      | (go_at_call 25; refine (is_calls _ 2 _ (by simp <;> omega)).mono ?_; rintro e w' ⟨rfl, rfl⟩))
    all_goals (go_ret; exact ⟨rfl, B1.out⟩)
  · have hdec : decide (b < a) = false := by simpa using hgt
    have hd : a - b ≤ 0 := by omega
    have hd2 : -255 ≤ a - b := by omega
    go_wp2_with (first
      | (go_at_call 22; refine (and_calls _ _ _ _ _ _ (by assumption) (by assumption) (by assumption)).mono ?_; rintro e w' ⟨rfl, rfl⟩)
      | (go_at_call 23; refine (or_calls _ _ _ _ _ _ (by assumption) (by assumption) (by assumption)).mono ?_; rintro e w' ⟨rfl, rfl⟩)
      | (go_at_call 24; refine (not_calls _ _ _ _ (by assumption) (by assumption) (by assumption)).mono ?_; rintro e w' ⟨rfl, rfl⟩)
      | (go_at_call 21; refine (refThree _ _ _ (by assumption)).mono ?_; rintro e w' ⟨rfl, rfl⟩)
      | (go_at_call 25; refine (is_calls _ 0 _ (by simp <;> omega)).mono ?_; rintro e w' ⟨rfl, rfl⟩))
    all_goals (go_ret; exact ⟨rfl, B1.out⟩)
set_option maxRecDepth 100000 in
set_option maxHeartbeats 4000000 in
theorem three121 (a b c : Int) (w : World) (ha : 0 ≤ a ∧ a ≤ 255) (hb : 0 ≤ b ∧ b ≤ 255) (hc : 0 ≤ c ∧ c ≤ 255) (ta : th a = 1) (tb : th b = 2) (tc : th c = 1) :
    Calls Try.prog 8 #[.int .u8 a, .int .u8 b, .int .u8 c] w (TruthPost w) := by
  have th0 : th 0 = 0 := rfl
  have th1 : th 1 = 1 := rfl
  have th2 : th 2 = 2 := rfl
  have mn00 : min (0 : Int) 0 = 0 := by decide
  have mx00 : max (0 : Int) 0 = 0 := by decide
  have mn01 : min (0 : Int) 1 = 0 := by decide
  have mx01 : max (0 : Int) 1 = 1 := by decide
  have mn02 : min (0 : Int) 2 = 0 := by decide
  have mx02 : max (0 : Int) 2 = 2 := by decide
  have mn10 : min (1 : Int) 0 = 0 := by decide
  have mx10 : max (1 : Int) 0 = 1 := by decide
  have mn11 : min (1 : Int) 1 = 1 := by decide
  have mx11 : max (1 : Int) 1 = 1 := by decide
  have mn12 : min (1 : Int) 2 = 1 := by decide
  have mx12 : max (1 : Int) 2 = 2 := by decide
  have mn20 : min (2 : Int) 0 = 0 := by decide
  have mx20 : max (2 : Int) 0 = 2 := by decide
  have mn21 : min (2 : Int) 1 = 1 := by decide
  have mx21 : max (2 : Int) 1 = 2 := by decide
  have mn22 : min (2 : Int) 2 = 2 := by decide
  have mx22 : max (2 : Int) 2 = 2 := by decide
  have sb0 : (2 : Int) - 0 = 2 := by decide
  have sb1 : (2 : Int) - 1 = 1 := by decide
  have sb2 : (2 : Int) - 2 = 0 := by decide
  have hwa : RowKit.wrap64 a = a := by unfold RowKit.wrap64; omega
  have hwb : RowKit.wrap64 b = b := by unfold RowKit.wrap64; omega
  have ha0 := ha.1
  have hb0 := hb.1
  have p0 : (0 : Int) ≤ 0 := by decide
  have p1 : (0 : Int) ≤ 1 := by decide
  have p2 : (0 : Int) ≤ 2 := by decide
  go_enter Try.func8, Try.ntmps8
  go_wp2_with fail
  refine (alive_calls _).mono ?_
  rintro e w1 ⟨rfl, hb1⟩
  have B1 := Lib.hid hb1
  clear hb1
  by_cases hgt : b < a
  · have hdec : decide (b < a) = true := by simpa using hgt
    have hd : 0 < a - b := by omega
    have hd1 : 1 ≤ a - b := by omega
    have hd2 : a - b ≤ 255 := by omega
    go_wp2_with (first
      | (go_at_call 22; refine (and_calls _ _ _ _ _ _ (by assumption) (by assumption) (by assumption)).mono ?_; rintro e w' ⟨rfl, rfl⟩)
      | (go_at_call 23; refine (or_calls _ _ _ _ _ _ (by assumption) (by assumption) (by assumption)).mono ?_; rintro e w' ⟨rfl, rfl⟩)
      | (go_at_call 24; refine (not_calls _ _ _ _ (by assumption) (by assumption) (by assumption)).mono ?_; rintro e w' ⟨rfl, rfl⟩)
      | (go_at_call 21; refine (refThree _ _ _ (by assumption)).mono ?_; rintro e w' ⟨rfl, rfl⟩)
      | (go_at_call 25; refine (is_calls _ 2 _ (by simp <;> omega)).mono ?_; rintro e w' ⟨rfl, rfl⟩))
    all_goals (go_ret; exact ⟨rfl, B1.out⟩)
  · have hdec : decide (b < a) = false := by simpa using hgt
    have hd : a - b ≤ 0 := by omega
    have hd2 : -255 ≤ a - b := by omega
    go_wp2_with (first
      | (go_at_call 22; refine (and_calls _ _ _ _ _ _ (by assumption) (by assumption) (by assumption)).mono ?_; rintro e w' ⟨rfl, rfl⟩)
      | (go_at_call 23; refine (or_calls _ _ _ _ _ _ (by assumption) (by assumption) (by assumption)).mono ?_; rintro e w' ⟨rfl, rfl⟩)
      | (go_at_call 24; refine (not_calls _ _ _ _ (by assumption) (by assumption) (by assumption)).mono ?_; rintro e w' ⟨rfl, rfl⟩)
      | (go_at_call 21; refine (refThree _ _ _ (by assumption)).mono ?_; rintro e w' ⟨rfl, rfl⟩)
      | (go_at_call 25; refine (is_calls _ 0 _ (by simp <;> omega)).mono ?_; rintro e w' ⟨rfl, rfl⟩))
    all_goals (go_ret; exact ⟨rfl, B1.out⟩)
set_option maxRecDepth 100000 in
set_option maxHeartbeats 4000000 in
theorem three122 (a b c : Int) (w : World) (ha : 0 ≤ a ∧ a ≤ 255) (hb : 0 ≤ b ∧ b ≤ 255) (hc : 0 ≤ c ∧ c ≤ 255) (ta : th a = 1) (tb : th b = 2) (tc : th c = 2) :
    Calls Try.prog 8 #[.int .u8 a, .int .u8 b, .int .u8 c] w (TruthPost w) := by
  have th0 : th 0 = 0 := rfl
  have th1 : th 1 = 1 := rfl
  have th2 : th 2 = 2 := rfl
  have mn00 : min (0 : Int) 0 = 0 := by decide
  have mx00 : max (0 : Int) 0 = 0 := by decide
  have mn01 : min (0 : Int) 1 = 0 := by decide
  have mx01 : max (0 : Int) 1 = 1 := by decide
  have mn02 : min (0 : Int) 2 = 0 := by decide
  have mx02 : max (0 : Int) 2 = 2 := by decide
  have mn10 : min (1 : Int) 0 = 0 := by decide
  have mx10 : max (1 : Int) 0 = 1 := by decide
  have mn11 : min (1 : Int) 1 = 1 := by decide
  have mx11 : max (1 : Int) 1 = 1 := by decide
  have mn12 : min (1 : Int) 2 = 1 := by decide
  have mx12 : max (1 : Int) 2 = 2 := by decide
  have mn20 : min (2 : Int) 0 = 0 := by decide
  have mx20 : max (2 : Int) 0 = 2 := by decide
  have mn21 : min (2 : Int) 1 = 1 := by decide
  have mx21 : max (2 : Int) 1 = 2 := by decide
  have mn22 : min (2 : Int) 2 = 2 := by decide
  have mx22 : max (2 : Int) 2 = 2 := by decide
  have sb0 : (2 : Int) - 0 = 2 := by decide
  have sb1 : (2 : Int) - 1 = 1 := by decide
  have sb2 : (2 : Int) - 2 = 0 := by decide
  have hwa : RowKit.wrap64 a = a := by unfold RowKit.wrap64; omega
  have hwb : RowKit.wrap64 b = b := by unfold RowKit.wrap64; omega
  have ha0 := ha.1
  have hb0 := hb.1
  have p0 : (0 : Int) ≤ 0 := by decide
  have p1 : (0 : Int) ≤ 1 := by decide
  have p2 : (0 : Int) ≤ 2 := by decide
  go_enter Try.func8, Try.ntmps8
  go_wp2_with fail
  refine (alive_calls _).mono ?_
  rintro e w1 ⟨rfl, hb1⟩
  have B1 := Lib.hid hb1
  clear hb1
  by_cases hgt : b < a
  · have hdec : decide (b < a) = true := by simpa using hgt
    have hd : 0 < a - b := by omega
    have hd1 : 1 ≤ a - b := by omega
    have hd2 : a - b ≤ 255 := by omega
    go_wp2_with (first
      | (go_at_call 22; refine (and_calls _ _ _ _ _ _ (by assumption) (by assumption) (by assumption)).mono ?_; rintro e w' ⟨rfl, rfl⟩)
      | (go_at_call 23; refine (or_calls _ _ _ _ _ _ (by assumption) (by assumption) (by assumption)).mono ?_; rintro e w' ⟨rfl, rfl⟩)
      | (go_at_call 24; refine (not_calls _ _ _ _ (by assumption) (by assumption) (by assumption)).mono ?_; rintro e w' ⟨rfl, rfl⟩)
      | (go_at_call 21; refine (refThree _ _ _ (by assumption)).mono ?_; rintro e w' ⟨rfl, rfl⟩)
      | (go_at_call 25; refine (is_calls _ 2 _ (by simp <;> omega)).mono ?_; rintro e w' ⟨rfl, rfl⟩))
    all_goals (go_ret; exact ⟨rfl, B1.out⟩)
  · have hdec : decide (b < a) = false := by simpa using hgt
    have hd : a - b ≤ 0 := by omega
    have hd2 : -255 ≤ a - b := by omega
    go_wp2_with (first
      | (go_at_call 22; refine (and_calls _ _ _ _ _ _ (by assumption) (by assumption) (by assumption)).mono ?_; rintro e w' ⟨rfl, rfl⟩)
      | (go_at_call 23; refine (or_calls _ _ _ _ _ _ (by assumption) (by assumption) (by assumption)).mono ?_; rintro e w' ⟨rfl, rfl⟩)
      | (go_at_call 24; refine (not_calls _ _ _ _ (by assumption) (by assumption) (by assumption)).mono ?_; rintro e w' ⟨rfl, rfl⟩)
      | (go_at_call 21; refine (refThree _ _ _ (by assumption)).mono ?_; rintro e w' ⟨rfl, rfl⟩)
      | (go_at_call 25; refine (is_calls _ 0 _ (by simp <;> omega)).mono ?_; rintro e w' ⟨rfl, rfl⟩))
    all_goals (go_ret; exact ⟨rfl, B1.out⟩)
end Go.Proofs.Ytmdgljbgjhpmcaa
