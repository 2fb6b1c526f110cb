/- The contract of value.Compare. -/
import Derived.Test.YtkofaoaglnjkgaaVlOrdP
import Derived.Test.YtkofaoaglnjkgaaVlFix
namespace Go.Proofs.Ytkofaoaglnjkgaa
open Go.RowKit Go.Deep
set_option linter.unusedVariables false
set_option linter.unusedSimpArgs false

theorem is_same (b : Bool) (w : World) : Calls Try.prog 70 #[.bool b] w (fun e w' => e = .returned (.int .u8 (if b then 2 else 0)) ∧ w' = w) := by
  cases b
  all_goals
    go_enter Try.func70, Try.ntmps70
    go_wp2
    go_ret
    exact ⟨rfl, rfl⟩
set_option maxRecDepth 100000 in
set_option maxHeartbeats 2000000 in
theorem cmp_three (a b : Bool) (w : World) : Calls Try.prog 69 #[.int .u8 (if a then 2 else 0), .int .u8 (if b then 2 else 0)] w (fun e w' => e = .returned (.int .i64 (if a then (if b then 0 else 1) else (if b then -1 else 0))) ∧ w' = w) := by
  cases a <;> cases b
  all_goals
    simp only [Bool.false_eq_true, if_true, if_false]
    go_enter Try.func69, Try.ntmps69
    go_wp2
    go_ret
    exact ⟨rfl, rfl⟩
theorem cmpC_less {a b : CellD} (h : LessC a b) : cmpC a b = -1 := by unfold cmpC; rw [if_pos h]
theorem cmpC_more {a b : CellD} (h : LessC b a) : cmpC a b = 1 := by unfold cmpC; rw [if_neg h.asymm, if_pos h]
theorem cmpC_self (a : CellD) : cmpC a a = 0 := (cmpC_zero a a).2 rfl
set_option maxRecDepth 100000 in
set_option maxHeartbeats 4000000 in
theorem compare_int (a b : Int) (w : World) : Calls Try.prog 53 #[(ValD.whole a).val, (ValD.whole b).val] w (ValQ (.int .i64 (cmpC (ValD.whole a).cell (ValD.whole b).cell)) w) := by
  obtain ⟨i1, i2, i3, i4⟩ := assertsI64
  obtain ⟨b1, b2, b3, b4⟩ := assertsBool
  obtain ⟨s1, s2, s3, s4⟩ := assertsStr
  have hna : (a != a) = false := by simp
  have hnb : (b != b) = false := by simp
  by_cases h1 : a < b
  · have hl : LessC (ValD.whole a).cell (ValD.whole b).cell := .inr ⟨rfl, .inl h1⟩
    rw [cmpC_less hl]
    have h2 : ¬ b < a := by omega
    clear hl
    simp only [ValD.val]
    go_enter Try.func53, Try.ntmps53
    go_wp2
    go_ret
    exact ⟨rfl, 0, rfl⟩
  · by_cases h2 : b < a
    · have hl : LessC (ValD.whole b).cell (ValD.whole a).cell := .inr ⟨rfl, .inl h2⟩
      rw [cmpC_more hl]
      clear hl
      simp only [ValD.val]
      go_enter Try.func53, Try.ntmps53
      go_wp2
      go_ret
      exact ⟨rfl, 0, rfl⟩
    · obtain rfl : a = b := by omega
      rw [cmpC_self]
      simp only [ValD.val]
      go_enter Try.func53, Try.ntmps53
      go_wp2
      go_ret
      exact ⟨rfl, 0, rfl⟩
set_option maxRecDepth 100000 in
set_option maxHeartbeats 4000000 in
theorem compare_text (a b : ByteArray) (w : World) : Calls Try.prog 53 #[(ValD.text a).val, (ValD.text b).val] w (ValQ (.int .i64 (cmpC (ValD.text a).cell (ValD.text b).cell)) w) := by
  obtain ⟨i1, i2, i3, i4⟩ := assertsI64
  obtain ⟨b1, b2, b3, b4⟩ := assertsBool
  obtain ⟨s1, s2, s3, s4⟩ := assertsStr
  have hna : (a.toList == a.toList) = true := by simp
  have hnb : (b.toList == b.toList) = true := by simp
  cases h1 : Op.bytesLess a.toList b.toList with
  | true =>
    have hl : LessC (ValD.text a).cell (ValD.text b).cell := .inr ⟨rfl, .inr ⟨rfl, h1⟩⟩
    rw [cmpC_less hl]
    clear hl
    have h2 := bl_asymm h1
    simp only [ValD.val]
    go_enter Try.func53, Try.ntmps53
    go_wp2
    go_ret
    exact ⟨rfl, 0, rfl⟩
  | false =>
    cases h2 : Op.bytesLess b.toList a.toList with
    | true =>
      have hl : LessC (ValD.text b).cell (ValD.text a).cell := .inr ⟨rfl, .inr ⟨rfl, h2⟩⟩
      rw [cmpC_more hl]
      clear hl
      have hne : (a.toList == b.toList) = false := by
        rw [beq_eq_false_iff_ne]; intro e; rw [e, bl_irrefl] at h2; cases h2
      simp only [ValD.val]
      go_enter Try.func53, Try.ntmps53
      go_wp2
      go_ret
      exact ⟨rfl, 0, rfl⟩
    | false =>
      obtain rfl : a = b := vbytes_ext (bl_tri _ _ h1 h2)
      rw [cmpC_self]
      simp only [ValD.val]
      go_enter Try.func53, Try.ntmps53
      go_wp2
      go_ret
      exact ⟨rfl, 0, rfl⟩
set_option maxRecDepth 100000 in
set_option maxHeartbeats 4000000 in
theorem compare_truth (a b : Bool) (w : World) : Calls Try.prog 53 #[(ValD.truth a).val, (ValD.truth b).val] w (ValQ (.int .i64 (cmpC (ValD.truth a).cell (ValD.truth b).cell)) w) := by
  obtain ⟨i1, i2, i3, i4⟩ := assertsI64
  obtain ⟨b1, b2, b3, b4⟩ := assertsBool
  obtain ⟨s1, s2, s3, s4⟩ := assertsStr
  have hc : cmpC (ValD.truth a).cell (ValD.truth b).cell = (if a then (if b then 0 else 1) else (if b then -1 else 0)) := by
    cases a <;> cases b
    · exact cmpC_self _
    · exact cmpC_less (.inr ⟨rfl, .inl (by decide)⟩)
    · exact cmpC_more (.inr ⟨rfl, .inl (by decide)⟩)
    · exact cmpC_self _
  rw [hc]
  clear hc
  have I1 := is_same true
  have I2 := is_same false
  have C1 := cmp_three a b
  cases a <;> cases b
  all_goals
    simp only [Bool.false_eq_true, if_true, if_false] at I1 I2 C1
    simp only [ValD.val, Bool.false_eq_true, if_true, if_false]
    have HI1 := Lib.hid I1
    have HI2 := Lib.hid I2
    have HC := Lib.hid C1
    clear I1 I2 C1
    go_enter Try.func53, Try.ntmps53
    go_wp2
    go_quiet (first | (go_at_call 70; first | exact Calls.quiet_of_same (HI1.out _) | exact Calls.quiet_of_same (HI2.out _)) | (go_at_call 69; exact Calls.quiet_of_same (HC.out _)))
    go_wp2
    go_ret
    exact ⟨rfl, _, rfl⟩
theorem cmpC_kind {a b : CellD} (h : a.kind < b.kind) : cmpC a b = -1 := cmpC_less (.inl h)
theorem cmpC_kind' {a b : CellD} (h : b.kind < a.kind) : cmpC a b = 1 := cmpC_more (.inl h)
set_option maxRecDepth 100000 in
set_option maxHeartbeats 8000000 in
theorem compare_kinds (a b : ValD) (hk : a.cell.kind ≠ b.cell.kind) (w : World) : Calls Try.prog 53 #[a.val, b.val] w (ValQ (.int .i64 (cmpC a.cell b.cell)) w) := by
  have HK := Lib.hid kindOf_same
  have hres : cmpC a.cell b.cell = if a.cell.kind < b.cell.kind then -1 else 1 := by
    by_cases h : a.cell.kind < b.cell.kind
    · rw [if_pos h, cmpC_kind h]
    · rw [if_neg h, cmpC_kind' (by omega)]
  rw [hres]
  have hne : (a.cell.kind != b.cell.kind) = true := by simp [bne, hk]
  have hne' : (a.cell.kind == b.cell.kind) = false := by simp [hk]
  have hna : (a.cell.kind != a.cell.kind) = false := by simp
  have hnb : (b.cell.kind != b.cell.kind) = false := by simp
  have h3 : ∀ w, Calls Try.prog 66 #[a.val] w (fun e w' => e = .returned (.int .u8 a.cell.kind) ∧ w' = w) := fun w => kindOf_same a w
  have h4 : ∀ w, Calls Try.prog 66 #[b.val] w (fun e w' => e = .returned (.int .u8 b.cell.kind) ∧ w' = w) := fun w => kindOf_same b w
  generalize a.cell.kind = ka at *
  generalize b.cell.kind = kb at *
  generalize a.val = va at *
  generalize b.val = vb at *
  have H3 := Lib.hid h3
  have H4 := Lib.hid h4
  clear h3 h4 hres
  by_cases h : ka < kb
  · have h2 : ¬ kb < ka := by omega
    rw [if_pos h]
    go_enter Try.func53, Try.ntmps53
    go_wp2_with fail
    refine (H3.out _).mono ?_
    rintro e w1 ⟨rfl, rfl⟩
    go_wp2_with fail
    refine (H4.out _).mono ?_
    rintro e w2 ⟨rfl, rfl⟩
    go_wp2
    go_ret
    exact ⟨rfl, 0, rfl⟩
  · have h2 : kb < ka := by omega
    rw [if_neg h]
    go_enter Try.func53, Try.ntmps53
    go_wp2_with fail
    refine (H3.out _).mono ?_
    rintro e w1 ⟨rfl, rfl⟩
    go_wp2_with fail
    refine (H4.out _).mono ?_
    rintro e w2 ⟨rfl, rfl⟩
    go_wp2
    go_ret
    exact ⟨rfl, 0, rfl⟩
set_option maxRecDepth 100000 in
theorem compare_nil (w : World) : Calls Try.prog 53 #[ValD.nil.val, ValD.nil.val] w (ValQ (.int .i64 (cmpC ValD.nil.cell ValD.nil.cell)) w) := by
  obtain ⟨i1, i2, i3, i4⟩ := assertsI64
  obtain ⟨b1, b2, b3, b4⟩ := assertsBool
  obtain ⟨s1, s2, s3, s4⟩ := assertsStr
  rw [cmpC_self]
  simp only [ValD.val]
  go_enter Try.func53, Try.ntmps53
  go_wp2
  go_ret
  exact ⟨rfl, 0, rfl⟩
theorem compare_calls (a b : ValD) (w : World) : Calls Try.prog 53 #[a.val, b.val] w (ValQ (.int .i64 (cmpC a.cell b.cell)) w) := by
  by_cases hk : a.cell.kind = b.cell.kind
  · cases a <;> cases b
    case nil.nil => exact compare_nil w
    case whole.whole a b => exact compare_int a b w
    case truth.truth a b => exact compare_truth a b w
    case text.text a b => exact compare_text a b w
    all_goals (simp [ValD.cell] at hk)
  · exact compare_kinds a b hk w
end Go.Proofs.Ytkofaoaglnjkgaa
