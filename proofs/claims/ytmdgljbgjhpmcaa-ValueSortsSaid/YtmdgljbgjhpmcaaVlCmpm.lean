/- The contract of value.Compare. value: And, Or, Not, Is. Whether a value that stands in a row is a text. The contract of catchmentref01.Less. The contract of catchmentlaw01.Row. -/
import Derived.Test.YtmdgljbgjhpmcaaVlBase
import Derived.Test.YtmdgljbgjhpmcaaBase
import Derived.Deep.AppendLies
import Derived.Maps.AppendAt
namespace Go.Proofs.Ytmdgljbgjhpmcaa
open Go.RowKit Go.Deep
set_option linter.unusedVariables false
set_option linter.unusedSimpArgs false

theorem is_same (b : Bool) (w : World) : Calls Try.prog 25 #[.bool b] w (fun e w' => e = .returned (.int .u8 (if b then 2 else 0)) ∧ w' = w) := by
  cases b
  all_goals
    go_enter Try.func25, Try.ntmps25
    go_wp2
    go_ret
    exact ⟨rfl, rfl⟩
set_option maxRecDepth 100000 in
set_option maxHeartbeats 2000000 in
theorem cmp_three (a b : Bool) (w : World) : Calls Try.prog 28 #[.int .u8 (if a then 2 else 0), .int .u8 (if b then 2 else 0)] w (fun e w' => e = .returned (.int .i64 (if a then (if b then 0 else 1) else (if b then -1 else 0))) ∧ w' = w) := by
  cases a <;> cases b
  all_goals
    simp only [Bool.false_eq_true, if_true, if_false]
    go_enter Try.func28, Try.ntmps28
    go_wp2
    go_ret
    exact ⟨rfl, rfl⟩
theorem cmpC_less {a b : CellD} (h : LessC a b) : cmpC a b = -1 := by unfold cmpC; rw [if_pos h]
theorem cmpC_more {a b : CellD} (h : LessC b a) : cmpC a b = 1 := by unfold cmpC; rw [if_neg h.asymm, if_pos h]
theorem cmpC_self (a : CellD) : cmpC a a = 0 := (cmpC_zero a a).2 rfl
set_option maxRecDepth 100000 in
set_option maxHeartbeats 4000000 in
theorem compare_int (a b : Int) (w : World) : Calls Try.prog 17 #[(ValD.whole a).val, (ValD.whole b).val] w (ValQ (.int .i64 (cmpC (ValD.whole a).cell (ValD.whole b).cell)) w) := by
  obtain ⟨i1, i2, i3, i4⟩ := assertsI64
  obtain ⟨b1, b2, b3, b4⟩ := assertsBool
  obtain ⟨s1, s2, s3, s4⟩ := assertsStr
  have hna : (a != a) = false := by simp
  have hnb : (b != b) = false := by simp
  by_cases h1 : a < b
  · have hl : LessC (ValD.whole a).cell (ValD.whole b).cell := .inr ⟨rfl, .inl h1⟩
    rw [cmpC_less hl]
    have h2 : ¬ b < a := by omega
    clear hl
    simp only [ValD.val]
    go_enter Try.func17, Try.ntmps17
    go_wp2
    go_ret
    exact ⟨rfl, 0, rfl⟩
  · by_cases h2 : b < a
    · have hl : LessC (ValD.whole b).cell (ValD.whole a).cell := .inr ⟨rfl, .inl h2⟩
      rw [cmpC_more hl]
      clear hl
      simp only [ValD.val]
      go_enter Try.func17, Try.ntmps17
      go_wp2
      go_ret
      exact ⟨rfl, 0, rfl⟩
    · obtain rfl : a = b := by omega
      rw [cmpC_self]
      simp only [ValD.val]
      go_enter Try.func17, Try.ntmps17
      go_wp2
      go_ret
      exact ⟨rfl, 0, rfl⟩
set_option maxRecDepth 100000 in
set_option maxHeartbeats 4000000 in
theorem compare_text (a b : ByteArray) (w : World) : Calls Try.prog 17 #[(ValD.text a).val, (ValD.text b).val] w (ValQ (.int .i64 (cmpC (ValD.text a).cell (ValD.text b).cell)) w) := by
  obtain ⟨i1, i2, i3, i4⟩ := assertsI64
  obtain ⟨b1, b2, b3, b4⟩ := assertsBool
  obtain ⟨s1, s2, s3, s4⟩ := assertsStr
  have hna : (a.toList == a.toList) = true := by simp
  have hnb : (b.toList == b.toList) = true := by simp
  cases h1 : Op.bytesLess a.toList b.toList with
  | true =>
    have hl : LessC (ValD.text a).cell (ValD.text b).cell := .inr ⟨rfl, .inr ⟨rfl, h1⟩⟩
    rw [cmpC_less hl]
    clear hl
    have h2 := bl_asymm h1
    simp only [ValD.val]
    go_enter Try.func17, Try.ntmps17
    go_wp2
    go_ret
    exact ⟨rfl, 0, rfl⟩
  | false =>
    cases h2 : Op.bytesLess b.toList a.toList with
    | true =>
      have hl : LessC (ValD.text b).cell (ValD.text a).cell := .inr ⟨rfl, .inr ⟨rfl, h2⟩⟩
      rw [cmpC_more hl]
      clear hl
      have hne : (a.toList == b.toList) = false := by
        rw [beq_eq_false_iff_ne]; intro e; rw [e, bl_irrefl] at h2; cases h2
      simp only [ValD.val]
      go_enter Try.func17, Try.ntmps17
      go_wp2
      go_ret
      exact ⟨rfl, 0, rfl⟩
    | false =>
      obtain rfl : a = b := vbytes_ext (bl_tri _ _ h1 h2)
      rw [cmpC_self]
      simp only [ValD.val]
      go_enter Try.func17, Try.ntmps17
      go_wp2
      go_ret
      exact ⟨rfl, 0, rfl⟩
set_option maxRecDepth 100000 in
set_option maxHeartbeats 4000000 in
theorem compare_truth (a b : Bool) (w : World) : Calls Try.prog 17 #[(ValD.truth a).val, (ValD.truth b).val] w (ValQ (.int .i64 (cmpC (ValD.truth a).cell (ValD.truth b).cell)) w) := by
  obtain ⟨i1, i2, i3, i4⟩ := assertsI64
  obtain ⟨b1, b2, b3, b4⟩ := assertsBool
  obtain ⟨s1, s2, s3, s4⟩ := assertsStr
  have hc : cmpC (ValD.truth a).cell (ValD.truth b).cell = (if a then (if b then 0 else 1) else (if b then -1 else 0)) := by
    cases a <;> cases b
    · exact cmpC_self _
    · exact cmpC_less (.inr ⟨rfl, .inl (by decide)⟩)
    · exact cmpC_more (.inr ⟨rfl, .inl (by decide)⟩)
    · exact cmpC_self _
  rw [hc]
  clear hc
  have I1 := is_same true
  have I2 := is_same false
  have C1 := cmp_three a b
  cases a <;> cases b
  all_goals
    simp only [Bool.false_eq_true, if_true, if_false] at I1 I2 C1
    simp only [ValD.val, Bool.false_eq_true, if_true, if_false]
    have HI1 := Lib.hid I1
    have HI2 := Lib.hid I2
    have HC := Lib.hid C1
    clear I1 I2 C1
    go_enter Try.func17, Try.ntmps17
    go_wp2
    go_quiet (first | (go_at_call 25; first | exact Calls.quiet_of_same (HI1.out _) | exact Calls.quiet_of_same (HI2.out _)) | (go_at_call 28; exact Calls.quiet_of_same (HC.out _)))
    go_wp2
    go_ret
    exact ⟨rfl, _, rfl⟩
theorem cmpC_kind {a b : CellD} (h : a.kind < b.kind) : cmpC a b = -1 := cmpC_less (.inl h)
theorem cmpC_kind' {a b : CellD} (h : b.kind < a.kind) : cmpC a b = 1 := cmpC_more (.inl h)
set_option maxRecDepth 100000 in
set_option maxHeartbeats 8000000 in
theorem compare_kinds (a b : ValD) (hk : a.cell.kind ≠ b.cell.kind) (w : World) : Calls Try.prog 17 #[a.val, b.val] w (ValQ (.int .i64 (cmpC a.cell b.cell)) w) := by
  have HK := Lib.hid kindOf_same
  have hres : cmpC a.cell b.cell = if a.cell.kind < b.cell.kind then -1 else 1 := by
    by_cases h : a.cell.kind < b.cell.kind
    · rw [if_pos h, cmpC_kind h]
    · rw [if_neg h, cmpC_kind' (by omega)]
  rw [hres]
  have hne : (a.cell.kind != b.cell.kind) = true := by simp [bne, hk]
  have hne' : (a.cell.kind == b.cell.kind) = false := by simp [hk]
  have hna : (a.cell.kind != a.cell.kind) = false := by simp
  have hnb : (b.cell.kind != b.cell.kind) = false := by simp
  have h3 : ∀ w, Calls Try.prog 15 #[a.val] w (fun e w' => e = .returned (.int .u8 a.cell.kind) ∧ w' = w) := fun w => kindOf_same a w
  have h4 : ∀ w, Calls Try.prog 15 #[b.val] w (fun e w' => e = .returned (.int .u8 b.cell.kind) ∧ w' = w) := fun w => kindOf_same b w
  generalize a.cell.kind = ka at *
  generalize b.cell.kind = kb at *
  generalize a.val = va at *
  generalize b.val = vb at *
  have H3 := Lib.hid h3
  have H4 := Lib.hid h4
  clear h3 h4 hres
  by_cases h : ka < kb
  · have h2 : ¬ kb < ka := by omega
    rw [if_pos h]
    go_enter Try.func17, Try.ntmps17
    go_wp2_with fail
    refine (H3.out _).mono ?_
    rintro e w1 ⟨rfl, rfl⟩
    go_wp2_with fail
    refine (H4.out _).mono ?_
    rintro e w2 ⟨rfl, rfl⟩
    go_wp2
    go_ret
    exact ⟨rfl, 0, rfl⟩
  · have h2 : kb < ka := by omega
    rw [if_neg h]
    go_enter Try.func17, Try.ntmps17
    go_wp2_with fail
    refine (H3.out _).mono ?_
    rintro e w1 ⟨rfl, rfl⟩
    go_wp2_with fail
    refine (H4.out _).mono ?_
    rintro e w2 ⟨rfl, rfl⟩
    go_wp2
    go_ret
    exact ⟨rfl, 0, rfl⟩
set_option maxRecDepth 100000 in
theorem compare_nil (w : World) : Calls Try.prog 17 #[ValD.nil.val, ValD.nil.val] w (ValQ (.int .i64 (cmpC ValD.nil.cell ValD.nil.cell)) w) := by
  obtain ⟨i1, i2, i3, i4⟩ := assertsI64
  obtain ⟨b1, b2, b3, b4⟩ := assertsBool
  obtain ⟨s1, s2, s3, s4⟩ := assertsStr
  rw [cmpC_self]
  simp only [ValD.val]
  go_enter Try.func17, Try.ntmps17
  go_wp2
  go_ret
  exact ⟨rfl, 0, rfl⟩
theorem compare_calls (a b : ValD) (w : World) : Calls Try.prog 17 #[a.val, b.val] w (ValQ (.int .i64 (cmpC a.cell b.cell)) w) := by
  by_cases hk : a.cell.kind = b.cell.kind
  · cases a <;> cases b
    case nil.nil => exact compare_nil w
    case whole.whole a b => exact compare_int a b w
    case truth.truth a b => exact compare_truth a b w
    case text.text a b => exact compare_text a b w
    all_goals (simp [ValD.cell] at hk)
  · exact compare_kinds a b hk w
end Go.Proofs.Ytmdgljbgjhpmcaa

namespace Go.Proofs.Ytmdgljbgjhpmcaa
open Go.RowKit
set_option linter.unusedVariables false
set_option linter.unusedSimpArgs false

def th (a : Int) : Int := if 2 < a then 1 else a
theorem th_cases (a : Int) (h : 0 ≤ a) : th a = 0 ∨ th a = 1 ∨ th a = 2 := by unfold th; split <;> omega
def IntIs (k : IntKind) (r : Int) (w : World) (e : Ending) (w' : World) : Prop := e = .returned (.int k r) ∧ w' = w
theorem intIs {k : IntKind} {r x : Int} (h : x = r) : Ending.returned (.int k x) = .returned (.int k r) := by rw [h]
set_option maxHeartbeats 1000000 in
theorem and_calls (a b p q r : Int) (w : World) (hp : th a = p) (hq : th b = q) (hr : min p q = r) : Calls Try.prog 22 #[.int .u8 a, .int .u8 b] w (IntIs .u8 r w) := by
  subst hp hq hr
  by_cases h1 : 2 < a
  · by_cases h2 : 2 < b
    · go_enter Try.func22, Try.ntmps22
      go_wp2
      all_goals (go_ret; exact ⟨intIs (by unfold th; (repeat' split) <;> omega), rfl⟩)
    · go_enter Try.func22, Try.ntmps22
      go_wp2
      all_goals (go_ret; exact ⟨intIs (by unfold th; (repeat' split) <;> omega), rfl⟩)
  · by_cases h2 : 2 < b
    · go_enter Try.func22, Try.ntmps22
      go_wp2
      all_goals (go_ret; exact ⟨intIs (by unfold th; (repeat' split) <;> omega), rfl⟩)
    · go_enter Try.func22, Try.ntmps22
      go_wp2
      all_goals (go_ret; exact ⟨intIs (by unfold th; (repeat' split) <;> omega), rfl⟩)
set_option maxHeartbeats 1000000 in
theorem or_calls (a b p q r : Int) (w : World) (hp : th a = p) (hq : th b = q) (hr : max p q = r) : Calls Try.prog 23 #[.int .u8 a, .int .u8 b] w (IntIs .u8 r w) := by
  subst hp hq hr
  by_cases h1 : 2 < a
  · by_cases h2 : 2 < b
    · go_enter Try.func23, Try.ntmps23
      go_wp2
      all_goals (go_ret; exact ⟨intIs (by unfold th; (repeat' split) <;> omega), rfl⟩)
    · go_enter Try.func23, Try.ntmps23
      go_wp2
      all_goals (go_ret; exact ⟨intIs (by unfold th; (repeat' split) <;> omega), rfl⟩)
  · by_cases h2 : 2 < b
    · go_enter Try.func23, Try.ntmps23
      go_wp2
      all_goals (go_ret; exact ⟨intIs (by unfold th; (repeat' split) <;> omega), rfl⟩)
    · go_enter Try.func23, Try.ntmps23
      go_wp2
      all_goals (go_ret; exact ⟨intIs (by unfold th; (repeat' split) <;> omega), rfl⟩)
set_option maxHeartbeats 1000000 in
theorem not_calls (a p r : Int) (w : World) (h0 : 0 ≤ a) (hp : th a = p) (hr : 2 - p = r) : Calls Try.prog 24 #[.int .u8 a] w (IntIs .u8 r w) := by
  subst hp hr
  by_cases h1 : 2 < a
  · go_enter Try.func24, Try.ntmps24
    go_wp2
    all_goals (go_ret; exact ⟨intIs (by unfold th; (repeat' split) <;> omega), rfl⟩)
  · go_enter Try.func24, Try.ntmps24
    go_wp2
    all_goals (go_ret; exact ⟨intIs (by unfold th; (repeat' split) <;> omega), rfl⟩)
theorem isTrue_calls (w : World) : Calls Try.prog 25 #[.bool true] w (IntIs .u8 2 w) := by
  go_enter Try.func25, Try.ntmps25
  go_wp2
  go_ret
  exact ⟨rfl, rfl⟩
theorem isFalse_calls (w : World) : Calls Try.prog 25 #[.bool false] w (IntIs .u8 0 w) := by
  go_enter Try.func25, Try.ntmps25
  go_wp2
  go_ret
  exact ⟨rfl, rfl⟩
theorem is_calls (x : Bool) (r : Int) (w : World) (hr : (if x = true then (2 : Int) else 0) = r) : Calls Try.prog 25 #[.bool x] w (IntIs .u8 r w) := by
  subst hr
  cases x
  · exact isFalse_calls w
  · exact isTrue_calls w
end Go.Proofs.Ytmdgljbgjhpmcaa

namespace Go.Proofs.Ytmdgljbgjhpmcaa
open Go.RowKit Go.Deep
set_option linter.unusedVariables false
set_option linter.unusedSimpArgs false

def textOf : ValD → ByteArray | .text s => s | _ => ByteArray.empty
def isText : ValD → Bool | .text _ => true | _ => false
theorem isText_kind (d : ValD) : isText d = decide (d.cell.kind = 3) := by cases d <;> rfl
theorem textOf_cell (d : ValD) (h : isText d = true) : textOf d = d.cell.s := by cases d <;> simp [isText] at h; rfl
theorem isText_iff (d : ValD) : isText d = true ↔ d.cell.kind = 3 := by rw [isText_kind]; simp
/-- The assertion's run, for any value. -/
def AssertText (v : Value) (s : ByteArray) (b : Bool) : Prop := ∀ (xT : TypeId) (W : World), (Instr.typeAssert v xT 9 true).run Try.prog W = .ok (.tuple #[.string s, .bool b]) W
theorem assertText (d : ValD) : AssertText d.val (textOf d) (isText d) := by
  obtain ⟨s1, s2, s3, s4⟩ := assertsStr
  intro xT W
  cases d
  · exact s4 _ _
  · exact s3 _ (by decide) _ _ _
  · exact s3 _ (by decide) _ _ _
  · exact s1 _ _ _
theorem chk_size {c : CellD} (h : chk c = 0) : c.s.size ≤ 64 := by
  unfold chk at h
  by_cases h1 : 3 < c.kind
  · rw [if_pos h1] at h; omega
  · rw [if_neg h1] at h
    by_cases h2 : (c.kind ≠ 3 ∧ c.s.size ≠ 0) ∨ (c.kind ≠ 1 ∧ c.kind ≠ 2 ∧ c.n ≠ 0) ∨ (c.kind = 2 ∧ c.n ≠ 0 ∧ c.n ≠ 1)
    · rw [if_pos h2] at h; omega
    · rw [if_neg h2] at h
      by_cases h3 : 64 < c.s.size
      · rw [if_pos h3] at h; omega
      · omega
theorem fix_size (c : CellD) : (fix c).s.size ≤ 64 := by
  unfold fix
  by_cases h : chk c = 0
  · rw [if_pos h]; exact chk_size h
  · rw [if_neg h]; exact Nat.zero_le _
theorem fix_fix (c : CellD) : fix (fix c) = fix c := by
  unfold fix
  by_cases h : chk c = 0
  · rw [if_pos h, if_pos h]
  · rw [if_neg h]; rfl
theorem fix_kind (c : CellD) (h0 : 0 ≤ c.kind) : 0 ≤ (fix c).kind ∧ (fix c).kind ≤ 3 := by
  unfold fix
  by_cases h : chk c = 0
  · rw [if_pos h]
    refine ⟨h0, ?_⟩
    unfold chk at h
    by_cases h1 : 3 < c.kind
    · rw [if_pos h1] at h; omega
    · omega
  · rw [if_neg h]; decide
theorem fix_kind0 (c : CellD) (h : (fix c).kind = 0) : fix c = zeroCell := by
  by_cases hc : chk c = 0
  · have hf : fix c = c := by unfold fix; rw [if_pos hc]
    rw [hf] at h ⊢
    obtain ⟨k, n, s⟩ := c
    obtain rfl : k = 0 := h
    unfold chk at hc
    by_cases h2 : n = 0
    · by_cases h3 : s.size = 0
      · subst h2; rw [empty_of h3]; rfl
      · simp [h3] at hc
    · simp [h2] at hc
  · unfold fix; rw [if_neg hc]
end Go.Proofs.Ytmdgljbgjhpmcaa

namespace Go.Proofs.Ytmdgljbgjhpmcaa
open Go.RowKit Go.Deep
set_option linter.unusedVariables false
set_option linter.unusedSimpArgs false

set_option maxRecDepth 100000 in
set_option maxHeartbeats 4000000 in
theorem refLess (a b : CellD) (w : World) : Calls Try.prog 30 #[.agg a.cells, .agg b.cells] w (ValIs (.bool (decide (LessC a b))) w) := by
  obtain ⟨k1, n1, s1⟩ := a
  obtain ⟨k2, n2, s2⟩ := b
  have fin : ∀ (x y : Bool), x = y → ∀ w', Below w.heap.size w w' → ValIs (.bool y) w (.returned (.bool x)) w' := by rintro x _ rfl w' h; exact ⟨rfl, h⟩
  have FIN := Lib.hid fin
  clear fin
  simp only [CellD.cells]
  by_cases hk : k1 = k2
  · subst hk
    have h0 : (k1 != k1) = false := by simp
    have h0' : (k1 == k1) = true := by simp
    by_cases hn : n1 = n2
    · subst hn
      have h1 : (n1 == n1) = true := by simp
      have h2 : ¬ n1 < n1 := by omega
      have hr : Op.bytesLess s1.toList s2.toList = decide (LessC ⟨k1, n1, s1⟩ ⟨k1, n1, s2⟩) := by
        cases h : Op.bytesLess s1.toList s2.toList with
        | true => exact (decide_eq_true (.inr ⟨rfl, .inr ⟨rfl, h⟩⟩)).symm
        | false =>
          refine (decide_eq_false ?_).symm
          rintro (h3 | ⟨_, h3 | ⟨_, h3⟩⟩)
          · exact absurd h3 (by simp)
          · exact absurd h3 (by simp)
          · rw [h] at h3; cases h3
      have HR := Lib.hid hr
      clear hr
      go_enter Try.func30, Try.ntmps30
      go_wp2
      go_ret
      refine FIN.out _ _ HR.out _ ?_
      repeat (first | exact Below.refl _ _ | refine Below.alloc ?_ (by simp <;> omega) _)
    · have h1 : (n1 == n2) = false := by simp [hn]
      have hr : decide (n1 < n2) = decide (LessC ⟨k1, n1, s1⟩ ⟨k1, n2, s2⟩) := by
        apply decide_eq_decide.2
        constructor
        · intro h; exact .inr ⟨rfl, .inl h⟩
        · rintro (h3 | ⟨_, h3 | ⟨h4, h3⟩⟩)
          · exact absurd h3 (by simp)
          · exact h3
          · exact absurd h4 hn
      have HR := Lib.hid hr
      clear hr
      by_cases h2 : n1 < n2
      · have HR2 := HR.out
        rw [decide_eq_true h2] at HR2
        have HR3 := Lib.hid HR2
        clear HR HR2
        go_enter Try.func30, Try.ntmps30
        go_wp2
        go_ret
        refine FIN.out _ _ HR3.out _ ?_
        repeat (first | exact Below.refl _ _ | refine Below.alloc ?_ (by simp <;> omega) _)
      · have HR2 := HR.out
        rw [decide_eq_false h2] at HR2
        have HR3 := Lib.hid HR2
        clear HR HR2
        go_enter Try.func30, Try.ntmps30
        go_wp2
        go_ret
        refine FIN.out _ _ HR3.out _ ?_
        repeat (first | exact Below.refl _ _ | refine Below.alloc ?_ (by simp <;> omega) _)
  · have h0 : (k1 != k2) = true := by simp [bne, hk]
    have hr : decide (k1 < k2) = decide (LessC ⟨k1, n1, s1⟩ ⟨k2, n2, s2⟩) := by
      apply decide_eq_decide.2
      constructor
      · intro h; exact .inl h
      · rintro (h3 | ⟨h4, _⟩)
        · exact h3
        · exact absurd h4 hk
    have HR := Lib.hid hr
    clear hr
    go_enter Try.func30, Try.ntmps30
    go_wp2
    go_ret
    refine FIN.out _ _ HR.out _ ?_
    repeat (first | exact Below.refl _ _ | refine Below.alloc ?_ (by simp <;> omega) _)
end Go.Proofs.Ytmdgljbgjhpmcaa

namespace Go.Proofs.Ytmdgljbgjhpmcaa
open Go.RowKit Go.Deep
set_option linter.unusedVariables false
set_option linter.unusedSimpArgs false

def valsV (xs : List CellD) : List Value := xs.map fun c => (goodVal c).val
theorem valsV_len (xs : List CellD) : (valsV xs).length = xs.length := List.length_map _
theorem valsV_snoc (xs : List CellD) (k : Nat) (c : CellD) (h : xs[k]? = some c) : valsV (xs.take (k + 1)) = valsV (xs.take k) ++ [(goodVal c).val] := by
  unfold valsV; rw [List.take_add_one, h, List.map_append]; rfl
theorem infoVal : (Try.prog.info? 26).map (fun i => (i.zero, i.size, i.bytes)) = some (some .nilIface, 1, 16) := by kernel_rfl
theorem val_oneCell (v : ValD) : v.val.oneCell' = true := by cases v <;> rfl
def CellsOK (xs : List CellD) : Prop := ∀ c ∈ xs, 0 ≤ c.kind
set_option maxRecDepth 100000 in
set_option maxHeartbeats 1000000 in
theorem row_calls (a : Option Addr) (n c : Nat) (xs : List CellD) (w : World) (h : Sl 3 CellR w a n xs) (hn : n ≤ 1000) :
    Calls Try.prog 20 #[.slice a n c] w (fun e w' => ∃ v, e = .returned v ∧ w'.ownsRow w.heap.size 26 1 v n (valsV xs) ∧ Below w.heap.size w w') := by
  have HS := Lib.hid h
  have HLEN := Lib.hid h.1
  obtain ⟨i0, hi0, hz0, hz1, hz2⟩ := info_parts infoVal
  have HI := Lib.hid hi0
  have HZ0 := Lib.hid hz0
  have HZ1 := Lib.hid hz1
  have HZ2 := Lib.hid hz2
  have HV := Lib.hid lawValue
  clear h hi0 hz0 hz1 hz2
  go_enter Try.func20, Try.ntmps20
  go_wp2
  go_loopw [3, 4] (fun v i wr => ∃ k : Nat, k ≤ n ∧ i = .int .i64 k ∧ wr.ownsRow w.heap.size 26 1 v k (valsV (xs.take k)) ∧ Below w.heap.size w wr) (fun _ i _ => n - (intOf i).toNat)
  case atStart => exact ⟨0, Nat.zero_le _, rfl, World.ownsRow_nil _ _ _ _, Below.refl _ _⟩
  case round =>
    obtain ⟨k, hk, rfl, hown, hb⟩ := hrel
    have HO := Lib.hid hown
    have HB := Lib.hid hb
    clear hown hb
    by_cases hlt : k < n
    · obtain ⟨b, off, ce, cs, rfl, hbl, hx, hcl, hr, hcell⟩ := HS.out.at_ hlt
      obtain ⟨rfl, hsz, ⟨hk0, _⟩, _⟩ := hr
      have d0 := (HB.out.cell (p := ⟨b, off + k * 3 + 0, none⟩) hbl).trans (hcell 0 _ rfl)
      have d1 := (HB.out.cell (p := ⟨b, off + k * 3 + 1, none⟩) hbl).trans (hcell 1 _ rfl)
      have d2 := (HB.out.cell (p := ⟨b, off + k * 3 + 2, none⟩) hbl).trans (hcell 2 _ rfl)
      rw [Nat.add_zero] at d0
      have hsn := valsV_snoc xs k ce hx
      have hv := HV.out ce hk0
      unfold CellD.cells at hv
      generalize goodVal ce = d at *
      have HSN := Lib.hid hsn
      have HVC := Lib.hid hv
      clear hcell hsn hx hsz hk0 hv
      have h63 : k + 1 ≤ maxLen := by unfold maxLen; omega
      have hby : (k + 1) * 16 ≤ 140737488355328 := by omega
      rcases d with _ | z | z | z
      · unfold ValD.val at HSN HVC
        go_wp2_with fail
        refine (HVC.out _).mono ?_
        rintro e w1 ⟨rfl, hb1⟩
        have HO1 := Lib.hid (own_below HO.out hb1)
        have HB1 := Lib.hid (HB.out.trans (hb1.mono HB.out.size))
        have hbase : w.heap.size ≤ (w1.alloc (.cells #[.nilIface] 26)).heap.size := by have := HB1.out.size; simp; omega
        have hone : ∀ u ∈ [(.nilIface : Value)], u.oneCell' = true := by simp [Value.oneCell']
        have hcl : ∀ j u, [(.nilIface : Value)][j]? = some u → (w1.alloc (.cells #[.nilIface] 26)).cell? ((⟨w1.heap.size, 0, none⟩ : Addr).add j) = some u := cell_one_new w1 _ 26
        have HBASE := Lib.hid hbase
        have HONE := Lib.hid hone
        have HCL := Lib.hid hcl
        clear hb1 HO HB hbase hone hcl
        go_wp2_with (at_builtin; refine wpList_append_lies _ rfl _ _ _ rfl w.heap.size 26 i0 .nilIface 1 16 Try.underlying52 HI.out HZ0.out HZ1.out HZ2.out rfl (by decide) _ _ _ rfl (HO1.out.alloc _) ⟨w1.heap.size, 0, none⟩ 1 1 [.nilIface] rfl rfl HCL.out HONE.out (by decide) h63 hby HBASE.out _ rfl ?_; intro g cap w2 hown2 hgrow hat hglt)
        have hb2 := below_append HO1.out HB1.out hgrow
        clear hgrow hat
        go_roundw
        case rel =>
          refine ⟨k + 1, by omega, by go_num, ?_, hb2⟩
          rw [HSN.out]
          exact hown2
        case measure => simp [intOf] <;> omega
      · unfold ValD.val at HSN HVC
        go_wp2_with fail
        refine (HVC.out _).mono ?_
        rintro e w1 ⟨rfl, hb1⟩
        have HO1 := Lib.hid (own_below HO.out hb1)
        have HB1 := Lib.hid (HB.out.trans (hb1.mono HB.out.size))
        have hbase : w.heap.size ≤ (w1.alloc (.cells #[.iface 2 (.int .i64 z)] 26)).heap.size := by have := HB1.out.size; simp; omega
        have hone : ∀ u ∈ [(.iface 2 (.int .i64 z) : Value)], u.oneCell' = true := by simp [Value.oneCell']
        have hcl : ∀ j u, [(.iface 2 (.int .i64 z) : Value)][j]? = some u → (w1.alloc (.cells #[.iface 2 (.int .i64 z)] 26)).cell? ((⟨w1.heap.size, 0, none⟩ : Addr).add j) = some u := cell_one_new w1 _ 26
        have HBASE := Lib.hid hbase
        have HONE := Lib.hid hone
        have HCL := Lib.hid hcl
        clear hb1 HO HB hbase hone hcl
        go_wp2_with (at_builtin; refine wpList_append_lies _ rfl _ _ _ rfl w.heap.size 26 i0 .nilIface 1 16 Try.underlying52 HI.out HZ0.out HZ1.out HZ2.out rfl (by decide) _ _ _ rfl (HO1.out.alloc _) ⟨w1.heap.size, 0, none⟩ 1 1 [.iface 2 (.int .i64 z)] rfl rfl HCL.out HONE.out (by decide) h63 hby HBASE.out _ rfl ?_; intro g cap w2 hown2 hgrow hat hglt)
        have hb2 := below_append HO1.out HB1.out hgrow
        clear hgrow hat
        go_roundw
        case rel =>
          refine ⟨k + 1, by omega, by go_num, ?_, hb2⟩
          rw [HSN.out]
          exact hown2
        case measure => simp [intOf] <;> omega
      · unfold ValD.val at HSN HVC
        go_wp2_with fail
        refine (HVC.out _).mono ?_
        rintro e w1 ⟨rfl, hb1⟩
        have HO1 := Lib.hid (own_below HO.out hb1)
        have HB1 := Lib.hid (HB.out.trans (hb1.mono HB.out.size))
        have hbase : w.heap.size ≤ (w1.alloc (.cells #[.iface 4 (.bool z)] 26)).heap.size := by have := HB1.out.size; simp; omega
        have hone : ∀ u ∈ [(.iface 4 (.bool z) : Value)], u.oneCell' = true := by simp [Value.oneCell']
        have hcl : ∀ j u, [(.iface 4 (.bool z) : Value)][j]? = some u → (w1.alloc (.cells #[.iface 4 (.bool z)] 26)).cell? ((⟨w1.heap.size, 0, none⟩ : Addr).add j) = some u := cell_one_new w1 _ 26
        have HBASE := Lib.hid hbase
        have HONE := Lib.hid hone
        have HCL := Lib.hid hcl
        clear hb1 HO HB hbase hone hcl
        go_wp2_with (at_builtin; refine wpList_append_lies _ rfl _ _ _ rfl w.heap.size 26 i0 .nilIface 1 16 Try.underlying52 HI.out HZ0.out HZ1.out HZ2.out rfl (by decide) _ _ _ rfl (HO1.out.alloc _) ⟨w1.heap.size, 0, none⟩ 1 1 [.iface 4 (.bool z)] rfl rfl HCL.out HONE.out (by decide) h63 hby HBASE.out _ rfl ?_; intro g cap w2 hown2 hgrow hat hglt)
        have hb2 := below_append HO1.out HB1.out hgrow
        clear hgrow hat
        go_roundw
        case rel =>
          refine ⟨k + 1, by omega, by go_num, ?_, hb2⟩
          rw [HSN.out]
          exact hown2
        case measure => simp [intOf] <;> omega
      · unfold ValD.val at HSN HVC
        go_wp2_with fail
        refine (HVC.out _).mono ?_
        rintro e w1 ⟨rfl, hb1⟩
        have HO1 := Lib.hid (own_below HO.out hb1)
        have HB1 := Lib.hid (HB.out.trans (hb1.mono HB.out.size))
        have hbase : w.heap.size ≤ (w1.alloc (.cells #[.iface 9 (.string z)] 26)).heap.size := by have := HB1.out.size; simp; omega
        have hone : ∀ u ∈ [(.iface 9 (.string z) : Value)], u.oneCell' = true := by simp [Value.oneCell']
        have hcl : ∀ j u, [(.iface 9 (.string z) : Value)][j]? = some u → (w1.alloc (.cells #[.iface 9 (.string z)] 26)).cell? ((⟨w1.heap.size, 0, none⟩ : Addr).add j) = some u := cell_one_new w1 _ 26
        have HBASE := Lib.hid hbase
        have HONE := Lib.hid hone
        have HCL := Lib.hid hcl
        clear hb1 HO HB hbase hone hcl
        go_wp2_with (at_builtin; refine wpList_append_lies _ rfl _ _ _ rfl w.heap.size 26 i0 .nilIface 1 16 Try.underlying52 HI.out HZ0.out HZ1.out HZ2.out rfl (by decide) _ _ _ rfl (HO1.out.alloc _) ⟨w1.heap.size, 0, none⟩ 1 1 [.iface 9 (.string z)] rfl rfl HCL.out HONE.out (by decide) h63 hby HBASE.out _ rfl ?_; intro g cap w2 hown2 hgrow hat hglt)
        have hb2 := below_append HO1.out HB1.out hgrow
        clear hgrow hat
        go_roundw
        case rel =>
          refine ⟨k + 1, by omega, by go_num, ?_, hb2⟩
          rw [HSN.out]
          exact hown2
        case measure => simp [intOf] <;> omega
    · have hkn : xs.take k = xs := List.take_of_length_le (by have := HLEN.out; omega)
      have hkn2 : k = n := by omega
      subst hkn2
      rw [hkn] at HO
      go_wp2
      go_ret
      exact ⟨_, rfl, HO.out, HB.out⟩
end Go.Proofs.Ytmdgljbgjhpmcaa
