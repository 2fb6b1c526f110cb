/- The order of cells, in plain Lean. -/
import Derived.Test.YtkofaoaglnjkgaaVlVal
import Derived.Lib.Strings
namespace Go.Proofs.Ytkofaoaglnjkgaa
open Go.RowKit Go.Deep
set_option linter.unusedVariables false
set_option linter.unusedSimpArgs false

theorem bl_irrefl : ∀ l : List UInt8, Op.bytesLess l l = false
  | [] => rfl
  | a :: l => by simp [Op.bytesLess, bl_irrefl l]
theorem bl_trans : ∀ a b c : List UInt8, Op.bytesLess a b = true → Op.bytesLess b c = true → Op.bytesLess a c = true
  | _, [], _, h, _ => by simp [Op.bytesLess] at h
  | _, _ :: _, [], _, h => by simp [Op.bytesLess] at h
  | [], _ :: _, _ :: _, _, _ => by simp [Op.bytesLess]
  | x :: a, y :: b, z :: c, h1, h2 => by
    simp only [Op.bytesLess, Bool.or_eq_true, decide_eq_true_eq, Bool.and_eq_true, beq_iff_eq] at h1 h2 ⊢
    rcases h1 with h1 | ⟨rfl, h1⟩
    · rcases h2 with h2 | ⟨rfl, h2⟩
      · exact .inl (UInt8.lt_trans h1 h2)
      · exact .inl h1
    · rcases h2 with h2 | ⟨rfl, h2⟩
      · exact .inl h2
      · exact .inr ⟨rfl, bl_trans a b c h1 h2⟩
theorem bl_tri : ∀ a b : List UInt8, Op.bytesLess a b = false → Op.bytesLess b a = false → a = b
  | [], [], _, _ => rfl
  | [], _ :: _, h, _ => by simp [Op.bytesLess] at h
  | _ :: _, [], _, h => by simp [Op.bytesLess] at h
  | x :: a, y :: b, h1, h2 => by
    simp only [Op.bytesLess, Bool.or_eq_false_iff, decide_eq_false_iff_not, Bool.and_eq_false_iff, beq_eq_false_iff_ne] at h1 h2
    have hxy : x = y := UInt8.le_antisymm (UInt8.not_lt.1 h2.1) (UInt8.not_lt.1 h1.1)
    subst hxy
    rw [bl_tri a b (h1.2.resolve_left (by simp)) (h2.2.resolve_left (by simp))]
theorem vbytes_ext {a b : ByteArray} (h : a.toList = b.toList) : a = b := by
  rw [Lib.toList_data, Lib.toList_data] at h
  cases a; cases b
  congr
  exact Array.toList_inj.1 h
theorem bl_asymm {a b : List UInt8} (h : Op.bytesLess a b = true) : Op.bytesLess b a = false := by
  cases h2 : Op.bytesLess b a with
  | false => rfl
  | true => have := bl_trans _ _ _ h h2; rw [bl_irrefl] at this; cases this
/-- Is a cell ahead of another one? -/
def LessC (a b : CellD) : Prop := a.kind < b.kind ∨ a.kind = b.kind ∧ (a.n < b.n ∨ a.n = b.n ∧ Op.bytesLess a.s.toList b.s.toList = true)
instance (a b : CellD) : Decidable (LessC a b) := by unfold LessC; infer_instance
theorem LessC.irrefl (a : CellD) : ¬ LessC a a := by
  rintro (h | ⟨_, h | ⟨_, h⟩⟩)
  · omega
  · omega
  · rw [bl_irrefl] at h; cases h
theorem LessC.trans {a b c : CellD} (h1 : LessC a b) (h2 : LessC b c) : LessC a c := by
  rcases h1 with h1 | ⟨e1, h1 | ⟨f1, h1⟩⟩ <;> rcases h2 with h2 | ⟨e2, h2 | ⟨f2, h2⟩⟩
  · exact .inl (by omega)
  · exact .inl (by omega)
  · exact .inl (by omega)
  · exact .inl (by omega)
  · exact .inr ⟨by omega, .inl (by omega)⟩
  · exact .inr ⟨by omega, .inl (by omega)⟩
  · exact .inl (by omega)
  · exact .inr ⟨by omega, .inl (by omega)⟩
  · exact .inr ⟨by omega, .inr ⟨by omega, bl_trans _ _ _ h1 h2⟩⟩
theorem LessC.asymm {a b : CellD} (h1 : LessC a b) : ¬ LessC b a := fun h2 => LessC.irrefl _ (h1.trans h2)
theorem CellD.ext' {a b : CellD} (h1 : a.kind = b.kind) (h2 : a.n = b.n) (h3 : a.s = b.s) : a = b := by
  cases a; cases b; cases h1; cases h2; cases h3; rfl
theorem LessC.tri {a b : CellD} (h1 : ¬ LessC a b) (h2 : ¬ LessC b a) : a = b := by
  have hk : a.kind = b.kind := by
    rcases Int.lt_trichotomy a.kind b.kind with h | h | h
    · exact absurd (.inl h) h1
    · exact h
    · exact absurd (.inl h) h2
  have hn : a.n = b.n := by
    rcases Int.lt_trichotomy a.n b.n with h | h | h
    · exact absurd (.inr ⟨hk, .inl h⟩) h1
    · exact h
    · exact absurd (.inr ⟨hk.symm, .inl h⟩) h2
  refine CellD.ext' hk hn (vbytes_ext (bl_tri _ _ ?_ ?_))
  · cases h : Op.bytesLess a.s.toList b.s.toList with
    | false => rfl
    | true => exact absurd (.inr ⟨hk, .inr ⟨hn, h⟩⟩) h1
  · cases h : Op.bytesLess b.s.toList a.s.toList with
    | false => rfl
    | true => exact absurd (.inr ⟨hk.symm, .inr ⟨hn.symm, h⟩⟩) h2
/-- How two cells stand: -1, 0, 1. -/
def cmpC (a b : CellD) : Int := if LessC a b then -1 else if LessC b a then 1 else 0
theorem cmpC_neg (a b : CellD) : cmpC b a = - cmpC a b := by
  unfold cmpC
  by_cases h1 : LessC a b
  · rw [if_pos h1, if_pos h1, if_neg h1.asymm]; rfl
  · by_cases h2 : LessC b a
    · rw [if_pos h2, if_neg h1, if_pos h2]
    · rw [if_neg h2, if_neg h1, if_neg h1, if_neg h2]; rfl
theorem cmpC_zero (a b : CellD) : cmpC a b = 0 ↔ a = b := by
  unfold cmpC
  constructor
  · intro h
    by_cases h1 : LessC a b
    · rw [if_pos h1] at h; omega
    · by_cases h2 : LessC b a
      · rw [if_neg h1, if_pos h2] at h; omega
      · exact LessC.tri h1 h2
  · rintro rfl
    rw [if_neg (LessC.irrefl _), if_neg (LessC.irrefl _)]
theorem cmpC_pos (a b : CellD) : 0 < cmpC a b ↔ LessC b a := by
  unfold cmpC
  by_cases h1 : LessC a b
  · rw [if_pos h1]; exact ⟨fun h => by omega, fun h => absurd h h1.asymm⟩
  · by_cases h2 : LessC b a
    · rw [if_neg h1, if_pos h2]; exact ⟨fun _ => h2, fun _ => by omega⟩
    · rw [if_neg h1, if_neg h2]; exact ⟨fun h => by omega, fun h => absurd h h2⟩
theorem cmpC_lt (a b : CellD) : cmpC a b < 0 ↔ LessC a b := by
  rw [← cmpC_pos, cmpC_neg a b]; omega
theorem cmpC_trans {a b c : CellD} (h1 : ¬ 0 < cmpC a b) (h2 : ¬ 0 < cmpC b c) : ¬ 0 < cmpC a c := by
  rw [cmpC_pos] at *
  intro h3
  by_cases hab : LessC a b
  · exact h2 (h3.trans hab)
  · obtain rfl := LessC.tri hab h1
    exact h2 h3
end Go.Proofs.Ytkofaoaglnjkgaa
