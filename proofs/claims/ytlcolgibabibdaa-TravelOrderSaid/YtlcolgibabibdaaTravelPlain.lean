/- Plain: the place of the greatest that is not above a bound. -/
import Derived.Test.YtlcolgibabibdaaData
namespace Go.Proofs.Ytlcolgibabibdaa
set_option linter.unusedVariables false

/-- The place of the last one of the greatest that aren't above most, among the first k. -/
def Best {α : Type} (sel : α → Nat) (most : Nat) (xs : List α) (k : Nat) (r : Int) : Prop :=
  (r = -1 ∧ ∀ j x, j < k → xs[j]? = some x → most < sel x) ∨
  ∃ (m : Nat) (x : α), r = (m : Int) ∧ m < k ∧ xs[m]? = some x ∧ sel x ≤ most ∧ ∀ j y, j < k → xs[j]? = some y → sel y ≤ most → sel y ≤ sel x ∧ (sel y = sel x → j ≤ m)
section
variable {α : Type} {sel : α → Nat} {most : Nat} {xs : List α} {k : Nat} {r r' : Int} {x y : α} {m : Nat}
theorem Best.start : Best sel most xs 0 (-1) := .inl ⟨rfl, fun j x h => absurd h (by omega)⟩
theorem Best.range (h : Best sel most xs k r) : -1 ≤ r ∧ r < k := by
  rcases h with ⟨rfl, _⟩ | ⟨m, x, rfl, hm, _⟩ <;> omega
theorem Best.skip (h : Best sel most xs k r) (hx : xs[k]? = some x) (hgt : most < sel x) : Best sel most xs (k + 1) r := by
  rcases h with ⟨rfl, hall⟩ | ⟨m, y, rfl, hm, hy, hle, hall⟩
  · refine .inl ⟨rfl, fun j z hj hz => ?_⟩
    by_cases hjk : j = k
    · subst hjk; rw [hx] at hz; cases hz; exact hgt
    · exact hall j z (by omega) hz
  · refine .inr ⟨m, y, rfl, by omega, hy, hle, fun j z hj hz hzl => ?_⟩
    by_cases hjk : j = k
    · subst hjk; rw [hx] at hz; cases hz; omega
    · exact hall j z (by omega) hz hzl
theorem Best.first (h : Best sel most xs k (-1)) (hx : xs[k]? = some x) (hle : sel x ≤ most) : Best sel most xs (k + 1) (k : Int) := by
  rcases h with ⟨_, hall⟩ | ⟨m, y, hm, _⟩
  · refine .inr ⟨k, x, rfl, by omega, hx, hle, fun j z hj hz hzl => ?_⟩
    by_cases hjk : j = k
    · subst hjk; rw [hx] at hz; cases hz; exact ⟨Nat.le_refl _, fun _ => Nat.le_refl _⟩
    · have := hall j z (by omega) hz; omega
  · omega
theorem Best.better (h : Best sel most xs k (m : Int)) (hy : xs[m]? = some y) (hx : xs[k]? = some x) (hle : sel x ≤ most) (hge : sel y ≤ sel x) : Best sel most xs (k + 1) (k : Int) := by
  rcases h with ⟨h, _⟩ | ⟨m', y', hm, hmk, hy', hle', hall⟩
  · omega
  · obtain rfl : m = m' := by omega
    rw [hy] at hy'; cases hy'
    refine .inr ⟨k, x, rfl, by omega, hx, hle, fun j z hj hz hzl => ?_⟩
    by_cases hjk : j = k
    · subst hjk; rw [hx] at hz; cases hz; exact ⟨Nat.le_refl _, fun _ => Nat.le_refl _⟩
    · have := hall j z (by omega) hz hzl; exact ⟨by omega, fun _ => by omega⟩
theorem Best.worse (h : Best sel most xs k (m : Int)) (hy : xs[m]? = some y) (hx : xs[k]? = some x) (hlt : sel x < sel y) : Best sel most xs (k + 1) (m : Int) := by
  rcases h with ⟨h, _⟩ | ⟨m', y', hm, hmk, hy', hle', hall⟩
  · omega
  · obtain rfl : m = m' := by omega
    rw [hy] at hy'; cases hy'
    refine .inr ⟨m, y, rfl, by omega, hy, hle', fun j z hj hz hzl => ?_⟩
    by_cases hjk : j = k
    · subst hjk; rw [hx] at hz; cases hz; exact ⟨by omega, fun h => by omega⟩
    · exact hall j z (by omega) hz hzl
theorem Best.unique (h : Best sel most xs k r) (h' : Best sel most xs k r') : r = r' := by
  rcases h with ⟨rfl, hall⟩ | ⟨m, x, rfl, hm, hx, hle, hall⟩ <;> rcases h' with ⟨rfl, hall'⟩ | ⟨m', x', rfl, hm', hx', hle', hall'⟩
  · rfl
  · have := hall m' x' hm' hx'; omega
  · have := hall' m x hm hx; omega
  · have h1 := hall m' x' hm' hx' hle'
    have h2 := hall' m x hm hx hle
    have e : sel x = sel x' := by omega
    have := h1.2 e.symm
    have := h2.2 e
    omega
theorem Best.exists_ (sel : α → Nat) (most : Nat) (xs : List α) : ∀ k, k ≤ xs.length → ∃ r, Best sel most xs k r
  | 0, _ => ⟨-1, Best.start⟩
  | k + 1, hk => by
    obtain ⟨r, h⟩ := Best.exists_ sel most xs k (by omega)
    have hx : xs[k]? = some (xs[k]'(by omega)) := List.getElem?_eq_getElem _
    by_cases hle : sel (xs[k]'(by omega)) ≤ most
    · rcases h with ⟨rfl, hall⟩ | ⟨m, y, rfl, hm, hy, hle', hall⟩
      · exact ⟨_, Best.first (.inl ⟨rfl, hall⟩) hx hle⟩
      · have hb : Best sel most xs k (m : Int) := .inr ⟨m, y, rfl, hm, hy, hle', hall⟩
        by_cases hge : sel y ≤ sel (xs[k]'(by omega))
        · exact ⟨_, hb.better hy hx hle hge⟩
        · exact ⟨_, hb.worse hy hx (by omega)⟩
    · exact ⟨r, h.skip hx (by omega)⟩
/-- One that is not above the bound, and than which none that isn't above the bound is greater. -/
def Good (sel : α → Nat) (most : Nat) (xs : List α) (x : α) : Prop := sel x ≤ most ∧ ∀ (j : Nat) (y : α), xs[j]? = some y → most < sel y ∨ sel y ≤ sel x
theorem best_of_last {n : Nat} (hl : xs.length = n) (hx : xs[m]? = some x) (hg : Good sel most xs x) (hno : ∀ (j : Nat) (y : α), m < j → xs[j]? = some y → ¬ Good sel most xs y) : Best sel most xs n (m : Int) := by
  have hm : m < n := by
    rcases Nat.lt_or_ge m n with h | h
    · exact h
    · rw [List.getElem?_eq_none (by omega)] at hx; cases hx
  refine .inr ⟨m, x, rfl, hm, hx, hg.1, fun j y hj hy hle => ?_⟩
  have h1 : sel y ≤ sel x := by
    rcases hg.2 j y hy with h | h
    · omega
    · exact h
  refine ⟨h1, fun he => ?_⟩
  rcases Nat.lt_or_ge m j with h | h
  · exact absurd ⟨hle, fun i z hz => by have := hg.2 i z hz; omega⟩ (hno j y h hy)
  · exact h
theorem best_of_none {n : Nat} (hl : xs.length = n) (hno : ∀ (j : Nat) (y : α), xs[j]? = some y → ¬ Good sel most xs y) : Best sel most xs n (-1) := by
  obtain ⟨r, h⟩ := Best.exists_ sel most xs n (by omega)
  rcases h with ⟨rfl, hall⟩ | ⟨m, y, rfl, hm, hy, hle, hall⟩
  · exact .inl ⟨rfl, hall⟩
  · refine absurd ⟨hle, fun j z hz => ?_⟩ (hno m y hy)
    have hj : j < n := by
      rcases Nat.lt_or_ge j n with h | h
      · exact h
      · rw [List.getElem?_eq_none (by omega)] at hz; cases hz
    rcases Nat.lt_or_ge most (sel z) with h | h
    · exact .inl h
    · exact .inr (hall j z hj hz h).1
end
end Go.Proofs.Ytlcolgibabibdaa
