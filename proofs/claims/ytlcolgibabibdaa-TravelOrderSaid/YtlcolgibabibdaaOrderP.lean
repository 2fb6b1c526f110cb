/- Plain: in a table that rises, a greater offset finds no lesser snapshot. -/
import Derived.Test.YtlcolgibabibdaaRight
import Derived.Test.YtlcolgibabibdaaTravelPlain
namespace Go.Proofs.Ytlcolgibabibdaa
open Go.RowKit Go.Deep
set_option linter.unusedVariables false

theorem rises_mono {xs : List SnapD} (h : RisesUpto xs xs.length) : ∀ (d i : Nat) (x y : SnapD), xs[i]? = some x → xs[i + d]? = some y → x.id ≤ y.id ∧ x.offset ≤ y.offset
  | 0, i, x, y, hx, hy => by rw [Nat.add_zero, hx] at hy; cases hy; exact ⟨Nat.le_refl _, Nat.le_refl _⟩
  | d + 1, i, x, y, hx, hy => by
    have hl : i + (d + 1) < xs.length := (List.getElem?_eq_some_iff.1 hy).1
    obtain ⟨z, hz⟩ : ∃ z, xs[i + d]? = some z := ⟨_, List.getElem?_eq_getElem (by omega)⟩
    have h1 := rises_mono h d i x z hx hz
    have h2 := h (i + d) z y (by omega) hz (by rw [Nat.add_assoc]; exact hy)
    omega
theorem rises_le {xs : List SnapD} (h : RisesUpto xs xs.length) {i j : Nat} {x y : SnapD} (hx : xs[i]? = some x) (hy : xs[j]? = some y) (hij : i ≤ j) : x.id ≤ y.id ∧ x.offset ≤ y.offset :=
  rises_mono h (j - i) i x y hx (by rw [show i + (j - i) = j by omega]; exact hy)
/-- By its own offset a snapshot, or a later one of the same, is found. -/
theorem own_found {xs : List SnapD} (h : RisesUpto xs xs.length) {i : Nat} {s : SnapD} (hs : xs[i]? = some s) : ¬ Best SnapD.offset s.offset xs xs.length (-1) ∧ ∀ (m : Nat) (x : SnapD), Best SnapD.offset s.offset xs xs.length (m : Int) → xs[m]? = some x → x.offset = s.offset ∧ s.id ≤ x.id := by
  have hil : i < xs.length := (List.getElem?_eq_some_iff.1 hs).1
  constructor
  · rintro (⟨_, hall⟩ | ⟨m, x, hm, _⟩)
    · have := hall i s hil hs; omega
    · omega
  · intro m x hb hx
    rcases hb with ⟨hm, _⟩ | ⟨m', x', hm, hml, hx', hle, hall⟩
    · omega
    · obtain rfl : m = m' := by omega
      rw [hx] at hx'; cases hx'
      have h1 := hall i s hil hs (Nat.le_refl _)
      have he : x.offset = s.offset := by omega
      exact ⟨he, (rises_le h hs hx (h1.2 he.symm)).1⟩
/-- A greater offset finds no lesser one. -/
theorem two_found {xs : List SnapD} (h : RisesUpto xs xs.length) {lo hi : Nat} (hlh : lo ≤ hi) {m : Nat} {x : SnapD} (hx : xs[m]? = some x) (hb : Best SnapD.offset lo xs xs.length (m : Int)) :
    ¬ Best SnapD.offset hi xs xs.length (-1) ∧ ∀ (k : Nat) (y : SnapD), Best SnapD.offset hi xs xs.length (k : Int) → xs[k]? = some y → x.offset ≤ y.offset ∧ x.id ≤ y.id := by
  have hml : m < xs.length := (List.getElem?_eq_some_iff.1 hx).1
  have hxl : x.offset ≤ lo := by
    rcases hb with ⟨hm, _⟩ | ⟨m', x', hm, _, hx', hle, _⟩
    · omega
    · obtain rfl : m = m' := by omega
      rw [hx] at hx'; cases hx'; exact hle
  constructor
  · rintro (⟨_, hall⟩ | ⟨k, y, hk, _⟩)
    · have := hall m x hml hx; omega
    · omega
  · intro k y hb2 hy
    rcases hb2 with ⟨hk, _⟩ | ⟨k', y', hk, hkl, hy', hle, hall⟩
    · omega
    · obtain rfl : k = k' := by omega
      rw [hy] at hy'; cases hy'
      have h1 := hall m x hml hx (by omega)
      refine ⟨h1.1, ?_⟩
      rcases Nat.lt_or_ge k m with h2 | h2
      · have h3 := rises_le h hy hx (Nat.le_of_lt h2)
        have he : x.offset = y.offset := by omega
        have := h1.2 he; omega
      · exact (rises_le h hx hy h2).1
end Go.Proofs.Ytlcolgibabibdaa
