/- The contract of catchmentref01.Less. -/
import Derived.Test.YtkofaoaglnjkgaaVlCmp
import Derived.Test.YtkofaoaglnjkgaaKept
namespace Go.Proofs.Ytkofaoaglnjkgaa
open Go.RowKit Go.Deep
set_option linter.unusedVariables false
set_option linter.unusedSimpArgs false

set_option maxRecDepth 100000 in
set_option maxHeartbeats 4000000 in
theorem refLess (a b : CellD) (w : World) : Calls Try.prog 32 #[.agg a.cells, .agg b.cells] w (ValIs (.bool (decide (LessC a b))) w) := by
  obtain ⟨k1, n1, s1⟩ := a
  obtain ⟨k2, n2, s2⟩ := b
  have fin : ∀ (x y : Bool), x = y → ∀ w', Below w.heap.size w w' → ValIs (.bool y) w (.returned (.bool x)) w' := by rintro x _ rfl w' h; exact ⟨rfl, h⟩
  have FIN := Lib.hid fin
  clear fin
  simp only [CellD.cells]
  by_cases hk : k1 = k2
  · subst hk
    have h0 : (k1 != k1) = false := by simp
    have h0' : (k1 == k1) = true := by simp
    by_cases hn : n1 = n2
    · subst hn
      have h1 : (n1 == n1) = true := by simp
      have h2 : ¬ n1 < n1 := by omega
      have hr : Op.bytesLess s1.toList s2.toList = decide (LessC ⟨k1, n1, s1⟩ ⟨k1, n1, s2⟩) := by
        cases h : Op.bytesLess s1.toList s2.toList with
        | true => exact (decide_eq_true (.inr ⟨rfl, .inr ⟨rfl, h⟩⟩)).symm
        | false =>
          refine (decide_eq_false ?_).symm
          rintro (h3 | ⟨_, h3 | ⟨_, h3⟩⟩)
          · exact absurd h3 (by simp)
          · exact absurd h3 (by simp)
          · rw [h] at h3; cases h3
      have HR := Lib.hid hr
      clear hr
      go_enter Try.func32, Try.ntmps32
      go_wp2
      go_ret
      refine FIN.out _ _ HR.out _ ?_
      repeat (first | exact Below.refl _ _ | refine Below.alloc ?_ (by simp <;> omega) _)
    · have h1 : (n1 == n2) = false := by simp [hn]
      have hr : decide (n1 < n2) = decide (LessC ⟨k1, n1, s1⟩ ⟨k1, n2, s2⟩) := by
        apply decide_eq_decide.2
        constructor
        · intro h; exact .inr ⟨rfl, .inl h⟩
        · rintro (h3 | ⟨_, h3 | ⟨h4, h3⟩⟩)
          · exact absurd h3 (by simp)
          · exact h3
          · exact absurd h4 hn
      have HR := Lib.hid hr
      clear hr
      by_cases h2 : n1 < n2
      · have HR2 := HR.out
        rw [decide_eq_true h2] at HR2
        have HR3 := Lib.hid HR2
        clear HR HR2
        go_enter Try.func32, Try.ntmps32
        go_wp2
        go_ret
        refine FIN.out _ _ HR3.out _ ?_
        repeat (first | exact Below.refl _ _ | refine Below.alloc ?_ (by simp <;> omega) _)
      · have HR2 := HR.out
        rw [decide_eq_false h2] at HR2
        have HR3 := Lib.hid HR2
        clear HR HR2
        go_enter Try.func32, Try.ntmps32
        go_wp2
        go_ret
        refine FIN.out _ _ HR3.out _ ?_
        repeat (first | exact Below.refl _ _ | refine Below.alloc ?_ (by simp <;> omega) _)
  · have h0 : (k1 != k2) = true := by simp [bne, hk]
    have hr : decide (k1 < k2) = decide (LessC ⟨k1, n1, s1⟩ ⟨k2, n2, s2⟩) := by
      apply decide_eq_decide.2
      constructor
      · intro h; exact .inl h
      · rintro (h3 | ⟨h4, _⟩)
        · exact h3
        · exact absurd h4 hk
    have HR := Lib.hid hr
    clear hr
    go_enter Try.func32, Try.ntmps32
    go_wp2
    go_ret
    refine FIN.out _ _ HR.out _ ?_
    repeat (first | exact Below.refl _ _ | refine Below.alloc ?_ (by simp <;> omega) _)
end Go.Proofs.Ytkofaoaglnjkgaa
