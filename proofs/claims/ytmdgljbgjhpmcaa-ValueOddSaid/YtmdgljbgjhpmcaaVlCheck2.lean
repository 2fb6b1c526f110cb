/- Check and Of of any cell. -/
import Derived.Test.YtmdgljbgjhpmcaaVlCheck
namespace Go.Proofs.Ytmdgljbgjhpmcaa
open Go.RowKit Go.Deep
set_option linter.unusedVariables false

/-- The value of a cell, as it is handed in: of one that may not be, null. -/
def goodVal (c : CellD) : ValD := if chk c = 0 then valOf c else .nil
theorem both (c : CellD) (h0 : 0 ≤ c.kind) (w : World) :
    Calls Try.prog 11 #[.agg c.cells] w (ValIs (.int .i64 (chk c)) w) ∧ Calls Try.prog 10 #[.agg c.cells] w (ValIs (.tuple #[(goodVal c).val, .int .i64 (chk c)]) w) := by
  obtain ⟨k, n, s⟩ := c
  have h0 : 0 ≤ k := h0
  by_cases hk : 3 < k
  · have e : chk ⟨k, n, s⟩ = 10 := by simp [chk, hk]
    have g : goodVal ⟨k, n, s⟩ = .nil := by simp [goodVal, e]
    rw [e, g]
    exact ⟨chk_big k n s hk w, of_big k n s hk w⟩
  · have hk4 : k = 0 ∨ k = 1 ∨ k = 2 ∨ k = 3 := by omega
    by_cases hs : s.size = 0
    · rcases hk4 with rfl | rfl | rfl | rfl
      · by_cases hn : n = 0
        · subst hn
          have e : chk ⟨0, 0, s⟩ = 0 := by simp [chk, hs]
          have g : goodVal ⟨0, 0, s⟩ = .nil := by simp [goodVal, e, valOf]
          rw [e, g, empty_of hs]
          exact ⟨chk_0 w, of_0 w⟩
        · have e : chk ⟨0, n, s⟩ = 1 := by simp [chk, hn]
          have g : goodVal ⟨0, n, s⟩ = .nil := by simp [goodVal, e]
          rw [e, g, empty_of hs]
          exact ⟨chk_0n n (by simpa using hn) w, of_0n n (by simpa using hn) w⟩
      · have e : chk ⟨1, n, s⟩ = 0 := by simp [chk, hs]
        have g : goodVal ⟨1, n, s⟩ = .whole n := by simp [goodVal, e, valOf]
        rw [e, g, empty_of hs]
        exact ⟨chk_1 n w, of_1 n w⟩
      · by_cases hn : n = 0
        · subst hn
          have e : chk ⟨2, 0, s⟩ = 0 := by simp [chk, hs]
          have g : goodVal ⟨2, 0, s⟩ = .truth false := by simp [goodVal, e, valOf]
          rw [e, g, empty_of hs]
          exact ⟨chk_20 w, of_20 w⟩
        · by_cases hn1 : n = 1
          · subst hn1
            have e : chk ⟨2, 1, s⟩ = 0 := by simp [chk, hs]
            have g : goodVal ⟨2, 1, s⟩ = .truth true := by simp [goodVal, e, valOf]
            rw [e, g, empty_of hs]
            exact ⟨chk_21 w, of_21 w⟩
          · have e : chk ⟨2, n, s⟩ = 1 := by simp [chk, hn, hn1]
            have g : goodVal ⟨2, n, s⟩ = .nil := by simp [goodVal, e]
            rw [e, g, empty_of hs]
            exact ⟨chk_2n n (by simpa using hn) (by simpa using hn1) w, of_2n n (by simpa using hn) (by simpa using hn1) w⟩
      · by_cases hn : n = 0
        · subst hn
          have e : chk ⟨3, 0, s⟩ = 0 := by simp [chk, hs]
          have g : goodVal ⟨3, 0, s⟩ = .text s := by simp [goodVal, e, valOf]
          rw [e, g]
          exact ⟨chk_3 s (by omega) w, of_3 s (by omega) w⟩
        · have e : chk ⟨3, n, s⟩ = 1 := by simp [chk, hn]
          have g : goodVal ⟨3, n, s⟩ = .nil := by simp [goodVal, e]
          rw [e, g]
          exact ⟨chk_3n n s (by simpa using hn) w, of_3n n s (by simpa using hn) w⟩
    · rcases hk4 with rfl | rfl | rfl | rfl
      · have e : chk ⟨0, n, s⟩ = 1 := by simp [chk, hs]
        have g : goodVal ⟨0, n, s⟩ = .nil := by simp [goodVal, e]
        rw [e, g]
        exact ⟨chk_0s n s hs w, of_0s n s hs w⟩
      · have e : chk ⟨1, n, s⟩ = 1 := by simp [chk, hs]
        have g : goodVal ⟨1, n, s⟩ = .nil := by simp [goodVal, e]
        rw [e, g]
        exact ⟨chk_1s n s hs w, of_1s n s hs w⟩
      · have e : chk ⟨2, n, s⟩ = 1 := by simp [chk, hs]
        have g : goodVal ⟨2, n, s⟩ = .nil := by simp [goodVal, e]
        rw [e, g]
        exact ⟨chk_2s n s hs w, of_2s n s hs w⟩
      · by_cases hn : n = 0
        · subst hn
          by_cases hl : 64 < s.size
          · have e : chk ⟨3, 0, s⟩ = 5 := by simp [chk, hl]
            have g : goodVal ⟨3, 0, s⟩ = .nil := by simp [goodVal, e]
            rw [e, g]
            exact ⟨chk_3l s (by omega) w, of_3l s (by omega) w⟩
          · have e : chk ⟨3, 0, s⟩ = 0 := by simp [chk, hl]
            have g : goodVal ⟨3, 0, s⟩ = .text s := by simp [goodVal, e, valOf]
            rw [e, g]
            exact ⟨chk_3 s (by omega) w, of_3 s (by omega) w⟩
        · have e : chk ⟨3, n, s⟩ = 1 := by simp [chk, hn]
          have g : goodVal ⟨3, n, s⟩ = .nil := by simp [goodVal, e]
          rw [e, g]
          exact ⟨chk_3n n s (by simpa using hn) w, of_3n n s (by simpa using hn) w⟩
end Go.Proofs.Ytmdgljbgjhpmcaa
