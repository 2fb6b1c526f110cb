/- The contract of catchmentlaw01.Value. -/
import Derived.Test.YtkildbpfondgcaaVlFix
namespace Go.Proofs.Ytkildbpfondgcaa
open Go.RowKit Go.Deep
set_option linter.unusedVariables false

/-- What a fixed cell is worth. -/
def valOfFix (c : CellD) : ValD := valOf (fix c)
theorem valOfFix_eq (c : CellD) : valOfFix c = goodVal c := by
  unfold valOfFix fix goodVal
  by_cases hc : chk c = 0
  · rw [if_pos hc, if_pos hc]
  · rw [if_neg hc, if_neg hc]; rfl
theorem fix_kinds (c : CellD) (h0 : 0 ≤ c.kind) : (fix c).kind = 0 ∨ (fix c).kind = 1 ∨ (fix c).kind = 2 ∨ (fix c).kind = 3 := by
  unfold fix
  by_cases hc : chk c = 0
  · rw [if_pos hc]
    have hk : ¬ 3 < c.kind := by intro h; simp [chk, h] at hc
    omega
  · rw [if_neg hc]; exact .inl rfl
set_option maxRecDepth 100000 in
set_option maxHeartbeats 2000000 in
theorem lawValue (c : CellD) (h0 : 0 ≤ c.kind) (w : World) : Calls Try.prog 27 #[.agg c.cells] w (ValIs (goodVal c).val w) := by
  rw [← valOfFix_eq]
  unfold valOfFix
  have hfk := fix_kinds c h0
  have hfx := fun w => fix_calls c h0 w
  obtain ⟨fk, fn, fs, hff⟩ : ∃ fk fn fs, fix c = ⟨fk, fn, fs⟩ := ⟨_, _, _, rfl⟩
  rw [hff] at hfk ⊢
  simp only [hff, CellD.cells] at hfx hfk ⊢
  have HFX := Lib.hid hfx
  have HN := Lib.hid (rfl : decide (fn = 1) = decide (fn = 1))
  have hb : (fn == 1) = decide (fn = 1) := by by_cases h : fn = 1 <;> simp [h]
  clear hfx hff
  rcases hfk with rfl | rfl | rfl | rfl
  all_goals
    go_enter Try.func27, Try.ntmps27
    go_wp2_with fail
    refine (HFX.out _).mono ?_
    rintro e w1 ⟨rfl, hb1⟩
    have hz1 : w.heap.size < w1.heap.size := by have := hb1.size; simp at this; omega
    have B1 := Lib.hid (((Below.refl w.heap.size w).alloc (Nat.le_refl _) _).trans (hb1.mono (by simp)))
    have c0 := (hb1.cell (p := ⟨w.heap.size, 0, none⟩) (by simp)).trans (by rw [World.cell?_alloc_new])
    have c1 := (hb1.cell (p := ⟨w.heap.size, 1, none⟩) (by simp)).trans (by rw [World.cell?_alloc_new])
    have c2 := (hb1.cell (p := ⟨w.heap.size, 2, none⟩) (by simp)).trans (by rw [World.cell?_alloc_new])
    have fz : ∀ i, w1.frozen? ⟨w.heap.size, i, none⟩ = false := fun i => (hb1.frozen (p := ⟨w.heap.size, i, none⟩) (by simp)).trans (by simp)
    clear hb1
    go_wp2
    go_ret
    refine ⟨rfl, ?_⟩
    repeat (refine Below.setCell ?_ (by first | (simp; done) | (simp; omega)) _)
    exact B1.out
end Go.Proofs.Ytkildbpfondgcaa
