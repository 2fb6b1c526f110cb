/- Check and Of of any cell. The contracts of catchmentref01.Fix, catchmentlaw01.Value, value.Cell. The cell of a good value. -/
import Derived.Test.YtkofaoaglnjkgaaVlCheck
namespace Go.Proofs.Ytkofaoaglnjkgaa
open Go.RowKit Go.Deep
set_option linter.unusedVariables false
set_option linter.unusedSimpArgs false

/-- The value of a cell, as it is handed in: of one that may not be, null. -/
def goodVal (c : CellD) : ValD := if chk c = 0 then valOf c else .nil
theorem both (c : CellD) (h0 : 0 ≤ c.kind) (w : World) :
    Calls Try.prog 29 #[.agg c.cells] w (ValIs (.int .i64 (chk c)) w) ∧ Calls Try.prog 52 #[.agg c.cells] w (ValIs (.tuple #[(goodVal c).val, .int .i64 (chk c)]) w) := by
  obtain ⟨k, n, s⟩ := c
  have h0 : 0 ≤ k := h0
  by_cases hk : 3 < k
  · have e : chk ⟨k, n, s⟩ = 10 := by simp [chk, hk]
    have g : goodVal ⟨k, n, s⟩ = .nil := by simp [goodVal, e]
    rw [e, g]
    exact ⟨chk_big k n s hk w, of_big k n s hk w⟩
  · have hk4 : k = 0 ∨ k = 1 ∨ k = 2 ∨ k = 3 := by omega
    by_cases hs : s.size = 0
    · rcases hk4 with rfl | rfl | rfl | rfl
      · by_cases hn : n = 0
        · subst hn
          have e : chk ⟨0, 0, s⟩ = 0 := by simp [chk, hs]
          have g : goodVal ⟨0, 0, s⟩ = .nil := by simp [goodVal, e, valOf]
          rw [e, g, empty_of hs]
          exact ⟨chk_0 w, of_0 w⟩
        · have e : chk ⟨0, n, s⟩ = 1 := by simp [chk, hn]
          have g : goodVal ⟨0, n, s⟩ = .nil := by simp [goodVal, e]
          rw [e, g, empty_of hs]
          exact ⟨chk_0n n (by simpa using hn) w, of_0n n (by simpa using hn) w⟩
      · have e : chk ⟨1, n, s⟩ = 0 := by simp [chk, hs]
        have g : goodVal ⟨1, n, s⟩ = .whole n := by simp [goodVal, e, valOf]
        rw [e, g, empty_of hs]
        exact ⟨chk_1 n w, of_1 n w⟩
      · by_cases hn : n = 0
        · subst hn
          have e : chk ⟨2, 0, s⟩ = 0 := by simp [chk, hs]
          have g : goodVal ⟨2, 0, s⟩ = .truth false := by simp [goodVal, e, valOf]
          rw [e, g, empty_of hs]
          exact ⟨chk_20 w, of_20 w⟩
        · by_cases hn1 : n = 1
          · subst hn1
            have e : chk ⟨2, 1, s⟩ = 0 := by simp [chk, hs]
            have g : goodVal ⟨2, 1, s⟩ = .truth true := by simp [goodVal, e, valOf]
            rw [e, g, empty_of hs]
            exact ⟨chk_21 w, of_21 w⟩
          · have e : chk ⟨2, n, s⟩ = 1 := by simp [chk, hn, hn1]
            have g : goodVal ⟨2, n, s⟩ = .nil := by simp [goodVal, e]
            rw [e, g, empty_of hs]
            exact ⟨chk_2n n (by simpa using hn) (by simpa using hn1) w, of_2n n (by simpa using hn) (by simpa using hn1) w⟩
      · by_cases hn : n = 0
        · subst hn
          have e : chk ⟨3, 0, s⟩ = 0 := by simp [chk, hs]
          have g : goodVal ⟨3, 0, s⟩ = .text s := by simp [goodVal, e, valOf]
          rw [e, g]
          exact ⟨chk_3 s (by omega) w, of_3 s (by omega) w⟩
        · have e : chk ⟨3, n, s⟩ = 1 := by simp [chk, hn]
          have g : goodVal ⟨3, n, s⟩ = .nil := by simp [goodVal, e]
          rw [e, g]
          exact ⟨chk_3n n s (by simpa using hn) w, of_3n n s (by simpa using hn) w⟩
    · rcases hk4 with rfl | rfl | rfl | rfl
      · have e : chk ⟨0, n, s⟩ = 1 := by simp [chk, hs]
        have g : goodVal ⟨0, n, s⟩ = .nil := by simp [goodVal, e]
        rw [e, g]
        exact ⟨chk_0s n s hs w, of_0s n s hs w⟩
      · have e : chk ⟨1, n, s⟩ = 1 := by simp [chk, hs]
        have g : goodVal ⟨1, n, s⟩ = .nil := by simp [goodVal, e]
        rw [e, g]
        exact ⟨chk_1s n s hs w, of_1s n s hs w⟩
      · have e : chk ⟨2, n, s⟩ = 1 := by simp [chk, hs]
        have g : goodVal ⟨2, n, s⟩ = .nil := by simp [goodVal, e]
        rw [e, g]
        exact ⟨chk_2s n s hs w, of_2s n s hs w⟩
      · by_cases hn : n = 0
        · subst hn
          by_cases hl : 64 < s.size
          · have e : chk ⟨3, 0, s⟩ = 5 := by simp [chk, hl]
            have g : goodVal ⟨3, 0, s⟩ = .nil := by simp [goodVal, e]
            rw [e, g]
            exact ⟨chk_3l s (by omega) w, of_3l s (by omega) w⟩
          · have e : chk ⟨3, 0, s⟩ = 0 := by simp [chk, hl]
            have g : goodVal ⟨3, 0, s⟩ = .text s := by simp [goodVal, e, valOf]
            rw [e, g]
            exact ⟨chk_3 s (by omega) w, of_3 s (by omega) w⟩
        · have e : chk ⟨3, n, s⟩ = 1 := by simp [chk, hn]
          have g : goodVal ⟨3, n, s⟩ = .nil := by simp [goodVal, e]
          rw [e, g]
          exact ⟨chk_3n n s (by simpa using hn) w, of_3n n s (by simpa using hn) w⟩
end Go.Proofs.Ytkofaoaglnjkgaa

namespace Go.Proofs.Ytkofaoaglnjkgaa
open Go.RowKit Go.Deep
set_option linter.unusedVariables false
set_option linter.unusedSimpArgs false

def zeroCell : CellD := ⟨0, 0, ByteArray.empty⟩
def fix (c : CellD) : CellD := if chk c = 0 then c else zeroCell
set_option maxRecDepth 100000 in
set_option maxHeartbeats 2000000 in
theorem fix_calls (c : CellD) (h0 : 0 ≤ c.kind) (w : World) : Calls Try.prog 7 #[.agg c.cells] w (ValIs (.agg (fix c).cells) w) := by
  have hb := fun w => (both c h0 w).1
  have HB := Lib.hid hb
  clear hb
  by_cases hc : chk c = 0
  · have hf : fix c = c := by unfold fix; rw [if_pos hc]
    have hq : (chk c == 0) = true := by rw [hc]; rfl
    rw [hf]
    obtain ⟨k, n, s⟩ := c
    simp only [CellD.cells] at *
    generalize chk ⟨k, n, s⟩ = q at *
    subst hc
    clear hf
    go_enter Try.func7, Try.ntmps7
    go_wp2_with fail
    refine (HB.out _).mono ?_
    rintro e w1 ⟨rfl, hb1⟩
    have c0 := (hb1.cell (p := ⟨w.heap.size, 0, none⟩) (by simp <;> omega)).trans (by rw [World.cell?_alloc_lt _ _ _ (by simp), World.cell?_alloc_new])
    have c1 := (hb1.cell (p := ⟨w.heap.size, 1, none⟩) (by simp <;> omega)).trans (by rw [World.cell?_alloc_lt _ _ _ (by simp), World.cell?_alloc_new])
    have c2 := (hb1.cell (p := ⟨w.heap.size, 2, none⟩) (by simp <;> omega)).trans (by rw [World.cell?_alloc_lt _ _ _ (by simp), World.cell?_alloc_new])
    have xx : ∀ i v, (#[Value.int IntKind.u8 0, Value.int IntKind.i64 0, Value.string ByteArray.empty] : Array Value)[i]? = some v → w1.cell? ⟨w.heap.size + 1, i, none⟩ = some v := fun i v hv =>
      (hb1.cell (p := ⟨w.heap.size + 1, i, none⟩) (by simp)).trans (by rw [World.cell?_alloc_at _ _ _ _ (by simp)]; exact hv)
    have x0 := xx 0 _ rfl
    have x1 := xx 1 _ rfl
    have x2 := xx 2 _ rfl
    have fx : ∀ i, w1.frozen? ⟨w.heap.size + 1, i, none⟩ = false := fun i => (hb1.frozen (p := ⟨w.heap.size + 1, i, none⟩) (by simp)).trans (by simp)
    have hz1 : w.heap.size + 1 < w1.heap.size := by have := hb1.size; simp at this; omega
    have hbb : Below w.heap.size w w1 := (((Below.refl _ _).alloc (Nat.le_refl _) _).alloc (by simp) _).trans (hb1.mono (by simp <;> omega))
    have HBB := Lib.hid hbb
    clear hb1 hbb xx
    go_wp2
    refine bodyPost_ret (v := .agg #[.int .u8 k, .int .i64 n, .string s]) (by simp [results, Try.results7, go_sem, x0, x1, x2]) rfl ?_
    refine ⟨rfl, ?_⟩
    repeat (refine Below.setCell ?_ (by first | (simp; done) | (simp; omega)) _)
    exact HBB.out
  · have hf : fix c = zeroCell := by unfold fix; rw [if_neg hc]
    have hq : (chk c == 0) = false := by rw [beq_eq_false_iff_ne]; exact hc
    have hq2 : (chk c != 0) = true := by rw [bne, hq]; rfl
    rw [hf]
    obtain ⟨k, n, s⟩ := c
    simp only [CellD.cells, zeroCell] at *
    generalize chk ⟨k, n, s⟩ = q at *
    clear hf hc
    go_enter Try.func7, Try.ntmps7
    go_wp2_with fail
    refine (HB.out _).mono ?_
    rintro e w1 ⟨rfl, hb1⟩
    have xx : ∀ i v, (#[Value.int IntKind.u8 0, Value.int IntKind.i64 0, Value.string ByteArray.empty] : Array Value)[i]? = some v → w1.cell? ⟨w.heap.size + 1, i, none⟩ = some v := fun i v hv =>
      (hb1.cell (p := ⟨w.heap.size + 1, i, none⟩) (by simp)).trans (by rw [World.cell?_alloc_at _ _ _ _ (by simp)]; exact hv)
    have x0 := xx 0 _ rfl
    have x1 := xx 1 _ rfl
    have x2 := xx 2 _ rfl
    have fx : ∀ i, w1.frozen? ⟨w.heap.size + 1, i, none⟩ = false := fun i => (hb1.frozen (p := ⟨w.heap.size + 1, i, none⟩) (by simp)).trans (by simp)
    have hz1 : w.heap.size + 1 < w1.heap.size := by have := hb1.size; simp at this; omega
    have hbb : Below w.heap.size w w1 := (((Below.refl _ _).alloc (Nat.le_refl _) _).alloc (by simp) _).trans (hb1.mono (by simp <;> omega))
    have HBB := Lib.hid hbb
    clear hb1 hbb xx
    go_wp2
    refine bodyPost_ret (v := .agg #[.int .u8 0, .int .i64 0, .string ⟨#[]⟩]) (by simp [results, Try.results7, go_sem, x0, x1, x2]) rfl ?_
    refine ⟨rfl, ?_⟩
    repeat (refine Below.setCell ?_ (by first | (simp; done) | (simp; omega)) _)
    exact HBB.out
end Go.Proofs.Ytkofaoaglnjkgaa

namespace Go.Proofs.Ytkofaoaglnjkgaa
open Go.RowKit Go.Deep
set_option linter.unusedVariables false
set_option linter.unusedSimpArgs false

theorem good_cell (c : CellD) (h0 : 0 ≤ c.kind) : (goodVal c).cell = fix c := by
  obtain ⟨k, n, s⟩ := c
  have h0 : 0 ≤ k := h0
  unfold goodVal fix
  by_cases hc : chk ⟨k, n, s⟩ = 0
  · rw [if_pos hc, if_pos hc]
    have hk : ¬ 3 < k := by intro h; simp [chk, h] at hc
    have hk4 : k = 0 ∨ k = 1 ∨ k = 2 ∨ k = 3 := by omega
    simp only [chk, if_neg hk] at hc
    by_cases hb : (k ≠ 3 ∧ s.size ≠ 0) ∨ (k ≠ 1 ∧ k ≠ 2 ∧ n ≠ 0) ∨ (k = 2 ∧ n ≠ 0 ∧ n ≠ 1)
    · rw [if_pos hb] at hc; omega
    · rcases hk4 with rfl | rfl | rfl | rfl
      · have hs : s = ByteArray.empty := empty_of (by omega)
        have hn : n = 0 := by omega
        subst hs hn
        rfl
      · have hs : s = ByteArray.empty := empty_of (by omega)
        subst hs
        rfl
      · have hs : s = ByteArray.empty := empty_of (by omega)
        have hn : n = 0 ∨ n = 1 := by omega
        subst hs
        rcases hn with rfl | rfl <;> rfl
      · have hn : n = 0 := by omega
        subst hn
        rfl
  · rw [if_neg hc, if_neg hc]
    rfl
theorem kindOf_same (v : ValD) (w : World) : Calls Try.prog 66 #[v.val] w (fun e w' => e = .returned (.int .u8 v.cell.kind) ∧ w' = w) := by
  obtain ⟨i1, i2, i3, i4⟩ := assertsI64
  obtain ⟨b1, b2, b3, b4⟩ := assertsBool
  obtain ⟨s1, s2, s3, s4⟩ := assertsStr
  cases v
  all_goals
    simp only [ValD.val, ValD.cell]
    go_enter Try.func66, Try.ntmps66
    go_wp2
    go_ret
    exact ⟨rfl, rfl⟩
end Go.Proofs.Ytkofaoaglnjkgaa
