/- The contract of catchmentref01.Compare. -/
import Derived.Test.YtmdgljbgjhpmcaaVlCmpm
namespace Go.Proofs.Ytmdgljbgjhpmcaa
open Go.RowKit Go.Deep
set_option linter.unusedVariables false
set_option linter.unusedSimpArgs false

set_option maxRecDepth 100000 in
set_option maxHeartbeats 4000000 in
theorem refCompare (a b : CellD) (w : World) : Calls Try.prog 18 #[.agg a.cells, .agg b.cells] w (ValIs (.int .i64 (cmpC a b)) w) := by
  have L1 := refLess a b
  have L2 := refLess b a
  have hc : cmpC a b = if LessC a b then -1 else if LessC b a then 1 else 0 := rfl
  generalize cmpC a b = r at hc
  obtain ⟨k1, n1, s1⟩ := a
  obtain ⟨k2, n2, s2⟩ := b
  simp only [CellD.cells] at *
  by_cases h1 : LessC ⟨k1, n1, s1⟩ ⟨k2, n2, s2⟩
  · rw [if_pos h1] at hc
    rw [decide_eq_true h1] at L1
    subst hc
    clear L2 h1
    have HL := Lib.hid L1
    clear L1
    go_enter Try.func18, Try.ntmps18
    go_wp2_with fail
    refine (HL.out _).mono ?_
    rintro e w1 ⟨rfl, hb1⟩
    have B1 := Lib.hid ((((Below.refl w.heap.size w).alloc (Nat.le_refl _) _).alloc (by simp) _).trans (hb1.mono (by simp <;> omega)))
    clear hb1
    go_wp2
    go_ret
    exact ⟨rfl, B1.out⟩
  · rw [if_neg h1] at hc
    rw [decide_eq_false h1] at L1
    have HL := Lib.hid L1
    clear L1 h1
    by_cases h2 : LessC ⟨k2, n2, s2⟩ ⟨k1, n1, s1⟩
    · rw [if_pos h2] at hc
      rw [decide_eq_true h2] at L2
      subst hc
      have HL2 := Lib.hid L2
      clear L2 h2
      go_enter Try.func18, Try.ntmps18
      go_wp2_with fail
      refine (HL.out _).mono ?_
      rintro e w1 ⟨rfl, hb1⟩
      have xx : ∀ i v, (#[Value.int IntKind.u8 k1, Value.int IntKind.i64 n1, Value.string s1] : Array Value)[i]? = some v → w1.cell? ⟨w.heap.size, i, none⟩ = some v := fun i v hv =>
        (hb1.cell (p := ⟨w.heap.size, i, none⟩) (by simp <;> omega)).trans (by rw [World.cell?_alloc_lt _ _ _ (by simp), World.cell?_alloc_new]; exact hv)
      have yy : ∀ i v, (#[Value.int IntKind.u8 k2, Value.int IntKind.i64 n2, Value.string s2] : Array Value)[i]? = some v → w1.cell? ⟨w.heap.size + 1, i, none⟩ = some v := fun i v hv =>
        (hb1.cell (p := ⟨w.heap.size + 1, i, none⟩) (by simp)).trans (by rw [World.cell?_alloc_at _ _ _ _ (by simp)]; exact hv)
      have x0 := xx 0 _ rfl
      have x1 := xx 1 _ rfl
      have x2 := xx 2 _ rfl
      have y0 := yy 0 _ rfl
      have y1 := yy 1 _ rfl
      have y2 := yy 2 _ rfl
      have B1 := Lib.hid ((((Below.refl w.heap.size w).alloc (Nat.le_refl _) _).alloc (by simp) _).trans (hb1.mono (by simp <;> omega)))
      have hz1 : w.heap.size ≤ w1.heap.size := B1.out.size
      clear hb1 xx yy
      go_wp2_with fail
      refine (HL2.out _).mono ?_
      rintro e w2 ⟨rfl, hb2⟩
      have B2 := Lib.hid (B1.out.trans (hb2.mono hz1))
      clear hb2
      go_wp2
      go_ret
      exact ⟨rfl, B2.out⟩
    · rw [if_neg h2] at hc
      rw [decide_eq_false h2] at L2
      subst hc
      have HL2 := Lib.hid L2
      clear L2 h2
      go_enter Try.func18, Try.ntmps18
      go_wp2_with fail
      refine (HL.out _).mono ?_
      rintro e w1 ⟨rfl, hb1⟩
      have xx : ∀ i v, (#[Value.int IntKind.u8 k1, Value.int IntKind.i64 n1, Value.string s1] : Array Value)[i]? = some v → w1.cell? ⟨w.heap.size, i, none⟩ = some v := fun i v hv =>
        (hb1.cell (p := ⟨w.heap.size, i, none⟩) (by simp <;> omega)).trans (by rw [World.cell?_alloc_lt _ _ _ (by simp), World.cell?_alloc_new]; exact hv)
      have yy : ∀ i v, (#[Value.int IntKind.u8 k2, Value.int IntKind.i64 n2, Value.string s2] : Array Value)[i]? = some v → w1.cell? ⟨w.heap.size + 1, i, none⟩ = some v := fun i v hv =>
        (hb1.cell (p := ⟨w.heap.size + 1, i, none⟩) (by simp)).trans (by rw [World.cell?_alloc_at _ _ _ _ (by simp)]; exact hv)
      have x0 := xx 0 _ rfl
      have x1 := xx 1 _ rfl
      have x2 := xx 2 _ rfl
      have y0 := yy 0 _ rfl
      have y1 := yy 1 _ rfl
      have y2 := yy 2 _ rfl
      have B1 := Lib.hid ((((Below.refl w.heap.size w).alloc (Nat.le_refl _) _).alloc (by simp) _).trans (hb1.mono (by simp <;> omega)))
      have hz1 : w.heap.size ≤ w1.heap.size := B1.out.size
      clear hb1 xx yy
      go_wp2_with fail
      refine (HL2.out _).mono ?_
      rintro e w2 ⟨rfl, hb2⟩
      have B2 := Lib.hid (B1.out.trans (hb2.mono hz1))
      clear hb2
      go_wp2
      go_ret
      exact ⟨rfl, B2.out⟩
end Go.Proofs.Ytmdgljbgjhpmcaa
