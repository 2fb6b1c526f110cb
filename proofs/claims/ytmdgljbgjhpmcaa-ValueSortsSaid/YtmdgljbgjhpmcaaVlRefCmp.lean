/- The contracts of catchmentref01.Less and Compare. -/
import Derived.Test.YtmdgljbgjhpmcaaVlCmp
import Derived.Test.YtmdgljbgjhpmcaaKept
namespace Go.Proofs.Ytmdgljbgjhpmcaa
open Go.RowKit Go.Deep
set_option linter.unusedVariables false

set_option maxRecDepth 100000 in
set_option maxHeartbeats 4000000 in
theorem refLess (a b : CellD) (w : World) : Calls Try.prog 30 #[.agg a.cells, .agg b.cells] w (ValIs (.bool (decide (LessC a b))) w) := by
  obtain ⟨k1, n1, s1⟩ := a
  obtain ⟨k2, n2, s2⟩ := b
  have fin : ∀ (x y : Bool), x = y → ∀ w', Below w.heap.size w w' → ValIs (.bool y) w (.returned (.bool x)) w' := by rintro x _ rfl w' h; exact ⟨rfl, h⟩
  have FIN := Lib.hid fin
  clear fin
  simp only [CellD.cells]
  by_cases hk : k1 = k2
  · subst hk
    have h0 : (k1 != k1) = false := by simp
    have h0' : (k1 == k1) = true := by simp
    by_cases hn : n1 = n2
    · subst hn
      have h1 : (n1 == n1) = true := by simp
      have h2 : ¬ n1 < n1 := by omega
      have hr : Op.bytesLess s1.toList s2.toList = decide (LessC ⟨k1, n1, s1⟩ ⟨k1, n1, s2⟩) := by
        cases h : Op.bytesLess s1.toList s2.toList with
        | true => exact (decide_eq_true (.inr ⟨rfl, .inr ⟨rfl, h⟩⟩)).symm
        | false =>
          refine (decide_eq_false ?_).symm
          rintro (h3 | ⟨_, h3 | ⟨_, h3⟩⟩)
          · exact absurd h3 (by simp)
          · exact absurd h3 (by simp)
          · rw [h] at h3; cases h3
      have HR := Lib.hid hr
      clear hr
      go_enter Try.func30, Try.ntmps30
      go_wp2
      go_ret
      refine FIN.out _ _ HR.out _ ?_
      repeat (first | exact Below.refl _ _ | refine Below.alloc ?_ (by simp <;> omega) _)
    · have h1 : (n1 == n2) = false := by simp [hn]
      have hr : decide (n1 < n2) = decide (LessC ⟨k1, n1, s1⟩ ⟨k1, n2, s2⟩) := by
        apply decide_eq_decide.2
        constructor
        · intro h; exact .inr ⟨rfl, .inl h⟩
        · rintro (h3 | ⟨_, h3 | ⟨h4, h3⟩⟩)
          · exact absurd h3 (by simp)
          · exact h3
          · exact absurd h4 hn
      have HR := Lib.hid hr
      clear hr
      by_cases h2 : n1 < n2
      · have HR2 := HR.out
        rw [decide_eq_true h2] at HR2
        have HR3 := Lib.hid HR2
        clear HR HR2
        go_enter Try.func30, Try.ntmps30
        go_wp2
        go_ret
        refine FIN.out _ _ HR3.out _ ?_
        repeat (first | exact Below.refl _ _ | refine Below.alloc ?_ (by simp <;> omega) _)
      · have HR2 := HR.out
        rw [decide_eq_false h2] at HR2
        have HR3 := Lib.hid HR2
        clear HR HR2
        go_enter Try.func30, Try.ntmps30
        go_wp2
        go_ret
        refine FIN.out _ _ HR3.out _ ?_
        repeat (first | exact Below.refl _ _ | refine Below.alloc ?_ (by simp <;> omega) _)
  · have h0 : (k1 != k2) = true := by simp [bne, hk]
    have hr : decide (k1 < k2) = decide (LessC ⟨k1, n1, s1⟩ ⟨k2, n2, s2⟩) := by
      apply decide_eq_decide.2
      constructor
      · intro h; exact .inl h
      · rintro (h3 | ⟨h4, _⟩)
        · exact h3
        · exact absurd h4 hk
    have HR := Lib.hid hr
    clear hr
    go_enter Try.func30, Try.ntmps30
    go_wp2
    go_ret
    refine FIN.out _ _ HR.out _ ?_
    repeat (first | exact Below.refl _ _ | refine Below.alloc ?_ (by simp <;> omega) _)
set_option maxRecDepth 100000 in
set_option maxHeartbeats 4000000 in
theorem refCompare (a b : CellD) (w : World) : Calls Try.prog 18 #[.agg a.cells, .agg b.cells] w (ValIs (.int .i64 (cmpC a b)) w) := by
  have L1 := refLess a b
  have L2 := refLess b a
  have hc : cmpC a b = if LessC a b then -1 else if LessC b a then 1 else 0 := rfl
  generalize cmpC a b = r at hc
  obtain ⟨k1, n1, s1⟩ := a
  obtain ⟨k2, n2, s2⟩ := b
  simp only [CellD.cells] at *
  by_cases h1 : LessC ⟨k1, n1, s1⟩ ⟨k2, n2, s2⟩
  · rw [if_pos h1] at hc
    rw [decide_eq_true h1] at L1
    subst hc
    clear L2 h1
    have HL := Lib.hid L1
    clear L1
    go_enter Try.func18, Try.ntmps18
    go_wp2_with fail
    refine (HL.out _).mono ?_
    rintro e w1 ⟨rfl, hb1⟩
    have B1 := Lib.hid ((((Below.refl w.heap.size w).alloc (Nat.le_refl _) _).alloc (by simp) _).trans (hb1.mono (by simp <;> omega)))
    clear hb1
    go_wp2
    go_ret
    exact ⟨rfl, B1.out⟩
  · rw [if_neg h1] at hc
    rw [decide_eq_false h1] at L1
    have HL := Lib.hid L1
    clear L1 h1
    by_cases h2 : LessC ⟨k2, n2, s2⟩ ⟨k1, n1, s1⟩
    · rw [if_pos h2] at hc
      rw [decide_eq_true h2] at L2
      subst hc
      have HL2 := Lib.hid L2
      clear L2 h2
      go_enter Try.func18, Try.ntmps18
      go_wp2_with fail
      refine (HL.out _).mono ?_
      rintro e w1 ⟨rfl, hb1⟩
      have xx : ∀ i v, (#[Value.int IntKind.u8 k1, Value.int IntKind.i64 n1, Value.string s1] : Array Value)[i]? = some v → w1.cell? ⟨w.heap.size, i, none⟩ = some v := fun i v hv =>
        (hb1.cell (p := ⟨w.heap.size, i, none⟩) (by simp <;> omega)).trans (by rw [World.cell?_alloc_lt _ _ _ (by simp), World.cell?_alloc_new]; exact hv)
      have yy : ∀ i v, (#[Value.int IntKind.u8 k2, Value.int IntKind.i64 n2, Value.string s2] : Array Value)[i]? = some v → w1.cell? ⟨w.heap.size + 1, i, none⟩ = some v := fun i v hv =>
        (hb1.cell (p := ⟨w.heap.size + 1, i, none⟩) (by simp)).trans (by rw [World.cell?_alloc_at _ _ _ _ (by simp)]; exact hv)
      have x0 := xx 0 _ rfl
      have x1 := xx 1 _ rfl
      have x2 := xx 2 _ rfl
      have y0 := yy 0 _ rfl
      have y1 := yy 1 _ rfl
      have y2 := yy 2 _ rfl
      have B1 := Lib.hid ((((Below.refl w.heap.size w).alloc (Nat.le_refl _) _).alloc (by simp) _).trans (hb1.mono (by simp <;> omega)))
      have hz1 : w.heap.size ≤ w1.heap.size := B1.out.size
      clear hb1 xx yy
      go_wp2_with fail
      refine (HL2.out _).mono ?_
      rintro e w2 ⟨rfl, hb2⟩
      have B2 := Lib.hid (B1.out.trans (hb2.mono hz1))
      clear hb2
      go_wp2
      go_ret
      exact ⟨rfl, B2.out⟩
    · rw [if_neg h2] at hc
      rw [decide_eq_false h2] at L2
      subst hc
      have HL2 := Lib.hid L2
      clear L2 h2
      go_enter Try.func18, Try.ntmps18
      go_wp2_with fail
      refine (HL.out _).mono ?_
      rintro e w1 ⟨rfl, hb1⟩
      have xx : ∀ i v, (#[Value.int IntKind.u8 k1, Value.int IntKind.i64 n1, Value.string s1] : Array Value)[i]? = some v → w1.cell? ⟨w.heap.size, i, none⟩ = some v := fun i v hv =>
        (hb1.cell (p := ⟨w.heap.size, i, none⟩) (by simp <;> omega)).trans (by rw [World.cell?_alloc_lt _ _ _ (by simp), World.cell?_alloc_new]; exact hv)
      have yy : ∀ i v, (#[Value.int IntKind.u8 k2, Value.int IntKind.i64 n2, Value.string s2] : Array Value)[i]? = some v → w1.cell? ⟨w.heap.size + 1, i, none⟩ = some v := fun i v hv =>
        (hb1.cell (p := ⟨w.heap.size + 1, i, none⟩) (by simp)).trans (by rw [World.cell?_alloc_at _ _ _ _ (by simp)]; exact hv)
      have x0 := xx 0 _ rfl
      have x1 := xx 1 _ rfl
      have x2 := xx 2 _ rfl
      have y0 := yy 0 _ rfl
      have y1 := yy 1 _ rfl
      have y2 := yy 2 _ rfl
      have B1 := Lib.hid ((((Below.refl w.heap.size w).alloc (Nat.le_refl _) _).alloc (by simp) _).trans (hb1.mono (by simp <;> omega)))
      have hz1 : w.heap.size ≤ w1.heap.size := B1.out.size
      clear hb1 xx yy
      go_wp2_with fail
      refine (HL2.out _).mono ?_
      rintro e w2 ⟨rfl, hb2⟩
      have B2 := Lib.hid (B1.out.trans (hb2.mono hz1))
      clear hb2
      go_wp2
      go_ret
      exact ⟨rfl, B2.out⟩
end Go.Proofs.Ytmdgljbgjhpmcaa
