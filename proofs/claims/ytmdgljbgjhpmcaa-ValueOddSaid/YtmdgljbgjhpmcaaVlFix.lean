/- The contracts of catchmentref01.Fix, catchmentlaw01.Value, value.Cell. -/
import Derived.Test.YtmdgljbgjhpmcaaVlCheck2
namespace Go.Proofs.Ytmdgljbgjhpmcaa
open Go.RowKit Go.Deep
set_option linter.unusedVariables false

def zeroCell : CellD := ⟨0, 0, ByteArray.empty⟩
def fix (c : CellD) : CellD := if chk c = 0 then c else zeroCell
set_option maxRecDepth 100000 in
set_option maxHeartbeats 2000000 in
theorem fix_calls (c : CellD) (h0 : 0 ≤ c.kind) (w : World) : Calls Try.prog 13 #[.agg c.cells] w (ValIs (.agg (fix c).cells) w) := by
  have hb := fun w => (both c h0 w).1
  have HB := Lib.hid hb
  clear hb
  by_cases hc : chk c = 0
  · have hf : fix c = c := by unfold fix; rw [if_pos hc]
    have hq : (chk c == 0) = true := by rw [hc]; rfl
    rw [hf]
    obtain ⟨k, n, s⟩ := c
    simp only [CellD.cells] at *
    generalize chk ⟨k, n, s⟩ = q at *
    subst hc
    clear hf
    go_enter Try.func13, Try.ntmps13
    go_wp2_with fail
    refine (HB.out _).mono ?_
    rintro e w1 ⟨rfl, hb1⟩
    have c0 := (hb1.cell (p := ⟨w.heap.size, 0, none⟩) (by simp <;> omega)).trans (by rw [World.cell?_alloc_lt _ _ _ (by simp), World.cell?_alloc_new])
    have c1 := (hb1.cell (p := ⟨w.heap.size, 1, none⟩) (by simp <;> omega)).trans (by rw [World.cell?_alloc_lt _ _ _ (by simp), World.cell?_alloc_new])
    have c2 := (hb1.cell (p := ⟨w.heap.size, 2, none⟩) (by simp <;> omega)).trans (by rw [World.cell?_alloc_lt _ _ _ (by simp), World.cell?_alloc_new])
    have xx : ∀ i v, (#[Value.int IntKind.u8 0, Value.int IntKind.i64 0, Value.string ByteArray.empty] : Array Value)[i]? = some v → w1.cell? ⟨w.heap.size + 1, i, none⟩ = some v := fun i v hv =>
      (hb1.cell (p := ⟨w.heap.size + 1, i, none⟩) (by simp)).trans (by rw [World.cell?_alloc_at _ _ _ _ (by simp)]; exact hv)
    have x0 := xx 0 _ rfl
    have x1 := xx 1 _ rfl
    have x2 := xx 2 _ rfl
    have fx : ∀ i, w1.frozen? ⟨w.heap.size + 1, i, none⟩ = false := fun i => (hb1.frozen (p := ⟨w.heap.size + 1, i, none⟩) (by simp)).trans (by simp)
    have hz1 : w.heap.size + 1 < w1.heap.size := by have := hb1.size; simp at this; omega
    have hbb : Below w.heap.size w w1 := (((Below.refl _ _).alloc (Nat.le_refl _) _).alloc (by simp) _).trans (hb1.mono (by simp <;> omega))
    have HBB := Lib.hid hbb
    clear hb1 hbb xx
    go_wp2
    refine bodyPost_ret (v := .agg #[.int .u8 k, .int .i64 n, .string s]) (by simp [results, Try.results13, go_sem, x0, x1, x2]) rfl ?_
    refine ⟨rfl, ?_⟩
    repeat (refine Below.setCell ?_ (by first | (simp; done) | (simp; omega)) _)
    exact HBB.out
  · have hf : fix c = zeroCell := by unfold fix; rw [if_neg hc]
    have hq : (chk c == 0) = false := by rw [beq_eq_false_iff_ne]; exact hc
    have hq2 : (chk c != 0) = true := by rw [bne, hq]; rfl
    rw [hf]
    obtain ⟨k, n, s⟩ := c
    simp only [CellD.cells, zeroCell] at *
    generalize chk ⟨k, n, s⟩ = q at *
    clear hf hc
    go_enter Try.func13, Try.ntmps13
    go_wp2_with fail
    refine (HB.out _).mono ?_
    rintro e w1 ⟨rfl, hb1⟩
    have xx : ∀ i v, (#[Value.int IntKind.u8 0, Value.int IntKind.i64 0, Value.string ByteArray.empty] : Array Value)[i]? = some v → w1.cell? ⟨w.heap.size + 1, i, none⟩ = some v := fun i v hv =>
      (hb1.cell (p := ⟨w.heap.size + 1, i, none⟩) (by simp)).trans (by rw [World.cell?_alloc_at _ _ _ _ (by simp)]; exact hv)
    have x0 := xx 0 _ rfl
    have x1 := xx 1 _ rfl
    have x2 := xx 2 _ rfl
    have fx : ∀ i, w1.frozen? ⟨w.heap.size + 1, i, none⟩ = false := fun i => (hb1.frozen (p := ⟨w.heap.size + 1, i, none⟩) (by simp)).trans (by simp)
    have hz1 : w.heap.size + 1 < w1.heap.size := by have := hb1.size; simp at this; omega
    have hbb : Below w.heap.size w w1 := (((Below.refl _ _).alloc (Nat.le_refl _) _).alloc (by simp) _).trans (hb1.mono (by simp <;> omega))
    have HBB := Lib.hid hbb
    clear hb1 hbb xx
    go_wp2
    refine bodyPost_ret (v := .agg #[.int .u8 0, .int .i64 0, .string ⟨#[]⟩]) (by simp [results, Try.results13, go_sem, x0, x1, x2]) rfl ?_
    refine ⟨rfl, ?_⟩
    repeat (refine Below.setCell ?_ (by first | (simp; done) | (simp; omega)) _)
    exact HBB.out
set_option maxRecDepth 100000 in
set_option maxHeartbeats 2000000 in
theorem valueCell (v : ValD) (w : World) : Calls Try.prog 14 #[v.val] w (ValIs (.tuple #[.agg v.cell.cells, .bool true]) w) := by
  obtain ⟨i1, i2, i3, i4⟩ := assertsI64
  obtain ⟨b1, b2, b3, b4⟩ := assertsBool
  obtain ⟨s1, s2, s3, s4⟩ := assertsStr
  rcases v with _ | n | b | s
  · simp only [ValD.val, ValD.cell, CellD.cells]
    go_enter Try.func14, Try.ntmps14
    go_wp2
    go_returns
    exact ⟨rfl, by repeat (first | exact Below.refl _ _ | refine Below.alloc ?_ (by simp <;> omega) _)⟩
  · simp only [ValD.val, ValD.cell, CellD.cells]
    go_enter Try.func14, Try.ntmps14
    go_wp2
    go_returns
    exact ⟨rfl, by repeat (first | exact Below.refl _ _ | refine Below.alloc ?_ (by simp <;> omega) _)⟩
  · cases b
    all_goals
      simp only [ValD.val, ValD.cell, CellD.cells]
      go_enter Try.func14, Try.ntmps14
      go_wp2
      go_returns
      exact ⟨rfl, by repeat (first | exact Below.refl _ _ | refine Below.setCell ?_ (by simp <;> omega) _ | refine Below.alloc ?_ (by simp <;> omega) _)⟩
  · simp only [ValD.val, ValD.cell, CellD.cells]
    go_enter Try.func14, Try.ntmps14
    go_wp2
    go_returns
    exact ⟨rfl, by repeat (first | exact Below.refl _ _ | refine Below.alloc ?_ (by simp <;> omega) _)⟩
end Go.Proofs.Ytmdgljbgjhpmcaa
