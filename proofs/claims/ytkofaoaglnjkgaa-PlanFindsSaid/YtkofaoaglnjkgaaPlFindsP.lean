/- Why a file that has a row for which a predicate is Yes is among the tasks: in plain words. -/
import Derived.Test.YtkofaoaglnjkgaaPrPrPm
import Derived.Test.YtkofaoaglnjkgaaPlPm
import Derived.Test.YtkofaoaglnjkgaaPlLift8
namespace Go.Proofs.Ytkofaoaglnjkgaa
open Go.RowKit Go.Deep
set_option linter.unusedVariables false
set_option linter.unusedSimpArgs false

theorem fold_zeros (n k : Nat) : (List.replicate n zeroCell).foldl StF.step ⟨k, false, zeroCell, zeroCell, true⟩ = ⟨k + n, false, zeroCell, zeroCell, true⟩ := by
  induction n generalizing k with
  | zero => rfl
  | succ n ih =>
    rw [List.replicate_succ, List.foldl_cons]
    have : StF.step ⟨k, false, zeroCell, zeroCell, true⟩ zeroCell = ⟨k + 1, false, zeroCell, zeroCell, true⟩ := by
      unfold StF.step
      rw [if_pos (show zeroCell.kind = 0 from rfl)]
    rw [this, ih]
    congr 1; omega
theorem stats_zeros (n : Nat) : statsF (List.replicate n zeroCell) = noStat (n : Int) := by
  have h : foldSt (List.replicate n zeroCell) = ⟨n, false, zeroCell, zeroCell, true⟩ := by
    unfold foldSt StF.start
    rw [fold_zeros, Nat.zero_add]
  unfold statsF
  simp only []
  rw [h, if_pos rfl, List.length_replicate]
  rfl
theorem colAt_map {α : Type} (g : α → List CellD) (ls : List α) (j : Nat) : colAt (ls.map g) j = ls.map fun r => ((g r)[j]?).getD zeroCell := by
  unfold colAt
  rw [List.map_map]; rfl
theorem lift_stats {f s : SchemaD} {rows : List (List CellD)} {x : EntryD} (hx : x.stats = statsAt f.fields.length rows) (hr : x.rows = (rows.length : Int)) :
    liftF x f s = statsAt s.fields.length (rows.map (liftRow f.fields s.fields)) := by
  unfold liftF statsAt
  apply List.ext_getElem?
  intro j
  rw [List.getElem?_map, List.getElem?_map]
  by_cases hj : j < s.fields.length
  · rw [List.getElem?_eq_getElem hj, List.getElem?_range hj]
    simp only [Option.map_some, Option.some.injEq]
    rw [colAt_map]
    have hcol : (rows.map fun r => ((liftRow f.fields s.fields r)[j]?).getD zeroCell) = rows.map fun r => liftCell f.fields r (s.fields[j]) := by
      apply List.map_congr_left
      intro r _
      unfold liftRow
      rw [List.getElem?_map, List.getElem?_eq_getElem hj]; rfl
    rw [hcol]
    unfold liftAt liftCell
    have hran := idxF_lt (hasId s.fields[j].id) f.fields
    have hrn : placeI f.fields s.fields[j].id = idxF (hasId s.fields[j].id) f.fields := rfl
    rw [← hrn] at hran
    generalize placeI f.fields s.fields[j].id = i at *
    have hsl : x.stats.length = f.fields.length := by rw [hx]; unfold statsAt; simp
    by_cases hi : i < 0
    · rw [if_neg (by omega)]
      simp only [if_pos hi]
      rw [List.map_const', stats_zeros, hr]
    · rw [if_pos (by omega)]
      simp only [if_neg hi]
      obtain ⟨k, rfl⟩ : ∃ k : Nat, i = (k : Int) := ⟨i.toNat, by omega⟩
      rw [Int.toNat_natCast, hx, statsAt_get (by omega)]
      rfl
  · rw [List.getElem?_eq_none (by omega), List.getElem?_eq_none (by simp; omega)]
    rfl
theorem lift_good {fs ts : List FieldD} {rows : List (List CellD)} (hg : GoodRows fs.length rows) : GoodRows ts.length (rows.map (liftRow fs ts)) := by
  intro r hr
  obtain ⟨q, hq, rfl⟩ := List.mem_map.1 hr
  refine ⟨by unfold liftRow; rw [List.length_map], fun c hc => ?_⟩
  unfold liftRow at hc
  obtain ⟨y, _, rfl⟩ := List.mem_map.1 hc
  have hz : fix zeroCell = zeroCell ∧ 0 ≤ zeroCell.kind ∧ CellOK zeroCell := ⟨fix_zero, by decide, ⟨by decide, by decide, by decide⟩⟩
  unfold liftCell
  split
  · exact hz
  · cases h : q[(placeI fs y.id).toNat]? with
    | none => exact hz
    | some c => exact (hg q hq).2 c (List.mem_of_getElem? h)
theorem shape_head (f : SchemaD) (ss : List SchemaD) : shapeF (f :: ss) f.id = some f := by
  have : idxF (idIs f.id) (f :: ss) = 0 := by
    unfold idxF
    rw [List.findIdx?_cons]
    simp [idIs]
  unfold shapeF
  rw [this]
  rfl
/-- A file that has such a row is taken. -/
theorem takes {f s : SchemaD} {ss : List SchemaD} {rows : List (List CellD)} {x : EntryD} {d : Nat} {p : PredD} (hx : x.stats = statsAt f.fields.length rows) (hr : x.rows = (rows.length : Int)) (hk : x.keys = false) (hs : x.schema = f.id)
    (hg : GoodRows f.fields.length rows) {r : List CellD} (hm : r ∈ rows) (he : evalN s.fields (liftRow f.fields s.fields r) d p = 2) : takeB (f :: ss) s d p x = true := by
  unfold takeB
  rw [hk, hs, shape_head]
  have h := prunes (fs := s.fields) (lift_good (ts := s.fields) hg) (List.mem_map_of_mem (f := liftRow f.fields s.fields) hm) d p
  rw [he] at h
  rw [← lift_stats (x := x) (f := f) (s := s) hx hr] at h
  simpa [B3.get] using h
theorem tasks_one (ss : List SchemaD) (s : SchemaD) (d : Nat) (p : PredD) (x : EntryD) : (tasksF ss [x] s d p).length = if takeB ss s d p x = true then 1 else 0 := by
  unfold tasksF
  rw [List.length_map]
  by_cases h : takeB ss s d p x = true
  · rw [if_pos h, List.filter_cons, if_pos h]; rfl
  · rw [if_neg h, List.filter_cons, if_neg h]; rfl
end Go.Proofs.Ytkofaoaglnjkgaa
