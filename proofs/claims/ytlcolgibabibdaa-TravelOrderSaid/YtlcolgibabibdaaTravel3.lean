/- The contracts of travel.At and When. -/
import Derived.Test.YtlcolgibabibdaaTravel2
namespace Go.Proofs.Ytlcolgibabibdaa
open Go.RowKit Go.Deep
set_option linter.unusedVariables false

set_option maxRecDepth 100000 in
set_option maxHeartbeats 1000000 in
theorem at_calls (cs : List Value) (t : TableD) (most : Nat) (w : World) (h : TableR w cs t) (hfine : TableFine t) :
    Calls Try.prog 10 #[.agg cs.toArray, .int .u64 (most : Int)] w (FoundPost SnapD.offset most t.snaps w) := by
  obtain ⟨a, n, c, a', n', c', rfl, _, _, _, _, h4, h5, h6, hs', _⟩ := h
  have HS := Lib.hid hs'
  have hn : n' ≤ 100 := by have := hfine.2.1; have := hs'.1; omega
  have HF := Lib.hid hfine
  clear hs' hfine h6
  go_enter Try.func10, Try.ntmps10
  go_wp2_with fail
  refine (greatest_any 22 SnapD.offset (fun _ _ => by kernel_rfl) at1 _ _ _ _ most _ ((HS.out.alloc SnapR.stable _).alloc SnapR.stable _) hn HF.out.2.2.2).mono ?_
  rintro e w1 ⟨hb, hpost⟩
  have xx : ∀ i v, (#[Value.int IntKind.u64 0, Value.int IntKind.u64 0, Value.int IntKind.u64 0, Value.int IntKind.u64 0, Value.int IntKind.u64 0, Value.int IntKind.u32 0, Value.slice none 0 0] : Array Value)[i]? = some v → w1.cell? ⟨w.heap.size + 1, i, none⟩ = some v := fun i v hv =>
    (hb.cell (p := ⟨w.heap.size + 1, i, none⟩) (by simp)).trans (by rw [World.cell?_alloc_at _ _ _ _ (by simp)]; exact hv)
  have x0 := xx 0 _ rfl
  have x1 := xx 1 _ rfl
  have x2 := xx 2 _ rfl
  have x3 := xx 3 _ rfl
  have x4 := xx 4 _ rfl
  have x5 := xx 5 _ rfl
  have x6 := xx 6 _ rfl
  have fx : ∀ i, w1.frozen? ⟨w.heap.size + 1, i, none⟩ = false := fun i => (hb.frozen (p := ⟨w.heap.size + 1, i, none⟩) (by simp)).trans (by simp)
  have hz : w.heap.size + 1 < w1.heap.size := by have := hb.size; simp at this; omega
  have HB := Lib.hid ((((Below.refl _ w).alloc (Nat.le_refl _) _).alloc (by simp) _).trans (hb.mono (by simp; omega)))
  clear xx hb
  rcases hpost with ⟨hbest, rfl⟩ | ⟨m, s, v, hbest, hs, hown, rfl⟩
  · have HBE := Lib.hid hbest
    clear hbest
    go_wp2
    refine bodyPost_ret (v := .tuple #[.agg #[Value.int IntKind.u64 0, Value.int IntKind.u64 0, Value.int IntKind.u64 0, Value.int IntKind.u64 0, Value.int IntKind.u64 0, Value.int IntKind.u32 0, Value.slice none 0 0], .int .i64 2]) (by simp [results, Try.results10, go_sem, x0, x1, x2, x3, x4, x5, x6]) rfl ?_
    refine ⟨?_, .inl ⟨HBE.out, rfl⟩⟩
    repeat (refine Below.setCell ?_ (by first | (simp; done) | (simp; omega)) _)
    exact HB.out
  · obtain ⟨ad, cv, rfl, _⟩ := own_slice hown
    simp only [World.size_alloc] at hown
    have HBE := Lib.hid hbest
    have HO := Lib.hid hown
    clear hbest hown
    go_wp2
    refine bodyPost_ret (v := .tuple #[.agg #[.int .u64 s.id, .int .u64 s.parent, .int .u64 s.seq, .int .u64 s.offset, .int .u64 s.time, .int .u32 s.schema, .slice ad s.mans.length cv], .int .i64 0]) (by simp [results, Try.results10, go_sem, x0, x1, x2, x3, x4, x5, x6]) rfl ?_
    refine ⟨?_, .inr ⟨m, s, _, HBE.out, hs, ?_, rfl⟩⟩
    · repeat (refine Below.setCell ?_ (by first | (simp; done) | (simp; omega)) _)
      exact HB.out
    · refine ownsRow_le (base := w.heap.size + 1 + 1) ?_ (by omega)
      repeat (refine ownsRow_setCell_below ?_ (by first | (simp; done) | (simp; omega)) _)
      exact HO.out

set_option maxRecDepth 100000 in
set_option maxHeartbeats 1000000 in
theorem when_calls (cs : List Value) (t : TableD) (most : Nat) (w : World) (h : TableR w cs t) (hfine : TableFine t) :
    Calls Try.prog 11 #[.agg cs.toArray, .int .u64 (most : Int)] w (FoundPost SnapD.time most t.snaps w) := by
  obtain ⟨a, n, c, a', n', c', rfl, _, _, _, _, h4, h5, h6, hs', _⟩ := h
  have HS := Lib.hid hs'
  have hn : n' ≤ 100 := by have := hfine.2.1; have := hs'.1; omega
  have HF := Lib.hid hfine
  clear hs' hfine h6
  go_enter Try.func11, Try.ntmps11
  go_wp2_with fail
  refine (greatest_any 23 SnapD.time (fun _ _ => by kernel_rfl) when1 _ _ _ _ most _ ((HS.out.alloc SnapR.stable _).alloc SnapR.stable _) hn HF.out.2.2.2).mono ?_
  rintro e w1 ⟨hb, hpost⟩
  have xx : ∀ i v, (#[Value.int IntKind.u64 0, Value.int IntKind.u64 0, Value.int IntKind.u64 0, Value.int IntKind.u64 0, Value.int IntKind.u64 0, Value.int IntKind.u32 0, Value.slice none 0 0] : Array Value)[i]? = some v → w1.cell? ⟨w.heap.size + 1, i, none⟩ = some v := fun i v hv =>
    (hb.cell (p := ⟨w.heap.size + 1, i, none⟩) (by simp)).trans (by rw [World.cell?_alloc_at _ _ _ _ (by simp)]; exact hv)
  have x0 := xx 0 _ rfl
  have x1 := xx 1 _ rfl
  have x2 := xx 2 _ rfl
  have x3 := xx 3 _ rfl
  have x4 := xx 4 _ rfl
  have x5 := xx 5 _ rfl
  have x6 := xx 6 _ rfl
  have fx : ∀ i, w1.frozen? ⟨w.heap.size + 1, i, none⟩ = false := fun i => (hb.frozen (p := ⟨w.heap.size + 1, i, none⟩) (by simp)).trans (by simp)
  have hz : w.heap.size + 1 < w1.heap.size := by have := hb.size; simp at this; omega
  have HB := Lib.hid ((((Below.refl _ w).alloc (Nat.le_refl _) _).alloc (by simp) _).trans (hb.mono (by simp; omega)))
  clear xx hb
  rcases hpost with ⟨hbest, rfl⟩ | ⟨m, s, v, hbest, hs, hown, rfl⟩
  · have HBE := Lib.hid hbest
    clear hbest
    go_wp2
    refine bodyPost_ret (v := .tuple #[.agg #[Value.int IntKind.u64 0, Value.int IntKind.u64 0, Value.int IntKind.u64 0, Value.int IntKind.u64 0, Value.int IntKind.u64 0, Value.int IntKind.u32 0, Value.slice none 0 0], .int .i64 2]) (by simp [results, Try.results11, go_sem, x0, x1, x2, x3, x4, x5, x6]) rfl ?_
    refine ⟨?_, .inl ⟨HBE.out, rfl⟩⟩
    repeat (refine Below.setCell ?_ (by first | (simp; done) | (simp; omega)) _)
    exact HB.out
  · obtain ⟨ad, cv, rfl, _⟩ := own_slice hown
    simp only [World.size_alloc] at hown
    have HBE := Lib.hid hbest
    have HO := Lib.hid hown
    clear hbest hown
    go_wp2
    refine bodyPost_ret (v := .tuple #[.agg #[.int .u64 s.id, .int .u64 s.parent, .int .u64 s.seq, .int .u64 s.offset, .int .u64 s.time, .int .u32 s.schema, .slice ad s.mans.length cv], .int .i64 0]) (by simp [results, Try.results11, go_sem, x0, x1, x2, x3, x4, x5, x6]) rfl ?_
    refine ⟨?_, .inr ⟨m, s, _, HBE.out, hs, ?_, rfl⟩⟩
    · repeat (refine Below.setCell ?_ (by first | (simp; done) | (simp; omega)) _)
      exact HB.out
    · refine ownsRow_le (base := w.heap.size + 1 + 1) ?_ (by omega)
      repeat (refine ownsRow_setCell_below ?_ (by first | (simp; done) | (simp; omega)) _)
      exact HO.out
end Go.Proofs.Ytlcolgibabibdaa
