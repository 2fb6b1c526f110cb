/- travel: TravelFinds. -/
import Derived.Test.YtlcolgibabibdaaRes
import Derived.BigRegion
import Derived.Deep.RegionHeld3
import Derived.Deep.DeepCutAuto
namespace Go.Proofs.Ytlcolgibabibdaa
open Go.RowKit Go.Deep
set_option linter.unusedVariables false

set_option maxRecDepth 100000 in
set_option maxHeartbeats 10000000 in
theorem travelFinds (cs : List Value) (t : TableD) (o tm : Nat) (w : World) (h : TableR w cs t) (hao : o < 2 ^ 64) (hat : tm < 2 ^ 64) :
    Calls Try.prog 3 #[.agg cs.toArray, .int .u64 (o : Int), .int .u64 (tm : Int)] w (TruthPost w) := by
  have HT := Lib.hid h
  obtain ⟨a', n', c', a, n, c, rfl, _, _, _, _, h4, h5, h6, hs, _⟩ := h
  have HS := Lib.hid hs
  have HLEN := Lib.hid hs.1
  clear hs h6
  go_enter Try.func3, Try.ntmps3
  go_wp2_with fail
  refine (alive_calls _).mono ?_
  rintro e w1 ⟨rfl, hb1⟩
  have c0 := (hb1.cell (p := ⟨w.heap.size, 0, none⟩) (by simp)).trans (by rw [World.cell?_alloc_new])
  have c1 := (hb1.cell (p := ⟨w.heap.size, 1, none⟩) (by simp)).trans (by rw [World.cell?_alloc_new])
  have c2 := (hb1.cell (p := ⟨w.heap.size, 2, none⟩) (by simp)).trans (by rw [World.cell?_alloc_new])
  have hz1 : w.heap.size < w1.heap.size := by have := hb1.size; simp at this; omega
  have hbb1 : Below w.heap.size w w1 := ((Below.refl _ _).alloc (Nat.le_refl _) _).trans (hb1.mono (by simp))
  have HB1 := Lib.hid hbb1
  have HT1 := Lib.hid (TableR.stable _ _ _ _ hbb1 HT.out)
  clear hb1 hbb1
  go_wp2_with fail
  refine (great14 _ t _ HT1.out).mono ?_
  rintro e w2 ⟨b, rfl, hb2, hfine⟩
  have HB2 := Lib.hid (HB1.out.trans (hb2.mono (by omega)))
  cases b with
  | true =>
    go_wp2
    go_ret
    exact ⟨rfl, HB2.out⟩
  | false =>
    have hf := hfine rfl
    have hl := hf.2.1
    have HF := Lib.hid hf
    have d0 := (hb2.cell (p := ⟨w.heap.size, 0, none⟩) (by show w.heap.size < _; omega)).trans c0
    have d1 := (hb2.cell (p := ⟨w.heap.size, 1, none⟩) (by show w.heap.size < _; omega)).trans c1
    have d2 := (hb2.cell (p := ⟨w.heap.size, 2, none⟩) (by show w.heap.size < _; omega)).trans c2
    have HT2 := Lib.hid (TableR.stable _ _ _ _ hb2 HT1.out)
    have hz2 : w.heap.size < w2.heap.size := by have := hb2.size; omega
    have hn : n ≤ 100 := by have := HLEN.out; omega
    have HL := Lib.hid hl
    clear c0 c1 c2 hb2 hfine hf hl
    go_wp2_with fail
    refine (at_calls _ t o _ HT2.out HF.out).mono ?_
    rintro e w3 hp3
    obtain ⟨hb3, l3, er3, rfl, hr3⟩ := hp3.res HT2.out
    obtain ⟨i0, i1, i2, i3, i4, i5, ad3, n3, c3, rfl⟩ := hr3.shape
    have e0 := (hb3.cell (p := ⟨w.heap.size, 0, none⟩) (hz2)).trans d0
    have e1 := (hb3.cell (p := ⟨w.heap.size, 1, none⟩) (hz2)).trans d1
    have e2 := (hb3.cell (p := ⟨w.heap.size, 2, none⟩) (hz2)).trans d2
    have HT3 := Lib.hid (TableR.stable _ _ _ _ hb3 HT2.out)
    have HB3 := Lib.hid (HB2.out.trans (hb3.mono (by omega)))
    have hz3 : w.heap.size < w3.heap.size := by have := hb3.size; omega
    have HR3 := Lib.hid hr3
    clear hp3 hb3 hr3 d0 d1 d2
    go_wp2_with fail
    refine (when_calls _ t tm _ (TableR.stable _ _ _ _ ((Below.refl _ _).alloc (Nat.le_refl _) _) HT3.out) HF.out).mono ?_
    rintro e w4 hp4
    have hb4 : Below w3.heap.size w3 w4 := ((Below.refl _ _).alloc (Nat.le_refl _) _).trans (hp4.1.mono (by simp))
    obtain ⟨hbb4, l4, er4, rfl, hr4⟩ := hp4.res (TableR.stable _ _ _ _ ((Below.refl _ _).alloc (Nat.le_refl _) _) HT3.out)
    obtain ⟨j0, j1, j2, j3, j4, j5, ad4, n4, c4, rfl⟩ := hr4.shape
    have f0 := (hb4.cell (p := ⟨w.heap.size, 0, none⟩) (hz3)).trans e0
    have f1 := (hb4.cell (p := ⟨w.heap.size, 1, none⟩) (hz3)).trans e1
    have f2 := (hb4.cell (p := ⟨w.heap.size, 2, none⟩) (hz3)).trans e2
    have p0 := (hbb4.cell (p := ⟨w3.heap.size, 0, none⟩) (by simp)).trans (by rw [World.cell?_alloc_new])
    have p1 := (hbb4.cell (p := ⟨w3.heap.size, 1, none⟩) (by simp)).trans (by rw [World.cell?_alloc_new])
    have p2 := (hbb4.cell (p := ⟨w3.heap.size, 2, none⟩) (by simp)).trans (by rw [World.cell?_alloc_new])
    have p3 := (hbb4.cell (p := ⟨w3.heap.size, 3, none⟩) (by simp)).trans (by rw [World.cell?_alloc_new])
    have p4 := (hbb4.cell (p := ⟨w3.heap.size, 4, none⟩) (by simp)).trans (by rw [World.cell?_alloc_new])
    have p5 := (hbb4.cell (p := ⟨w3.heap.size, 5, none⟩) (by simp)).trans (by rw [World.cell?_alloc_new])
    have p6 := (hbb4.cell (p := ⟨w3.heap.size, 6, none⟩) (by simp)).trans (by rw [World.cell?_alloc_new])
    have HT4 := Lib.hid (TableR.stable _ _ _ _ hb4 HT3.out)
    have HB4 := Lib.hid (HB3.out.trans (hb4.mono (by omega)))
    have hz4 : w3.heap.size < w4.heap.size := by have := hbb4.size; simp at this; omega
    have hz4' : w.heap.size < w4.heap.size := by omega
    have HR4 := Lib.hid hr4
    have HR34 := Lib.hid (HR3.out.below hb4)
    clear hp4 hb4 hbb4 hr4 e0 e1 e2
    go_upto_region 7 with fail
    have hb5 : Below w4.heap.size w4 (w4.alloc (.cells #[.int .u64 j0, .int .u64 j1, .int .u64 j2, .int .u64 j3, .int .u64 j4, .int .u32 j5, .slice ad4 n4 c4] 32)) := (Below.refl _ _).alloc (Nat.le_refl _) _
    have hc5 : ∀ (i : Nat) (v : Value), (#[.int .u64 j0, .int .u64 j1, .int .u64 j2, .int .u64 j3, .int .u64 j4, .int .u32 j5, .slice ad4 n4 c4] : Array Value)[i]? = some v → (w4.alloc (.cells #[.int .u64 j0, .int .u64 j1, .int .u64 j2, .int .u64 j3, .int .u64 j4, .int .u32 j5, .slice ad4 n4 c4] 32)).cell? ⟨w4.heap.size, i, none⟩ = some v := fun i v h => by rw [World.cell?_alloc_new]; exact h
    have hs5 : w4.heap.size < (w4.alloc (.cells #[.int .u64 j0, .int .u64 j1, .int .u64 j2, .int .u64 j3, .int .u64 j4, .int .u32 j5, .slice ad4 n4 c4] 32)).heap.size := by simp
    generalize w4.alloc (.cells #[.int .u64 j0, .int .u64 j1, .int .u64 j2, .int .u64 j3, .int .u64 j4, .int .u32 j5, .slice ad4 n4 c4] 32) = W5 at *
    have g0 := (hb5.cell (p := ⟨w.heap.size, 0, none⟩) (hz4')).trans f0
    have g1 := (hb5.cell (p := ⟨w.heap.size, 1, none⟩) (hz4')).trans f1
    have g2 := (hb5.cell (p := ⟨w.heap.size, 2, none⟩) (hz4')).trans f2
    have q0 := (hb5.cell (p := ⟨w3.heap.size, 0, none⟩) (hz4)).trans p0
    have q1 := (hb5.cell (p := ⟨w3.heap.size, 1, none⟩) (hz4)).trans p1
    have q2 := (hb5.cell (p := ⟨w3.heap.size, 2, none⟩) (hz4)).trans p2
    have q3 := (hb5.cell (p := ⟨w3.heap.size, 3, none⟩) (hz4)).trans p3
    have q4 := (hb5.cell (p := ⟨w3.heap.size, 4, none⟩) (hz4)).trans p4
    have q5 := (hb5.cell (p := ⟨w3.heap.size, 5, none⟩) (hz4)).trans p5
    have q6 := (hb5.cell (p := ⟨w3.heap.size, 6, none⟩) (hz4)).trans p6
    have r0 := hc5 0 _ rfl
    have r1 := hc5 1 _ rfl
    have r2 := hc5 2 _ rfl
    have r3 := hc5 3 _ rfl
    have r4 := hc5 4 _ rfl
    have r5 := hc5 5 _ rfl
    have r6 := hc5 6 _ rfl
    have HT5 := Lib.hid (TableR.stable _ _ _ _ hb5 HT4.out)
    have HB5 := Lib.hid (HB4.out.trans (hb5.mono (by omega)))
    have HR5 := Lib.hid (HR34.out.below hb5)
    have HR6 := Lib.hid (HR4.out.below hb5)
    have hz5 : w.heap.size < W5.heap.size := by omega
    have hz35 : w3.heap.size < W5.heap.size := by omega
    clear hb5 hc5 f0 f1 f2 p0 p1 p2 p3 p4 p5 p6
    have hS : ∀ W, Below W5.heap.size W5 W → W.cell? ⟨w.heap.size, 0, none⟩ = some (.slice a' n' c') ∧ W.cell? ⟨w.heap.size, 1, none⟩ = some (.slice a n c) ∧ W.cell? ⟨w.heap.size, 2, none⟩ = some (.int .u64 t.current) ∧ W.cell? ⟨w3.heap.size, 0, none⟩ = some (.int .u64 i0) ∧ W.cell? ⟨w3.heap.size, 1, none⟩ = some (.int .u64 i1) ∧ W.cell? ⟨w3.heap.size, 2, none⟩ = some (.int .u64 i2) ∧ W.cell? ⟨w3.heap.size, 3, none⟩ = some (.int .u64 i3) ∧ W.cell? ⟨w3.heap.size, 4, none⟩ = some (.int .u64 i4) ∧ W.cell? ⟨w3.heap.size, 5, none⟩ = some (.int .u32 i5) ∧ W.cell? ⟨w3.heap.size, 6, none⟩ = some (.slice ad3 n3 c3) ∧ W.cell? ⟨w4.heap.size, 0, none⟩ = some (.int .u64 j0) ∧ W.cell? ⟨w4.heap.size, 1, none⟩ = some (.int .u64 j1) ∧ W.cell? ⟨w4.heap.size, 2, none⟩ = some (.int .u64 j2) ∧ W.cell? ⟨w4.heap.size, 3, none⟩ = some (.int .u64 j3) ∧ W.cell? ⟨w4.heap.size, 4, none⟩ = some (.int .u64 j4) ∧ W.cell? ⟨w4.heap.size, 5, none⟩ = some (.int .u32 j5) ∧ W.cell? ⟨w4.heap.size, 6, none⟩ = some (.slice ad4 n4 c4) := fun W hb => ⟨(hb.cell (p := ⟨w.heap.size, 0, none⟩) hz5).trans g0, (hb.cell (p := ⟨w.heap.size, 1, none⟩) hz5).trans g1, (hb.cell (p := ⟨w.heap.size, 2, none⟩) hz5).trans g2, (hb.cell (p := ⟨w3.heap.size, 0, none⟩) hz35).trans q0, (hb.cell (p := ⟨w3.heap.size, 1, none⟩) hz35).trans q1, (hb.cell (p := ⟨w3.heap.size, 2, none⟩) hz35).trans q2, (hb.cell (p := ⟨w3.heap.size, 3, none⟩) hz35).trans q3, (hb.cell (p := ⟨w3.heap.size, 4, none⟩) hz35).trans q4, (hb.cell (p := ⟨w3.heap.size, 5, none⟩) hz35).trans q5, (hb.cell (p := ⟨w3.heap.size, 6, none⟩) hz35).trans q6, (hb.cell (p := ⟨w4.heap.size, 0, none⟩) hs5).trans r0, (hb.cell (p := ⟨w4.heap.size, 1, none⟩) hs5).trans r1, (hb.cell (p := ⟨w4.heap.size, 2, none⟩) hs5).trans r2, (hb.cell (p := ⟨w4.heap.size, 3, none⟩) hs5).trans r3, (hb.cell (p := ⟨w4.heap.size, 4, none⟩) hs5).trans r4, (hb.cell (p := ⟨w4.heap.size, 5, none⟩) hs5).trans r5, (hb.cell (p := ⟨w4.heap.size, 6, none⟩) hs5).trans r6⟩
    have HSS := Lib.hid hS
    clear hS
    go_region_held3 (fun W => W.cell? ⟨w.heap.size, 0, none⟩ = some (.slice a' n' c') ∧ W.cell? ⟨w.heap.size, 1, none⟩ = some (.slice a n c) ∧ W.cell? ⟨w.heap.size, 2, none⟩ = some (.int .u64 t.current) ∧ W.cell? ⟨w3.heap.size, 0, none⟩ = some (.int .u64 i0) ∧ W.cell? ⟨w3.heap.size, 1, none⟩ = some (.int .u64 i1) ∧ W.cell? ⟨w3.heap.size, 2, none⟩ = some (.int .u64 i2) ∧ W.cell? ⟨w3.heap.size, 3, none⟩ = some (.int .u64 i3) ∧ W.cell? ⟨w3.heap.size, 4, none⟩ = some (.int .u64 i4) ∧ W.cell? ⟨w3.heap.size, 5, none⟩ = some (.int .u32 i5) ∧ W.cell? ⟨w3.heap.size, 6, none⟩ = some (.slice ad3 n3 c3) ∧ W.cell? ⟨w4.heap.size, 0, none⟩ = some (.int .u64 j0) ∧ W.cell? ⟨w4.heap.size, 1, none⟩ = some (.int .u64 j1) ∧ W.cell? ⟨w4.heap.size, 2, none⟩ = some (.int .u64 j2) ∧ W.cell? ⟨w4.heap.size, 3, none⟩ = some (.int .u64 j3) ∧ W.cell? ⟨w4.heap.size, 4, none⟩ = some (.int .u64 j4) ∧ W.cell? ⟨w4.heap.size, 5, none⟩ = some (.int .u32 j5) ∧ W.cell? ⟨w4.heap.size, 6, none⟩ = some (.slice ad4 n4 c4)) (first | exact HSS.out _ k9 | exact HSS.out _ k8 | exact HSS.out _ k7 | exact HSS.out _ k6 | exact HSS.out _ (Below.refl _ _).drew) (first
      | (go_at_call_of 13 (Value.bool false); refine (refAt _ t o false _ (TableR.stable _ _ _ _ (Below.refl _ _).drew HT5.out) HF.out).mono ?_; rintro e w6 ⟨x6, rfl, hx6, hb6⟩; have HX6 := Lib.hid hx6; have k6 : Below W5.heap.size W5 w6 := (Below.refl _ _).drew.trans hb6)
      | (go_at_call_of 13 (Value.bool true); refine (refAt _ t tm true _ (TableR.stable _ _ _ _ k7 HT5.out) HF.out).mono ?_; rintro e w8 ⟨x8, rfl, hx8, hb8⟩; have HX8 := Lib.hid hx8; have k8 : Below W5.heap.size W5 w8 := k7.trans (hb8.mono k7.size))
      | (go_at_call_of 12 (Value.int IntKind.i64 er3); refine (found_res _ _ t er3 _ _ (TableR.stable _ _ _ _ k6 HT5.out) HL.out (HR5.out.below k6) HX6.out).mono ?_; rintro e w7 ⟨rfl, hb7⟩; have k7 : Below W5.heap.size W5 w7 := k6.trans (hb7.mono k6.size))
      | (go_at_call_of 12 (Value.int IntKind.i64 er4); refine (found_res _ _ t er4 _ _ (TableR.stable _ _ _ _ k8 HT5.out) HL.out (HR6.out.below k8) HX8.out).mono ?_; rintro e w9 ⟨rfl, hb9⟩; have k9 : Below W5.heap.size W5 w9 := k8.trans (hb9.mono k8.size)))
    go_wp2
    go_ret
    exact ⟨rfl, HB5.out.trans (k9.mono (Nat.le_of_lt hz5))⟩
end Go.Proofs.Ytlcolgibabibdaa
