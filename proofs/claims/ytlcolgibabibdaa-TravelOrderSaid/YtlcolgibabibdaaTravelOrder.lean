/- travel: TravelOrder. -/
import Derived.Test.YtlcolgibabibdaaOrderP
import Derived.Test.YtlcolgibabibdaaRes
import Derived.BigRegion
import Derived.BigQuiet
import Derived.Deep.RegionHeld3
namespace Go.Proofs.Ytlcolgibabibdaa
open Go.RowKit Go.Deep
set_option linter.unusedVariables false

set_option maxRecDepth 100000 in
set_option maxHeartbeats 10000000 in
theorem travelOrder (cs : List Value) (t : TableD) (x y : Nat) (w : World) (h : TableR w cs t) (hax : x < 2 ^ 64) (hay : y < 2 ^ 64) :
    Calls Try.prog 5 #[.agg cs.toArray, .int .u64 (x : Int), .int .u64 (y : Int)] w (TruthPost w) := by
  have HT := Lib.hid h
  obtain ⟨a', n', c', a, n, c, rfl, _, _, _, _, h4, h5, h6, hs, _⟩ := h
  have HS := Lib.hid hs
  have HLEN := Lib.hid hs.1
  clear hs h6
  go_enter Try.func5, Try.ntmps5
  go_wp2_with fail
  refine (alive_calls _).mono ?_
  rintro e w1 ⟨rfl, hb1⟩
  have c0 := (hb1.cell (p := ⟨w.heap.size, 0, none⟩) (by simp)).trans (by rw [World.cell?_alloc_new])
  have c1 := (hb1.cell (p := ⟨w.heap.size, 1, none⟩) (by simp)).trans (by rw [World.cell?_alloc_new])
  have c2 := (hb1.cell (p := ⟨w.heap.size, 2, none⟩) (by simp)).trans (by rw [World.cell?_alloc_new])
  have hz1 : w.heap.size < w1.heap.size := by have := hb1.size; simp at this; omega
  have hbb1 : Below w.heap.size w w1 := ((Below.refl _ _).alloc (Nat.le_refl _) _).trans (hb1.mono (by simp))
  have HB1 := Lib.hid hbb1
  have HT1 := Lib.hid (TableR.stable _ _ _ _ hbb1 HT.out)
  clear hb1 hbb1
  go_wp2_with fail
  refine (great14 _ t _ HT1.out).mono ?_
  rintro e w2 ⟨b, rfl, hb2, hfine⟩
  have HB2 := Lib.hid (HB1.out.trans (hb2.mono (by omega)))
  cases b with
  | true =>
    go_wp2
    go_ret
    exact ⟨rfl, HB2.out⟩
  | false =>
    have HF := Lib.hid (hfine rfl)
    have d0 := (hb2.cell (p := ⟨w.heap.size, 0, none⟩) (by show w.heap.size < _; omega)).trans c0
    have d1 := (hb2.cell (p := ⟨w.heap.size, 1, none⟩) (by show w.heap.size < _; omega)).trans c1
    have d2 := (hb2.cell (p := ⟨w.heap.size, 2, none⟩) (by show w.heap.size < _; omega)).trans c2
    have HT2 := Lib.hid (TableR.stable _ _ _ _ hb2 HT1.out)
    have hz2 : w.heap.size < w2.heap.size := by have := hb2.size; omega
    have hn : n ≤ 100 := by have := HLEN.out; have := HF.out.2.1; omega
    clear c0 c1 c2 hb2 hfine
    go_wp2_with fail
    refine (right14 _ t _ HT2.out).mono ?_
    rintro e w3 ⟨r, rfl, hrise, hb3⟩
    have e0 := (hb3.cell (p := ⟨w.heap.size, 0, none⟩) hz2).trans d0
    have e1 := (hb3.cell (p := ⟨w.heap.size, 1, none⟩) hz2).trans d1
    have e2 := (hb3.cell (p := ⟨w.heap.size, 2, none⟩) hz2).trans d2
    have HB3 := Lib.hid (HB2.out.trans (hb3.mono (by omega)))
    have HT3 := Lib.hid (TableR.stable _ _ _ _ hb3 HT2.out)
    have hz3 : w.heap.size < w3.heap.size := by have := hb3.size; omega
    cases r with
    | false =>
      clear hb3 hrise
      go_wp2
      go_ret
      exact ⟨rfl, HB3.out⟩
    | true =>
      have HRISE := Lib.hid (hrise rfl)
      have x0 := Lib.hid e0
      have x1 := Lib.hid e1
      have x2 := Lib.hid e2
      clear hb3 hrise d0 d1 d2
      go_wp2
      clear e0 e1 e2
      go_loopw [7] (fun i wr => ∃ k : Nat, k ≤ n ∧ i = .int .i64 (k : Int) ∧ Below w3.heap.size w3 wr) (fun i _ => n - (intOf i).toNat)
      case atStart => exact ⟨0, Nat.zero_le _, rfl, Below.refl _ _⟩
      case round =>
        obtain ⟨k, hk, rfl, hb⟩ := hrel
        have HB := Lib.hid hb
        have y0 := (hb.cell (p := ⟨w.heap.size, 0, none⟩) hz3).trans x0.out
        have y1 := (hb.cell (p := ⟨w.heap.size, 1, none⟩) hz3).trans x1.out
        have y2 := (hb.cell (p := ⟨w.heap.size, 2, none⟩) hz3).trans x2.out
        have HTR := Lib.hid (TableR.stable _ _ _ _ hb HT3.out)
        have HBW := Lib.hid (HB3.out.trans (hb.mono (Nat.le_of_lt hz3)))
        have hwr : w.heap.size < wr.heap.size := Nat.lt_of_lt_of_le hz3 hb.size
        clear hb
        by_cases hlt : k < n
        · obtain ⟨b, off, s, cs, rfl, hbl, hx, hcl, hr, hcell⟩ := HS.out.at_ hlt
          obtain ⟨a2, n2, c2, rfl, hr2⟩ := hr
          have p0 := (HBW.out.cell (p := ⟨b, off + k * 7 + 0, none⟩) hbl).trans (hcell 0 _ rfl)
          have p3 := (HBW.out.cell (p := ⟨b, off + k * 7 + 3, none⟩) hbl).trans (hcell 3 _ rfl)
          rw [Nat.add_zero] at p0
          have hk0 : (0 : Int) ≤ (k : Int) := by omega
          have hkn : (k : Int) < (n : Int) := by omega
          have HX := Lib.hid hx
          have hbwr : b < wr.heap.size := Nat.lt_of_lt_of_le hbl HBW.out.size
          clear hcell hx hr2
          have hcz : ∀ (i : Nat) (v : Value), (#[.int .u64 0, .int .u64 0, .int .u64 0, .int .u64 0, .int .u64 0, .int .u32 0, .slice none 0 0] : Array Value)[i]? = some v → ((wr.alloc (.cells #[.int .u64 0, .int .u64 0, .int .u64 0, .int .u64 0, .int .u64 0, .int .u32 0, .slice none 0 0] 32)).drew).cell? ⟨wr.heap.size, i, none⟩ = some v := fun i v h => by rw [World.cell?_drew, World.cell?_alloc_new]; exact h
          have hzf : ∀ W, Below ((wr.alloc (.cells #[.int .u64 0, .int .u64 0, .int .u64 0, .int .u64 0, .int .u64 0, .int .u32 0, .slice none 0 0] 32)).drew).heap.size ((wr.alloc (.cells #[.int .u64 0, .int .u64 0, .int .u64 0, .int .u64 0, .int .u64 0, .int .u32 0, .slice none 0 0] 32)).drew) W → W.cell? ⟨wr.heap.size, 0, none⟩ = some (.int .u64 0) ∧ W.cell? ⟨wr.heap.size, 1, none⟩ = some (.int .u64 0) ∧ W.cell? ⟨wr.heap.size, 2, none⟩ = some (.int .u64 0) ∧ W.cell? ⟨wr.heap.size, 3, none⟩ = some (.int .u64 0) ∧ W.cell? ⟨wr.heap.size, 4, none⟩ = some (.int .u64 0) ∧ W.cell? ⟨wr.heap.size, 5, none⟩ = some (.int .u32 0) ∧ W.cell? ⟨wr.heap.size, 6, none⟩ = some (.slice none 0 0) ∧ (∀ i, W.frozen? ⟨wr.heap.size, i, none⟩ = false) ∧ wr.heap.size < W.heap.size := fun W hb =>
            have hz : wr.heap.size < ((wr.alloc (.cells #[.int .u64 0, .int .u64 0, .int .u64 0, .int .u64 0, .int .u64 0, .int .u32 0, .slice none 0 0] 32)).drew).heap.size := by simp
            ⟨(hb.cell (p := ⟨wr.heap.size, 0, none⟩) hz).trans (hcz 0 _ rfl), (hb.cell (p := ⟨wr.heap.size, 1, none⟩) hz).trans (hcz 1 _ rfl), (hb.cell (p := ⟨wr.heap.size, 2, none⟩) hz).trans (hcz 2 _ rfl), (hb.cell (p := ⟨wr.heap.size, 3, none⟩) hz).trans (hcz 3 _ rfl), (hb.cell (p := ⟨wr.heap.size, 4, none⟩) hz).trans (hcz 4 _ rfl), (hb.cell (p := ⟨wr.heap.size, 5, none⟩) hz).trans (hcz 5 _ rfl), (hb.cell (p := ⟨wr.heap.size, 6, none⟩) hz).trans (hcz 6 _ rfl), (fun i => (hb.frozen (p := ⟨wr.heap.size, i, none⟩) hz).trans (by simp)), Nat.lt_of_lt_of_le hz hb.size⟩
          have HZF := Lib.hid hzf
          clear hcz hzf
          go_wp2_with fail
          have hS : ∀ W, Below wr.heap.size wr W → W.cell? ⟨w.heap.size, 0, none⟩ = some (.slice a' n' c') ∧ W.cell? ⟨w.heap.size, 1, none⟩ = some (.slice (some ⟨b, off, none⟩) n c) ∧ W.cell? ⟨w.heap.size, 2, none⟩ = some (.int .u64 t.current) ∧ W.cell? ⟨b, off + k * 7 + 3, none⟩ = some (.int .u64 s.offset) := fun W hb => ⟨(hb.cell (p := ⟨w.heap.size, 0, none⟩) hwr).trans y0, (hb.cell (p := ⟨w.heap.size, 1, none⟩) hwr).trans y1, (hb.cell (p := ⟨w.heap.size, 2, none⟩) hwr).trans y2, (hb.cell (p := ⟨b, off + k * 7 + 3, none⟩) hbwr).trans p3⟩
          have HSS := Lib.hid hS
          have HTRS := Lib.hid (fun W (hb : Below wr.heap.size wr W) => TableR.stable _ _ _ _ hb HTR.out)
          clear hS
          go_region_held3 (fun W => W.cell? ⟨w.heap.size, 0, none⟩ = some (.slice a' n' c') ∧ W.cell? ⟨w.heap.size, 1, none⟩ = some (.slice (some ⟨b, off, none⟩) n c) ∧ W.cell? ⟨w.heap.size, 2, none⟩ = some (.int .u64 t.current) ∧ W.cell? ⟨b, off + k * 7 + 3, none⟩ = some (.int .u64 s.offset))
            (first | (refine HSS.out _ ?_; repeat (first | (with_reducible exact k5) | (with_reducible exact Below.refl _ _) | (with_reducible refine Below.setCell ?_ (by first | exact Nat.le_refl _ | (simp; done) | (simp; omega)) _) | (with_reducible refine Below.drew ?_) | (with_reducible refine Below.alloc ?_ (by first | exact Nat.le_refl _ | exact k5.size | (simp; done) | (simp; omega)) _))))
            (first
              | (go_at_call 10; (with_reducible refine (at_calls _ t s.offset _ (HTRS.out _ (((Below.refl wr.heap.size wr).alloc (Nat.le_refl _) (.cells #[.int .u64 0, .int .u64 0, .int .u64 0, .int .u64 0, .int .u64 0, .int .u32 0, .slice none 0 0] 32)).drew)) HF.out).mono ?_); rintro e w5 hp5; have k5 : Below wr.heap.size wr w5 := (((Below.refl wr.heap.size wr).alloc (Nat.le_refl _) (.cells #[.int .u64 0, .int .u64 0, .int .u64 0, .int .u64 0, .int .u64 0, .int .u32 0, .slice none 0 0] 32)).drew).trans (hp5.1.mono (by simp)); obtain ⟨z0, z1, z2, z3, z4, z5, z6, fz, hz5⟩ := HZF.out _ hp5.1; obtain ⟨_, l5, er5, rfl, hr5⟩ := hp5.res (HTRS.out _ (((Below.refl wr.heap.size wr).alloc (Nat.le_refl _) (.cells #[.int .u64 0, .int .u64 0, .int .u64 0, .int .u64 0, .int .u64 0, .int .u32 0, .slice none 0 0] 32)).drew)); obtain ⟨i0, i1, i2, i3, i4, i5, ad5, n5, c5, rfl⟩ := hr5.shape; have HR5 := Lib.hid hr5; clear hp5 hr5)
              | (go_at_call 10; (with_reducible refine (at_calls _ t s.offset _ (HTRS.out _ ((Below.refl wr.heap.size wr).drew)) HF.out).mono ?_); rintro e w5 hp5; have k5 : Below wr.heap.size wr w5 := ((Below.refl wr.heap.size wr).drew).trans hp5.1; obtain ⟨_, l5, er5, rfl, hr5⟩ := hp5.res (HTRS.out _ ((Below.refl wr.heap.size wr).drew)); obtain ⟨i0, i1, i2, i3, i4, i5, ad5, n5, c5, rfl⟩ := hr5.shape; have HR5 := Lib.hid hr5; clear hp5 hr5))
          · have hb6 : Below wr.heap.size wr (w5.alloc (.cells #[Value.int .u64 i0, Value.int .u64 i1, Value.int .u64 i2, Value.int .u64 i3, Value.int .u64 i4, Value.int .u32 i5, Value.slice ad5 n5 c5] 32)) := k5.alloc k5.size _
            have hc6 : ∀ (i : Nat) (v : Value), (#[Value.int .u64 i0, Value.int .u64 i1, Value.int .u64 i2, Value.int .u64 i3, Value.int .u64 i4, Value.int .u32 i5, Value.slice ad5 n5 c5] : Array Value)[i]? = some v → (w5.alloc (.cells #[Value.int .u64 i0, Value.int .u64 i1, Value.int .u64 i2, Value.int .u64 i3, Value.int .u64 i4, Value.int .u32 i5, Value.slice ad5 n5 c5] 32)).cell? ⟨w5.heap.size, i, none⟩ = some v := fun i v h => by rw [World.cell?_alloc_new]; exact h
            generalize (w5.alloc (.cells #[Value.int .u64 i0, Value.int .u64 i1, Value.int .u64 i2, Value.int .u64 i3, Value.int .u64 i4, Value.int .u32 i5, Value.slice ad5 n5 c5] 32)) = W6 at *
            have HB6 := Lib.hid hb6
            have HC6 := Lib.hid hc6
            rcases HR5.out with ⟨hbst, _⟩ | ⟨m, sm, hbst, hsm, hsr, rfl⟩
            · exact absurd hbst (own_found HRISE.out HX.out).1
            · obtain ⟨hoff, hid⟩ := (own_found HRISE.out HX.out).2 m sm hbst hsm
              obtain ⟨_, _, _, hcs, _⟩ := hsr
              simp only [List.cons.injEq, Value.int.injEq, true_and] at hcs
              obtain ⟨rfl, rfl, rfl, rfl, rfl, rfl, hcs2⟩ := hcs
              have q0 := hc6 0 _ rfl
              have q3 := hc6 3 _ rfl
              rw [hoff] at q3
              have yy1 := (hb6.cell (p := ⟨w.heap.size, 1, none⟩) hwr).trans y1
              have pp0 := (hb6.cell (p := ⟨b, off + k * 7 + 0, none⟩) hbwr).trans p0
              have pp3 := (hb6.cell (p := ⟨b, off + k * 7 + 3, none⟩) hbwr).trans p3
              rw [Nat.add_zero] at pp0
              have hid1 : ¬ sm.id < s.id := by omega
              have hid2 : decide (sm.id < s.id) = false := by rw [decide_eq_false_iff_not]; exact hid1
              have hid3 : decide ((sm.id : Int) < (s.id : Int)) = false := by rw [decide_eq_false_iff_not]; omega
              have hid4 : (s.id : Int) ≤ (sm.id : Int) := by omega
              have hoo : ((s.offset : Int) != (s.offset : Int)) = false := by simp
              clear hc6 hb6 hbst hsm hcs2 y0 y1 y2 p0 p3 hid hid1 HR5
              try clear z0 z1 z2 z3 z4 z5 z6 fz
              go_wp2
              go_quiet (fail)
              go_wp2
              go_roundw
              case rel => exact ⟨k + 1, by omega, by go_num, HB.out.trans ((below_drewN HB6.out _).mono HB.out.size)⟩
              case measure => simp [intOf] <;> omega
          · have hb6 : Below wr.heap.size wr (((((((w5.setCell ⟨wr.heap.size, 0, none⟩ (.int .u64 i0)).setCell ⟨wr.heap.size, 1, none⟩ (.int .u64 i1)).setCell ⟨wr.heap.size, 2, none⟩ (.int .u64 i2)).setCell ⟨wr.heap.size, 3, none⟩ (.int .u64 i3)).setCell ⟨wr.heap.size, 4, none⟩ (.int .u64 i4)).setCell ⟨wr.heap.size, 5, none⟩ (.int .u32 i5)).setCell ⟨wr.heap.size, 6, none⟩ (.slice ad5 n5 c5)) := ((((((k5.setCell (Nat.le_refl _) _).setCell (Nat.le_refl _) _).setCell (Nat.le_refl _) _).setCell (Nat.le_refl _) _).setCell (Nat.le_refl _) _).setCell (Nat.le_refl _) _).setCell (Nat.le_refl _) _
            have hc6 : ∀ (i : Nat) (v : Value), (#[Value.int .u64 i0, Value.int .u64 i1, Value.int .u64 i2, Value.int .u64 i3, Value.int .u64 i4, Value.int .u32 i5, Value.slice ad5 n5 c5] : Array Value)[i]? = some v → (((((((w5.setCell ⟨wr.heap.size, 0, none⟩ (.int .u64 i0)).setCell ⟨wr.heap.size, 1, none⟩ (.int .u64 i1)).setCell ⟨wr.heap.size, 2, none⟩ (.int .u64 i2)).setCell ⟨wr.heap.size, 3, none⟩ (.int .u64 i3)).setCell ⟨wr.heap.size, 4, none⟩ (.int .u64 i4)).setCell ⟨wr.heap.size, 5, none⟩ (.int .u32 i5)).setCell ⟨wr.heap.size, 6, none⟩ (.slice ad5 n5 c5)).cell? ⟨wr.heap.size, i, none⟩ = some v := set7 z0 z1 z2 z3 z4 z5 z6 _ _ _ _ _ _ _
            generalize (((((((w5.setCell ⟨wr.heap.size, 0, none⟩ (.int .u64 i0)).setCell ⟨wr.heap.size, 1, none⟩ (.int .u64 i1)).setCell ⟨wr.heap.size, 2, none⟩ (.int .u64 i2)).setCell ⟨wr.heap.size, 3, none⟩ (.int .u64 i3)).setCell ⟨wr.heap.size, 4, none⟩ (.int .u64 i4)).setCell ⟨wr.heap.size, 5, none⟩ (.int .u32 i5)).setCell ⟨wr.heap.size, 6, none⟩ (.slice ad5 n5 c5)) = W6 at *
            have HB6 := Lib.hid hb6
            have HC6 := Lib.hid hc6
            rcases HR5.out with ⟨hbst, _⟩ | ⟨m, sm, hbst, hsm, hsr, rfl⟩
            · exact absurd hbst (own_found HRISE.out HX.out).1
            · obtain ⟨hoff, hid⟩ := (own_found HRISE.out HX.out).2 m sm hbst hsm
              obtain ⟨_, _, _, hcs, _⟩ := hsr
              simp only [List.cons.injEq, Value.int.injEq, true_and] at hcs
              obtain ⟨rfl, rfl, rfl, rfl, rfl, rfl, hcs2⟩ := hcs
              have q0 := hc6 0 _ rfl
              have q3 := hc6 3 _ rfl
              rw [hoff] at q3
              have yy1 := (hb6.cell (p := ⟨w.heap.size, 1, none⟩) hwr).trans y1
              have pp0 := (hb6.cell (p := ⟨b, off + k * 7 + 0, none⟩) hbwr).trans p0
              have pp3 := (hb6.cell (p := ⟨b, off + k * 7 + 3, none⟩) hbwr).trans p3
              rw [Nat.add_zero] at pp0
              have hid1 : ¬ sm.id < s.id := by omega
              have hid2 : decide (sm.id < s.id) = false := by rw [decide_eq_false_iff_not]; exact hid1
              have hid3 : decide ((sm.id : Int) < (s.id : Int)) = false := by rw [decide_eq_false_iff_not]; omega
              have hid4 : (s.id : Int) ≤ (sm.id : Int) := by omega
              have hoo : ((s.offset : Int) != (s.offset : Int)) = false := by simp
              clear hc6 hb6 hbst hsm hcs2 y0 y1 y2 p0 p3 hid hid1 HR5
              try clear z0 z1 z2 z3 z4 z5 z6 fz
              go_wp2
              go_quiet (fail)
              go_wp2
              go_roundw
              case rel => exact ⟨k + 1, by omega, by go_num, HB.out.trans ((below_drewN HB6.out _).mono HB.out.size)⟩
              case measure => simp [intOf] <;> omega
        · rcases Nat.lt_trichotomy x y with hxy | rfl | hxy
          · have hxyi : (x : Int) < (y : Int) := by omega
            go_wp2_with fail
            refine (at_calls _ t x _ HTR.out HF.out).mono ?_
            rintro e w4 hp4
            obtain ⟨hb4, l4, er4, rfl, hr4⟩ := hp4.res HTR.out
            obtain ⟨i0, i1, i2, i3, i4, i5, ad4, n4, c4, rfl⟩ := hr4.shape
            have f0 := (hb4.cell (p := ⟨w.heap.size, 0, none⟩) hwr).trans y0
            have f1 := (hb4.cell (p := ⟨w.heap.size, 1, none⟩) hwr).trans y1
            have f2 := (hb4.cell (p := ⟨w.heap.size, 2, none⟩) hwr).trans y2
            have hz4 : w.heap.size < w4.heap.size := Nat.lt_of_lt_of_le hwr hb4.size
            have HR4 := Lib.hid hr4
            have hb5 : Below wr.heap.size wr (w4.alloc (.cells #[Value.int .u64 i0, Value.int .u64 i1, Value.int .u64 i2, Value.int .u64 i3, Value.int .u64 i4, Value.int .u32 i5, Value.slice ad4 n4 c4] 32)) := hb4.alloc hb4.size _
            have hc5 : ∀ (i : Nat) (v : Value), (#[Value.int .u64 i0, Value.int .u64 i1, Value.int .u64 i2, Value.int .u64 i3, Value.int .u64 i4, Value.int .u32 i5, Value.slice ad4 n4 c4] : Array Value)[i]? = some v → (w4.alloc (.cells #[Value.int .u64 i0, Value.int .u64 i1, Value.int .u64 i2, Value.int .u64 i3, Value.int .u64 i4, Value.int .u32 i5, Value.slice ad4 n4 c4] 32)).cell? ⟨w4.heap.size, i, none⟩ = some v := fun i v h => by rw [World.cell?_alloc_new]; exact h
            have hz5 : w4.heap.size < (w4.alloc (.cells #[Value.int .u64 i0, Value.int .u64 i1, Value.int .u64 i2, Value.int .u64 i3, Value.int .u64 i4, Value.int .u32 i5, Value.slice ad4 n4 c4] 32)).heap.size := by simp
            clear hp4 hb4 hr4 y0 y1 y2
            go_wp2_with fail
            generalize w4.alloc (.cells #[Value.int .u64 i0, Value.int .u64 i1, Value.int .u64 i2, Value.int .u64 i3, Value.int .u64 i4, Value.int .u32 i5, Value.slice ad4 n4 c4] 32) = W5 at *
            have HT5 := Lib.hid (TableR.stable _ _ _ _ hb5 HTR.out)
            have HB5 := Lib.hid (HBW.out.trans (hb5.mono (Nat.le_of_lt hwr)))
            refine (at_calls _ t y _ HT5.out HF.out).mono ?_
            rintro e w6 hp6
            obtain ⟨hb6, l6, er6, rfl, hr6⟩ := hp6.res HT5.out
            obtain ⟨j0, j1, j2, j3, j4, j5, ad6, n6, c6, rfl⟩ := hr6.shape
            have q0 := (hb6.cell (p := ⟨w4.heap.size, 0, none⟩) hz5).trans (hc5 0 _ rfl)
            have q3 := (hb6.cell (p := ⟨w4.heap.size, 3, none⟩) hz5).trans (hc5 3 _ rfl)
            have hz6 : w4.heap.size < w6.heap.size := Nat.lt_of_lt_of_le hz5 hb6.size
            have HB6 := Lib.hid (HB5.out.trans (hb6.mono HB5.out.size))
            have HR6 := Lib.hid hr6
            clear hp6 hb6 hr6 hb5 hc5 f0 f1 f2
            rcases HR4.out with ⟨_, rfl, _⟩ | ⟨m, sm, hbst, hsm, hsr, rfl⟩
            · go_wp2
              go_ret
              exact ⟨rfl, HB6.out.alloc HB6.out.size _⟩
            · rcases HR6.out with ⟨hbst2, _⟩ | ⟨m2, sm2, hbst2, hsm2, hsr2, rfl⟩
              · exact absurd hbst2 (two_found HRISE.out (hi := y) (by omega) hsm hbst).1
              · obtain ⟨hoff, hid⟩ := (two_found HRISE.out (hi := y) (by omega) hsm hbst).2 m2 sm2 hbst2 hsm2
                obtain ⟨_, _, _, hcs, _⟩ := hsr
                obtain ⟨_, _, _, hcs', _⟩ := hsr2
                simp only [List.cons.injEq, Value.int.injEq, true_and] at hcs hcs'
                obtain ⟨rfl, rfl, rfl, rfl, rfl, rfl, _⟩ := hcs
                obtain ⟨rfl, rfl, rfl, rfl, rfl, rfl, _⟩ := hcs'
                have ho2 : (sm.offset : Int) ≤ (sm2.offset : Int) := by omega
                have hi2 : (sm.id : Int) ≤ (sm2.id : Int) := by omega
                clear hbst hbst2 hsm hsm2
                go_wp2
                go_ret
                exact ⟨rfl, HB6.out.alloc HB6.out.size _⟩
          · skip
            go_wp2_with fail
            refine (at_calls _ t x _ HTR.out HF.out).mono ?_
            rintro e w4 hp4
            obtain ⟨hb4, l4, er4, rfl, hr4⟩ := hp4.res HTR.out
            obtain ⟨i0, i1, i2, i3, i4, i5, ad4, n4, c4, rfl⟩ := hr4.shape
            have f0 := (hb4.cell (p := ⟨w.heap.size, 0, none⟩) hwr).trans y0
            have f1 := (hb4.cell (p := ⟨w.heap.size, 1, none⟩) hwr).trans y1
            have f2 := (hb4.cell (p := ⟨w.heap.size, 2, none⟩) hwr).trans y2
            have hz4 : w.heap.size < w4.heap.size := Nat.lt_of_lt_of_le hwr hb4.size
            have HR4 := Lib.hid hr4
            have hb5 : Below wr.heap.size wr (w4.alloc (.cells #[Value.int .u64 i0, Value.int .u64 i1, Value.int .u64 i2, Value.int .u64 i3, Value.int .u64 i4, Value.int .u32 i5, Value.slice ad4 n4 c4] 32)) := hb4.alloc hb4.size _
            have hc5 : ∀ (i : Nat) (v : Value), (#[Value.int .u64 i0, Value.int .u64 i1, Value.int .u64 i2, Value.int .u64 i3, Value.int .u64 i4, Value.int .u32 i5, Value.slice ad4 n4 c4] : Array Value)[i]? = some v → (w4.alloc (.cells #[Value.int .u64 i0, Value.int .u64 i1, Value.int .u64 i2, Value.int .u64 i3, Value.int .u64 i4, Value.int .u32 i5, Value.slice ad4 n4 c4] 32)).cell? ⟨w4.heap.size, i, none⟩ = some v := fun i v h => by rw [World.cell?_alloc_new]; exact h
            have hz5 : w4.heap.size < (w4.alloc (.cells #[Value.int .u64 i0, Value.int .u64 i1, Value.int .u64 i2, Value.int .u64 i3, Value.int .u64 i4, Value.int .u32 i5, Value.slice ad4 n4 c4] 32)).heap.size := by simp
            clear hp4 hb4 hr4 y0 y1 y2
            go_wp2_with fail
            generalize w4.alloc (.cells #[Value.int .u64 i0, Value.int .u64 i1, Value.int .u64 i2, Value.int .u64 i3, Value.int .u64 i4, Value.int .u32 i5, Value.slice ad4 n4 c4] 32) = W5 at *
            have HT5 := Lib.hid (TableR.stable _ _ _ _ hb5 HTR.out)
            have HB5 := Lib.hid (HBW.out.trans (hb5.mono (Nat.le_of_lt hwr)))
            refine (at_calls _ t x _ HT5.out HF.out).mono ?_
            rintro e w6 hp6
            obtain ⟨hb6, l6, er6, rfl, hr6⟩ := hp6.res HT5.out
            obtain ⟨j0, j1, j2, j3, j4, j5, ad6, n6, c6, rfl⟩ := hr6.shape
            have q0 := (hb6.cell (p := ⟨w4.heap.size, 0, none⟩) hz5).trans (hc5 0 _ rfl)
            have q3 := (hb6.cell (p := ⟨w4.heap.size, 3, none⟩) hz5).trans (hc5 3 _ rfl)
            have hz6 : w4.heap.size < w6.heap.size := Nat.lt_of_lt_of_le hz5 hb6.size
            have HB6 := Lib.hid (HB5.out.trans (hb6.mono HB5.out.size))
            have HR6 := Lib.hid hr6
            clear hp6 hb6 hr6 hb5 hc5 f0 f1 f2
            rcases HR4.out with ⟨_, rfl, _⟩ | ⟨m, sm, hbst, hsm, hsr, rfl⟩
            · go_wp2
              go_ret
              exact ⟨rfl, HB6.out.alloc HB6.out.size _⟩
            · rcases HR6.out with ⟨hbst2, _⟩ | ⟨m2, sm2, hbst2, hsm2, hsr2, rfl⟩
              · exact absurd hbst2 (two_found HRISE.out (hi := x) (by omega) hsm hbst).1
              · obtain ⟨hoff, hid⟩ := (two_found HRISE.out (hi := x) (by omega) hsm hbst).2 m2 sm2 hbst2 hsm2
                obtain ⟨_, _, _, hcs, _⟩ := hsr
                obtain ⟨_, _, _, hcs', _⟩ := hsr2
                simp only [List.cons.injEq, Value.int.injEq, true_and] at hcs hcs'
                obtain ⟨rfl, rfl, rfl, rfl, rfl, rfl, _⟩ := hcs
                obtain ⟨rfl, rfl, rfl, rfl, rfl, rfl, _⟩ := hcs'
                have ho2 : (sm.offset : Int) ≤ (sm2.offset : Int) := by omega
                have hi2 : (sm.id : Int) ≤ (sm2.id : Int) := by omega
                clear hbst hbst2 hsm hsm2
                go_wp2
                go_ret
                exact ⟨rfl, HB6.out.alloc HB6.out.size _⟩
          · have hxyi : (y : Int) < (x : Int) := by omega
            go_wp2_with fail
            refine (at_calls _ t y _ HTR.out HF.out).mono ?_
            rintro e w4 hp4
            obtain ⟨hb4, l4, er4, rfl, hr4⟩ := hp4.res HTR.out
            obtain ⟨i0, i1, i2, i3, i4, i5, ad4, n4, c4, rfl⟩ := hr4.shape
            have f0 := (hb4.cell (p := ⟨w.heap.size, 0, none⟩) hwr).trans y0
            have f1 := (hb4.cell (p := ⟨w.heap.size, 1, none⟩) hwr).trans y1
            have f2 := (hb4.cell (p := ⟨w.heap.size, 2, none⟩) hwr).trans y2
            have hz4 : w.heap.size < w4.heap.size := Nat.lt_of_lt_of_le hwr hb4.size
            have HR4 := Lib.hid hr4
            have hb5 : Below wr.heap.size wr (w4.alloc (.cells #[Value.int .u64 i0, Value.int .u64 i1, Value.int .u64 i2, Value.int .u64 i3, Value.int .u64 i4, Value.int .u32 i5, Value.slice ad4 n4 c4] 32)) := hb4.alloc hb4.size _
            have hc5 : ∀ (i : Nat) (v : Value), (#[Value.int .u64 i0, Value.int .u64 i1, Value.int .u64 i2, Value.int .u64 i3, Value.int .u64 i4, Value.int .u32 i5, Value.slice ad4 n4 c4] : Array Value)[i]? = some v → (w4.alloc (.cells #[Value.int .u64 i0, Value.int .u64 i1, Value.int .u64 i2, Value.int .u64 i3, Value.int .u64 i4, Value.int .u32 i5, Value.slice ad4 n4 c4] 32)).cell? ⟨w4.heap.size, i, none⟩ = some v := fun i v h => by rw [World.cell?_alloc_new]; exact h
            have hz5 : w4.heap.size < (w4.alloc (.cells #[Value.int .u64 i0, Value.int .u64 i1, Value.int .u64 i2, Value.int .u64 i3, Value.int .u64 i4, Value.int .u32 i5, Value.slice ad4 n4 c4] 32)).heap.size := by simp
            clear hp4 hb4 hr4 y0 y1 y2
            go_wp2_with fail
            generalize w4.alloc (.cells #[Value.int .u64 i0, Value.int .u64 i1, Value.int .u64 i2, Value.int .u64 i3, Value.int .u64 i4, Value.int .u32 i5, Value.slice ad4 n4 c4] 32) = W5 at *
            have HT5 := Lib.hid (TableR.stable _ _ _ _ hb5 HTR.out)
            have HB5 := Lib.hid (HBW.out.trans (hb5.mono (Nat.le_of_lt hwr)))
            refine (at_calls _ t x _ HT5.out HF.out).mono ?_
            rintro e w6 hp6
            obtain ⟨hb6, l6, er6, rfl, hr6⟩ := hp6.res HT5.out
            obtain ⟨j0, j1, j2, j3, j4, j5, ad6, n6, c6, rfl⟩ := hr6.shape
            have q0 := (hb6.cell (p := ⟨w4.heap.size, 0, none⟩) hz5).trans (hc5 0 _ rfl)
            have q3 := (hb6.cell (p := ⟨w4.heap.size, 3, none⟩) hz5).trans (hc5 3 _ rfl)
            have hz6 : w4.heap.size < w6.heap.size := Nat.lt_of_lt_of_le hz5 hb6.size
            have HB6 := Lib.hid (HB5.out.trans (hb6.mono HB5.out.size))
            have HR6 := Lib.hid hr6
            clear hp6 hb6 hr6 hb5 hc5 f0 f1 f2
            rcases HR4.out with ⟨_, rfl, _⟩ | ⟨m, sm, hbst, hsm, hsr, rfl⟩
            · go_wp2
              go_ret
              exact ⟨rfl, HB6.out.alloc HB6.out.size _⟩
            · rcases HR6.out with ⟨hbst2, _⟩ | ⟨m2, sm2, hbst2, hsm2, hsr2, rfl⟩
              · exact absurd hbst2 (two_found HRISE.out (hi := x) (by omega) hsm hbst).1
              · obtain ⟨hoff, hid⟩ := (two_found HRISE.out (hi := x) (by omega) hsm hbst).2 m2 sm2 hbst2 hsm2
                obtain ⟨_, _, _, hcs, _⟩ := hsr
                obtain ⟨_, _, _, hcs', _⟩ := hsr2
                simp only [List.cons.injEq, Value.int.injEq, true_and] at hcs hcs'
                obtain ⟨rfl, rfl, rfl, rfl, rfl, rfl, _⟩ := hcs
                obtain ⟨rfl, rfl, rfl, rfl, rfl, rfl, _⟩ := hcs'
                have ho2 : (sm.offset : Int) ≤ (sm2.offset : Int) := by omega
                have hi2 : (sm.id : Int) ≤ (sm2.id : Int) := by omega
                clear hbst hbst2 hsm hsm2
                go_wp2
                go_ret
                exact ⟨rfl, HB6.out.alloc HB6.out.size _⟩
end Go.Proofs.Ytlcolgibabibdaa
