/- travel: TravelAll. -/
import Derived.Test.YtlcolgibabibdaaAlive18
import Derived.Test.YtlcolgibabibdaaGreat14
import Derived.BigRegion
import Derived.Deep.RegionHeld3
import Derived.Deep.DeepCutAuto
namespace Go.Proofs.Ytlcolgibabibdaa
open Go.RowKit Go.Deep
set_option linter.unusedVariables false

def TruthPost (w : World) (e : Ending) (w' : World) : Prop := e = .returned (.bool true) ∧ Below w.heap.size w w'
def positive (l : List SnapD) : Nat := (l.filter fun s => decide (0 < s.offset)).length
theorem positive_snoc (l : List SnapD) (k : Nat) (s : SnapD) (h : l[k]? = some s) : positive (l.take (k + 1)) = positive (l.take k) + if 0 < s.offset then 1 else 0 := by
  rw [List.take_add_one, h]
  by_cases hs : 0 < s.offset <;> simp [positive, hs]
theorem positive_le (l : List SnapD) : positive l ≤ l.length := List.length_filter_le _ _
theorem between_all (l : List SnapD) (h : ∀ s ∈ l, s.offset < 2 ^ 64) : (between 0 18446744073709551615 l).length = positive l := by
  rw [between, List.length_map, positive]
  congr 1
  apply List.filter_congr
  intro s hs
  have := h s hs
  simp; omega
theorem between_split (l : List SnapD) (at_ : Nat) (h : ∀ s ∈ l, s.offset < 2 ^ 64) (ha : at_ < 2 ^ 64) : (between 0 at_ l).length + (between at_ 18446744073709551615 l).length = (between 0 18446744073709551615 l).length := by
  induction l with
  | nil => rfl
  | cons s l ih =>
    have := h s (List.mem_cons_self)
    have ih := ih fun x hx => h x (List.mem_cons_of_mem _ hx)
    simp only [between, List.length_map] at ih ⊢
    by_cases h0 : 0 < s.offset <;> by_cases h1 : s.offset ≤ at_
    · simp [List.filter_cons, h0, h1, show ¬ at_ < s.offset by omega, show s.offset ≤ 18446744073709551615 by omega]; omega
    · simp [List.filter_cons, h0, h1, show at_ < s.offset by omega, show s.offset ≤ 18446744073709551615 by omega]; omega
    · simp [List.filter_cons, h0, show ¬ at_ < s.offset by omega]; omega
    · exfalso; omega
theorem between_none (l : List SnapD) (a : Nat) : between a a l = [] := by
  rw [between, List.filter_eq_nil_iff.mpr, List.map_nil]
  intro s _
  simp
theorem SnapR.offset_lt {w : World} {cs : List Value} {s : SnapD} (h : SnapR w cs s) : s.offset < 2 ^ 64 := by
  obtain ⟨a, n, c, _, _, _, _, _, _, _, _, ho, _⟩ := h; exact ho
theorem Sl.offsets {w : World} {a : Option Addr} {n : Nat} {xs : List SnapD} (h : Sl 7 SnapR w a n xs) : ∀ s ∈ xs, s.offset < 2 ^ 64 :=
  all_of_index h.1 fun j x hj hx => by
    obtain ⟨b, off, y, cs, _, _, hy, _, hr, _⟩ := h.at_ hj
    rw [hx] at hy; cases hy
    exact hr.offset_lt

set_option maxRecDepth 100000 in
set_option maxHeartbeats 10000000 in
theorem travelAll (cs : List Value) (t : TableD) (at_ : Nat) (w : World) (h : TableR w cs t) (hat : at_ < 2 ^ 64) :
    Calls Try.prog 7 #[.agg cs.toArray, .int .u64 (at_ : Int)] w (TruthPost w) := by
  have HT := Lib.hid h
  obtain ⟨a', n', c', a, n, c, rfl, _, _, _, _, h4, h5, h6, hs, _⟩ := h
  have HS := Lib.hid hs
  have HLEN := Lib.hid hs.1
  clear hs h6
  go_enter Try.func7, Try.ntmps7
  go_wp2_with fail
  refine (alive_calls _).mono ?_
  rintro e w1 ⟨rfl, hb1⟩
  have c0 := (hb1.cell (p := ⟨w.heap.size, 0, none⟩) (by simp)).trans (by rw [World.cell?_alloc_new])
  have c1 := (hb1.cell (p := ⟨w.heap.size, 1, none⟩) (by simp)).trans (by rw [World.cell?_alloc_new])
  have c2 := (hb1.cell (p := ⟨w.heap.size, 2, none⟩) (by simp)).trans (by rw [World.cell?_alloc_new])
  have hz1 : w.heap.size < w1.heap.size := by have := hb1.size; simp at this; omega
  have hbb1 : Below w.heap.size w w1 := ((Below.refl _ _).alloc (Nat.le_refl _) _).trans (hb1.mono (by simp))
  have HB1 := Lib.hid hbb1
  have HT1 := Lib.hid (TableR.stable _ _ _ _ hbb1 HT.out)
  clear hb1 hbb1
  go_wp2_with fail
  refine (great14 _ t _ HT1.out).mono ?_
  rintro e w2 ⟨b, rfl, hb2, hfine⟩
  have HB2 := Lib.hid (HB1.out.trans (hb2.mono (by omega)))
  cases b with
  | true =>
    go_wp2
    go_ret
    exact ⟨rfl, HB2.out⟩
  | false =>
    have hf := hfine rfl
    have hl := hf.2.1
    have HF := Lib.hid hf
    have d0 := (hb2.cell (p := ⟨w.heap.size, 0, none⟩) (by show w.heap.size < _; omega)).trans c0
    have d1 := (hb2.cell (p := ⟨w.heap.size, 1, none⟩) (by show w.heap.size < _; omega)).trans c1
    have d2 := (hb2.cell (p := ⟨w.heap.size, 2, none⟩) (by show w.heap.size < _; omega)).trans c2
    have HT2 := Lib.hid (TableR.stable _ _ _ _ hb2 HT1.out)
    have hz2 : w.heap.size < w2.heap.size := by have := hb2.size; omega
    have hn : n ≤ 100 := by have := HLEN.out; omega
    have HL := Lib.hid hl
    clear c0 c1 c2 hb2 hfine hf hl
    go_wp2_with fail
    refine (between_calls _ t 0 18446744073709551615 _ HT2.out HL.out).mono ?_
    rintro e w3 ⟨v3, rfl, hown3, hb3⟩
    have hlen3 := (between_len 0 18446744073709551615 t.snaps)
    obtain ⟨ad3, cp3, rfl, hcp3, hcq3, _⟩ := own_slice hown3
    have e0 := (hb3.cell (p := ⟨w.heap.size, 0, none⟩) (by show w.heap.size < _; omega)).trans d0
    have e1 := (hb3.cell (p := ⟨w.heap.size, 1, none⟩) (by show w.heap.size < _; omega)).trans d1
    have e2 := (hb3.cell (p := ⟨w.heap.size, 2, none⟩) (by show w.heap.size < _; omega)).trans d2
    have HT3 := Lib.hid (TableR.stable _ _ _ _ hb3 HT2.out)
    have hz3 : w.heap.size < w3.heap.size := by have := hb3.size; omega
    have HB3 := Lib.hid (HB2.out.trans (hb3.mono (by omega)))
    clear d0 d1 d2 hown3 hb3
    have hspl := between_split t.snaps at_ HS.out.offsets hat
    have hall := between_all t.snaps HS.out.offsets
    have HSPL := Lib.hid hspl
    have HALL := Lib.hid hall
    clear hspl hall
    generalize hq3 : (between 0 18446744073709551615 t.snaps).length = q3 at *
    have HQ3 := Lib.hid hq3
    clear hq3
    go_upto_region 6 with fail
    go_cut [6, 7] (fun v u wx => ∃ a4 c4 a5 c5, v = .slice a4 (between 0 at_ t.snaps).length c4 ∧ u = .slice a5 (between at_ 18446744073709551615 t.snaps).length c5 ∧ Below w3.heap.size w3 wx)
    case first =>
      go_region_with (first
        | (go_at_call_of 17 (Value.int IntKind.u64 0); refine (between_calls _ t 0 at_ _ (TableR.stable _ _ _ _ (Below.refl _ _).drew HT3.out) HL.out).mono ?_; rintro e w4 ⟨v4, rfl, hown4, hb4⟩; obtain ⟨ad4, cp4, rfl, hcp4, hcq4, _⟩ := own_slice hown4; have f0 := (hb4.cell (p := ⟨w.heap.size, 0, none⟩) hz3).trans e0; have f1 := (hb4.cell (p := ⟨w.heap.size, 1, none⟩) hz3).trans e1; have f2 := (hb4.cell (p := ⟨w.heap.size, 2, none⟩) hz3).trans e2)
        | (go_at_call_of 17 (Value.int IntKind.u64 18446744073709551615); refine (between_calls _ t at_ 18446744073709551615 _ (TableR.stable _ _ _ _ ((Below.refl _ _).drew.trans hb4) HT3.out) HL.out).mono ?_; rintro e w5 ⟨v5, rfl, hown5, hb5⟩; obtain ⟨ad5, cp5, rfl, hcp5, hcq5, _⟩ := own_slice hown5))
      all_goals
        have hbm : Below w3.heap.size w3 w4 := (Below.refl _ _).drew.trans hb4
        have hbn : Below w3.heap.size w3 w5 := hbm.trans (hb5.mono hbm.size)
        go_wp2_with fail
        go_meet
        exact ⟨_, _, _, _, rfl, rfl, hbn⟩
    case rest =>
      obtain ⟨a4, c4, a5, c5, rfl, rfl, hbw⟩ := hcut
      have f0 := (hbw.cell (p := ⟨w.heap.size, 0, none⟩) hz3).trans e0
      have f1 := (hbw.cell (p := ⟨w.heap.size, 1, none⟩) hz3).trans e1
      have f2 := (hbw.cell (p := ⟨w.heap.size, 2, none⟩) hz3).trans e2
      have HTC := Lib.hid (TableR.stable _ _ _ _ hbw HT3.out)
      have HBC := Lib.hid (HB3.out.trans (hbw.mono (Nat.le_of_lt hz3)))
      have hzc : w.heap.size < wc.heap.size := by have := hbw.size; omega
      have hsp := HSPL.out
      have hpos := positive_le t.snaps
      have hq0 := HQ3.out
      have hln := HLEN.out
      have hal := HALL.out
      have hsq : (between 0 at_ t.snaps).length + (between at_ 18446744073709551615 t.snaps).length = q3 := by omega
      have hpp : positive t.snaps = q3 := by omega
      have HPP := Lib.hid hpp
      generalize hq4 : (between 0 at_ t.snaps).length = q4 at *
      generalize hq5 : (between at_ 18446744073709551615 t.snaps).length = q5 at *
      have hq3n : q3 ≤ 100 := by omega
      have hne : ((q4 : Int) + (q5 : Int) != (q3 : Int)) = false := by have : (q4 : Int) + (q5 : Int) = q3 := by omega
                                                                       rw [this]; simp
      clear hq4 hq5 hq0 hpp hsp hal
      go_wp2_with fail
      go_loopw [8, 9] (fun v i wr => ∃ k : Nat, k ≤ n ∧ i = .int .i64 k ∧ v = .int .i64 (positive (t.snaps.take k)) ∧ wr = wc) (fun _ i _ => n - (intOf i).toNat)
      case atStart => exact ⟨0, Nat.zero_le _, rfl, rfl, rfl⟩
      case round =>
        obtain ⟨k, hk, rfl, rfl, rfl⟩ := hrel
        by_cases hlt : k < n
        · obtain ⟨b, off, s, cs, rfl, hbl, hx, hcl, hr, hcell⟩ := HS.out.at_ hlt
          obtain ⟨a2, n2, c2, rfl, hr2⟩ := hr
          have g3 := (HBC.out.cell (p := ⟨b, off + k * 7 + 3, none⟩) hbl).trans (hcell 3 _ rfl)
          have hsn := positive_snoc t.snaps k s hx
          have hpk := positive_le (t.snaps.take k)
          have hpk2 : (t.snaps.take k).length ≤ k := List.length_take_le _ _
          generalize positive (t.snaps.take k) = acc at *
          have HSN := Lib.hid hsn
          clear hcell hr2 hsn hx
          by_cases h1 : 0 < s.offset
          · go_wp2
            go_roundw
            case rel =>
              refine ⟨k + 1, by omega, by go_num, ?_, trivial⟩
              rw [HSN.out, if_pos h1]
              go_num
            case measure => simp [intOf] <;> omega
          · go_wp2
            go_roundw
            case rel =>
              refine ⟨k + 1, by omega, by go_num, ?_, trivial⟩
              rw [HSN.out, if_neg h1]
              go_num
            case measure => simp [intOf] <;> omega
        · have hkn : t.snaps.take k = t.snaps := List.take_of_length_le (by have := HLEN.out; omega)
          rw [hkn, HPP.out]
          have hqq : ((q3 : Int) == (q3 : Int)) = true := by simp
          go_wp2_with fail
          refine (between_calls _ t at_ at_ _ HTC.out HL.out).mono ?_
          rintro e w9 ⟨v9, rfl, hown9, hb9⟩
          rw [between_none] at hown9
          obtain ⟨ad9, cp9, rfl, hcp9, hcq9, _⟩ := own_slice hown9
          have HB9 := Lib.hid hb9
          clear hown9 hb9
          go_wp2
          go_ret
          exact ⟨rfl, HBC.out.trans (HB9.out.mono (Nat.le_of_lt hzc))⟩
end Go.Proofs.Ytlcolgibabibdaa
