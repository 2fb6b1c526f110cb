/- travel: TravelOwn. -/
import Derived.Test.YtlcolgibabibdaaRes
import Derived.Test.YtlcolgibabibdaaTravel7
import Derived.BigRegion
import Derived.Deep.RegionHeld3
namespace Go.Proofs.Ytlcolgibabibdaa
open Go.RowKit Go.Deep
set_option linter.unusedVariables false

def other : ByteArray := ⟨#[111, 116, 104, 101, 114]⟩
theorem other_list : other.toList = [111, 116, 104, 101, 114] := by decide +kernel
theorem other_true {x : ByteArray} (h : x = other) : (x.toList == [111, 116, 104, 101, 114]) = true := by subst h; rw [other_list]; simp
theorem other_false {x : ByteArray} (h : x ≠ other) : (x.toList == [111, 116, 104, 101, 114]) = false := by rw [← other_list]; exact bytes_ne h

set_option maxRecDepth 100000 in
set_option maxHeartbeats 10000000 in
theorem travelOwn (cs : List Value) (t : TableD) (o : Nat) (w : World) (h : TableR w cs t) (ho64 : o < 2 ^ 64) :
    Calls Try.prog 6 #[.agg cs.toArray, .int .u64 (o : Int)] w (TruthPost w) := by
  have HT := Lib.hid h
  obtain ⟨a', n', c', a, n, c, rfl, _, _, _, _, h4, h5, h6, hs, _⟩ := h
  have HS := Lib.hid hs
  have HLEN := Lib.hid hs.1
  clear hs h6
  go_enter Try.func6, Try.ntmps6
  go_wp2_with fail
  refine (alive_calls _).mono ?_
  rintro e w1 ⟨rfl, hb1⟩
  have c0 := (hb1.cell (p := ⟨w.heap.size, 0, none⟩) (by simp)).trans (by rw [World.cell?_alloc_new])
  have c1 := (hb1.cell (p := ⟨w.heap.size, 1, none⟩) (by simp)).trans (by rw [World.cell?_alloc_new])
  have c2 := (hb1.cell (p := ⟨w.heap.size, 2, none⟩) (by simp)).trans (by rw [World.cell?_alloc_new])
  have hz1 : w.heap.size < w1.heap.size := by have := hb1.size; simp at this; omega
  have hbb1 : Below w.heap.size w w1 := ((Below.refl _ _).alloc (Nat.le_refl _) _).trans (hb1.mono (by simp))
  have HB1 := Lib.hid hbb1
  have HT1 := Lib.hid (TableR.stable _ _ _ _ hbb1 HT.out)
  clear hb1 hbb1
  go_wp2_with fail
  refine (great14 _ t _ HT1.out).mono ?_
  rintro e w2 ⟨b, rfl, hb2, hfine⟩
  have HB2 := Lib.hid (HB1.out.trans (hb2.mono (by omega)))
  cases b with
  | true =>
    go_wp2
    go_ret
    exact ⟨rfl, HB2.out⟩
  | false =>
    have hf := hfine rfl
    have hl := hf.2.1
    have HF := Lib.hid hf
    have d0 := (hb2.cell (p := ⟨w.heap.size, 0, none⟩) (by show w.heap.size < _; omega)).trans c0
    have d1 := (hb2.cell (p := ⟨w.heap.size, 1, none⟩) (by show w.heap.size < _; omega)).trans c1
    have d2 := (hb2.cell (p := ⟨w.heap.size, 2, none⟩) (by show w.heap.size < _; omega)).trans c2
    have HT2 := Lib.hid (TableR.stable _ _ _ _ hb2 HT1.out)
    have hz2 : w.heap.size < w2.heap.size := by have := hb2.size; omega
    have hn : n ≤ 100 := by have := HLEN.out; omega
    have HL := Lib.hid hl
    clear c0 c1 c2 hb2 hfine hf hl
    obtain ⟨r, hbest⟩ := Best.exists_ SnapD.offset o t.snaps t.snaps.length (Nat.le_refl _)
    have HBE := Lib.hid hbest
    rcases hbest with ⟨rfl, _⟩ | ⟨m, s, rfl, hm, hsx, _, _⟩
    · go_wp2_with fail
      refine (at_calls _ t o _ HT2.out HF.out).mono ?_
      rintro e w3 hp3
      obtain ⟨hb3, rfl⟩ := hp3.none_ HBE.out
      have e0 := (hb3.cell (p := ⟨w.heap.size, 0, none⟩) (hz2)).trans d0
      have e1 := (hb3.cell (p := ⟨w.heap.size, 1, none⟩) (hz2)).trans d1
      have e2 := (hb3.cell (p := ⟨w.heap.size, 2, none⟩) (hz2)).trans d2
      have HT3 := Lib.hid (TableR.stable _ _ _ _ hb3 HT2.out)
      have HB3 := Lib.hid (HB2.out.trans (hb3.mono (by omega)))
      have hz3 : w.heap.size < w3.heap.size := by have := hb3.size; omega
      clear hp3 hb3 d0 d1 d2
      go_wp2_with fail
      go_loopw [7] (fun i wr => i = .int .i64 0 ∧ wr = w3.alloc (.cells #[.int .u64 0, .int .u64 0, .int .u64 0, .int .u64 0, .int .u64 0, .int .u32 0, .slice none 0 0] 32)) (fun i _ => 0)
      case atStart => exact ⟨rfl, rfl⟩
      case round =>
        obtain ⟨rfl, rfl⟩ := hrel
        go_wp2_with fail
        refine (at_calls _ t o _ (TableR.stable _ _ _ _ ((Below.refl _ _).alloc (Nat.le_refl _) _) HT3.out) HF.out).mono ?_
        rintro e w4 hp4
        have hb4 : Below w3.heap.size w3 w4 := ((Below.refl _ _).alloc (Nat.le_refl _) _).trans (hp4.1.mono (by simp))
        obtain ⟨hbb4, rfl⟩ := hp4.none_ HBE.out
        have f0 := (hb4.cell (p := ⟨w.heap.size, 0, none⟩) (hz3)).trans e0
        have f1 := (hb4.cell (p := ⟨w.heap.size, 1, none⟩) (hz3)).trans e1
        have f2 := (hb4.cell (p := ⟨w.heap.size, 2, none⟩) (hz3)).trans e2
        have HT4 := Lib.hid (TableR.stable _ _ _ _ hb4 HT3.out)
        have HB4 := Lib.hid (HB3.out.trans (hb4.mono (by omega)))
        have hz4 : w.heap.size < w4.heap.size := by have := hb4.size; omega
        clear hp4 hb4 hbb4 e0 e1 e2
        go_wp2_with fail
        refine (refAt _ t o false _ (TableR.stable _ _ _ _ ((Below.refl _ _).alloc (Nat.le_refl _) _) HT4.out) HF.out).mono ?_
        rintro e w5 ⟨x5, rfl, hx5, hb5⟩
        obtain rfl : x5 = -1 := hx5.unique HBE.out
        have HB5 := Lib.hid (((HB4.out.alloc HB4.out.size _).trans (hb5.mono (by simp; omega)) : Below w.heap.size w w5))
        clear hx5 hb5
        go_wp2
        go_ret
        exact ⟨rfl, HB5.out⟩
    · have HSX := Lib.hid hsx
      have hbnd := HS.out.snap_bounds hsx
      have HBN := Lib.hid hbnd
      clear hbnd hsx hm
      go_wp2_with fail
      refine (at_calls _ t o _ HT2.out HF.out).mono ?_
      rintro e w3 hp3
      obtain ⟨hb3, v3, hown3, rfl⟩ := hp3.at_ HBE.out HSX.out
      obtain ⟨ad3, cp3, rfl, hq1, hq2, hq3⟩ := own_slice hown3
      have HO3 := Lib.hid hown3
      have HB3 := Lib.hid hb3
      have hz3 : w2.heap.size ≤ w3.heap.size := hb3.size
      clear hp3 hb3 hown3
      go_wp2_with fail
      generalize hL : s.mans.length = L at *
      have HLL := Lib.hid hL
      have hL50 : L ≤ 50 := by rw [← hL]; exact (HF.out.2.2.2 s (List.mem_of_getElem? HSX.out)).1
      clear hL
      go_loopw [7] (fun i wr => ∃ k : Nat, k ≤ L ∧ i = .int .i64 k ∧ (∃ vs, wr.ownsRow w2.heap.size 9 1 (.slice ad3 L cp3) L vs) ∧ Below w2.heap.size w2 wr ∧ wr.cell? ⟨w3.heap.size, 6, none⟩ = some (.slice ad3 L cp3) ∧ w3.heap.size < wr.heap.size) (fun i _ => L - (intOf i).toNat)
      case atStart => exact ⟨0, Nat.zero_le _, rfl, ⟨_, HO3.out.alloc _⟩, HB3.out.alloc HB3.out.size _, (by rw [World.cell?_alloc_new]; rfl), by simp⟩
      case round =>
        obtain ⟨k, hk, rfl, ⟨vs, hown⟩, hb, q6, hzr⟩ := hrel
        have HB := Lib.hid hb
        clear hb
        by_cases hlt : k < L
        · obtain ⟨g, cp, hge, hg1, hg2⟩ := HO3.out.form (by omega)
          cases hge
          have hst := hown.stored k (.string other)
          have hfz := hown.frozenAt k
          have hck := hown.cellAt k (by omega)
          have hvk : vs[k]? = some (vs[k]'(by have := hown.1; omega)) := List.getElem?_eq_getElem _
          rw [hvk] at hck
          generalize (vs[k]'(by have := hown.1; omega)) = vk at *
          have hst1 := HB.out.setCell (p := ⟨g, k, none⟩) hg1 (.string other)
          have hc6 : (wr.setCell ⟨g, k, none⟩ (.string other)).cell? ⟨w3.heap.size, 6, none⟩ = some (.slice (some ⟨g, 0, none⟩) L cp3) := by rw [World.cell?_setCell_far _ _ _ _ (by show g ≠ w3.heap.size; omega)]; exact q6
          have HST := Lib.hid hst.1
          have HST1 := Lib.hid hst1
          have HC6 := Lib.hid hc6
          have hk0 : (0 : Int) ≤ (k : Int) := by omega
          have hk1 : (k : Int) < (L : Int) := by omega
          clear hst hst1 hown hvk hc6
          go_wp2
          go_roundw
          case rel => exact ⟨k + 1, by omega, by go_num, ⟨_, HST.out⟩, HST1.out, HC6.out, by simp; omega⟩
          case measure => simp [intOf] <;> omega
        · clear hown
          have HTR := Lib.hid (TableR.stable _ _ _ _ HB.out HT2.out)
          have hz2r := HB.out.size
          have q0 := (HB.out.cell (p := ⟨w.heap.size, 0, none⟩) (hz2)).trans d0
          have q1 := (HB.out.cell (p := ⟨w.heap.size, 1, none⟩) (hz2)).trans d1
          have q2 := (HB.out.cell (p := ⟨w.heap.size, 2, none⟩) (hz2)).trans d2
          clear d0 d1 d2
          go_wp2_with fail
          refine (at_calls _ t o _ HTR.out HF.out).mono ?_
          rintro e w5 hp5
          obtain ⟨hb5, v5, hown5, rfl⟩ := hp5.at_ HBE.out HSX.out
          rw [HLL.out] at hown5
          obtain ⟨ad5, cp5, rfl, hu1, hu2, hu3⟩ := own_slice hown5
          have HO5 := Lib.hid hown5
          have r6 := (hb5.cell (p := ⟨w3.heap.size, 6, none⟩) hzr).trans q6
          have hzr2 : w.heap.size < wr.heap.size := by omega
          have r0 := (hb5.cell (p := ⟨w.heap.size, 0, none⟩) (hzr2)).trans q0
          have r1 := (hb5.cell (p := ⟨w.heap.size, 1, none⟩) (hzr2)).trans q1
          have r2 := (hb5.cell (p := ⟨w.heap.size, 2, none⟩) (hzr2)).trans q2
          have HT5 := Lib.hid (TableR.stable _ _ _ _ hb5 HTR.out)
          have HB5 := Lib.hid ((HB2.out.trans (HB.out.mono (by omega))).trans (hb5.mono (by omega)))
          have hz5 : w.heap.size < w5.heap.size := by have := hb5.size; omega
          have hz5' : w3.heap.size < w5.heap.size := by have := hb5.size; omega
          clear hp5 hb5 q0 q1 q2 q6 hown5
          go_wp2_with fail
          refine (refAt _ t o false _ (TableR.stable _ _ _ _ ((Below.refl _ _).alloc (Nat.le_refl _) _) HT5.out) HF.out).mono ?_
          rintro e w6 ⟨x6, rfl, hx6, hb6⟩
          obtain rfl : x6 = (m : Int) := hx6.unique HBE.out
          have hb56 : Below w5.heap.size w5 w6 := ((Below.refl _ _).alloc (Nat.le_refl _) _).trans (hb6.mono (by simp))
          have s0 := (hb56.cell (p := ⟨w.heap.size, 0, none⟩) (hz5)).trans r0
          have s1 := (hb56.cell (p := ⟨w.heap.size, 1, none⟩) (hz5)).trans r1
          have s2 := (hb56.cell (p := ⟨w.heap.size, 2, none⟩) (hz5)).trans r2
          have u0 := (hb6.cell (p := ⟨w5.heap.size, 0, none⟩) (by simp)).trans (by rw [World.cell?_alloc_new])
          have u1 := (hb6.cell (p := ⟨w5.heap.size, 1, none⟩) (by simp)).trans (by rw [World.cell?_alloc_new])
          have u2 := (hb6.cell (p := ⟨w5.heap.size, 2, none⟩) (by simp)).trans (by rw [World.cell?_alloc_new])
          have u3 := (hb6.cell (p := ⟨w5.heap.size, 3, none⟩) (by simp)).trans (by rw [World.cell?_alloc_new])
          have u4 := (hb6.cell (p := ⟨w5.heap.size, 4, none⟩) (by simp)).trans (by rw [World.cell?_alloc_new])
          have u5 := (hb6.cell (p := ⟨w5.heap.size, 5, none⟩) (by simp)).trans (by rw [World.cell?_alloc_new])
          have u6 := (hb6.cell (p := ⟨w5.heap.size, 6, none⟩) (by simp)).trans (by rw [World.cell?_alloc_new])
          have s6 := (hb56.cell (p := ⟨w3.heap.size, 6, none⟩) hz5').trans r6
          have HT6 := Lib.hid (TableR.stable _ _ _ _ hb56 HT5.out)
          have HB6 := Lib.hid (HB5.out.trans (hb56.mono (by omega)))
          have hz6 : w5.heap.size < w6.heap.size := by have := hb6.size; simp at this; omega
          have HU := Lib.hid (⟨ad5, L, cp5, rfl, hu1, hu2, hu3, sl_of_own_strs (ownsRow_below HO5.out hb56) HBN.out.1, HBN.out.2.2⟩ : SnapR w6 [.int .u64 s.id, .int .u64 s.parent, .int .u64 s.seq, .int .u64 s.offset, .int .u64 s.time, .int .u32 s.schema, .slice ad5 L cp5] s)
          clear hx6 hb6 hb56 r0 r1 r2 r6
          have hmn : m < n := by
            rcases Nat.lt_or_ge m n with h | h
            · exact h
            · have := HSX.out; rw [List.getElem?_eq_none (by have := HLEN.out; omega)] at this; cases this
          obtain ⟨b, off, x, cs', rfl, hbl, hx, hcl, hr, hcell⟩ := HS.out.at_ hmn
          have := HSX.out.symm.trans hx
          cases this
          obtain ⟨a3, n3, c3, rfl, hr1, hr2, hr3, hsm, _⟩ := hr
          have g6 := (HB6.out.cell (p := ⟨b, off + m * 7 + 6, none⟩) hbl).trans (hcell 6 _ rfl)
          have HSM := Lib.hid (hsm.below StrR.stable HB6.out)
          have hn3 : n3 ≤ 50 := by have := hsm.1; have := HLL.out; omega
          have hm0 : (0 : Int) ≤ (m : Int) := by omega
          have hmi : (m : Int) < (n : Int) := by omega
          clear hcell hsm hx
          go_wp2_with fail
          go_loopw [11] (fun i wq => ∃ k : Nat, k ≤ n3 ∧ i = .int .i64 k ∧ wq = w6) (fun i _ => n3 - (intOf i).toNat)
          case atStart => exact ⟨0, Nat.zero_le _, rfl, rfl⟩
          case round =>
            obtain ⟨j, hj, rfl, rfl⟩ := hrel
            by_cases hlj : j < n3
            · obtain ⟨bx, ox, x, vx, rfl, hbx, hxx, hrx, hcx⟩ := HSM.out.at1 hlj
              obtain ⟨hvx, _⟩ := hrx
              cases hvx
              have hj0 : (0 : Int) ≤ (j : Int) := by omega
              have hj1 : (j : Int) < (n3 : Int) := by omega
              clear hxx
              by_cases hxo : x = other
              · have hxb := other_true hxo
                clear hxo
                go_wp2
                go_ret
                exact ⟨rfl, HB6.out⟩
              · have hxb := other_false hxo
                clear hxo
                go_wp2
                go_roundw
                case rel => exact ⟨j + 1, by omega, by go_num, trivial⟩
                case measure => simp [intOf] <;> omega
            · go_wp2_with fail
              refine (found_some _ _ t s m _ HT6.out HU.out HSX.out HL.out).mono ?_
              rintro e w7 ⟨rfl, hb7⟩
              have v6 := (hb7.cell (p := ⟨w3.heap.size, 6, none⟩) (by show w3.heap.size < _; omega)).trans s6
              have y6 := (hb7.cell (p := ⟨w5.heap.size, 6, none⟩) hz6).trans u6
              have HB7 := Lib.hid (HB6.out.trans (hb7.mono (by omega)))
              clear hb7
              go_wp2
              go_ret
              exact ⟨rfl, HB7.out⟩
end Go.Proofs.Ytlcolgibabibdaa
