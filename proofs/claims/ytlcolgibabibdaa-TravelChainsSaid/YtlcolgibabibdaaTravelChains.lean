/- travel: TravelChains. -/
import Derived.Test.YtlcolgibabibdaaRes
import Derived.Test.YtlcolgibabibdaaChain18
import Derived.BigRegion
import Derived.Deep.RegionHeld3
namespace Go.Proofs.Ytlcolgibabibdaa
open Go.RowKit Go.Deep
set_option linter.unusedVariables false

theorem desc_at {l : List Nat} (h : l.Pairwise (fun a b => b < a)) {k x y : Nat} (hx : l[k]? = some x) (hy : l[k + 1]? = some y) : y < x := by
  have hk : k + 1 < l.length := by
    rcases Nat.lt_or_ge (k + 1) l.length with h | h
    · exact h
    · rw [List.getElem?_eq_none h] at hy; cases hy
  have := List.pairwise_iff_getElem.1 h k (k + 1) (by omega) hk (by omega)
  rw [List.getElem?_eq_getElem (by omega)] at hx
  rw [List.getElem?_eq_getElem hk] at hy
  cases hx; cases hy; exact this

set_option maxRecDepth 100000 in
set_option maxHeartbeats 10000000 in
theorem travelChains (cs : List Value) (t : TableD) (id low high : Nat) (w : World) (h : TableR w cs t) (hid64 : id < 2 ^ 64) (hlo64 : low < 2 ^ 64) (hhi64 : high < 2 ^ 64) :
    Calls Try.prog 4 #[.agg cs.toArray, .int .u64 (id : Int), .int .u64 (low : Int), .int .u64 (high : Int)] w (TruthPost w) := by
  obtain ⟨i0, hi0, hz0, hzz1, hzz2⟩ := info_parts infoU64
  have HI := Lib.hid hi0
  have HZ0 := Lib.hid hz0
  have HZ1 := Lib.hid hzz1
  have HZ2 := Lib.hid hzz2
  have HID := Lib.hid hid64
  clear hi0 hz0 hzz1 hzz2 hid64 hlo64 hhi64
  have HT := Lib.hid h
  obtain ⟨a', n', c', a, n, c, rfl, _, _, _, _, h4, h5, h6, hs, _⟩ := h
  have HS := Lib.hid hs
  have HLEN := Lib.hid hs.1
  clear hs h6
  go_enter Try.func4, Try.ntmps4
  go_wp2_with fail
  refine (alive_calls _).mono ?_
  rintro e w1 ⟨rfl, hb1⟩
  have c0 := (hb1.cell (p := ⟨w.heap.size, 0, none⟩) (by simp)).trans (by rw [World.cell?_alloc_new])
  have c1 := (hb1.cell (p := ⟨w.heap.size, 1, none⟩) (by simp)).trans (by rw [World.cell?_alloc_new])
  have c2 := (hb1.cell (p := ⟨w.heap.size, 2, none⟩) (by simp)).trans (by rw [World.cell?_alloc_new])
  have hz1 : w.heap.size < w1.heap.size := by have := hb1.size; simp at this; omega
  have hbb1 : Below w.heap.size w w1 := ((Below.refl _ _).alloc (Nat.le_refl _) _).trans (hb1.mono (by simp))
  have HB1 := Lib.hid hbb1
  have HT1 := Lib.hid (TableR.stable _ _ _ _ hbb1 HT.out)
  clear hb1 hbb1
  go_wp2_with fail
  refine (great14 _ t _ HT1.out).mono ?_
  rintro e w2 ⟨b, rfl, hb2, hfine⟩
  have HB2 := Lib.hid (HB1.out.trans (hb2.mono (by omega)))
  cases b with
  | true =>
    go_wp2
    go_ret
    exact ⟨rfl, HB2.out⟩
  | false =>
    have hf := hfine rfl
    have hl := hf.2.1
    have HF := Lib.hid hf
    have d0 := (hb2.cell (p := ⟨w.heap.size, 0, none⟩) (by show w.heap.size < _; omega)).trans c0
    have d1 := (hb2.cell (p := ⟨w.heap.size, 1, none⟩) (by show w.heap.size < _; omega)).trans c1
    have d2 := (hb2.cell (p := ⟨w.heap.size, 2, none⟩) (by show w.heap.size < _; omega)).trans c2
    have HT2 := Lib.hid (TableR.stable _ _ _ _ hb2 HT1.out)
    have hz2 : w.heap.size < w2.heap.size := by have := hb2.size; omega
    have hn : n ≤ 100 := by have := HLEN.out; omega
    have HL := Lib.hid hl
    clear c0 c1 c2 hb2 hfine hf hl
    go_wp2_with fail
    go_loopw [9, 10] (fun v i wr => ∃ k : Nat, k ≤ n ∧ i = .int .i64 k ∧ wr.ownsRow w2.heap.size 24 1 v (between low high (t.snaps.take k)).length (natsV .u64 (between low high (t.snaps.take k))) ∧ Below w2.heap.size w2 wr) (fun _ i _ => n - (intOf i).toNat)
    case atStart => exact ⟨0, Nat.zero_le _, rfl, World.ownsRow_nil _ _ _ _, Below.refl _ _⟩
    case round =>
      obtain ⟨k, hk, rfl, hown, hb⟩ := hrel
      have HO := Lib.hid hown
      have HB := Lib.hid hb
      have q0 := (hb.cell (p := ⟨w.heap.size, 0, none⟩) (hz2)).trans d0
      have q1 := (hb.cell (p := ⟨w.heap.size, 1, none⟩) (hz2)).trans d1
      have q2 := (hb.cell (p := ⟨w.heap.size, 2, none⟩) (hz2)).trans d2
      have HBB := Lib.hid (HB2.out.trans (hb.mono (by omega)))
      have hzr := hb.size
      clear hown hb d0 d1 d2
      by_cases hlt : k < n
      · obtain ⟨b, off, s, cs, rfl, hbl, hx, hcl, hr, hcell⟩ := HS.out.at_ hlt
        obtain ⟨a2, n2, c2, rfl, hr2⟩ := hr
        have g0 := (HBB.out.cell (p := ⟨b, off + k * 7 + 0, none⟩) hbl).trans (hcell 0 _ rfl)
        have g3 := (HBB.out.cell (p := ⟨b, off + k * 7 + 3, none⟩) hbl).trans (hcell 3 _ rfl)
        rw [Nat.add_zero] at g0
        have hsn := between_snoc low high t.snaps k s hx
        have hbl2 := between_len low high (t.snaps.take k)
        have hbl3 : (t.snaps.take k).length ≤ k := List.length_take_le _ _
        generalize between low high (t.snaps.take k) = acc at *
        have HSN := Lib.hid hsn
        clear hcell hr2 hsn hx
        by_cases h1 : low < s.offset
        · by_cases h2 : s.offset ≤ high
          · have h63 : acc.length + 1 ≤ maxLen := by unfold maxLen; omega
            have hby : (acc.length + 1) * 8 ≤ 140737488355328 := by omega
            have hbase := Nat.le_trans HB.out.size (Nat.le_of_lt (show wr.heap.size < (wr.alloc (.cells #[Value.int .u64 s.id] 24)).heap.size by simp))
            go_wp2_with (at_builtin; refine wpList_append_lies _ rfl _ _ _ rfl w2.heap.size 24 i0 (.int .u64 0) 1 8 Try.underlying39 HI.out HZ0.out HZ1.out HZ2.out rfl (by decide) _ _ _ rfl (HO.out.alloc _) ⟨wr.heap.size, 0, none⟩ 1 1 [.int .u64 s.id] rfl rfl (by have := cell_one_new wr (.int .u64 s.id) 24; simpa using this) (by simp [Value.oneCell']) (by decide) h63 hby hbase _ rfl ?_; intro g cap w1 hown1 hgrow hat hglt; have hb1 := Lib.hid (below_append HO.out HB.out hgrow); have ho1 := Lib.hid hown1; clear hown1 hgrow hat)
            go_roundw
            case rel =>
              refine ⟨k + 1, by omega, by go_num, ?_, hb1.out⟩
              rw [HSN.out, if_pos ⟨h1, h2⟩, ← natsV_snoc, List.length_append]
              exact ho1.out
            case measure => simp [intOf] <;> omega
          · go_wp2
            go_roundw
            case rel =>
              refine ⟨k + 1, by omega, by go_num, ?_, HB.out⟩
              rw [HSN.out, if_neg (by omega), List.append_nil]
              exact HO.out
            case measure => simp [intOf] <;> omega
        · go_wp2
          go_roundw
          case rel =>
            refine ⟨k + 1, by omega, by go_num, ?_, HB.out⟩
            rw [HSN.out, if_neg (by omega), List.append_nil]
            exact HO.out
          case measure => simp [intOf] <;> omega
      · have hkn : t.snaps.take k = t.snaps := List.take_of_length_le (by have := HLEN.out; omega)
        rw [hkn] at HO
        obtain ⟨adw, cpw, rfl, hcw1, hcw2, hcw3⟩ := own_slice HO.out
        have HTR := Lib.hid (TableR.stable _ _ _ _ HB.out HT2.out)
        have hzr2 : w.heap.size < wr.heap.size := by omega
        go_wp2_with fail
        refine (chain_calls _ t id _ HTR.out HL.out).mono ?_
        rintro e w5 ⟨v5, rfl, hown5, hb5⟩
        obtain ⟨ad5, cp5, rfl, hcl1, hcl2, hcl3⟩ := own_slice hown5
        have r0 := (hb5.cell (p := ⟨w.heap.size, 0, none⟩) (hzr2)).trans q0
        have r1 := (hb5.cell (p := ⟨w.heap.size, 1, none⟩) (hzr2)).trans q1
        have r2 := (hb5.cell (p := ⟨w.heap.size, 2, none⟩) (hzr2)).trans q2
        have HT5 := Lib.hid (TableR.stable _ _ _ _ hb5 HTR.out)
        have HB5 := Lib.hid (HBB.out.trans (hb5.mono (by omega)))
        have HW5 := Lib.hid (ownsRow_below HO.out hb5)
        have hz5 : w.heap.size < w5.heap.size := by have := hb5.size; omega
        have hcf := chain_facts t.snaps id
        have hcn := chain_len t.snaps id
        have HCD := Lib.hid hcf.1
        have HSL := Lib.hid (sl_of_own_nats hown5)
        have hch : (chain t.snaps id).length ≤ 100 := by have := HL.out; omega
        generalize hch5 : chain t.snaps id = ch at *
        have HCH := Lib.hid hch5
        clear hb5 q0 q1 q2 hown5 hcf hch5 hcn
        go_wp2_with fail
        go_loopw [12] (fun i wz => ∃ k : Nat, 1 ≤ k ∧ (k ≤ ch.length ∨ k = 1) ∧ i = .int .i64 k ∧ ∃ q, wz = w5.drewN q) (fun i _ => ch.length - (intOf i).toNat)
        case atStart => exact ⟨1, Nat.le_refl _, .inr rfl, rfl, 0, rfl⟩
        case round =>
          obtain ⟨j, hj1, hj2, rfl, q, rfl⟩ := hrel
          by_cases hjl : j < ch.length
          · obtain ⟨bx, ox, x, vx, hax, hbx, hxx, hrx, hcx⟩ := HSL.out.at1 (i := j - 1) (by omega)
            obtain ⟨by_, oy, y, vy, hay, hby, hyy, hry, hcy⟩ := HSL.out.at1 (i := j) (by omega)
            rw [hax] at hay
            cases hay
            subst hax
            cases hrx
            cases hry
            have hlt2 := desc_at HCD.out hxx (by rw [show j - 1 + 1 = j by omega]; exact hyy)
            obtain ⟨jj, rfl⟩ : ∃ jj, j = jj + 1 := ⟨j - 1, by omega⟩
            rw [show jj + 1 - 1 = jj by omega] at hcx
            have hge : (decide ((x : Int) ≤ (y : Int))) = false := by simp; omega
            have hj0 : (0 : Int) ≤ (jj : Int) := by omega
            have hj3 : (jj : Int) < (ch.length : Int) := by omega
            clear hxx hyy
            go_wp2_with fail
            go_quiet (fail)
            go_wp2
            go_roundw
            case rel => exact ⟨jj + 2, by omega, .inl (by omega), by go_num, _, rfl⟩
            case measure => simp [intOf] <;> omega
          · go_wp2_with fail
            refine (refChain id _ t _ (TableR.stable _ _ _ _ (below_drewN (Below.refl _ _) q) HT5.out) HL.out HID.out).mono ?_
            rintro e w6 ⟨v6, rfl, hown6, hb6⟩
            rw [HCH.out] at hown6
            obtain ⟨ad6, cp6, rfl, hc61, hc62, hc63⟩ := own_slice hown6
            have hb56 : Below w5.heap.size w5 w6 := (below_drewN (Below.refl _ _) q).trans hb6
            have HSL6 := Lib.hid (HSL.out.below NatR.stable hb56)
            have HSM6 := Lib.hid (sl_of_own_nats hown6)
            have HT6 := Lib.hid (TableR.stable _ _ _ _ hb56 HT5.out)
            have HB6 := Lib.hid (HB5.out.trans (hb56.mono (by omega)))
            have HW6 := Lib.hid (ownsRow_below HW5.out hb56)
            have s0 := (hb56.cell (p := ⟨w.heap.size, 0, none⟩) (hz5)).trans r0
            have s1 := (hb56.cell (p := ⟨w.heap.size, 1, none⟩) (hz5)).trans r1
            have s2 := (hb56.cell (p := ⟨w.heap.size, 2, none⟩) (hz5)).trans r2
            have hz6 : w.heap.size < w6.heap.size := by have := hb56.size; omega
            clear hb6 hb56 r0 r1 r2 hown6
            go_wp2_with fail
            refine (ids_calls _ _ _ _ _ _ ch ch _ HSL6.out HSM6.out (by omega) (by omega)).mono ?_
            rintro e w7 ⟨rfl, q2, rfl⟩
            rw [show decide (ch = ch) = true by simp]
            go_wp2_with fail
            refine (between_calls _ t low high _ (TableR.stable _ _ _ _ (below_drewN (Below.refl _ _) q2) HT6.out) HL.out).mono ?_
            rintro e w8 ⟨v8, rfl, hown8, hb8⟩
            obtain ⟨ad8, cp8, rfl, hc81, hc82, hc83⟩ := own_slice hown8
            have hb68 : Below w6.heap.size w6 w8 := (below_drewN (Below.refl _ _) q2).trans hb8
            have HSW8 := Lib.hid (sl_of_own_nats (ownsRow_below HW6.out hb68))
            have HSM8 := Lib.hid (sl_of_own_nats hown8)
            have HB8 := Lib.hid (HB6.out.trans (hb68.mono (by omega)))
            clear hb8 hb68 hown8
            go_wp2_with fail
            refine (ids_calls _ _ _ _ _ _ _ _ _ HSM8.out HSW8.out (by omega) (by omega)).mono ?_
            rintro e w9 ⟨rfl, q3, rfl⟩
            rw [show decide (between low high t.snaps = between low high t.snaps) = true by simp]
            go_wp2
            go_ret
            exact ⟨rfl, below_drewN HB8.out q3⟩
end Go.Proofs.Ytlcolgibabibdaa
