/- The contracts of catchmentref13.Great, SameEntry and Same. -/
import Derived.Test.YtkofaoaglnjkgaaPlPm
import Derived.Test.YtkofaoaglnjkgaaBase
import Derived.BigRegion
import Derived.Deep.DeepCutAuto
namespace Go.Proofs.Ytkofaoaglnjkgaa
open Go.RowKit Go.Deep
set_option linter.unusedVariables false
set_option linter.unusedSimpArgs false

def EntriesFine (l : List EntryD) : Prop := l.length ≤ 200 ∧ ∀ x ∈ l, x.stats.length ≤ 50
def Great13Post (l : List EntryD) (w : World) (e : Ending) (w' : World) : Prop :=
  ∃ b, e = .returned (.bool b) ∧ w = w' ∧ (b = false → EntriesFine l)
set_option maxRecDepth 100000 in
set_option maxHeartbeats 4000000 in
theorem great13 (a : Option Addr) (n c : Nat) (l : List EntryD) (w : World) (h : Sl 6 EntryR w a n l) : Calls Try.prog 23 #[.slice a n c] w (Great13Post l w) := by
  have HS := Lib.hid h
  clear h
  by_cases h200 : 200 < n
  · go_enter Try.func23, Try.ntmps23
    go_wp2
    go_ret
    exact ⟨true, rfl, rfl, fun h => by cases h⟩
  have hni : (n : Int) ≤ 200 := by omega
  go_enter Try.func23, Try.ntmps23
  go_wp2
  go_loop [3] (fun i => ∃ k : Nat, k ≤ n ∧ i = .int .i64 k ∧ ∀ j x, j < k → l[j]? = some x → x.stats.length ≤ 50) (fun i => n - (intOf i).toNat)
  case atStart => exact ⟨0, Nat.zero_le _, rfl, fun j f h => absurd h (by omega)⟩
  case round =>
    obtain ⟨k, hk, rfl, hall⟩ := hrel
    have HA := Lib.hid hall
    clear hall
    have hki : (0 : Int) ≤ (k : Int) := by omega
    by_cases hlt : k < n
    · have hkn : (k : Int) < (n : Int) := by omega
      obtain ⟨b, off, x, cs, rfl, hbl, hx, hcl, hr, hcell⟩ := HS.out.at_ hlt
      obtain ⟨xa, xn, xc, rfl, hx1, hx2, _, hxs, hxo⟩ := hr
      have hxm := hxo.1
      unfold maxLen at hxm hx2
      have hxn : xn ≤ 9223372036854775807 := by omega
      simp only [EntryD.cells] at hcell
      have e0 := hcell 0 _ rfl
      have e5 := hcell 5 _ rfl
      rw [Nat.add_zero] at e0
      have HXS := Lib.hid hxs
      have HX := Lib.hid hx
      clear hcell hcl hxs hxo hx
      by_cases h500 : 500 < x.name.size
      · have h500i : (500 : Int) < (x.name.size : Int) := by omega
        go_wp2
        go_ret
        exact ⟨true, rfl, rfl, fun h => by cases h⟩
      · have h500i : (x.name.size : Int) ≤ 500 := by omega
        by_cases h50 : 50 < xn
        · have h50i : (50 : Int) < (xn : Int) := by omega
          go_wp2
          go_ret
          exact ⟨true, rfl, rfl, fun h => by cases h⟩
        · have h50i : (xn : Int) ≤ 50 := by omega
          have HXL := Lib.hid (show x.stats.length ≤ 50 by have := HXS.out.1; omega)
          go_wp2
          go_loop [4] (fun i => ∃ q : Nat, q ≤ xn ∧ i = .int .i64 q) (fun i => xn - (intOf i).toNat)
          case atStart => exact ⟨0, Nat.zero_le _, rfl⟩
          case round =>
            obtain ⟨q, hq, rfl⟩ := hrel
            have hqi : (0 : Int) ≤ (q : Int) := by omega
            by_cases hql : q < xn
            · have hqn : (q : Int) < (xn : Int) := by omega
              obtain ⟨b1, off1, st, sc, rfl, hbl1, hst, hscl, hsr, hsc⟩ := HXS.out.at_ hql
              obtain ⟨rfl, hok⟩ := hsr
              have hm1 := hok.2.2.1.1
              have hm2 := hok.2.2.2.1
              unfold maxLen at hm1 hm2
              have s6 := hsc 6 _ rfl
              have s9 := hsc 9 _ rfl
              clear hsc hscl hst hok
              by_cases hs1 : 500 < st.min.s.size
              · have hs1i : (500 : Int) < (st.min.s.size : Int) := by omega
                go_wp2
                go_ret
                exact ⟨true, rfl, rfl, fun h => by cases h⟩
              · have hs1i : (st.min.s.size : Int) ≤ 500 := by omega
                by_cases hs2 : 500 < st.max.s.size
                · have hs2i : (500 : Int) < (st.max.s.size : Int) := by omega
                  go_wp2
                  go_ret
                  exact ⟨true, rfl, rfl, fun h => by cases h⟩
                · have hs2i : (st.max.s.size : Int) ≤ 500 := by omega
                  go_wp2
                  go_round
                  case rel => exact ⟨q + 1, by omega, by go_num⟩
                  case measure => simp [intOf] <;> omega
            · have hqn : (xn : Int) ≤ (q : Int) := by omega
              go_wp2
              go_round
              case rel =>
                refine ⟨k + 1, by omega, by go_num, fun j y hj hy => ?_⟩
                by_cases hjk : j = k
                · subst hjk; have := HX.out; rw [hy] at this; cases this; exact HXL.out
                · exact HA.out j y (by omega) hy
              case measure => simp [intOf] <;> omega
    · have hkn : (n : Int) ≤ (k : Int) := by omega
      go_wp2
      go_ret
      refine ⟨false, rfl, rfl, fun _ => ⟨by have := HS.out.1; omega, fun x hx => ?_⟩⟩
      obtain ⟨j, hj, rfl⟩ := List.getElem_of_mem hx
      exact HA.out j _ (by have := HS.out.1; omega) (List.getElem?_eq_getElem hj)
set_option maxRecDepth 100000 in
set_option maxHeartbeats 4000000 in
theorem sameEntry (cx cy : List Value) (x : EntryD) (w : World) (hx : EntryR w cx x) (hy : EntryR w cy x) : Calls Try.prog 49 #[.agg cx.toArray, .agg cy.toArray] w (ValIs (.bool true) w) := by
  obtain ⟨xa, xn, xc, rfl, hx1, hx2, _, hxs, hxo⟩ := hx
  obtain ⟨ya, yn, yc, rfl, hy1, hy2, _, hys, hyo⟩ := hy
  simp only [EntryD.cells]
  obtain rfl : yn = xn := by have := hxs.1; have := hys.1; omega
  unfold maxLen at hx2 hy2
  have HX := Lib.hid hxs
  have HY := Lib.hid hys
  clear hxs hys hxo hyo
  go_enter Try.func49, Try.ntmps49
  go_wp2_with fail
  obtain ⟨W0, hWW⟩ : ∃ W0 : World, W0 = ((w.alloc (.cells #[.string x.name, .bool x.keys, .int .u64 (x.seq : Int), .int .i64 x.rows, .int .u32 (x.schema : Int), .slice xa yn xc] 52)).alloc (.cells #[.string x.name, .bool x.keys, .int .u64 (x.seq : Int), .int .i64 x.rows, .int .u32 (x.schema : Int), .slice ya yn yc] 52)) := ⟨_, rfl⟩
  have hm : Mem w.heap.size [#[.string x.name, .bool x.keys, .int .u64 (x.seq : Int), .int .i64 x.rows, .int .u32 (x.schema : Int), .slice xa yn xc], #[.string x.name, .bool x.keys, .int .u64 (x.seq : Int), .int .i64 x.rows, .int .u32 (x.schema : Int), .slice ya yn yc]] w W0 := by rw [hWW]; exact (((Mem.nil w).push (by simp) #[.string x.name, .bool x.keys, .int .u64 (x.seq : Int), .int .i64 x.rows, .int .u32 (x.schema : Int), .slice xa yn xc] 52).push (by simp) #[.string x.name, .bool x.keys, .int .u64 (x.seq : Int), .int .i64 x.rows, .int .u32 (x.schema : Int), .slice ya yn yc] 52)
  rw [← hWW]
  clear hWW
  have M0 := Lib.hid hm
  clear hm
  go_loopw [5] (fun i wr => ∃ k : Nat, k ≤ yn ∧ i = .int .i64 (k : Int) ∧ Below W0.heap.size W0 wr) (fun i _ => yn - (intOf i).toNat)
  case atStart => exact ⟨0, Nat.zero_le _, rfl, Below.refl _ _⟩
  case round =>
    obtain ⟨k, hk, rfl, hb⟩ := hrel
    have MR := Lib.hid (M0.out.call hb)
    have HB := Lib.hid hb
    clear hb
    have hki : (0 : Int) ≤ (k : Int) := by omega
    have q5 : wr.cell? ⟨w.heap.size, 5, none⟩ = some (.slice xa yn xc) := MR.out.cell 0 5 rfl rfl
    by_cases hlt : k < yn
    · have hkn : (k : Int) < (yn : Int) := by omega
      obtain ⟨b1, off1, s1, sc1, rfl, hbl1, hs1, hcl1, hsr1, hcell1⟩ := HX.out.at_ hlt
      obtain ⟨b2, off2, s2, sc2, rfl, hbl2, hs2, hcl2, hsr2, hcell2⟩ := HY.out.at_ hlt
      obtain rfl : s1 = s2 := by rw [hs1] at hs2; exact Option.some.inj hs2
      obtain ⟨rfl, _⟩ := hsr1
      obtain ⟨rfl, _⟩ := hsr2
      obtain ⟨r_, nl, sm, hi, ⟨lk, ln, ls⟩, ⟨mk, mn, ms⟩⟩ := s1
      simp only [StatD.cells] at hcell1 hcell2
      have p5 : wr.cell? ⟨w.heap.size + 1, 5, none⟩ = some (.slice (some ⟨b2, off2, none⟩) yn yc) := MR.out.cell 1 5 rfl rfl
      have kq5 := kept_cell q5
      have kp5 := kept_cell p5
      have u0 := ((M0.out.below.trans (HB.out.mono M0.out.below.size)).cell (p := ⟨b1, off1 + k * 10 + 0, none⟩) hbl1).trans (hcell1 0 _ rfl)
      have t0 := ((M0.out.below.trans (HB.out.mono M0.out.below.size)).cell (p := ⟨b2, off2 + k * 10 + 0, none⟩) hbl2).trans (hcell2 0 _ rfl)
      have u1 := ((M0.out.below.trans (HB.out.mono M0.out.below.size)).cell (p := ⟨b1, off1 + k * 10 + 1, none⟩) hbl1).trans (hcell1 1 _ rfl)
      have t1 := ((M0.out.below.trans (HB.out.mono M0.out.below.size)).cell (p := ⟨b2, off2 + k * 10 + 1, none⟩) hbl2).trans (hcell2 1 _ rfl)
      have u2 := ((M0.out.below.trans (HB.out.mono M0.out.below.size)).cell (p := ⟨b1, off1 + k * 10 + 2, none⟩) hbl1).trans (hcell1 2 _ rfl)
      have t2 := ((M0.out.below.trans (HB.out.mono M0.out.below.size)).cell (p := ⟨b2, off2 + k * 10 + 2, none⟩) hbl2).trans (hcell2 2 _ rfl)
      have u3 := ((M0.out.below.trans (HB.out.mono M0.out.below.size)).cell (p := ⟨b1, off1 + k * 10 + 3, none⟩) hbl1).trans (hcell1 3 _ rfl)
      have t3 := ((M0.out.below.trans (HB.out.mono M0.out.below.size)).cell (p := ⟨b2, off2 + k * 10 + 3, none⟩) hbl2).trans (hcell2 3 _ rfl)
      have u4 := ((M0.out.below.trans (HB.out.mono M0.out.below.size)).cell (p := ⟨b1, off1 + k * 10 + 4, none⟩) hbl1).trans (hcell1 4 _ rfl)
      have t4 := ((M0.out.below.trans (HB.out.mono M0.out.below.size)).cell (p := ⟨b2, off2 + k * 10 + 4, none⟩) hbl2).trans (hcell2 4 _ rfl)
      have u5 := ((M0.out.below.trans (HB.out.mono M0.out.below.size)).cell (p := ⟨b1, off1 + k * 10 + 5, none⟩) hbl1).trans (hcell1 5 _ rfl)
      have t5 := ((M0.out.below.trans (HB.out.mono M0.out.below.size)).cell (p := ⟨b2, off2 + k * 10 + 5, none⟩) hbl2).trans (hcell2 5 _ rfl)
      have u6 := ((M0.out.below.trans (HB.out.mono M0.out.below.size)).cell (p := ⟨b1, off1 + k * 10 + 6, none⟩) hbl1).trans (hcell1 6 _ rfl)
      have t6 := ((M0.out.below.trans (HB.out.mono M0.out.below.size)).cell (p := ⟨b2, off2 + k * 10 + 6, none⟩) hbl2).trans (hcell2 6 _ rfl)
      have u7 := ((M0.out.below.trans (HB.out.mono M0.out.below.size)).cell (p := ⟨b1, off1 + k * 10 + 7, none⟩) hbl1).trans (hcell1 7 _ rfl)
      have t7 := ((M0.out.below.trans (HB.out.mono M0.out.below.size)).cell (p := ⟨b2, off2 + k * 10 + 7, none⟩) hbl2).trans (hcell2 7 _ rfl)
      have u8 := ((M0.out.below.trans (HB.out.mono M0.out.below.size)).cell (p := ⟨b1, off1 + k * 10 + 8, none⟩) hbl1).trans (hcell1 8 _ rfl)
      have t8 := ((M0.out.below.trans (HB.out.mono M0.out.below.size)).cell (p := ⟨b2, off2 + k * 10 + 8, none⟩) hbl2).trans (hcell2 8 _ rfl)
      have u9 := ((M0.out.below.trans (HB.out.mono M0.out.below.size)).cell (p := ⟨b1, off1 + k * 10 + 9, none⟩) hbl1).trans (hcell1 9 _ rfl)
      have t9 := ((M0.out.below.trans (HB.out.mono M0.out.below.size)).cell (p := ⟨b2, off2 + k * 10 + 9, none⟩) hbl2).trans (hcell2 9 _ rfl)
      rw [Nat.add_zero] at u0 t0
      have ku0 := kept_cell u0
      have kt0 := kept_cell t0
      have ku1 := kept_cell u1
      have kt1 := kept_cell t1
      have ku2 := kept_cell u2
      have kt2 := kept_cell t2
      have ku3 := kept_cell u3
      have kt3 := kept_cell t3
      have ku4 := kept_cell u4
      have kt4 := kept_cell t4
      have ku5 := kept_cell u5
      have kt5 := kept_cell t5
      have ku6 := kept_cell u6
      have kt6 := kept_cell t6
      have ku7 := kept_cell u7
      have kt7 := kept_cell t7
      have ku8 := kept_cell u8
      have kt8 := kept_cell t8
      have ku9 := kept_cell u9
      have kt9 := kept_cell t9
      clear hcell1 hcell2 hcl1 hcl2 hs1 hs2
      go_upto_region 6 with fail
      refine wp_region_kept (by kernel_rfl) (by kernel_rfl) ?_
      repeat (go_big_quiet_step (fail))
      refine wpQuiet_nil ?_
      intro W2 hb2
      have HB2 := Lib.hid (HB.out.trans (hb2.mono HB.out.size))
      clear hb2 q5 p5 kq5 kp5
      clear u0 t0 ku0 kt0 u1 t1 ku1 kt1 u2 t2 ku2 kt2 u3 t3 ku3 kt3 u4 t4 ku4 kt4 u5 t5 ku5 kt5 u6 t6 ku6 kt6 u7 t7 ku7 kt7 u8 t8 ku8 kt8 u9 t9 ku9 kt9
      go_wp2
      go_roundw
      case rel => exact ⟨k + 1, by omega, by go_num, HB2.out⟩
      case measure => simp [intOf] <;> omega
    · have hkn : (yn : Int) ≤ (k : Int) := by omega
      go_wp2
      go_ret
      exact ⟨rfl, MR.out.below⟩
set_option maxRecDepth 100000 in
set_option maxHeartbeats 4000000 in
theorem same13 (a b : Option Addr) (n c m d : Nat) (l : List EntryD) (w : World) (ha : Sl 6 EntryR w a n l) (hb : Sl 6 EntryR w b m l) (hn : n ≤ 1000) : Calls Try.prog 24 #[.slice a n c, .slice b m d] w (ValIs (.bool true) w) := by
  obtain rfl : m = n := by have := ha.1; have := hb.1; omega
  have HX := Lib.hid ha
  have HY := Lib.hid hb
  clear ha hb
  go_enter Try.func24, Try.ntmps24
  go_wp2_with fail
  go_loopw [5] (fun i wr => ∃ k : Nat, k ≤ m ∧ i = .int .i64 (k : Int) ∧ Below w.heap.size w wr) (fun i _ => m - (intOf i).toNat)
  case atStart => exact ⟨0, Nat.zero_le _, rfl, Below.refl _ _⟩
  case round =>
    obtain ⟨k, hk, rfl, hb⟩ := hrel
    have HB := Lib.hid hb
    clear hb
    have hki : (0 : Int) ≤ (k : Int) := by omega
    by_cases hlt : k < m
    · have hkn : (k : Int) < (m : Int) := by omega
      obtain ⟨b1, off1, s1, sc1, rfl, hbl1, hs1, hcl1, hsr1, hcell1⟩ := HX.out.at_ hlt
      obtain ⟨b2, off2, s2, sc2, rfl, hbl2, hs2, hcl2, hsr2, hcell2⟩ := HY.out.at_ hlt
      obtain rfl : s1 = s2 := by rw [hs1] at hs2; exact Option.some.inj hs2
      have hcr := fun G : Kept wr => sameEntry sc1 sc2 s1 G.W (EntryR.stable _ _ _ _ (HB.out.trans (G.h.mono HB.out.size)) hsr1) (EntryR.stable _ _ _ _ (HB.out.trans (G.h.mono HB.out.size)) hsr2)
      obtain ⟨xa, xn, xc, rfl, _⟩ := hsr1
      obtain ⟨ya, yn, yc, rfl, _⟩ := hsr2
      simp only [EntryD.cells] at hcell1 hcell2 hcr
      have HCR := Lib.hid hcr
      have u0 := (HB.out.cell (p := ⟨b1, off1 + k * 6 + 0, none⟩) hbl1).trans (hcell1 0 _ rfl)
      have t0 := (HB.out.cell (p := ⟨b2, off2 + k * 6 + 0, none⟩) hbl2).trans (hcell2 0 _ rfl)
      have u1 := (HB.out.cell (p := ⟨b1, off1 + k * 6 + 1, none⟩) hbl1).trans (hcell1 1 _ rfl)
      have t1 := (HB.out.cell (p := ⟨b2, off2 + k * 6 + 1, none⟩) hbl2).trans (hcell2 1 _ rfl)
      have u2 := (HB.out.cell (p := ⟨b1, off1 + k * 6 + 2, none⟩) hbl1).trans (hcell1 2 _ rfl)
      have t2 := (HB.out.cell (p := ⟨b2, off2 + k * 6 + 2, none⟩) hbl2).trans (hcell2 2 _ rfl)
      have u3 := (HB.out.cell (p := ⟨b1, off1 + k * 6 + 3, none⟩) hbl1).trans (hcell1 3 _ rfl)
      have t3 := (HB.out.cell (p := ⟨b2, off2 + k * 6 + 3, none⟩) hbl2).trans (hcell2 3 _ rfl)
      have u4 := (HB.out.cell (p := ⟨b1, off1 + k * 6 + 4, none⟩) hbl1).trans (hcell1 4 _ rfl)
      have t4 := (HB.out.cell (p := ⟨b2, off2 + k * 6 + 4, none⟩) hbl2).trans (hcell2 4 _ rfl)
      have u5 := (HB.out.cell (p := ⟨b1, off1 + k * 6 + 5, none⟩) hbl1).trans (hcell1 5 _ rfl)
      have t5 := (HB.out.cell (p := ⟨b2, off2 + k * 6 + 5, none⟩) hbl2).trans (hcell2 5 _ rfl)
      rw [Nat.add_zero] at u0 t0
      have ku0 := kept_cell u0
      have kt0 := kept_cell t0
      have ku1 := kept_cell u1
      have kt1 := kept_cell t1
      have ku2 := kept_cell u2
      have kt2 := kept_cell t2
      have ku3 := kept_cell u3
      have kt3 := kept_cell t3
      have ku4 := kept_cell u4
      have kt4 := kept_cell t4
      have ku5 := kept_cell u5
      have kt5 := kept_cell t5
      clear hcell1 hcell2 hcl1 hcl2 hs1 hs2 hcr
      go_upto_region 6 with fail
      refine wp_region_kept (by kernel_rfl) (by kernel_rfl) ?_
      repeat (go_big_quiet_step (first | (go_at_call 49; with_reducible exact kept_call (HCR.out _))))
      refine wpQuiet_nil ?_
      intro W2 hb2
      have HB2 := Lib.hid (HB.out.trans (hb2.mono HB.out.size))
      clear hb2
      clear u0 t0 ku0 kt0 u1 t1 ku1 kt1 u2 t2 ku2 kt2 u3 t3 ku3 kt3 u4 t4 ku4 kt4 u5 t5 ku5 kt5
      go_wp2
      go_roundw
      case rel => exact ⟨k + 1, by omega, by go_num, HB2.out⟩
      case measure => simp [intOf] <;> omega
    · have hkn : (m : Int) ≤ (k : Int) := by omega
      go_wp2
      go_ret
      exact ⟨rfl, HB.out⟩
end Go.Proofs.Ytkofaoaglnjkgaa
