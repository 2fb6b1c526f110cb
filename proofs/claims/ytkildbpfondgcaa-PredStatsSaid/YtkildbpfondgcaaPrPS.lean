/- The law PredStats. -/
import Derived.Test.YtkildbpfondgcaaPrColumn
import Derived.Test.YtkildbpfondgcaaPrAlive
import Derived.Test.YtkildbpfondgcaaPrRefStats
import Derived.Test.YtkildbpfondgcaaPrEx
import Derived.Test.YtkildbpfondgcaaVlCmpm
namespace Go.Proofs.Ytkildbpfondgcaa
open Go.RowKit Go.Deep
set_option linter.unusedVariables false
set_option linter.unusedSimpArgs false

set_option maxRecDepth 100000 in
set_option maxHeartbeats 16000000 in
theorem predStats_calls (k : Int) (a : Option Addr) (n c : Nat) (xs : List CellD) (w : World) (hk : 0 ≤ k ∧ k ≤ 255) (h : Sl 3 CellR w a n xs) :
    Calls Try.prog 3 #[.int .u8 k, .slice a n c] w (TruePost w) := by
  obtain ⟨hk0, hk1⟩ := hk
  have HXS := Lib.hid h
  have hall : ∀ x ∈ xs, CellOK x := fun x hx => by obtain ⟨cs, hr⟩ := sl_all h x hx; exact hr.2
  have HALL := Lib.hid hall
  have HCOL := Lib.hid column_calls
  clear h hall
  go_enter Try.func3, Try.ntmps3
  go_wp2_with fail
  refine (alive_calls _).mono ?_
  rintro e w1 ⟨rfl, hb1⟩
  have HB1 := Lib.hid hb1
  have HXS1 := Lib.hid (HXS.out.below CellR.stable hb1)
  clear hb1
  go_wp2_with fail
  refine (HCOL.out _ a n c xs _ HXS1.out).mono ?_
  rintro e w2 ⟨v2, rfl, hown2, hb2⟩
  have hgood := colF_good (q := 1 + k % 3) HALL.out
  have hlen : (colF (1 + k % 3) xs).length ≤ 300 := by unfold colF; rw [List.length_map, List.length_take]; omega
  generalize colF (1 + k % 3) xs = l at *
  obtain ⟨a2, c2, rfl, hc2⟩ := own_slice hown2
  have hsl := own_sl (R := CellR) (by decide) cellV_len (hgood.reads w2) hown2
  have HSL := Lib.hid hsl
  have HG := Lib.hid hgood
  have HB2 := Lib.hid (HB1.out.trans (hb2.mono HB1.out.size))
  clear hown2 hb2 hc2 hsl hgood
  obtain ⟨m, hm⟩ : ∃ m, l.length = m := ⟨_, rfl⟩
  rw [hm] at hlen HSL
  rw [hm]
  have HM := Lib.hid hm
  clear hm
  have HROW := Lib.hid (fun w0 (hb : Below w2.heap.size w2 w0) => row_calls a2 m c2 l w0 (HSL.out.below CellR.stable hb) (by omega))
  have hlow := fun c hc hk => stats_low HG.out.col (c := c) hc hk
  have htop := fun hh c hc hk => stats_top HG.out.col hh (c := c) hc hk
  have hrows := stats_rows l
  have hsome := stats_some l
  have hstc := fun a n c w0 (h : Sl 1 ValR w0 a n (l.map goodVal)) => stats_calls a n c (l.map goodVal) w0 h (by have := h.1; rw [List.length_map, HM.out] at this; omega) (by
    intro v hv
    obtain ⟨x, hx, rfl⟩ := List.mem_map.1 hv
    rw [good_cell x (HG.out x hx).2.1]
    have := fix_size x; omega)
  rw [HG.out.cells] at hstc
  have hrst := fun w0 (hb : Below w2.heap.size w2 w0) => refstats_calls a2 m c2 l w0 (HSL.out.below CellR.stable hb) (by omega) (fun x hx => by have := HG.out.size x hx; omega) (fun x hx => (HG.out.col x hx).2)
  rw [HM.out] at hrows
  obtain ⟨st, hst⟩ : ∃ st, statsF l = st := ⟨_, rfl⟩
  rw [hst] at hlow htop hrows hsome hstc hrst
  obtain ⟨rw_, nl, sm, hi, ⟨lk, ln, ls⟩, ⟨mk, mn, ms⟩⟩ := st
  replace hrows : rw_ = (m : Int) := hrows
  replace hsome : sm = decide (nl < rw_) := hsome
  replace hlow : ∀ c ∈ l, c.kind ≠ 0 → ¬ LessC c ⟨lk, ln, ls⟩ := hlow
  replace htop : hi = true → ∀ c ∈ l, c.kind ≠ 0 → ¬ LessC ⟨mk, mn, ms⟩ c := htop
  subst hrows
  subst hsome
  simp only [StatD.cells] at hstc hrst
  have HLOW := Lib.hid hlow
  have HTOP := Lib.hid htop
  have HSTC := Lib.hid hstc
  have HRST := Lib.hid hrst
  have HLESS := Lib.hid refLess
  unfold CellD.cells at HLESS
  clear hlow htop hstc hrst hst
  go_wp2_with fail
  refine (HROW.out _ (Below.refl _ _)).mono ?_
  rintro e w3 ⟨v3, rfl, hown3, hb3⟩
  obtain ⟨a3, c3, rfl, hsl3⟩ := row_sl hown3
  have HB3 := Lib.hid (HB2.out.trans (hb3.mono HB2.out.size))
  have hsz3 := hb3.size
  have HW3 := Lib.hid hb3
  clear hown3 hb3
  go_wp2_with fail
  refine (HSTC.out _ _ _ _ hsl3).mono ?_
  rintro e w4 ⟨rfl, hb4⟩
  have HW4 := Lib.hid (HW3.out.trans (hb4.mono hsz3))
  have HB4 := Lib.hid (HB3.out.trans (hb4.mono HB3.out.size))
  clear hb4 hsl3 hsz3
  go_wp2_with fail
  obtain ⟨W0, hWW⟩ : ∃ W : World, W = w4.alloc (.cells #[.int .i64 (m : Int), .int .i64 nl, .bool (decide (nl < (m : Int))), .bool hi, .int .u8 lk, .int .i64 ln, .string ls, .int .u8 mk, .int .i64 mn, .string ms] 29) := ⟨_, rfl⟩
  have hx : Box W0 w4.heap.size #[.int .i64 (m : Int), .int .i64 nl, .bool (decide (nl < (m : Int))), .bool hi, .int .u8 lk, .int .i64 ln, .string ls, .int .u8 mk, .int .i64 mn, .string ms] := by rw [hWW]; exact Box.new _ _ _
  have hb5 : Below w4.heap.size w4 W0 := by rw [hWW]; exact (Below.refl _ _).alloc (Nat.le_refl _) _
  rw [← hWW]
  clear hWW
  have HX := Lib.hid hx
  have HW0 := Lib.hid (HW4.out.trans (hb5.mono HW4.out.size))
  have HB0 := Lib.hid (HB4.out.trans (hb5.mono HB4.out.size))
  clear hx hb5
  have hcr : ∀ G : Kept W0, Calls Try.prog 10 #[.slice a2 m c2] G.W (ValIs (.agg #[.int .i64 (m : Int), .int .i64 nl, .bool (decide (nl < (m : Int))), .bool hi, .int .u8 lk, .int .i64 ln, .string ls, .int .u8 mk, .int .i64 mn, .string ms]) G.W) := fun G => HRST.out G.W (HW0.out.trans (G.h.mono HW0.out.size))
  have HCR := Lib.hid hcr
  clear hcr
  have x0 : W0.cell? ⟨w4.heap.size, 0, none⟩ = some (.int .i64 (m : Int)) := HX.out.cell 0 rfl
  have kx0 := kept_cell x0
  have x1 : W0.cell? ⟨w4.heap.size, 1, none⟩ = some (.int .i64 nl) := HX.out.cell 1 rfl
  have kx1 := kept_cell x1
  have x2 : W0.cell? ⟨w4.heap.size, 2, none⟩ = some (.bool (decide (nl < (m : Int)))) := HX.out.cell 2 rfl
  have kx2 := kept_cell x2
  have x3 : W0.cell? ⟨w4.heap.size, 3, none⟩ = some (.bool hi) := HX.out.cell 3 rfl
  have kx3 := kept_cell x3
  have x4 : W0.cell? ⟨w4.heap.size, 4, none⟩ = some (.int .u8 lk) := HX.out.cell 4 rfl
  have kx4 := kept_cell x4
  have x5 : W0.cell? ⟨w4.heap.size, 5, none⟩ = some (.int .i64 ln) := HX.out.cell 5 rfl
  have kx5 := kept_cell x5
  have x6 : W0.cell? ⟨w4.heap.size, 6, none⟩ = some (.string ls) := HX.out.cell 6 rfl
  have kx6 := kept_cell x6
  have x7 : W0.cell? ⟨w4.heap.size, 7, none⟩ = some (.int .u8 mk) := HX.out.cell 7 rfl
  have kx7 := kept_cell x7
  have x8 : W0.cell? ⟨w4.heap.size, 8, none⟩ = some (.int .i64 mn) := HX.out.cell 8 rfl
  have kx8 := kept_cell x8
  have x9 : W0.cell? ⟨w4.heap.size, 9, none⟩ = some (.string ms) := HX.out.cell 9 rfl
  have kx9 := kept_cell x9
  refine wp_region_kept (by kernel_rfl) (by kernel_rfl) ?_
  repeat (go_big_quiet_step (first | (go_at_call 10; with_reducible exact kept_call (HCR.out _))))
  refine wpQuiet_nil ?_
  intro W2 hb2
  have HX2 := Lib.hid (HX.out.call hb2)
  have HW2 := Lib.hid (HW0.out.trans (hb2.mono HW0.out.size))
  have HBW2 := Lib.hid (HB0.out.trans (hb2.mono HB0.out.size))
  clear hb2 x0 kx0 x1 kx1 x2 kx2 x3 kx3 x4 kx4 x5 kx5 x6 kx6 x7 kx7 x8 kx8 x9 kx9
  go_wp2
  go_loopw [7] (fun i wr => ∃ k : Nat, k ≤ m ∧ i = .int .i64 (k : Int) ∧ Below W2.heap.size W2 wr) (fun i _ => m - (intOf i).toNat)
  case atStart => exact ⟨0, Nat.zero_le _, rfl, Below.refl _ _⟩
  case round =>
    obtain ⟨k, hk, rfl, hb⟩ := hrel
    have HB := Lib.hid hb
    have HXR := Lib.hid (HX2.out.call hb)
    have HWR := Lib.hid (HW2.out.trans (hb.mono HW2.out.size))
    have HBR := Lib.hid (HBW2.out.trans (hb.mono HBW2.out.size))
    clear hb
    have hki : (0 : Int) ≤ (k : Int) := by omega
    by_cases hlt : k < m
    · have hkm : (k : Int) < (m : Int) := by omega
      obtain ⟨b, off, x, cs, rfl, hbl, hx, hcl, hr, hcell⟩ := HSL.out.at_ hlt
      obtain ⟨rfl, _⟩ := hr
      have d0 := (HWR.out.cell (p := ⟨b, off + k * 3 + 0, none⟩) hbl).trans (hcell 0 _ rfl)
      have d1 := (HWR.out.cell (p := ⟨b, off + k * 3 + 1, none⟩) hbl).trans (hcell 1 _ rfl)
      have d2 := (HWR.out.cell (p := ⟨b, off + k * 3 + 2, none⟩) hbl).trans (hcell 2 _ rfl)
      rw [Nat.add_zero] at d0
      have hmem := List.mem_of_getElem? hx
      clear hcell hcl hx
      obtain ⟨xk, xn, xs'⟩ := x
      by_cases hx0 : xk = 0
      · have hne : (xk != 0) = false := by simp [hx0]
        clear hx0 hmem
        go_wp2
        go_roundw
        case rel => exact ⟨k + 1, by omega, by go_num, HB.out.alloc HB.out.size _⟩
        case measure => simp [intOf] <;> omega
      · have hne : (xk != 0) = true := by simp [hx0]
        have hl1 := HLESS.out ⟨xk, xn, xs'⟩ ⟨lk, ln, ls⟩
        have hn1 : decide (LessC ⟨xk, xn, xs'⟩ ⟨lk, ln, ls⟩) = false := decide_eq_false (HLOW.out _ hmem hx0)
        rw [hn1] at hl1
        have HL1 := Lib.hid hl1
        have hl2 := HLESS.out ⟨mk, mn, ms⟩ ⟨xk, xn, xs'⟩
        have hzr := HXR.out.lt
        clear hl1 hn1
        cases hi
        · clear hl2 hmem
          have y3 : wr.cell? ⟨w4.heap.size, 3, none⟩ = some (.bool false) := HXR.out.cell 3 rfl
          have y4 : wr.cell? ⟨w4.heap.size, 4, none⟩ = some (.int .u8 lk) := HXR.out.cell 4 rfl
          have y5 : wr.cell? ⟨w4.heap.size, 5, none⟩ = some (.int .i64 ln) := HXR.out.cell 5 rfl
          have y6 : wr.cell? ⟨w4.heap.size, 6, none⟩ = some (.string ls) := HXR.out.cell 6 rfl
          go_wp2_with fail
          refine (HL1.out _).mono ?_
          rintro e w6 ⟨rfl, hb6⟩
          have y3' : w6.cell? ⟨w4.heap.size, 3, none⟩ = some (.bool false) := ((HXR.out.alloc (.cells #[.int .u8 xk, .int .i64 xn, .string xs'] 27)).call hb6).cell 3 rfl
          have HB6 := Lib.hid ((HB.out.alloc HB.out.size _).trans (hb6.mono (by have := HB.out.size; simp; omega)))
          clear hb6
          go_wp2
          go_roundw
          case rel => exact ⟨k + 1, by omega, by go_num, HB6.out⟩
          case measure => simp [intOf] <;> omega
        · have hn2 : decide (LessC ⟨mk, mn, ms⟩ ⟨xk, xn, xs'⟩) = false := decide_eq_false (HTOP.out rfl _ hmem hx0)
          rw [hn2] at hl2
          have HL2 := Lib.hid hl2
          clear hl2 hn2 hmem
          have y3 : wr.cell? ⟨w4.heap.size, 3, none⟩ = some (.bool true) := HXR.out.cell 3 rfl
          have y4 : wr.cell? ⟨w4.heap.size, 4, none⟩ = some (.int .u8 lk) := HXR.out.cell 4 rfl
          have y5 : wr.cell? ⟨w4.heap.size, 5, none⟩ = some (.int .i64 ln) := HXR.out.cell 5 rfl
          have y6 : wr.cell? ⟨w4.heap.size, 6, none⟩ = some (.string ls) := HXR.out.cell 6 rfl
          have y7 : wr.cell? ⟨w4.heap.size, 7, none⟩ = some (.int .u8 mk) := HXR.out.cell 7 rfl
          have y8 : wr.cell? ⟨w4.heap.size, 8, none⟩ = some (.int .i64 mn) := HXR.out.cell 8 rfl
          have y9 : wr.cell? ⟨w4.heap.size, 9, none⟩ = some (.string ms) := HXR.out.cell 9 rfl
          go_wp2_with fail
          refine (HL1.out _).mono ?_
          rintro e w6 ⟨rfl, hb6⟩
          have HBX6 := Lib.hid ((HXR.out.alloc (.cells #[.int .u8 xk, .int .i64 xn, .string xs'] 27)).call hb6)
          have HBN6 := Lib.hid ((Box.new wr #[.int .u8 xk, .int .i64 xn, .string xs'] 27).call hb6)
          have HB6 := Lib.hid ((HB.out.alloc HB.out.size (.cells #[.int .u8 xk, .int .i64 xn, .string xs'] 27)).trans (hb6.mono (by have := HB.out.size; simp; omega)))
          clear hb6 y3 y4 y5 y6 y7 y8 y9
          have y3 : w6.cell? ⟨w4.heap.size, 3, none⟩ = some (.bool true) := HBX6.out.cell 3 rfl
          have y7 : w6.cell? ⟨w4.heap.size, 7, none⟩ = some (.int .u8 mk) := HBX6.out.cell 7 rfl
          have y8 : w6.cell? ⟨w4.heap.size, 8, none⟩ = some (.int .i64 mn) := HBX6.out.cell 8 rfl
          have y9 : w6.cell? ⟨w4.heap.size, 9, none⟩ = some (.string ms) := HBX6.out.cell 9 rfl
          have z0 : w6.cell? ⟨wr.heap.size, 0, none⟩ = some (.int .u8 xk) := HBN6.out.cell 0 rfl
          have z1 : w6.cell? ⟨wr.heap.size, 1, none⟩ = some (.int .i64 xn) := HBN6.out.cell 1 rfl
          have z2 : w6.cell? ⟨wr.heap.size, 2, none⟩ = some (.string xs') := HBN6.out.cell 2 rfl
          go_wp2_with fail
          refine (HL2.out _).mono ?_
          rintro e w7 ⟨rfl, hb7⟩
          have HB7 := Lib.hid (HB6.out.trans (hb7.mono HB6.out.size))
          clear hb7 y3 y7 y8 y9 z0 z1 z2
          go_wp2
          go_roundw
          case rel => exact ⟨k + 1, by omega, by go_num, HB7.out⟩
          case measure => simp [intOf] <;> omega
    · go_wp2
      go_ret
      exact ⟨rfl, HBR.out⟩
end Go.Proofs.Ytkildbpfondgcaa
