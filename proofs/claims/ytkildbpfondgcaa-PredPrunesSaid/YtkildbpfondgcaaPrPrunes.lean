/- The law PredPrunes. -/
import Derived.Test.YtkildbpfondgcaaCellRowm
import Derived.Test.YtkildbpfondgcaaPrRowFit
import Derived.Test.YtkildbpfondgcaaPrCheck
import Derived.Test.YtkildbpfondgcaaPrPrPm
import Derived.Test.YtkildbpfondgcaaPrAlive
import Derived.Test.YtkildbpfondgcaaPrGreat
import Derived.Test.YtkildbpfondgcaaPrEval
import Derived.Test.YtkildbpfondgcaaPrMayN3
import Derived.Test.YtkildbpfondgcaaGreat14m
import Derived.Test.YtkildbpfondgcaaVlCmpm
import Derived.Deep.RegionHeld3
import Derived.Deep.DeepCutAuto
import Derived.Deep.CutBlock
namespace Go.Proofs.Ytkildbpfondgcaa
open Go.RowKit Go.Deep
set_option linter.unusedVariables false
set_option linter.unusedSimpArgs false

theorem infoRow : (Try.prog.info? 22).map (fun i => (i.zero, i.size, i.bytes)) = some (some (.slice none 0 0), 1, 24) := by kernel_rfl
theorem infoStat : (Try.prog.info? 29).map (fun i => (i.zero, i.size, i.bytes)) = some (some (.agg #[.int .i64 0, .int .i64 0, .bool false, .bool false, .int .u8 0, .int .i64 0, .string ByteArray.empty, .int .u8 0, .int .i64 0, .string ByteArray.empty]), 10, 88) := by kernel_rfl
def statV (s : StatD) : List Value := s.cells.toList
theorem statV_len (s : StatD) : (statV s).length = 10 := rfl
theorem cellOK_zero : CellOK zeroCell := ⟨by decide, by decide, by decide⟩
theorem stats_ok {l : List CellD} (hg : GoodCol l) (hn : l.length ≤ 1000) : StatOK (statsF l) := by
  have hst := stInv_all l
  have htx : ∀ s : ByteArray, s.size ≤ 64 → CellOK ⟨3, 0, s⟩ := fun s h => ⟨by show s.size ≤ maxLen; unfold maxLen; omega, by show (0 : Int) ≤ 3 ∧ (3 : Int) ≤ 255; decide, by show (-9223372036854775808 : Int) ≤ 0 ∧ (0 : Int) ≤ 9223372036854775807; decide⟩
  refine ⟨?_, ?_, ?_⟩
  · rw [stats_rows]; unfold IntOK; omega
  · rw [stats_nulls]; have := hst.nulls; unfold IntOK; omega
  · unfold statsF
    simp only []
    by_cases hs : (foldSt l).some = false
    · rw [if_pos hs]; exact ⟨cellOK_zero, cellOK_zero⟩
    · rw [if_neg hs]
      have hs : (foldSt l).some = true := by simpa using hs
      have hl := (hst.least hs).1
      have hm := (hst.most hs).1
      by_cases h3 : (foldSt l).least.kind = 3
      · rw [if_pos h3]
        by_cases ho : (foldSt l).ok = true
        · rw [if_pos ho]
          refine ⟨htx _ (firstF_size (hg.size _ hl)), ?_⟩
          show CellOK (if _ then _ else _)
          split
          · exact htx _ (aboveF_size (hg.size _ hm))
          · exact cellOK_zero
        · rw [if_neg ho]
          exact ⟨htx _ (by decide), cellOK_zero⟩
      · rw [if_neg h3]
        exact ⟨(hg _ hl).2.2, (hg _ hm).2.2⟩
theorem fix_goodcol {xs : List CellD} (h : ∀ x ∈ xs, CellOK x) : GoodCol (xs.map fix) := by
  intro c hc
  obtain ⟨x, hx, rfl⟩ := List.mem_map.1 hc
  refine ⟨fix_fix x, (fix_kind x (h x hx).2.1.1).1, ?_⟩
  unfold fix; split
  · exact h x hx
  · exact cellOK_zero
theorem colAt_len (rows : List (List CellD)) (k : Nat) : (colAt rows k).length = rows.length := List.length_map _
theorem colAt_get {rows : List (List CellD)} {k j : Nat} {r : List CellD} {c : CellD} (hr : rows[j]? = some r) (hc : r[k]? = some c) : (colAt rows k)[j]? = some c := by
  unfold colAt
  rw [List.getElem?_map, hr]
  show some ((r[k]?).getD zeroCell) = _
  rw [hc]; rfl
theorem statsAt_len (n : Nat) (rows : List (List CellD)) : (statsAt n rows).length = n := by unfold statsAt; simp
set_option maxRecDepth 100000 in
set_option maxHeartbeats 16000000 in
theorem predPrunes_calls (cp : List Value) (dp : Nat × PredD) (scs : List Value) (s : SchemaD) (a : Option Addr) (n c : Nat) (rows : List (List CellD)) (w : World) (hp : PredR dp.1 w cp dp.2) (hs : SchemaR w scs s) (h : Sl 1 (SlR 3 CellR) w a n rows) :
    Calls Try.prog 4 #[.agg cp.toArray, .agg scs.toArray, .slice a n c] w (TruePost w) := by
  obtain ⟨d, p⟩ := dp
  simp only [] at hp
  obtain ⟨ka, kn, kc, hcp⟩ := hp.shape
  subst hcp
  have HP := Lib.hid hp
  have HSC := Lib.hid hs
  have HRS := Lib.hid h
  obtain ⟨fa, fnn, fc, rfl, hs1, hs2, hs3, hfs, hs4⟩ := hs
  have hfl0 := hfs.1
  have HFL := Lib.hid hfl0
  have HG := Lib.hid great_calls
  have HG8 := Lib.hid great08
  unfold Great9Post at HG
  unfold Great08Post at HG8
  obtain ⟨i0, hi0, hz0, hz1, hz2⟩ := info_parts infoRow
  have HI := Lib.hid hi0
  have HZ0 := Lib.hid hz0
  have HZ1 := Lib.hid hz1
  have HZ2 := Lib.hid hz2
  obtain ⟨j0, hj0, hy0, hy1, hy2⟩ := info_parts infoCell
  have HJ := Lib.hid hj0
  have HY0 := Lib.hid hy0
  have HY1 := Lib.hid hy1
  have HY2 := Lib.hid hy2
  obtain ⟨l0, hl0, hx0, hx1, hx2⟩ := info_parts infoStat
  have HL := Lib.hid hl0
  have HX0 := Lib.hid hx0
  have HX1 := Lib.hid hx1
  have HX2 := Lib.hid hx2
  clear hp h hs1 hs2 hs3 hfs hs4 hfl0 hi0 hz0 hz1 hz2 hj0 hy0 hy1 hy2 hl0 hx0 hx1 hx2
  go_enter Try.func4, Try.ntmps4
  go_wp2_with fail
  obtain ⟨W0, hWW⟩ : ∃ W0 : World, W0 = ((w.alloc (.cells #[.int .u8 (p.op : Int), .int .u32 (p.field : Int), .int .u8 p.value.kind, .int .i64 p.value.n, .string p.value.s, .slice ka kn kc] 39)).alloc (.cells #[.int .u32 (s.id : Int), .slice fa fnn fc] 42)) := ⟨_, rfl⟩
  have hm : Mem w.heap.size [#[.int .u8 (p.op : Int), .int .u32 (p.field : Int), .int .u8 p.value.kind, .int .i64 p.value.n, .string p.value.s, .slice ka kn kc], #[.int .u32 (s.id : Int), .slice fa fnn fc]] w W0 := by rw [hWW]; exact (((Mem.nil w).push (by simp) #[.int .u8 (p.op : Int), .int .u32 (p.field : Int), .int .u8 p.value.kind, .int .i64 p.value.n, .string p.value.s, .slice ka kn kc] 39).push (by simp) #[.int .u32 (s.id : Int), .slice fa fnn fc] 42)
  rw [← hWW]
  clear hWW
  have M0 := Lib.hid hm
  clear hm
  refine (alive_calls _).mono ?_
  rintro e w1 ⟨rfl, hb⟩
  have hm : Mem w.heap.size [#[.int .u8 (p.op : Int), .int .u32 (p.field : Int), .int .u8 p.value.kind, .int .i64 p.value.n, .string p.value.s, .slice ka kn kc], #[.int .u32 (s.id : Int), .slice fa fnn fc]] w w1 := M0.out.call hb
  have Mw1 := Lib.hid hm
  clear hm
  clear hb
  have q0_0 : w1.cell? ⟨w.heap.size, 0, none⟩ = some (.int .u8 (p.op : Int)) := Mw1.out.cell 0 0 rfl rfl
  have q0_1 : w1.cell? ⟨w.heap.size, 1, none⟩ = some (.int .u32 (p.field : Int)) := Mw1.out.cell 0 1 rfl rfl
  have q0_2 : w1.cell? ⟨w.heap.size, 2, none⟩ = some (.int .u8 p.value.kind) := Mw1.out.cell 0 2 rfl rfl
  have q0_3 : w1.cell? ⟨w.heap.size, 3, none⟩ = some (.int .i64 p.value.n) := Mw1.out.cell 0 3 rfl rfl
  have q0_4 : w1.cell? ⟨w.heap.size, 4, none⟩ = some (.string p.value.s) := Mw1.out.cell 0 4 rfl rfl
  have q0_5 : w1.cell? ⟨w.heap.size, 5, none⟩ = some (.slice ka kn kc) := Mw1.out.cell 0 5 rfl rfl
  have q1_0 : w1.cell? ⟨w.heap.size + 1, 0, none⟩ = some (.int .u32 (s.id : Int)) := Mw1.out.cell 1 0 rfl rfl
  have q1_1 : w1.cell? ⟨w.heap.size + 1, 1, none⟩ = some (.slice fa fnn fc) := Mw1.out.cell 1 1 rfl rfl
  have z0 : w.heap.size < w1.heap.size := Mw1.out.lt 0 (by simp)
  have z1 : w.heap.size + 1 < w1.heap.size := Mw1.out.lt 1 (by simp)
  go_wp2_with fail
  refine (HG.out d p _ _ (PredR.stable d _ _ _ _ Mw1.out.below HP.out)).mono ?_
  rintro e w1 ⟨hg1, hb⟩
  clear q0_0 q0_1 q0_2 q0_3 q0_4 q0_5 q1_0 q1_1 z0 z1
  have hm : Mem w.heap.size [#[.int .u8 (p.op : Int), .int .u32 (p.field : Int), .int .u8 p.value.kind, .int .i64 p.value.n, .string p.value.s, .slice ka kn kc], #[.int .u32 (s.id : Int), .slice fa fnn fc]] w w1 := Mw1.out.call hb
  have Mw1 := Lib.hid hm
  clear hm
  clear hb
  rcases hg1 with rfl | ⟨rfl, _⟩
  · have q0_0 : w1.cell? ⟨w.heap.size, 0, none⟩ = some (.int .u8 (p.op : Int)) := Mw1.out.cell 0 0 rfl rfl
    have q0_1 : w1.cell? ⟨w.heap.size, 1, none⟩ = some (.int .u32 (p.field : Int)) := Mw1.out.cell 0 1 rfl rfl
    have q0_2 : w1.cell? ⟨w.heap.size, 2, none⟩ = some (.int .u8 p.value.kind) := Mw1.out.cell 0 2 rfl rfl
    have q0_3 : w1.cell? ⟨w.heap.size, 3, none⟩ = some (.int .i64 p.value.n) := Mw1.out.cell 0 3 rfl rfl
    have q0_4 : w1.cell? ⟨w.heap.size, 4, none⟩ = some (.string p.value.s) := Mw1.out.cell 0 4 rfl rfl
    have q0_5 : w1.cell? ⟨w.heap.size, 5, none⟩ = some (.slice ka kn kc) := Mw1.out.cell 0 5 rfl rfl
    have q1_0 : w1.cell? ⟨w.heap.size + 1, 0, none⟩ = some (.int .u32 (s.id : Int)) := Mw1.out.cell 1 0 rfl rfl
    have q1_1 : w1.cell? ⟨w.heap.size + 1, 1, none⟩ = some (.slice fa fnn fc) := Mw1.out.cell 1 1 rfl rfl
    have z0 : w.heap.size < w1.heap.size := Mw1.out.lt 0 (by simp)
    have z1 : w.heap.size + 1 < w1.heap.size := Mw1.out.lt 1 (by simp)
    go_wp2
    go_ret
    exact ⟨rfl, Mw1.out.below⟩
  · have q0_0 : w1.cell? ⟨w.heap.size, 0, none⟩ = some (.int .u8 (p.op : Int)) := Mw1.out.cell 0 0 rfl rfl
    have q0_1 : w1.cell? ⟨w.heap.size, 1, none⟩ = some (.int .u32 (p.field : Int)) := Mw1.out.cell 0 1 rfl rfl
    have q0_2 : w1.cell? ⟨w.heap.size, 2, none⟩ = some (.int .u8 p.value.kind) := Mw1.out.cell 0 2 rfl rfl
    have q0_3 : w1.cell? ⟨w.heap.size, 3, none⟩ = some (.int .i64 p.value.n) := Mw1.out.cell 0 3 rfl rfl
    have q0_4 : w1.cell? ⟨w.heap.size, 4, none⟩ = some (.string p.value.s) := Mw1.out.cell 0 4 rfl rfl
    have q0_5 : w1.cell? ⟨w.heap.size, 5, none⟩ = some (.slice ka kn kc) := Mw1.out.cell 0 5 rfl rfl
    have q1_0 : w1.cell? ⟨w.heap.size + 1, 0, none⟩ = some (.int .u32 (s.id : Int)) := Mw1.out.cell 1 0 rfl rfl
    have q1_1 : w1.cell? ⟨w.heap.size + 1, 1, none⟩ = some (.slice fa fnn fc) := Mw1.out.cell 1 1 rfl rfl
    have z0 : w.heap.size < w1.heap.size := Mw1.out.lt 0 (by simp)
    have z1 : w.heap.size + 1 < w1.heap.size := Mw1.out.lt 1 (by simp)
    go_wp2_with fail
    refine (HG8.out _ s _ (SchemaR.stable _ _ _ _ Mw1.out.below HSC.out)).mono ?_
    rintro e w3 ⟨b8, rfl, hb, hg8⟩
    clear q0_0 q0_1 q0_2 q0_3 q0_4 q0_5 q1_0 q1_1 z0 z1
    have hm : Mem w.heap.size [#[.int .u8 (p.op : Int), .int .u32 (p.field : Int), .int .u8 p.value.kind, .int .i64 p.value.n, .string p.value.s, .slice ka kn kc], #[.int .u32 (s.id : Int), .slice fa fnn fc]] w w3 := Mw1.out.call hb
    have Mw3 := Lib.hid hm
    clear hm
    clear hb
    cases b8
    · have HF8 := Lib.hid (hg8 rfl)
      clear hg8
      have q0_0 : w3.cell? ⟨w.heap.size, 0, none⟩ = some (.int .u8 (p.op : Int)) := Mw3.out.cell 0 0 rfl rfl
      have q0_1 : w3.cell? ⟨w.heap.size, 1, none⟩ = some (.int .u32 (p.field : Int)) := Mw3.out.cell 0 1 rfl rfl
      have q0_2 : w3.cell? ⟨w.heap.size, 2, none⟩ = some (.int .u8 p.value.kind) := Mw3.out.cell 0 2 rfl rfl
      have q0_3 : w3.cell? ⟨w.heap.size, 3, none⟩ = some (.int .i64 p.value.n) := Mw3.out.cell 0 3 rfl rfl
      have q0_4 : w3.cell? ⟨w.heap.size, 4, none⟩ = some (.string p.value.s) := Mw3.out.cell 0 4 rfl rfl
      have q0_5 : w3.cell? ⟨w.heap.size, 5, none⟩ = some (.slice ka kn kc) := Mw3.out.cell 0 5 rfl rfl
      have q1_0 : w3.cell? ⟨w.heap.size + 1, 0, none⟩ = some (.int .u32 (s.id : Int)) := Mw3.out.cell 1 0 rfl rfl
      have q1_1 : w3.cell? ⟨w.heap.size + 1, 1, none⟩ = some (.slice fa fnn fc) := Mw3.out.cell 1 1 rfl rfl
      have z0 : w.heap.size < w3.heap.size := Mw3.out.lt 0 (by simp)
      have z1 : w.heap.size + 1 < w3.heap.size := Mw3.out.lt 1 (by simp)
      go_wp2_with fail
      refine (Check_any d p _ s _ _ (PredR.stable d _ _ _ _ Mw3.out.below HP.out) (SchemaR.stable _ _ _ _ Mw3.out.below HSC.out) (by have := HF8.out.1; omega)).mono ?_
      rintro e w4 ⟨r, rfl, hb⟩
      clear q0_0 q0_1 q0_2 q0_3 q0_4 q0_5 q1_0 q1_1 z0 z1
      have hm : Mem w.heap.size [#[.int .u8 (p.op : Int), .int .u32 (p.field : Int), .int .u8 p.value.kind, .int .i64 p.value.n, .string p.value.s, .slice ka kn kc], #[.int .u32 (s.id : Int), .slice fa fnn fc]] w w4 := Mw3.out.call hb
      have Mw4 := Lib.hid hm
      clear hm
      clear hb
      have q0_0 : w4.cell? ⟨w.heap.size, 0, none⟩ = some (.int .u8 (p.op : Int)) := Mw4.out.cell 0 0 rfl rfl
      have q0_1 : w4.cell? ⟨w.heap.size, 1, none⟩ = some (.int .u32 (p.field : Int)) := Mw4.out.cell 0 1 rfl rfl
      have q0_2 : w4.cell? ⟨w.heap.size, 2, none⟩ = some (.int .u8 p.value.kind) := Mw4.out.cell 0 2 rfl rfl
      have q0_3 : w4.cell? ⟨w.heap.size, 3, none⟩ = some (.int .i64 p.value.n) := Mw4.out.cell 0 3 rfl rfl
      have q0_4 : w4.cell? ⟨w.heap.size, 4, none⟩ = some (.string p.value.s) := Mw4.out.cell 0 4 rfl rfl
      have q0_5 : w4.cell? ⟨w.heap.size, 5, none⟩ = some (.slice ka kn kc) := Mw4.out.cell 0 5 rfl rfl
      have q1_0 : w4.cell? ⟨w.heap.size + 1, 0, none⟩ = some (.int .u32 (s.id : Int)) := Mw4.out.cell 1 0 rfl rfl
      have q1_1 : w4.cell? ⟨w.heap.size + 1, 1, none⟩ = some (.slice fa fnn fc) := Mw4.out.cell 1 1 rfl rfl
      have z0 : w.heap.size < w4.heap.size := Mw4.out.lt 0 (by simp)
      have z1 : w.heap.size + 1 < w4.heap.size := Mw4.out.lt 1 (by simp)
      by_cases hr0 : r = 0
      · subst hr0
        have hfn : fnn ≤ 100 := by have := HF8.out.1; have := HFL.out; omega
        have hfni : (fnn : Int) ≤ 100 := by omega
        go_upto_block 0 with fail
        clear q0_0 q0_1 q0_2 q0_3 q0_4 q0_5 q1_0 q1_1 z0 z1
        go_cut [7] (fun v wx => ∃ (m : Nat) (ls : List (List CellD)), m ≤ 40 ∧ RowsOwn wx w4.heap.size 22 v m ls ∧ (∀ r ∈ ls, r.length = fnn ∧ GoodCol r) ∧ Below w4.heap.size w4 wx)
        case first =>
          go_wp2_with fail
          go_loopw [7, 8] (fun v i wr => ∃ (k m : Nat) (ls : List (List CellD)), k ≤ n ∧ k ≤ 40 ∧ m ≤ k ∧ i = .int .i64 (k : Int) ∧ RowsOwn wr w4.heap.size 22 v m ls ∧ (∀ r ∈ ls, r.length = fnn ∧ GoodCol r) ∧ Below w4.heap.size w4 wr) (fun _ i _ => n - (intOf i).toNat)
          case atStart => exact ⟨0, 0, [], Nat.zero_le _, Nat.zero_le _, Nat.le_refl _, rfl, RowsOwn.nil _ _ _, fun r h => by simp at h, Below.refl _ _⟩
          case round =>
            obtain ⟨k, m, ls, hk, hk4, hm, rfl, hro, hgood, hb⟩ := hrel
            have HRO := Lib.hid hro
            have HGD := Lib.hid hgood
            have HB := Lib.hid hb
            have MR := Lib.hid (Mw4.out.call hb)
            clear hro hgood hb
            have hki : (0 : Int) ≤ (k : Int) := by omega
            by_cases hlt : k < n ∧ k < 40
            · have hkn : (k : Int) < (n : Int) := by omega
              have hk40 : (k : Int) < 40 := by omega
              obtain ⟨b, off, x, xv, rfl, hbl, hx, hr, hcell⟩ := HRS.out.at1 hlt.1
              obtain ⟨ra, rn, rc, hxv, hr1, hr2, hr3, hrow⟩ := hr
              simp only [List.cons.injEq, and_true] at hxv
              subst hxv
              have d0 := MR.out.old (p := ⟨b, off + k, none⟩) hbl hcell
              have HROW := Lib.hid hrow
              have hrn : rn ≤ 9223372036854775807 := by unfold maxLen at hr2; omega
              clear hr1 hr2 hr3 hrow hcell hx
              by_cases h100 : 100 < rn
              · have h100i : (100 : Int) < (rn : Int) := by omega
                go_wp2
                go_ret
                exact ⟨rfl, MR.out.below⟩
              · have h100i : (rn : Int) ≤ 100 := by omega
                have hxs := HROW.out.1
                have hall : ∀ y ∈ x, CellOK y := fun y hy => by obtain ⟨cs, hr⟩ := sl_all HROW.out y hy; exact hr.2
                have hgx := fix_goodcol hall
                have HGX := Lib.hid hgx
                have HXL := Lib.hid (show (x.map fix).length = rn by rw [List.length_map]; exact hxs)
                clear hall hgx
                go_wp2_with fail
                refine (fixrow_calls ra rn rc x _ (HROW.out.below CellR.stable MR.out.below) (by omega)).mono ?_
                rintro e w5 ⟨v5, rfl, hown5, hb5⟩
                generalize x.map fix = xf at *
                clear hxs
                obtain ⟨a5, c5, rfl, hc5⟩ := own_slice hown5
                have hsl5 := own_sl (R := CellR) (by decide) cellV_len (HGX.out.reads w5) hown5
                have HAP := Lib.hid (own_apart HRO.out hown5)
                have HSL5 := Lib.hid hsl5
                have HRO5 := Lib.hid (HRO.out.call hb5)
                have M5 := Lib.hid (MR.out.call hb5)
                have HB5 := Lib.hid (HB.out.trans (hb5.mono HB.out.size))
                clear hown5 hb5 hc5 hsl5 d0
                have hz : w.heap.size + 1 < w5.heap.size := M5.out.lt 1 (by simp)
                have q1_0 : w5.cell? ⟨w.heap.size + 1, 0, none⟩ = some (.int .u32 (s.id : Int)) := M5.out.cell 1 0 rfl rfl
                have q1_1 : w5.cell? ⟨w.heap.size + 1, 1, none⟩ = some (.slice fa fnn fc) := M5.out.cell 1 1 rfl rfl
                go_wp2_with fail
                refine (fit_calls s _ a5 rn c5 xf _ (SchemaR.stable _ _ _ _ M5.out.below HSC.out) HSL5.out (by omega)).mono ?_
                rintro e w6 ⟨fr, rfl, hfit, hb6⟩
                have HSL6 := Lib.hid (HSL5.out.below CellR.stable hb6)
                have HRO6 := Lib.hid (HRO5.out.call hb6)
                have HB6 := Lib.hid (HB5.out.trans (hb6.mono HB5.out.size))
                have M6 := Lib.hid (M5.out.call hb6)
                have hap6 := fun b off (h : a5 = some ⟨b, off, none⟩) => And.intro (Nat.lt_of_lt_of_le (HAP.out b off h).1 hb6.size) (HAP.out b off h).2
                have HAP6 := Lib.hid hap6
                have HFIT := Lib.hid hfit
                clear hb6 q1_0 q1_1 hz hfit hap6
                by_cases hf0 : fr = 0
                · subst hf0
                  obtain ⟨_, vs, hvs, _⟩ := HRO6.out
                  have HVS := Lib.hid hvs
                  clear hvs
                  have h63 : m + 1 ≤ maxLen := by unfold maxLen; omega
                  have hby : (m + 1) * 24 ≤ 140737488355328 := by omega
                  have hbase : w4.heap.size ≤ (w6.alloc (.cells #[.slice a5 rn c5] 22)).heap.size := by have := HB6.out.size; simp; omega
                  have hone : ∀ u ∈ ([.slice a5 rn c5] : List Value), u.oneCell' = true := by simp [Value.oneCell']
                  have hcl : ∀ j u, ([.slice a5 rn c5] : List Value)[j]? = some u → (w6.alloc (.cells #[.slice a5 rn c5] 22)).cell? ((⟨w6.heap.size, 0, none⟩ : Addr).add j) = some u := fun j u hj => by
                    have := CellsAt.alloc_at w6 #[.slice a5 rn c5] 22 w6.heap.size rfl j u (by simpa using hj)
                    rw [show ((⟨w6.heap.size, 0, none⟩ : Addr).add j) = ⟨w6.heap.size, j, none⟩ by (simp [Addr.add] <;> omega)]
                    exact this
                  have HBASE := Lib.hid hbase
                  have HONE := Lib.hid hone
                  have HCL := Lib.hid hcl
                  clear hbase hone hcl
                  go_wp2_with (at_builtin; refine wpList_append_lies _ rfl _ _ _ rfl w4.heap.size 22 i0 (.slice none 0 0) 1 24 Try.underlying43 HI.out HZ0.out HZ1.out HZ2.out rfl (by decide) _ _ _ rfl (HVS.out.alloc _) ⟨w6.heap.size, 0, none⟩ 1 1 [.slice a5 rn c5] rfl rfl HCL.out HONE.out (by decide) h63 hby HBASE.out _ rfl ?_; intro g cap w7 hown7 hgrow7 hat7 hglt7)
                  have hro7 := RowsOwn.snoc (HRO6.out.alloc (.cells #[.slice a5 rn c5] 22)) (HVS.out.alloc _) hown7 hgrow7 (by first | exact hat7 | simpa using hat7) (HSL6.out.below CellR.stable ((Below.refl _ _).alloc (Nat.le_refl _) _)) (fun b off h => ⟨by have := (HAP6.out b off h).1; simp; omega, (HAP6.out b off h).2⟩)
                  have hb7 := below_append HVS.out HB6.out hgrow7
                  clear hgrow7 hat7 hown7 hglt7
                  go_roundw
                  case rel =>
                    refine ⟨k + 1, m + 1, ls ++ [xf], by omega, by omega, by omega, by go_num, hro7, fun r hr => ?_, hb7⟩
                    rcases List.mem_append.1 hr with hr | hr
                    · exact HGD.out r hr
                    · simp at hr; subst hr
                      exact ⟨by have := HFIT.out (by simp); have := HXL.out; have := HFL.out; omega, HGX.out⟩
                  case measure => simp [intOf] <;> omega
                · have hfb : (fr == 0) = false := by simp [hf0]
                  go_wp2
                  go_roundw
                  case rel => exact ⟨k + 1, m, ls, by omega, by omega, by omega, by go_num, HRO6.out, HGD.out, HB6.out⟩
                  case measure => simp [intOf] <;> omega
            · by_cases hkn : k < n
              · have hk40 : k = 40 := by omega
                subst hk40
                have hkni : (40 : Int) < (n : Int) := by omega
                go_wp2
                go_meet
                case rel => exact ⟨m, ls, by omega, HRO.out, HGD.out, HB.out⟩
              · have hkni : (n : Int) ≤ (k : Int) := by omega
                go_wp2
                go_meet
                case rel => exact ⟨m, ls, by omega, HRO.out, HGD.out, HB.out⟩
        case rest =>
          obtain ⟨wb, rfl⟩ : ∃ W : World, W = wc := ⟨_, rfl⟩
          obtain ⟨m, ls, hm, hro, hgood, hb⟩ := hcut
          obtain ⟨ga, gc, rfl⟩ := hro.shape
          have HFS := Lib.hid hro.sl
          have HBC := Lib.hid hb
          have MC := Lib.hid (Mw4.out.call hb)
          have hll := hro.1
          have HLL := Lib.hid hll
          have hgr : GoodRows fnn ls := hgood
          have HGR := Lib.hid hgr
          have HSTL := Lib.hid (statsAt_len fnn ls)
          have HSTG := Lib.hid (fun (k : Nat) (hk : k < fnn) => statsAt_get (rows := ls) hk)
          have hsok : ∀ st ∈ statsAt fnn ls, StatOK st := fun st hst => by
            unfold statsAt at hst
            obtain ⟨k, hk, rfl⟩ := List.mem_map.1 hst
            exact stats_ok (hgr.col (List.mem_range.1 hk)) (by rw [colAt_len]; omega)
          have HSOK := Lib.hid hsok
          have hprune : ∀ r ∈ ls, (mayN s.fields (statsAt fnn ls) d p).get (evalN s.fields r d p) = true := fun r hr => by
            have := prunes (fs := s.fields) (rows := ls) (by rw [HFL.out]; exact hgr) hr d p
            rwa [HFL.out] at this
          have HPRU := Lib.hid hprune
          have HEVN := Lib.hid (evalN_le s.fields)
          generalize hsts : statsAt fnn ls = sts at *
          clear hro hb hll hgood hgr hsok hprune hsts
          go_upto_block 2 with fail
          go_cut [10] (fun v wx => wx.ownsRow wb.heap.size 29 10 v fnn (sts.flatMap statV) ∧ Below wb.heap.size wb wx)
          case first =>
            go_wp2_with fail
            go_loopw [10, 11] (fun v i wr => ∃ k : Nat, k ≤ fnn ∧ i = .int .i64 (k : Int) ∧ wr.ownsRow wb.heap.size 29 10 v k ((sts.take k).flatMap statV) ∧ Below wb.heap.size wb wr) (fun _ i _ => fnn - (intOf i).toNat)
            case atStart => exact ⟨0, Nat.zero_le _, rfl, World.ownsRow_nil _ _ _ _, Below.refl _ _⟩
            case round =>
              obtain ⟨k, hk, rfl, hown, hb⟩ := hrel
              have HO := Lib.hid hown
              have HB := Lib.hid hb
              have MR := Lib.hid (MC.out.call hb)
              clear hown hb
              have hki : (0 : Int) ≤ (k : Int) := by omega
              have q1_1 : wr.cell? ⟨w.heap.size + 1, 1, none⟩ = some (.slice fa fnn fc) := MR.out.cell 1 1 rfl rfl
              by_cases hlt : k < fnn
              · have hkn : (k : Int) < (fnn : Int) := by omega
                obtain ⟨wo, rfl⟩ : ∃ W : World, W = wr := ⟨_, rfl⟩
                go_upto_block 4 with fail
                go_cut [12] (fun u wx => wx.ownsRow wo.heap.size 27 3 u m ((colAt ls k).flatMap cellV) ∧ Below wo.heap.size wo wx)
                case first =>
                  go_wp2_with fail
                  go_loopw [12, 13] (fun u j wr => ∃ q : Nat, q ≤ m ∧ j = .int .i64 (q : Int) ∧ wr.ownsRow wo.heap.size 27 3 u q (((colAt ls k).take q).flatMap cellV) ∧ Below wo.heap.size wo wr) (fun _ j _ => m - (intOf j).toNat)
                  case atStart => exact ⟨0, Nat.zero_le _, rfl, World.ownsRow_nil _ _ _ _, Below.refl _ _⟩
                  case round =>
                    obtain ⟨q, hq, rfl, hown, hb⟩ := hrel
                    have HOI := Lib.hid hown
                    have HBI := Lib.hid hb
                    have HBCI := Lib.hid (HB.out.trans (hb.mono HB.out.size))
                    clear hown hb
                    have hqi : (0 : Int) ≤ (q : Int) := by omega
                    by_cases hqm : q < m
                    · have hqmi : (q : Int) < (m : Int) := by omega
                      obtain ⟨b, off, x, xv, rfl, hbl, hx, hxr, hcell⟩ := HFS.out.at1 hqm
                      obtain ⟨xa, xn, xc, hxv, hrow⟩ := hxr
                      simp only [List.cons.injEq, and_true] at hxv
                      subst hxv
                      have hxl : x.length = fnn := (HGR.out x (List.mem_of_getElem? hx)).1
                      have hxn : fnn = xn := by have := hrow.1; omega
                      subst hxn
                      have d0 := (HBCI.out.cell (p := ⟨b, off + q, none⟩) hbl).trans hcell
                      obtain ⟨b2, off2, ce, cs, rfl, hbl2, hx2, hcl2, hr2, hcell2⟩ := hrow.at_ hlt
                      obtain ⟨rfl, _⟩ := hr2
                      have e0 := (HBCI.out.cell (p := ⟨b2, off2 + k * 3 + 0, none⟩) hbl2).trans (hcell2 0 _ rfl)
                      have e1 := (HBCI.out.cell (p := ⟨b2, off2 + k * 3 + 1, none⟩) hbl2).trans (hcell2 1 _ rfl)
                      have e2 := (HBCI.out.cell (p := ⟨b2, off2 + k * 3 + 2, none⟩) hbl2).trans (hcell2 2 _ rfl)
                      rw [Nat.add_zero] at e0
                      have hsn := flat_snoc (f := cellV) (colAt_get hx hx2)
                      obtain ⟨ck, cn, cst⟩ := ce
                      simp only [] at e0 e1 e2
                      have HSN := Lib.hid (show ((colAt ls k).take (q + 1)).flatMap cellV = ((colAt ls k).take q).flatMap cellV ++ [.int .u8 ck, .int .i64 cn, .string cst] by rw [hsn]; rfl)
                      have h63 : q + 1 ≤ maxLen := by unfold maxLen; omega
                      have hby : (q + 1) * 32 ≤ 140737488355328 := by omega
                      have hbase : wo.heap.size ≤ (wr.alloc (.cells #[.int .u8 ck, .int .i64 cn, .string cst] 27)).heap.size := by have := HBI.out.size; simp; omega
                      have hone : ∀ u ∈ ([.int .u8 ck, .int .i64 cn, .string cst] : List Value), u.oneCell' = true := by simp [Value.oneCell']
                      have hcl : ∀ j u, ([.int .u8 ck, .int .i64 cn, .string cst] : List Value)[j]? = some u → (wr.alloc (.cells #[.int .u8 ck, .int .i64 cn, .string cst] 27)).cell? ((⟨wr.heap.size, 0, none⟩ : Addr).add j) = some u := fun j u hj => by
                        have := CellsAt.alloc_at wr #[.int .u8 ck, .int .i64 cn, .string cst] 27 wr.heap.size rfl j u (by simpa using hj)
                        rw [show ((⟨wr.heap.size, 0, none⟩ : Addr).add j) = ⟨wr.heap.size, j, none⟩ by (simp [Addr.add] <;> omega)]
                        exact this
                      have HBASE := Lib.hid hbase
                      have HONE := Lib.hid hone
                      have HCL := Lib.hid hcl
                      clear hbase hone hcl hsn hcell hcell2 hx hx2 hcl2 hrow
                      go_wp2_with (at_builtin; refine wpList_append_lies _ rfl _ _ _ rfl wo.heap.size 27 j0 (.agg #[.int .u8 0, .int .i64 0, .string ByteArray.empty]) 3 32 Try.underlying22 HJ.out HY0.out HY1.out HY2.out rfl (by decide) _ _ _ rfl (HOI.out.alloc _) ⟨wr.heap.size, 0, none⟩ 1 1 [.int .u8 ck, .int .i64 cn, .string cst] rfl rfl HCL.out HONE.out (by decide) h63 hby HBASE.out _ rfl ?_; intro g cap w2 hown2 hgrow hat hglt)
                      have hb2 := below_append HOI.out HBI.out hgrow
                      clear hgrow hat
                      go_roundw
                      case rel =>
                        refine ⟨q + 1, by omega, by go_num, ?_, hb2⟩
                        rw [HSN.out]
                        exact hown2
                      case measure => simp [intOf] <;> omega
                    · obtain rfl : q = m := by omega
                      go_wp2
                      go_meet
                      case rel =>
                        have h1 : (colAt ls k).take q = colAt ls k := List.take_of_length_le (by rw [colAt_len, HLL.out]; omega)
                        have := HOI.out
                        rw [h1] at this
                        exact ⟨this, HBI.out⟩
                case rest =>
                  obtain ⟨wd, rfl⟩ : ∃ W : World, W = wc := ⟨_, rfl⟩
                  obtain ⟨hown, hb⟩ := hcut
                  have hgc := HGR.out.col hlt
                  have hcells := hgc.cells
                  have hsize : ∀ v ∈ (colAt ls k).map goodVal, v.cell.s.size ≤ 1000000 := by
                    intro v hv
                    obtain ⟨x, hx, rfl⟩ := List.mem_map.1 hv
                    rw [good_cell x (hgc x hx).2.1]
                    have := fix_size x; omega
                  have HSIZE := Lib.hid hsize
                  obtain ⟨a2, c2, rfl, _⟩ := own_slice hown
                  have HSL := Lib.hid (own_sl (R := CellR) (by decide) cellV_len (hgc.reads _) hown)
                  have HBD := Lib.hid hb
                  have hsg := HSTG.out k hlt
                  have hsn := flat_snoc (f := statV) hsg
                  generalize hcol : colAt ls k = col at *
                  have HOD := Lib.hid (own_below HO.out hb)
                  have HBCD := Lib.hid (HB.out.trans (hb.mono HB.out.size))
                  have hstc := fun a n c w0 (h : Sl 1 ValR w0 a n (col.map goodVal)) (hn : n ≤ 1000) => stats_calls a n c (col.map goodVal) w0 h hn HSIZE.out
                  rw [hcells] at hstc
                  obtain ⟨st, hst⟩ : ∃ st, statsF col = st := ⟨_, rfl⟩
                  rw [hst] at hstc hsn
                  obtain ⟨rw_, nl, sm, hi, ⟨lk, ln, lst⟩, ⟨mk, mn, mst⟩⟩ := st
                  simp only [StatD.cells] at hstc
                  have HSTC := Lib.hid hstc
                  have HSN := Lib.hid (show (sts.take (k + 1)).flatMap statV = (sts.take k).flatMap statV ++ [.int .i64 rw_, .int .i64 nl, .bool sm, .bool hi, .int .u8 lk, .int .i64 ln, .string lst, .int .u8 mk, .int .i64 mn, .string mst] by rw [hsn]; rfl)
                  clear hown hb hstc hsn hst hsg hcells hsize hgc
                  go_wp2_with fail
                  refine (row_calls a2 m c2 col _ HSL.out (by omega)).mono ?_
                  rintro e w3 ⟨v3, rfl, hown3, hb3⟩
                  obtain ⟨a3, c3, rfl, hsl3⟩ := row_sl hown3
                  have HO3 := Lib.hid (own_below HOD.out hb3)
                  have HB3 := Lib.hid (HBCD.out.trans (hb3.mono HBCD.out.size))
                  clear hown3 hb3
                  go_wp2_with fail
                  refine (HSTC.out _ _ _ _ hsl3 (by omega)).mono ?_
                  rintro e w4 ⟨rfl, hb4⟩
                  have HO4 := Lib.hid (own_below HO3.out hb4)
                  have HB4 := Lib.hid (HB3.out.trans (hb4.mono HB3.out.size))
                  clear hb4 hsl3
                  have h63 : k + 1 ≤ maxLen := by unfold maxLen; omega
                  have hby : (k + 1) * 88 ≤ 140737488355328 := by omega
                  have hbase : wb.heap.size ≤ (w4.alloc (.cells #[.int .i64 rw_, .int .i64 nl, .bool sm, .bool hi, .int .u8 lk, .int .i64 ln, .string lst, .int .u8 mk, .int .i64 mn, .string mst] 29)).heap.size := by have := HB4.out.size; simp; omega
                  have hone : ∀ u ∈ ([.int .i64 rw_, .int .i64 nl, .bool sm, .bool hi, .int .u8 lk, .int .i64 ln, .string lst, .int .u8 mk, .int .i64 mn, .string mst] : List Value), u.oneCell' = true := by simp [Value.oneCell']
                  have hcl : ∀ j u, ([.int .i64 rw_, .int .i64 nl, .bool sm, .bool hi, .int .u8 lk, .int .i64 ln, .string lst, .int .u8 mk, .int .i64 mn, .string mst] : List Value)[j]? = some u → (w4.alloc (.cells #[.int .i64 rw_, .int .i64 nl, .bool sm, .bool hi, .int .u8 lk, .int .i64 ln, .string lst, .int .u8 mk, .int .i64 mn, .string mst] 29)).cell? ((⟨w4.heap.size, 0, none⟩ : Addr).add j) = some u := fun j u hj => by
                    have := CellsAt.alloc_at w4 #[.int .i64 rw_, .int .i64 nl, .bool sm, .bool hi, .int .u8 lk, .int .i64 ln, .string lst, .int .u8 mk, .int .i64 mn, .string mst] 29 w4.heap.size rfl j u (by simpa using hj)
                    rw [show ((⟨w4.heap.size, 0, none⟩ : Addr).add j) = ⟨w4.heap.size, j, none⟩ by (simp [Addr.add] <;> omega)]
                    exact this
                  have HBASE := Lib.hid hbase
                  have HONE := Lib.hid hone
                  have HCL := Lib.hid hcl
                  clear hbase hone hcl
                  go_wp2_with (at_builtin; refine wpList_append_lies _ rfl _ _ _ rfl wb.heap.size 29 l0 (.agg #[.int .i64 0, .int .i64 0, .bool false, .bool false, .int .u8 0, .int .i64 0, .string ByteArray.empty, .int .u8 0, .int .i64 0, .string ByteArray.empty]) 10 88 Try.underlying50 HL.out HX0.out HX1.out HX2.out rfl (by decide) _ _ _ rfl (HO4.out.alloc _) ⟨w4.heap.size, 0, none⟩ 1 1 [.int .i64 rw_, .int .i64 nl, .bool sm, .bool hi, .int .u8 lk, .int .i64 ln, .string lst, .int .u8 mk, .int .i64 mn, .string mst] rfl rfl HCL.out HONE.out (by decide) h63 hby HBASE.out _ rfl ?_; intro g cap w5 hown5 hgrow5 hat5 hglt5)
                  have hb5 := below_append HO4.out HB4.out hgrow5
                  clear hgrow5 hat5
                  go_roundw
                  case rel =>
                    refine ⟨k + 1, by omega, by go_num, ?_, hb5⟩
                    rw [HSN.out]
                    exact hown5
                  case measure => simp [intOf] <;> omega
              · obtain rfl : k = fnn := by omega
                go_wp2
                go_meet
                case rel =>
                  have h1 : sts.take k = sts := List.take_of_length_le (by rw [HSTL.out]; omega)
                  have := HO.out
                  rw [h1] at this
                  exact ⟨this, HB.out⟩
          case rest =>
            obtain ⟨we, rfl⟩ : ∃ W : World, W = wc := ⟨_, rfl⟩
            obtain ⟨hown, hb⟩ := hcut
            obtain ⟨a3, c3, rfl, _⟩ := own_slice hown
            have hst3 : Sl 10 StatR _ a3 fnn sts := own_sl (R := StatR) (by decide) statV_len (fun st hst => ⟨rfl, HSOK.out st hst⟩) hown
            have HST := Lib.hid hst3
            have HBE := Lib.hid hb
            have ME := Lib.hid (MC.out.call hb)
            clear hown hb hst3
            generalize hmy : mayN s.fields sts d p = my at *
            obtain ⟨m0, m1, m2⟩ := my
            have hmay := may_all d p _ s _ a3 fnn c3 sts we (PredR.stable d _ _ _ _ ME.out.below HP.out) (SchemaR.stable _ _ _ _ ME.out.below HSC.out) (by have := HFL.out; omega) HST.out (by omega)
            rw [hmy] at hmay
            simp only [B3.cells] at hmay
            have HMAY := Lib.hid hmay
            clear hmay hmy
            have q0_0 : we.cell? ⟨w.heap.size, 0, none⟩ = some (.int .u8 (p.op : Int)) := ME.out.cell 0 0 rfl rfl
            have q0_1 : we.cell? ⟨w.heap.size, 1, none⟩ = some (.int .u32 (p.field : Int)) := ME.out.cell 0 1 rfl rfl
            have q0_2 : we.cell? ⟨w.heap.size, 2, none⟩ = some (.int .u8 p.value.kind) := ME.out.cell 0 2 rfl rfl
            have q0_3 : we.cell? ⟨w.heap.size, 3, none⟩ = some (.int .i64 p.value.n) := ME.out.cell 0 3 rfl rfl
            have q0_4 : we.cell? ⟨w.heap.size, 4, none⟩ = some (.string p.value.s) := ME.out.cell 0 4 rfl rfl
            have q0_5 : we.cell? ⟨w.heap.size, 5, none⟩ = some (.slice ka kn kc) := ME.out.cell 0 5 rfl rfl
            have q1_0 : we.cell? ⟨w.heap.size + 1, 0, none⟩ = some (.int .u32 (s.id : Int)) := ME.out.cell 1 0 rfl rfl
            have q1_1 : we.cell? ⟨w.heap.size + 1, 1, none⟩ = some (.slice fa fnn fc) := ME.out.cell 1 1 rfl rfl
            go_wp2_with fail
            refine HMAY.out.mono ?_
            rintro e w11 ⟨rfl, hb11⟩
            have M11 := Lib.hid (ME.out.call hb11)
            have HB11 := Lib.hid (HBE.out.trans (hb11.mono HBE.out.size))
            clear q0_0 q0_1 q0_2 q0_3 q0_4 q0_5 q1_0 q1_1
            clear hb11
            go_wp2
            obtain ⟨W12, hw4⟩ : ∃ W12 : World, W12 = w11.alloc (.cells #[.bool m0, .bool m1, .bool m2] 51) := ⟨_, rfl⟩
            have hb12 : Below w11.heap.size w11 W12 := by rw [hw4]; exact (Below.refl _ _).alloc (Nat.le_refl _) _
            have hx12 : Box W12 w11.heap.size #[.bool m0, .bool m1, .bool m2] := by rw [hw4]; exact Box.new _ _ _
            rw [← hw4]
            clear hw4
            have M12 := Lib.hid (M11.out.call hb12)
            have HB12 := Lib.hid (HB11.out.trans (hb12.mono HB11.out.size))
            have X12 := Lib.hid hx12
            clear hb12 hx12
            go_loopw [15] (fun i wr => ∃ k : Nat, k ≤ m ∧ i = .int .i64 (k : Int) ∧ Below W12.heap.size W12 wr) (fun i _ => m - (intOf i).toNat)
            case atStart => exact ⟨0, Nat.zero_le _, rfl, Below.refl _ _⟩
            case round =>
              obtain ⟨k, hk, rfl, hb⟩ := hrel
              have HB := Lib.hid hb
              have MR := Lib.hid (M12.out.call hb)
              have XR := Lib.hid (X12.out.call hb)
              have HBF := Lib.hid (HB12.out.trans (hb.mono HB12.out.size))
              clear hb
              have hki : (0 : Int) ≤ (k : Int) := by omega
              by_cases hlt : k < m
              · have hkn : (k : Int) < (m : Int) := by omega
                obtain ⟨b, off, x, xv, rfl, hbl, hx, hxr, hcell⟩ := HFS.out.at1 hlt
                obtain ⟨xa, xn, xc, hxv, hrow⟩ := hxr
                simp only [List.cons.injEq, and_true] at hxv
                subst hxv
                have hmem := List.mem_of_getElem? hx
                obtain ⟨hxl, hgx⟩ := HGR.out x hmem
                have hxn : fnn = xn := by have := hrow.1; omega
                subst hxn
                have d0 := (HBF.out.cell (p := ⟨b, off + k, none⟩) hbl).trans hcell
                have hbwr : b < wr.heap.size := Nat.lt_of_lt_of_le hbl HBF.out.size
                have HROWF := Lib.hid (fun (W : World) (h : Below wr.heap.size wr W) => hrow.below CellR.stable (HBF.out.trans (h.mono HBF.out.size)))
                have hpf := fun (W : World) (h : Below wr.heap.size wr W) => PredR.stable d _ _ _ _ (MR.out.call h).below HP.out
                have hsf := fun (W : World) (h : Below wr.heap.size wr W) => SchemaR.stable _ _ _ _ (MR.out.call h).below HSC.out
                have hcells := hgx.cells
                have hsize : ∀ v ∈ x.map goodVal, v.cell.s.size ≤ 100000 := by
                  intro v hv
                  obtain ⟨y, hy, rfl⟩ := List.mem_map.1 hv
                  rw [good_cell y (hgx y hy).2.1]
                  have := fix_size y; omega
                have hev := fun a' c' (W : World) (h1 : Below wr.heap.size wr W) (h2 : Sl 1 ValR W a' fnn (x.map goodVal)) => eval_all d p _ s _ a' fnn c' (x.map goodVal) W (hpf W h1) (hsf W h1) (by have := HFL.out; omega) h2 (by omega) hsize
                rw [hcells] at hev
                have hget := HPRU.out x hmem
                have hle := HEVN.out x d p
                generalize evalN s.fields x d p = ev at *
                have hS : ∀ W, Below wr.heap.size wr W → W.cell? ⟨w.heap.size, 0, none⟩ = some (.int .u8 (p.op : Int)) ∧ W.cell? ⟨w.heap.size, 1, none⟩ = some (.int .u32 (p.field : Int)) ∧ W.cell? ⟨w.heap.size, 2, none⟩ = some (.int .u8 p.value.kind) ∧ W.cell? ⟨w.heap.size, 3, none⟩ = some (.int .i64 p.value.n) ∧ W.cell? ⟨w.heap.size, 4, none⟩ = some (.string p.value.s) ∧ W.cell? ⟨w.heap.size, 5, none⟩ = some (.slice ka kn kc) ∧ W.cell? ⟨w.heap.size + 1, 0, none⟩ = some (.int .u32 (s.id : Int)) ∧ W.cell? ⟨w.heap.size + 1, 1, none⟩ = some (.slice fa fnn fc) ∧ W.cell? ⟨b, off + k, none⟩ = some (.slice xa fnn xc) ∧ W.cell? ⟨w11.heap.size, 0, none⟩ = some (.bool m0) ∧ W.cell? ⟨w11.heap.size, 1, none⟩ = some (.bool m1) ∧ W.cell? ⟨w11.heap.size, 2, none⟩ = some (.bool m2) := fun W h => ⟨(MR.out.call h).cell 0 0 rfl rfl, (MR.out.call h).cell 0 1 rfl rfl, (MR.out.call h).cell 0 2 rfl rfl, (MR.out.call h).cell 0 3 rfl rfl, (MR.out.call h).cell 0 4 rfl rfl, (MR.out.call h).cell 0 5 rfl rfl, (MR.out.call h).cell 1 0 rfl rfl, (MR.out.call h).cell 1 1 rfl rfl, (h.cell (p := ⟨b, off + k, none⟩) hbwr).trans d0, (XR.out.call h).cell 0 rfl, (XR.out.call h).cell 1 rfl, (XR.out.call h).cell 2 rfl⟩
                clear hpf hsf hcells hsize hrow hcell hx hmem hxl hgx d0
                have hev3 : ev = 0 ∨ ev = 1 ∨ ev = 2 := by omega
                rcases hev3 with rfl | rfl | rfl
                · have hm0 : m0 = true := by simpa [B3.get] using hget
                  have e0 : ((0 : Nat) : Int) = 0 := rfl
                  rw [e0] at hev
                  subst hm0
                  have HEV := Lib.hid hev
                  have HSS := Lib.hid hS
                  clear hev hS
                  go_wp2_with fail
                  go_region_held3 (fun W => W.cell? ⟨w.heap.size, 0, none⟩ = some (.int .u8 (p.op : Int)) ∧ W.cell? ⟨w.heap.size, 1, none⟩ = some (.int .u32 (p.field : Int)) ∧ W.cell? ⟨w.heap.size, 2, none⟩ = some (.int .u8 p.value.kind) ∧ W.cell? ⟨w.heap.size, 3, none⟩ = some (.int .i64 p.value.n) ∧ W.cell? ⟨w.heap.size, 4, none⟩ = some (.string p.value.s) ∧ W.cell? ⟨w.heap.size, 5, none⟩ = some (.slice ka kn kc) ∧ W.cell? ⟨w.heap.size + 1, 0, none⟩ = some (.int .u32 (s.id : Int)) ∧ W.cell? ⟨w.heap.size + 1, 1, none⟩ = some (.slice fa fnn fc) ∧ W.cell? ⟨b, off + k, none⟩ = some (.slice xa fnn xc) ∧ W.cell? ⟨w11.heap.size, 0, none⟩ = some (.bool true) ∧ W.cell? ⟨w11.heap.size, 1, none⟩ = some (.bool m1) ∧ W.cell? ⟨w11.heap.size, 2, none⟩ = some (.bool m2))
                    (first | (refine HSS.out _ ?_; exact (by repeat (first | exact Below.refl _ _ | (with_reducible refine Below.drew ?_) | (with_reducible refine Below.alloc ?_ (by first | exact Nat.le_refl _ | exact K6.out.size | exact K5.out.size | (simp; done) | (have := K6.out.size; simp; omega) | (have := K5.out.size; simp; omega) | (simp; omega)) _) | (with_reducible exact K6.out) | (with_reducible exact K5.out)))))
                    (first
                      | (go_at_call 9; (with_reducible refine (row_calls xa fnn xc x _ (HROWF.out _ (by repeat (first | exact Below.refl _ _ | (with_reducible refine Below.drew ?_) | (with_reducible refine Below.alloc ?_ (by first | exact Nat.le_refl _ | exact K6.out.size | exact K5.out.size | (simp; done) | (have := K6.out.size; simp; omega) | (have := K5.out.size; simp; omega) | (simp; omega)) _) | (with_reducible exact K6.out) | (with_reducible exact K5.out)))) (by omega)).mono ?_); rintro e w5 ⟨v5, rfl, hown5, hp5⟩; have k5 := below_step (W0 := wr) (by repeat (first | exact Below.refl _ _ | (with_reducible refine Below.drew ?_) | (with_reducible refine Below.alloc ?_ (by first | exact Nat.le_refl _ | exact K6.out.size | exact K5.out.size | (simp; done) | (have := K6.out.size; simp; omega) | (have := K5.out.size; simp; omega) | (simp; omega)) _) | (with_reducible exact K6.out) | (with_reducible exact K5.out))) hp5; have K5 := Lib.hid k5; obtain ⟨a5, c5, rfl, hsl5⟩ := row_sl hown5; have SL5 := Lib.hid hsl5; clear hown5 hp5 k5 hsl5)
                      | (go_at_call 18; (with_reducible refine (HEV.out a5 c5 _ (by repeat (first | exact Below.refl _ _ | (with_reducible refine Below.drew ?_) | (with_reducible refine Below.alloc ?_ (by first | exact Nat.le_refl _ | exact K6.out.size | exact K5.out.size | (simp; done) | (have := K6.out.size; simp; omega) | (have := K5.out.size; simp; omega) | (simp; omega)) _) | (with_reducible exact K6.out) | (with_reducible exact K5.out))) (SL5.out.below ValR.stable (by repeat (first | exact Below.refl _ _ | (with_reducible refine Below.drew ?_) | (with_reducible refine Below.alloc ?_ (by first | exact Nat.le_refl _ | (simp; done) | (simp; omega)) _))))).mono ?_); rintro e w6 ⟨rfl, hp6⟩; have k6 := below_step (W0 := wr) (by repeat (first | exact Below.refl _ _ | (with_reducible refine Below.drew ?_) | (with_reducible refine Below.alloc ?_ (by first | exact Nat.le_refl _ | exact K6.out.size | exact K5.out.size | (simp; done) | (have := K6.out.size; simp; omega) | (have := K5.out.size; simp; omega) | (simp; omega)) _) | (with_reducible exact K6.out) | (with_reducible exact K5.out))) hp6; have K6 := Lib.hid k6; clear hp6 k6)
                      | fail)
                  all_goals go_wp2_with fail
                  all_goals go_roundw
                  case rel => exact ⟨k + 1, by omega, by go_num, HB.out.trans (Below.mono (by repeat (first | exact Below.refl _ _ | (with_reducible refine Below.drew ?_) | (with_reducible refine Below.alloc ?_ (by first | exact Nat.le_refl _ | exact K6.out.size | exact K5.out.size | (simp; done) | (have := K6.out.size; simp; omega) | (have := K5.out.size; simp; omega) | (simp; omega)) _) | (with_reducible exact K6.out) | (with_reducible exact K5.out))) HB.out.size)⟩
                  case measure => simp [intOf] <;> omega
                · have hm1 : m1 = true := by simpa [B3.get] using hget
                  have e1 : ((1 : Nat) : Int) = 1 := rfl
                  rw [e1] at hev
                  subst hm1
                  have HEV := Lib.hid hev
                  have HSS := Lib.hid hS
                  clear hev hS
                  go_wp2_with fail
                  go_region_held3 (fun W => W.cell? ⟨w.heap.size, 0, none⟩ = some (.int .u8 (p.op : Int)) ∧ W.cell? ⟨w.heap.size, 1, none⟩ = some (.int .u32 (p.field : Int)) ∧ W.cell? ⟨w.heap.size, 2, none⟩ = some (.int .u8 p.value.kind) ∧ W.cell? ⟨w.heap.size, 3, none⟩ = some (.int .i64 p.value.n) ∧ W.cell? ⟨w.heap.size, 4, none⟩ = some (.string p.value.s) ∧ W.cell? ⟨w.heap.size, 5, none⟩ = some (.slice ka kn kc) ∧ W.cell? ⟨w.heap.size + 1, 0, none⟩ = some (.int .u32 (s.id : Int)) ∧ W.cell? ⟨w.heap.size + 1, 1, none⟩ = some (.slice fa fnn fc) ∧ W.cell? ⟨b, off + k, none⟩ = some (.slice xa fnn xc) ∧ W.cell? ⟨w11.heap.size, 0, none⟩ = some (.bool m0) ∧ W.cell? ⟨w11.heap.size, 1, none⟩ = some (.bool true) ∧ W.cell? ⟨w11.heap.size, 2, none⟩ = some (.bool m2))
                    (first | (refine HSS.out _ ?_; exact (by repeat (first | exact Below.refl _ _ | (with_reducible refine Below.drew ?_) | (with_reducible refine Below.alloc ?_ (by first | exact Nat.le_refl _ | exact K6.out.size | exact K5.out.size | (simp; done) | (have := K6.out.size; simp; omega) | (have := K5.out.size; simp; omega) | (simp; omega)) _) | (with_reducible exact K6.out) | (with_reducible exact K5.out)))))
                    (first
                      | (go_at_call 9; (with_reducible refine (row_calls xa fnn xc x _ (HROWF.out _ (by repeat (first | exact Below.refl _ _ | (with_reducible refine Below.drew ?_) | (with_reducible refine Below.alloc ?_ (by first | exact Nat.le_refl _ | exact K6.out.size | exact K5.out.size | (simp; done) | (have := K6.out.size; simp; omega) | (have := K5.out.size; simp; omega) | (simp; omega)) _) | (with_reducible exact K6.out) | (with_reducible exact K5.out)))) (by omega)).mono ?_); rintro e w5 ⟨v5, rfl, hown5, hp5⟩; have k5 := below_step (W0 := wr) (by repeat (first | exact Below.refl _ _ | (with_reducible refine Below.drew ?_) | (with_reducible refine Below.alloc ?_ (by first | exact Nat.le_refl _ | exact K6.out.size | exact K5.out.size | (simp; done) | (have := K6.out.size; simp; omega) | (have := K5.out.size; simp; omega) | (simp; omega)) _) | (with_reducible exact K6.out) | (with_reducible exact K5.out))) hp5; have K5 := Lib.hid k5; obtain ⟨a5, c5, rfl, hsl5⟩ := row_sl hown5; have SL5 := Lib.hid hsl5; clear hown5 hp5 k5 hsl5)
                      | (go_at_call 18; (with_reducible refine (HEV.out a5 c5 _ (by repeat (first | exact Below.refl _ _ | (with_reducible refine Below.drew ?_) | (with_reducible refine Below.alloc ?_ (by first | exact Nat.le_refl _ | exact K6.out.size | exact K5.out.size | (simp; done) | (have := K6.out.size; simp; omega) | (have := K5.out.size; simp; omega) | (simp; omega)) _) | (with_reducible exact K6.out) | (with_reducible exact K5.out))) (SL5.out.below ValR.stable (by repeat (first | exact Below.refl _ _ | (with_reducible refine Below.drew ?_) | (with_reducible refine Below.alloc ?_ (by first | exact Nat.le_refl _ | (simp; done) | (simp; omega)) _))))).mono ?_); rintro e w6 ⟨rfl, hp6⟩; have k6 := below_step (W0 := wr) (by repeat (first | exact Below.refl _ _ | (with_reducible refine Below.drew ?_) | (with_reducible refine Below.alloc ?_ (by first | exact Nat.le_refl _ | exact K6.out.size | exact K5.out.size | (simp; done) | (have := K6.out.size; simp; omega) | (have := K5.out.size; simp; omega) | (simp; omega)) _) | (with_reducible exact K6.out) | (with_reducible exact K5.out))) hp6; have K6 := Lib.hid k6; clear hp6 k6)
                      | fail)
                  all_goals go_wp2_with fail
                  all_goals go_roundw
                  case rel => exact ⟨k + 1, by omega, by go_num, HB.out.trans (Below.mono (by repeat (first | exact Below.refl _ _ | (with_reducible refine Below.drew ?_) | (with_reducible refine Below.alloc ?_ (by first | exact Nat.le_refl _ | exact K6.out.size | exact K5.out.size | (simp; done) | (have := K6.out.size; simp; omega) | (have := K5.out.size; simp; omega) | (simp; omega)) _) | (with_reducible exact K6.out) | (with_reducible exact K5.out))) HB.out.size)⟩
                  case measure => simp [intOf] <;> omega
                · have hm2 : m2 = true := by simpa [B3.get] using hget
                  have e2 : ((2 : Nat) : Int) = 2 := rfl
                  rw [e2] at hev
                  subst hm2
                  have HEV := Lib.hid hev
                  have HSS := Lib.hid hS
                  clear hev hS
                  go_wp2_with fail
                  go_region_held3 (fun W => W.cell? ⟨w.heap.size, 0, none⟩ = some (.int .u8 (p.op : Int)) ∧ W.cell? ⟨w.heap.size, 1, none⟩ = some (.int .u32 (p.field : Int)) ∧ W.cell? ⟨w.heap.size, 2, none⟩ = some (.int .u8 p.value.kind) ∧ W.cell? ⟨w.heap.size, 3, none⟩ = some (.int .i64 p.value.n) ∧ W.cell? ⟨w.heap.size, 4, none⟩ = some (.string p.value.s) ∧ W.cell? ⟨w.heap.size, 5, none⟩ = some (.slice ka kn kc) ∧ W.cell? ⟨w.heap.size + 1, 0, none⟩ = some (.int .u32 (s.id : Int)) ∧ W.cell? ⟨w.heap.size + 1, 1, none⟩ = some (.slice fa fnn fc) ∧ W.cell? ⟨b, off + k, none⟩ = some (.slice xa fnn xc) ∧ W.cell? ⟨w11.heap.size, 0, none⟩ = some (.bool m0) ∧ W.cell? ⟨w11.heap.size, 1, none⟩ = some (.bool m1) ∧ W.cell? ⟨w11.heap.size, 2, none⟩ = some (.bool true))
                    (first | (refine HSS.out _ ?_; exact (by repeat (first | exact Below.refl _ _ | (with_reducible refine Below.drew ?_) | (with_reducible refine Below.alloc ?_ (by first | exact Nat.le_refl _ | exact K6.out.size | exact K5.out.size | (simp; done) | (have := K6.out.size; simp; omega) | (have := K5.out.size; simp; omega) | (simp; omega)) _) | (with_reducible exact K6.out) | (with_reducible exact K5.out)))))
                    (first
                      | (go_at_call 9; (with_reducible refine (row_calls xa fnn xc x _ (HROWF.out _ (by repeat (first | exact Below.refl _ _ | (with_reducible refine Below.drew ?_) | (with_reducible refine Below.alloc ?_ (by first | exact Nat.le_refl _ | exact K6.out.size | exact K5.out.size | (simp; done) | (have := K6.out.size; simp; omega) | (have := K5.out.size; simp; omega) | (simp; omega)) _) | (with_reducible exact K6.out) | (with_reducible exact K5.out)))) (by omega)).mono ?_); rintro e w5 ⟨v5, rfl, hown5, hp5⟩; have k5 := below_step (W0 := wr) (by repeat (first | exact Below.refl _ _ | (with_reducible refine Below.drew ?_) | (with_reducible refine Below.alloc ?_ (by first | exact Nat.le_refl _ | exact K6.out.size | exact K5.out.size | (simp; done) | (have := K6.out.size; simp; omega) | (have := K5.out.size; simp; omega) | (simp; omega)) _) | (with_reducible exact K6.out) | (with_reducible exact K5.out))) hp5; have K5 := Lib.hid k5; obtain ⟨a5, c5, rfl, hsl5⟩ := row_sl hown5; have SL5 := Lib.hid hsl5; clear hown5 hp5 k5 hsl5)
                      | (go_at_call 18; (with_reducible refine (HEV.out a5 c5 _ (by repeat (first | exact Below.refl _ _ | (with_reducible refine Below.drew ?_) | (with_reducible refine Below.alloc ?_ (by first | exact Nat.le_refl _ | exact K6.out.size | exact K5.out.size | (simp; done) | (have := K6.out.size; simp; omega) | (have := K5.out.size; simp; omega) | (simp; omega)) _) | (with_reducible exact K6.out) | (with_reducible exact K5.out))) (SL5.out.below ValR.stable (by repeat (first | exact Below.refl _ _ | (with_reducible refine Below.drew ?_) | (with_reducible refine Below.alloc ?_ (by first | exact Nat.le_refl _ | (simp; done) | (simp; omega)) _))))).mono ?_); rintro e w6 ⟨rfl, hp6⟩; have k6 := below_step (W0 := wr) (by repeat (first | exact Below.refl _ _ | (with_reducible refine Below.drew ?_) | (with_reducible refine Below.alloc ?_ (by first | exact Nat.le_refl _ | exact K6.out.size | exact K5.out.size | (simp; done) | (have := K6.out.size; simp; omega) | (have := K5.out.size; simp; omega) | (simp; omega)) _) | (with_reducible exact K6.out) | (with_reducible exact K5.out))) hp6; have K6 := Lib.hid k6; clear hp6 k6)
                      | fail)
                  all_goals go_wp2_with fail
                  all_goals go_roundw
                  case rel => exact ⟨k + 1, by omega, by go_num, HB.out.trans (Below.mono (by repeat (first | exact Below.refl _ _ | (with_reducible refine Below.drew ?_) | (with_reducible refine Below.alloc ?_ (by first | exact Nat.le_refl _ | exact K6.out.size | exact K5.out.size | (simp; done) | (have := K6.out.size; simp; omega) | (have := K5.out.size; simp; omega) | (simp; omega)) _) | (with_reducible exact K6.out) | (with_reducible exact K5.out))) HB.out.size)⟩
                  case measure => simp [intOf] <;> omega
              · obtain rfl : k = m := by omega
                go_wp2
                go_ret
                exact ⟨rfl, MR.out.below⟩
      · have hrb : (r != 0) = true := by simp [hr0]
        go_wp2
        go_ret
        exact ⟨rfl, Mw4.out.below⟩
    · clear hg8
      have q0_0 : w3.cell? ⟨w.heap.size, 0, none⟩ = some (.int .u8 (p.op : Int)) := Mw3.out.cell 0 0 rfl rfl
      have q0_1 : w3.cell? ⟨w.heap.size, 1, none⟩ = some (.int .u32 (p.field : Int)) := Mw3.out.cell 0 1 rfl rfl
      have q0_2 : w3.cell? ⟨w.heap.size, 2, none⟩ = some (.int .u8 p.value.kind) := Mw3.out.cell 0 2 rfl rfl
      have q0_3 : w3.cell? ⟨w.heap.size, 3, none⟩ = some (.int .i64 p.value.n) := Mw3.out.cell 0 3 rfl rfl
      have q0_4 : w3.cell? ⟨w.heap.size, 4, none⟩ = some (.string p.value.s) := Mw3.out.cell 0 4 rfl rfl
      have q0_5 : w3.cell? ⟨w.heap.size, 5, none⟩ = some (.slice ka kn kc) := Mw3.out.cell 0 5 rfl rfl
      have q1_0 : w3.cell? ⟨w.heap.size + 1, 0, none⟩ = some (.int .u32 (s.id : Int)) := Mw3.out.cell 1 0 rfl rfl
      have q1_1 : w3.cell? ⟨w.heap.size + 1, 1, none⟩ = some (.slice fa fnn fc) := Mw3.out.cell 1 1 rfl rfl
      have z0 : w.heap.size < w3.heap.size := Mw3.out.lt 0 (by simp)
      have z1 : w.heap.size + 1 < w3.heap.size := Mw3.out.lt 1 (by simp)
      go_wp2
      go_ret
      exact ⟨rfl, Mw3.out.below⟩
end Go.Proofs.Ytkildbpfondgcaa
