/- The law PlanApart. -/
import Derived.Test.YtkofaoaglnjkgaaPlAlivem
import Derived.Test.YtkofaoaglnjkgaaPlHas
import Derived.Test.YtkofaoaglnjkgaaPrRefStats
import Derived.Test.YtkofaoaglnjkgaaPrPrPm
import Derived.Deep.DeepCutAuto
import Derived.Deep.CutBlock
namespace Go.Proofs.Ytkofaoaglnjkgaa
open Go.RowKit Go.Deep
set_option linter.unusedVariables false
set_option linter.unusedSimpArgs false

theorem stats_ok {l : List CellD} (hg : GoodCol l) (hn : l.length ≤ 1000) : StatOK (statsF l) := by
  have hst := stInv_all l
  have htx : ∀ s : ByteArray, s.size ≤ 64 → CellOK ⟨3, 0, s⟩ := fun s h => ⟨by show s.size ≤ maxLen; unfold maxLen; omega, by show (0 : Int) ≤ 3 ∧ (3 : Int) ≤ 255; decide, by show (-9223372036854775808 : Int) ≤ 0 ∧ (0 : Int) ≤ 9223372036854775807; decide⟩
  refine ⟨?_, ?_, ?_⟩
  · rw [stats_rows]; unfold IntOK; omega
  · rw [stats_nulls]; have := hst.nulls; unfold IntOK; omega
  · unfold statsF
    simp only []
    by_cases hs : (foldSt l).some = false
    · rw [if_pos hs]; exact ⟨cellOK0, cellOK0⟩
    · rw [if_neg hs]
      have hs : (foldSt l).some = true := by simpa using hs
      have hl := (hst.least hs).1
      have hm := (hst.most hs).1
      by_cases h3 : (foldSt l).least.kind = 3
      · rw [if_pos h3]
        by_cases ho : (foldSt l).ok = true
        · rw [if_pos ho]
          refine ⟨htx _ (firstF_size (hg.size _ hl)), ?_⟩
          show CellOK (if _ then _ else _)
          split
          · exact htx _ (aboveF_size (hg.size _ hm))
          · exact cellOK0
        · rw [if_neg ho]
          exact ⟨htx _ (by decide), cellOK0⟩
      · rw [if_neg h3]
        exact ⟨(hg _ hl).2.2, (hg _ hm).2.2⟩
theorem behind_not {x y : List CellD} (hx : GoodCol x) (hy : GoodCol y) {c : CellD} (h1 : c ∈ x) (h2 : c ∈ y) (hk : c.kind ≠ 0) : behindF (statsF x) (statsF y) = false := by
  unfold behindF
  rw [(stats_fix hx).1, (stats_fix hy).2]
  cases hh : (statsF y).high
  · rfl
  · rw [Bool.true_and]
    refine decide_eq_false fun h => ?_
    have := (cmpC_pos _ _).1 h
    exact LessC.not_trans (stats_top hy.col hh h2 hk) (stats_low hx.col h1 hk) this
theorem over_of {x y : List CellD} (hx : GoodCol x) (hy : GoodCol y) {c : CellD} (h1 : c ∈ x) (h2 : c ∈ y) (hk : c.kind ≠ 0) : overF (statsF x) (statsF y) = true := by
  unfold overF
  rw [some_of h1 hk, some_of h2 hk, behind_not hx hy h1 h2 hk, behind_not hy hx h2 h1 hk]
  rfl
/-- The good cells of a kind among the first. -/
def apF (q : Int) (l : List CellD) : List CellD := (l.map fix).filter fun c => decide (c.kind = q)
theorem apF_snoc {q : Int} {l : List CellD} {k : Nat} {c : CellD} (h : l[k]? = some c) : apF q (l.take (k + 1)) = apF q (l.take k) ++ (if (fix c).kind = q then [fix c] else []) := by
  unfold apF
  rw [List.take_add_one, h, List.map_append, List.filter_append]
  simp [List.filter_cons]
theorem apF_len (q : Int) (l : List CellD) (k : Nat) : (apF q (l.take k)).length ≤ k := by
  unfold apF
  refine Nat.le_trans (List.length_filter_le _ _) ?_
  rw [List.length_map, List.length_take]
  exact Nat.min_le_left _ _
theorem apF_good {q : Int} {l : List CellD} (h : ∀ x ∈ l, CellOK x) : GoodCol (apF q l) ∧ ∀ c ∈ apF q l, c.kind = q := by
  refine ⟨fun c hc => ?_, fun c hc => by simpa using (List.mem_filter.1 hc).2⟩
  obtain ⟨x, hx, rfl⟩ := List.mem_map.1 (List.mem_filter.1 hc).1
  refine ⟨fix_fix x, (fix_kind x (h x hx).2.1.1).1, ?_⟩
  unfold fix; split
  · exact h x hx
  · exact cellOK0
theorem mem_take_of {α : Type} {l : List α} {k : Nat} {p : α → Prop} (h : ∀ x ∈ l, p x) : ∀ x ∈ l.take k, p x := fun x hx => h x (List.mem_of_mem_take hx)
set_option maxRecDepth 100000 in
set_option maxHeartbeats 16000000 in
theorem planApart_calls (k : Int) (a : Option Addr) (n c : Nat) (xs : List CellD) (a' : Option Addr) (n' c' : Nat) (ys : List CellD) (w : World) (hk : 0 ≤ k ∧ k ≤ 255) (h : Sl 3 CellR w a n xs) (h' : Sl 3 CellR w a' n' ys) :
    Calls Try.prog 3 #[.int .u8 k, .slice a n c, .slice a' n' c'] w (TruePost w) := by
  obtain ⟨hk0, hk1⟩ := hk
  have hkm : 0 ≤ k % 3 ∧ k % 3 ≤ 2 := by omega
  have HXS := Lib.hid h
  have HYS := Lib.hid h'
  have hall : ∀ x ∈ xs, CellOK x := fun x hx => by obtain ⟨cs, hr⟩ := sl_all h x hx; exact hr.2
  have hall' : ∀ x ∈ ys, CellOK x := fun x hx => by obtain ⟨cs, hr⟩ := sl_all h' x hx; exact hr.2
  have HALL := Lib.hid hall
  have HALL' := Lib.hid hall'
  obtain ⟨i0, hi0, hz0, hz1, hz2⟩ := info_parts infoCell
  have HI := Lib.hid hi0
  have HZ0 := Lib.hid hz0
  have HZ1 := Lib.hid hz1
  have HZ2 := Lib.hid hz2
  have HFIX := Lib.hid fix_calls
  clear h h' hall hall' hi0 hz0 hz1 hz2
  go_enter Try.func3, Try.ntmps3
  go_wp2_with fail
  refine (alive16_calls _).mono ?_
  rintro e w1 ⟨rfl, hb1⟩
  have HB1 := Lib.hid hb1
  have HX1 := Lib.hid (HXS.out.below CellR.stable hb1)
  have HY1 := Lib.hid (HYS.out.below CellR.stable hb1)
  clear hb1
  go_upto_block 0 with fail
  go_cut [7] (fun v wx => wx.ownsRow w1.heap.size 26 3 v (apF (1 + k % 3) (xs.take 200)).length ((apF (1 + k % 3) (xs.take 200)).flatMap cellV) ∧ Below w1.heap.size w1 wx)
  case first =>
    go_wp2_with fail
    go_loopw [7, 9] (fun v i wr => ∃ j : Nat, j ≤ n ∧ j ≤ 200 ∧ i = .int .i64 (j : Int) ∧ wr.ownsRow w1.heap.size 26 3 v (apF (1 + k % 3) (xs.take j)).length ((apF (1 + k % 3) (xs.take j)).flatMap cellV) ∧ Below w1.heap.size w1 wr) (fun _ i _ => n - (intOf i).toNat)
    case atStart => exact ⟨0, Nat.zero_le _, Nat.zero_le _, rfl, World.ownsRow_nil _ _ _ _, Below.refl _ _⟩
    case round =>
      obtain ⟨j, hj, hj2, rfl, hown, hb⟩ := hrel
      have HO := Lib.hid hown
      have HB := Lib.hid hb
      clear hown hb
      have hji : (0 : Int) ≤ (j : Int) := by omega
      by_cases hlt : j < n
      · have hjn : (j : Int) < (n : Int) := by omega
        by_cases hlt2 : j < 200
        · have hj2i : (j : Int) < 200 := by omega
          obtain ⟨b, off, ce, cs, rfl, hbl, hx, hcl, hr, hcell⟩ := HX1.out.at_ hlt
          obtain ⟨rfl, hsz, ⟨hk00, _⟩, _⟩ := hr
          have d0 := (HB.out.cell (p := ⟨b, off + j * 3 + 0, none⟩) hbl).trans (hcell 0 _ rfl)
          have d1 := (HB.out.cell (p := ⟨b, off + j * 3 + 1, none⟩) hbl).trans (hcell 1 _ rfl)
          have d2 := (HB.out.cell (p := ⟨b, off + j * 3 + 2, none⟩) hbl).trans (hcell 2 _ rfl)
          rw [Nat.add_zero] at d0
          have hsn := apF_snoc (q := 1 + k % 3) hx
          have hlen := apF_len (1 + k % 3) xs j
          have hv := HFIX.out ce hk00
          generalize fix ce = d at *
          generalize apF (1 + k % 3) (xs.take j) = ls at *
          unfold CellD.cells at hv
          have HVC := Lib.hid hv
          clear hcell hx hsz hk00 hv hcl
          obtain ⟨dk, dn, ds⟩ := d
          go_wp2_with fail
          refine (HVC.out _).mono ?_
          rintro e w5 ⟨rfl, hb5⟩
          have HO5 := Lib.hid (own_below HO.out hb5)
          have HB5 := Lib.hid (HB.out.trans (hb5.mono HB.out.size))
          clear hb5 HO HB d0 d1 d2
          by_cases hkq : dk = 1 + k % 3
          · have hne : (dk == 1 + k % 3) = true := by simp [hkq]
            have HSN := Lib.hid (show apF (1 + k % 3) (xs.take (j + 1)) = ls ++ [⟨dk, dn, ds⟩] by rw [hsn, if_pos hkq])
            clear hsn hkq
            have HOA := Lib.hid (HO5.out.alloc (.cells #[.int .u8 dk, .int .i64 dn, .string ds] 26))
            have HBA := Lib.hid (HB5.out.alloc HB5.out.size (.cells #[.int .u8 dk, .int .i64 dn, .string ds] 26))
            obtain ⟨m, hm⟩ : ∃ m, ls.length = m := ⟨_, rfl⟩
            rw [hm] at hlen HOA
            have h63 : m + 1 ≤ maxLen := by unfold maxLen; omega
            have hby : (m + 1) * 32 ≤ 140737488355328 := by omega
            have hbase : w1.heap.size ≤ (((w5.alloc (.cells #[.int .u8 dk, .int .i64 dn, .string ds] 26))).alloc (.cells #[.int .u8 dk, .int .i64 dn, .string ds] 26)).heap.size := by have := HB5.out.size; simp; omega
            have hone : ∀ u ∈ ([.int .u8 dk, .int .i64 dn, .string ds] : List Value), u.oneCell' = true := by simp [Value.oneCell']
            have hcl : ∀ jj u, ([.int .u8 dk, .int .i64 dn, .string ds] : List Value)[jj]? = some u → (((w5.alloc (.cells #[.int .u8 dk, .int .i64 dn, .string ds] 26))).alloc (.cells #[.int .u8 dk, .int .i64 dn, .string ds] 26)).cell? ((⟨w5.heap.size + 1, 0, none⟩ : Addr).add jj) = some u := fun jj u hj => by
              have := CellsAt.alloc_at (w5.alloc (.cells #[.int .u8 dk, .int .i64 dn, .string ds] 26)) #[.int .u8 dk, .int .i64 dn, .string ds] 26 (w5.heap.size + 1) (by simp) jj u (by simpa using hj)
              rw [show ((⟨w5.heap.size + 1, 0, none⟩ : Addr).add jj) = ⟨w5.heap.size + 1, jj, none⟩ by (simp [Addr.add] <;> omega)]
              exact this
            have HM := Lib.hid hm
            have HBASE := Lib.hid hbase
            have HONE := Lib.hid hone
            have HCL := Lib.hid hcl
            clear hbase hone hcl hm
            go_wp2_with (at_builtin; refine wpList_append_lies _ rfl _ _ _ rfl w1.heap.size 26 i0 (.agg #[.int .u8 0, .int .i64 0, .string ByteArray.empty]) 3 32 Try.underlying22 HI.out HZ0.out HZ1.out HZ2.out rfl (by decide) _ _ _ rfl (HOA.out.alloc _) ⟨w5.heap.size + 1, 0, none⟩ 1 1 [.int .u8 dk, .int .i64 dn, .string ds] rfl rfl HCL.out HONE.out (by decide) h63 hby HBASE.out _ rfl ?_; intro g cap w6 hown6 hgrow hat hglt)
            have hb6 := below_append HOA.out HBA.out hgrow
            clear hgrow hat
            go_roundw
            case rel =>
              refine ⟨j + 1, by omega, by omega, by go_num, ?_, hb6⟩
              rw [HSN.out, List.length_append, HM.out, List.flatMap_append]
              exact hown6
            case measure => simp [intOf] <;> omega
          · have hne : (dk == 1 + k % 3) = false := by rw [beq_eq_false_iff_ne]; exact hkq
            have HSN := Lib.hid (show apF (1 + k % 3) (xs.take (j + 1)) = ls by rw [hsn, if_neg hkq, List.append_nil])
            clear hsn hkq
            go_wp2
            go_roundw
            case rel => exact ⟨j + 1, by omega, by omega, by go_num, by rw [HSN.out]; exact HO5.out.alloc _, HB5.out.alloc HB5.out.size _⟩
            case measure => simp [intOf] <;> omega
        · obtain rfl : j = 200 := by omega
          go_wp2
          go_meet
          case rel => exact ⟨HO.out, HB.out⟩
      · obtain rfl : j = n := by omega
        have htk : xs.take 200 = xs.take j := by rw [List.take_of_length_le (by have := HX1.out.1; omega), List.take_of_length_le (by have := HX1.out.1; omega)]
        have HTK := Lib.hid htk
        clear htk
        go_wp2
        go_meet
        case rel => exact ⟨by rw [HTK.out]; exact HO.out, HB.out⟩
  case rest =>
    obtain ⟨w2, rfl⟩ : ∃ W : World, W = wc := ⟨_, rfl⟩
    obtain ⟨hown, hb⟩ := hcut
    have HOX := Lib.hid hown
    have HB2 := Lib.hid hb
    have HY2 := Lib.hid (HY1.out.below CellR.stable hb)
    clear hown hb
    go_upto_block 2 with fail
    go_cut [8] (fun v wx => wx.ownsRow w2.heap.size 26 3 v (apF (1 + k % 3) (ys.take 200)).length ((apF (1 + k % 3) (ys.take 200)).flatMap cellV) ∧ Below w2.heap.size w2 wx)
    case first =>
      go_wp2_with fail
      go_loopw [8, 11] (fun v i wr => ∃ j : Nat, j ≤ n' ∧ j ≤ 200 ∧ i = .int .i64 (j : Int) ∧ wr.ownsRow w2.heap.size 26 3 v (apF (1 + k % 3) (ys.take j)).length ((apF (1 + k % 3) (ys.take j)).flatMap cellV) ∧ Below w2.heap.size w2 wr) (fun _ i _ => n' - (intOf i).toNat)
      case atStart => exact ⟨0, Nat.zero_le _, Nat.zero_le _, rfl, World.ownsRow_nil _ _ _ _, Below.refl _ _⟩
      case round =>
        obtain ⟨j, hj, hj2, rfl, hown, hb⟩ := hrel
        have HO := Lib.hid hown
        have HB := Lib.hid hb
        clear hown hb
        have hji : (0 : Int) ≤ (j : Int) := by omega
        by_cases hlt : j < n'
        · have hjn : (j : Int) < (n' : Int) := by omega
          by_cases hlt2 : j < 200
          · have hj2i : (j : Int) < 200 := by omega
            obtain ⟨b, off, ce, cs, rfl, hbl, hx, hcl, hr, hcell⟩ := HY2.out.at_ hlt
            obtain ⟨rfl, hsz, ⟨hk00, _⟩, _⟩ := hr
            have d0 := (HB.out.cell (p := ⟨b, off + j * 3 + 0, none⟩) hbl).trans (hcell 0 _ rfl)
            have d1 := (HB.out.cell (p := ⟨b, off + j * 3 + 1, none⟩) hbl).trans (hcell 1 _ rfl)
            have d2 := (HB.out.cell (p := ⟨b, off + j * 3 + 2, none⟩) hbl).trans (hcell 2 _ rfl)
            rw [Nat.add_zero] at d0
            have hsn := apF_snoc (q := 1 + k % 3) hx
            have hlen := apF_len (1 + k % 3) ys j
            have hv := HFIX.out ce hk00
            generalize fix ce = d at *
            generalize apF (1 + k % 3) (ys.take j) = ls at *
            unfold CellD.cells at hv
            have HVC := Lib.hid hv
            clear hcell hx hsz hk00 hv hcl
            obtain ⟨dk, dn, ds⟩ := d
            go_wp2_with fail
            refine (HVC.out _).mono ?_
            rintro e w5 ⟨rfl, hb5⟩
            have HO5 := Lib.hid (own_below HO.out hb5)
            have HB5 := Lib.hid (HB.out.trans (hb5.mono HB.out.size))
            clear hb5 HO HB d0 d1 d2
            by_cases hkq : dk = 1 + k % 3
            · have hne : (dk == 1 + k % 3) = true := by simp [hkq]
              have HSN := Lib.hid (show apF (1 + k % 3) (ys.take (j + 1)) = ls ++ [⟨dk, dn, ds⟩] by rw [hsn, if_pos hkq])
              clear hsn hkq
              have HOA := Lib.hid (HO5.out.alloc (.cells #[.int .u8 dk, .int .i64 dn, .string ds] 26))
              have HBA := Lib.hid (HB5.out.alloc HB5.out.size (.cells #[.int .u8 dk, .int .i64 dn, .string ds] 26))
              obtain ⟨m, hm⟩ : ∃ m, ls.length = m := ⟨_, rfl⟩
              rw [hm] at hlen HOA
              have h63 : m + 1 ≤ maxLen := by unfold maxLen; omega
              have hby : (m + 1) * 32 ≤ 140737488355328 := by omega
              have hbase : w2.heap.size ≤ (((w5.alloc (.cells #[.int .u8 dk, .int .i64 dn, .string ds] 26))).alloc (.cells #[.int .u8 dk, .int .i64 dn, .string ds] 26)).heap.size := by have := HB5.out.size; simp; omega
              have hone : ∀ u ∈ ([.int .u8 dk, .int .i64 dn, .string ds] : List Value), u.oneCell' = true := by simp [Value.oneCell']
              have hcl : ∀ jj u, ([.int .u8 dk, .int .i64 dn, .string ds] : List Value)[jj]? = some u → (((w5.alloc (.cells #[.int .u8 dk, .int .i64 dn, .string ds] 26))).alloc (.cells #[.int .u8 dk, .int .i64 dn, .string ds] 26)).cell? ((⟨w5.heap.size + 1, 0, none⟩ : Addr).add jj) = some u := fun jj u hj => by
                have := CellsAt.alloc_at (w5.alloc (.cells #[.int .u8 dk, .int .i64 dn, .string ds] 26)) #[.int .u8 dk, .int .i64 dn, .string ds] 26 (w5.heap.size + 1) (by simp) jj u (by simpa using hj)
                rw [show ((⟨w5.heap.size + 1, 0, none⟩ : Addr).add jj) = ⟨w5.heap.size + 1, jj, none⟩ by (simp [Addr.add] <;> omega)]
                exact this
              have HM := Lib.hid hm
              have HBASE := Lib.hid hbase
              have HONE := Lib.hid hone
              have HCL := Lib.hid hcl
              clear hbase hone hcl hm
              go_wp2_with (at_builtin; refine wpList_append_lies _ rfl _ _ _ rfl w2.heap.size 26 i0 (.agg #[.int .u8 0, .int .i64 0, .string ByteArray.empty]) 3 32 Try.underlying22 HI.out HZ0.out HZ1.out HZ2.out rfl (by decide) _ _ _ rfl (HOA.out.alloc _) ⟨w5.heap.size + 1, 0, none⟩ 1 1 [.int .u8 dk, .int .i64 dn, .string ds] rfl rfl HCL.out HONE.out (by decide) h63 hby HBASE.out _ rfl ?_; intro g cap w6 hown6 hgrow hat hglt)
              have hb6 := below_append HOA.out HBA.out hgrow
              clear hgrow hat
              go_roundw
              case rel =>
                refine ⟨j + 1, by omega, by omega, by go_num, ?_, hb6⟩
                rw [HSN.out, List.length_append, HM.out, List.flatMap_append]
                exact hown6
              case measure => simp [intOf] <;> omega
            · have hne : (dk == 1 + k % 3) = false := by rw [beq_eq_false_iff_ne]; exact hkq
              have HSN := Lib.hid (show apF (1 + k % 3) (ys.take (j + 1)) = ls by rw [hsn, if_neg hkq, List.append_nil])
              clear hsn hkq
              go_wp2
              go_roundw
              case rel => exact ⟨j + 1, by omega, by omega, by go_num, by rw [HSN.out]; exact HO5.out.alloc _, HB5.out.alloc HB5.out.size _⟩
              case measure => simp [intOf] <;> omega
          · obtain rfl : j = 200 := by omega
            go_wp2
            go_meet
            case rel => exact ⟨HO.out, HB.out⟩
        · obtain rfl : j = n' := by omega
          have htk : ys.take 200 = ys.take j := by rw [List.take_of_length_le (by have := HY2.out.1; omega), List.take_of_length_le (by have := HY2.out.1; omega)]
          have HTK := Lib.hid htk
          clear htk
          go_wp2
          go_meet
          case rel => exact ⟨by rw [HTK.out]; exact HO.out, HB.out⟩
    case rest =>
      obtain ⟨w3, rfl⟩ : ∃ W : World, W = wc := ⟨_, rfl⟩
      obtain ⟨hown, hb⟩ := hcut
      have hox := own_below HOX.out hb
      have HB3 := Lib.hid (HB1.out.trans ((HB2.out.trans (hb.mono HB2.out.size)).mono HB1.out.size))
      clear HOX hb
      obtain ⟨hgx, hkx⟩ := apF_good (q := 1 + k % 3) (mem_take_of (k := 200) HALL.out)
      obtain ⟨hgy, hky⟩ := apF_good (q := 1 + k % 3) (mem_take_of (k := 200) HALL'.out)
      have hlx := apF_len (1 + k % 3) xs 200
      have hly := apF_len (1 + k % 3) ys 200
      generalize apF (1 + k % 3) (xs.take 200) = x at *
      generalize apF (1 + k % 3) (ys.take 200) = y at *
      obtain ⟨a7, c7, rfl, _⟩ := own_slice hox
      obtain ⟨a8, c8, rfl, _⟩ := own_slice hown
      have HSX := Lib.hid (own_sl (R := CellR) (by decide) cellV_len (hgx.reads w3) hox)
      have HSY := Lib.hid (own_sl (R := CellR) (by decide) cellV_len (hgy.reads w3) hown)
      clear hox hown
      have hov : (x.any fun c => isIn c y) = true → overF (statsF x) (statsF y) = true := fun h => by
        obtain ⟨c, hc, hi⟩ := List.any_eq_true.1 h
        exact over_of hgx hgy hc (isIn_mem hi) (by rw [hkx c hc]; omega)
      have HOVT := Lib.hid hov
      have hstx := fun (W : World) (h : Below w3.heap.size w3 W) => refstats_calls a7 x.length c7 x W (HSX.out.below CellR.stable h) (by omega) (fun c hc => by have := hgx.size c hc; omega) (fun c hc => (hgx.col c hc).2)
      have hsty := fun (W : World) (h : Below w3.heap.size w3 W) => refstats_calls a8 y.length c8 y W (HSY.out.below CellR.stable h) (by omega) (fun c hc => by have := hgy.size c hc; omega) (fun c hc => (hgy.col c hc).2)
      have hover := fun (W : World) => over_calls (statsF x) (statsF y) W (stats_ok hgx (by omega)) (stats_ok hgy (by omega))
      have hhas := fun (W : World) (h : Below w3.heap.size w3 W) (c : CellD) => has_calls a8 y.length c8 y c W (HSY.out.below CellR.stable h) (by omega)
      generalize statsF x = sx at *
      generalize statsF y = sy at *
      generalize overF sx sy = ov at *
      obtain ⟨xr, xn, xsm, xh, ⟨xlk, xln, xls⟩, ⟨xmk, xmn, xms⟩⟩ := sx
      obtain ⟨yr, yn, ysm, yh, ⟨ylk, yln, yls⟩, ⟨ymk, ymn, yms⟩⟩ := sy
      simp only [StatD.cells] at hstx hsty hover
      unfold CellD.cells at hhas
      have HSTX := Lib.hid hstx
      have HSTY := Lib.hid hsty
      have HOVR := Lib.hid hover
      have HHAS := Lib.hid hhas
      obtain ⟨m, hm⟩ : ∃ m, x.length = m := ⟨_, rfl⟩
      obtain ⟨m', hm'⟩ : ∃ m, y.length = m := ⟨_, rfl⟩
      rw [hm] at HSX HSTX hlx
      rw [hm'] at HSY HSTY HHAS hly
      rw [hm, hm']
      have HM := Lib.hid hm
      clear hgx hkx hgy hky hov hstx hsty hover hhas hm hm' HALL HALL' HX1 HY1 HY2 HXS HYS
      go_wp2
      go_loopw [13, 14] (fun v i wr => ∃ j : Nat, j ≤ m ∧ i = .int .i64 (j : Int) ∧ v = .bool ((x.take j).any fun c => isIn c y) ∧ Below w3.heap.size w3 wr) (fun _ i _ => m - (intOf i).toNat)
      case atStart => exact ⟨0, Nat.zero_le _, rfl, rfl, Below.refl _ _⟩
      case round =>
        obtain ⟨j, hj, rfl, rfl, hb⟩ := hrel
        have HB := Lib.hid hb
        clear hb
        have hji : (0 : Int) ≤ (j : Int) := by omega
        by_cases hlt : j < m
        · have hjn : (j : Int) < (m : Int) := by omega
          obtain ⟨b, off, ce, cs, rfl, hbl, hx, hcl, hr, hcell⟩ := HSX.out.at_ hlt
          obtain ⟨rfl, _⟩ := hr
          have d0 := (HB.out.cell (p := ⟨b, off + j * 3 + 0, none⟩) hbl).trans (hcell 0 _ rfl)
          have d1 := (HB.out.cell (p := ⟨b, off + j * 3 + 1, none⟩) hbl).trans (hcell 1 _ rfl)
          have d2 := (HB.out.cell (p := ⟨b, off + j * 3 + 2, none⟩) hbl).trans (hcell 2 _ rfl)
          rw [Nat.add_zero] at d0
          have hmem : (x.take (j + 1)).any (fun c => isIn c y) = ((x.take j).any (fun c => isIn c y) || isIn ce y) := by rw [List.take_add_one, hx, List.any_append]; simp
          have hcr := (HHAS.out wr HB.out ce).mono fun e w' h => show ValIs (.bool (isIn ce y)) wr e w' from h
          generalize isIn ce y = ib at *
          generalize hnow : (x.take j).any (fun c => isIn c y) = now at *
          have HN := Lib.hid hmem
          have HCR := Lib.hid hcr
          obtain ⟨ck, cn, cst⟩ := ce
          simp only [] at d0 d1 d2
          clear hcell hcl hx hmem hcr hnow
          cases now
          · go_wp2_with fail
            refine HCR.out.mono ?_
            rintro e w5 ⟨rfl, hb5⟩
            have HB2' := Lib.hid (HB.out.trans (hb5.mono HB.out.size))
            clear hb5 d0 d1 d2
            go_wp2
            go_roundw
            case rel => exact ⟨j + 1, by omega, by go_num, by rw [HN.out]; rfl, HB2'.out⟩
            case measure => simp [intOf] <;> omega
          · go_wp2
            go_roundw
            case rel => exact ⟨j + 1, by omega, by go_num, by rw [HN.out]; rfl, HB.out⟩
            case measure => simp [intOf] <;> omega
        · obtain rfl : j = m := by omega
          have htk : x.take j = x := List.take_of_length_le (by have := HM.out; omega)
          rw [htk]
          clear htk
          have hov := HOVT.out
          generalize (x.any fun c => isIn c y) = now at *
          have HBR := Lib.hid (HB3.out.trans (HB.out.mono HB3.out.size))
          cases now
          · clear hov
            go_wp2
            go_ret
            exact ⟨rfl, HBR.out⟩
          · obtain rfl : ov = true := hov rfl
            clear hov
            go_wp2_with fail
            refine (HSTX.out _ HB.out).mono ?_
            rintro e w5 ⟨rfl, hb5⟩
            have HB5 := Lib.hid (HB.out.trans (hb5.mono HB.out.size))
            have HBR5 := Lib.hid (HBR.out.trans (hb5.mono HBR.out.size))
            clear hb5
            go_wp2_with fail
            refine (HSTY.out _ HB5.out).mono ?_
            rintro e w6 ⟨rfl, hb6⟩
            have HBR6 := Lib.hid (HBR5.out.trans (hb6.mono HBR5.out.size))
            clear hb6
            go_wp2_with fail
            refine (HOVR.out _).mono ?_
            rintro e w7 ⟨rfl, hb7⟩
            have HBR7 := Lib.hid (HBR6.out.trans (hb7.mono HBR6.out.size))
            clear hb7
            go_wp2
            go_ret
            exact ⟨rfl, HBR7.out⟩
end Go.Proofs.Ytkofaoaglnjkgaa
