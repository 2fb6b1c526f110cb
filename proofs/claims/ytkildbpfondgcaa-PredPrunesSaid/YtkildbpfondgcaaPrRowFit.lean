/- The contracts of catchmentref01.FixRow and catchmentref08.Fit. -/
import Derived.Test.YtkildbpfondgcaaPrColumn
import Derived.BigRegion
namespace Go.Proofs.Ytkildbpfondgcaa
open Go.RowKit Go.Deep
set_option linter.unusedVariables false
set_option linter.unusedSimpArgs false

set_option maxRecDepth 100000 in
set_option maxHeartbeats 4000000 in
theorem fixrow_calls (a : Option Addr) (n c : Nat) (xs : List CellD) (w : World) (h : Sl 3 CellR w a n xs) (hn : n ≤ 100000) :
    Calls Try.prog 15 #[.slice a n c] w (fun e w' => ∃ v, e = .returned v ∧ w'.ownsRow w.heap.size 27 3 v n ((xs.map fix).flatMap cellV) ∧ Below w.heap.size w w') := by
  have HS := Lib.hid h
  have HLEN := Lib.hid h.1
  obtain ⟨i0, hi0, hz0, hz1, hz2⟩ := info_parts infoCell
  have HI := Lib.hid hi0
  have HZ0 := Lib.hid hz0
  have HZ1 := Lib.hid hz1
  have HZ2 := Lib.hid hz2
  have HFIX := Lib.hid fix_calls
  obtain ⟨ys, hys⟩ : ∃ ys, xs.map fix = ys := ⟨_, rfl⟩
  have hyl : ys.length = n := by rw [← hys, List.length_map]; exact h.1
  rw [hys]
  have HYL := Lib.hid hyl
  have HYS := Lib.hid hys
  clear h hi0 hz0 hz1 hz2 hyl hys
  go_enter Try.func15, Try.ntmps15
  go_wp2
  go_loopw [3, 4] (fun v i wr => ∃ k : Nat, k ≤ n ∧ i = .int .i64 k ∧ wr.ownsRow w.heap.size 27 3 v k ((ys.take k).flatMap cellV) ∧ Below w.heap.size w wr) (fun _ i _ => n - (intOf i).toNat)
  case atStart => exact ⟨0, Nat.zero_le _, rfl, World.ownsRow_nil _ _ _ _, Below.refl _ _⟩
  case round =>
    obtain ⟨k, hk, rfl, hown, hb⟩ := hrel
    have HO := Lib.hid hown
    have HB := Lib.hid hb
    clear hown hb
    have hki : (0 : Int) ≤ (k : Int) := by omega
    by_cases hlt : k < n
    · have hkn : (k : Int) < (n : Int) := by omega
      obtain ⟨b, off, ce, cs, rfl, hbl, hx, hcl, hr, hcell⟩ := HS.out.at_ hlt
      obtain ⟨rfl, hsz, ⟨hk0, _⟩, _⟩ := hr
      have d0 := (HB.out.cell (p := ⟨b, off + k * 3 + 0, none⟩) hbl).trans (hcell 0 _ rfl)
      have d1 := (HB.out.cell (p := ⟨b, off + k * 3 + 1, none⟩) hbl).trans (hcell 1 _ rfl)
      have d2 := (HB.out.cell (p := ⟨b, off + k * 3 + 2, none⟩) hbl).trans (hcell 2 _ rfl)
      rw [Nat.add_zero] at d0
      have hyk : ys[k]? = some (fix ce) := by rw [← HYS.out, List.getElem?_map, hx]; rfl
      have hsn := flat_snoc (f := cellV) hyk
      have hv := HFIX.out ce hk0
      generalize fix ce = d at *
      unfold CellD.cells at hv
      have HVC := Lib.hid hv
      have h63 : k + 1 ≤ maxLen := by unfold maxLen; omega
      have hby : (k + 1) * 32 ≤ 140737488355328 := by omega
      clear hcell hx hsz hk0 hv hyk
      obtain ⟨dk, dn, ds⟩ := d
      have HSN := Lib.hid (show (ys.take (k + 1)).flatMap cellV = (ys.take k).flatMap cellV ++ [.int .u8 dk, .int .i64 dn, .string ds] by rw [hsn]; rfl)
      clear hsn
      go_wp2_with fail
      refine (HVC.out _).mono ?_
      rintro e w1 ⟨rfl, hb1⟩
      have HO1 := Lib.hid (own_below HO.out hb1)
      have HB1 := Lib.hid (HB.out.trans (hb1.mono HB.out.size))
      clear hb1 HO HB d0 d1 d2
      have hbase : w.heap.size ≤ (w1.alloc (.cells #[.int .u8 dk, .int .i64 dn, .string ds] 27)).heap.size := by have := HB1.out.size; simp; omega
      have hone : ∀ u ∈ ([.int .u8 dk, .int .i64 dn, .string ds] : List Value), u.oneCell' = true := by simp [Value.oneCell']
      have hcl : ∀ j u, ([.int .u8 dk, .int .i64 dn, .string ds] : List Value)[j]? = some u → (w1.alloc (.cells #[.int .u8 dk, .int .i64 dn, .string ds] 27)).cell? ((⟨w1.heap.size, 0, none⟩ : Addr).add j) = some u := fun j u hj => by
        have := CellsAt.alloc_at w1 #[.int .u8 dk, .int .i64 dn, .string ds] 27 w1.heap.size rfl j u (by simpa using hj)
        rw [show ((⟨w1.heap.size, 0, none⟩ : Addr).add j) = ⟨w1.heap.size, j, none⟩ by (simp [Addr.add] <;> omega)]
        exact this
      have HBASE := Lib.hid hbase
      have HONE := Lib.hid hone
      have HCL := Lib.hid hcl
      clear hbase hone hcl
      go_wp2_with (at_builtin; refine wpList_append_lies _ rfl _ _ _ rfl w.heap.size 27 i0 (.agg #[.int .u8 0, .int .i64 0, .string ByteArray.empty]) 3 32 Try.underlying22 HI.out HZ0.out HZ1.out HZ2.out rfl (by decide) _ _ _ rfl (HO1.out.alloc _) ⟨w1.heap.size, 0, none⟩ 1 1 [.int .u8 dk, .int .i64 dn, .string ds] rfl rfl HCL.out HONE.out (by decide) h63 hby HBASE.out _ rfl ?_; intro g cap w2 hown2 hgrow hat hglt)
      have hb2 := below_append HO1.out HB1.out hgrow
      clear hgrow hat
      go_roundw
      case rel =>
        refine ⟨k + 1, by omega, by go_num, ?_, hb2⟩
        rw [HSN.out]
        exact hown2
      case measure => simp [intOf] <;> omega
    · obtain rfl : k = n := by omega
      go_wp2
      go_ret
      refine ⟨_, rfl, ?_, HB.out⟩
      have h1 : ys.take k = ys := List.take_of_length_le (by have := HYL.out; omega)
      have := HO.out
      rw [h1] at this
      exact this
def FitPost (n m : Nat) (w : World) (e : Ending) (w' : World) : Prop := ∃ r : Int, e = .returned (.int .i64 r) ∧ (r = 0 → n = m) ∧ Below w.heap.size w w'
set_option maxRecDepth 100000 in
set_option maxHeartbeats 4000000 in
theorem fit_calls (s : SchemaD) (scs : List Value) (a : Option Addr) (n c : Nat) (xs : List CellD) (w : World) (hs : SchemaR w scs s) (h : Sl 3 CellR w a n xs) (hn : n ≤ 100000) :
    Calls Try.prog 16 #[.agg scs.toArray, .slice a n c] w (FitPost n s.fields.length w) := by
  have HS := Lib.hid h
  obtain ⟨fa, fnn, fc, rfl, hs1, hs2, hs3, hfs, hs4⟩ := hs
  have HFS := Lib.hid hfs
  have hfl := hfs.1
  have hf1 : fnn ≤ 9223372036854775807 := by unfold maxLen at hs2; omega
  clear h hs1 hs2 hs3 hfs hs4
  rw [hfl]
  unfold FitPost
  by_cases hnm : n = fnn
  · subst hnm
    go_enter Try.func16, Try.ntmps16
    go_wp2
    obtain ⟨W0, hWW⟩ : ∃ W0 : World, W0 = w.alloc (.cells #[.int .u32 (s.id : Int), .slice fa n fc] 42) := ⟨_, rfl⟩
    have hb0 : Below w.heap.size w W0 := by rw [hWW]; exact (Below.refl _ _).alloc (Nat.le_refl _) _
    have hx0 : Box W0 w.heap.size #[.int .u32 (s.id : Int), .slice fa n fc] := by rw [hWW]; exact Box.new _ _ _
    rw [← hWW]
    clear hWW
    have HX0 := Lib.hid hx0
    have HB0 := Lib.hid hb0
    clear hx0 hb0
    go_loopw [5] (fun i wr => ∃ k : Nat, k ≤ n ∧ i = .int .i64 k ∧ Box wr w.heap.size #[.int .u32 (s.id : Int), .slice fa n fc] ∧ Below w.heap.size w wr) (fun i _ => n - (intOf i).toNat)
    case atStart => exact ⟨0, Nat.zero_le _, rfl, HX0.out, HB0.out⟩
    case round =>
      obtain ⟨k, hk, rfl, hbx, hb⟩ := hrel
      have HBX := Lib.hid hbx
      have HB := Lib.hid hb
      clear hbx hb
      have hki : (0 : Int) ≤ (k : Int) := by omega
      by_cases hlt : k < n
      · have hkn : (k : Int) < (n : Int) := by omega
        obtain ⟨b, off, ce, cs, rfl, hbl, hx, hcl, hr, hcell⟩ := HS.out.at_ hlt
        obtain ⟨rfl, hsz, ⟨hk0, _⟩, _⟩ := hr
        have d0 := (HB.out.cell (p := ⟨b, off + k * 3 + 0, none⟩) hbl).trans (hcell 0 _ rfl)
        have d1 := (HB.out.cell (p := ⟨b, off + k * 3 + 1, none⟩) hbl).trans (hcell 1 _ rfl)
        have d2 := (HB.out.cell (p := ⟨b, off + k * 3 + 2, none⟩) hbl).trans (hcell 2 _ rfl)
        rw [Nat.add_zero] at d0
        have hs64 : ce.s.size ≤ 9223372036854775807 := by unfold maxLen at hsz; omega
        clear hcell hx hcl hsz
        obtain ⟨fb, foff, f, fcs, rfl, hfbl, hfx, hfcl, hfr, hfcell⟩ := HFS.out.at_ hlt
        obtain ⟨rfl, _⟩ := hfr
        have f2 := (HB.out.cell (p := ⟨fb, foff + k * 4 + 2, none⟩) hfbl).trans (hfcell 2 _ rfl)
        have f3 := (HB.out.cell (p := ⟨fb, foff + k * 4 + 3, none⟩) hfbl).trans (hfcell 3 _ rfl)
        clear hfcell hfx hfcl
        have y1 : wr.cell? ⟨w.heap.size, 1, none⟩ = some (.slice (some ⟨fb, foff, none⟩) n fc) := HBX.out.cell 1 rfl
        have hlw : w.heap.size < wr.heap.size := HBX.out.lt
        have hfbw : fb < wr.heap.size := by omega
        by_cases hk00 : ce.kind = 0
        · have hkz : (ce.kind == 0) = true := by simp [hk00]
          cases hne : f.need
          · rw [hne] at f3
            go_wp2
            go_roundw
            case rel => exact ⟨k + 1, by omega, by go_num, HBX.out.alloc _, HB.out.alloc (Nat.le_of_lt hlw) _⟩
            case measure => simp [intOf] <;> omega
          · rw [hne] at f3
            go_wp2
            go_ret
            exact ⟨82, rfl, by simp, HB.out.alloc (Nat.le_of_lt hlw) _⟩
        · have hkz : (ce.kind == 0) = false := by simp [hk00]
          by_cases hke : ce.kind = f.kind
          · have hkq : (ce.kind != f.kind) = false := by simp [hke]
            by_cases hs6 : 64 < ce.s.size
            · have hsi : (64 : Int) < (ce.s.size : Int) := by omega
              go_wp2_with (first | go_region | fail)
              all_goals go_ret
              all_goals exact ⟨5, rfl, by simp, (HB.out.alloc (Nat.le_of_lt hlw) _).drew⟩
            · have hsi : (ce.s.size : Int) ≤ 64 := by omega
              go_wp2_with (first | go_region | fail)
              all_goals go_roundw
              case rel => exact ⟨k + 1, by omega, by go_num, (HBX.out.alloc _).drew, (HB.out.alloc (Nat.le_of_lt hlw) _).drew⟩
              case measure => simp [intOf] <;> omega
          · have hkq : (ce.kind != f.kind) = true := by simp [hke]
            go_wp2_with (first | go_region | fail)
            all_goals go_ret
            all_goals exact ⟨10, rfl, by simp, (HB.out.alloc (Nat.le_of_lt hlw) _).drew⟩
      · obtain rfl : k = n := by omega
        go_wp2
        go_ret
        exact ⟨0, rfl, by simp, HB.out⟩
  · have hne : ((n : Int) != (fnn : Int)) = true := by simp; omega
    go_enter Try.func16, Try.ntmps16
    go_wp2
    go_ret
    exact ⟨1, rfl, fun h => absurd h (by omega), (Below.refl _ _).alloc (Nat.le_refl _) _⟩
end Go.Proofs.Ytkildbpfondgcaa
