/- The contract of catchmentlaw01.Row. -/
import Derived.Test.YtkildbpfondgcaaVlValue
import Derived.Test.YtkildbpfondgcaaKept
import Derived.Deep.AppendLies
import Derived.Maps.AppendAt
namespace Go.Proofs.Ytkildbpfondgcaa
open Go.RowKit Go.Deep
set_option linter.unusedVariables false

def valsV (xs : List CellD) : List Value := xs.map fun c => (goodVal c).val
theorem valsV_len (xs : List CellD) : (valsV xs).length = xs.length := List.length_map _
theorem valsV_snoc (xs : List CellD) (k : Nat) (c : CellD) (h : xs[k]? = some c) : valsV (xs.take (k + 1)) = valsV (xs.take k) ++ [(goodVal c).val] := by
  unfold valsV; rw [List.take_add_one, h, List.map_append]; rfl
theorem infoVal : (Try.prog.info? 60).map (fun i => (i.zero, i.size, i.bytes)) = some (some .nilIface, 1, 16) := by kernel_rfl
theorem val_oneCell (v : ValD) : v.val.oneCell' = true := by cases v <;> rfl
def CellsOK (xs : List CellD) : Prop := ∀ c ∈ xs, 0 ≤ c.kind
set_option maxRecDepth 100000 in
set_option maxHeartbeats 1000000 in
theorem row_calls (a : Option Addr) (n c : Nat) (xs : List CellD) (w : World) (h : Sl 3 CellR w a n xs) (hn : n ≤ 1000) :
    Calls Try.prog 9 #[.slice a n c] w (fun e w' => ∃ v, e = .returned v ∧ w'.ownsRow w.heap.size 60 1 v n (valsV xs) ∧ Below w.heap.size w w') := by
  have HS := Lib.hid h
  have HLEN := Lib.hid h.1
  obtain ⟨i0, hi0, hz0, hz1, hz2⟩ := info_parts infoVal
  have HI := Lib.hid hi0
  have HZ0 := Lib.hid hz0
  have HZ1 := Lib.hid hz1
  have HZ2 := Lib.hid hz2
  have HV := Lib.hid lawValue
  clear h hi0 hz0 hz1 hz2
  go_enter Try.func9, Try.ntmps9
  go_wp2
  go_loopw [3, 4] (fun v i wr => ∃ k : Nat, k ≤ n ∧ i = .int .i64 k ∧ wr.ownsRow w.heap.size 60 1 v k (valsV (xs.take k)) ∧ Below w.heap.size w wr) (fun _ i _ => n - (intOf i).toNat)
  case atStart => exact ⟨0, Nat.zero_le _, rfl, World.ownsRow_nil _ _ _ _, Below.refl _ _⟩
  case round =>
    obtain ⟨k, hk, rfl, hown, hb⟩ := hrel
    have HO := Lib.hid hown
    have HB := Lib.hid hb
    clear hown hb
    by_cases hlt : k < n
    · obtain ⟨b, off, ce, cs, rfl, hbl, hx, hcl, hr, hcell⟩ := HS.out.at_ hlt
      obtain ⟨rfl, hsz, ⟨hk0, _⟩, _⟩ := hr
      have d0 := (HB.out.cell (p := ⟨b, off + k * 3 + 0, none⟩) hbl).trans (hcell 0 _ rfl)
      have d1 := (HB.out.cell (p := ⟨b, off + k * 3 + 1, none⟩) hbl).trans (hcell 1 _ rfl)
      have d2 := (HB.out.cell (p := ⟨b, off + k * 3 + 2, none⟩) hbl).trans (hcell 2 _ rfl)
      rw [Nat.add_zero] at d0
      have hsn := valsV_snoc xs k ce hx
      have hv := HV.out ce hk0
      unfold CellD.cells at hv
      generalize goodVal ce = d at *
      have HSN := Lib.hid hsn
      have HVC := Lib.hid hv
      clear hcell hsn hx hsz hk0 hv
      have h63 : k + 1 ≤ maxLen := by unfold maxLen; omega
      have hby : (k + 1) * 16 ≤ 140737488355328 := by omega
      rcases d with _ | z | z | z
      · unfold ValD.val at HSN HVC
        go_wp2_with fail
        refine (HVC.out _).mono ?_
        rintro e w1 ⟨rfl, hb1⟩
        have HO1 := Lib.hid (own_below HO.out hb1)
        have HB1 := Lib.hid (HB.out.trans (hb1.mono HB.out.size))
        have hbase : w.heap.size ≤ (w1.alloc (.cells #[.nilIface] 60)).heap.size := by have := HB1.out.size; simp; omega
        have hone : ∀ u ∈ [(.nilIface : Value)], u.oneCell' = true := by simp [Value.oneCell']
        have hcl : ∀ j u, [(.nilIface : Value)][j]? = some u → (w1.alloc (.cells #[.nilIface] 60)).cell? ((⟨w1.heap.size, 0, none⟩ : Addr).add j) = some u := cell_one_new w1 _ 60
        have HBASE := Lib.hid hbase
        have HONE := Lib.hid hone
        have HCL := Lib.hid hcl
        clear hb1 HO HB hbase hone hcl
        go_wp2_with (at_builtin; refine wpList_append_lies _ rfl _ _ _ rfl w.heap.size 60 i0 .nilIface 1 16 Try.underlying31 HI.out HZ0.out HZ1.out HZ2.out rfl (by decide) _ _ _ rfl (HO1.out.alloc _) ⟨w1.heap.size, 0, none⟩ 1 1 [.nilIface] rfl rfl HCL.out HONE.out (by decide) h63 hby HBASE.out _ rfl ?_; intro g cap w2 hown2 hgrow hat hglt)
        have hb2 := below_append HO1.out HB1.out hgrow
        clear hgrow hat
        go_roundw
        case rel =>
          refine ⟨k + 1, by omega, by go_num, ?_, hb2⟩
          rw [HSN.out]
          exact hown2
        case measure => simp [intOf] <;> omega
      · unfold ValD.val at HSN HVC
        go_wp2_with fail
        refine (HVC.out _).mono ?_
        rintro e w1 ⟨rfl, hb1⟩
        have HO1 := Lib.hid (own_below HO.out hb1)
        have HB1 := Lib.hid (HB.out.trans (hb1.mono HB.out.size))
        have hbase : w.heap.size ≤ (w1.alloc (.cells #[.iface 2 (.int .i64 z)] 60)).heap.size := by have := HB1.out.size; simp; omega
        have hone : ∀ u ∈ [(.iface 2 (.int .i64 z) : Value)], u.oneCell' = true := by simp [Value.oneCell']
        have hcl : ∀ j u, [(.iface 2 (.int .i64 z) : Value)][j]? = some u → (w1.alloc (.cells #[.iface 2 (.int .i64 z)] 60)).cell? ((⟨w1.heap.size, 0, none⟩ : Addr).add j) = some u := cell_one_new w1 _ 60
        have HBASE := Lib.hid hbase
        have HONE := Lib.hid hone
        have HCL := Lib.hid hcl
        clear hb1 HO HB hbase hone hcl
        go_wp2_with (at_builtin; refine wpList_append_lies _ rfl _ _ _ rfl w.heap.size 60 i0 .nilIface 1 16 Try.underlying31 HI.out HZ0.out HZ1.out HZ2.out rfl (by decide) _ _ _ rfl (HO1.out.alloc _) ⟨w1.heap.size, 0, none⟩ 1 1 [.iface 2 (.int .i64 z)] rfl rfl HCL.out HONE.out (by decide) h63 hby HBASE.out _ rfl ?_; intro g cap w2 hown2 hgrow hat hglt)
        have hb2 := below_append HO1.out HB1.out hgrow
        clear hgrow hat
        go_roundw
        case rel =>
          refine ⟨k + 1, by omega, by go_num, ?_, hb2⟩
          rw [HSN.out]
          exact hown2
        case measure => simp [intOf] <;> omega
      · unfold ValD.val at HSN HVC
        go_wp2_with fail
        refine (HVC.out _).mono ?_
        rintro e w1 ⟨rfl, hb1⟩
        have HO1 := Lib.hid (own_below HO.out hb1)
        have HB1 := Lib.hid (HB.out.trans (hb1.mono HB.out.size))
        have hbase : w.heap.size ≤ (w1.alloc (.cells #[.iface 4 (.bool z)] 60)).heap.size := by have := HB1.out.size; simp; omega
        have hone : ∀ u ∈ [(.iface 4 (.bool z) : Value)], u.oneCell' = true := by simp [Value.oneCell']
        have hcl : ∀ j u, [(.iface 4 (.bool z) : Value)][j]? = some u → (w1.alloc (.cells #[.iface 4 (.bool z)] 60)).cell? ((⟨w1.heap.size, 0, none⟩ : Addr).add j) = some u := cell_one_new w1 _ 60
        have HBASE := Lib.hid hbase
        have HONE := Lib.hid hone
        have HCL := Lib.hid hcl
        clear hb1 HO HB hbase hone hcl
        go_wp2_with (at_builtin; refine wpList_append_lies _ rfl _ _ _ rfl w.heap.size 60 i0 .nilIface 1 16 Try.underlying31 HI.out HZ0.out HZ1.out HZ2.out rfl (by decide) _ _ _ rfl (HO1.out.alloc _) ⟨w1.heap.size, 0, none⟩ 1 1 [.iface 4 (.bool z)] rfl rfl HCL.out HONE.out (by decide) h63 hby HBASE.out _ rfl ?_; intro g cap w2 hown2 hgrow hat hglt)
        have hb2 := below_append HO1.out HB1.out hgrow
        clear hgrow hat
        go_roundw
        case rel =>
          refine ⟨k + 1, by omega, by go_num, ?_, hb2⟩
          rw [HSN.out]
          exact hown2
        case measure => simp [intOf] <;> omega
      · unfold ValD.val at HSN HVC
        go_wp2_with fail
        refine (HVC.out _).mono ?_
        rintro e w1 ⟨rfl, hb1⟩
        have HO1 := Lib.hid (own_below HO.out hb1)
        have HB1 := Lib.hid (HB.out.trans (hb1.mono HB.out.size))
        have hbase : w.heap.size ≤ (w1.alloc (.cells #[.iface 9 (.string z)] 60)).heap.size := by have := HB1.out.size; simp; omega
        have hone : ∀ u ∈ [(.iface 9 (.string z) : Value)], u.oneCell' = true := by simp [Value.oneCell']
        have hcl : ∀ j u, [(.iface 9 (.string z) : Value)][j]? = some u → (w1.alloc (.cells #[.iface 9 (.string z)] 60)).cell? ((⟨w1.heap.size, 0, none⟩ : Addr).add j) = some u := cell_one_new w1 _ 60
        have HBASE := Lib.hid hbase
        have HONE := Lib.hid hone
        have HCL := Lib.hid hcl
        clear hb1 HO HB hbase hone hcl
        go_wp2_with (at_builtin; refine wpList_append_lies _ rfl _ _ _ rfl w.heap.size 60 i0 .nilIface 1 16 Try.underlying31 HI.out HZ0.out HZ1.out HZ2.out rfl (by decide) _ _ _ rfl (HO1.out.alloc _) ⟨w1.heap.size, 0, none⟩ 1 1 [.iface 9 (.string z)] rfl rfl HCL.out HONE.out (by decide) h63 hby HBASE.out _ rfl ?_; intro g cap w2 hown2 hgrow hat hglt)
        have hb2 := below_append HO1.out HB1.out hgrow
        clear hgrow hat
        go_roundw
        case rel =>
          refine ⟨k + 1, by omega, by go_num, ?_, hb2⟩
          rw [HSN.out]
          exact hown2
        case measure => simp [intOf] <;> omega
    · have hkn : xs.take k = xs := List.take_of_length_le (by have := HLEN.out; omega)
      have hkn2 : k = n := by omega
      subst hkn2
      rw [hkn] at HO
      go_wp2
      go_ret
      exact ⟨_, rfl, HO.out, HB.out⟩
end Go.Proofs.Ytkildbpfondgcaa
