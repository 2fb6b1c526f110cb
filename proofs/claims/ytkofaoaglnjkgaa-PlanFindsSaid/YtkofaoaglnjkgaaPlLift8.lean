/- The contracts of catchmentref08.Lift and catchmentref10.Values. -/
import Derived.Test.YtkofaoaglnjkgaaBase
import Derived.Test.YtkofaoaglnjkgaaCellRowm
import Derived.Deep.DeepCutAuto
namespace Go.Proofs.Ytkofaoaglnjkgaa
open Go.RowKit Go.Deep
set_option linter.unusedVariables false
set_option linter.unusedSimpArgs false

def liftCell (ff : List FieldD) (row : List CellD) (y : FieldD) : CellD := if placeI ff y.id < 0 then zeroCell else (row[(placeI ff y.id).toNat]?).getD zeroCell
def liftRow (ff ft : List FieldD) (row : List CellD) : List CellD := ft.map (liftCell ff row)
def RowPost (l : List CellD) (w : World) (e : Ending) (w' : World) : Prop := ∃ v, e = .returned v ∧ w'.ownsRow w.heap.size 26 3 v l.length (l.flatMap cellV) ∧ Below w.heap.size w w'
set_option maxRecDepth 100000 in
set_option maxHeartbeats 16000000 in
theorem lift8_calls (cf : List Value) (f : SchemaD) (ct : List Value) (t : SchemaD) (a : Option Addr) (n c : Nat) (row : List CellD) (w : World) (hf : SchemaR w cf f) (ht : SchemaR w ct t) (hfl : f.fields.length ≤ 1000) (htl : t.fields.length ≤ 1000) (hr : Sl 3 CellR w a n row) (hn : n ≤ 1000) :
    Calls Try.prog 21 #[.agg cf.toArray, .agg ct.toArray, .slice a n c] w (RowPost (liftRow f.fields t.fields row) w) := by
  have HF := Lib.hid hf
  have HT := Lib.hid ht
  have HFL := Lib.hid hfl
  have HTL := Lib.hid htl
  have HR := Lib.hid hr
  have HRL := Lib.hid hr.1
  obtain ⟨fa, fn, fc, rfl, _⟩ := hf
  obtain ⟨ta, tn, tc, rfl, ht1, ht2, _, hts, _⟩ := ht
  have HTS := Lib.hid hts
  have HTSL := Lib.hid hts.1
  have htn : tn ≤ 1000 := by have := hts.1; omega
  obtain ⟨i0, hi0, hz0, hz1, hz2⟩ := info_parts infoCell
  have HI := Lib.hid hi0
  have HZ0 := Lib.hid hz0
  have HZ1 := Lib.hid hz1
  have HZ2 := Lib.hid hz2
  obtain ⟨ys, hys⟩ : ∃ ys, liftRow f.fields t.fields row = ys := ⟨_, rfl⟩
  have hyl : ys.length = tn := by rw [← hys]; unfold liftRow; rw [List.length_map]; exact hts.1
  have hyk : ∀ (k : Nat) (y : FieldD), t.fields[k]? = some y → ys[k]? = some (liftCell f.fields row y) := fun k y h => by rw [← hys]; unfold liftRow; rw [List.getElem?_map, h]; rfl
  rw [hys]
  have HYL := Lib.hid hyl
  have HYK := Lib.hid hyk
  unfold RowPost
  clear hr hts ht1 ht2 hi0 hz0 hz1 hz2 hys hyl hyk hfl htl
  go_enter Try.func21, Try.ntmps21
  go_wp2
  obtain ⟨W0, hWW⟩ : ∃ W0 : World, W0 = ((w.alloc (.cells #[.int .u32 (f.id : Int), .slice fa fn fc] 37)).alloc (.cells #[.int .u32 (t.id : Int), .slice ta tn tc] 37)) := ⟨_, rfl⟩
  have hm : Mem w.heap.size [#[.int .u32 (f.id : Int), .slice fa fn fc], #[.int .u32 (t.id : Int), .slice ta tn tc]] w W0 := by rw [hWW]; exact (((Mem.nil w).push (by simp) #[.int .u32 (f.id : Int), .slice fa fn fc] 37).push (by simp) #[.int .u32 (t.id : Int), .slice ta tn tc] 37)
  rw [← hWW]
  clear hWW
  have M0 := Lib.hid hm
  clear hm
  go_loopw [7, 8] (fun v i wr => ∃ k : Nat, k ≤ tn ∧ i = .int .i64 (k : Int) ∧ wr.ownsRow W0.heap.size 26 3 v k ((ys.take k).flatMap cellV) ∧ Below W0.heap.size W0 wr) (fun _ i _ => tn - (intOf i).toNat)
  case atStart => exact ⟨0, Nat.zero_le _, rfl, World.ownsRow_nil _ _ _ _, Below.refl _ _⟩
  case round =>
    obtain ⟨k, hk, rfl, hown, hb⟩ := hrel
    have HO := Lib.hid hown
    have HB := Lib.hid hb
    have MR := Lib.hid (M0.out.call hb)
    clear hown hb
    have hki : (0 : Int) ≤ (k : Int) := by omega
    have q1_1 : wr.cell? ⟨w.heap.size + 1, 1, none⟩ = some (.slice ta tn tc) := MR.out.cell 1 1 rfl rfl
    by_cases hlt : k < tn
    · have hkn : (k : Int) < (tn : Int) := by omega
      obtain ⟨b, off, y, yv, rfl, hbl, hy, hcl, hr, hcell⟩ := HTS.out.at_ hlt
      obtain ⟨rfl, _⟩ := hr
      have e0 := MR.out.old (p := ⟨b, off + k * 4 + 0, none⟩) hbl (hcell 0 _ rfl)
      rw [Nat.add_zero] at e0
      have hsn := flat_snoc (f := cellV) (HYK.out k y hy)
      unfold liftCell at hsn
      have hpl := fun G : Kept wr => (refplace_calls _ f y.id G.W (SchemaR.stable _ _ _ _ (MR.out.call G.h).below HF.out) HFL.out).mono fun e w' h => show ValIs (.int .i64 (placeI f.fields y.id)) G.W e w' from h
      have hran := idxF_lt (hasId y.id) f.fields
      have hrn : placeI f.fields y.id = idxF (hasId y.id) f.fields := rfl
      rw [← hrn] at hran
      have hflx := HFL.out
      generalize placeI f.fields y.id = i at *
      have HPL := Lib.hid hpl
      have q0_0 : wr.cell? ⟨w.heap.size, 0, none⟩ = some (.int .u32 (f.id : Int)) := MR.out.cell 0 0 rfl rfl
      have q0_1 : wr.cell? ⟨w.heap.size, 1, none⟩ = some (.slice fa fn fc) := MR.out.cell 0 1 rfl rfl
      have ke0 := kept_cell e0
      have kq0 := kept_cell q0_0
      have kq1 := kept_cell q0_1
      have kq2 := kept_cell q1_1
      clear hcell hcl hy hpl hrn
      go_upto_region 5 with fail
      refine wp_region_kept (by kernel_rfl) (by kernel_rfl) ?_
      repeat (go_big_quiet_step (first | (go_at_call 45; with_reducible exact kept_call (HPL.out _))))
      refine wpQuiet_nil ?_
      intro W2 hb2
      have HB2 := Lib.hid (HB.out.trans (hb2.mono HB.out.size))
      have HO2 := Lib.hid (own_below HO.out hb2)
      have M2 := Lib.hid (MR.out.call hb2)
      clear hb2 e0 ke0 q0_0 q0_1 q1_1 kq0 kq1 kq2
      by_cases hneg : i < 0
      · have HSN := Lib.hid (show (ys.take (k + 1)).flatMap cellV = (ys.take k).flatMap cellV ++ [.int .u8 0, .int .i64 0, .string ByteArray.empty] by rw [hsn]; rw [if_pos hneg]; rfl)
        clear hsn
        have h63 : k + 1 ≤ maxLen := by unfold maxLen; omega
        have hby : (k + 1) * 32 ≤ 140737488355328 := by omega
        have hbase : W0.heap.size ≤ (W2.alloc (.cells #[.int .u8 0, .int .i64 0, .string ByteArray.empty] 26)).heap.size := by have := HB2.out.size; simp; omega
        have hone : ∀ u ∈ ([.int .u8 0, .int .i64 0, .string ByteArray.empty] : List Value), u.oneCell' = true := by simp [Value.oneCell']
        have hcl : ∀ j u, ([.int .u8 0, .int .i64 0, .string ByteArray.empty] : List Value)[j]? = some u → (W2.alloc (.cells #[.int .u8 0, .int .i64 0, .string ByteArray.empty] 26)).cell? ((⟨W2.heap.size, 0, none⟩ : Addr).add j) = some u := fun j u hj => by
          have := CellsAt.alloc_at W2 #[.int .u8 0, .int .i64 0, .string ByteArray.empty] 26 W2.heap.size rfl j u (by simpa using hj)
          rw [show ((⟨W2.heap.size, 0, none⟩ : Addr).add j) = ⟨W2.heap.size, j, none⟩ by (simp [Addr.add] <;> omega)]
          exact this
        have HBASE := Lib.hid hbase
        have HONE := Lib.hid hone
        have HCL := Lib.hid hcl
        clear hbase hone hcl
        go_wp2_with (at_builtin; refine wpList_append_lies _ rfl _ _ _ rfl W0.heap.size 26 i0 (.agg #[.int .u8 0, .int .i64 0, .string ByteArray.empty]) 3 32 Try.underlying22 HI.out HZ0.out HZ1.out HZ2.out rfl (by decide) _ _ _ rfl (HO2.out.alloc _) ⟨W2.heap.size, 0, none⟩ 1 1 [.int .u8 0, .int .i64 0, .string ByteArray.empty] rfl rfl HCL.out HONE.out (by decide) h63 hby HBASE.out _ rfl ?_; intro g cap w6 hown5 hgrow5 hat5 hglt5)
        have hb6 := below_append HO2.out HB2.out hgrow5
        clear hgrow5 hat5
        go_roundw
        case rel => exact ⟨k + 1, by omega, by go_num, by rw [HSN.out]; exact hown5, hb6⟩
        case measure => simp [intOf] <;> omega
      · by_cases hfar : (n : Int) ≤ i
        · have hx : row[i.toNat]? = none := List.getElem?_eq_none (by have := HRL.out; omega)
          have HSN := Lib.hid (show (ys.take (k + 1)).flatMap cellV = (ys.take k).flatMap cellV ++ [.int .u8 0, .int .i64 0, .string ByteArray.empty] by rw [hsn]; rw [if_neg hneg, hx]; rfl)
          clear hsn
          clear hx
          have h63 : k + 1 ≤ maxLen := by unfold maxLen; omega
          have hby : (k + 1) * 32 ≤ 140737488355328 := by omega
          have hbase : W0.heap.size ≤ (W2.alloc (.cells #[.int .u8 0, .int .i64 0, .string ByteArray.empty] 26)).heap.size := by have := HB2.out.size; simp; omega
          have hone : ∀ u ∈ ([.int .u8 0, .int .i64 0, .string ByteArray.empty] : List Value), u.oneCell' = true := by simp [Value.oneCell']
          have hcl : ∀ j u, ([.int .u8 0, .int .i64 0, .string ByteArray.empty] : List Value)[j]? = some u → (W2.alloc (.cells #[.int .u8 0, .int .i64 0, .string ByteArray.empty] 26)).cell? ((⟨W2.heap.size, 0, none⟩ : Addr).add j) = some u := fun j u hj => by
            have := CellsAt.alloc_at W2 #[.int .u8 0, .int .i64 0, .string ByteArray.empty] 26 W2.heap.size rfl j u (by simpa using hj)
            rw [show ((⟨W2.heap.size, 0, none⟩ : Addr).add j) = ⟨W2.heap.size, j, none⟩ by (simp [Addr.add] <;> omega)]
            exact this
          have HBASE := Lib.hid hbase
          have HONE := Lib.hid hone
          have HCL := Lib.hid hcl
          clear hbase hone hcl
          go_wp2_with (at_builtin; refine wpList_append_lies _ rfl _ _ _ rfl W0.heap.size 26 i0 (.agg #[.int .u8 0, .int .i64 0, .string ByteArray.empty]) 3 32 Try.underlying22 HI.out HZ0.out HZ1.out HZ2.out rfl (by decide) _ _ _ rfl (HO2.out.alloc _) ⟨W2.heap.size, 0, none⟩ 1 1 [.int .u8 0, .int .i64 0, .string ByteArray.empty] rfl rfl HCL.out HONE.out (by decide) h63 hby HBASE.out _ rfl ?_; intro g cap w6 hown5 hgrow5 hat5 hglt5)
          have hb6 := below_append HO2.out HB2.out hgrow5
          clear hgrow5 hat5
          go_roundw
          case rel => exact ⟨k + 1, by omega, by go_num, by rw [HSN.out]; exact hown5, hb6⟩
          case measure => simp [intOf] <;> omega
        · obtain ⟨m, rfl⟩ : ∃ m : Nat, i = (m : Int) := ⟨i.toNat, by omega⟩
          have hmn : m < n := by omega
          obtain ⟨b2, off2, x, xv, rfl, hbl2, hx, hcl, hr, hcell⟩ := HR.out.at_ hmn
          obtain ⟨rfl, _⟩ := hr
          rw [Int.toNat_natCast, hx, if_neg hneg] at hsn
          have d0 := M2.out.old (p := ⟨b2, off2 + m * 3 + 0, none⟩) hbl2 (hcell 0 _ rfl)
          have d1 := M2.out.old (p := ⟨b2, off2 + m * 3 + 1, none⟩) hbl2 (hcell 1 _ rfl)
          have d2 := M2.out.old (p := ⟨b2, off2 + m * 3 + 2, none⟩) hbl2 (hcell 2 _ rfl)
          rw [Nat.add_zero] at d0
          obtain ⟨xk, xn, xs⟩ := x
          simp only [] at d0 d1 d2
          have HSN := Lib.hid (show (ys.take (k + 1)).flatMap cellV = (ys.take k).flatMap cellV ++ [.int .u8 xk, .int .i64 xn, .string xs] from hsn)
          clear hsn hcell hcl hx hneg
          have h63 : k + 1 ≤ maxLen := by unfold maxLen; omega
          have hby : (k + 1) * 32 ≤ 140737488355328 := by omega
          have hbase : W0.heap.size ≤ (W2.alloc (.cells #[.int .u8 xk, .int .i64 xn, .string xs] 26)).heap.size := by have := HB2.out.size; simp; omega
          have hone : ∀ u ∈ ([.int .u8 xk, .int .i64 xn, .string xs] : List Value), u.oneCell' = true := by simp [Value.oneCell']
          have hcl : ∀ j u, ([.int .u8 xk, .int .i64 xn, .string xs] : List Value)[j]? = some u → (W2.alloc (.cells #[.int .u8 xk, .int .i64 xn, .string xs] 26)).cell? ((⟨W2.heap.size, 0, none⟩ : Addr).add j) = some u := fun j u hj => by
            have := CellsAt.alloc_at W2 #[.int .u8 xk, .int .i64 xn, .string xs] 26 W2.heap.size rfl j u (by simpa using hj)
            rw [show ((⟨W2.heap.size, 0, none⟩ : Addr).add j) = ⟨W2.heap.size, j, none⟩ by (simp [Addr.add] <;> omega)]
            exact this
          have HBASE := Lib.hid hbase
          have HONE := Lib.hid hone
          have HCL := Lib.hid hcl
          clear hbase hone hcl
          go_wp2_with (at_builtin; refine wpList_append_lies _ rfl _ _ _ rfl W0.heap.size 26 i0 (.agg #[.int .u8 0, .int .i64 0, .string ByteArray.empty]) 3 32 Try.underlying22 HI.out HZ0.out HZ1.out HZ2.out rfl (by decide) _ _ _ rfl (HO2.out.alloc _) ⟨W2.heap.size, 0, none⟩ 1 1 [.int .u8 xk, .int .i64 xn, .string xs] rfl rfl HCL.out HONE.out (by decide) h63 hby HBASE.out _ rfl ?_; intro g cap w6 hown5 hgrow5 hat5 hglt5)
          have hb6 := below_append HO2.out HB2.out hgrow5
          clear hgrow5 hat5
          go_roundw
          case rel => exact ⟨k + 1, by omega, by go_num, by rw [HSN.out]; exact hown5, hb6⟩
          case measure => simp [intOf] <;> omega
    · obtain rfl : k = tn := by omega
      go_wp2
      go_ret
      refine ⟨_, rfl, ?_, MR.out.below⟩
      have h1 : ys.take k = ys := List.take_of_length_le (by have := HYL.out; omega)
      have := ownF_le HO.out M0.out.below.size
      rw [h1] at this
      rw [HYL.out]
      exact this
set_option maxRecDepth 100000 in
set_option maxHeartbeats 16000000 in
theorem values_calls (a : Option Addr) (n c : Nat) (rows : List (List CellD)) (q : Nat) (w : World) (h : Sl 1 FRow w a n rows) (hn : n ≤ 1000) (hq : ∀ r ∈ rows, q < r.length) (hrl : ∀ r ∈ rows, r.length ≤ 1000) :
    Calls Try.prog 18 #[.slice a n c, .int .i64 (q : Int)] w (RowPost (rows.map fun r => (r[q]?).getD zeroCell) w) := by
  have HS := Lib.hid h
  have HQ := Lib.hid hq
  have HRL := Lib.hid hrl
  obtain ⟨i0, hi0, hz0, hz1, hz2⟩ := info_parts infoCell
  have HI := Lib.hid hi0
  have HZ0 := Lib.hid hz0
  have HZ1 := Lib.hid hz1
  have HZ2 := Lib.hid hz2
  obtain ⟨ys, hys⟩ : ∃ ys, (rows.map fun r => (r[q]?).getD zeroCell) = ys := ⟨_, rfl⟩
  have hyl : ys.length = n := by rw [← hys, List.length_map]; exact h.1
  have hyk : ∀ (k : Nat) (r : List CellD) (x : CellD), rows[k]? = some r → r[q]? = some x → ys[k]? = some x := fun k r x h hx => by rw [← hys, List.getElem?_map, h]; simp [hx]
  rw [hys]
  have HYL := Lib.hid hyl
  have HYK := Lib.hid hyk
  unfold RowPost
  have hqi : (0 : Int) ≤ (q : Int) := by omega
  clear h hi0 hz0 hz1 hz2 hys hyl hyk hq hrl
  go_enter Try.func18, Try.ntmps18
  go_wp2
  go_loopw [5, 6] (fun v i wr => ∃ k : Nat, k ≤ n ∧ i = .int .i64 (k : Int) ∧ wr.ownsRow w.heap.size 26 3 v k ((ys.take k).flatMap cellV) ∧ Below w.heap.size w wr) (fun _ i _ => n - (intOf i).toNat)
  case atStart => exact ⟨0, Nat.zero_le _, rfl, World.ownsRow_nil _ _ _ _, Below.refl _ _⟩
  case round =>
    obtain ⟨k, hk, rfl, hown, hb⟩ := hrel
    have HO := Lib.hid hown
    have HB := Lib.hid hb
    clear hown hb
    have hki : (0 : Int) ≤ (k : Int) := by omega
    by_cases hlt : k < n
    · have hkn : (k : Int) < (n : Int) := by omega
      obtain ⟨b, off, r, rv, rfl, hbl, hr, hrr, hcell⟩ := HS.out.at1 hlt
      obtain ⟨ra, rn, rc, hrv, hrow⟩ := hrr
      simp only [List.cons.injEq, and_true] at hrv
      subst hrv
      have hrm := List.mem_of_getElem? hr
      have hqr := HQ.out r hrm
      have hrlen := HRL.out r hrm
      have hrn := hrow.1
      have hqn : q < rn := by omega
      have hqni : (q : Int) < (rn : Int) := by omega
      obtain ⟨b2, off2, x, xv, rfl, hbl2, hx, hcl, hxr, hcell2⟩ := hrow.at_ hqn
      obtain ⟨rfl, _⟩ := hxr
      have e0 := (HB.out.cell (p := ⟨b, off + k, none⟩) hbl).trans hcell
      have d0 := (HB.out.cell (p := ⟨b2, off2 + q * 3 + 0, none⟩) hbl2).trans (hcell2 0 _ rfl)
      have d1 := (HB.out.cell (p := ⟨b2, off2 + q * 3 + 1, none⟩) hbl2).trans (hcell2 1 _ rfl)
      have d2 := (HB.out.cell (p := ⟨b2, off2 + q * 3 + 2, none⟩) hbl2).trans (hcell2 2 _ rfl)
      rw [Nat.add_zero] at d0
      have hsn := flat_snoc (f := cellV) (HYK.out k r x hr hx)
      obtain ⟨xk, xn, xs⟩ := x
      simp only [] at d0 d1 d2
      have HSN := Lib.hid (show (ys.take (k + 1)).flatMap cellV = (ys.take k).flatMap cellV ++ [.int .u8 xk, .int .i64 xn, .string xs] from hsn)
      clear hsn hcell hcell2 hcl hx hr hrm hqr hrlen hrn hrow
      have h63 : k + 1 ≤ maxLen := by unfold maxLen; omega
      have hby : (k + 1) * 32 ≤ 140737488355328 := by omega
      have hbase : w.heap.size ≤ (wr.alloc (.cells #[.int .u8 xk, .int .i64 xn, .string xs] 26)).heap.size := by have := HB.out.size; simp; omega
      have hone : ∀ u ∈ ([.int .u8 xk, .int .i64 xn, .string xs] : List Value), u.oneCell' = true := by simp [Value.oneCell']
      have hcl : ∀ j u, ([.int .u8 xk, .int .i64 xn, .string xs] : List Value)[j]? = some u → (wr.alloc (.cells #[.int .u8 xk, .int .i64 xn, .string xs] 26)).cell? ((⟨wr.heap.size, 0, none⟩ : Addr).add j) = some u := fun j u hj => by
        have := CellsAt.alloc_at wr #[.int .u8 xk, .int .i64 xn, .string xs] 26 wr.heap.size rfl j u (by simpa using hj)
        rw [show ((⟨wr.heap.size, 0, none⟩ : Addr).add j) = ⟨wr.heap.size, j, none⟩ by (simp [Addr.add] <;> omega)]
        exact this
      have HBASE := Lib.hid hbase
      have HONE := Lib.hid hone
      have HCL := Lib.hid hcl
      clear hbase hone hcl
      go_wp2_with (at_builtin; refine wpList_append_lies _ rfl _ _ _ rfl w.heap.size 26 i0 (.agg #[.int .u8 0, .int .i64 0, .string ByteArray.empty]) 3 32 Try.underlying22 HI.out HZ0.out HZ1.out HZ2.out rfl (by decide) _ _ _ rfl (HO.out.alloc _) ⟨wr.heap.size, 0, none⟩ 1 1 [.int .u8 xk, .int .i64 xn, .string xs] rfl rfl HCL.out HONE.out (by decide) h63 hby HBASE.out _ rfl ?_; intro g cap w6 hown5 hgrow5 hat5 hglt5)
      have hb6 := below_append HO.out HB.out hgrow5
      clear hgrow5 hat5
      go_roundw
      case rel => exact ⟨k + 1, by omega, by go_num, by rw [HSN.out]; exact hown5, hb6⟩
      case measure => simp [intOf] <;> omega
    · obtain rfl : k = n := by omega
      go_wp2
      go_ret
      refine ⟨_, rfl, ?_, HB.out⟩
      have h1 : ys.take k = ys := List.take_of_length_le (by have := HYL.out; omega)
      have := HO.out
      rw [h1] at this
      rw [HYL.out]
      exact this
end Go.Proofs.Ytkofaoaglnjkgaa
