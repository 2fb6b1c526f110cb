/- The contract of catchmentlaw09.column. -/
import Derived.Test.YtkildbpfondgcaaCellRowm
import Derived.Test.YtkildbpfondgcaaVlCmpm
import Derived.Test.YtkildbpfondgcaaPrEx
import Derived.Test.YtkildbpfondgcaaPrStats
import Derived.Handy
namespace Go.Proofs.Ytkildbpfondgcaa
open Go.RowKit Go.Deep
set_option linter.unusedVariables false
set_option linter.unusedSimpArgs false

def colC (k : Int) (c : CellD) : CellD := if (fix c).kind = k then fix c else zeroCell
def colF (k : Int) (l : List CellD) : List CellD := (l.take 300).map (colC k)
set_option maxRecDepth 100000 in
set_option maxHeartbeats 4000000 in
theorem column_calls (q : Int) (a : Option Addr) (n c : Nat) (xs : List CellD) (w : World) (h : Sl 3 CellR w a n xs) :
    Calls Try.prog 7 #[.int .u8 q, .slice a n c] w (fun e w' => ∃ v, e = .returned v ∧ w'.ownsRow w.heap.size 27 3 v (colF q xs).length ((colF q xs).flatMap cellV) ∧ Below w.heap.size w w') := by
  have HS := Lib.hid h
  have HLEN := Lib.hid h.1
  obtain ⟨i0, hi0, hz0, hz1, hz2⟩ := info_parts infoCell
  have HI := Lib.hid hi0
  have HZ0 := Lib.hid hz0
  have HZ1 := Lib.hid hz1
  have HZ2 := Lib.hid hz2
  have HFIX := Lib.hid fix_calls
  obtain ⟨ys, hys⟩ : ∃ ys, xs.map (colC q) = ys := ⟨_, rfl⟩
  have hyl : ys.length = n := by rw [← hys, List.length_map]; exact h.1
  have hcf : colF q xs = ys.take 300 := by unfold colF; rw [← hys, List.map_take]
  rw [hcf]
  have HYL := Lib.hid hyl
  have HYS := Lib.hid hys
  clear h hi0 hz0 hz1 hz2 hcf hyl hys
  go_enter Try.func7, Try.ntmps7
  go_wp2
  go_loopw [5, 6] (fun v i wr => ∃ k : Nat, k ≤ n ∧ k ≤ 300 ∧ i = .int .i64 k ∧ wr.ownsRow w.heap.size 27 3 v k ((ys.take k).flatMap cellV) ∧ Below w.heap.size w wr) (fun _ i _ => n - (intOf i).toNat)
  case atStart => exact ⟨0, Nat.zero_le _, Nat.zero_le _, rfl, World.ownsRow_nil _ _ _ _, Below.refl _ _⟩
  case round =>
    obtain ⟨k, hk, hk3, rfl, hown, hb⟩ := hrel
    have HO := Lib.hid hown
    have HB := Lib.hid hb
    clear hown hb
    have hki : (0 : Int) ≤ (k : Int) := by omega
    by_cases hlt : k < n
    · have hkn : (k : Int) < (n : Int) := by omega
      by_cases hlt3 : k < 300
      · have hk3i : (k : Int) < 300 := by omega
        obtain ⟨b, off, ce, cs, rfl, hbl, hx, hcl, hr, hcell⟩ := HS.out.at_ hlt
        obtain ⟨rfl, hsz, ⟨hk0, _⟩, _⟩ := hr
        have d0 := (HB.out.cell (p := ⟨b, off + k * 3 + 0, none⟩) hbl).trans (hcell 0 _ rfl)
        have d1 := (HB.out.cell (p := ⟨b, off + k * 3 + 1, none⟩) hbl).trans (hcell 1 _ rfl)
        have d2 := (HB.out.cell (p := ⟨b, off + k * 3 + 2, none⟩) hbl).trans (hcell 2 _ rfl)
        rw [Nat.add_zero] at d0
        have hyk : ys[k]? = some (colC q ce) := by rw [← HYS.out, List.getElem?_map, hx]; rfl
        have hsn := flat_snoc (f := cellV) hyk
        have hv := HFIX.out ce hk0
        unfold colC at hsn
        generalize fix ce = d at *
        unfold CellD.cells at hv
        have HVC := Lib.hid hv
        have h63 : k + 1 ≤ maxLen := by unfold maxLen; omega
        have hby : (k + 1) * 32 ≤ 140737488355328 := by omega
        clear hcell hx hsz hk0 hv hyk
        obtain ⟨dk, dn, ds⟩ := d
        go_wp2_with fail
        refine (HVC.out _).mono ?_
        rintro e w1 ⟨rfl, hb1⟩
        have HO1 := Lib.hid (own_below HO.out hb1)
        have HB1 := Lib.hid (HB.out.trans (hb1.mono HB.out.size))
        clear hb1 HO HB d0 d1 d2
        by_cases hkq : dk = q
        · have hne : (dk != q) = false := by simp [hkq]
          have HSN := Lib.hid (show (ys.take (k + 1)).flatMap cellV = (ys.take k).flatMap cellV ++ [.int .u8 dk, .int .i64 dn, .string ds] by rw [hsn, if_pos hkq]; rfl)
          clear hsn hkq
          have hbase : w.heap.size ≤ ((w1.alloc (.cells #[.int .u8 dk, .int .i64 dn, .string ds] 27)).alloc (.cells #[.int .u8 dk, .int .i64 dn, .string ds] 27)).heap.size := by have := HB1.out.size; simp; omega
          have hone : ∀ u ∈ ([.int .u8 dk, .int .i64 dn, .string ds] : List Value), u.oneCell' = true := by simp [Value.oneCell']
          have hcl : ∀ j u, ([.int .u8 dk, .int .i64 dn, .string ds] : List Value)[j]? = some u → ((w1.alloc (.cells #[.int .u8 dk, .int .i64 dn, .string ds] 27)).alloc (.cells #[.int .u8 dk, .int .i64 dn, .string ds] 27)).cell? ((⟨w1.heap.size + 1, 0, none⟩ : Addr).add j) = some u := fun j u hj => by
            have := CellsAt.alloc_at (w1.alloc (.cells #[.int .u8 dk, .int .i64 dn, .string ds] 27)) #[.int .u8 dk, .int .i64 dn, .string ds] 27 (w1.heap.size + 1) (by simp) j u (by simpa using hj)
            rw [show ((⟨w1.heap.size + 1, 0, none⟩ : Addr).add j) = ⟨w1.heap.size + 1, j, none⟩ by (simp [Addr.add] <;> omega)]
            exact this
          have HBASE := Lib.hid hbase
          have HONE := Lib.hid hone
          have HCL := Lib.hid hcl
          clear hbase hone hcl
          go_wp2_with (at_builtin; refine wpList_append_lies _ rfl _ _ _ rfl w.heap.size 27 i0 (.agg #[.int .u8 0, .int .i64 0, .string ByteArray.empty]) 3 32 Try.underlying22 HI.out HZ0.out HZ1.out HZ2.out rfl (by decide) _ _ _ rfl ((HO1.out.alloc _).alloc _) ⟨w1.heap.size + 1, 0, none⟩ 1 1 [.int .u8 dk, .int .i64 dn, .string ds] rfl rfl HCL.out HONE.out (by decide) h63 hby HBASE.out _ rfl ?_; intro g cap w2 hown2 hgrow hat hglt)
          have hb2 := below_append (HO1.out.alloc _) (HB1.out.alloc HB1.out.size _) hgrow
          clear hgrow hat
          go_roundw
          case rel =>
            refine ⟨k + 1, by omega, by omega, by go_num, ?_, hb2⟩
            rw [HSN.out]
            exact hown2
          case measure => simp [intOf] <;> omega
        · have hne : (dk != q) = true := by simp [hkq]
          have HSN := Lib.hid (show (ys.take (k + 1)).flatMap cellV = (ys.take k).flatMap cellV ++ [.int .u8 0, .int .i64 0, .string ByteArray.empty] by rw [hsn, if_neg hkq]; rfl)
          clear hsn hkq
          have hbase : w.heap.size ≤ ((w1.alloc (.cells #[.int .u8 0, .int .i64 0, .string ByteArray.empty] 27)).alloc (.cells #[.int .u8 0, .int .i64 0, .string ByteArray.empty] 27)).heap.size := by have := HB1.out.size; simp; omega
          have hone : ∀ u ∈ ([.int .u8 0, .int .i64 0, .string ByteArray.empty] : List Value), u.oneCell' = true := by simp [Value.oneCell']
          have hcl : ∀ j u, ([.int .u8 0, .int .i64 0, .string ByteArray.empty] : List Value)[j]? = some u → ((w1.alloc (.cells #[.int .u8 0, .int .i64 0, .string ByteArray.empty] 27)).alloc (.cells #[.int .u8 0, .int .i64 0, .string ByteArray.empty] 27)).cell? ((⟨w1.heap.size + 1, 0, none⟩ : Addr).add j) = some u := fun j u hj => by
            have := CellsAt.alloc_at (w1.alloc (.cells #[.int .u8 0, .int .i64 0, .string ByteArray.empty] 27)) #[.int .u8 0, .int .i64 0, .string ByteArray.empty] 27 (w1.heap.size + 1) (by simp) j u (by simpa using hj)
            rw [show ((⟨w1.heap.size + 1, 0, none⟩ : Addr).add j) = ⟨w1.heap.size + 1, j, none⟩ by (simp [Addr.add] <;> omega)]
            exact this
          have HBASE := Lib.hid hbase
          have HONE := Lib.hid hone
          have HCL := Lib.hid hcl
          clear hbase hone hcl
          go_wp2_with (at_builtin; refine wpList_append_lies _ rfl _ _ _ rfl w.heap.size 27 i0 (.agg #[.int .u8 0, .int .i64 0, .string ByteArray.empty]) 3 32 Try.underlying22 HI.out HZ0.out HZ1.out HZ2.out rfl (by decide) _ _ _ rfl ((HO1.out.alloc _).alloc _) ⟨w1.heap.size + 1, 0, none⟩ 1 1 [.int .u8 0, .int .i64 0, .string ByteArray.empty] rfl rfl HCL.out HONE.out (by decide) h63 hby HBASE.out _ rfl ?_; intro g cap w2 hown2 hgrow hat hglt)
          have hb2 := below_append (HO1.out.alloc _) (HB1.out.alloc HB1.out.size _) hgrow
          clear hgrow hat
          go_roundw
          case rel =>
            refine ⟨k + 1, by omega, by omega, by go_num, ?_, hb2⟩
            rw [HSN.out]
            exact hown2
          case measure => simp [intOf] <;> omega
      · obtain rfl : k = 300 := by omega
        go_wp2
        go_ret
        refine ⟨_, rfl, ?_, HB.out⟩
        have : (ys.take 300).length = 300 := by rw [List.length_take, HYL.out]; omega
        rw [this]
        exact HO.out
    · obtain rfl : k = n := by omega
      go_wp2
      go_ret
      refine ⟨_, rfl, ?_, HB.out⟩
      have h1 : ys.take k = ys := List.take_of_length_le (by have := HYL.out; omega)
      have h2 : ys.take 300 = ys := List.take_of_length_le (by have := HYL.out; omega)
      have := HO.out
      rw [h1] at this
      rw [h2, HYL.out]
      exact this
theorem sl_all {α : Type} {size : Nat} {R : Rd α} {w : World} {a : Option Addr} {n : Nat} {xs : List α} (h : Sl size R w a n xs) : ∀ x ∈ xs, ∃ cs, R w cs x := by
  intro x hx
  obtain ⟨i, hi, rfl⟩ := List.getElem_of_mem hx
  have hn : i < n := by have := h.1; omega
  obtain ⟨b, off, _, _, hc⟩ := h.2 (by omega)
  obtain ⟨cs, _, hr, _⟩ := hc i _ (List.getElem?_eq_getElem hi)
  exact ⟨cs, hr⟩
theorem fix_zero : fix zeroCell = zeroCell := by kernel_rfl
theorem fix_good (c : CellD) (h0 : 0 ≤ c.kind) : 0 ≤ (fix c).kind ∧ (fix c).kind ≤ 3 ∧ ((fix c).kind = 3 → (fix c).n = 0) := by
  have h1 := fix_kind c h0
  refine ⟨h1.1, h1.2, fun h3 => ?_⟩
  unfold fix at h3 ⊢
  by_cases hc : chk c = 0
  · rw [if_pos hc] at h3 ⊢
    unfold chk at hc
    rw [if_neg (by omega)] at hc
    by_cases hb : (c.kind ≠ 3 ∧ c.s.size ≠ 0) ∨ (c.kind ≠ 1 ∧ c.kind ≠ 2 ∧ c.n ≠ 0) ∨ (c.kind = 2 ∧ c.n ≠ 0 ∧ c.n ≠ 1)
    · rw [if_pos hb] at hc; omega
    · omega
  · rw [if_neg hc] at h3; exact absurd h3 (by decide)
/-- Cells that are good as they are. -/
def GoodCol (l : List CellD) : Prop := ∀ c ∈ l, fix c = c ∧ 0 ≤ c.kind ∧ CellOK c
theorem colC_good (q : Int) (c : CellD) (h : CellOK c) : fix (colC q c) = colC q c ∧ 0 ≤ (colC q c).kind ∧ CellOK (colC q c) := by
  have hz : CellOK zeroCell := ⟨by decide, by decide, by decide⟩
  unfold colC
  split
  · refine ⟨fix_fix c, (fix_kind c h.2.1.1).1, ?_⟩
    unfold fix; split
    · exact h
    · exact hz
  · exact ⟨fix_zero, by decide, hz⟩
theorem colF_good {q : Int} {xs : List CellD} (h : ∀ x ∈ xs, CellOK x) : GoodCol (colF q xs) := by
  intro c hc
  obtain ⟨x, hx, rfl⟩ := List.mem_map.1 hc
  exact colC_good q x (h x (List.mem_of_mem_take hx))
theorem GoodCol.col {l : List CellD} (h : GoodCol l) : ColOK l := fun c hc => by
  have h1 := fix_good c (h c hc).2.1
  rw [(h c hc).1] at h1
  exact h1
theorem GoodCol.size {l : List CellD} (h : GoodCol l) : ∀ c ∈ l, c.s.size ≤ 64 := fun c hc => by
  have := fix_size c
  rw [(h c hc).1] at this; exact this
theorem GoodCol.cells {l : List CellD} (h : GoodCol l) : (l.map goodVal).map ValD.cell = l := by
  rw [List.map_map]
  calc l.map (ValD.cell ∘ goodVal) = l.map id := List.map_congr_left fun c hc => by
        show (goodVal c).cell = c
        rw [good_cell c (h c hc).2.1, (h c hc).1]
    _ = l := List.map_id l
theorem valsV_flat (l : List CellD) : valsV l = (l.map goodVal).flatMap fun d => [d.val] := by
  unfold valsV
  induction l with
  | nil => rfl
  | cons x l ih => simp only [List.map_cons, List.flatMap_cons, ih]; rfl
theorem GoodCol.reads {l : List CellD} (h : GoodCol l) (w : World) : ∀ c ∈ l, CellR w (cellV c) c := fun c hc => ⟨rfl, (h c hc).2.2⟩
theorem row_sl {w : World} {B n : Nat} {v : Value} {l : List CellD} (h : w.ownsRow B 60 1 v n (valsV l)) : ∃ a c, v = .slice a n c ∧ Sl 1 ValR w a n (l.map goodVal) := by
  obtain ⟨a, c, rfl, _⟩ := own_slice h
  rw [valsV_flat] at h
  exact ⟨a, c, rfl, own_sl (by decide) (fun _ => rfl) (fun _ _ => rfl) h⟩
def TruePost (w : World) (e : Ending) (w' : World) : Prop := e = .returned (.bool true) ∧ Below w.heap.size w w'
end Go.Proofs.Ytkildbpfondgcaa
