/- Does a cell stand in a list: catchmentref11.Has. -/
import Derived.Test.YtkofaoaglnjkgaaCellRowm
import Derived.Test.YtkofaoaglnjkgaaBase
import Derived.BigRegion
namespace Go.Proofs.Ytkofaoaglnjkgaa
open Go.RowKit Go.Deep
set_option linter.unusedVariables false
set_option linter.unusedSimpArgs false

theorem bytes_ne' {x y : ByteArray} (h : x ≠ y) : (x.toList == y.toList) = false := by
  rw [beq_eq_false_iff_ne, Lib.toList_data, Lib.toList_data]
  intro hc
  exact h (ByteArray.ext (Array.toList_inj.1 hc))
def isIn (v : CellD) (l : List CellD) : Bool := l.any fun x => decide (x.kind = v.kind ∧ x.n = v.n ∧ x.s = v.s)
theorem isIn_mem {v : CellD} {l : List CellD} (h : isIn v l = true) : v ∈ l := by
  obtain ⟨x, hx, h⟩ := List.any_eq_true.1 h
  obtain ⟨xk, xn, xs⟩ := x
  obtain ⟨vk, vn, vs⟩ := v
  simp only [decide_eq_true_eq] at h
  obtain ⟨rfl, rfl, rfl⟩ := h
  exact hx
set_option maxRecDepth 100000 in
set_option maxHeartbeats 4000000 in
theorem has_calls (a : Option Addr) (n c : Nat) (xs : List CellD) (v : CellD) (w : World) (h : Sl 3 CellR w a n xs) (hn : n ≤ 100000) :
    Calls Try.prog 8 #[.slice a n c, .agg v.cells] w (BoolIs (isIn v xs) w) := by
  have HS := Lib.hid h
  have HLEN := Lib.hid h.1
  obtain ⟨vk, vn, vs⟩ := v
  simp only [CellD.cells]
  clear h
  go_enter Try.func8, Try.ntmps8
  go_wp2
  obtain ⟨W0, hWW⟩ : ∃ W : World, W = w.alloc (.cells #[.int .u8 vk, .int .i64 vn, .string vs] 26) := ⟨_, rfl⟩
  have hb : Below w.heap.size w W0 := by rw [hWW]; exact (Below.refl _ _).alloc (Nat.le_refl _) _
  have hx : Box W0 w.heap.size #[.int .u8 vk, .int .i64 vn, .string vs] := by rw [hWW]; exact Box.new _ _ _
  rw [← hWW]
  clear hWW
  have HB0 := Lib.hid hb
  have HX := Lib.hid hx
  clear hb hx
  go_loopw [5] (fun i wr => ∃ k : Nat, k ≤ n ∧ i = .int .i64 k ∧ isIn ⟨vk, vn, vs⟩ (xs.take k) = false ∧ Below W0.heap.size W0 wr) (fun i _ => n - (intOf i).toNat)
  case atStart => exact ⟨0, Nat.zero_le _, rfl, rfl, Below.refl _ _⟩
  case round =>
    obtain ⟨k, hk, rfl, hno, hb⟩ := hrel
    have HN := Lib.hid hno
    have HB := Lib.hid hb
    have XR := Lib.hid (HX.out.call hb)
    clear hno hb
    have hki : (0 : Int) ≤ (k : Int) := by omega
    by_cases hlt : k < n
    · have hkn : (k : Int) < (n : Int) := by omega
      obtain ⟨b, off, ce, cs, rfl, hbl, hx, hcl, hr, hcell⟩ := HS.out.at_ hlt
      obtain ⟨rfl, _⟩ := hr
      have hbw : b < wr.heap.size := by have := HB0.out.size; have := HB.out.size; omega
      have d0 := ((HB0.out.trans (HB.out.mono HB0.out.size)).cell (p := ⟨b, off + k * 3 + 0, none⟩) hbl).trans (hcell 0 _ rfl)
      have d1 := ((HB0.out.trans (HB.out.mono HB0.out.size)).cell (p := ⟨b, off + k * 3 + 1, none⟩) hbl).trans (hcell 1 _ rfl)
      have d2 := ((HB0.out.trans (HB.out.mono HB0.out.size)).cell (p := ⟨b, off + k * 3 + 2, none⟩) hbl).trans (hcell 2 _ rfl)
      rw [Nat.add_zero] at d0
      have hmem : xs.take (k + 1) = xs.take k ++ [ce] := by rw [List.take_add_one, hx]; rfl
      have HST := Lib.hid (show isIn ⟨vk, vn, vs⟩ (xs.take (k + 1)) = decide (ce.kind = vk ∧ ce.n = vn ∧ ce.s = vs) by
        have := HN.out
        unfold isIn at this ⊢
        rw [hmem, List.any_append, this]; simp)
      have HAL := Lib.hid (fun (h : isIn ⟨vk, vn, vs⟩ (xs.take (k + 1)) = true) => (show isIn ⟨vk, vn, vs⟩ xs = true by
        unfold isIn at h ⊢
        obtain ⟨y, hy, hp⟩ := List.any_eq_true.1 h
        exact List.any_eq_true.2 ⟨y, List.mem_of_mem_take hy, hp⟩))
      obtain ⟨ck, cn, cst⟩ := ce
      simp only [] at d0 d1 d2
      have x0 : wr.cell? ⟨w.heap.size, 0, none⟩ = some (.int .u8 vk) := XR.out.cell 0 rfl
      have x1 : wr.cell? ⟨w.heap.size, 1, none⟩ = some (.int .i64 vn) := XR.out.cell 1 rfl
      have x2 : wr.cell? ⟨w.heap.size, 2, none⟩ = some (.string vs) := XR.out.cell 2 rfl
      have z0 := XR.out.lt
      clear hcell hcl hx hmem
      by_cases hq : ck = vk ∧ cn = vn ∧ cst = vs
      · obtain ⟨rfl, rfl, rfl⟩ := hq
        go_wp2_with (first | go_region | fail)
        all_goals go_ret
        all_goals exact ⟨by rw [HAL.out (by rw [HST.out]; simp)]; rfl, HB0.out.trans ((below_drewN HB.out _).mono HB0.out.size)⟩
      · have HF := Lib.hid (show isIn ⟨vk, vn, vs⟩ (xs.take (k + 1)) = false by rw [HST.out]; exact decide_eq_false hq)
        by_cases h1 : ck = vk
        · subst h1
          by_cases h2 : cn = vn
          · subst h2
            have h3 : cst ≠ vs := fun e => hq ⟨rfl, rfl, e⟩
            have h3b := bytes_ne' h3
            clear hq
            go_wp2_with (first | go_region | fail)
            all_goals go_roundw
            case rel => exact ⟨k + 1, by omega, by go_num, HF.out, below_drewN HB.out _⟩
            case measure => simp [intOf] <;> omega
          · have h2b : (cn == vn) = false := by rw [beq_eq_false_iff_ne]; exact h2
            clear hq
            go_wp2_with (first | go_region | fail)
            all_goals go_roundw
            case rel => exact ⟨k + 1, by omega, by go_num, HF.out, below_drewN HB.out _⟩
            case measure => simp [intOf] <;> omega
        · have h1b : (ck == vk) = false := by rw [beq_eq_false_iff_ne]; exact h1
          clear hq
          go_wp2_with (first | go_region | fail)
          all_goals go_roundw
          case rel => exact ⟨k + 1, by omega, by go_num, HF.out, below_drewN HB.out _⟩
          case measure => simp [intOf] <;> omega
    · obtain rfl : k = n := by omega
      have h1 : xs.take k = xs := List.take_of_length_le (by rw [HLEN.out]; omega)
      have HF := Lib.hid (show isIn ⟨vk, vn, vs⟩ xs = false by have := HN.out; rwa [h1] at this)
      go_wp2
      go_ret
      exact ⟨by rw [HF.out]; rfl, HB0.out.trans (HB.out.mono HB0.out.size)⟩
end Go.Proofs.Ytkofaoaglnjkgaa
