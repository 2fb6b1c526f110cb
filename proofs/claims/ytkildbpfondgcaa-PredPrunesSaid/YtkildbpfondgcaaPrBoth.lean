/- The contract of pred.both. -/
import Derived.Test.YtkildbpfondgcaaPrMayP
import Derived.WalkLawsBesides
namespace Go.Proofs.Ytkildbpfondgcaa
open Go.RowKit Go.Deep
set_option linter.unusedVariables false
set_option linter.unusedSimpArgs false

set_option maxRecDepth 100000 in
set_option maxHeartbeats 16000000 in
theorem both_and (a b : B3) (w : World) : Calls Try.prog 36 #[.agg a.cells, .agg b.cells, .func (.func 34) #[] #[]] w (ValIs (.agg (bothB min a b).cells) w) := by
  obtain ⟨PB, hPB⟩ : ∃ f : Nat → B3, f = partB min a b := ⟨_, rfl⟩
  have hmiss : ∀ m, (a.get (m / 3) && b.get (m % 3)) = false → PB (m + 1) = PB m := fun m h => by rw [hPB]; exact partB_miss h
  have hhit : ∀ m, m < 9 → (a.get (m / 3) && b.get (m % 3)) = true → (PB (m + 1)).cells = (PB m).cells.setIfInBounds (min (m / 3) (m % 3)) (.bool true) := fun m hm h => by rw [hPB]; exact partB_hit h (by omega)
  have HM := Lib.hid hmiss
  have HH := Lib.hid hhit
  have HEND := Lib.hid (show bothB min a b = PB 9 by rw [hPB]; rfl)
  have HZ := Lib.hid (show (PB 0).cells = #[.bool false, .bool false, .bool false] by rw [hPB]; rfl)
  clear hmiss hhit hPB
  obtain ⟨a0, a1, a2⟩ := a
  obtain ⟨b0, b1, b2⟩ := b
  simp only [B3.cells]
  go_enter Try.func36, Try.ntmps36
  go_wp2
  obtain ⟨W0, hWW⟩ : ∃ W0 : World, W0 = ((((w.alloc (.cells #[.bool a0, .bool a1, .bool a2] 51)).alloc (.cells #[.bool b0, .bool b1, .bool b2] 51)).alloc (.cells #[.bool false, .bool false, .bool false] 51)).alloc (.cells #[.bool false, .bool false, .bool false] 51)) := ⟨_, rfl⟩
  have hb0 : Below w.heap.size w W0 := by rw [hWW]; exact ((((Below.refl _ _).alloc (by first | exact Nat.le_refl _ | (simp; done) | (simp; omega)) _).alloc (by first | exact Nat.le_refl _ | (simp; done) | (simp; omega)) _).alloc (by first | exact Nat.le_refl _ | (simp; done) | (simp; omega)) _).alloc (by first | exact Nat.le_refl _ | (simp; done) | (simp; omega)) _
  have hsz : W0.heap.size = w.heap.size + 4 := by rw [hWW]; simp
  have hx0 : CellsAt W0 (w.heap.size) #[.bool a0, .bool a1, .bool a2] := by rw [hWW]; exact (((CellsAt.alloc_at _ _ _ _ (by simp)).alloc (by first | (simp; done) | (simp; omega)) _).alloc (by first | (simp; done) | (simp; omega)) _).alloc (by first | (simp; done) | (simp; omega)) _
  have hf0 : Soft W0 (w.heap.size) := by rw [hWW]; exact (((Soft.alloc_at _ _ _ _ (by simp)).alloc (by first | (simp; done) | (simp; omega)) _).alloc (by first | (simp; done) | (simp; omega)) _).alloc (by first | (simp; done) | (simp; omega)) _
  have hx1 : CellsAt W0 (w.heap.size + 1) #[.bool b0, .bool b1, .bool b2] := by rw [hWW]; exact ((CellsAt.alloc_at _ _ _ _ (by simp)).alloc (by first | (simp; done) | (simp; omega)) _).alloc (by first | (simp; done) | (simp; omega)) _
  have hf1 : Soft W0 (w.heap.size + 1) := by rw [hWW]; exact ((Soft.alloc_at _ _ _ _ (by simp)).alloc (by first | (simp; done) | (simp; omega)) _).alloc (by first | (simp; done) | (simp; omega)) _
  have hx2 : CellsAt W0 (w.heap.size + 1 + 1) #[.bool false, .bool false, .bool false] := by rw [hWW]; exact (CellsAt.alloc_at _ _ _ _ (by simp)).alloc (by first | (simp; done) | (simp; omega)) _
  have hf2 : Soft W0 (w.heap.size + 1 + 1) := by rw [hWW]; exact (Soft.alloc_at _ _ _ _ (by simp)).alloc (by first | (simp; done) | (simp; omega)) _
  have hx3 : CellsAt W0 (w.heap.size + 1 + 1 + 1) #[.bool false, .bool false, .bool false] := by rw [hWW]; exact CellsAt.alloc_at _ _ _ _ (by simp)
  have hf3 : Soft W0 (w.heap.size + 1 + 1 + 1) := by rw [hWW]; exact Soft.alloc_at _ _ _ _ (by simp)
  rw [← hWW]
  clear hWW
  have Hx0 := Lib.hid hx0
  have Fx0 := Lib.hid hf0
  have Hx1 := Lib.hid hx1
  have Fx1 := Lib.hid hf1
  have Hx2 := Lib.hid hx2
  have Fx2 := Lib.hid hf2
  have Hx3 := Lib.hid hx3
  have Fx3 := Lib.hid hf3
  have HB0 := Lib.hid hb0
  have HSZ := Lib.hid hsz
  clear hb0 hx0 hf0 hx1 hf1 hx2 hf2 hx3 hf3
  have hout : CellsAt W0 (w.heap.size + 1 + 1 + 1) (PB 0).cells := by rw [HZ.out]; exact Hx3.out
  have HOUT := Lib.hid hout
  clear hout
  go_loopw [10] (fun i wr => ∃ k : Nat, k ≤ 3 ∧ i = .int .i64 (k : Int) ∧ CellsAt wr (w.heap.size + 1 + 1 + 1) (PB (3 * k)).cells ∧ Soft wr (w.heap.size + 1 + 1 + 1) ∧ Below (w.heap.size + 1 + 1 + 1) W0 wr ∧ w.heap.size + 1 + 1 + 1 < wr.heap.size) (fun i _ => 3 - (intOf i).toNat)
  case atStart => exact ⟨0, by omega, rfl, HOUT.out, Fx3.out, Below.refl _ _, by rw [HSZ.out]; omega⟩
  case round =>
    obtain ⟨k, hk, rfl, hc, hf, hb, hz⟩ := hrel
    obtain ⟨wo, rfl⟩ : ∃ wo : World, wo = wr := ⟨_, rfl⟩
    have HC := Lib.hid hc
    have HF := Lib.hid hf
    have HB := Lib.hid hb
    clear hc hf hb
    by_cases hlt : k < 3
    · have hk0 : (k : Int) < 3 := by omega
      go_wp2
      go_loopw [13] (fun j wr => ∃ m : Nat, m ≤ 3 ∧ j = .int .i64 (m : Int) ∧ CellsAt wr (w.heap.size + 1 + 1 + 1) (PB (3 * k + m)).cells ∧ Soft wr (w.heap.size + 1 + 1 + 1) ∧ Below (w.heap.size + 1 + 1 + 1) W0 wr ∧ w.heap.size + 1 + 1 + 1 < wr.heap.size) (fun j _ => 3 - (intOf j).toNat)
      case atStart => exact ⟨0, by omega, rfl, HC.out, HF.out, HB.out, hz⟩
      case round =>
        clear HC HF HB hz
        obtain ⟨m, hm, rfl, hc, hf, hb, hz⟩ := hrel
        have HC := Lib.hid hc
        have HF := Lib.hid hf
        have HB := Lib.hid hb
        clear hc hf hb
        by_cases hmt : m < 3
        · have qa := Hx0.out.below HB.out (by omega)
          have qb := Hx1.out.below HB.out (by omega)
          have qf := HF.out
          unfold Soft at qf
          have hm0 : (m : Int) < 3 := by omega
          have qa0 : wr.cell? ⟨w.heap.size, 0, none⟩ = some (.bool a0) := qa 0 _ rfl
          have qb0 : wr.cell? ⟨w.heap.size + 1, 0, none⟩ = some (.bool b0) := qb 0 _ rfl
          have qa1 : wr.cell? ⟨w.heap.size, 1, none⟩ = some (.bool a1) := qa 1 _ rfl
          have qb1 : wr.cell? ⟨w.heap.size + 1, 1, none⟩ = some (.bool b1) := qb 1 _ rfl
          have qa2 : wr.cell? ⟨w.heap.size, 2, none⟩ = some (.bool a2) := qa 2 _ rfl
          have qb2 : wr.cell? ⟨w.heap.size + 1, 2, none⟩ = some (.bool b2) := qb 2 _ rfl
          have qo0 : ∃ x, wr.cell? ⟨w.heap.size + 1 + 1 + 1, 0, none⟩ = some x := ⟨_, HC.out 0 _ rfl⟩
          obtain ⟨x0, qo0⟩ := qo0
          have qo1 : ∃ x, wr.cell? ⟨w.heap.size + 1 + 1 + 1, 1, none⟩ = some x := ⟨_, HC.out 1 _ rfl⟩
          obtain ⟨x1, qo1⟩ := qo1
          have qo2 : ∃ x, wr.cell? ⟨w.heap.size + 1 + 1 + 1, 2, none⟩ = some x := ⟨_, HC.out 2 _ rfl⟩
          obtain ⟨x2, qo2⟩ := qo2
          clear qa qb
          rcases (show k = 0 ∨ k = 1 ∨ k = 2 by omega) with rfl | rfl | rfl
          · rcases (show m = 0 ∨ m = 1 ∨ m = 2 by omega) with rfl | rfl | rfl
            · cases a0
              · have HM1 := Lib.hid (HM.out 0 (by simp [B3.get]))
                go_wp2
                go_roundw
                case rel => exact ⟨1, by omega, by go_num, by have := HC.out; rw [show PB (3 * 0 + 1) = PB 0 from HM1.out]; exact this, HF.out, HB.out, hz⟩
                case measure => simp [intOf] <;> omega
              · cases b0
                · have HM1 := Lib.hid (HM.out 0 (by simp [B3.get]))
                  go_wp2
                  go_roundw
                  case rel => exact ⟨1, by omega, by go_num, by have := HC.out; rw [show PB (3 * 0 + 1) = PB 0 from HM1.out]; exact this, HF.out, HB.out, hz⟩
                  case measure => simp [intOf] <;> omega
                · have HH1 := Lib.hid (HH.out 0 (by omega) (by simp [B3.get]))
                  go_wp2
                  go_roundw
                  case rel => exact ⟨1, by omega, by go_num, by rw [show (PB (3 * 0 + 1)).cells = (PB 0).cells.setIfInBounds 0 (.bool true) from HH1.out]; exact HC.out.set (by simp [B3.cells]) _, HF.out.set _ _, HB.out.setCell (Nat.le_refl _) _, by simpa using hz⟩
                  case measure => simp [intOf] <;> omega
            · cases a0
              · have HM1 := Lib.hid (HM.out 1 (by simp [B3.get]))
                go_wp2
                go_roundw
                case rel => exact ⟨2, by omega, by go_num, by have := HC.out; rw [show PB (3 * 0 + 2) = PB 1 from HM1.out]; exact this, HF.out, HB.out, hz⟩
                case measure => simp [intOf] <;> omega
              · cases b1
                · have HM1 := Lib.hid (HM.out 1 (by simp [B3.get]))
                  go_wp2
                  go_roundw
                  case rel => exact ⟨2, by omega, by go_num, by have := HC.out; rw [show PB (3 * 0 + 2) = PB 1 from HM1.out]; exact this, HF.out, HB.out, hz⟩
                  case measure => simp [intOf] <;> omega
                · have HH1 := Lib.hid (HH.out 1 (by omega) (by simp [B3.get]))
                  go_wp2
                  go_roundw
                  case rel => exact ⟨2, by omega, by go_num, by rw [show (PB (3 * 0 + 2)).cells = (PB 1).cells.setIfInBounds 0 (.bool true) from HH1.out]; exact HC.out.set (by simp [B3.cells]) _, HF.out.set _ _, HB.out.setCell (Nat.le_refl _) _, by simpa using hz⟩
                  case measure => simp [intOf] <;> omega
            · cases a0
              · have HM1 := Lib.hid (HM.out 2 (by simp [B3.get]))
                go_wp2
                go_roundw
                case rel => exact ⟨3, by omega, by go_num, by have := HC.out; rw [show PB (3 * 0 + 3) = PB 2 from HM1.out]; exact this, HF.out, HB.out, hz⟩
                case measure => simp [intOf] <;> omega
              · cases b2
                · have HM1 := Lib.hid (HM.out 2 (by simp [B3.get]))
                  go_wp2
                  go_roundw
                  case rel => exact ⟨3, by omega, by go_num, by have := HC.out; rw [show PB (3 * 0 + 3) = PB 2 from HM1.out]; exact this, HF.out, HB.out, hz⟩
                  case measure => simp [intOf] <;> omega
                · have HH1 := Lib.hid (HH.out 2 (by omega) (by simp [B3.get]))
                  go_wp2
                  go_roundw
                  case rel => exact ⟨3, by omega, by go_num, by rw [show (PB (3 * 0 + 3)).cells = (PB 2).cells.setIfInBounds 0 (.bool true) from HH1.out]; exact HC.out.set (by simp [B3.cells]) _, HF.out.set _ _, HB.out.setCell (Nat.le_refl _) _, by simpa using hz⟩
                  case measure => simp [intOf] <;> omega
          · rcases (show m = 0 ∨ m = 1 ∨ m = 2 by omega) with rfl | rfl | rfl
            · cases a1
              · have HM1 := Lib.hid (HM.out 3 (by simp [B3.get]))
                go_wp2
                go_roundw
                case rel => exact ⟨1, by omega, by go_num, by have := HC.out; rw [show PB (3 * 1 + 1) = PB 3 from HM1.out]; exact this, HF.out, HB.out, hz⟩
                case measure => simp [intOf] <;> omega
              · cases b0
                · have HM1 := Lib.hid (HM.out 3 (by simp [B3.get]))
                  go_wp2
                  go_roundw
                  case rel => exact ⟨1, by omega, by go_num, by have := HC.out; rw [show PB (3 * 1 + 1) = PB 3 from HM1.out]; exact this, HF.out, HB.out, hz⟩
                  case measure => simp [intOf] <;> omega
                · have HH1 := Lib.hid (HH.out 3 (by omega) (by simp [B3.get]))
                  go_wp2
                  go_roundw
                  case rel => exact ⟨1, by omega, by go_num, by rw [show (PB (3 * 1 + 1)).cells = (PB 3).cells.setIfInBounds 0 (.bool true) from HH1.out]; exact HC.out.set (by simp [B3.cells]) _, HF.out.set _ _, HB.out.setCell (Nat.le_refl _) _, by simpa using hz⟩
                  case measure => simp [intOf] <;> omega
            · cases a1
              · have HM1 := Lib.hid (HM.out 4 (by simp [B3.get]))
                go_wp2
                go_roundw
                case rel => exact ⟨2, by omega, by go_num, by have := HC.out; rw [show PB (3 * 1 + 2) = PB 4 from HM1.out]; exact this, HF.out, HB.out, hz⟩
                case measure => simp [intOf] <;> omega
              · cases b1
                · have HM1 := Lib.hid (HM.out 4 (by simp [B3.get]))
                  go_wp2
                  go_roundw
                  case rel => exact ⟨2, by omega, by go_num, by have := HC.out; rw [show PB (3 * 1 + 2) = PB 4 from HM1.out]; exact this, HF.out, HB.out, hz⟩
                  case measure => simp [intOf] <;> omega
                · have HH1 := Lib.hid (HH.out 4 (by omega) (by simp [B3.get]))
                  go_wp2
                  go_roundw
                  case rel => exact ⟨2, by omega, by go_num, by rw [show (PB (3 * 1 + 2)).cells = (PB 4).cells.setIfInBounds 1 (.bool true) from HH1.out]; exact HC.out.set (by simp [B3.cells]) _, HF.out.set _ _, HB.out.setCell (Nat.le_refl _) _, by simpa using hz⟩
                  case measure => simp [intOf] <;> omega
            · cases a1
              · have HM1 := Lib.hid (HM.out 5 (by simp [B3.get]))
                go_wp2
                go_roundw
                case rel => exact ⟨3, by omega, by go_num, by have := HC.out; rw [show PB (3 * 1 + 3) = PB 5 from HM1.out]; exact this, HF.out, HB.out, hz⟩
                case measure => simp [intOf] <;> omega
              · cases b2
                · have HM1 := Lib.hid (HM.out 5 (by simp [B3.get]))
                  go_wp2
                  go_roundw
                  case rel => exact ⟨3, by omega, by go_num, by have := HC.out; rw [show PB (3 * 1 + 3) = PB 5 from HM1.out]; exact this, HF.out, HB.out, hz⟩
                  case measure => simp [intOf] <;> omega
                · have HH1 := Lib.hid (HH.out 5 (by omega) (by simp [B3.get]))
                  go_wp2
                  go_roundw
                  case rel => exact ⟨3, by omega, by go_num, by rw [show (PB (3 * 1 + 3)).cells = (PB 5).cells.setIfInBounds 1 (.bool true) from HH1.out]; exact HC.out.set (by simp [B3.cells]) _, HF.out.set _ _, HB.out.setCell (Nat.le_refl _) _, by simpa using hz⟩
                  case measure => simp [intOf] <;> omega
          · rcases (show m = 0 ∨ m = 1 ∨ m = 2 by omega) with rfl | rfl | rfl
            · cases a2
              · have HM1 := Lib.hid (HM.out 6 (by simp [B3.get]))
                go_wp2
                go_roundw
                case rel => exact ⟨1, by omega, by go_num, by have := HC.out; rw [show PB (3 * 2 + 1) = PB 6 from HM1.out]; exact this, HF.out, HB.out, hz⟩
                case measure => simp [intOf] <;> omega
              · cases b0
                · have HM1 := Lib.hid (HM.out 6 (by simp [B3.get]))
                  go_wp2
                  go_roundw
                  case rel => exact ⟨1, by omega, by go_num, by have := HC.out; rw [show PB (3 * 2 + 1) = PB 6 from HM1.out]; exact this, HF.out, HB.out, hz⟩
                  case measure => simp [intOf] <;> omega
                · have HH1 := Lib.hid (HH.out 6 (by omega) (by simp [B3.get]))
                  go_wp2
                  go_roundw
                  case rel => exact ⟨1, by omega, by go_num, by rw [show (PB (3 * 2 + 1)).cells = (PB 6).cells.setIfInBounds 0 (.bool true) from HH1.out]; exact HC.out.set (by simp [B3.cells]) _, HF.out.set _ _, HB.out.setCell (Nat.le_refl _) _, by simpa using hz⟩
                  case measure => simp [intOf] <;> omega
            · cases a2
              · have HM1 := Lib.hid (HM.out 7 (by simp [B3.get]))
                go_wp2
                go_roundw
                case rel => exact ⟨2, by omega, by go_num, by have := HC.out; rw [show PB (3 * 2 + 2) = PB 7 from HM1.out]; exact this, HF.out, HB.out, hz⟩
                case measure => simp [intOf] <;> omega
              · cases b1
                · have HM1 := Lib.hid (HM.out 7 (by simp [B3.get]))
                  go_wp2
                  go_roundw
                  case rel => exact ⟨2, by omega, by go_num, by have := HC.out; rw [show PB (3 * 2 + 2) = PB 7 from HM1.out]; exact this, HF.out, HB.out, hz⟩
                  case measure => simp [intOf] <;> omega
                · have HH1 := Lib.hid (HH.out 7 (by omega) (by simp [B3.get]))
                  go_wp2
                  go_roundw
                  case rel => exact ⟨2, by omega, by go_num, by rw [show (PB (3 * 2 + 2)).cells = (PB 7).cells.setIfInBounds 1 (.bool true) from HH1.out]; exact HC.out.set (by simp [B3.cells]) _, HF.out.set _ _, HB.out.setCell (Nat.le_refl _) _, by simpa using hz⟩
                  case measure => simp [intOf] <;> omega
            · cases a2
              · have HM1 := Lib.hid (HM.out 8 (by simp [B3.get]))
                go_wp2
                go_roundw
                case rel => exact ⟨3, by omega, by go_num, by have := HC.out; rw [show PB (3 * 2 + 3) = PB 8 from HM1.out]; exact this, HF.out, HB.out, hz⟩
                case measure => simp [intOf] <;> omega
              · cases b2
                · have HM1 := Lib.hid (HM.out 8 (by simp [B3.get]))
                  go_wp2
                  go_roundw
                  case rel => exact ⟨3, by omega, by go_num, by have := HC.out; rw [show PB (3 * 2 + 3) = PB 8 from HM1.out]; exact this, HF.out, HB.out, hz⟩
                  case measure => simp [intOf] <;> omega
                · have HH1 := Lib.hid (HH.out 8 (by omega) (by simp [B3.get]))
                  go_wp2
                  go_roundw
                  case rel => exact ⟨3, by omega, by go_num, by rw [show (PB (3 * 2 + 3)).cells = (PB 8).cells.setIfInBounds 2 (.bool true) from HH1.out]; exact HC.out.set (by simp [B3.cells]) _, HF.out.set _ _, HB.out.setCell (Nat.le_refl _) _, by simpa using hz⟩
                  case measure => simp [intOf] <;> omega
        · obtain rfl : m = 3 := by omega
          go_wp2
          go_roundw
          case rel => exact ⟨k + 1, by omega, by go_num, by rw [show 3 * (k + 1) = 3 * k + 3 by omega]; exact HC.out, HF.out, HB.out, hz⟩
          case measure => simp [intOf] <;> omega
    · obtain rfl : k = 3 := by omega
      have HE := HEND.out
      obtain ⟨R, hR⟩ : ∃ R, PB (3 * 3) = R := ⟨_, rfl⟩
      rw [hR] at HC
      have hres := HE.trans hR
      obtain ⟨r0, r1, r2⟩ := R
      have HRES := Lib.hid hres
      have hc := HC.out
      have hx := Hx2.out.below HB.out (by omega)
      have qf := HF.out
      have qg := Fx2.out.below HB.out (by omega)
      unfold Soft at qf qg
      have HBW := Lib.hid (HB0.out.trans (HB.out.mono (by omega)))
      have o0 : wo.cell? ⟨w.heap.size + 1 + 1 + 1, 0, none⟩ = some (.bool r0) := hc 0 _ rfl
      have o1 : wo.cell? ⟨w.heap.size + 1 + 1 + 1, 1, none⟩ = some (.bool r1) := hc 1 _ rfl
      have o2 : wo.cell? ⟨w.heap.size + 1 + 1 + 1, 2, none⟩ = some (.bool r2) := hc 2 _ rfl
      have e0 : wo.cell? ⟨w.heap.size + 1 + 1, 0, none⟩ = some (.bool false) := hx 0 _ rfl
      have e1 : wo.cell? ⟨w.heap.size + 1 + 1, 1, none⟩ = some (.bool false) := hx 1 _ rfl
      have e2 : wo.cell? ⟨w.heap.size + 1 + 1, 2, none⟩ = some (.bool false) := hx 2 _ rfl
      clear hc hx HE hR hres HM HH HZ
      go_wp2
      refine bodyPost_ret (v := .agg #[.bool r0, .bool r1, .bool r2]) (by simp [results, Try.results36, go_sem, e0, e1, e2]) rfl ?_
      refine ⟨by rw [HRES.out], ?_⟩
      repeat (with_reducible refine Below.setCell ?_ (by first | exact Nat.le_refl _ | (simp; done) | (simp; omega)) _)
      exact HBW.out
set_option maxRecDepth 100000 in
set_option maxHeartbeats 16000000 in
theorem both_or (a b : B3) (w : World) : Calls Try.prog 36 #[.agg a.cells, .agg b.cells, .func (.func 35) #[] #[]] w (ValIs (.agg (bothB max a b).cells) w) := by
  obtain ⟨PB, hPB⟩ : ∃ f : Nat → B3, f = partB max a b := ⟨_, rfl⟩
  have hmiss : ∀ m, (a.get (m / 3) && b.get (m % 3)) = false → PB (m + 1) = PB m := fun m h => by rw [hPB]; exact partB_miss h
  have hhit : ∀ m, m < 9 → (a.get (m / 3) && b.get (m % 3)) = true → (PB (m + 1)).cells = (PB m).cells.setIfInBounds (max (m / 3) (m % 3)) (.bool true) := fun m hm h => by rw [hPB]; exact partB_hit h (by omega)
  have HM := Lib.hid hmiss
  have HH := Lib.hid hhit
  have HEND := Lib.hid (show bothB max a b = PB 9 by rw [hPB]; rfl)
  have HZ := Lib.hid (show (PB 0).cells = #[.bool false, .bool false, .bool false] by rw [hPB]; rfl)
  clear hmiss hhit hPB
  obtain ⟨a0, a1, a2⟩ := a
  obtain ⟨b0, b1, b2⟩ := b
  simp only [B3.cells]
  go_enter Try.func36, Try.ntmps36
  go_wp2
  obtain ⟨W0, hWW⟩ : ∃ W0 : World, W0 = ((((w.alloc (.cells #[.bool a0, .bool a1, .bool a2] 51)).alloc (.cells #[.bool b0, .bool b1, .bool b2] 51)).alloc (.cells #[.bool false, .bool false, .bool false] 51)).alloc (.cells #[.bool false, .bool false, .bool false] 51)) := ⟨_, rfl⟩
  have hb0 : Below w.heap.size w W0 := by rw [hWW]; exact ((((Below.refl _ _).alloc (by first | exact Nat.le_refl _ | (simp; done) | (simp; omega)) _).alloc (by first | exact Nat.le_refl _ | (simp; done) | (simp; omega)) _).alloc (by first | exact Nat.le_refl _ | (simp; done) | (simp; omega)) _).alloc (by first | exact Nat.le_refl _ | (simp; done) | (simp; omega)) _
  have hsz : W0.heap.size = w.heap.size + 4 := by rw [hWW]; simp
  have hx0 : CellsAt W0 (w.heap.size) #[.bool a0, .bool a1, .bool a2] := by rw [hWW]; exact (((CellsAt.alloc_at _ _ _ _ (by simp)).alloc (by first | (simp; done) | (simp; omega)) _).alloc (by first | (simp; done) | (simp; omega)) _).alloc (by first | (simp; done) | (simp; omega)) _
  have hf0 : Soft W0 (w.heap.size) := by rw [hWW]; exact (((Soft.alloc_at _ _ _ _ (by simp)).alloc (by first | (simp; done) | (simp; omega)) _).alloc (by first | (simp; done) | (simp; omega)) _).alloc (by first | (simp; done) | (simp; omega)) _
  have hx1 : CellsAt W0 (w.heap.size + 1) #[.bool b0, .bool b1, .bool b2] := by rw [hWW]; exact ((CellsAt.alloc_at _ _ _ _ (by simp)).alloc (by first | (simp; done) | (simp; omega)) _).alloc (by first | (simp; done) | (simp; omega)) _
  have hf1 : Soft W0 (w.heap.size + 1) := by rw [hWW]; exact ((Soft.alloc_at _ _ _ _ (by simp)).alloc (by first | (simp; done) | (simp; omega)) _).alloc (by first | (simp; done) | (simp; omega)) _
  have hx2 : CellsAt W0 (w.heap.size + 1 + 1) #[.bool false, .bool false, .bool false] := by rw [hWW]; exact (CellsAt.alloc_at _ _ _ _ (by simp)).alloc (by first | (simp; done) | (simp; omega)) _
  have hf2 : Soft W0 (w.heap.size + 1 + 1) := by rw [hWW]; exact (Soft.alloc_at _ _ _ _ (by simp)).alloc (by first | (simp; done) | (simp; omega)) _
  have hx3 : CellsAt W0 (w.heap.size + 1 + 1 + 1) #[.bool false, .bool false, .bool false] := by rw [hWW]; exact CellsAt.alloc_at _ _ _ _ (by simp)
  have hf3 : Soft W0 (w.heap.size + 1 + 1 + 1) := by rw [hWW]; exact Soft.alloc_at _ _ _ _ (by simp)
  rw [← hWW]
  clear hWW
  have Hx0 := Lib.hid hx0
  have Fx0 := Lib.hid hf0
  have Hx1 := Lib.hid hx1
  have Fx1 := Lib.hid hf1
  have Hx2 := Lib.hid hx2
  have Fx2 := Lib.hid hf2
  have Hx3 := Lib.hid hx3
  have Fx3 := Lib.hid hf3
  have HB0 := Lib.hid hb0
  have HSZ := Lib.hid hsz
  clear hb0 hx0 hf0 hx1 hf1 hx2 hf2 hx3 hf3
  have hout : CellsAt W0 (w.heap.size + 1 + 1 + 1) (PB 0).cells := by rw [HZ.out]; exact Hx3.out
  have HOUT := Lib.hid hout
  clear hout
  go_loopw [10] (fun i wr => ∃ k : Nat, k ≤ 3 ∧ i = .int .i64 (k : Int) ∧ CellsAt wr (w.heap.size + 1 + 1 + 1) (PB (3 * k)).cells ∧ Soft wr (w.heap.size + 1 + 1 + 1) ∧ Below (w.heap.size + 1 + 1 + 1) W0 wr ∧ w.heap.size + 1 + 1 + 1 < wr.heap.size) (fun i _ => 3 - (intOf i).toNat)
  case atStart => exact ⟨0, by omega, rfl, HOUT.out, Fx3.out, Below.refl _ _, by rw [HSZ.out]; omega⟩
  case round =>
    obtain ⟨k, hk, rfl, hc, hf, hb, hz⟩ := hrel
    obtain ⟨wo, rfl⟩ : ∃ wo : World, wo = wr := ⟨_, rfl⟩
    have HC := Lib.hid hc
    have HF := Lib.hid hf
    have HB := Lib.hid hb
    clear hc hf hb
    by_cases hlt : k < 3
    · have hk0 : (k : Int) < 3 := by omega
      go_wp2
      go_loopw [13] (fun j wr => ∃ m : Nat, m ≤ 3 ∧ j = .int .i64 (m : Int) ∧ CellsAt wr (w.heap.size + 1 + 1 + 1) (PB (3 * k + m)).cells ∧ Soft wr (w.heap.size + 1 + 1 + 1) ∧ Below (w.heap.size + 1 + 1 + 1) W0 wr ∧ w.heap.size + 1 + 1 + 1 < wr.heap.size) (fun j _ => 3 - (intOf j).toNat)
      case atStart => exact ⟨0, by omega, rfl, HC.out, HF.out, HB.out, hz⟩
      case round =>
        clear HC HF HB hz
        obtain ⟨m, hm, rfl, hc, hf, hb, hz⟩ := hrel
        have HC := Lib.hid hc
        have HF := Lib.hid hf
        have HB := Lib.hid hb
        clear hc hf hb
        by_cases hmt : m < 3
        · have qa := Hx0.out.below HB.out (by omega)
          have qb := Hx1.out.below HB.out (by omega)
          have qf := HF.out
          unfold Soft at qf
          have hm0 : (m : Int) < 3 := by omega
          have qa0 : wr.cell? ⟨w.heap.size, 0, none⟩ = some (.bool a0) := qa 0 _ rfl
          have qb0 : wr.cell? ⟨w.heap.size + 1, 0, none⟩ = some (.bool b0) := qb 0 _ rfl
          have qa1 : wr.cell? ⟨w.heap.size, 1, none⟩ = some (.bool a1) := qa 1 _ rfl
          have qb1 : wr.cell? ⟨w.heap.size + 1, 1, none⟩ = some (.bool b1) := qb 1 _ rfl
          have qa2 : wr.cell? ⟨w.heap.size, 2, none⟩ = some (.bool a2) := qa 2 _ rfl
          have qb2 : wr.cell? ⟨w.heap.size + 1, 2, none⟩ = some (.bool b2) := qb 2 _ rfl
          have qo0 : ∃ x, wr.cell? ⟨w.heap.size + 1 + 1 + 1, 0, none⟩ = some x := ⟨_, HC.out 0 _ rfl⟩
          obtain ⟨x0, qo0⟩ := qo0
          have qo1 : ∃ x, wr.cell? ⟨w.heap.size + 1 + 1 + 1, 1, none⟩ = some x := ⟨_, HC.out 1 _ rfl⟩
          obtain ⟨x1, qo1⟩ := qo1
          have qo2 : ∃ x, wr.cell? ⟨w.heap.size + 1 + 1 + 1, 2, none⟩ = some x := ⟨_, HC.out 2 _ rfl⟩
          obtain ⟨x2, qo2⟩ := qo2
          clear qa qb
          rcases (show k = 0 ∨ k = 1 ∨ k = 2 by omega) with rfl | rfl | rfl
          · rcases (show m = 0 ∨ m = 1 ∨ m = 2 by omega) with rfl | rfl | rfl
            · cases a0
              · have HM1 := Lib.hid (HM.out 0 (by simp [B3.get]))
                go_wp2
                go_roundw
                case rel => exact ⟨1, by omega, by go_num, by have := HC.out; rw [show PB (3 * 0 + 1) = PB 0 from HM1.out]; exact this, HF.out, HB.out, hz⟩
                case measure => simp [intOf] <;> omega
              · cases b0
                · have HM1 := Lib.hid (HM.out 0 (by simp [B3.get]))
                  go_wp2
                  go_roundw
                  case rel => exact ⟨1, by omega, by go_num, by have := HC.out; rw [show PB (3 * 0 + 1) = PB 0 from HM1.out]; exact this, HF.out, HB.out, hz⟩
                  case measure => simp [intOf] <;> omega
                · have HH1 := Lib.hid (HH.out 0 (by omega) (by simp [B3.get]))
                  go_wp2
                  go_roundw
                  case rel => exact ⟨1, by omega, by go_num, by rw [show (PB (3 * 0 + 1)).cells = (PB 0).cells.setIfInBounds 0 (.bool true) from HH1.out]; exact HC.out.set (by simp [B3.cells]) _, HF.out.set _ _, HB.out.setCell (Nat.le_refl _) _, by simpa using hz⟩
                  case measure => simp [intOf] <;> omega
            · cases a0
              · have HM1 := Lib.hid (HM.out 1 (by simp [B3.get]))
                go_wp2
                go_roundw
                case rel => exact ⟨2, by omega, by go_num, by have := HC.out; rw [show PB (3 * 0 + 2) = PB 1 from HM1.out]; exact this, HF.out, HB.out, hz⟩
                case measure => simp [intOf] <;> omega
              · cases b1
                · have HM1 := Lib.hid (HM.out 1 (by simp [B3.get]))
                  go_wp2
                  go_roundw
                  case rel => exact ⟨2, by omega, by go_num, by have := HC.out; rw [show PB (3 * 0 + 2) = PB 1 from HM1.out]; exact this, HF.out, HB.out, hz⟩
                  case measure => simp [intOf] <;> omega
                · have HH1 := Lib.hid (HH.out 1 (by omega) (by simp [B3.get]))
                  go_wp2
                  go_roundw
                  case rel => exact ⟨2, by omega, by go_num, by rw [show (PB (3 * 0 + 2)).cells = (PB 1).cells.setIfInBounds 1 (.bool true) from HH1.out]; exact HC.out.set (by simp [B3.cells]) _, HF.out.set _ _, HB.out.setCell (Nat.le_refl _) _, by simpa using hz⟩
                  case measure => simp [intOf] <;> omega
            · cases a0
              · have HM1 := Lib.hid (HM.out 2 (by simp [B3.get]))
                go_wp2
                go_roundw
                case rel => exact ⟨3, by omega, by go_num, by have := HC.out; rw [show PB (3 * 0 + 3) = PB 2 from HM1.out]; exact this, HF.out, HB.out, hz⟩
                case measure => simp [intOf] <;> omega
              · cases b2
                · have HM1 := Lib.hid (HM.out 2 (by simp [B3.get]))
                  go_wp2
                  go_roundw
                  case rel => exact ⟨3, by omega, by go_num, by have := HC.out; rw [show PB (3 * 0 + 3) = PB 2 from HM1.out]; exact this, HF.out, HB.out, hz⟩
                  case measure => simp [intOf] <;> omega
                · have HH1 := Lib.hid (HH.out 2 (by omega) (by simp [B3.get]))
                  go_wp2
                  go_roundw
                  case rel => exact ⟨3, by omega, by go_num, by rw [show (PB (3 * 0 + 3)).cells = (PB 2).cells.setIfInBounds 2 (.bool true) from HH1.out]; exact HC.out.set (by simp [B3.cells]) _, HF.out.set _ _, HB.out.setCell (Nat.le_refl _) _, by simpa using hz⟩
                  case measure => simp [intOf] <;> omega
          · rcases (show m = 0 ∨ m = 1 ∨ m = 2 by omega) with rfl | rfl | rfl
            · cases a1
              · have HM1 := Lib.hid (HM.out 3 (by simp [B3.get]))
                go_wp2
                go_roundw
                case rel => exact ⟨1, by omega, by go_num, by have := HC.out; rw [show PB (3 * 1 + 1) = PB 3 from HM1.out]; exact this, HF.out, HB.out, hz⟩
                case measure => simp [intOf] <;> omega
              · cases b0
                · have HM1 := Lib.hid (HM.out 3 (by simp [B3.get]))
                  go_wp2
                  go_roundw
                  case rel => exact ⟨1, by omega, by go_num, by have := HC.out; rw [show PB (3 * 1 + 1) = PB 3 from HM1.out]; exact this, HF.out, HB.out, hz⟩
                  case measure => simp [intOf] <;> omega
                · have HH1 := Lib.hid (HH.out 3 (by omega) (by simp [B3.get]))
                  go_wp2
                  go_roundw
                  case rel => exact ⟨1, by omega, by go_num, by rw [show (PB (3 * 1 + 1)).cells = (PB 3).cells.setIfInBounds 1 (.bool true) from HH1.out]; exact HC.out.set (by simp [B3.cells]) _, HF.out.set _ _, HB.out.setCell (Nat.le_refl _) _, by simpa using hz⟩
                  case measure => simp [intOf] <;> omega
            · cases a1
              · have HM1 := Lib.hid (HM.out 4 (by simp [B3.get]))
                go_wp2
                go_roundw
                case rel => exact ⟨2, by omega, by go_num, by have := HC.out; rw [show PB (3 * 1 + 2) = PB 4 from HM1.out]; exact this, HF.out, HB.out, hz⟩
                case measure => simp [intOf] <;> omega
              · cases b1
                · have HM1 := Lib.hid (HM.out 4 (by simp [B3.get]))
                  go_wp2
                  go_roundw
                  case rel => exact ⟨2, by omega, by go_num, by have := HC.out; rw [show PB (3 * 1 + 2) = PB 4 from HM1.out]; exact this, HF.out, HB.out, hz⟩
                  case measure => simp [intOf] <;> omega
                · have HH1 := Lib.hid (HH.out 4 (by omega) (by simp [B3.get]))
                  go_wp2
                  go_roundw
                  case rel => exact ⟨2, by omega, by go_num, by rw [show (PB (3 * 1 + 2)).cells = (PB 4).cells.setIfInBounds 1 (.bool true) from HH1.out]; exact HC.out.set (by simp [B3.cells]) _, HF.out.set _ _, HB.out.setCell (Nat.le_refl _) _, by simpa using hz⟩
                  case measure => simp [intOf] <;> omega
            · cases a1
              · have HM1 := Lib.hid (HM.out 5 (by simp [B3.get]))
                go_wp2
                go_roundw
                case rel => exact ⟨3, by omega, by go_num, by have := HC.out; rw [show PB (3 * 1 + 3) = PB 5 from HM1.out]; exact this, HF.out, HB.out, hz⟩
                case measure => simp [intOf] <;> omega
              · cases b2
                · have HM1 := Lib.hid (HM.out 5 (by simp [B3.get]))
                  go_wp2
                  go_roundw
                  case rel => exact ⟨3, by omega, by go_num, by have := HC.out; rw [show PB (3 * 1 + 3) = PB 5 from HM1.out]; exact this, HF.out, HB.out, hz⟩
                  case measure => simp [intOf] <;> omega
                · have HH1 := Lib.hid (HH.out 5 (by omega) (by simp [B3.get]))
                  go_wp2
                  go_roundw
                  case rel => exact ⟨3, by omega, by go_num, by rw [show (PB (3 * 1 + 3)).cells = (PB 5).cells.setIfInBounds 2 (.bool true) from HH1.out]; exact HC.out.set (by simp [B3.cells]) _, HF.out.set _ _, HB.out.setCell (Nat.le_refl _) _, by simpa using hz⟩
                  case measure => simp [intOf] <;> omega
          · rcases (show m = 0 ∨ m = 1 ∨ m = 2 by omega) with rfl | rfl | rfl
            · cases a2
              · have HM1 := Lib.hid (HM.out 6 (by simp [B3.get]))
                go_wp2
                go_roundw
                case rel => exact ⟨1, by omega, by go_num, by have := HC.out; rw [show PB (3 * 2 + 1) = PB 6 from HM1.out]; exact this, HF.out, HB.out, hz⟩
                case measure => simp [intOf] <;> omega
              · cases b0
                · have HM1 := Lib.hid (HM.out 6 (by simp [B3.get]))
                  go_wp2
                  go_roundw
                  case rel => exact ⟨1, by omega, by go_num, by have := HC.out; rw [show PB (3 * 2 + 1) = PB 6 from HM1.out]; exact this, HF.out, HB.out, hz⟩
                  case measure => simp [intOf] <;> omega
                · have HH1 := Lib.hid (HH.out 6 (by omega) (by simp [B3.get]))
                  go_wp2
                  go_roundw
                  case rel => exact ⟨1, by omega, by go_num, by rw [show (PB (3 * 2 + 1)).cells = (PB 6).cells.setIfInBounds 2 (.bool true) from HH1.out]; exact HC.out.set (by simp [B3.cells]) _, HF.out.set _ _, HB.out.setCell (Nat.le_refl _) _, by simpa using hz⟩
                  case measure => simp [intOf] <;> omega
            · cases a2
              · have HM1 := Lib.hid (HM.out 7 (by simp [B3.get]))
                go_wp2
                go_roundw
                case rel => exact ⟨2, by omega, by go_num, by have := HC.out; rw [show PB (3 * 2 + 2) = PB 7 from HM1.out]; exact this, HF.out, HB.out, hz⟩
                case measure => simp [intOf] <;> omega
              · cases b1
                · have HM1 := Lib.hid (HM.out 7 (by simp [B3.get]))
                  go_wp2
                  go_roundw
                  case rel => exact ⟨2, by omega, by go_num, by have := HC.out; rw [show PB (3 * 2 + 2) = PB 7 from HM1.out]; exact this, HF.out, HB.out, hz⟩
                  case measure => simp [intOf] <;> omega
                · have HH1 := Lib.hid (HH.out 7 (by omega) (by simp [B3.get]))
                  go_wp2
                  go_roundw
                  case rel => exact ⟨2, by omega, by go_num, by rw [show (PB (3 * 2 + 2)).cells = (PB 7).cells.setIfInBounds 2 (.bool true) from HH1.out]; exact HC.out.set (by simp [B3.cells]) _, HF.out.set _ _, HB.out.setCell (Nat.le_refl _) _, by simpa using hz⟩
                  case measure => simp [intOf] <;> omega
            · cases a2
              · have HM1 := Lib.hid (HM.out 8 (by simp [B3.get]))
                go_wp2
                go_roundw
                case rel => exact ⟨3, by omega, by go_num, by have := HC.out; rw [show PB (3 * 2 + 3) = PB 8 from HM1.out]; exact this, HF.out, HB.out, hz⟩
                case measure => simp [intOf] <;> omega
              · cases b2
                · have HM1 := Lib.hid (HM.out 8 (by simp [B3.get]))
                  go_wp2
                  go_roundw
                  case rel => exact ⟨3, by omega, by go_num, by have := HC.out; rw [show PB (3 * 2 + 3) = PB 8 from HM1.out]; exact this, HF.out, HB.out, hz⟩
                  case measure => simp [intOf] <;> omega
                · have HH1 := Lib.hid (HH.out 8 (by omega) (by simp [B3.get]))
                  go_wp2
                  go_roundw
                  case rel => exact ⟨3, by omega, by go_num, by rw [show (PB (3 * 2 + 3)).cells = (PB 8).cells.setIfInBounds 2 (.bool true) from HH1.out]; exact HC.out.set (by simp [B3.cells]) _, HF.out.set _ _, HB.out.setCell (Nat.le_refl _) _, by simpa using hz⟩
                  case measure => simp [intOf] <;> omega
        · obtain rfl : m = 3 := by omega
          go_wp2
          go_roundw
          case rel => exact ⟨k + 1, by omega, by go_num, by rw [show 3 * (k + 1) = 3 * k + 3 by omega]; exact HC.out, HF.out, HB.out, hz⟩
          case measure => simp [intOf] <;> omega
    · obtain rfl : k = 3 := by omega
      have HE := HEND.out
      obtain ⟨R, hR⟩ : ∃ R, PB (3 * 3) = R := ⟨_, rfl⟩
      rw [hR] at HC
      have hres := HE.trans hR
      obtain ⟨r0, r1, r2⟩ := R
      have HRES := Lib.hid hres
      have hc := HC.out
      have hx := Hx2.out.below HB.out (by omega)
      have qf := HF.out
      have qg := Fx2.out.below HB.out (by omega)
      unfold Soft at qf qg
      have HBW := Lib.hid (HB0.out.trans (HB.out.mono (by omega)))
      have o0 : wo.cell? ⟨w.heap.size + 1 + 1 + 1, 0, none⟩ = some (.bool r0) := hc 0 _ rfl
      have o1 : wo.cell? ⟨w.heap.size + 1 + 1 + 1, 1, none⟩ = some (.bool r1) := hc 1 _ rfl
      have o2 : wo.cell? ⟨w.heap.size + 1 + 1 + 1, 2, none⟩ = some (.bool r2) := hc 2 _ rfl
      have e0 : wo.cell? ⟨w.heap.size + 1 + 1, 0, none⟩ = some (.bool false) := hx 0 _ rfl
      have e1 : wo.cell? ⟨w.heap.size + 1 + 1, 1, none⟩ = some (.bool false) := hx 1 _ rfl
      have e2 : wo.cell? ⟨w.heap.size + 1 + 1, 2, none⟩ = some (.bool false) := hx 2 _ rfl
      clear hc hx HE hR hres HM HH HZ
      go_wp2
      refine bodyPost_ret (v := .agg #[.bool r0, .bool r1, .bool r2]) (by simp [results, Try.results36, go_sem, e0, e1, e2]) rfl ?_
      refine ⟨by rw [HRES.out], ?_⟩
      repeat (with_reducible refine Below.setCell ?_ (by first | exact Nat.le_refl _ | (simp; done) | (simp; omega)) _)
      exact HBW.out
end Go.Proofs.Ytkildbpfondgcaa
