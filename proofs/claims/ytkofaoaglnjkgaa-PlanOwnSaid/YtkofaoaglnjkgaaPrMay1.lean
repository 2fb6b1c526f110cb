/- The contract of pred.may. -/
import Derived.Test.YtkofaoaglnjkgaaPrMayP
import Derived.Test.YtkofaoaglnjkgaaVlCmpm
import Derived.WalkLawsBesides
namespace Go.Proofs.Ytkofaoaglnjkgaa
open Go.RowKit Go.Deep
set_option linter.unusedVariables false
set_option linter.unusedSimpArgs false

set_option maxRecDepth 100000 in
set_option maxHeartbeats 16000000 in
theorem may_calls (op field : Nat) (v : CellD) (kv : Value) (st : StatD) (w : World) (h0 : 0 ≤ v.kind) (h1 : 0 ≤ st.min.kind) (h2 : 0 ≤ st.max.kind) :
    Calls Try.prog 63 #[.agg #[.int .u8 (op : Int), .int .u32 (field : Int), .int .u8 v.kind, .int .i64 v.n, .string v.s, kv], .agg st.cells] w (ValIs (.agg (mayF op (fix v) st).cells) w) := by
  have HO1 := Lib.hid (fun W => (both v h0 W).2)
  have HO2 := Lib.hid (fun W => (both st.min h1 W).2)
  have HO3 := Lib.hid (fun W => (both st.max h2 W).2)
  have HC1 := Lib.hid (fun W => compare_calls (goodVal v) (goodVal st.min) W)
  have HC2 := Lib.hid (fun W => compare_calls (goodVal st.max) (goodVal v) W)
  rw [good_cell v h0, good_cell st.min h1] at HC1
  rw [good_cell v h0, good_cell st.max h2] at HC2
  have hat := assertText (goodVal v)
  unfold AssertText at hat
  have hit := isText_kind (goodVal v)
  rw [good_cell v h0] at hit
  have htx := textOf_cell (goodVal v)
  rw [good_cell v h0] at htx
  have HCNT := Lib.hid (fun W => count_calls (textOf (goodVal v)) W)
  have hsz := fix_size v
  obtain ⟨R, hR⟩ : ∃ R, mayF op (fix v) st = R := ⟨_, rfl⟩
  rw [hR]
  unfold mayF at hR
  generalize fix v = fv at *
  generalize goodVal v = gv at *
  obtain ⟨vk, vn, vs⟩ := v
  obtain ⟨sr, sn, sm, sh, ⟨lk, ln, ls⟩, ⟨hk, hn, hs⟩⟩ := st
  simp only [StatD.cells] at *
  generalize cmpC fv (fix ⟨lk, ln, ls⟩) = r1 at *
  generalize cmpC (fix ⟨hk, hn, hs⟩) fv = r2 at *
  generalize goodVal ⟨lk, ln, ls⟩ = gl at *
  generalize goodVal ⟨hk, hn, hs⟩ = gh at *
  generalize chk ⟨vk, vn, vs⟩ = e1 at *
  generalize chk ⟨lk, ln, ls⟩ = e2 at *
  generalize chk ⟨hk, hn, hs⟩ = e3 at *
  simp only [CellD.cells] at HO1 HO2 HO3
  generalize isText gv = tb at *
  generalize textOf gv = ts at *
  generalize gv.val = vv at *
  generalize gl.val = vl at *
  generalize gh.val = vh at *
  rw [← hit] at hR
  have HSZT := Lib.hid (show tb = true → ts.size ≤ 1000000 from fun h => by rw [htx h]; omega)
  have HTX := Lib.hid htx
  clear h0 h1 h2 hit htx hsz
  by_cases ho5 : op = 5
  · subst ho5
    rw [if_pos rfl] at hR
    have HR := Lib.hid hR
    clear hR
    go_enter Try.func63, Try.ntmps63
    go_wp2
    refine bodyPost_ret (v := .agg #[.bool sm, .bool false, .bool (decide (0 < sn))]) (by simp [results, Try.results63, go_sem]) rfl ⟨by rw [← HR.out]; rfl, ?_⟩
    repeat (first | exact Below.refl _ _ | refine Below.setCell ?_ (by simp <;> omega) _ | refine Below.alloc ?_ (by simp <;> omega) _)
  · have ho5i : ((op : Int) == 5) = false := by rw [beq_eq_false_iff_ne]; omega
    rw [if_neg ho5] at hR
    cases sm
    · rw [if_pos rfl] at hR
      have HR := Lib.hid hR
      clear hR
      go_enter Try.func63, Try.ntmps63
      go_wp2
      refine bodyPost_ret (v := .agg #[.bool false, .bool (decide (0 < sn)), .bool false]) (by simp [results, Try.results63, go_sem]) rfl ⟨by rw [← HR.out]; rfl, ?_⟩
      repeat (first | exact Below.refl _ _ | refine Below.setCell ?_ (by simp <;> omega) _ | refine Below.alloc ?_ (by simp <;> omega) _)
    · rw [if_neg (by simp)] at hR
      have HR := Lib.hid hR
      clear hR
      go_enter Try.func63, Try.ntmps63
      go_wp2_with fail
      obtain ⟨W0, hWW⟩ : ∃ W0 : World, W0 = ((((w.alloc (.cells #[.int .u8 (op : Int), .int .u32 (field : Int), .int .u8 vk, .int .i64 vn, .string vs, kv] 42)).alloc (.cells #[.int .i64 sr, .int .i64 sn, .bool true, .bool sh, .int .u8 lk, .int .i64 ln, .string ls, .int .u8 hk, .int .i64 hn, .string hs] 31)).alloc (.cells #[.bool false, .bool false, .bool false] 92)).alloc (.cells #[.bool false, .bool (decide (0 < sn)), .bool false] 92)) := ⟨_, rfl⟩
      have hb0 : Below w.heap.size w W0 := by rw [hWW]; exact ((((Below.refl _ _).alloc (by first | exact Nat.le_refl _ | (simp; done) | (simp; omega)) _).alloc (by first | exact Nat.le_refl _ | (simp; done) | (simp; omega)) _).alloc (by first | exact Nat.le_refl _ | (simp; done) | (simp; omega)) _).alloc (by first | exact Nat.le_refl _ | (simp; done) | (simp; omega)) _
      have hsz : W0.heap.size = w.heap.size + 4 := by rw [hWW]; simp
      have hx0 : CellsAt W0 (w.heap.size) #[.int .u8 (op : Int), .int .u32 (field : Int), .int .u8 vk, .int .i64 vn, .string vs, kv] := by rw [hWW]; exact (((CellsAt.alloc_at _ _ _ _ (by simp)).alloc (by first | (simp; done) | (simp; omega)) _).alloc (by first | (simp; done) | (simp; omega)) _).alloc (by first | (simp; done) | (simp; omega)) _
      have hf0 : Soft W0 (w.heap.size) := by rw [hWW]; exact (((Soft.alloc_at _ _ _ _ (by simp)).alloc (by first | (simp; done) | (simp; omega)) _).alloc (by first | (simp; done) | (simp; omega)) _).alloc (by first | (simp; done) | (simp; omega)) _
      have hx1 : CellsAt W0 (w.heap.size + 1) #[.int .i64 sr, .int .i64 sn, .bool true, .bool sh, .int .u8 lk, .int .i64 ln, .string ls, .int .u8 hk, .int .i64 hn, .string hs] := by rw [hWW]; exact ((CellsAt.alloc_at _ _ _ _ (by simp)).alloc (by first | (simp; done) | (simp; omega)) _).alloc (by first | (simp; done) | (simp; omega)) _
      have hf1 : Soft W0 (w.heap.size + 1) := by rw [hWW]; exact ((Soft.alloc_at _ _ _ _ (by simp)).alloc (by first | (simp; done) | (simp; omega)) _).alloc (by first | (simp; done) | (simp; omega)) _
      have hx2 : CellsAt W0 (w.heap.size + 1 + 1) #[.bool false, .bool false, .bool false] := by rw [hWW]; exact (CellsAt.alloc_at _ _ _ _ (by simp)).alloc (by first | (simp; done) | (simp; omega)) _
      have hf2 : Soft W0 (w.heap.size + 1 + 1) := by rw [hWW]; exact (Soft.alloc_at _ _ _ _ (by simp)).alloc (by first | (simp; done) | (simp; omega)) _
      have hx3 : CellsAt W0 (w.heap.size + 1 + 1 + 1) #[.bool false, .bool (decide (0 < sn)), .bool false] := by rw [hWW]; exact CellsAt.alloc_at _ _ _ _ (by simp)
      have hf3 : Soft W0 (w.heap.size + 1 + 1 + 1) := by rw [hWW]; exact Soft.alloc_at _ _ _ _ (by simp)
      rw [← hWW]
      clear hWW
      have Hx0 := Lib.hid hx0
      have Fx0 := Lib.hid hf0
      have Hx1 := Lib.hid hx1
      have Fx1 := Lib.hid hf1
      have Hx2 := Lib.hid hx2
      have Fx2 := Lib.hid hf2
      have Hx3 := Lib.hid hx3
      have Fx3 := Lib.hid hf3
      have HBX := Lib.hid hb0
      have HSZ := Lib.hid hsz
      clear hb0 hx0 hf0 hx1 hf1 hx2 hf2 hx3 hf3
      refine (HO1.out _).mono ?_
      rintro e w1 ⟨rfl, hb⟩
      have HB1 := Lib.hid hb
      clear hb
      have qs4 : w1.cell? ⟨w.heap.size + 1, 4, none⟩ = some (.int .u8 lk) := (Hx1.out.below HB1.out (by rw [HSZ.out]; omega)) 4 _ rfl
      have qs5 : w1.cell? ⟨w.heap.size + 1, 5, none⟩ = some (.int .i64 ln) := (Hx1.out.below HB1.out (by rw [HSZ.out]; omega)) 5 _ rfl
      have qs6 : w1.cell? ⟨w.heap.size + 1, 6, none⟩ = some (.string ls) := (Hx1.out.below HB1.out (by rw [HSZ.out]; omega)) 6 _ rfl
      go_wp2_with fail
      refine (HO2.out _).mono ?_
      rintro e w2 ⟨rfl, hb⟩
      clear qs4 qs5 qs6
      have HB2 := Lib.hid (HB1.out.trans (hb.mono HB1.out.size))
      clear hb
      have qs7 : w2.cell? ⟨w.heap.size + 1, 7, none⟩ = some (.int .u8 hk) := (Hx1.out.below HB2.out (by rw [HSZ.out]; omega)) 7 _ rfl
      have qs8 : w2.cell? ⟨w.heap.size + 1, 8, none⟩ = some (.int .i64 hn) := (Hx1.out.below HB2.out (by rw [HSZ.out]; omega)) 8 _ rfl
      have qs9 : w2.cell? ⟨w.heap.size + 1, 9, none⟩ = some (.string hs) := (Hx1.out.below HB2.out (by rw [HSZ.out]; omega)) 9 _ rfl
      go_wp2_with fail
      refine (HO3.out _).mono ?_
      rintro e w3 ⟨rfl, hb⟩
      clear qs7 qs8 qs9
      have HB3 := Lib.hid (HB2.out.trans (hb.mono HB2.out.size))
      clear hb
      go_wp2_with fail
      refine (HC1.out _).mono ?_
      rintro e w4 ⟨rfl, m4, hm4⟩
      have hb : Below w3.heap.size w3 w4 := by rw [hm4]; exact ⟨rfl, rfl, rfl, Nat.le_refl _, fun _ _ => rfl⟩
      clear hm4
      have HB4 := Lib.hid (HB3.out.trans (hb.mono HB3.out.size))
      clear hb
      have qs3 : w4.cell? ⟨w.heap.size + 1, 3, none⟩ = some (.bool sh) := (Hx1.out.below HB4.out (by rw [HSZ.out]; omega)) 3 _ rfl
      cases sh
      · have HR2 := HR.out
        simp only [Bool.false_eq_true, if_false] at HR2
        clear HR
        have HR := Lib.hid HR2
        clear HR2
        have qp0 : w4.cell? ⟨w.heap.size, 0, none⟩ = some (.int .u8 (op : Int)) := (Hx0.out.below HB4.out (by rw [HSZ.out]; omega)) 0 _ rfl
        have qr0 : w4.cell? ⟨w.heap.size + 1 + 1, 0, none⟩ = some (.bool false) := (Hx2.out.below HB4.out (by rw [HSZ.out]; omega)) 0 _ rfl
        have qr1 : w4.cell? ⟨w.heap.size + 1 + 1, 1, none⟩ = some (.bool false) := (Hx2.out.below HB4.out (by rw [HSZ.out]; omega)) 1 _ rfl
        have qr2 : w4.cell? ⟨w.heap.size + 1 + 1, 2, none⟩ = some (.bool false) := (Hx2.out.below HB4.out (by rw [HSZ.out]; omega)) 2 _ rfl
        have qo0 : w4.cell? ⟨w.heap.size + 1 + 1 + 1, 0, none⟩ = some (.bool false) := (Hx3.out.below HB4.out (by rw [HSZ.out]; omega)) 0 _ rfl
        have qo1 : w4.cell? ⟨w.heap.size + 1 + 1 + 1, 1, none⟩ = some (.bool (decide (0 < sn))) := (Hx3.out.below HB4.out (by rw [HSZ.out]; omega)) 1 _ rfl
        have qo2 : w4.cell? ⟨w.heap.size + 1 + 1 + 1, 2, none⟩ = some (.bool false) := (Hx3.out.below HB4.out (by rw [HSZ.out]; omega)) 2 _ rfl
        have gr : ∀ i, w4.frozen? ⟨w.heap.size + 1 + 1, i, none⟩ = false := Fx2.out.below HB4.out (by rw [HSZ.out]; omega)
        have go : ∀ i, w4.frozen? ⟨w.heap.size + 1 + 1 + 1, i, none⟩ = false := Fx3.out.below HB4.out (by rw [HSZ.out]; omega)
        by_cases ho1 : op = 1
        · subst ho1
          rcases Int.lt_trichotomy r1 0 with hr1 | hr1 | hr1
          · have e1 : (r1 == 0) = false := by rw [beq_eq_false_iff_ne]; omega
            have e2 : (r1 != 0) = true := by rw [bne, e1]; rfl
            have e3 : ¬ 0 ≤ r1 := by omega
            have e4 : decide (0 ≤ r1) = false := by rw [decide_eq_false_iff_not]; omega
            have HN := Lib.hid (show ¬ r1 = 0 by omega)
            clear e3
            go_wp2
            refine bodyPost_ret (v := .agg #[.bool (true), .bool (decide (0 < sn)), .bool (false)]) (by simp [results, Try.results63, go_sem, qr0, qr1, qr2]) rfl ⟨by rw [← HR.out]; simp [e4, HN.out]; rfl, ?_⟩
            repeat (with_reducible refine Below.setCell ?_ (by first | exact Nat.le_refl _ | (simp; done) | (simp; omega)) _)
            exact HBX.out.trans (HB4.out.mono (by rw [HSZ.out]; omega))
          · subst hr1
            go_wp2
            refine bodyPost_ret (v := .agg #[.bool (true), .bool (decide (0 < sn)), .bool (true)]) (by simp [results, Try.results63, go_sem, qr0, qr1, qr2]) rfl ⟨by rw [← HR.out]; simp; rfl, ?_⟩
            repeat (with_reducible refine Below.setCell ?_ (by first | exact Nat.le_refl _ | (simp; done) | (simp; omega)) _)
            exact HBX.out.trans (HB4.out.mono (by rw [HSZ.out]; omega))
          · have e1 : (r1 == 0) = false := by rw [beq_eq_false_iff_ne]; omega
            have e2 : (r1 != 0) = true := by rw [bne, e1]; rfl
            have e3 : 0 ≤ r1 := by omega
            have e4 : decide (0 ≤ r1) = true := by rw [decide_eq_true_iff]; omega
            have HN := Lib.hid (show ¬ r1 = 0 by omega)
            clear hr1
            go_wp2
            refine bodyPost_ret (v := .agg #[.bool (true), .bool (decide (0 < sn)), .bool (true)]) (by simp [results, Try.results63, go_sem, qr0, qr1, qr2]) rfl ⟨by rw [← HR.out]; simp [e4, HN.out]; rfl, ?_⟩
            repeat (with_reducible refine Below.setCell ?_ (by first | exact Nat.le_refl _ | (simp; done) | (simp; omega)) _)
            exact HBX.out.trans (HB4.out.mono (by rw [HSZ.out]; omega))
        · have ho1i : ((op : Int) == 1) = false := by rw [beq_eq_false_iff_ne]; omega
          have HNO1 := Lib.hid ho1
          by_cases ho2 : op = 2
          · subst ho2
            go_wp2
            refine bodyPost_ret (v := .agg #[.bool (true), .bool (decide (0 < sn)), .bool (decide (0 < r1))]) (by simp [results, Try.results63, go_sem, qr0, qr1, qr2]) rfl ⟨by rw [← HR.out]; simp; rfl, ?_⟩
            repeat (with_reducible refine Below.setCell ?_ (by first | exact Nat.le_refl _ | (simp; done) | (simp; omega)) _)
            exact HBX.out.trans (HB4.out.mono (by rw [HSZ.out]; omega))
          · have ho2i : ((op : Int) == 2) = false := by rw [beq_eq_false_iff_ne]; omega
            have HNO2 := Lib.hid ho2
            by_cases ho3 : op = 3
            · subst ho3
              go_wp2
              refine bodyPost_ret (v := .agg #[.bool (true), .bool (decide (0 < sn)), .bool (decide (0 ≤ r1))]) (by simp [results, Try.results63, go_sem, qr0, qr1, qr2]) rfl ⟨by rw [← HR.out]; simp; rfl, ?_⟩
              repeat (with_reducible refine Below.setCell ?_ (by first | exact Nat.le_refl _ | (simp; done) | (simp; omega)) _)
              exact HBX.out.trans (HB4.out.mono (by rw [HSZ.out]; omega))
            · have ho3i : ((op : Int) == 3) = false := by rw [beq_eq_false_iff_ne]; omega
              have HNO3 := Lib.hid ho3
              by_cases ho4 : op = 4
              · subst ho4
                go_wp2
                refine bodyPost_ret (v := .agg #[.bool (true), .bool (decide (0 < sn)), .bool (true)]) (by simp [results, Try.results63, go_sem, qr0, qr1, qr2]) rfl ⟨by rw [← HR.out]; simp; rfl, ?_⟩
                repeat (with_reducible refine Below.setCell ?_ (by first | exact Nat.le_refl _ | (simp; done) | (simp; omega)) _)
                exact HBX.out.trans (HB4.out.mono (by rw [HSZ.out]; omega))
              · have ho4i : ((op : Int) == 4) = false := by rw [beq_eq_false_iff_ne]; omega
                have HNO4 := Lib.hid ho4
                clear ho1 ho2 ho3 ho4
                go_wp2
                refine bodyPost_ret (v := .agg #[.bool (true), .bool (true), .bool (true)]) (by simp [results, Try.results63, go_sem, qr0, qr1, qr2]) rfl ⟨by rw [← HR.out]; simp [HNO1.out, HNO2.out, HNO3.out, HNO4.out]; rfl, ?_⟩
                repeat (with_reducible refine Below.setCell ?_ (by first | exact Nat.le_refl _ | (simp; done) | (simp; omega)) _)
                exact HBX.out.trans (HB4.out.mono (by rw [HSZ.out]; omega))
      · have HR2 := HR.out
        simp only [if_true] at HR2
        clear HR
        have HR := Lib.hid HR2
        clear HR2
        go_wp2_with fail
        refine (HC2.out _).mono ?_
        rintro e w5 ⟨rfl, m5, hm5⟩
        have hb : Below w4.heap.size w4 w5 := by rw [hm5]; exact ⟨rfl, rfl, rfl, Nat.le_refl _, fun _ _ => rfl⟩
        clear hm5
        clear qs3
        have HB5 := Lib.hid (HB4.out.trans (hb.mono HB4.out.size))
        clear hb
        have qp0 : w5.cell? ⟨w.heap.size, 0, none⟩ = some (.int .u8 (op : Int)) := (Hx0.out.below HB5.out (by rw [HSZ.out]; omega)) 0 _ rfl
        have qr0 : w5.cell? ⟨w.heap.size + 1 + 1, 0, none⟩ = some (.bool false) := (Hx2.out.below HB5.out (by rw [HSZ.out]; omega)) 0 _ rfl
        have qr1 : w5.cell? ⟨w.heap.size + 1 + 1, 1, none⟩ = some (.bool false) := (Hx2.out.below HB5.out (by rw [HSZ.out]; omega)) 1 _ rfl
        have qr2 : w5.cell? ⟨w.heap.size + 1 + 1, 2, none⟩ = some (.bool false) := (Hx2.out.below HB5.out (by rw [HSZ.out]; omega)) 2 _ rfl
        have qo0 : w5.cell? ⟨w.heap.size + 1 + 1 + 1, 0, none⟩ = some (.bool false) := (Hx3.out.below HB5.out (by rw [HSZ.out]; omega)) 0 _ rfl
        have qo1 : w5.cell? ⟨w.heap.size + 1 + 1 + 1, 1, none⟩ = some (.bool (decide (0 < sn))) := (Hx3.out.below HB5.out (by rw [HSZ.out]; omega)) 1 _ rfl
        have qo2 : w5.cell? ⟨w.heap.size + 1 + 1 + 1, 2, none⟩ = some (.bool false) := (Hx3.out.below HB5.out (by rw [HSZ.out]; omega)) 2 _ rfl
        have gr : ∀ i, w5.frozen? ⟨w.heap.size + 1 + 1, i, none⟩ = false := Fx2.out.below HB5.out (by rw [HSZ.out]; omega)
        have go : ∀ i, w5.frozen? ⟨w.heap.size + 1 + 1 + 1, i, none⟩ = false := Fx3.out.below HB5.out (by rw [HSZ.out]; omega)
        by_cases ho1 : op = 1
        · subst ho1
          rcases Int.lt_trichotomy r1 0 with hr1 | hr1 | hr1
          · have e1 : (r1 == 0) = false := by rw [beq_eq_false_iff_ne]; omega
            have e2 : (r1 != 0) = true := by rw [bne, e1]; rfl
            have e3 : ¬ 0 ≤ r1 := by omega
            have e4 : decide (0 ≤ r1) = false := by rw [decide_eq_false_iff_not]; omega
            have HN := Lib.hid (show ¬ r1 = 0 by omega)
            clear e3
            go_wp2
            refine bodyPost_ret (v := .agg #[.bool (true), .bool (decide (0 < sn)), .bool (false)]) (by simp [results, Try.results63, go_sem, qr0, qr1, qr2]) rfl ⟨by rw [← HR.out]; simp [e4, HN.out]; rfl, ?_⟩
            repeat (with_reducible refine Below.setCell ?_ (by first | exact Nat.le_refl _ | (simp; done) | (simp; omega)) _)
            exact HBX.out.trans (HB5.out.mono (by rw [HSZ.out]; omega))
          · subst hr1
            by_cases hr2 : r2 = 0
            · subst hr2
              cases tb
              · go_wp2
                refine bodyPost_ret (v := .agg #[.bool (false), .bool (decide (0 < sn)), .bool (true)]) (by simp [results, Try.results63, go_sem, qr0, qr1, qr2]) rfl ⟨by rw [← HR.out]; simp; rfl, ?_⟩
                repeat (with_reducible refine Below.setCell ?_ (by first | exact Nat.le_refl _ | (simp; done) | (simp; omega)) _)
                exact HBX.out.trans (HB5.out.mono (by rw [HSZ.out]; omega))
              · go_wp2_with fail
                refine (HCNT.out _ (by first | exact HSZT.out trivial | exact HSZT.out rfl)).mono ?_
                rintro e w6 ⟨rfl, hb⟩
                clear qp0 qr0 qr1 qr2 qo0 qo1 qo2 gr go
                have hb5 : Below (w.heap.size + 1 + 1 + 1) W0 (w5.setCell ⟨w.heap.size + 1 + 1 + 1, 2, none⟩ (.bool true)) := (HB5.out.mono (show w.heap.size + 1 + 1 + 1 ≤ W0.heap.size by rw [HSZ.out]; omega)).setCell (Nat.le_refl _) _
                have hz5 : w.heap.size + 1 + 1 + 1 < (w5.setCell ⟨w.heap.size + 1 + 1 + 1, 2, none⟩ (.bool true)).heap.size := by have := HB5.out.size; rw [HSZ.out] at this; simp; omega
                have HB6 := Lib.hid (hb5.trans (hb.mono (Nat.le_of_lt hz5)))
                have hc6 : CellsAt w6 (w.heap.size + 1 + 1 + 1) #[.bool false, .bool (decide (0 < sn)), .bool true] := by have := ((Hx3.out.below HB5.out (by rw [HSZ.out]; omega)).set (j := 2) (by simp) (.bool true)).below hb hz5; simpa using this
                have hf6 : Soft w6 (w.heap.size + 1 + 1 + 1) := ((Fx3.out.below HB5.out (by rw [HSZ.out]; omega)).set _ _).below hb hz5
                have hr6 := Hx2.out.below HB6.out (by omega)
                have gr : ∀ i, w6.frozen? ⟨w.heap.size + 1 + 1, i, none⟩ = false := Fx2.out.below HB6.out (by omega)
                have go := hf6
                unfold Soft at go
                have qr0 : w6.cell? ⟨w.heap.size + 1 + 1, 0, none⟩ = some (.bool false) := hr6 0 _ rfl
                have qr1 : w6.cell? ⟨w.heap.size + 1 + 1, 1, none⟩ = some (.bool false) := hr6 1 _ rfl
                have qr2 : w6.cell? ⟨w.heap.size + 1 + 1, 2, none⟩ = some (.bool false) := hr6 2 _ rfl
                have qo0 : w6.cell? ⟨w.heap.size + 1 + 1 + 1, 0, none⟩ = some (.bool false) := hc6 0 _ rfl
                have qo1 : w6.cell? ⟨w.heap.size + 1 + 1 + 1, 1, none⟩ = some (.bool (decide (0 < sn))) := hc6 1 _ rfl
                have qo2 : w6.cell? ⟨w.heap.size + 1 + 1 + 1, 2, none⟩ = some (.bool true) := hc6 2 _ rfl
                clear hb hb5 hz5 hc6 hf6 hr6
                go_wp2
                refine bodyPost_ret (v := .agg #[.bool (decide (4 ≤ (N ts : Int))), .bool (decide (0 < sn)), .bool true]) (by simp [results, Try.results63, go_sem, qr0, qr1, qr2]) rfl ⟨by rw [← HR.out]; have := HTX.out; simp [B3.cells] at this ⊢; rw [this]; omega, ?_⟩
                repeat (with_reducible refine Below.setCell ?_ (by first | exact Nat.le_refl _ | (simp; done) | (simp; omega)) _)
                exact HBX.out.trans (HB6.out.mono (by omega))
            · have e5 : (r2 == 0) = false := by rw [beq_eq_false_iff_ne]; omega
              have e6 : (r2 != 0) = true := by rw [bne, e5]; rfl
              have HN2 := Lib.hid hr2
              clear hr2
              go_wp2
              refine bodyPost_ret (v := .agg #[.bool (true), .bool (decide (0 < sn)), .bool (decide (0 ≤ r2))]) (by simp [results, Try.results63, go_sem, qr0, qr1, qr2]) rfl ⟨by rw [← HR.out]; simp [HN2.out]; rfl, ?_⟩
              repeat (with_reducible refine Below.setCell ?_ (by first | exact Nat.le_refl _ | (simp; done) | (simp; omega)) _)
              exact HBX.out.trans (HB5.out.mono (by rw [HSZ.out]; omega))
          · have e1 : (r1 == 0) = false := by rw [beq_eq_false_iff_ne]; omega
            have e2 : (r1 != 0) = true := by rw [bne, e1]; rfl
            have e3 : 0 ≤ r1 := by omega
            have e4 : decide (0 ≤ r1) = true := by rw [decide_eq_true_iff]; omega
            have HN := Lib.hid (show ¬ r1 = 0 by omega)
            clear hr1
            go_wp2
            refine bodyPost_ret (v := .agg #[.bool (true), .bool (decide (0 < sn)), .bool (decide (0 ≤ r2))]) (by simp [results, Try.results63, go_sem, qr0, qr1, qr2]) rfl ⟨by rw [← HR.out]; simp [e4, HN.out]; rfl, ?_⟩
            repeat (with_reducible refine Below.setCell ?_ (by first | exact Nat.le_refl _ | (simp; done) | (simp; omega)) _)
            exact HBX.out.trans (HB5.out.mono (by rw [HSZ.out]; omega))
        · have ho1i : ((op : Int) == 1) = false := by rw [beq_eq_false_iff_ne]; omega
          have HNO1 := Lib.hid ho1
          by_cases ho2 : op = 2
          · subst ho2
            go_wp2
            refine bodyPost_ret (v := .agg #[.bool (decide (0 ≤ r2)), .bool (decide (0 < sn)), .bool (decide (0 < r1))]) (by simp [results, Try.results63, go_sem, qr0, qr1, qr2]) rfl ⟨by rw [← HR.out]; simp; rfl, ?_⟩
            repeat (with_reducible refine Below.setCell ?_ (by first | exact Nat.le_refl _ | (simp; done) | (simp; omega)) _)
            exact HBX.out.trans (HB5.out.mono (by rw [HSZ.out]; omega))
          · have ho2i : ((op : Int) == 2) = false := by rw [beq_eq_false_iff_ne]; omega
            have HNO2 := Lib.hid ho2
            by_cases ho3 : op = 3
            · subst ho3
              go_wp2
              refine bodyPost_ret (v := .agg #[.bool (decide (0 < r2)), .bool (decide (0 < sn)), .bool (decide (0 ≤ r1))]) (by simp [results, Try.results63, go_sem, qr0, qr1, qr2]) rfl ⟨by rw [← HR.out]; simp; rfl, ?_⟩
              repeat (with_reducible refine Below.setCell ?_ (by first | exact Nat.le_refl _ | (simp; done) | (simp; omega)) _)
              exact HBX.out.trans (HB5.out.mono (by rw [HSZ.out]; omega))
            · have ho3i : ((op : Int) == 3) = false := by rw [beq_eq_false_iff_ne]; omega
              have HNO3 := Lib.hid ho3
              by_cases ho4 : op = 4
              · subst ho4
                go_wp2
                refine bodyPost_ret (v := .agg #[.bool (true), .bool (decide (0 < sn)), .bool (true)]) (by simp [results, Try.results63, go_sem, qr0, qr1, qr2]) rfl ⟨by rw [← HR.out]; simp; rfl, ?_⟩
                repeat (with_reducible refine Below.setCell ?_ (by first | exact Nat.le_refl _ | (simp; done) | (simp; omega)) _)
                exact HBX.out.trans (HB5.out.mono (by rw [HSZ.out]; omega))
              · have ho4i : ((op : Int) == 4) = false := by rw [beq_eq_false_iff_ne]; omega
                have HNO4 := Lib.hid ho4
                clear ho1 ho2 ho3 ho4
                go_wp2
                refine bodyPost_ret (v := .agg #[.bool (true), .bool (true), .bool (true)]) (by simp [results, Try.results63, go_sem, qr0, qr1, qr2]) rfl ⟨by rw [← HR.out]; simp [HNO1.out, HNO2.out, HNO3.out, HNO4.out]; rfl, ?_⟩
                repeat (with_reducible refine Below.setCell ?_ (by first | exact Nat.le_refl _ | (simp; done) | (simp; omega)) _)
                exact HBX.out.trans (HB5.out.mono (by rw [HSZ.out]; omega))
end Go.Proofs.Ytkofaoaglnjkgaa
