/- The contract of pred.holds. -/
import Derived.Test.YtkildbpfondgcaaPrMayP
import Derived.Test.YtkildbpfondgcaaVlCmpm
import Derived.WalkLawsBesides
namespace Go.Proofs.Ytkildbpfondgcaa
open Go.RowKit Go.Deep
set_option linter.unusedVariables false
set_option linter.unusedSimpArgs false

theorem iface_of {x : ValD} (h : x ≠ .nil) : ∃ t u, x.val = .iface t u := by
  cases x <;> first | exact absurd rfl h | exact ⟨_, _, rfl⟩
theorem cell_nil {x : ValD} (h : x ≠ .nil) : x.cell.kind ≠ 0 := by
  cases x <;> first | exact absurd rfl h | (simp [ValD.cell])
theorem drewN_is {w w' : World} {m : Nat} (h : w' = w.drewN m) : Below w.heap.size w w' := by rw [h]; exact ⟨rfl, rfl, rfl, Nat.le_refl _, fun _ _ => rfl⟩
set_option maxRecDepth 100000 in
set_option maxHeartbeats 8000000 in
theorem holds_nil (op field : Nat) (v : CellD) (kv : Value) (w : World) :
    Calls Try.prog 40 #[.agg #[.int .u8 (op : Int), .int .u32 (field : Int), .int .u8 v.kind, .int .i64 v.n, .string v.s, kv], .nilIface] w (ValIs (.int .u8 (fitsF op (fix v) zeroCell : Nat)) w) := by
  have HIS := Lib.hid is_calls
  unfold IntIs at HIS
  by_cases ho5 : op = 5
  · subst ho5
    rw [show fitsF 5 (fix v) zeroCell = 2 from rfl]
    go_enter Try.func40, Try.ntmps40
    go_wp2_with fail
    refine (HIS.out _ _ _ rfl).mono ?_
    rintro e w1 ⟨rfl, rfl⟩
    go_wp2
    go_ret
    exact ⟨rfl, (Below.refl _ _).alloc (Nat.le_refl _) _⟩
  · rw [show fitsF op (fix v) zeroCell = 1 by unfold fitsF; rw [if_neg ho5, if_pos (show zeroCell.kind = 0 from rfl)]]
    have ho5i : ((op : Int) == 5) = false := by rw [beq_eq_false_iff_ne]; omega
    clear ho5
    go_enter Try.func40, Try.ntmps40
    go_wp2
    go_ret
    exact ⟨rfl, (Below.refl _ _).alloc (Nat.le_refl _) _⟩
set_option maxRecDepth 100000 in
set_option maxHeartbeats 16000000 in
theorem holds_some (op field : Nat) (v : CellD) (kv : Value) (x : ValD) (w : World) (h0 : 0 ≤ v.kind) (hx : x.cell.s.size ≤ 100000) (hnil : x ≠ .nil) :
    Calls Try.prog 40 #[.agg #[.int .u8 (op : Int), .int .u32 (field : Int), .int .u8 v.kind, .int .i64 v.n, .string v.s, kv], x.val] w (ValIs (.int .u8 (fitsF op (fix v) x.cell : Nat)) w) := by
  have HIS := Lib.hid is_calls
  unfold IntIs at HIS
  have HO := Lib.hid (fun W => (both v h0 W).2)
  have HC := Lib.hid (fun W => compare_calls x (goodVal v) W)
  rw [good_cell v h0] at HC
  have hat1 := assertText x
  have hat2 := assertText (goodVal v)
  unfold AssertText at hat1 hat2
  have hit1 := isText_kind x
  have hit2 := isText_kind (goodVal v)
  rw [good_cell v h0] at hit2
  have htx1 := textOf_cell x
  have htx2 := textOf_cell (goodVal v)
  rw [good_cell v h0] at htx2
  have hs2 := fix_size v
  have hxk := cell_nil hnil
  obtain ⟨xt, xu, hxv⟩ := iface_of hnil
  have HLIKE := Lib.hid (fun (h1 : isText x = true) (h2 : isText (goodVal v) = true) W => like_calls (textOf x) (textOf (goodVal v)) W (by rw [htx1 h1]; exact hx) (by rw [htx2 h2]; omega))
  unfold LikePost at HLIKE
  obtain ⟨R, hR⟩ : ∃ R, fitsF op (fix v) x.cell = R := ⟨_, rfl⟩
  rw [hR]
  unfold fitsF at hR
  rw [hxv] at HC hat1 ⊢
  generalize fix v = fv at *
  generalize goodVal v = gv at *
  obtain ⟨vk, vn, vs⟩ := v
  simp only [CellD.cells] at HO
  generalize chk ⟨vk, vn, vs⟩ = e1 at *
  generalize isText gv = tb2 at *
  generalize textOf gv = ts2 at *
  generalize isText x = tb1 at *
  generalize textOf x = ts1 at *
  generalize gv.val = vv at *
  have hcl := cmpC_lt x.cell fv
  have hcz := cmpC_zero x.cell fv
  have hcp := cmpC_pos x.cell fv
  generalize cmpC x.cell fv = r at *
  by_cases ho5 : op = 5
  · subst ho5
    rw [if_pos rfl, if_neg hxk] at hR
    have HR := Lib.hid hR
    clear hR
    go_enter Try.func40, Try.ntmps40
    go_wp2_with fail
    refine (HIS.out _ _ _ rfl).mono ?_
    rintro e w1 ⟨rfl, rfl⟩
    go_wp2
    go_ret
    exact ⟨by rw [← HR.out]; rfl, (Below.refl _ _).alloc (Nat.le_refl _) _⟩
  · rw [if_neg ho5, if_neg hxk] at hR
    have ho5i : ((op : Int) == 5) = false := by rw [beq_eq_false_iff_ne]; omega
    have HX := Lib.hid (And.intro hcl (And.intro hcz (And.intro hcp (And.intro hit1 (And.intro hit2 (And.intro htx1 htx2))))))
    clear ho5 hcl hcz hcp hit1 hit2 htx1 htx2 hxk hs2 hxv hnil h0 hx
    have hop : ∀ k : Nat, op ≠ k → ((op : Int) == (k : Int)) = false := fun k h => by rw [beq_eq_false_iff_ne]; omega
    by_cases ho1 : op = 1
    · subst ho1
      rw [if_pos rfl] at hR
      have HR := Lib.hid hR
      clear hR ho5i
      by_cases hr0 : r = 0
      · have e1 : (r == 0) = true := by rw [beq_iff_eq]; exact hr0
        have HR0 := Lib.hid hr0
        clear hr0
        go_enter Try.func40, Try.ntmps40
        go_wp2_with fail
        refine (HO.out _).mono ?_
        rintro e w1 ⟨rfl, hb⟩
        have HB := Lib.hid (((Below.refl _ _).alloc (Nat.le_refl _) _).trans (hb.mono (by simp)))
        have q0 : w1.cell? ⟨w.heap.size, 0, none⟩ = some (.int .u8 1) := (hb.cell (p := ⟨w.heap.size, 0, none⟩) (by simp)).trans (by simp)
        clear hb
        go_wp2_with fail
        refine (HC.out _).mono ?_
        rintro e w2 ⟨rfl, m2, rfl⟩
        go_wp2_with fail
        refine (HIS.out _ _ _ rfl).mono ?_
        rintro e w3 ⟨rfl, rfl⟩
        go_wp2
        go_ret
        refine ⟨by rw [← HR.out]; rw [if_pos HR0.out]; rfl, below_drewN HB.out _⟩
      · have e1 : (r == 0) = false := by rw [beq_eq_false_iff_ne]; exact hr0
        have HR0 := Lib.hid hr0
        clear hr0
        go_enter Try.func40, Try.ntmps40
        go_wp2_with fail
        refine (HO.out _).mono ?_
        rintro e w1 ⟨rfl, hb⟩
        have HB := Lib.hid (((Below.refl _ _).alloc (Nat.le_refl _) _).trans (hb.mono (by simp)))
        have q0 : w1.cell? ⟨w.heap.size, 0, none⟩ = some (.int .u8 1) := (hb.cell (p := ⟨w.heap.size, 0, none⟩) (by simp)).trans (by simp)
        clear hb
        go_wp2_with fail
        refine (HC.out _).mono ?_
        rintro e w2 ⟨rfl, m2, rfl⟩
        go_wp2_with fail
        refine (HIS.out _ _ _ rfl).mono ?_
        rintro e w3 ⟨rfl, rfl⟩
        go_wp2
        go_ret
        refine ⟨by rw [← HR.out]; rw [if_neg HR0.out]; rfl, below_drewN HB.out _⟩
    · by_cases ho2 : op = 2
      · subst ho2
        rw [if_neg (show ¬ (2 : Nat) = 1 by decide), if_pos rfl] at hR
        have HR := Lib.hid hR
        clear hR ho5i
        by_cases hr0 : r < 0
        · have HR0 := Lib.hid hr0
          go_enter Try.func40, Try.ntmps40
          go_wp2_with fail
          refine (HO.out _).mono ?_
          rintro e w1 ⟨rfl, hb⟩
          have HB := Lib.hid (((Below.refl _ _).alloc (Nat.le_refl _) _).trans (hb.mono (by simp)))
          have q0 : w1.cell? ⟨w.heap.size, 0, none⟩ = some (.int .u8 2) := (hb.cell (p := ⟨w.heap.size, 0, none⟩) (by simp)).trans (by simp)
          clear hb
          go_wp2_with fail
          refine (HC.out _).mono ?_
          rintro e w2 ⟨rfl, m2, rfl⟩
          go_wp2_with fail
          refine (HIS.out _ _ _ rfl).mono ?_
          rintro e w3 ⟨rfl, rfl⟩
          go_wp2
          go_ret
          refine ⟨by rw [← HR.out]; rw [if_pos (HX.out.1.1 HR0.out)]; rfl, below_drewN HB.out _⟩
        · have HR0 := Lib.hid hr0
          have hr1 : 0 ≤ r := by omega
          clear hr0
          go_enter Try.func40, Try.ntmps40
          go_wp2_with fail
          refine (HO.out _).mono ?_
          rintro e w1 ⟨rfl, hb⟩
          have HB := Lib.hid (((Below.refl _ _).alloc (Nat.le_refl _) _).trans (hb.mono (by simp)))
          have q0 : w1.cell? ⟨w.heap.size, 0, none⟩ = some (.int .u8 2) := (hb.cell (p := ⟨w.heap.size, 0, none⟩) (by simp)).trans (by simp)
          clear hb
          go_wp2_with fail
          refine (HC.out _).mono ?_
          rintro e w2 ⟨rfl, m2, rfl⟩
          go_wp2_with fail
          refine (HIS.out _ _ _ rfl).mono ?_
          rintro e w3 ⟨rfl, rfl⟩
          go_wp2
          go_ret
          refine ⟨by rw [← HR.out]; rw [if_neg (fun h => by have h5 := HX.out.1.2 h; have h6 := HR0.out; omega)]; rfl, below_drewN HB.out _⟩
      · by_cases ho3 : op = 3
        · subst ho3
          rw [if_neg (show ¬ (3 : Nat) = 1 by decide), if_neg (show ¬ (3 : Nat) = 2 by decide), if_pos rfl] at hR
          have HR := Lib.hid hR
          clear hR ho5i
          by_cases hr0 : 0 < r
          · have HR0 := Lib.hid hr0
            go_enter Try.func40, Try.ntmps40
            go_wp2_with fail
            refine (HO.out _).mono ?_
            rintro e w1 ⟨rfl, hb⟩
            have HB := Lib.hid (((Below.refl _ _).alloc (Nat.le_refl _) _).trans (hb.mono (by simp)))
            have q0 : w1.cell? ⟨w.heap.size, 0, none⟩ = some (.int .u8 3) := (hb.cell (p := ⟨w.heap.size, 0, none⟩) (by simp)).trans (by simp)
            clear hb
            go_wp2_with fail
            refine (HC.out _).mono ?_
            rintro e w2 ⟨rfl, m2, rfl⟩
            go_wp2_with fail
            refine (HIS.out _ _ _ rfl).mono ?_
            rintro e w3 ⟨rfl, rfl⟩
            go_wp2
            go_ret
            refine ⟨by rw [← HR.out]; rw [if_pos (HX.out.2.2.1.1 HR0.out)]; rfl, below_drewN HB.out _⟩
          · have HR0 := Lib.hid hr0
            have hr1 : r ≤ 0 := by omega
            clear hr0
            go_enter Try.func40, Try.ntmps40
            go_wp2_with fail
            refine (HO.out _).mono ?_
            rintro e w1 ⟨rfl, hb⟩
            have HB := Lib.hid (((Below.refl _ _).alloc (Nat.le_refl _) _).trans (hb.mono (by simp)))
            have q0 : w1.cell? ⟨w.heap.size, 0, none⟩ = some (.int .u8 3) := (hb.cell (p := ⟨w.heap.size, 0, none⟩) (by simp)).trans (by simp)
            clear hb
            go_wp2_with fail
            refine (HC.out _).mono ?_
            rintro e w2 ⟨rfl, m2, rfl⟩
            go_wp2_with fail
            refine (HIS.out _ _ _ rfl).mono ?_
            rintro e w3 ⟨rfl, rfl⟩
            go_wp2
            go_ret
            refine ⟨by rw [← HR.out]; rw [if_neg (fun h => by have h5 := HX.out.2.2.1.2 h; have h6 := HR0.out; omega)]; rfl, below_drewN HB.out _⟩
        · by_cases ho4 : op = 4
          · subst ho4
            rw [if_neg (show ¬ (4 : Nat) = 1 by decide), if_neg (show ¬ (4 : Nat) = 2 by decide), if_neg (show ¬ (4 : Nat) = 3 by decide), if_pos rfl] at hR
            have HR := Lib.hid hR
            clear hR ho5i
            obtain ⟨-, -, -, hit1, hit2, htx1, htx2⟩ := HX.out
            have HT := Lib.hid (And.intro hit1 (And.intro hit2 (And.intro htx1 htx2)))
            clear hit1 hit2 htx1 htx2
            cases tb1
            · go_enter Try.func40, Try.ntmps40
              go_wp2_with fail
              refine (HO.out _).mono ?_
              rintro e w1 ⟨rfl, hb⟩
              have HB := Lib.hid (((Below.refl _ _).alloc (Nat.le_refl _) _).trans (hb.mono (by simp)))
              have q0 : w1.cell? ⟨w.heap.size, 0, none⟩ = some (.int .u8 4) := (hb.cell (p := ⟨w.heap.size, 0, none⟩) (by simp)).trans (by simp)
              clear hb
              go_wp2_with fail
              refine (HIS.out _ _ _ rfl).mono ?_
              rintro e w3 ⟨rfl, rfl⟩
              go_wp2
              go_ret
              refine ⟨by rw [← HR.out]; rw [if_neg (fun h => by have := HT.out.1; simp [h.1] at this)]; rfl, HB.out⟩
            · cases tb2
              · go_enter Try.func40, Try.ntmps40
                go_wp2_with fail
                refine (HO.out _).mono ?_
                rintro e w1 ⟨rfl, hb⟩
                have HB := Lib.hid (((Below.refl _ _).alloc (Nat.le_refl _) _).trans (hb.mono (by simp)))
                have q0 : w1.cell? ⟨w.heap.size, 0, none⟩ = some (.int .u8 4) := (hb.cell (p := ⟨w.heap.size, 0, none⟩) (by simp)).trans (by simp)
                clear hb
                go_wp2_with fail
                refine (HIS.out _ _ _ rfl).mono ?_
                rintro e w3 ⟨rfl, rfl⟩
                go_wp2
                go_ret
                refine ⟨by rw [← HR.out]; rw [if_neg (fun h => by have := HT.out.2.1; simp [h.2.1] at this)]; rfl, HB.out⟩
              · have hlk := HLIKE.out rfl rfl
                have hk1 : x.cell.kind = 3 := by have := HT.out.1; simpa using this.symm
                have hk2 : fv.kind = 3 := by have := HT.out.2.1; simpa using this.symm
                have ht1 := HT.out.2.2.1 rfl
                have ht2 := HT.out.2.2.2 rfl
                rw [← ht1, ← ht2] at HR
                generalize likeB ts1 ts2 = lb at *
                have HLK := Lib.hid hlk
                have HKK := Lib.hid (And.intro hk1 hk2)
                clear hlk hk1 hk2 ht1 ht2
                cases lb
                · go_enter Try.func40, Try.ntmps40
                  go_wp2_with fail
                  refine (HO.out _).mono ?_
                  rintro e w1 ⟨rfl, hb⟩
                  have HB := Lib.hid (((Below.refl _ _).alloc (Nat.le_refl _) _).trans (hb.mono (by simp)))
                  have q0 : w1.cell? ⟨w.heap.size, 0, none⟩ = some (.int .u8 4) := (hb.cell (p := ⟨w.heap.size, 0, none⟩) (by simp)).trans (by simp)
                  clear hb
                  go_wp2_with fail
                  refine (HLK.out _).mono ?_
                  rintro e w2 ⟨rfl, hb⟩
                  have HB2 := Lib.hid (HB.out.trans (hb.mono HB.out.size))
                  clear hb
                  go_wp2_with fail
                  refine (HIS.out _ _ _ rfl).mono ?_
                  rintro e w3 ⟨rfl, rfl⟩
                  go_wp2
                  go_ret
                  refine ⟨by rw [← HR.out]; rw [if_neg (fun h => by cases h.2.2)]; rfl, HB2.out⟩
                · go_enter Try.func40, Try.ntmps40
                  go_wp2_with fail
                  refine (HO.out _).mono ?_
                  rintro e w1 ⟨rfl, hb⟩
                  have HB := Lib.hid (((Below.refl _ _).alloc (Nat.le_refl _) _).trans (hb.mono (by simp)))
                  have q0 : w1.cell? ⟨w.heap.size, 0, none⟩ = some (.int .u8 4) := (hb.cell (p := ⟨w.heap.size, 0, none⟩) (by simp)).trans (by simp)
                  clear hb
                  go_wp2_with fail
                  refine (HLK.out _).mono ?_
                  rintro e w2 ⟨rfl, hb⟩
                  have HB2 := Lib.hid (HB.out.trans (hb.mono HB.out.size))
                  clear hb
                  go_wp2_with fail
                  refine (HIS.out _ _ _ rfl).mono ?_
                  rintro e w3 ⟨rfl, rfl⟩
                  go_wp2
                  go_ret
                  refine ⟨by rw [← HR.out]; rw [if_pos ⟨HKK.out.1, HKK.out.2, by trivial⟩]; rfl, HB2.out⟩
          · rw [if_neg ho1, if_neg ho2, if_neg ho3, if_neg ho4] at hR
            have HR := Lib.hid hR
            have ho1i : ((op : Int) == 1) = false := hop 1 ho1
            have ho2i : ((op : Int) == 2) = false := hop 2 ho2
            have ho3i : ((op : Int) == 3) = false := hop 3 ho3
            have ho4i : ((op : Int) == 4) = false := hop 4 ho4
            clear hR hop ho1 ho2 ho3 ho4
            go_enter Try.func40, Try.ntmps40
            go_wp2_with fail
            refine (HO.out _).mono ?_
            rintro e w1 ⟨rfl, hb⟩
            have HB := Lib.hid (((Below.refl _ _).alloc (Nat.le_refl _) _).trans (hb.mono (by simp)))
            have q0 : w1.cell? ⟨w.heap.size, 0, none⟩ = some (.int .u8 (op : Int)) := (hb.cell (p := ⟨w.heap.size, 0, none⟩) (by simp)).trans (by simp)
            clear hb
            go_wp2
            go_ret
            exact ⟨by rw [← HR.out]; rfl, HB.out⟩
/-- **pred.holds.** -/
theorem holds_calls (op field : Nat) (v : CellD) (kv : Value) (x : ValD) (w : World) (h0 : 0 ≤ v.kind) (hx : x.cell.s.size ≤ 100000) :
    Calls Try.prog 40 #[.agg #[.int .u8 (op : Int), .int .u32 (field : Int), .int .u8 v.kind, .int .i64 v.n, .string v.s, kv], x.val] w (ValIs (.int .u8 (fitsF op (fix v) x.cell : Nat)) w) := by
  by_cases hn : x = .nil
  · subst hn; exact holds_nil op field v kv w
  · exact holds_some op field v kv x w h0 hx hn
end Go.Proofs.Ytkildbpfondgcaa
