/- The contract of pred.Stats. -/
import Derived.Test.YtkildbpfondgcaaPrPlain
import Derived.Test.YtkildbpfondgcaaBase
import Derived.Test.YtkildbpfondgcaaVlBase
import Derived.Test.YtkildbpfondgcaaVlCmpm
import Derived.Test.YtkildbpfondgcaaSgTop
import Derived.Handy
namespace Go.Proofs.Ytkildbpfondgcaa
open Go.RowKit Go.Deep
set_option linter.unusedVariables false
set_option linter.unusedSimpArgs false

def ValR : Rd ValD := fun _ cs d => cs = [d.val]
theorem ValR.stable : Stable ValR := fun _ _ _ _ _ h => h
def stCells (n nl : Nat) (sm : Bool) : Array Value := #[.int .i64 (n : Int), .int .i64 (nl : Int), .bool sm, .bool false, .int .u8 0, .int .i64 0, .string ⟨#[]⟩, .int .u8 0, .int .i64 0, .string ⟨#[]⟩]
theorem stCells_nulls (n nl : Nat) (sm : Bool) : (stCells n nl sm).setIfInBounds 1 (.int .i64 ((nl : Int) + 1)) = stCells n (nl + 1) sm := by simp [stCells]
theorem stCells_some (n nl : Nat) (sm : Bool) : (stCells n nl sm).setIfInBounds 2 (.bool true) = stCells n nl true := by simp [stCells]
theorem stc_some {w : World} {b n nl : Nat} {sm : Bool} (h : CellsAt w b ((stCells n nl sm).setIfInBounds 2 (.bool true))) : CellsAt w b (stCells n nl true) := by rw [stCells_some] at h; exact h
theorem stc_nulls {w : World} {b n nl : Nat} {sm : Bool} (h : CellsAt w b ((stCells n nl sm).setIfInBounds 1 (.int .i64 ((nl : Int) + 1)))) : CellsAt w b (stCells n (nl + 1) sm) := by rw [stCells_nulls] at h; exact h
theorem step_null {nl : Nat} {sm ok : Bool} {lc mc c : CellD} (h : c.kind = 0) : (StF.mk nl sm lc mc ok).step c = ⟨nl + 1, sm, lc, mc, ok⟩ := by unfold StF.step; rw [if_pos h]
theorem step_some {nl : Nat} {sm ok : Bool} {lc mc c : CellD} (h : c.kind ≠ 0) {l2 m2 : CellD} {ok2 : Bool} (hl : (if sm = false ∨ LessC c lc then c else lc) = l2) (hm : (if sm = false ∨ LessC mc c then c else mc) = m2) (ho : (ok && (if c.kind = 3 then clean c.s else true)) = ok2) : (StF.mk nl sm lc mc ok).step c = ⟨nl, true, l2, m2, ok2⟩ := by
  unfold StF.step; rw [if_neg h]; simp only [hl, hm, ho]
set_option maxRecDepth 100000 in
set_option maxHeartbeats 40000000 in
theorem stats_calls (a : Option Addr) (n c : Nat) (vs : List ValD) (w : World) (h : Sl 1 ValR w a n vs) (hn : n ≤ 1000) (hsz : ∀ v ∈ vs, v.cell.s.size ≤ 1000000) :
    Calls Try.prog 8 #[.slice a n c] w (ValIs (.agg (statsF (vs.map ValD.cell)).cells) w) := by
  obtain ⟨i1, i2, i3, i4⟩ := assertsI64
  obtain ⟨b1, b2, b3, b4⟩ := assertsBool
  obtain ⟨s1, s2, s3, s4⟩ := assertsStr
  have HS := Lib.hid h
  have HLEN := Lib.hid h.1
  have HSZ := Lib.hid hsz
  have HCMP := Lib.hid compare_calls
  have HCLEAN := Lib.hid clean_calls
  have HI3 := Lib.hid s3
  obtain ⟨xs, hxs⟩ : ∃ xs, vs.map ValD.cell = xs := ⟨_, rfl⟩
  rw [hxs]
  have HXS := Lib.hid hxs
  have hxl : xs.length = n := by rw [← hxs, List.length_map]; exact h.1
  have HXL := Lib.hid hxl
  clear h hsz hxs i1 i2 i3 i4 b1 b2 b3 b4
  go_enter Try.func8, Try.ntmps8
  go_wp2
  have hc0 : CellsAt ((w.alloc (.cells #[Value.int .i64 0, .int .i64 0, .bool false, .bool false, .int .u8 0, .int .i64 0, .string ⟨#[]⟩, .int .u8 0, .int .i64 0, .string ⟨#[]⟩] 29)).alloc (.cells #[Value.int .i64 (n : Int), .int .i64 0, .bool false, .bool false, .int .u8 0, .int .i64 0, .string ⟨#[]⟩, .int .u8 0, .int .i64 0, .string ⟨#[]⟩] 29)) w.heap.size (stCells 0 0 false) := (CellsAt.alloc_new w _ _).alloc (by simp) _
  have hf0 : Soft ((w.alloc (.cells #[Value.int .i64 0, .int .i64 0, .bool false, .bool false, .int .u8 0, .int .i64 0, .string ⟨#[]⟩, .int .u8 0, .int .i64 0, .string ⟨#[]⟩] 29)).alloc (.cells #[Value.int .i64 (n : Int), .int .i64 0, .bool false, .bool false, .int .u8 0, .int .i64 0, .string ⟨#[]⟩, .int .u8 0, .int .i64 0, .string ⟨#[]⟩] 29)) w.heap.size := (Soft.alloc_new w _ _).alloc (by simp) _
  have hc1 : CellsAt ((w.alloc (.cells #[Value.int .i64 0, .int .i64 0, .bool false, .bool false, .int .u8 0, .int .i64 0, .string ⟨#[]⟩, .int .u8 0, .int .i64 0, .string ⟨#[]⟩] 29)).alloc (.cells #[Value.int .i64 (n : Int), .int .i64 0, .bool false, .bool false, .int .u8 0, .int .i64 0, .string ⟨#[]⟩, .int .u8 0, .int .i64 0, .string ⟨#[]⟩] 29)) (w.heap.size + 1) (stCells n 0 false) := by have := CellsAt.alloc_new (w.alloc (.cells (stCells 0 0 false) 29)) (stCells n 0 false) 29; simpa [stCells] using this
  have hf1 : Soft ((w.alloc (.cells #[Value.int .i64 0, .int .i64 0, .bool false, .bool false, .int .u8 0, .int .i64 0, .string ⟨#[]⟩, .int .u8 0, .int .i64 0, .string ⟨#[]⟩] 29)).alloc (.cells #[Value.int .i64 (n : Int), .int .i64 0, .bool false, .bool false, .int .u8 0, .int .i64 0, .string ⟨#[]⟩, .int .u8 0, .int .i64 0, .string ⟨#[]⟩] 29)) (w.heap.size + 1) := by have := Soft.alloc_new (w.alloc (.cells (stCells 0 0 false) 29)) (stCells n 0 false) 29; simpa [stCells] using this
  have hb0 : Below w.heap.size w ((w.alloc (.cells #[Value.int .i64 0, .int .i64 0, .bool false, .bool false, .int .u8 0, .int .i64 0, .string ⟨#[]⟩, .int .u8 0, .int .i64 0, .string ⟨#[]⟩] 29)).alloc (.cells #[Value.int .i64 (n : Int), .int .i64 0, .bool false, .bool false, .int .u8 0, .int .i64 0, .string ⟨#[]⟩, .int .u8 0, .int .i64 0, .string ⟨#[]⟩] 29)) := ((Below.refl _ _).alloc (Nat.le_refl _) _).alloc (by simp) _
  have hz0 : w.heap.size + 1 < ((w.alloc (.cells #[Value.int .i64 0, .int .i64 0, .bool false, .bool false, .int .u8 0, .int .i64 0, .string ⟨#[]⟩, .int .u8 0, .int .i64 0, .string ⟨#[]⟩] 29)).alloc (.cells #[Value.int .i64 (n : Int), .int .i64 0, .bool false, .bool false, .int .u8 0, .int .i64 0, .string ⟨#[]⟩, .int .u8 0, .int .i64 0, .string ⟨#[]⟩] 29)).heap.size := by simp
  generalize ((w.alloc (.cells #[Value.int .i64 0, .int .i64 0, .bool false, .bool false, .int .u8 0, .int .i64 0, .string ⟨#[]⟩, .int .u8 0, .int .i64 0, .string ⟨#[]⟩] 29)).alloc (.cells #[Value.int .i64 (n : Int), .int .i64 0, .bool false, .bool false, .int .u8 0, .int .i64 0, .string ⟨#[]⟩, .int .u8 0, .int .i64 0, .string ⟨#[]⟩] 29)) = W0 at *
  have HC0 := Lib.hid hc0
  have HC1 := Lib.hid hc1
  have HF0 := Lib.hid hf0
  have HF1 := Lib.hid hf1
  have HB0 := Lib.hid hb0
  clear hc0 hc1 hf0 hf1 hb0
  go_loopw [4, 5, 6, 20] (fun lo mo cl i wr => ∃ (k nl : Nat) (lv mv : ValD) (sm ok : Bool), k ≤ n ∧ lo = lv.val ∧ mo = mv.val ∧ cl = .bool ok ∧ i = .int .i64 (k : Int) ∧ foldSt (xs.take k) = ⟨nl, sm, lv.cell, mv.cell, ok⟩ ∧ CellsAt wr (w.heap.size + 1) (stCells n nl sm) ∧ Soft wr (w.heap.size + 1) ∧ CellsAt wr w.heap.size (stCells 0 0 false) ∧ Soft wr w.heap.size ∧ Below w.heap.size w wr ∧ w.heap.size + 1 < wr.heap.size) (fun _ _ _ i _ => n - (intOf i).toNat)
  case atStart => exact ⟨0, 0, .nil, .nil, false, true, Nat.zero_le _, rfl, rfl, rfl, rfl, rfl, HC1.out, HF1.out, HC0.out, HF0.out, HB0.out, hz0⟩
  case round =>
    obtain ⟨k, nl, lv, mv, sm, ok, hk, rfl, rfl, rfl, rfl, hfold, hc1, hf1, hc0, hf0, hb, hz⟩ := hrel
    have HFOLD := Lib.hid hfold
    have HC1 := Lib.hid hc1
    have HC0 := Lib.hid hc0
    have HF1 := Lib.hid hf1
    have HF0 := Lib.hid hf0
    have HB := Lib.hid hb
    have hinv := stInv xs k (by have := HXL.out; omega)
    rw [hfold] at hinv
    have HINV := Lib.hid hinv
    clear hfold hc1 hf1 hc0 hf0 hb hinv
    by_cases hlt : k < n
    · obtain ⟨b, off, v, vv, rfl, hbl, hx, hr, hcell⟩ := HS.out.at1 hlt
      obtain rfl : vv = v.val := by have := hr; unfold ValR at this; simpa using this
      have d0 := (HB.out.cell (p := ⟨b, off + k, none⟩) hbl).trans hcell
      have q1 : wr.cell? ⟨w.heap.size + 1, 1, none⟩ = some (.int .i64 (nl : Int)) := HC1.out 1 _ rfl
      have q2 : wr.cell? ⟨w.heap.size + 1, 2, none⟩ = some (.bool sm) := HC1.out 2 _ rfl
      have f1 := HF1.out
      unfold Soft at f1
      have hk0 : (0 : Int) ≤ (k : Int) := by omega
      have hkn : (k : Int) < (n : Int) := by omega
      have hxk : xs[k]? = some v.cell := by rw [← HXS.out, List.getElem?_map, hx]; rfl
      have HXK := Lib.hid hxk
      have HVS := Lib.hid (HSZ.out v (List.mem_of_getElem? hx))
      have hnl : nl ≤ k := by have := HINV.out.nulls; simp at this; omega
      clear hcell hr hx hxk
      rcases v with _ | z | z | z
      · have HKIND := Lib.hid (show ValD.nil.cell.kind = 0 from rfl)
        simp only [ValD.val] at d0
        have hq : IntKind.i64.wrap ((nl : Int) + 1) = (nl : Int) + 1 := wrap_small _ (by omega) (by omega)
        go_wp2
        go_roundw
        case rel =>
          refine ⟨k + 1, nl + 1, lv, mv, sm, ok, by omega, rfl, rfl, rfl, by go_num, ?_, ?_, ?_, ?_, ?_, ?_, ?_⟩
          · rw [foldSt_snoc HXK.out, HFOLD.out]
            exact step_null HKIND.out
          · have := HC1.out.set (j := 1) (by simp [stCells]) (.int .i64 ((nl : Int) + 1))
            rwa [stCells_nulls] at this
          · exact HF1.out.set _ _
          · exact HC0.out.setFar (by simp) _
          · exact HF0.out.set _ _
          · exact HB.out.setCell (by simp) _
          · simpa using hz
        case measure => simp [intOf] <;> omega
      · have HKIND := Lib.hid (show (ValD.whole z).cell.kind ≠ 0 by simp [ValD.cell])
        have HOK := Lib.hid (show (ok && (if (ValD.whole z).cell.kind = 3 then clean (ValD.whole z).cell.s else true)) = ok by rw [if_neg (by simp [ValD.cell])]; cases ok <;> rfl)
        simp only [ValD.val] at d0
        cases sm
        · go_wp2
          go_roundw
          case rel =>
            refine ⟨k + 1, nl, (ValD.whole z), (ValD.whole z), true, ok, by omega, rfl, rfl, rfl, by go_num, ?_, ?_, ?_, ?_, ?_, ?_, ?_⟩
            · rw [foldSt_snoc HXK.out, HFOLD.out]
              exact step_some HKIND.out (if_pos (.inl rfl)) (if_pos (.inl rfl)) HOK.out
            · exact stc_some ((HC1.out).set (by simp [stCells]) _)
            · exact (HF1.out).set _ _
            · exact (HC0.out).setFar (by simp) _
            · exact (HF0.out).set _ _
            · exact (HB.out).setCell (by simp) _
            · simpa using hz
          case measure => simp [intOf] <;> omega
        · have hcm1 := HCMP.out (ValD.whole z) lv
          have hcm2 := HCMP.out (ValD.whole z) mv
          have hl1 := cmpC_lt (ValD.whole z).cell lv.cell
          have hl2 := cmpC_pos (ValD.whole z).cell mv.cell
          generalize cmpC (ValD.whole z).cell lv.cell = r1 at *
          generalize cmpC (ValD.whole z).cell mv.cell = r2 at *
          have HCM1 := Lib.hid hcm1
          have HCM2 := Lib.hid hcm2
          have HL1 := Lib.hid hl1
          have HL2 := Lib.hid hl2
          clear hcm1 hcm2 hl1 hl2
          by_cases hr1 : r1 < 0
          · by_cases hr2 : 0 < r2
            · go_wp2_with fail
              refine (HCM1.out _).mono ?_
              rintro e w5 ⟨rfl, m5, rfl⟩
              go_wp2_with fail
              refine (HCM2.out _).mono ?_
              rintro e w6 ⟨rfl, m6, rfl⟩
              go_wp2
              go_roundw
              case rel =>
                refine ⟨k + 1, nl, (ValD.whole z), (ValD.whole z), true, ok, by omega, rfl, rfl, rfl, by go_num, ?_, ?_, ?_, ?_, ?_, ?_, ?_⟩
                · rw [foldSt_snoc HXK.out, HFOLD.out]
                  exact step_some HKIND.out (if_pos (.inr (HL1.out.1 hr1))) (if_pos (.inr (HL2.out.1 hr2))) HOK.out
                · exact stc_some (((HC1.out).drewN _).set (by simp [stCells]) _)
                · exact ((HF1.out).drewN _).set _ _
                · exact ((HC0.out).drewN _).setFar (by simp) _
                · exact ((HF0.out).drewN _).set _ _
                · exact (below_drewN (HB.out) _).setCell (by simp) _
                · simpa using hz
              case measure => simp [intOf] <;> omega
            · have hr2' : r2 ≤ 0 := by omega
              go_wp2_with fail
              refine (HCM1.out _).mono ?_
              rintro e w5 ⟨rfl, m5, rfl⟩
              go_wp2_with fail
              refine (HCM2.out _).mono ?_
              rintro e w6 ⟨rfl, m6, rfl⟩
              go_wp2
              go_roundw
              case rel =>
                refine ⟨k + 1, nl, (ValD.whole z), mv, true, ok, by omega, rfl, rfl, rfl, by go_num, ?_, ?_, ?_, ?_, ?_, ?_, ?_⟩
                · rw [foldSt_snoc HXK.out, HFOLD.out]
                  exact step_some HKIND.out (if_pos (.inr (HL1.out.1 hr1))) (if_neg (fun h => h.elim (fun h => by cases h) (fun h => absurd (HL2.out.2 h) (by omega)))) HOK.out
                · exact stc_some (((HC1.out).drewN _).set (by simp [stCells]) _)
                · exact ((HF1.out).drewN _).set _ _
                · exact ((HC0.out).drewN _).setFar (by simp) _
                · exact ((HF0.out).drewN _).set _ _
                · exact (below_drewN (HB.out) _).setCell (by simp) _
                · simpa using hz
              case measure => simp [intOf] <;> omega
          · have hr1' : 0 ≤ r1 := by omega
            by_cases hr2 : 0 < r2
            · go_wp2_with fail
              refine (HCM1.out _).mono ?_
              rintro e w5 ⟨rfl, m5, rfl⟩
              go_wp2_with fail
              refine (HCM2.out _).mono ?_
              rintro e w6 ⟨rfl, m6, rfl⟩
              go_wp2
              go_roundw
              case rel =>
                refine ⟨k + 1, nl, lv, (ValD.whole z), true, ok, by omega, rfl, rfl, rfl, by go_num, ?_, ?_, ?_, ?_, ?_, ?_, ?_⟩
                · rw [foldSt_snoc HXK.out, HFOLD.out]
                  exact step_some HKIND.out (if_neg (fun h => h.elim (fun h => by cases h) (fun h => absurd (HL1.out.2 h) (by omega)))) (if_pos (.inr (HL2.out.1 hr2))) HOK.out
                · exact stc_some (((HC1.out).drewN _).set (by simp [stCells]) _)
                · exact ((HF1.out).drewN _).set _ _
                · exact ((HC0.out).drewN _).setFar (by simp) _
                · exact ((HF0.out).drewN _).set _ _
                · exact (below_drewN (HB.out) _).setCell (by simp) _
                · simpa using hz
              case measure => simp [intOf] <;> omega
            · have hr2' : r2 ≤ 0 := by omega
              go_wp2_with fail
              refine (HCM1.out _).mono ?_
              rintro e w5 ⟨rfl, m5, rfl⟩
              go_wp2_with fail
              refine (HCM2.out _).mono ?_
              rintro e w6 ⟨rfl, m6, rfl⟩
              go_wp2
              go_roundw
              case rel =>
                refine ⟨k + 1, nl, lv, mv, true, ok, by omega, rfl, rfl, rfl, by go_num, ?_, ?_, ?_, ?_, ?_, ?_, ?_⟩
                · rw [foldSt_snoc HXK.out, HFOLD.out]
                  exact step_some HKIND.out (if_neg (fun h => h.elim (fun h => by cases h) (fun h => absurd (HL1.out.2 h) (by omega)))) (if_neg (fun h => h.elim (fun h => by cases h) (fun h => absurd (HL2.out.2 h) (by omega)))) HOK.out
                · exact stc_some (((HC1.out).drewN _).set (by simp [stCells]) _)
                · exact ((HF1.out).drewN _).set _ _
                · exact ((HC0.out).drewN _).setFar (by simp) _
                · exact ((HF0.out).drewN _).set _ _
                · exact (below_drewN (HB.out) _).setCell (by simp) _
                · simpa using hz
              case measure => simp [intOf] <;> omega
      · have HKIND := Lib.hid (show (ValD.truth z).cell.kind ≠ 0 by simp [ValD.cell])
        have HOK := Lib.hid (show (ok && (if (ValD.truth z).cell.kind = 3 then clean (ValD.truth z).cell.s else true)) = ok by rw [if_neg (by simp [ValD.cell])]; cases ok <;> rfl)
        simp only [ValD.val] at d0
        cases sm
        · go_wp2
          go_roundw
          case rel =>
            refine ⟨k + 1, nl, (ValD.truth z), (ValD.truth z), true, ok, by omega, rfl, rfl, rfl, by go_num, ?_, ?_, ?_, ?_, ?_, ?_, ?_⟩
            · rw [foldSt_snoc HXK.out, HFOLD.out]
              exact step_some HKIND.out (if_pos (.inl rfl)) (if_pos (.inl rfl)) HOK.out
            · exact stc_some ((HC1.out).set (by simp [stCells]) _)
            · exact (HF1.out).set _ _
            · exact (HC0.out).setFar (by simp) _
            · exact (HF0.out).set _ _
            · exact (HB.out).setCell (by simp) _
            · simpa using hz
          case measure => simp [intOf] <;> omega
        · have hcm1 := HCMP.out (ValD.truth z) lv
          have hcm2 := HCMP.out (ValD.truth z) mv
          have hl1 := cmpC_lt (ValD.truth z).cell lv.cell
          have hl2 := cmpC_pos (ValD.truth z).cell mv.cell
          generalize cmpC (ValD.truth z).cell lv.cell = r1 at *
          generalize cmpC (ValD.truth z).cell mv.cell = r2 at *
          have HCM1 := Lib.hid hcm1
          have HCM2 := Lib.hid hcm2
          have HL1 := Lib.hid hl1
          have HL2 := Lib.hid hl2
          clear hcm1 hcm2 hl1 hl2
          by_cases hr1 : r1 < 0
          · by_cases hr2 : 0 < r2
            · go_wp2_with fail
              refine (HCM1.out _).mono ?_
              rintro e w5 ⟨rfl, m5, rfl⟩
              go_wp2_with fail
              refine (HCM2.out _).mono ?_
              rintro e w6 ⟨rfl, m6, rfl⟩
              go_wp2
              go_roundw
              case rel =>
                refine ⟨k + 1, nl, (ValD.truth z), (ValD.truth z), true, ok, by omega, rfl, rfl, rfl, by go_num, ?_, ?_, ?_, ?_, ?_, ?_, ?_⟩
                · rw [foldSt_snoc HXK.out, HFOLD.out]
                  exact step_some HKIND.out (if_pos (.inr (HL1.out.1 hr1))) (if_pos (.inr (HL2.out.1 hr2))) HOK.out
                · exact stc_some (((HC1.out).drewN _).set (by simp [stCells]) _)
                · exact ((HF1.out).drewN _).set _ _
                · exact ((HC0.out).drewN _).setFar (by simp) _
                · exact ((HF0.out).drewN _).set _ _
                · exact (below_drewN (HB.out) _).setCell (by simp) _
                · simpa using hz
              case measure => simp [intOf] <;> omega
            · have hr2' : r2 ≤ 0 := by omega
              go_wp2_with fail
              refine (HCM1.out _).mono ?_
              rintro e w5 ⟨rfl, m5, rfl⟩
              go_wp2_with fail
              refine (HCM2.out _).mono ?_
              rintro e w6 ⟨rfl, m6, rfl⟩
              go_wp2
              go_roundw
              case rel =>
                refine ⟨k + 1, nl, (ValD.truth z), mv, true, ok, by omega, rfl, rfl, rfl, by go_num, ?_, ?_, ?_, ?_, ?_, ?_, ?_⟩
                · rw [foldSt_snoc HXK.out, HFOLD.out]
                  exact step_some HKIND.out (if_pos (.inr (HL1.out.1 hr1))) (if_neg (fun h => h.elim (fun h => by cases h) (fun h => absurd (HL2.out.2 h) (by omega)))) HOK.out
                · exact stc_some (((HC1.out).drewN _).set (by simp [stCells]) _)
                · exact ((HF1.out).drewN _).set _ _
                · exact ((HC0.out).drewN _).setFar (by simp) _
                · exact ((HF0.out).drewN _).set _ _
                · exact (below_drewN (HB.out) _).setCell (by simp) _
                · simpa using hz
              case measure => simp [intOf] <;> omega
          · have hr1' : 0 ≤ r1 := by omega
            by_cases hr2 : 0 < r2
            · go_wp2_with fail
              refine (HCM1.out _).mono ?_
              rintro e w5 ⟨rfl, m5, rfl⟩
              go_wp2_with fail
              refine (HCM2.out _).mono ?_
              rintro e w6 ⟨rfl, m6, rfl⟩
              go_wp2
              go_roundw
              case rel =>
                refine ⟨k + 1, nl, lv, (ValD.truth z), true, ok, by omega, rfl, rfl, rfl, by go_num, ?_, ?_, ?_, ?_, ?_, ?_, ?_⟩
                · rw [foldSt_snoc HXK.out, HFOLD.out]
                  exact step_some HKIND.out (if_neg (fun h => h.elim (fun h => by cases h) (fun h => absurd (HL1.out.2 h) (by omega)))) (if_pos (.inr (HL2.out.1 hr2))) HOK.out
                · exact stc_some (((HC1.out).drewN _).set (by simp [stCells]) _)
                · exact ((HF1.out).drewN _).set _ _
                · exact ((HC0.out).drewN _).setFar (by simp) _
                · exact ((HF0.out).drewN _).set _ _
                · exact (below_drewN (HB.out) _).setCell (by simp) _
                · simpa using hz
              case measure => simp [intOf] <;> omega
            · have hr2' : r2 ≤ 0 := by omega
              go_wp2_with fail
              refine (HCM1.out _).mono ?_
              rintro e w5 ⟨rfl, m5, rfl⟩
              go_wp2_with fail
              refine (HCM2.out _).mono ?_
              rintro e w6 ⟨rfl, m6, rfl⟩
              go_wp2
              go_roundw
              case rel =>
                refine ⟨k + 1, nl, lv, mv, true, ok, by omega, rfl, rfl, rfl, by go_num, ?_, ?_, ?_, ?_, ?_, ?_, ?_⟩
                · rw [foldSt_snoc HXK.out, HFOLD.out]
                  exact step_some HKIND.out (if_neg (fun h => h.elim (fun h => by cases h) (fun h => absurd (HL1.out.2 h) (by omega)))) (if_neg (fun h => h.elim (fun h => by cases h) (fun h => absurd (HL2.out.2 h) (by omega)))) HOK.out
                · exact stc_some (((HC1.out).drewN _).set (by simp [stCells]) _)
                · exact ((HF1.out).drewN _).set _ _
                · exact ((HC0.out).drewN _).setFar (by simp) _
                · exact ((HF0.out).drewN _).set _ _
                · exact (below_drewN (HB.out) _).setCell (by simp) _
                · simpa using hz
              case measure => simp [intOf] <;> omega
      · have HKIND := Lib.hid (show (ValD.text z).cell.kind ≠ 0 by simp [ValD.cell])
        simp only [ValD.val] at d0
        cases ok
        · have HOK := Lib.hid (show (false && (if (ValD.text z).cell.kind = 3 then clean (ValD.text z).cell.s else true)) = false from rfl)
          cases sm
          · go_wp2
            go_roundw
            case rel =>
              refine ⟨k + 1, nl, (ValD.text z), (ValD.text z), true, false, by omega, rfl, rfl, rfl, by go_num, ?_, ?_, ?_, ?_, ?_, ?_, ?_⟩
              · rw [foldSt_snoc HXK.out, HFOLD.out]
                exact step_some HKIND.out (if_pos (.inl rfl)) (if_pos (.inl rfl)) HOK.out
              · exact stc_some ((HC1.out).set (by simp [stCells]) _)
              · exact (HF1.out).set _ _
              · exact (HC0.out).setFar (by simp) _
              · exact (HF0.out).set _ _
              · exact (HB.out).setCell (by simp) _
              · simpa using hz
            case measure => simp [intOf] <;> omega
          · have hcm1 := HCMP.out (ValD.text z) lv
            have hcm2 := HCMP.out (ValD.text z) mv
            have hl1 := cmpC_lt (ValD.text z).cell lv.cell
            have hl2 := cmpC_pos (ValD.text z).cell mv.cell
            generalize cmpC (ValD.text z).cell lv.cell = r1 at *
            generalize cmpC (ValD.text z).cell mv.cell = r2 at *
            have HCM1 := Lib.hid hcm1
            have HCM2 := Lib.hid hcm2
            have HL1 := Lib.hid hl1
            have HL2 := Lib.hid hl2
            clear hcm1 hcm2 hl1 hl2
            by_cases hr1 : r1 < 0
            · by_cases hr2 : 0 < r2
              · go_wp2_with fail
                refine (HCM1.out _).mono ?_
                rintro e w5 ⟨rfl, m5, rfl⟩
                go_wp2_with fail
                refine (HCM2.out _).mono ?_
                rintro e w6 ⟨rfl, m6, rfl⟩
                go_wp2
                go_roundw
                case rel =>
                  refine ⟨k + 1, nl, (ValD.text z), (ValD.text z), true, false, by omega, rfl, rfl, rfl, by go_num, ?_, ?_, ?_, ?_, ?_, ?_, ?_⟩
                  · rw [foldSt_snoc HXK.out, HFOLD.out]
                    exact step_some HKIND.out (if_pos (.inr (HL1.out.1 hr1))) (if_pos (.inr (HL2.out.1 hr2))) HOK.out
                  · exact stc_some (((HC1.out).drewN _).set (by simp [stCells]) _)
                  · exact ((HF1.out).drewN _).set _ _
                  · exact ((HC0.out).drewN _).setFar (by simp) _
                  · exact ((HF0.out).drewN _).set _ _
                  · exact (below_drewN (HB.out) _).setCell (by simp) _
                  · simpa using hz
                case measure => simp [intOf] <;> omega
              · have hr2' : r2 ≤ 0 := by omega
                go_wp2_with fail
                refine (HCM1.out _).mono ?_
                rintro e w5 ⟨rfl, m5, rfl⟩
                go_wp2_with fail
                refine (HCM2.out _).mono ?_
                rintro e w6 ⟨rfl, m6, rfl⟩
                go_wp2
                go_roundw
                case rel =>
                  refine ⟨k + 1, nl, (ValD.text z), mv, true, false, by omega, rfl, rfl, rfl, by go_num, ?_, ?_, ?_, ?_, ?_, ?_, ?_⟩
                  · rw [foldSt_snoc HXK.out, HFOLD.out]
                    exact step_some HKIND.out (if_pos (.inr (HL1.out.1 hr1))) (if_neg (fun h => h.elim (fun h => by cases h) (fun h => absurd (HL2.out.2 h) (by omega)))) HOK.out
                  · exact stc_some (((HC1.out).drewN _).set (by simp [stCells]) _)
                  · exact ((HF1.out).drewN _).set _ _
                  · exact ((HC0.out).drewN _).setFar (by simp) _
                  · exact ((HF0.out).drewN _).set _ _
                  · exact (below_drewN (HB.out) _).setCell (by simp) _
                  · simpa using hz
                case measure => simp [intOf] <;> omega
            · have hr1' : 0 ≤ r1 := by omega
              by_cases hr2 : 0 < r2
              · go_wp2_with fail
                refine (HCM1.out _).mono ?_
                rintro e w5 ⟨rfl, m5, rfl⟩
                go_wp2_with fail
                refine (HCM2.out _).mono ?_
                rintro e w6 ⟨rfl, m6, rfl⟩
                go_wp2
                go_roundw
                case rel =>
                  refine ⟨k + 1, nl, lv, (ValD.text z), true, false, by omega, rfl, rfl, rfl, by go_num, ?_, ?_, ?_, ?_, ?_, ?_, ?_⟩
                  · rw [foldSt_snoc HXK.out, HFOLD.out]
                    exact step_some HKIND.out (if_neg (fun h => h.elim (fun h => by cases h) (fun h => absurd (HL1.out.2 h) (by omega)))) (if_pos (.inr (HL2.out.1 hr2))) HOK.out
                  · exact stc_some (((HC1.out).drewN _).set (by simp [stCells]) _)
                  · exact ((HF1.out).drewN _).set _ _
                  · exact ((HC0.out).drewN _).setFar (by simp) _
                  · exact ((HF0.out).drewN _).set _ _
                  · exact (below_drewN (HB.out) _).setCell (by simp) _
                  · simpa using hz
                case measure => simp [intOf] <;> omega
              · have hr2' : r2 ≤ 0 := by omega
                go_wp2_with fail
                refine (HCM1.out _).mono ?_
                rintro e w5 ⟨rfl, m5, rfl⟩
                go_wp2_with fail
                refine (HCM2.out _).mono ?_
                rintro e w6 ⟨rfl, m6, rfl⟩
                go_wp2
                go_roundw
                case rel =>
                  refine ⟨k + 1, nl, lv, mv, true, false, by omega, rfl, rfl, rfl, by go_num, ?_, ?_, ?_, ?_, ?_, ?_, ?_⟩
                  · rw [foldSt_snoc HXK.out, HFOLD.out]
                    exact step_some HKIND.out (if_neg (fun h => h.elim (fun h => by cases h) (fun h => absurd (HL1.out.2 h) (by omega)))) (if_neg (fun h => h.elim (fun h => by cases h) (fun h => absurd (HL2.out.2 h) (by omega)))) HOK.out
                  · exact stc_some (((HC1.out).drewN _).set (by simp [stCells]) _)
                  · exact ((HF1.out).drewN _).set _ _
                  · exact ((HC0.out).drewN _).setFar (by simp) _
                  · exact ((HF0.out).drewN _).set _ _
                  · exact (below_drewN (HB.out) _).setCell (by simp) _
                  · simpa using hz
                case measure => simp [intOf] <;> omega
        · have hcl := fun W => HCLEAN.out z W HVS.out
          have HOK := Lib.hid (show (true && (if (ValD.text z).cell.kind = 3 then clean (ValD.text z).cell.s else true)) = clean z by rw [if_pos (by rfl)]; rfl)
          unfold CleanPost at hcl
          generalize clean z = cz at *
          have HCL := Lib.hid hcl
          clear hcl
          go_wp2_with fail
          refine (HCL.out _).mono ?_
          rintro e w4 ⟨rfl, hb4⟩
          have HC1W := Lib.hid (HC1.out.below hb4 hz)
          have HF1W := Lib.hid (HF1.out.below hb4 hz)
          have HC0W := Lib.hid (HC0.out.below hb4 (Nat.lt_of_succ_lt hz))
          have HF0W := Lib.hid (HF0.out.below hb4 (Nat.lt_of_succ_lt hz))
          have HBW := Lib.hid (HB.out.trans (hb4.mono HB.out.size))
          have hzw : w.heap.size + 1 < w4.heap.size := Nat.lt_of_lt_of_le hz hb4.size
          have q2w : w4.cell? ⟨w.heap.size + 1, 2, none⟩ = some (.bool sm) := HC1W.out 2 _ rfl
          have f1w := HF1W.out
          unfold Soft at f1w
          clear hb4 q1 q2 f1
          cases sm
          · go_wp2
            go_roundw
            case rel =>
              refine ⟨k + 1, nl, (ValD.text z), (ValD.text z), true, cz, by omega, rfl, rfl, rfl, by go_num, ?_, ?_, ?_, ?_, ?_, ?_, ?_⟩
              · rw [foldSt_snoc HXK.out, HFOLD.out]
                exact step_some HKIND.out (if_pos (.inl rfl)) (if_pos (.inl rfl)) HOK.out
              · exact stc_some ((HC1W.out).set (by simp [stCells]) _)
              · exact (HF1W.out).set _ _
              · exact (HC0W.out).setFar (by simp) _
              · exact (HF0W.out).set _ _
              · exact (HBW.out).setCell (by simp) _
              · simpa using hzw
            case measure => simp [intOf] <;> omega
          · have hcm1 := HCMP.out (ValD.text z) lv
            have hcm2 := HCMP.out (ValD.text z) mv
            have hl1 := cmpC_lt (ValD.text z).cell lv.cell
            have hl2 := cmpC_pos (ValD.text z).cell mv.cell
            generalize cmpC (ValD.text z).cell lv.cell = r1 at *
            generalize cmpC (ValD.text z).cell mv.cell = r2 at *
            have HCM1 := Lib.hid hcm1
            have HCM2 := Lib.hid hcm2
            have HL1 := Lib.hid hl1
            have HL2 := Lib.hid hl2
            clear hcm1 hcm2 hl1 hl2
            by_cases hr1 : r1 < 0
            · by_cases hr2 : 0 < r2
              · go_wp2_with fail
                refine (HCM1.out _).mono ?_
                rintro e w5 ⟨rfl, m5, rfl⟩
                go_wp2_with fail
                refine (HCM2.out _).mono ?_
                rintro e w6 ⟨rfl, m6, rfl⟩
                go_wp2
                go_roundw
                case rel =>
                  refine ⟨k + 1, nl, (ValD.text z), (ValD.text z), true, cz, by omega, rfl, rfl, rfl, by go_num, ?_, ?_, ?_, ?_, ?_, ?_, ?_⟩
                  · rw [foldSt_snoc HXK.out, HFOLD.out]
                    exact step_some HKIND.out (if_pos (.inr (HL1.out.1 hr1))) (if_pos (.inr (HL2.out.1 hr2))) HOK.out
                  · exact stc_some (((HC1W.out).drewN _).set (by simp [stCells]) _)
                  · exact ((HF1W.out).drewN _).set _ _
                  · exact ((HC0W.out).drewN _).setFar (by simp) _
                  · exact ((HF0W.out).drewN _).set _ _
                  · exact (below_drewN (HBW.out) _).setCell (by simp) _
                  · simpa using hzw
                case measure => simp [intOf] <;> omega
              · have hr2' : r2 ≤ 0 := by omega
                go_wp2_with fail
                refine (HCM1.out _).mono ?_
                rintro e w5 ⟨rfl, m5, rfl⟩
                go_wp2_with fail
                refine (HCM2.out _).mono ?_
                rintro e w6 ⟨rfl, m6, rfl⟩
                go_wp2
                go_roundw
                case rel =>
                  refine ⟨k + 1, nl, (ValD.text z), mv, true, cz, by omega, rfl, rfl, rfl, by go_num, ?_, ?_, ?_, ?_, ?_, ?_, ?_⟩
                  · rw [foldSt_snoc HXK.out, HFOLD.out]
                    exact step_some HKIND.out (if_pos (.inr (HL1.out.1 hr1))) (if_neg (fun h => h.elim (fun h => by cases h) (fun h => absurd (HL2.out.2 h) (by omega)))) HOK.out
                  · exact stc_some (((HC1W.out).drewN _).set (by simp [stCells]) _)
                  · exact ((HF1W.out).drewN _).set _ _
                  · exact ((HC0W.out).drewN _).setFar (by simp) _
                  · exact ((HF0W.out).drewN _).set _ _
                  · exact (below_drewN (HBW.out) _).setCell (by simp) _
                  · simpa using hzw
                case measure => simp [intOf] <;> omega
            · have hr1' : 0 ≤ r1 := by omega
              by_cases hr2 : 0 < r2
              · go_wp2_with fail
                refine (HCM1.out _).mono ?_
                rintro e w5 ⟨rfl, m5, rfl⟩
                go_wp2_with fail
                refine (HCM2.out _).mono ?_
                rintro e w6 ⟨rfl, m6, rfl⟩
                go_wp2
                go_roundw
                case rel =>
                  refine ⟨k + 1, nl, lv, (ValD.text z), true, cz, by omega, rfl, rfl, rfl, by go_num, ?_, ?_, ?_, ?_, ?_, ?_, ?_⟩
                  · rw [foldSt_snoc HXK.out, HFOLD.out]
                    exact step_some HKIND.out (if_neg (fun h => h.elim (fun h => by cases h) (fun h => absurd (HL1.out.2 h) (by omega)))) (if_pos (.inr (HL2.out.1 hr2))) HOK.out
                  · exact stc_some (((HC1W.out).drewN _).set (by simp [stCells]) _)
                  · exact ((HF1W.out).drewN _).set _ _
                  · exact ((HC0W.out).drewN _).setFar (by simp) _
                  · exact ((HF0W.out).drewN _).set _ _
                  · exact (below_drewN (HBW.out) _).setCell (by simp) _
                  · simpa using hzw
                case measure => simp [intOf] <;> omega
              · have hr2' : r2 ≤ 0 := by omega
                go_wp2_with fail
                refine (HCM1.out _).mono ?_
                rintro e w5 ⟨rfl, m5, rfl⟩
                go_wp2_with fail
                refine (HCM2.out _).mono ?_
                rintro e w6 ⟨rfl, m6, rfl⟩
                go_wp2
                go_roundw
                case rel =>
                  refine ⟨k + 1, nl, lv, mv, true, cz, by omega, rfl, rfl, rfl, by go_num, ?_, ?_, ?_, ?_, ?_, ?_, ?_⟩
                  · rw [foldSt_snoc HXK.out, HFOLD.out]
                    exact step_some HKIND.out (if_neg (fun h => h.elim (fun h => by cases h) (fun h => absurd (HL1.out.2 h) (by omega)))) (if_neg (fun h => h.elim (fun h => by cases h) (fun h => absurd (HL2.out.2 h) (by omega)))) HOK.out
                  · exact stc_some (((HC1W.out).drewN _).set (by simp [stCells]) _)
                  · exact ((HF1W.out).drewN _).set _ _
                  · exact ((HC0W.out).drewN _).setFar (by simp) _
                  · exact ((HF0W.out).drewN _).set _ _
                  · exact (below_drewN (HBW.out) _).setCell (by simp) _
                  · simpa using hzw
                case measure => simp [intOf] <;> omega
    · have hkn : k = n := by omega
      subst hkn
      have hall : xs.take k = xs := List.take_of_length_le (by have := HXL.out; omega)
      have hfs := HFOLD.out
      rw [hall] at hfs
      have hst := HINV.out
      rw [hall] at hst
      have hall2 : xs.length = k := HXL.out
      cases sm
      · have hres : (statsF xs).cells = #[(.int .i64 (k : Int)), (.int .i64 (nl : Int)), (.bool false), (.bool false), (.int .u8 0), (.int .i64 0), (.string ⟨#[]⟩), (.int .u8 0), (.int .i64 0), (.string ⟨#[]⟩)] := by
          unfold statsF
          rw [hfs]
          simp only [if_pos]
          rw [hall2]
          try rfl
        have HRES := Lib.hid hres
        clear hres hfs hst
        have hc1 : CellsAt wr (w.heap.size + 1) #[(.int .i64 (k : Int)), (.int .i64 (nl : Int)), (.bool false), (.bool false), (.int .u8 0), (.int .i64 0), (.string ⟨#[]⟩), (.int .u8 0), (.int .i64 0), (.string ⟨#[]⟩)] := HC1.out
        have hc0 : CellsAt wr w.heap.size #[(.int .i64 0), (.int .i64 0), (.bool false), (.bool false), (.int .u8 0), (.int .i64 0), (.string ⟨#[]⟩), (.int .u8 0), (.int .i64 0), (.string ⟨#[]⟩)] := HC0.out
        have HC1w := Lib.hid hc1
        have HC0w := Lib.hid hc0
        have HF1w := HF1
        have HF0w := HF0
        have HBw := HB
        have hzw := hz
        have q0 : wr.cell? ⟨w.heap.size + 1, 0, none⟩ = some (.int .i64 (k : Int)) := hc1 0 _ rfl
        have q1 : wr.cell? ⟨w.heap.size + 1, 1, none⟩ = some (.int .i64 (nl : Int)) := hc1 1 _ rfl
        have q2 : wr.cell? ⟨w.heap.size + 1, 2, none⟩ = some (.bool false) := hc1 2 _ rfl
        have q3 : wr.cell? ⟨w.heap.size + 1, 3, none⟩ = some (.bool false) := hc1 3 _ rfl
        have q4 : wr.cell? ⟨w.heap.size + 1, 4, none⟩ = some (.int .u8 0) := hc1 4 _ rfl
        have q5 : wr.cell? ⟨w.heap.size + 1, 5, none⟩ = some (.int .i64 0) := hc1 5 _ rfl
        have q6 : wr.cell? ⟨w.heap.size + 1, 6, none⟩ = some (.string ⟨#[]⟩) := hc1 6 _ rfl
        have q7 : wr.cell? ⟨w.heap.size + 1, 7, none⟩ = some (.int .u8 0) := hc1 7 _ rfl
        have q8 : wr.cell? ⟨w.heap.size + 1, 8, none⟩ = some (.int .i64 0) := hc1 8 _ rfl
        have q9 : wr.cell? ⟨w.heap.size + 1, 9, none⟩ = some (.string ⟨#[]⟩) := hc1 9 _ rfl
        have r0 : wr.cell? ⟨w.heap.size, 0, none⟩ = some (.int .i64 0) := hc0 0 _ rfl
        have r1 : wr.cell? ⟨w.heap.size, 1, none⟩ = some (.int .i64 0) := hc0 1 _ rfl
        have r2 : wr.cell? ⟨w.heap.size, 2, none⟩ = some (.bool false) := hc0 2 _ rfl
        have r3 : wr.cell? ⟨w.heap.size, 3, none⟩ = some (.bool false) := hc0 3 _ rfl
        have r4 : wr.cell? ⟨w.heap.size, 4, none⟩ = some (.int .u8 0) := hc0 4 _ rfl
        have r5 : wr.cell? ⟨w.heap.size, 5, none⟩ = some (.int .i64 0) := hc0 5 _ rfl
        have r6 : wr.cell? ⟨w.heap.size, 6, none⟩ = some (.string ⟨#[]⟩) := hc0 6 _ rfl
        have r7 : wr.cell? ⟨w.heap.size, 7, none⟩ = some (.int .u8 0) := hc0 7 _ rfl
        have r8 : wr.cell? ⟨w.heap.size, 8, none⟩ = some (.int .i64 0) := hc0 8 _ rfl
        have r9 : wr.cell? ⟨w.heap.size, 9, none⟩ = some (.string ⟨#[]⟩) := hc0 9 _ rfl
        have g0 := HF0.out
        have g1 := HF1.out
        unfold Soft at g0 g1
        clear hc1 hc0
        go_wp2
        refine bodyPost_ret (v := .agg #[(.int .i64 (k : Int)), (.int .i64 (nl : Int)), (.bool false), (.bool false), (.int .u8 0), (.int .i64 0), (.string ⟨#[]⟩), (.int .u8 0), (.int .i64 0), (.string ⟨#[]⟩)]) (by simp [results, Try.results8, go_sem, r0, r1, r2, r3, r4, r5, r6, r7, r8, r9]) rfl ?_
        refine ⟨by first | (rw [HRES.out]; done) | (rw [HRES.out]; rfl), ?_⟩
        repeat (with_reducible refine Below.setCell ?_ (by first | exact Nat.le_refl _ | (simp; done) | (simp; omega)) _)
        exact HB.out
      · obtain ⟨hlm, hlk⟩ := hst.least rfl
        obtain ⟨hmm, hmk⟩ := hst.most rfl
        have hlow := hst.low rfl
        have htop := hst.top rfl
        have hstat : statsF xs = (if lv.cell.kind = 3 then (if ok = true then ⟨xs.length, nl, true, (aboveF mv.cell.s 4).2, ⟨3, 0, firstF lv.cell.s 4⟩, if (aboveF mv.cell.s 4).2 = true then ⟨3, 0, (aboveF mv.cell.s 4).1⟩ else zeroCell⟩ else ⟨xs.length, nl, true, false, ⟨3, 0, ByteArray.empty⟩, zeroCell⟩) else ⟨xs.length, nl, true, true, lv.cell, mv.cell⟩) := by
          unfold statsF
          rw [hfs]
          simp only [Bool.true_eq_false, if_false]
        rw [hall2] at hstat
        have HSTAT := Lib.hid hstat
        have hkm : lv.cell.kind = 3 → mv.cell.kind = 3 := by
          intro h3
          have h4 := hlow _ hmm hmk
          have h5 : ¬ mv.cell.kind < lv.cell.kind := fun h => h4 (.inl h)
          cases mv <;> simp_all [ValD.cell]
        have HKM := Lib.hid hkm
        have hsl : ∀ (v : ValD), v.cell ∈ xs → v.cell.s.size ≤ 1000000 := by
          intro v hv
          rw [← HXS.out] at hv
          obtain ⟨u, hu, he⟩ := List.mem_map.1 hv
          rw [← he]; exact HSZ.out u hu
        have HSL := Lib.hid (hsl lv hlm)
        have HSM := Lib.hid (hsl mv hmm)
        have HVC := Lib.hid valueCell
        have HFI := Lib.hid first_calls
        have HAB := Lib.hid above_calls
        have HLK := Lib.hid hlk
        clear hlm hmm hlow htop hstat hkm hsl hmk hlk hfs hst
        rcases lv with _ | z | z | z
        · exact absurd rfl HLK.out
        · have hst2 := HSTAT.out
          rw [if_neg (by simp [ValD.cell])] at hst2
          have HV1 := Lib.hid (fun W => HVC.out (ValD.whole z) W)
          have HV2 := Lib.hid (fun W => HVC.out mv W)
          clear HSTAT HKM HSM HSL
          simp only [ValD.val, ValD.cell, CellD.cells, Bool.false_eq_true, if_true, if_false] at HV1
          unfold CellD.cells at HV2
          generalize mv.val = mvv at *
          generalize mv.cell = mc at *
          obtain ⟨mk, mm, ms⟩ := mc
          have hres : (statsF xs).cells = #[(.int .i64 (k : Int)), (.int .i64 (nl : Int)), (.bool true), (.bool true), (.int .u8 1), (.int .i64 z), (.string ⟨#[]⟩), (.int .u8 mk), (.int .i64 mm), (.string ms)] := by rw [hst2]; rfl
          have HRES := Lib.hid hres
          simp only [ValD.val]
          clear hres hst2
          have hc1 : CellsAt wr (w.heap.size + 1) #[(.int .i64 (k : Int)), (.int .i64 (nl : Int)), (.bool true), (.bool false), (.int .u8 0), (.int .i64 0), (.string ⟨#[]⟩), (.int .u8 0), (.int .i64 0), (.string ⟨#[]⟩)] := HC1.out
          have hc0 : CellsAt wr w.heap.size #[(.int .i64 0), (.int .i64 0), (.bool false), (.bool false), (.int .u8 0), (.int .i64 0), (.string ⟨#[]⟩), (.int .u8 0), (.int .i64 0), (.string ⟨#[]⟩)] := HC0.out
          have HC1w := Lib.hid hc1
          have HC0w := Lib.hid hc0
          have HF1w := HF1
          have HF0w := HF0
          have HBw := HB
          have hzw := hz
          have q0 : wr.cell? ⟨w.heap.size + 1, 0, none⟩ = some (.int .i64 (k : Int)) := hc1 0 _ rfl
          have q1 : wr.cell? ⟨w.heap.size + 1, 1, none⟩ = some (.int .i64 (nl : Int)) := hc1 1 _ rfl
          have q2 : wr.cell? ⟨w.heap.size + 1, 2, none⟩ = some (.bool true) := hc1 2 _ rfl
          have q3 : wr.cell? ⟨w.heap.size + 1, 3, none⟩ = some (.bool false) := hc1 3 _ rfl
          have q4 : wr.cell? ⟨w.heap.size + 1, 4, none⟩ = some (.int .u8 0) := hc1 4 _ rfl
          have q5 : wr.cell? ⟨w.heap.size + 1, 5, none⟩ = some (.int .i64 0) := hc1 5 _ rfl
          have q6 : wr.cell? ⟨w.heap.size + 1, 6, none⟩ = some (.string ⟨#[]⟩) := hc1 6 _ rfl
          have q7 : wr.cell? ⟨w.heap.size + 1, 7, none⟩ = some (.int .u8 0) := hc1 7 _ rfl
          have q8 : wr.cell? ⟨w.heap.size + 1, 8, none⟩ = some (.int .i64 0) := hc1 8 _ rfl
          have q9 : wr.cell? ⟨w.heap.size + 1, 9, none⟩ = some (.string ⟨#[]⟩) := hc1 9 _ rfl
          have r0 : wr.cell? ⟨w.heap.size, 0, none⟩ = some (.int .i64 0) := hc0 0 _ rfl
          have r1 : wr.cell? ⟨w.heap.size, 1, none⟩ = some (.int .i64 0) := hc0 1 _ rfl
          have r2 : wr.cell? ⟨w.heap.size, 2, none⟩ = some (.bool false) := hc0 2 _ rfl
          have r3 : wr.cell? ⟨w.heap.size, 3, none⟩ = some (.bool false) := hc0 3 _ rfl
          have r4 : wr.cell? ⟨w.heap.size, 4, none⟩ = some (.int .u8 0) := hc0 4 _ rfl
          have r5 : wr.cell? ⟨w.heap.size, 5, none⟩ = some (.int .i64 0) := hc0 5 _ rfl
          have r6 : wr.cell? ⟨w.heap.size, 6, none⟩ = some (.string ⟨#[]⟩) := hc0 6 _ rfl
          have r7 : wr.cell? ⟨w.heap.size, 7, none⟩ = some (.int .u8 0) := hc0 7 _ rfl
          have r8 : wr.cell? ⟨w.heap.size, 8, none⟩ = some (.int .i64 0) := hc0 8 _ rfl
          have r9 : wr.cell? ⟨w.heap.size, 9, none⟩ = some (.string ⟨#[]⟩) := hc0 9 _ rfl
          have g0 := HF0.out
          have g1 := HF1.out
          unfold Soft at g0 g1
          clear hc1 hc0
          go_wp2_with fail
          refine (HV1.out _).mono ?_
          rintro e w5 ⟨rfl, hb⟩
          have hc1 : CellsAt w5 (w.heap.size + 1) #[(.int .i64 (k : Int)), (.int .i64 (nl : Int)), (.bool true), (.bool true), (.int .u8 0), (.int .i64 0), (.string ⟨#[]⟩), (.int .u8 0), (.int .i64 0), (.string ⟨#[]⟩)] := by have := ((HC1w.out.set (j := 3) (by simp) (.bool true))).below hb (by simpa using hzw); simpa using this
          have hf1 : Soft w5 (w.heap.size + 1) := ((HF1w.out.set _ _)).below hb (by simpa using hzw)
          have hc0 : CellsAt w5 w.heap.size #[(.int .i64 0), (.int .i64 0), (.bool false), (.bool false), (.int .u8 0), (.int .i64 0), (.string ⟨#[]⟩), (.int .u8 0), (.int .i64 0), (.string ⟨#[]⟩)] := ((HC0w.out.setFar (by simp) _)).below hb (by first | omega | (simp; omega))
          have hf0 : Soft w5 w.heap.size := ((HF0w.out.set _ _)).below hb (by first | omega | (simp; omega))
          have hbb : Below w.heap.size w w5 := ((HBw.out.setCell (by simp) _)).trans (hb.mono (by first | omega | (simp; omega)))
          have hzw5 : w.heap.size + 1 < w5.heap.size := Nat.lt_of_lt_of_le (by simpa using hzw) hb.size
          have HC1w5 := Lib.hid hc1
          have HF1w5 := Lib.hid hf1
          have HC0w5 := Lib.hid hc0
          have HF0w5 := Lib.hid hf0
          have HBw5 := Lib.hid hbb
          try clear q0 q1 q2 q3 q4 q5 q6 q7 q8 q9 r0 r1 r2 r3 r4 r5 r6 r7 r8 r9 g0 g1
          have q0 : w5.cell? ⟨w.heap.size + 1, 0, none⟩ = some (.int .i64 (k : Int)) := hc1 0 _ rfl
          have q1 : w5.cell? ⟨w.heap.size + 1, 1, none⟩ = some (.int .i64 (nl : Int)) := hc1 1 _ rfl
          have q2 : w5.cell? ⟨w.heap.size + 1, 2, none⟩ = some (.bool true) := hc1 2 _ rfl
          have q3 : w5.cell? ⟨w.heap.size + 1, 3, none⟩ = some (.bool true) := hc1 3 _ rfl
          have q4 : w5.cell? ⟨w.heap.size + 1, 4, none⟩ = some (.int .u8 0) := hc1 4 _ rfl
          have q5 : w5.cell? ⟨w.heap.size + 1, 5, none⟩ = some (.int .i64 0) := hc1 5 _ rfl
          have q6 : w5.cell? ⟨w.heap.size + 1, 6, none⟩ = some (.string ⟨#[]⟩) := hc1 6 _ rfl
          have q7 : w5.cell? ⟨w.heap.size + 1, 7, none⟩ = some (.int .u8 0) := hc1 7 _ rfl
          have q8 : w5.cell? ⟨w.heap.size + 1, 8, none⟩ = some (.int .i64 0) := hc1 8 _ rfl
          have q9 : w5.cell? ⟨w.heap.size + 1, 9, none⟩ = some (.string ⟨#[]⟩) := hc1 9 _ rfl
          have r0 : w5.cell? ⟨w.heap.size, 0, none⟩ = some (.int .i64 0) := hc0 0 _ rfl
          have r1 : w5.cell? ⟨w.heap.size, 1, none⟩ = some (.int .i64 0) := hc0 1 _ rfl
          have r2 : w5.cell? ⟨w.heap.size, 2, none⟩ = some (.bool false) := hc0 2 _ rfl
          have r3 : w5.cell? ⟨w.heap.size, 3, none⟩ = some (.bool false) := hc0 3 _ rfl
          have r4 : w5.cell? ⟨w.heap.size, 4, none⟩ = some (.int .u8 0) := hc0 4 _ rfl
          have r5 : w5.cell? ⟨w.heap.size, 5, none⟩ = some (.int .i64 0) := hc0 5 _ rfl
          have r6 : w5.cell? ⟨w.heap.size, 6, none⟩ = some (.string ⟨#[]⟩) := hc0 6 _ rfl
          have r7 : w5.cell? ⟨w.heap.size, 7, none⟩ = some (.int .u8 0) := hc0 7 _ rfl
          have r8 : w5.cell? ⟨w.heap.size, 8, none⟩ = some (.int .i64 0) := hc0 8 _ rfl
          have r9 : w5.cell? ⟨w.heap.size, 9, none⟩ = some (.string ⟨#[]⟩) := hc0 9 _ rfl
          have g0 := hf0
          have g1 := hf1
          unfold Soft at g0 g1
          clear hc1 hf1 hc0 hf0 hbb hb
          go_wp2_with fail
          refine (HV2.out _).mono ?_
          rintro e w6 ⟨rfl, hb⟩
          have hc1 : CellsAt w6 (w.heap.size + 1) #[(.int .i64 (k : Int)), (.int .i64 (nl : Int)), (.bool true), (.bool true), (.int .u8 1), (.int .i64 z), (.string ⟨#[]⟩), (.int .u8 0), (.int .i64 0), (.string ⟨#[]⟩)] := by have := ((((HC1w5.out.set (j := 4) (by simp) (.int .u8 1)).set (j := 5) (by simp) (.int .i64 z)).set (j := 6) (by simp) (.string ⟨#[]⟩))).below hb (by simpa using hzw5); simpa using this
          have hf1 : Soft w6 (w.heap.size + 1) := ((((HF1w5.out.set _ _).set _ _).set _ _)).below hb (by simpa using hzw5)
          have hc0 : CellsAt w6 w.heap.size #[(.int .i64 0), (.int .i64 0), (.bool false), (.bool false), (.int .u8 0), (.int .i64 0), (.string ⟨#[]⟩), (.int .u8 0), (.int .i64 0), (.string ⟨#[]⟩)] := ((((HC0w5.out.setFar (by simp) _).setFar (by simp) _).setFar (by simp) _)).below hb (by first | omega | (simp; omega))
          have hf0 : Soft w6 w.heap.size := ((((HF0w5.out.set _ _).set _ _).set _ _)).below hb (by first | omega | (simp; omega))
          have hbb : Below w.heap.size w w6 := ((((HBw5.out.setCell (by simp) _).setCell (by simp) _).setCell (by simp) _)).trans (hb.mono (by first | omega | (simp; omega)))
          have hzw6 : w.heap.size + 1 < w6.heap.size := Nat.lt_of_lt_of_le (by simpa using hzw5) hb.size
          have HC1w6 := Lib.hid hc1
          have HF1w6 := Lib.hid hf1
          have HC0w6 := Lib.hid hc0
          have HF0w6 := Lib.hid hf0
          have HBw6 := Lib.hid hbb
          try clear q0 q1 q2 q3 q4 q5 q6 q7 q8 q9 r0 r1 r2 r3 r4 r5 r6 r7 r8 r9 g0 g1
          have q0 : w6.cell? ⟨w.heap.size + 1, 0, none⟩ = some (.int .i64 (k : Int)) := hc1 0 _ rfl
          have q1 : w6.cell? ⟨w.heap.size + 1, 1, none⟩ = some (.int .i64 (nl : Int)) := hc1 1 _ rfl
          have q2 : w6.cell? ⟨w.heap.size + 1, 2, none⟩ = some (.bool true) := hc1 2 _ rfl
          have q3 : w6.cell? ⟨w.heap.size + 1, 3, none⟩ = some (.bool true) := hc1 3 _ rfl
          have q4 : w6.cell? ⟨w.heap.size + 1, 4, none⟩ = some (.int .u8 1) := hc1 4 _ rfl
          have q5 : w6.cell? ⟨w.heap.size + 1, 5, none⟩ = some (.int .i64 z) := hc1 5 _ rfl
          have q6 : w6.cell? ⟨w.heap.size + 1, 6, none⟩ = some (.string ⟨#[]⟩) := hc1 6 _ rfl
          have q7 : w6.cell? ⟨w.heap.size + 1, 7, none⟩ = some (.int .u8 0) := hc1 7 _ rfl
          have q8 : w6.cell? ⟨w.heap.size + 1, 8, none⟩ = some (.int .i64 0) := hc1 8 _ rfl
          have q9 : w6.cell? ⟨w.heap.size + 1, 9, none⟩ = some (.string ⟨#[]⟩) := hc1 9 _ rfl
          have r0 : w6.cell? ⟨w.heap.size, 0, none⟩ = some (.int .i64 0) := hc0 0 _ rfl
          have r1 : w6.cell? ⟨w.heap.size, 1, none⟩ = some (.int .i64 0) := hc0 1 _ rfl
          have r2 : w6.cell? ⟨w.heap.size, 2, none⟩ = some (.bool false) := hc0 2 _ rfl
          have r3 : w6.cell? ⟨w.heap.size, 3, none⟩ = some (.bool false) := hc0 3 _ rfl
          have r4 : w6.cell? ⟨w.heap.size, 4, none⟩ = some (.int .u8 0) := hc0 4 _ rfl
          have r5 : w6.cell? ⟨w.heap.size, 5, none⟩ = some (.int .i64 0) := hc0 5 _ rfl
          have r6 : w6.cell? ⟨w.heap.size, 6, none⟩ = some (.string ⟨#[]⟩) := hc0 6 _ rfl
          have r7 : w6.cell? ⟨w.heap.size, 7, none⟩ = some (.int .u8 0) := hc0 7 _ rfl
          have r8 : w6.cell? ⟨w.heap.size, 8, none⟩ = some (.int .i64 0) := hc0 8 _ rfl
          have r9 : w6.cell? ⟨w.heap.size, 9, none⟩ = some (.string ⟨#[]⟩) := hc0 9 _ rfl
          have g0 := hf0
          have g1 := hf1
          unfold Soft at g0 g1
          clear hc1 hf1 hc0 hf0 hbb hb
          go_wp2
          refine bodyPost_ret (v := .agg #[(.int .i64 (k : Int)), (.int .i64 (nl : Int)), (.bool true), (.bool true), (.int .u8 1), (.int .i64 z), (.string ⟨#[]⟩), (.int .u8 mk), (.int .i64 mm), (.string ms)]) (by simp [results, Try.results8, go_sem, r0, r1, r2, r3, r4, r5, r6, r7, r8, r9]) rfl ?_
          refine ⟨by first | (rw [HRES.out]; done) | (rw [HRES.out]; rfl), ?_⟩
          repeat (with_reducible refine Below.setCell ?_ (by first | exact Nat.le_refl _ | (simp; done) | (simp; omega)) _)
          exact HBw6.out
        · cases z
          · have hst2 := HSTAT.out
            rw [if_neg (by simp [ValD.cell])] at hst2
            have HV1 := Lib.hid (fun W => HVC.out (ValD.truth false) W)
            have HV2 := Lib.hid (fun W => HVC.out mv W)
            clear HSTAT HKM HSM HSL
            simp only [ValD.val, ValD.cell, CellD.cells, Bool.false_eq_true, if_true, if_false] at HV1
            unfold CellD.cells at HV2
            generalize mv.val = mvv at *
            generalize mv.cell = mc at *
            obtain ⟨mk, mm, ms⟩ := mc
            have hres : (statsF xs).cells = #[(.int .i64 (k : Int)), (.int .i64 (nl : Int)), (.bool true), (.bool true), (.int .u8 2), (.int .i64 0), (.string ⟨#[]⟩), (.int .u8 mk), (.int .i64 mm), (.string ms)] := by rw [hst2]; rfl
            have HRES := Lib.hid hres
            simp only [ValD.val]
            clear hres hst2
            have hc1 : CellsAt wr (w.heap.size + 1) #[(.int .i64 (k : Int)), (.int .i64 (nl : Int)), (.bool true), (.bool false), (.int .u8 0), (.int .i64 0), (.string ⟨#[]⟩), (.int .u8 0), (.int .i64 0), (.string ⟨#[]⟩)] := HC1.out
            have hc0 : CellsAt wr w.heap.size #[(.int .i64 0), (.int .i64 0), (.bool false), (.bool false), (.int .u8 0), (.int .i64 0), (.string ⟨#[]⟩), (.int .u8 0), (.int .i64 0), (.string ⟨#[]⟩)] := HC0.out
            have HC1w := Lib.hid hc1
            have HC0w := Lib.hid hc0
            have HF1w := HF1
            have HF0w := HF0
            have HBw := HB
            have hzw := hz
            have q0 : wr.cell? ⟨w.heap.size + 1, 0, none⟩ = some (.int .i64 (k : Int)) := hc1 0 _ rfl
            have q1 : wr.cell? ⟨w.heap.size + 1, 1, none⟩ = some (.int .i64 (nl : Int)) := hc1 1 _ rfl
            have q2 : wr.cell? ⟨w.heap.size + 1, 2, none⟩ = some (.bool true) := hc1 2 _ rfl
            have q3 : wr.cell? ⟨w.heap.size + 1, 3, none⟩ = some (.bool false) := hc1 3 _ rfl
            have q4 : wr.cell? ⟨w.heap.size + 1, 4, none⟩ = some (.int .u8 0) := hc1 4 _ rfl
            have q5 : wr.cell? ⟨w.heap.size + 1, 5, none⟩ = some (.int .i64 0) := hc1 5 _ rfl
            have q6 : wr.cell? ⟨w.heap.size + 1, 6, none⟩ = some (.string ⟨#[]⟩) := hc1 6 _ rfl
            have q7 : wr.cell? ⟨w.heap.size + 1, 7, none⟩ = some (.int .u8 0) := hc1 7 _ rfl
            have q8 : wr.cell? ⟨w.heap.size + 1, 8, none⟩ = some (.int .i64 0) := hc1 8 _ rfl
            have q9 : wr.cell? ⟨w.heap.size + 1, 9, none⟩ = some (.string ⟨#[]⟩) := hc1 9 _ rfl
            have r0 : wr.cell? ⟨w.heap.size, 0, none⟩ = some (.int .i64 0) := hc0 0 _ rfl
            have r1 : wr.cell? ⟨w.heap.size, 1, none⟩ = some (.int .i64 0) := hc0 1 _ rfl
            have r2 : wr.cell? ⟨w.heap.size, 2, none⟩ = some (.bool false) := hc0 2 _ rfl
            have r3 : wr.cell? ⟨w.heap.size, 3, none⟩ = some (.bool false) := hc0 3 _ rfl
            have r4 : wr.cell? ⟨w.heap.size, 4, none⟩ = some (.int .u8 0) := hc0 4 _ rfl
            have r5 : wr.cell? ⟨w.heap.size, 5, none⟩ = some (.int .i64 0) := hc0 5 _ rfl
            have r6 : wr.cell? ⟨w.heap.size, 6, none⟩ = some (.string ⟨#[]⟩) := hc0 6 _ rfl
            have r7 : wr.cell? ⟨w.heap.size, 7, none⟩ = some (.int .u8 0) := hc0 7 _ rfl
            have r8 : wr.cell? ⟨w.heap.size, 8, none⟩ = some (.int .i64 0) := hc0 8 _ rfl
            have r9 : wr.cell? ⟨w.heap.size, 9, none⟩ = some (.string ⟨#[]⟩) := hc0 9 _ rfl
            have g0 := HF0.out
            have g1 := HF1.out
            unfold Soft at g0 g1
            clear hc1 hc0
            go_wp2_with fail
            refine (HV1.out _).mono ?_
            rintro e w5 ⟨rfl, hb⟩
            have hc1 : CellsAt w5 (w.heap.size + 1) #[(.int .i64 (k : Int)), (.int .i64 (nl : Int)), (.bool true), (.bool true), (.int .u8 0), (.int .i64 0), (.string ⟨#[]⟩), (.int .u8 0), (.int .i64 0), (.string ⟨#[]⟩)] := by have := ((HC1w.out.set (j := 3) (by simp) (.bool true))).below hb (by simpa using hzw); simpa using this
            have hf1 : Soft w5 (w.heap.size + 1) := ((HF1w.out.set _ _)).below hb (by simpa using hzw)
            have hc0 : CellsAt w5 w.heap.size #[(.int .i64 0), (.int .i64 0), (.bool false), (.bool false), (.int .u8 0), (.int .i64 0), (.string ⟨#[]⟩), (.int .u8 0), (.int .i64 0), (.string ⟨#[]⟩)] := ((HC0w.out.setFar (by simp) _)).below hb (by first | omega | (simp; omega))
            have hf0 : Soft w5 w.heap.size := ((HF0w.out.set _ _)).below hb (by first | omega | (simp; omega))
            have hbb : Below w.heap.size w w5 := ((HBw.out.setCell (by simp) _)).trans (hb.mono (by first | omega | (simp; omega)))
            have hzw5 : w.heap.size + 1 < w5.heap.size := Nat.lt_of_lt_of_le (by simpa using hzw) hb.size
            have HC1w5 := Lib.hid hc1
            have HF1w5 := Lib.hid hf1
            have HC0w5 := Lib.hid hc0
            have HF0w5 := Lib.hid hf0
            have HBw5 := Lib.hid hbb
            try clear q0 q1 q2 q3 q4 q5 q6 q7 q8 q9 r0 r1 r2 r3 r4 r5 r6 r7 r8 r9 g0 g1
            have q0 : w5.cell? ⟨w.heap.size + 1, 0, none⟩ = some (.int .i64 (k : Int)) := hc1 0 _ rfl
            have q1 : w5.cell? ⟨w.heap.size + 1, 1, none⟩ = some (.int .i64 (nl : Int)) := hc1 1 _ rfl
            have q2 : w5.cell? ⟨w.heap.size + 1, 2, none⟩ = some (.bool true) := hc1 2 _ rfl
            have q3 : w5.cell? ⟨w.heap.size + 1, 3, none⟩ = some (.bool true) := hc1 3 _ rfl
            have q4 : w5.cell? ⟨w.heap.size + 1, 4, none⟩ = some (.int .u8 0) := hc1 4 _ rfl
            have q5 : w5.cell? ⟨w.heap.size + 1, 5, none⟩ = some (.int .i64 0) := hc1 5 _ rfl
            have q6 : w5.cell? ⟨w.heap.size + 1, 6, none⟩ = some (.string ⟨#[]⟩) := hc1 6 _ rfl
            have q7 : w5.cell? ⟨w.heap.size + 1, 7, none⟩ = some (.int .u8 0) := hc1 7 _ rfl
            have q8 : w5.cell? ⟨w.heap.size + 1, 8, none⟩ = some (.int .i64 0) := hc1 8 _ rfl
            have q9 : w5.cell? ⟨w.heap.size + 1, 9, none⟩ = some (.string ⟨#[]⟩) := hc1 9 _ rfl
            have r0 : w5.cell? ⟨w.heap.size, 0, none⟩ = some (.int .i64 0) := hc0 0 _ rfl
            have r1 : w5.cell? ⟨w.heap.size, 1, none⟩ = some (.int .i64 0) := hc0 1 _ rfl
            have r2 : w5.cell? ⟨w.heap.size, 2, none⟩ = some (.bool false) := hc0 2 _ rfl
            have r3 : w5.cell? ⟨w.heap.size, 3, none⟩ = some (.bool false) := hc0 3 _ rfl
            have r4 : w5.cell? ⟨w.heap.size, 4, none⟩ = some (.int .u8 0) := hc0 4 _ rfl
            have r5 : w5.cell? ⟨w.heap.size, 5, none⟩ = some (.int .i64 0) := hc0 5 _ rfl
            have r6 : w5.cell? ⟨w.heap.size, 6, none⟩ = some (.string ⟨#[]⟩) := hc0 6 _ rfl
            have r7 : w5.cell? ⟨w.heap.size, 7, none⟩ = some (.int .u8 0) := hc0 7 _ rfl
            have r8 : w5.cell? ⟨w.heap.size, 8, none⟩ = some (.int .i64 0) := hc0 8 _ rfl
            have r9 : w5.cell? ⟨w.heap.size, 9, none⟩ = some (.string ⟨#[]⟩) := hc0 9 _ rfl
            have g0 := hf0
            have g1 := hf1
            unfold Soft at g0 g1
            clear hc1 hf1 hc0 hf0 hbb hb
            go_wp2_with fail
            refine (HV2.out _).mono ?_
            rintro e w6 ⟨rfl, hb⟩
            have hc1 : CellsAt w6 (w.heap.size + 1) #[(.int .i64 (k : Int)), (.int .i64 (nl : Int)), (.bool true), (.bool true), (.int .u8 2), (.int .i64 0), (.string ⟨#[]⟩), (.int .u8 0), (.int .i64 0), (.string ⟨#[]⟩)] := by have := ((((HC1w5.out.set (j := 4) (by simp) (.int .u8 2)).set (j := 5) (by simp) (.int .i64 0)).set (j := 6) (by simp) (.string ⟨#[]⟩))).below hb (by simpa using hzw5); simpa using this
            have hf1 : Soft w6 (w.heap.size + 1) := ((((HF1w5.out.set _ _).set _ _).set _ _)).below hb (by simpa using hzw5)
            have hc0 : CellsAt w6 w.heap.size #[(.int .i64 0), (.int .i64 0), (.bool false), (.bool false), (.int .u8 0), (.int .i64 0), (.string ⟨#[]⟩), (.int .u8 0), (.int .i64 0), (.string ⟨#[]⟩)] := ((((HC0w5.out.setFar (by simp) _).setFar (by simp) _).setFar (by simp) _)).below hb (by first | omega | (simp; omega))
            have hf0 : Soft w6 w.heap.size := ((((HF0w5.out.set _ _).set _ _).set _ _)).below hb (by first | omega | (simp; omega))
            have hbb : Below w.heap.size w w6 := ((((HBw5.out.setCell (by simp) _).setCell (by simp) _).setCell (by simp) _)).trans (hb.mono (by first | omega | (simp; omega)))
            have hzw6 : w.heap.size + 1 < w6.heap.size := Nat.lt_of_lt_of_le (by simpa using hzw5) hb.size
            have HC1w6 := Lib.hid hc1
            have HF1w6 := Lib.hid hf1
            have HC0w6 := Lib.hid hc0
            have HF0w6 := Lib.hid hf0
            have HBw6 := Lib.hid hbb
            try clear q0 q1 q2 q3 q4 q5 q6 q7 q8 q9 r0 r1 r2 r3 r4 r5 r6 r7 r8 r9 g0 g1
            have q0 : w6.cell? ⟨w.heap.size + 1, 0, none⟩ = some (.int .i64 (k : Int)) := hc1 0 _ rfl
            have q1 : w6.cell? ⟨w.heap.size + 1, 1, none⟩ = some (.int .i64 (nl : Int)) := hc1 1 _ rfl
            have q2 : w6.cell? ⟨w.heap.size + 1, 2, none⟩ = some (.bool true) := hc1 2 _ rfl
            have q3 : w6.cell? ⟨w.heap.size + 1, 3, none⟩ = some (.bool true) := hc1 3 _ rfl
            have q4 : w6.cell? ⟨w.heap.size + 1, 4, none⟩ = some (.int .u8 2) := hc1 4 _ rfl
            have q5 : w6.cell? ⟨w.heap.size + 1, 5, none⟩ = some (.int .i64 0) := hc1 5 _ rfl
            have q6 : w6.cell? ⟨w.heap.size + 1, 6, none⟩ = some (.string ⟨#[]⟩) := hc1 6 _ rfl
            have q7 : w6.cell? ⟨w.heap.size + 1, 7, none⟩ = some (.int .u8 0) := hc1 7 _ rfl
            have q8 : w6.cell? ⟨w.heap.size + 1, 8, none⟩ = some (.int .i64 0) := hc1 8 _ rfl
            have q9 : w6.cell? ⟨w.heap.size + 1, 9, none⟩ = some (.string ⟨#[]⟩) := hc1 9 _ rfl
            have r0 : w6.cell? ⟨w.heap.size, 0, none⟩ = some (.int .i64 0) := hc0 0 _ rfl
            have r1 : w6.cell? ⟨w.heap.size, 1, none⟩ = some (.int .i64 0) := hc0 1 _ rfl
            have r2 : w6.cell? ⟨w.heap.size, 2, none⟩ = some (.bool false) := hc0 2 _ rfl
            have r3 : w6.cell? ⟨w.heap.size, 3, none⟩ = some (.bool false) := hc0 3 _ rfl
            have r4 : w6.cell? ⟨w.heap.size, 4, none⟩ = some (.int .u8 0) := hc0 4 _ rfl
            have r5 : w6.cell? ⟨w.heap.size, 5, none⟩ = some (.int .i64 0) := hc0 5 _ rfl
            have r6 : w6.cell? ⟨w.heap.size, 6, none⟩ = some (.string ⟨#[]⟩) := hc0 6 _ rfl
            have r7 : w6.cell? ⟨w.heap.size, 7, none⟩ = some (.int .u8 0) := hc0 7 _ rfl
            have r8 : w6.cell? ⟨w.heap.size, 8, none⟩ = some (.int .i64 0) := hc0 8 _ rfl
            have r9 : w6.cell? ⟨w.heap.size, 9, none⟩ = some (.string ⟨#[]⟩) := hc0 9 _ rfl
            have g0 := hf0
            have g1 := hf1
            unfold Soft at g0 g1
            clear hc1 hf1 hc0 hf0 hbb hb
            go_wp2
            refine bodyPost_ret (v := .agg #[(.int .i64 (k : Int)), (.int .i64 (nl : Int)), (.bool true), (.bool true), (.int .u8 2), (.int .i64 0), (.string ⟨#[]⟩), (.int .u8 mk), (.int .i64 mm), (.string ms)]) (by simp [results, Try.results8, go_sem, r0, r1, r2, r3, r4, r5, r6, r7, r8, r9]) rfl ?_
            refine ⟨by first | (rw [HRES.out]; done) | (rw [HRES.out]; rfl), ?_⟩
            repeat (with_reducible refine Below.setCell ?_ (by first | exact Nat.le_refl _ | (simp; done) | (simp; omega)) _)
            exact HBw6.out
          · have hst2 := HSTAT.out
            rw [if_neg (by simp [ValD.cell])] at hst2
            have HV1 := Lib.hid (fun W => HVC.out (ValD.truth true) W)
            have HV2 := Lib.hid (fun W => HVC.out mv W)
            clear HSTAT HKM HSM HSL
            simp only [ValD.val, ValD.cell, CellD.cells, Bool.false_eq_true, if_true, if_false] at HV1
            unfold CellD.cells at HV2
            generalize mv.val = mvv at *
            generalize mv.cell = mc at *
            obtain ⟨mk, mm, ms⟩ := mc
            have hres : (statsF xs).cells = #[(.int .i64 (k : Int)), (.int .i64 (nl : Int)), (.bool true), (.bool true), (.int .u8 2), (.int .i64 1), (.string ⟨#[]⟩), (.int .u8 mk), (.int .i64 mm), (.string ms)] := by rw [hst2]; rfl
            have HRES := Lib.hid hres
            simp only [ValD.val]
            clear hres hst2
            have hc1 : CellsAt wr (w.heap.size + 1) #[(.int .i64 (k : Int)), (.int .i64 (nl : Int)), (.bool true), (.bool false), (.int .u8 0), (.int .i64 0), (.string ⟨#[]⟩), (.int .u8 0), (.int .i64 0), (.string ⟨#[]⟩)] := HC1.out
            have hc0 : CellsAt wr w.heap.size #[(.int .i64 0), (.int .i64 0), (.bool false), (.bool false), (.int .u8 0), (.int .i64 0), (.string ⟨#[]⟩), (.int .u8 0), (.int .i64 0), (.string ⟨#[]⟩)] := HC0.out
            have HC1w := Lib.hid hc1
            have HC0w := Lib.hid hc0
            have HF1w := HF1
            have HF0w := HF0
            have HBw := HB
            have hzw := hz
            have q0 : wr.cell? ⟨w.heap.size + 1, 0, none⟩ = some (.int .i64 (k : Int)) := hc1 0 _ rfl
            have q1 : wr.cell? ⟨w.heap.size + 1, 1, none⟩ = some (.int .i64 (nl : Int)) := hc1 1 _ rfl
            have q2 : wr.cell? ⟨w.heap.size + 1, 2, none⟩ = some (.bool true) := hc1 2 _ rfl
            have q3 : wr.cell? ⟨w.heap.size + 1, 3, none⟩ = some (.bool false) := hc1 3 _ rfl
            have q4 : wr.cell? ⟨w.heap.size + 1, 4, none⟩ = some (.int .u8 0) := hc1 4 _ rfl
            have q5 : wr.cell? ⟨w.heap.size + 1, 5, none⟩ = some (.int .i64 0) := hc1 5 _ rfl
            have q6 : wr.cell? ⟨w.heap.size + 1, 6, none⟩ = some (.string ⟨#[]⟩) := hc1 6 _ rfl
            have q7 : wr.cell? ⟨w.heap.size + 1, 7, none⟩ = some (.int .u8 0) := hc1 7 _ rfl
            have q8 : wr.cell? ⟨w.heap.size + 1, 8, none⟩ = some (.int .i64 0) := hc1 8 _ rfl
            have q9 : wr.cell? ⟨w.heap.size + 1, 9, none⟩ = some (.string ⟨#[]⟩) := hc1 9 _ rfl
            have r0 : wr.cell? ⟨w.heap.size, 0, none⟩ = some (.int .i64 0) := hc0 0 _ rfl
            have r1 : wr.cell? ⟨w.heap.size, 1, none⟩ = some (.int .i64 0) := hc0 1 _ rfl
            have r2 : wr.cell? ⟨w.heap.size, 2, none⟩ = some (.bool false) := hc0 2 _ rfl
            have r3 : wr.cell? ⟨w.heap.size, 3, none⟩ = some (.bool false) := hc0 3 _ rfl
            have r4 : wr.cell? ⟨w.heap.size, 4, none⟩ = some (.int .u8 0) := hc0 4 _ rfl
            have r5 : wr.cell? ⟨w.heap.size, 5, none⟩ = some (.int .i64 0) := hc0 5 _ rfl
            have r6 : wr.cell? ⟨w.heap.size, 6, none⟩ = some (.string ⟨#[]⟩) := hc0 6 _ rfl
            have r7 : wr.cell? ⟨w.heap.size, 7, none⟩ = some (.int .u8 0) := hc0 7 _ rfl
            have r8 : wr.cell? ⟨w.heap.size, 8, none⟩ = some (.int .i64 0) := hc0 8 _ rfl
            have r9 : wr.cell? ⟨w.heap.size, 9, none⟩ = some (.string ⟨#[]⟩) := hc0 9 _ rfl
            have g0 := HF0.out
            have g1 := HF1.out
            unfold Soft at g0 g1
            clear hc1 hc0
            go_wp2_with fail
            refine (HV1.out _).mono ?_
            rintro e w5 ⟨rfl, hb⟩
            have hc1 : CellsAt w5 (w.heap.size + 1) #[(.int .i64 (k : Int)), (.int .i64 (nl : Int)), (.bool true), (.bool true), (.int .u8 0), (.int .i64 0), (.string ⟨#[]⟩), (.int .u8 0), (.int .i64 0), (.string ⟨#[]⟩)] := by have := ((HC1w.out.set (j := 3) (by simp) (.bool true))).below hb (by simpa using hzw); simpa using this
            have hf1 : Soft w5 (w.heap.size + 1) := ((HF1w.out.set _ _)).below hb (by simpa using hzw)
            have hc0 : CellsAt w5 w.heap.size #[(.int .i64 0), (.int .i64 0), (.bool false), (.bool false), (.int .u8 0), (.int .i64 0), (.string ⟨#[]⟩), (.int .u8 0), (.int .i64 0), (.string ⟨#[]⟩)] := ((HC0w.out.setFar (by simp) _)).below hb (by first | omega | (simp; omega))
            have hf0 : Soft w5 w.heap.size := ((HF0w.out.set _ _)).below hb (by first | omega | (simp; omega))
            have hbb : Below w.heap.size w w5 := ((HBw.out.setCell (by simp) _)).trans (hb.mono (by first | omega | (simp; omega)))
            have hzw5 : w.heap.size + 1 < w5.heap.size := Nat.lt_of_lt_of_le (by simpa using hzw) hb.size
            have HC1w5 := Lib.hid hc1
            have HF1w5 := Lib.hid hf1
            have HC0w5 := Lib.hid hc0
            have HF0w5 := Lib.hid hf0
            have HBw5 := Lib.hid hbb
            try clear q0 q1 q2 q3 q4 q5 q6 q7 q8 q9 r0 r1 r2 r3 r4 r5 r6 r7 r8 r9 g0 g1
            have q0 : w5.cell? ⟨w.heap.size + 1, 0, none⟩ = some (.int .i64 (k : Int)) := hc1 0 _ rfl
            have q1 : w5.cell? ⟨w.heap.size + 1, 1, none⟩ = some (.int .i64 (nl : Int)) := hc1 1 _ rfl
            have q2 : w5.cell? ⟨w.heap.size + 1, 2, none⟩ = some (.bool true) := hc1 2 _ rfl
            have q3 : w5.cell? ⟨w.heap.size + 1, 3, none⟩ = some (.bool true) := hc1 3 _ rfl
            have q4 : w5.cell? ⟨w.heap.size + 1, 4, none⟩ = some (.int .u8 0) := hc1 4 _ rfl
            have q5 : w5.cell? ⟨w.heap.size + 1, 5, none⟩ = some (.int .i64 0) := hc1 5 _ rfl
            have q6 : w5.cell? ⟨w.heap.size + 1, 6, none⟩ = some (.string ⟨#[]⟩) := hc1 6 _ rfl
            have q7 : w5.cell? ⟨w.heap.size + 1, 7, none⟩ = some (.int .u8 0) := hc1 7 _ rfl
            have q8 : w5.cell? ⟨w.heap.size + 1, 8, none⟩ = some (.int .i64 0) := hc1 8 _ rfl
            have q9 : w5.cell? ⟨w.heap.size + 1, 9, none⟩ = some (.string ⟨#[]⟩) := hc1 9 _ rfl
            have r0 : w5.cell? ⟨w.heap.size, 0, none⟩ = some (.int .i64 0) := hc0 0 _ rfl
            have r1 : w5.cell? ⟨w.heap.size, 1, none⟩ = some (.int .i64 0) := hc0 1 _ rfl
            have r2 : w5.cell? ⟨w.heap.size, 2, none⟩ = some (.bool false) := hc0 2 _ rfl
            have r3 : w5.cell? ⟨w.heap.size, 3, none⟩ = some (.bool false) := hc0 3 _ rfl
            have r4 : w5.cell? ⟨w.heap.size, 4, none⟩ = some (.int .u8 0) := hc0 4 _ rfl
            have r5 : w5.cell? ⟨w.heap.size, 5, none⟩ = some (.int .i64 0) := hc0 5 _ rfl
            have r6 : w5.cell? ⟨w.heap.size, 6, none⟩ = some (.string ⟨#[]⟩) := hc0 6 _ rfl
            have r7 : w5.cell? ⟨w.heap.size, 7, none⟩ = some (.int .u8 0) := hc0 7 _ rfl
            have r8 : w5.cell? ⟨w.heap.size, 8, none⟩ = some (.int .i64 0) := hc0 8 _ rfl
            have r9 : w5.cell? ⟨w.heap.size, 9, none⟩ = some (.string ⟨#[]⟩) := hc0 9 _ rfl
            have g0 := hf0
            have g1 := hf1
            unfold Soft at g0 g1
            clear hc1 hf1 hc0 hf0 hbb hb
            go_wp2_with fail
            refine (HV2.out _).mono ?_
            rintro e w6 ⟨rfl, hb⟩
            have hc1 : CellsAt w6 (w.heap.size + 1) #[(.int .i64 (k : Int)), (.int .i64 (nl : Int)), (.bool true), (.bool true), (.int .u8 2), (.int .i64 1), (.string ⟨#[]⟩), (.int .u8 0), (.int .i64 0), (.string ⟨#[]⟩)] := by have := ((((HC1w5.out.set (j := 4) (by simp) (.int .u8 2)).set (j := 5) (by simp) (.int .i64 1)).set (j := 6) (by simp) (.string ⟨#[]⟩))).below hb (by simpa using hzw5); simpa using this
            have hf1 : Soft w6 (w.heap.size + 1) := ((((HF1w5.out.set _ _).set _ _).set _ _)).below hb (by simpa using hzw5)
            have hc0 : CellsAt w6 w.heap.size #[(.int .i64 0), (.int .i64 0), (.bool false), (.bool false), (.int .u8 0), (.int .i64 0), (.string ⟨#[]⟩), (.int .u8 0), (.int .i64 0), (.string ⟨#[]⟩)] := ((((HC0w5.out.setFar (by simp) _).setFar (by simp) _).setFar (by simp) _)).below hb (by first | omega | (simp; omega))
            have hf0 : Soft w6 w.heap.size := ((((HF0w5.out.set _ _).set _ _).set _ _)).below hb (by first | omega | (simp; omega))
            have hbb : Below w.heap.size w w6 := ((((HBw5.out.setCell (by simp) _).setCell (by simp) _).setCell (by simp) _)).trans (hb.mono (by first | omega | (simp; omega)))
            have hzw6 : w.heap.size + 1 < w6.heap.size := Nat.lt_of_lt_of_le (by simpa using hzw5) hb.size
            have HC1w6 := Lib.hid hc1
            have HF1w6 := Lib.hid hf1
            have HC0w6 := Lib.hid hc0
            have HF0w6 := Lib.hid hf0
            have HBw6 := Lib.hid hbb
            try clear q0 q1 q2 q3 q4 q5 q6 q7 q8 q9 r0 r1 r2 r3 r4 r5 r6 r7 r8 r9 g0 g1
            have q0 : w6.cell? ⟨w.heap.size + 1, 0, none⟩ = some (.int .i64 (k : Int)) := hc1 0 _ rfl
            have q1 : w6.cell? ⟨w.heap.size + 1, 1, none⟩ = some (.int .i64 (nl : Int)) := hc1 1 _ rfl
            have q2 : w6.cell? ⟨w.heap.size + 1, 2, none⟩ = some (.bool true) := hc1 2 _ rfl
            have q3 : w6.cell? ⟨w.heap.size + 1, 3, none⟩ = some (.bool true) := hc1 3 _ rfl
            have q4 : w6.cell? ⟨w.heap.size + 1, 4, none⟩ = some (.int .u8 2) := hc1 4 _ rfl
            have q5 : w6.cell? ⟨w.heap.size + 1, 5, none⟩ = some (.int .i64 1) := hc1 5 _ rfl
            have q6 : w6.cell? ⟨w.heap.size + 1, 6, none⟩ = some (.string ⟨#[]⟩) := hc1 6 _ rfl
            have q7 : w6.cell? ⟨w.heap.size + 1, 7, none⟩ = some (.int .u8 0) := hc1 7 _ rfl
            have q8 : w6.cell? ⟨w.heap.size + 1, 8, none⟩ = some (.int .i64 0) := hc1 8 _ rfl
            have q9 : w6.cell? ⟨w.heap.size + 1, 9, none⟩ = some (.string ⟨#[]⟩) := hc1 9 _ rfl
            have r0 : w6.cell? ⟨w.heap.size, 0, none⟩ = some (.int .i64 0) := hc0 0 _ rfl
            have r1 : w6.cell? ⟨w.heap.size, 1, none⟩ = some (.int .i64 0) := hc0 1 _ rfl
            have r2 : w6.cell? ⟨w.heap.size, 2, none⟩ = some (.bool false) := hc0 2 _ rfl
            have r3 : w6.cell? ⟨w.heap.size, 3, none⟩ = some (.bool false) := hc0 3 _ rfl
            have r4 : w6.cell? ⟨w.heap.size, 4, none⟩ = some (.int .u8 0) := hc0 4 _ rfl
            have r5 : w6.cell? ⟨w.heap.size, 5, none⟩ = some (.int .i64 0) := hc0 5 _ rfl
            have r6 : w6.cell? ⟨w.heap.size, 6, none⟩ = some (.string ⟨#[]⟩) := hc0 6 _ rfl
            have r7 : w6.cell? ⟨w.heap.size, 7, none⟩ = some (.int .u8 0) := hc0 7 _ rfl
            have r8 : w6.cell? ⟨w.heap.size, 8, none⟩ = some (.int .i64 0) := hc0 8 _ rfl
            have r9 : w6.cell? ⟨w.heap.size, 9, none⟩ = some (.string ⟨#[]⟩) := hc0 9 _ rfl
            have g0 := hf0
            have g1 := hf1
            unfold Soft at g0 g1
            clear hc1 hf1 hc0 hf0 hbb hb
            go_wp2
            refine bodyPost_ret (v := .agg #[(.int .i64 (k : Int)), (.int .i64 (nl : Int)), (.bool true), (.bool true), (.int .u8 2), (.int .i64 1), (.string ⟨#[]⟩), (.int .u8 mk), (.int .i64 mm), (.string ms)]) (by simp [results, Try.results8, go_sem, r0, r1, r2, r3, r4, r5, r6, r7, r8, r9]) rfl ?_
            refine ⟨by first | (rw [HRES.out]; done) | (rw [HRES.out]; rfl), ?_⟩
            repeat (with_reducible refine Below.setCell ?_ (by first | exact Nat.le_refl _ | (simp; done) | (simp; omega)) _)
            exact HBw6.out
        · cases ok
          · have hres : (statsF xs).cells = #[(.int .i64 (k : Int)), (.int .i64 (nl : Int)), (.bool true), (.bool false), (.int .u8 3), (.int .i64 0), (.string ⟨#[]⟩), (.int .u8 0), (.int .i64 0), (.string ⟨#[]⟩)] := by
              rw [HSTAT.out, if_pos (by rfl), if_neg (by simp)]; rfl
            have HRES := Lib.hid hres
            have HV1 := Lib.hid (fun W => HVC.out (ValD.text ⟨#[]⟩) W)
            simp only [ValD.val, ValD.cell, CellD.cells] at HV1
            simp only [ValD.val]
            clear hres
            have hc1 : CellsAt wr (w.heap.size + 1) #[(.int .i64 (k : Int)), (.int .i64 (nl : Int)), (.bool true), (.bool false), (.int .u8 0), (.int .i64 0), (.string ⟨#[]⟩), (.int .u8 0), (.int .i64 0), (.string ⟨#[]⟩)] := HC1.out
            have hc0 : CellsAt wr w.heap.size #[(.int .i64 0), (.int .i64 0), (.bool false), (.bool false), (.int .u8 0), (.int .i64 0), (.string ⟨#[]⟩), (.int .u8 0), (.int .i64 0), (.string ⟨#[]⟩)] := HC0.out
            have HC1w := Lib.hid hc1
            have HC0w := Lib.hid hc0
            have HF1w := HF1
            have HF0w := HF0
            have HBw := HB
            have hzw := hz
            have q0 : wr.cell? ⟨w.heap.size + 1, 0, none⟩ = some (.int .i64 (k : Int)) := hc1 0 _ rfl
            have q1 : wr.cell? ⟨w.heap.size + 1, 1, none⟩ = some (.int .i64 (nl : Int)) := hc1 1 _ rfl
            have q2 : wr.cell? ⟨w.heap.size + 1, 2, none⟩ = some (.bool true) := hc1 2 _ rfl
            have q3 : wr.cell? ⟨w.heap.size + 1, 3, none⟩ = some (.bool false) := hc1 3 _ rfl
            have q4 : wr.cell? ⟨w.heap.size + 1, 4, none⟩ = some (.int .u8 0) := hc1 4 _ rfl
            have q5 : wr.cell? ⟨w.heap.size + 1, 5, none⟩ = some (.int .i64 0) := hc1 5 _ rfl
            have q6 : wr.cell? ⟨w.heap.size + 1, 6, none⟩ = some (.string ⟨#[]⟩) := hc1 6 _ rfl
            have q7 : wr.cell? ⟨w.heap.size + 1, 7, none⟩ = some (.int .u8 0) := hc1 7 _ rfl
            have q8 : wr.cell? ⟨w.heap.size + 1, 8, none⟩ = some (.int .i64 0) := hc1 8 _ rfl
            have q9 : wr.cell? ⟨w.heap.size + 1, 9, none⟩ = some (.string ⟨#[]⟩) := hc1 9 _ rfl
            have r0 : wr.cell? ⟨w.heap.size, 0, none⟩ = some (.int .i64 0) := hc0 0 _ rfl
            have r1 : wr.cell? ⟨w.heap.size, 1, none⟩ = some (.int .i64 0) := hc0 1 _ rfl
            have r2 : wr.cell? ⟨w.heap.size, 2, none⟩ = some (.bool false) := hc0 2 _ rfl
            have r3 : wr.cell? ⟨w.heap.size, 3, none⟩ = some (.bool false) := hc0 3 _ rfl
            have r4 : wr.cell? ⟨w.heap.size, 4, none⟩ = some (.int .u8 0) := hc0 4 _ rfl
            have r5 : wr.cell? ⟨w.heap.size, 5, none⟩ = some (.int .i64 0) := hc0 5 _ rfl
            have r6 : wr.cell? ⟨w.heap.size, 6, none⟩ = some (.string ⟨#[]⟩) := hc0 6 _ rfl
            have r7 : wr.cell? ⟨w.heap.size, 7, none⟩ = some (.int .u8 0) := hc0 7 _ rfl
            have r8 : wr.cell? ⟨w.heap.size, 8, none⟩ = some (.int .i64 0) := hc0 8 _ rfl
            have r9 : wr.cell? ⟨w.heap.size, 9, none⟩ = some (.string ⟨#[]⟩) := hc0 9 _ rfl
            have g0 := HF0.out
            have g1 := HF1.out
            unfold Soft at g0 g1
            clear hc1 hc0
            go_wp2_with fail
            refine (HV1.out _).mono ?_
            rintro e w5 ⟨rfl, hb⟩
            have hc1 : CellsAt w5 (w.heap.size + 1) #[(.int .i64 (k : Int)), (.int .i64 (nl : Int)), (.bool true), (.bool false), (.int .u8 0), (.int .i64 0), (.string ⟨#[]⟩), (.int .u8 0), (.int .i64 0), (.string ⟨#[]⟩)] := by have := (((HC1w.out.set (j := 3) (by simp) (.bool true)).set (j := 3) (by simp) (.bool false))).below hb (by simpa using hzw); simpa using this
            have hf1 : Soft w5 (w.heap.size + 1) := (((HF1w.out.set _ _).set _ _)).below hb (by simpa using hzw)
            have hc0 : CellsAt w5 w.heap.size #[(.int .i64 0), (.int .i64 0), (.bool false), (.bool false), (.int .u8 0), (.int .i64 0), (.string ⟨#[]⟩), (.int .u8 0), (.int .i64 0), (.string ⟨#[]⟩)] := (((HC0w.out.setFar (by simp) _).setFar (by simp) _)).below hb (by first | omega | (simp; omega))
            have hf0 : Soft w5 w.heap.size := (((HF0w.out.set _ _).set _ _)).below hb (by first | omega | (simp; omega))
            have hbb : Below w.heap.size w w5 := (((HBw.out.setCell (by simp) _).setCell (by simp) _)).trans (hb.mono (by first | omega | (simp; omega)))
            have hzw5 : w.heap.size + 1 < w5.heap.size := Nat.lt_of_lt_of_le (by simpa using hzw) hb.size
            have HC1w5 := Lib.hid hc1
            have HF1w5 := Lib.hid hf1
            have HC0w5 := Lib.hid hc0
            have HF0w5 := Lib.hid hf0
            have HBw5 := Lib.hid hbb
            try clear q0 q1 q2 q3 q4 q5 q6 q7 q8 q9 r0 r1 r2 r3 r4 r5 r6 r7 r8 r9 g0 g1
            have q0 : w5.cell? ⟨w.heap.size + 1, 0, none⟩ = some (.int .i64 (k : Int)) := hc1 0 _ rfl
            have q1 : w5.cell? ⟨w.heap.size + 1, 1, none⟩ = some (.int .i64 (nl : Int)) := hc1 1 _ rfl
            have q2 : w5.cell? ⟨w.heap.size + 1, 2, none⟩ = some (.bool true) := hc1 2 _ rfl
            have q3 : w5.cell? ⟨w.heap.size + 1, 3, none⟩ = some (.bool false) := hc1 3 _ rfl
            have q4 : w5.cell? ⟨w.heap.size + 1, 4, none⟩ = some (.int .u8 0) := hc1 4 _ rfl
            have q5 : w5.cell? ⟨w.heap.size + 1, 5, none⟩ = some (.int .i64 0) := hc1 5 _ rfl
            have q6 : w5.cell? ⟨w.heap.size + 1, 6, none⟩ = some (.string ⟨#[]⟩) := hc1 6 _ rfl
            have q7 : w5.cell? ⟨w.heap.size + 1, 7, none⟩ = some (.int .u8 0) := hc1 7 _ rfl
            have q8 : w5.cell? ⟨w.heap.size + 1, 8, none⟩ = some (.int .i64 0) := hc1 8 _ rfl
            have q9 : w5.cell? ⟨w.heap.size + 1, 9, none⟩ = some (.string ⟨#[]⟩) := hc1 9 _ rfl
            have r0 : w5.cell? ⟨w.heap.size, 0, none⟩ = some (.int .i64 0) := hc0 0 _ rfl
            have r1 : w5.cell? ⟨w.heap.size, 1, none⟩ = some (.int .i64 0) := hc0 1 _ rfl
            have r2 : w5.cell? ⟨w.heap.size, 2, none⟩ = some (.bool false) := hc0 2 _ rfl
            have r3 : w5.cell? ⟨w.heap.size, 3, none⟩ = some (.bool false) := hc0 3 _ rfl
            have r4 : w5.cell? ⟨w.heap.size, 4, none⟩ = some (.int .u8 0) := hc0 4 _ rfl
            have r5 : w5.cell? ⟨w.heap.size, 5, none⟩ = some (.int .i64 0) := hc0 5 _ rfl
            have r6 : w5.cell? ⟨w.heap.size, 6, none⟩ = some (.string ⟨#[]⟩) := hc0 6 _ rfl
            have r7 : w5.cell? ⟨w.heap.size, 7, none⟩ = some (.int .u8 0) := hc0 7 _ rfl
            have r8 : w5.cell? ⟨w.heap.size, 8, none⟩ = some (.int .i64 0) := hc0 8 _ rfl
            have r9 : w5.cell? ⟨w.heap.size, 9, none⟩ = some (.string ⟨#[]⟩) := hc0 9 _ rfl
            have g0 := hf0
            have g1 := hf1
            unfold Soft at g0 g1
            clear hc1 hf1 hc0 hf0 hbb hb
            go_wp2
            refine bodyPost_ret (v := .agg #[(.int .i64 (k : Int)), (.int .i64 (nl : Int)), (.bool true), (.bool false), (.int .u8 3), (.int .i64 0), (.string ⟨#[]⟩), (.int .u8 0), (.int .i64 0), (.string ⟨#[]⟩)]) (by simp [results, Try.results8, go_sem, r0, r1, r2, r3, r4, r5, r6, r7, r8, r9]) rfl ?_
            refine ⟨by first | (rw [HRES.out]; done) | (rw [HRES.out]; rfl), ?_⟩
            repeat (with_reducible refine Below.setCell ?_ (by first | exact Nat.le_refl _ | (simp; done) | (simp; omega)) _)
            exact HBw5.out
          · obtain ⟨y, rfl⟩ : ∃ y, mv = ValD.text y := by
              have := HKM.out rfl
              cases mv <;> simp [ValD.cell] at this ⊢
            have HF1st := Lib.hid (fun W => HFI.out z 4 W HSL.out (by decide))
            have HAbv := Lib.hid (fun W => HAB.out y 4 W HSM.out (by decide))
            unfold FirstPost at HF1st
            unfold AbovePost at HAbv
            have hst2 : statsF xs = ⟨(k : Int), nl, true, (aboveF y 4).2, ⟨3, 0, firstF z 4⟩, if (aboveF y 4).2 = true then ⟨3, 0, (aboveF y 4).1⟩ else zeroCell⟩ := by
              have := HSTAT.out
              rw [if_pos (by rfl), if_pos rfl] at this
              exact this
            obtain ⟨fz, hfz⟩ : ∃ fz, firstF z 4 = fz := ⟨_, rfl⟩
            obtain ⟨ay, hay⟩ : ∃ ay, aboveF y 4 = ay := ⟨_, rfl⟩
            rw [hfz] at hst2 HF1st
            rw [hay] at hst2 HAbv
            clear hfz hay HSTAT
            obtain ⟨ah, ai⟩ := ay
            have HV1 := Lib.hid (fun W => HVC.out (ValD.text fz) W)
            have HV2 := Lib.hid (fun W => HVC.out (ValD.text ah) W)
            simp only [ValD.val, ValD.cell, CellD.cells] at HV1 HV2
            simp only [ValD.val]
            cases ai
            · have hres : (statsF xs).cells = #[(.int .i64 (k : Int)), (.int .i64 (nl : Int)), (.bool true), (.bool false), (.int .u8 3), (.int .i64 0), (.string fz), (.int .u8 0), (.int .i64 0), (.string ⟨#[]⟩)] := by rw [hst2]; rfl
              have HRES := Lib.hid hres
              clear hres hst2
              have hc1 : CellsAt wr (w.heap.size + 1) #[(.int .i64 (k : Int)), (.int .i64 (nl : Int)), (.bool true), (.bool false), (.int .u8 0), (.int .i64 0), (.string ⟨#[]⟩), (.int .u8 0), (.int .i64 0), (.string ⟨#[]⟩)] := HC1.out
              have hc0 : CellsAt wr w.heap.size #[(.int .i64 0), (.int .i64 0), (.bool false), (.bool false), (.int .u8 0), (.int .i64 0), (.string ⟨#[]⟩), (.int .u8 0), (.int .i64 0), (.string ⟨#[]⟩)] := HC0.out
              have HC1w := Lib.hid hc1
              have HC0w := Lib.hid hc0
              have HF1w := HF1
              have HF0w := HF0
              have HBw := HB
              have hzw := hz
              have q0 : wr.cell? ⟨w.heap.size + 1, 0, none⟩ = some (.int .i64 (k : Int)) := hc1 0 _ rfl
              have q1 : wr.cell? ⟨w.heap.size + 1, 1, none⟩ = some (.int .i64 (nl : Int)) := hc1 1 _ rfl
              have q2 : wr.cell? ⟨w.heap.size + 1, 2, none⟩ = some (.bool true) := hc1 2 _ rfl
              have q3 : wr.cell? ⟨w.heap.size + 1, 3, none⟩ = some (.bool false) := hc1 3 _ rfl
              have q4 : wr.cell? ⟨w.heap.size + 1, 4, none⟩ = some (.int .u8 0) := hc1 4 _ rfl
              have q5 : wr.cell? ⟨w.heap.size + 1, 5, none⟩ = some (.int .i64 0) := hc1 5 _ rfl
              have q6 : wr.cell? ⟨w.heap.size + 1, 6, none⟩ = some (.string ⟨#[]⟩) := hc1 6 _ rfl
              have q7 : wr.cell? ⟨w.heap.size + 1, 7, none⟩ = some (.int .u8 0) := hc1 7 _ rfl
              have q8 : wr.cell? ⟨w.heap.size + 1, 8, none⟩ = some (.int .i64 0) := hc1 8 _ rfl
              have q9 : wr.cell? ⟨w.heap.size + 1, 9, none⟩ = some (.string ⟨#[]⟩) := hc1 9 _ rfl
              have r0 : wr.cell? ⟨w.heap.size, 0, none⟩ = some (.int .i64 0) := hc0 0 _ rfl
              have r1 : wr.cell? ⟨w.heap.size, 1, none⟩ = some (.int .i64 0) := hc0 1 _ rfl
              have r2 : wr.cell? ⟨w.heap.size, 2, none⟩ = some (.bool false) := hc0 2 _ rfl
              have r3 : wr.cell? ⟨w.heap.size, 3, none⟩ = some (.bool false) := hc0 3 _ rfl
              have r4 : wr.cell? ⟨w.heap.size, 4, none⟩ = some (.int .u8 0) := hc0 4 _ rfl
              have r5 : wr.cell? ⟨w.heap.size, 5, none⟩ = some (.int .i64 0) := hc0 5 _ rfl
              have r6 : wr.cell? ⟨w.heap.size, 6, none⟩ = some (.string ⟨#[]⟩) := hc0 6 _ rfl
              have r7 : wr.cell? ⟨w.heap.size, 7, none⟩ = some (.int .u8 0) := hc0 7 _ rfl
              have r8 : wr.cell? ⟨w.heap.size, 8, none⟩ = some (.int .i64 0) := hc0 8 _ rfl
              have r9 : wr.cell? ⟨w.heap.size, 9, none⟩ = some (.string ⟨#[]⟩) := hc0 9 _ rfl
              have g0 := HF0.out
              have g1 := HF1.out
              unfold Soft at g0 g1
              clear hc1 hc0
              go_wp2_with fail
              refine (HF1st.out _).mono ?_
              rintro e w5 ⟨rfl, hb⟩
              have hc1 : CellsAt w5 (w.heap.size + 1) #[(.int .i64 (k : Int)), (.int .i64 (nl : Int)), (.bool true), (.bool true), (.int .u8 0), (.int .i64 0), (.string ⟨#[]⟩), (.int .u8 0), (.int .i64 0), (.string ⟨#[]⟩)] := by have := ((HC1w.out.set (j := 3) (by simp) (.bool true))).below hb (by simpa using hzw); simpa using this
              have hf1 : Soft w5 (w.heap.size + 1) := ((HF1w.out.set _ _)).below hb (by simpa using hzw)
              have hc0 : CellsAt w5 w.heap.size #[(.int .i64 0), (.int .i64 0), (.bool false), (.bool false), (.int .u8 0), (.int .i64 0), (.string ⟨#[]⟩), (.int .u8 0), (.int .i64 0), (.string ⟨#[]⟩)] := ((HC0w.out.setFar (by simp) _)).below hb (by first | omega | (simp; omega))
              have hf0 : Soft w5 w.heap.size := ((HF0w.out.set _ _)).below hb (by first | omega | (simp; omega))
              have hbb : Below w.heap.size w w5 := ((HBw.out.setCell (by simp) _)).trans (hb.mono (by first | omega | (simp; omega)))
              have hzw5 : w.heap.size + 1 < w5.heap.size := Nat.lt_of_lt_of_le (by simpa using hzw) hb.size
              have HC1w5 := Lib.hid hc1
              have HF1w5 := Lib.hid hf1
              have HC0w5 := Lib.hid hc0
              have HF0w5 := Lib.hid hf0
              have HBw5 := Lib.hid hbb
              try clear q0 q1 q2 q3 q4 q5 q6 q7 q8 q9 r0 r1 r2 r3 r4 r5 r6 r7 r8 r9 g0 g1
              have q0 : w5.cell? ⟨w.heap.size + 1, 0, none⟩ = some (.int .i64 (k : Int)) := hc1 0 _ rfl
              have q1 : w5.cell? ⟨w.heap.size + 1, 1, none⟩ = some (.int .i64 (nl : Int)) := hc1 1 _ rfl
              have q2 : w5.cell? ⟨w.heap.size + 1, 2, none⟩ = some (.bool true) := hc1 2 _ rfl
              have q3 : w5.cell? ⟨w.heap.size + 1, 3, none⟩ = some (.bool true) := hc1 3 _ rfl
              have q4 : w5.cell? ⟨w.heap.size + 1, 4, none⟩ = some (.int .u8 0) := hc1 4 _ rfl
              have q5 : w5.cell? ⟨w.heap.size + 1, 5, none⟩ = some (.int .i64 0) := hc1 5 _ rfl
              have q6 : w5.cell? ⟨w.heap.size + 1, 6, none⟩ = some (.string ⟨#[]⟩) := hc1 6 _ rfl
              have q7 : w5.cell? ⟨w.heap.size + 1, 7, none⟩ = some (.int .u8 0) := hc1 7 _ rfl
              have q8 : w5.cell? ⟨w.heap.size + 1, 8, none⟩ = some (.int .i64 0) := hc1 8 _ rfl
              have q9 : w5.cell? ⟨w.heap.size + 1, 9, none⟩ = some (.string ⟨#[]⟩) := hc1 9 _ rfl
              have r0 : w5.cell? ⟨w.heap.size, 0, none⟩ = some (.int .i64 0) := hc0 0 _ rfl
              have r1 : w5.cell? ⟨w.heap.size, 1, none⟩ = some (.int .i64 0) := hc0 1 _ rfl
              have r2 : w5.cell? ⟨w.heap.size, 2, none⟩ = some (.bool false) := hc0 2 _ rfl
              have r3 : w5.cell? ⟨w.heap.size, 3, none⟩ = some (.bool false) := hc0 3 _ rfl
              have r4 : w5.cell? ⟨w.heap.size, 4, none⟩ = some (.int .u8 0) := hc0 4 _ rfl
              have r5 : w5.cell? ⟨w.heap.size, 5, none⟩ = some (.int .i64 0) := hc0 5 _ rfl
              have r6 : w5.cell? ⟨w.heap.size, 6, none⟩ = some (.string ⟨#[]⟩) := hc0 6 _ rfl
              have r7 : w5.cell? ⟨w.heap.size, 7, none⟩ = some (.int .u8 0) := hc0 7 _ rfl
              have r8 : w5.cell? ⟨w.heap.size, 8, none⟩ = some (.int .i64 0) := hc0 8 _ rfl
              have r9 : w5.cell? ⟨w.heap.size, 9, none⟩ = some (.string ⟨#[]⟩) := hc0 9 _ rfl
              have g0 := hf0
              have g1 := hf1
              unfold Soft at g0 g1
              clear hc1 hf1 hc0 hf0 hbb hb
              go_wp2_with fail
              refine (HAbv.out _).mono ?_
              rintro e w6 ⟨rfl, hb⟩
              have hc1 : CellsAt w6 (w.heap.size + 1) #[(.int .i64 (k : Int)), (.int .i64 (nl : Int)), (.bool true), (.bool true), (.int .u8 0), (.int .i64 0), (.string ⟨#[]⟩), (.int .u8 0), (.int .i64 0), (.string ⟨#[]⟩)] := by have := (HC1w5.out).below hb (by simpa using hzw5); simpa using this
              have hf1 : Soft w6 (w.heap.size + 1) := (HF1w5.out).below hb (by simpa using hzw5)
              have hc0 : CellsAt w6 w.heap.size #[(.int .i64 0), (.int .i64 0), (.bool false), (.bool false), (.int .u8 0), (.int .i64 0), (.string ⟨#[]⟩), (.int .u8 0), (.int .i64 0), (.string ⟨#[]⟩)] := (HC0w5.out).below hb (by first | omega | (simp; omega))
              have hf0 : Soft w6 w.heap.size := (HF0w5.out).below hb (by first | omega | (simp; omega))
              have hbb : Below w.heap.size w w6 := (HBw5.out).trans (hb.mono (by first | omega | (simp; omega)))
              have hzw6 : w.heap.size + 1 < w6.heap.size := Nat.lt_of_lt_of_le (by simpa using hzw5) hb.size
              have HC1w6 := Lib.hid hc1
              have HF1w6 := Lib.hid hf1
              have HC0w6 := Lib.hid hc0
              have HF0w6 := Lib.hid hf0
              have HBw6 := Lib.hid hbb
              try clear q0 q1 q2 q3 q4 q5 q6 q7 q8 q9 r0 r1 r2 r3 r4 r5 r6 r7 r8 r9 g0 g1
              have q0 : w6.cell? ⟨w.heap.size + 1, 0, none⟩ = some (.int .i64 (k : Int)) := hc1 0 _ rfl
              have q1 : w6.cell? ⟨w.heap.size + 1, 1, none⟩ = some (.int .i64 (nl : Int)) := hc1 1 _ rfl
              have q2 : w6.cell? ⟨w.heap.size + 1, 2, none⟩ = some (.bool true) := hc1 2 _ rfl
              have q3 : w6.cell? ⟨w.heap.size + 1, 3, none⟩ = some (.bool true) := hc1 3 _ rfl
              have q4 : w6.cell? ⟨w.heap.size + 1, 4, none⟩ = some (.int .u8 0) := hc1 4 _ rfl
              have q5 : w6.cell? ⟨w.heap.size + 1, 5, none⟩ = some (.int .i64 0) := hc1 5 _ rfl
              have q6 : w6.cell? ⟨w.heap.size + 1, 6, none⟩ = some (.string ⟨#[]⟩) := hc1 6 _ rfl
              have q7 : w6.cell? ⟨w.heap.size + 1, 7, none⟩ = some (.int .u8 0) := hc1 7 _ rfl
              have q8 : w6.cell? ⟨w.heap.size + 1, 8, none⟩ = some (.int .i64 0) := hc1 8 _ rfl
              have q9 : w6.cell? ⟨w.heap.size + 1, 9, none⟩ = some (.string ⟨#[]⟩) := hc1 9 _ rfl
              have r0 : w6.cell? ⟨w.heap.size, 0, none⟩ = some (.int .i64 0) := hc0 0 _ rfl
              have r1 : w6.cell? ⟨w.heap.size, 1, none⟩ = some (.int .i64 0) := hc0 1 _ rfl
              have r2 : w6.cell? ⟨w.heap.size, 2, none⟩ = some (.bool false) := hc0 2 _ rfl
              have r3 : w6.cell? ⟨w.heap.size, 3, none⟩ = some (.bool false) := hc0 3 _ rfl
              have r4 : w6.cell? ⟨w.heap.size, 4, none⟩ = some (.int .u8 0) := hc0 4 _ rfl
              have r5 : w6.cell? ⟨w.heap.size, 5, none⟩ = some (.int .i64 0) := hc0 5 _ rfl
              have r6 : w6.cell? ⟨w.heap.size, 6, none⟩ = some (.string ⟨#[]⟩) := hc0 6 _ rfl
              have r7 : w6.cell? ⟨w.heap.size, 7, none⟩ = some (.int .u8 0) := hc0 7 _ rfl
              have r8 : w6.cell? ⟨w.heap.size, 8, none⟩ = some (.int .i64 0) := hc0 8 _ rfl
              have r9 : w6.cell? ⟨w.heap.size, 9, none⟩ = some (.string ⟨#[]⟩) := hc0 9 _ rfl
              have g0 := hf0
              have g1 := hf1
              unfold Soft at g0 g1
              clear hc1 hf1 hc0 hf0 hbb hb
              go_wp2_with fail
              refine (HV1.out _).mono ?_
              rintro e w7 ⟨rfl, hb⟩
              have hc1 : CellsAt w7 (w.heap.size + 1) #[(.int .i64 (k : Int)), (.int .i64 (nl : Int)), (.bool true), (.bool false), (.int .u8 0), (.int .i64 0), (.string ⟨#[]⟩), (.int .u8 0), (.int .i64 0), (.string ⟨#[]⟩)] := by have := ((HC1w6.out.set (j := 3) (by simp) (.bool false))).below hb (by simpa using hzw6); simpa using this
              have hf1 : Soft w7 (w.heap.size + 1) := ((HF1w6.out.set _ _)).below hb (by simpa using hzw6)
              have hc0 : CellsAt w7 w.heap.size #[(.int .i64 0), (.int .i64 0), (.bool false), (.bool false), (.int .u8 0), (.int .i64 0), (.string ⟨#[]⟩), (.int .u8 0), (.int .i64 0), (.string ⟨#[]⟩)] := ((HC0w6.out.setFar (by simp) _)).below hb (by first | omega | (simp; omega))
              have hf0 : Soft w7 w.heap.size := ((HF0w6.out.set _ _)).below hb (by first | omega | (simp; omega))
              have hbb : Below w.heap.size w w7 := ((HBw6.out.setCell (by simp) _)).trans (hb.mono (by first | omega | (simp; omega)))
              have hzw7 : w.heap.size + 1 < w7.heap.size := Nat.lt_of_lt_of_le (by simpa using hzw6) hb.size
              have HC1w7 := Lib.hid hc1
              have HF1w7 := Lib.hid hf1
              have HC0w7 := Lib.hid hc0
              have HF0w7 := Lib.hid hf0
              have HBw7 := Lib.hid hbb
              try clear q0 q1 q2 q3 q4 q5 q6 q7 q8 q9 r0 r1 r2 r3 r4 r5 r6 r7 r8 r9 g0 g1
              have q0 : w7.cell? ⟨w.heap.size + 1, 0, none⟩ = some (.int .i64 (k : Int)) := hc1 0 _ rfl
              have q1 : w7.cell? ⟨w.heap.size + 1, 1, none⟩ = some (.int .i64 (nl : Int)) := hc1 1 _ rfl
              have q2 : w7.cell? ⟨w.heap.size + 1, 2, none⟩ = some (.bool true) := hc1 2 _ rfl
              have q3 : w7.cell? ⟨w.heap.size + 1, 3, none⟩ = some (.bool false) := hc1 3 _ rfl
              have q4 : w7.cell? ⟨w.heap.size + 1, 4, none⟩ = some (.int .u8 0) := hc1 4 _ rfl
              have q5 : w7.cell? ⟨w.heap.size + 1, 5, none⟩ = some (.int .i64 0) := hc1 5 _ rfl
              have q6 : w7.cell? ⟨w.heap.size + 1, 6, none⟩ = some (.string ⟨#[]⟩) := hc1 6 _ rfl
              have q7 : w7.cell? ⟨w.heap.size + 1, 7, none⟩ = some (.int .u8 0) := hc1 7 _ rfl
              have q8 : w7.cell? ⟨w.heap.size + 1, 8, none⟩ = some (.int .i64 0) := hc1 8 _ rfl
              have q9 : w7.cell? ⟨w.heap.size + 1, 9, none⟩ = some (.string ⟨#[]⟩) := hc1 9 _ rfl
              have r0 : w7.cell? ⟨w.heap.size, 0, none⟩ = some (.int .i64 0) := hc0 0 _ rfl
              have r1 : w7.cell? ⟨w.heap.size, 1, none⟩ = some (.int .i64 0) := hc0 1 _ rfl
              have r2 : w7.cell? ⟨w.heap.size, 2, none⟩ = some (.bool false) := hc0 2 _ rfl
              have r3 : w7.cell? ⟨w.heap.size, 3, none⟩ = some (.bool false) := hc0 3 _ rfl
              have r4 : w7.cell? ⟨w.heap.size, 4, none⟩ = some (.int .u8 0) := hc0 4 _ rfl
              have r5 : w7.cell? ⟨w.heap.size, 5, none⟩ = some (.int .i64 0) := hc0 5 _ rfl
              have r6 : w7.cell? ⟨w.heap.size, 6, none⟩ = some (.string ⟨#[]⟩) := hc0 6 _ rfl
              have r7 : w7.cell? ⟨w.heap.size, 7, none⟩ = some (.int .u8 0) := hc0 7 _ rfl
              have r8 : w7.cell? ⟨w.heap.size, 8, none⟩ = some (.int .i64 0) := hc0 8 _ rfl
              have r9 : w7.cell? ⟨w.heap.size, 9, none⟩ = some (.string ⟨#[]⟩) := hc0 9 _ rfl
              have g0 := hf0
              have g1 := hf1
              unfold Soft at g0 g1
              clear hc1 hf1 hc0 hf0 hbb hb
              go_wp2
              refine bodyPost_ret (v := .agg #[(.int .i64 (k : Int)), (.int .i64 (nl : Int)), (.bool true), (.bool false), (.int .u8 3), (.int .i64 0), (.string fz), (.int .u8 0), (.int .i64 0), (.string ⟨#[]⟩)]) (by simp [results, Try.results8, go_sem, r0, r1, r2, r3, r4, r5, r6, r7, r8, r9]) rfl ?_
              refine ⟨by first | (rw [HRES.out]; done) | (rw [HRES.out]; rfl), ?_⟩
              repeat (with_reducible refine Below.setCell ?_ (by first | exact Nat.le_refl _ | (simp; done) | (simp; omega)) _)
              exact HBw7.out
            · have hres : (statsF xs).cells = #[(.int .i64 (k : Int)), (.int .i64 (nl : Int)), (.bool true), (.bool true), (.int .u8 3), (.int .i64 0), (.string fz), (.int .u8 3), (.int .i64 0), (.string ah)] := by rw [hst2]; rfl
              have HRES := Lib.hid hres
              clear hres hst2
              have hc1 : CellsAt wr (w.heap.size + 1) #[(.int .i64 (k : Int)), (.int .i64 (nl : Int)), (.bool true), (.bool false), (.int .u8 0), (.int .i64 0), (.string ⟨#[]⟩), (.int .u8 0), (.int .i64 0), (.string ⟨#[]⟩)] := HC1.out
              have hc0 : CellsAt wr w.heap.size #[(.int .i64 0), (.int .i64 0), (.bool false), (.bool false), (.int .u8 0), (.int .i64 0), (.string ⟨#[]⟩), (.int .u8 0), (.int .i64 0), (.string ⟨#[]⟩)] := HC0.out
              have HC1w := Lib.hid hc1
              have HC0w := Lib.hid hc0
              have HF1w := HF1
              have HF0w := HF0
              have HBw := HB
              have hzw := hz
              have q0 : wr.cell? ⟨w.heap.size + 1, 0, none⟩ = some (.int .i64 (k : Int)) := hc1 0 _ rfl
              have q1 : wr.cell? ⟨w.heap.size + 1, 1, none⟩ = some (.int .i64 (nl : Int)) := hc1 1 _ rfl
              have q2 : wr.cell? ⟨w.heap.size + 1, 2, none⟩ = some (.bool true) := hc1 2 _ rfl
              have q3 : wr.cell? ⟨w.heap.size + 1, 3, none⟩ = some (.bool false) := hc1 3 _ rfl
              have q4 : wr.cell? ⟨w.heap.size + 1, 4, none⟩ = some (.int .u8 0) := hc1 4 _ rfl
              have q5 : wr.cell? ⟨w.heap.size + 1, 5, none⟩ = some (.int .i64 0) := hc1 5 _ rfl
              have q6 : wr.cell? ⟨w.heap.size + 1, 6, none⟩ = some (.string ⟨#[]⟩) := hc1 6 _ rfl
              have q7 : wr.cell? ⟨w.heap.size + 1, 7, none⟩ = some (.int .u8 0) := hc1 7 _ rfl
              have q8 : wr.cell? ⟨w.heap.size + 1, 8, none⟩ = some (.int .i64 0) := hc1 8 _ rfl
              have q9 : wr.cell? ⟨w.heap.size + 1, 9, none⟩ = some (.string ⟨#[]⟩) := hc1 9 _ rfl
              have r0 : wr.cell? ⟨w.heap.size, 0, none⟩ = some (.int .i64 0) := hc0 0 _ rfl
              have r1 : wr.cell? ⟨w.heap.size, 1, none⟩ = some (.int .i64 0) := hc0 1 _ rfl
              have r2 : wr.cell? ⟨w.heap.size, 2, none⟩ = some (.bool false) := hc0 2 _ rfl
              have r3 : wr.cell? ⟨w.heap.size, 3, none⟩ = some (.bool false) := hc0 3 _ rfl
              have r4 : wr.cell? ⟨w.heap.size, 4, none⟩ = some (.int .u8 0) := hc0 4 _ rfl
              have r5 : wr.cell? ⟨w.heap.size, 5, none⟩ = some (.int .i64 0) := hc0 5 _ rfl
              have r6 : wr.cell? ⟨w.heap.size, 6, none⟩ = some (.string ⟨#[]⟩) := hc0 6 _ rfl
              have r7 : wr.cell? ⟨w.heap.size, 7, none⟩ = some (.int .u8 0) := hc0 7 _ rfl
              have r8 : wr.cell? ⟨w.heap.size, 8, none⟩ = some (.int .i64 0) := hc0 8 _ rfl
              have r9 : wr.cell? ⟨w.heap.size, 9, none⟩ = some (.string ⟨#[]⟩) := hc0 9 _ rfl
              have g0 := HF0.out
              have g1 := HF1.out
              unfold Soft at g0 g1
              clear hc1 hc0
              go_wp2_with fail
              refine (HF1st.out _).mono ?_
              rintro e w5 ⟨rfl, hb⟩
              have hc1 : CellsAt w5 (w.heap.size + 1) #[(.int .i64 (k : Int)), (.int .i64 (nl : Int)), (.bool true), (.bool true), (.int .u8 0), (.int .i64 0), (.string ⟨#[]⟩), (.int .u8 0), (.int .i64 0), (.string ⟨#[]⟩)] := by have := ((HC1w.out.set (j := 3) (by simp) (.bool true))).below hb (by simpa using hzw); simpa using this
              have hf1 : Soft w5 (w.heap.size + 1) := ((HF1w.out.set _ _)).below hb (by simpa using hzw)
              have hc0 : CellsAt w5 w.heap.size #[(.int .i64 0), (.int .i64 0), (.bool false), (.bool false), (.int .u8 0), (.int .i64 0), (.string ⟨#[]⟩), (.int .u8 0), (.int .i64 0), (.string ⟨#[]⟩)] := ((HC0w.out.setFar (by simp) _)).below hb (by first | omega | (simp; omega))
              have hf0 : Soft w5 w.heap.size := ((HF0w.out.set _ _)).below hb (by first | omega | (simp; omega))
              have hbb : Below w.heap.size w w5 := ((HBw.out.setCell (by simp) _)).trans (hb.mono (by first | omega | (simp; omega)))
              have hzw5 : w.heap.size + 1 < w5.heap.size := Nat.lt_of_lt_of_le (by simpa using hzw) hb.size
              have HC1w5 := Lib.hid hc1
              have HF1w5 := Lib.hid hf1
              have HC0w5 := Lib.hid hc0
              have HF0w5 := Lib.hid hf0
              have HBw5 := Lib.hid hbb
              try clear q0 q1 q2 q3 q4 q5 q6 q7 q8 q9 r0 r1 r2 r3 r4 r5 r6 r7 r8 r9 g0 g1
              have q0 : w5.cell? ⟨w.heap.size + 1, 0, none⟩ = some (.int .i64 (k : Int)) := hc1 0 _ rfl
              have q1 : w5.cell? ⟨w.heap.size + 1, 1, none⟩ = some (.int .i64 (nl : Int)) := hc1 1 _ rfl
              have q2 : w5.cell? ⟨w.heap.size + 1, 2, none⟩ = some (.bool true) := hc1 2 _ rfl
              have q3 : w5.cell? ⟨w.heap.size + 1, 3, none⟩ = some (.bool true) := hc1 3 _ rfl
              have q4 : w5.cell? ⟨w.heap.size + 1, 4, none⟩ = some (.int .u8 0) := hc1 4 _ rfl
              have q5 : w5.cell? ⟨w.heap.size + 1, 5, none⟩ = some (.int .i64 0) := hc1 5 _ rfl
              have q6 : w5.cell? ⟨w.heap.size + 1, 6, none⟩ = some (.string ⟨#[]⟩) := hc1 6 _ rfl
              have q7 : w5.cell? ⟨w.heap.size + 1, 7, none⟩ = some (.int .u8 0) := hc1 7 _ rfl
              have q8 : w5.cell? ⟨w.heap.size + 1, 8, none⟩ = some (.int .i64 0) := hc1 8 _ rfl
              have q9 : w5.cell? ⟨w.heap.size + 1, 9, none⟩ = some (.string ⟨#[]⟩) := hc1 9 _ rfl
              have r0 : w5.cell? ⟨w.heap.size, 0, none⟩ = some (.int .i64 0) := hc0 0 _ rfl
              have r1 : w5.cell? ⟨w.heap.size, 1, none⟩ = some (.int .i64 0) := hc0 1 _ rfl
              have r2 : w5.cell? ⟨w.heap.size, 2, none⟩ = some (.bool false) := hc0 2 _ rfl
              have r3 : w5.cell? ⟨w.heap.size, 3, none⟩ = some (.bool false) := hc0 3 _ rfl
              have r4 : w5.cell? ⟨w.heap.size, 4, none⟩ = some (.int .u8 0) := hc0 4 _ rfl
              have r5 : w5.cell? ⟨w.heap.size, 5, none⟩ = some (.int .i64 0) := hc0 5 _ rfl
              have r6 : w5.cell? ⟨w.heap.size, 6, none⟩ = some (.string ⟨#[]⟩) := hc0 6 _ rfl
              have r7 : w5.cell? ⟨w.heap.size, 7, none⟩ = some (.int .u8 0) := hc0 7 _ rfl
              have r8 : w5.cell? ⟨w.heap.size, 8, none⟩ = some (.int .i64 0) := hc0 8 _ rfl
              have r9 : w5.cell? ⟨w.heap.size, 9, none⟩ = some (.string ⟨#[]⟩) := hc0 9 _ rfl
              have g0 := hf0
              have g1 := hf1
              unfold Soft at g0 g1
              clear hc1 hf1 hc0 hf0 hbb hb
              go_wp2_with fail
              refine (HAbv.out _).mono ?_
              rintro e w6 ⟨rfl, hb⟩
              have hc1 : CellsAt w6 (w.heap.size + 1) #[(.int .i64 (k : Int)), (.int .i64 (nl : Int)), (.bool true), (.bool true), (.int .u8 0), (.int .i64 0), (.string ⟨#[]⟩), (.int .u8 0), (.int .i64 0), (.string ⟨#[]⟩)] := by have := (HC1w5.out).below hb (by simpa using hzw5); simpa using this
              have hf1 : Soft w6 (w.heap.size + 1) := (HF1w5.out).below hb (by simpa using hzw5)
              have hc0 : CellsAt w6 w.heap.size #[(.int .i64 0), (.int .i64 0), (.bool false), (.bool false), (.int .u8 0), (.int .i64 0), (.string ⟨#[]⟩), (.int .u8 0), (.int .i64 0), (.string ⟨#[]⟩)] := (HC0w5.out).below hb (by first | omega | (simp; omega))
              have hf0 : Soft w6 w.heap.size := (HF0w5.out).below hb (by first | omega | (simp; omega))
              have hbb : Below w.heap.size w w6 := (HBw5.out).trans (hb.mono (by first | omega | (simp; omega)))
              have hzw6 : w.heap.size + 1 < w6.heap.size := Nat.lt_of_lt_of_le (by simpa using hzw5) hb.size
              have HC1w6 := Lib.hid hc1
              have HF1w6 := Lib.hid hf1
              have HC0w6 := Lib.hid hc0
              have HF0w6 := Lib.hid hf0
              have HBw6 := Lib.hid hbb
              try clear q0 q1 q2 q3 q4 q5 q6 q7 q8 q9 r0 r1 r2 r3 r4 r5 r6 r7 r8 r9 g0 g1
              have q0 : w6.cell? ⟨w.heap.size + 1, 0, none⟩ = some (.int .i64 (k : Int)) := hc1 0 _ rfl
              have q1 : w6.cell? ⟨w.heap.size + 1, 1, none⟩ = some (.int .i64 (nl : Int)) := hc1 1 _ rfl
              have q2 : w6.cell? ⟨w.heap.size + 1, 2, none⟩ = some (.bool true) := hc1 2 _ rfl
              have q3 : w6.cell? ⟨w.heap.size + 1, 3, none⟩ = some (.bool true) := hc1 3 _ rfl
              have q4 : w6.cell? ⟨w.heap.size + 1, 4, none⟩ = some (.int .u8 0) := hc1 4 _ rfl
              have q5 : w6.cell? ⟨w.heap.size + 1, 5, none⟩ = some (.int .i64 0) := hc1 5 _ rfl
              have q6 : w6.cell? ⟨w.heap.size + 1, 6, none⟩ = some (.string ⟨#[]⟩) := hc1 6 _ rfl
              have q7 : w6.cell? ⟨w.heap.size + 1, 7, none⟩ = some (.int .u8 0) := hc1 7 _ rfl
              have q8 : w6.cell? ⟨w.heap.size + 1, 8, none⟩ = some (.int .i64 0) := hc1 8 _ rfl
              have q9 : w6.cell? ⟨w.heap.size + 1, 9, none⟩ = some (.string ⟨#[]⟩) := hc1 9 _ rfl
              have r0 : w6.cell? ⟨w.heap.size, 0, none⟩ = some (.int .i64 0) := hc0 0 _ rfl
              have r1 : w6.cell? ⟨w.heap.size, 1, none⟩ = some (.int .i64 0) := hc0 1 _ rfl
              have r2 : w6.cell? ⟨w.heap.size, 2, none⟩ = some (.bool false) := hc0 2 _ rfl
              have r3 : w6.cell? ⟨w.heap.size, 3, none⟩ = some (.bool false) := hc0 3 _ rfl
              have r4 : w6.cell? ⟨w.heap.size, 4, none⟩ = some (.int .u8 0) := hc0 4 _ rfl
              have r5 : w6.cell? ⟨w.heap.size, 5, none⟩ = some (.int .i64 0) := hc0 5 _ rfl
              have r6 : w6.cell? ⟨w.heap.size, 6, none⟩ = some (.string ⟨#[]⟩) := hc0 6 _ rfl
              have r7 : w6.cell? ⟨w.heap.size, 7, none⟩ = some (.int .u8 0) := hc0 7 _ rfl
              have r8 : w6.cell? ⟨w.heap.size, 8, none⟩ = some (.int .i64 0) := hc0 8 _ rfl
              have r9 : w6.cell? ⟨w.heap.size, 9, none⟩ = some (.string ⟨#[]⟩) := hc0 9 _ rfl
              have g0 := hf0
              have g1 := hf1
              unfold Soft at g0 g1
              clear hc1 hf1 hc0 hf0 hbb hb
              go_wp2_with fail
              refine (HV1.out _).mono ?_
              rintro e w7 ⟨rfl, hb⟩
              have hc1 : CellsAt w7 (w.heap.size + 1) #[(.int .i64 (k : Int)), (.int .i64 (nl : Int)), (.bool true), (.bool true), (.int .u8 0), (.int .i64 0), (.string ⟨#[]⟩), (.int .u8 0), (.int .i64 0), (.string ⟨#[]⟩)] := by have := ((HC1w6.out.set (j := 3) (by simp) (.bool true))).below hb (by simpa using hzw6); simpa using this
              have hf1 : Soft w7 (w.heap.size + 1) := ((HF1w6.out.set _ _)).below hb (by simpa using hzw6)
              have hc0 : CellsAt w7 w.heap.size #[(.int .i64 0), (.int .i64 0), (.bool false), (.bool false), (.int .u8 0), (.int .i64 0), (.string ⟨#[]⟩), (.int .u8 0), (.int .i64 0), (.string ⟨#[]⟩)] := ((HC0w6.out.setFar (by simp) _)).below hb (by first | omega | (simp; omega))
              have hf0 : Soft w7 w.heap.size := ((HF0w6.out.set _ _)).below hb (by first | omega | (simp; omega))
              have hbb : Below w.heap.size w w7 := ((HBw6.out.setCell (by simp) _)).trans (hb.mono (by first | omega | (simp; omega)))
              have hzw7 : w.heap.size + 1 < w7.heap.size := Nat.lt_of_lt_of_le (by simpa using hzw6) hb.size
              have HC1w7 := Lib.hid hc1
              have HF1w7 := Lib.hid hf1
              have HC0w7 := Lib.hid hc0
              have HF0w7 := Lib.hid hf0
              have HBw7 := Lib.hid hbb
              try clear q0 q1 q2 q3 q4 q5 q6 q7 q8 q9 r0 r1 r2 r3 r4 r5 r6 r7 r8 r9 g0 g1
              have q0 : w7.cell? ⟨w.heap.size + 1, 0, none⟩ = some (.int .i64 (k : Int)) := hc1 0 _ rfl
              have q1 : w7.cell? ⟨w.heap.size + 1, 1, none⟩ = some (.int .i64 (nl : Int)) := hc1 1 _ rfl
              have q2 : w7.cell? ⟨w.heap.size + 1, 2, none⟩ = some (.bool true) := hc1 2 _ rfl
              have q3 : w7.cell? ⟨w.heap.size + 1, 3, none⟩ = some (.bool true) := hc1 3 _ rfl
              have q4 : w7.cell? ⟨w.heap.size + 1, 4, none⟩ = some (.int .u8 0) := hc1 4 _ rfl
              have q5 : w7.cell? ⟨w.heap.size + 1, 5, none⟩ = some (.int .i64 0) := hc1 5 _ rfl
              have q6 : w7.cell? ⟨w.heap.size + 1, 6, none⟩ = some (.string ⟨#[]⟩) := hc1 6 _ rfl
              have q7 : w7.cell? ⟨w.heap.size + 1, 7, none⟩ = some (.int .u8 0) := hc1 7 _ rfl
              have q8 : w7.cell? ⟨w.heap.size + 1, 8, none⟩ = some (.int .i64 0) := hc1 8 _ rfl
              have q9 : w7.cell? ⟨w.heap.size + 1, 9, none⟩ = some (.string ⟨#[]⟩) := hc1 9 _ rfl
              have r0 : w7.cell? ⟨w.heap.size, 0, none⟩ = some (.int .i64 0) := hc0 0 _ rfl
              have r1 : w7.cell? ⟨w.heap.size, 1, none⟩ = some (.int .i64 0) := hc0 1 _ rfl
              have r2 : w7.cell? ⟨w.heap.size, 2, none⟩ = some (.bool false) := hc0 2 _ rfl
              have r3 : w7.cell? ⟨w.heap.size, 3, none⟩ = some (.bool false) := hc0 3 _ rfl
              have r4 : w7.cell? ⟨w.heap.size, 4, none⟩ = some (.int .u8 0) := hc0 4 _ rfl
              have r5 : w7.cell? ⟨w.heap.size, 5, none⟩ = some (.int .i64 0) := hc0 5 _ rfl
              have r6 : w7.cell? ⟨w.heap.size, 6, none⟩ = some (.string ⟨#[]⟩) := hc0 6 _ rfl
              have r7 : w7.cell? ⟨w.heap.size, 7, none⟩ = some (.int .u8 0) := hc0 7 _ rfl
              have r8 : w7.cell? ⟨w.heap.size, 8, none⟩ = some (.int .i64 0) := hc0 8 _ rfl
              have r9 : w7.cell? ⟨w.heap.size, 9, none⟩ = some (.string ⟨#[]⟩) := hc0 9 _ rfl
              have g0 := hf0
              have g1 := hf1
              unfold Soft at g0 g1
              clear hc1 hf1 hc0 hf0 hbb hb
              go_wp2_with fail
              refine (HV2.out _).mono ?_
              rintro e w8 ⟨rfl, hb⟩
              have hc1 : CellsAt w8 (w.heap.size + 1) #[(.int .i64 (k : Int)), (.int .i64 (nl : Int)), (.bool true), (.bool true), (.int .u8 3), (.int .i64 0), (.string fz), (.int .u8 0), (.int .i64 0), (.string ⟨#[]⟩)] := by have := ((((HC1w7.out.set (j := 4) (by simp) (.int .u8 3)).set (j := 5) (by simp) (.int .i64 0)).set (j := 6) (by simp) (.string fz))).below hb (by simpa using hzw7); simpa using this
              have hf1 : Soft w8 (w.heap.size + 1) := ((((HF1w7.out.set _ _).set _ _).set _ _)).below hb (by simpa using hzw7)
              have hc0 : CellsAt w8 w.heap.size #[(.int .i64 0), (.int .i64 0), (.bool false), (.bool false), (.int .u8 0), (.int .i64 0), (.string ⟨#[]⟩), (.int .u8 0), (.int .i64 0), (.string ⟨#[]⟩)] := ((((HC0w7.out.setFar (by simp) _).setFar (by simp) _).setFar (by simp) _)).below hb (by first | omega | (simp; omega))
              have hf0 : Soft w8 w.heap.size := ((((HF0w7.out.set _ _).set _ _).set _ _)).below hb (by first | omega | (simp; omega))
              have hbb : Below w.heap.size w w8 := ((((HBw7.out.setCell (by simp) _).setCell (by simp) _).setCell (by simp) _)).trans (hb.mono (by first | omega | (simp; omega)))
              have hzw8 : w.heap.size + 1 < w8.heap.size := Nat.lt_of_lt_of_le (by simpa using hzw7) hb.size
              have HC1w8 := Lib.hid hc1
              have HF1w8 := Lib.hid hf1
              have HC0w8 := Lib.hid hc0
              have HF0w8 := Lib.hid hf0
              have HBw8 := Lib.hid hbb
              try clear q0 q1 q2 q3 q4 q5 q6 q7 q8 q9 r0 r1 r2 r3 r4 r5 r6 r7 r8 r9 g0 g1
              have q0 : w8.cell? ⟨w.heap.size + 1, 0, none⟩ = some (.int .i64 (k : Int)) := hc1 0 _ rfl
              have q1 : w8.cell? ⟨w.heap.size + 1, 1, none⟩ = some (.int .i64 (nl : Int)) := hc1 1 _ rfl
              have q2 : w8.cell? ⟨w.heap.size + 1, 2, none⟩ = some (.bool true) := hc1 2 _ rfl
              have q3 : w8.cell? ⟨w.heap.size + 1, 3, none⟩ = some (.bool true) := hc1 3 _ rfl
              have q4 : w8.cell? ⟨w.heap.size + 1, 4, none⟩ = some (.int .u8 3) := hc1 4 _ rfl
              have q5 : w8.cell? ⟨w.heap.size + 1, 5, none⟩ = some (.int .i64 0) := hc1 5 _ rfl
              have q6 : w8.cell? ⟨w.heap.size + 1, 6, none⟩ = some (.string fz) := hc1 6 _ rfl
              have q7 : w8.cell? ⟨w.heap.size + 1, 7, none⟩ = some (.int .u8 0) := hc1 7 _ rfl
              have q8 : w8.cell? ⟨w.heap.size + 1, 8, none⟩ = some (.int .i64 0) := hc1 8 _ rfl
              have q9 : w8.cell? ⟨w.heap.size + 1, 9, none⟩ = some (.string ⟨#[]⟩) := hc1 9 _ rfl
              have r0 : w8.cell? ⟨w.heap.size, 0, none⟩ = some (.int .i64 0) := hc0 0 _ rfl
              have r1 : w8.cell? ⟨w.heap.size, 1, none⟩ = some (.int .i64 0) := hc0 1 _ rfl
              have r2 : w8.cell? ⟨w.heap.size, 2, none⟩ = some (.bool false) := hc0 2 _ rfl
              have r3 : w8.cell? ⟨w.heap.size, 3, none⟩ = some (.bool false) := hc0 3 _ rfl
              have r4 : w8.cell? ⟨w.heap.size, 4, none⟩ = some (.int .u8 0) := hc0 4 _ rfl
              have r5 : w8.cell? ⟨w.heap.size, 5, none⟩ = some (.int .i64 0) := hc0 5 _ rfl
              have r6 : w8.cell? ⟨w.heap.size, 6, none⟩ = some (.string ⟨#[]⟩) := hc0 6 _ rfl
              have r7 : w8.cell? ⟨w.heap.size, 7, none⟩ = some (.int .u8 0) := hc0 7 _ rfl
              have r8 : w8.cell? ⟨w.heap.size, 8, none⟩ = some (.int .i64 0) := hc0 8 _ rfl
              have r9 : w8.cell? ⟨w.heap.size, 9, none⟩ = some (.string ⟨#[]⟩) := hc0 9 _ rfl
              have g0 := hf0
              have g1 := hf1
              unfold Soft at g0 g1
              clear hc1 hf1 hc0 hf0 hbb hb
              go_wp2
              refine bodyPost_ret (v := .agg #[(.int .i64 (k : Int)), (.int .i64 (nl : Int)), (.bool true), (.bool true), (.int .u8 3), (.int .i64 0), (.string fz), (.int .u8 3), (.int .i64 0), (.string ah)]) (by simp [results, Try.results8, go_sem, r0, r1, r2, r3, r4, r5, r6, r7, r8, r9]) rfl ?_
              refine ⟨by first | (rw [HRES.out]; done) | (rw [HRES.out]; rfl), ?_⟩
              repeat (with_reducible refine Below.setCell ?_ (by first | exact Nat.le_refl _ | (simp; done) | (simp; omega)) _)
              exact HBw8.out
end Go.Proofs.Ytkildbpfondgcaa
