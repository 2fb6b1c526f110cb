/- The contract of catchmentref09.Stats. -/
import Derived.Test.YtkofaoaglnjkgaaPrPlain
import Derived.Test.YtkofaoaglnjkgaaBase
import Derived.Test.YtkofaoaglnjkgaaVlCmpm
import Derived.Test.YtkofaoaglnjkgaaSgSigns
import Derived.Test.YtkofaoaglnjkgaaSgAbove
import Derived.Handy
import Derived.Deep.DeepCutAuto
namespace Go.Proofs.Ytkofaoaglnjkgaa
open Go.RowKit Go.Deep
set_option linter.unusedVariables false
set_option linter.unusedSimpArgs false

theorem rstep_null {nl : Nat} {sm ok : Bool} {lc mc c : CellD} (h : c.kind = 0) : (StF.mk nl sm lc mc ok).step c = ⟨nl + 1, sm, lc, mc, ok⟩ := by unfold StF.step; rw [if_pos h]
theorem rstep_some {nl : Nat} {sm ok : Bool} {lc mc c : CellD} (h : c.kind ≠ 0) {l2 m2 : CellD} {ok2 : Bool} (hl : (if sm = false ∨ LessC c lc then c else lc) = l2) (hm : (if sm = false ∨ LessC mc c then c else mc) = m2) (ho : (ok && (if c.kind = 3 then clean c.s else true)) = ok2) : (StF.mk nl sm lc mc ok).step c = ⟨nl, true, l2, m2, ok2⟩ := by
  unfold StF.step; rw [if_neg h]; simp only [hl, hm, ho]
set_option maxRecDepth 100000 in
set_option maxHeartbeats 40000000 in
theorem refstats_calls (a : Option Addr) (n c : Nat) (xs : List CellD) (w : World) (h : Sl 3 CellR w a n xs) (hn : n ≤ 1000) (hsz : ∀ x ∈ xs, x.s.size ≤ 1000000) (hg : ∀ x ∈ xs, x.kind ≤ 3 ∧ (x.kind = 3 → x.n = 0)) :
    Calls Try.prog 10 #[.slice a n c] w (ValIs (.agg (statsF xs).cells) w) := by
  have HS := Lib.hid h
  have HXL := Lib.hid h.1
  have HSZ := Lib.hid hsz
  have HG := Lib.hid hg
  have HFI := Lib.hid refFirst
  have HAB := Lib.hid refAbove
  have HLESS := Lib.hid refLess
  have HSG := Lib.hid signs_calls
  clear h hsz hg
  go_enter Try.func10, Try.ntmps10
  go_wp2
  obtain ⟨W0, hWW⟩ : ∃ W0 : World, W0 = ((((w.alloc (.cells #[.int .i64 0, .int .i64 0, .bool false, .bool false, .int .u8 0, .int .i64 0, .string ⟨#[]⟩, .int .u8 0, .int .i64 0, .string ⟨#[]⟩] 31)).alloc (.cells #[.int .i64 (n : Int), .int .i64 0, .bool false, .bool false, .int .u8 0, .int .i64 0, .string ⟨#[]⟩, .int .u8 0, .int .i64 0, .string ⟨#[]⟩] 31)).alloc (.cells #[.int .u8 0, .int .i64 0, .string ⟨#[]⟩] 26)).alloc (.cells #[.int .u8 0, .int .i64 0, .string ⟨#[]⟩] 26)) := ⟨_, rfl⟩
  have hm : Mem w.heap.size [#[.int .i64 0, .int .i64 0, .bool false, .bool false, .int .u8 0, .int .i64 0, .string ⟨#[]⟩, .int .u8 0, .int .i64 0, .string ⟨#[]⟩], #[.int .i64 (n : Int), .int .i64 0, .bool false, .bool false, .int .u8 0, .int .i64 0, .string ⟨#[]⟩, .int .u8 0, .int .i64 0, .string ⟨#[]⟩], #[.int .u8 0, .int .i64 0, .string ⟨#[]⟩], #[.int .u8 0, .int .i64 0, .string ⟨#[]⟩]] w W0 := by rw [hWW]; exact (((((Mem.nil w).push (by simp) #[.int .i64 0, .int .i64 0, .bool false, .bool false, .int .u8 0, .int .i64 0, .string ⟨#[]⟩, .int .u8 0, .int .i64 0, .string ⟨#[]⟩] 31).push (by simp) #[.int .i64 (n : Int), .int .i64 0, .bool false, .bool false, .int .u8 0, .int .i64 0, .string ⟨#[]⟩, .int .u8 0, .int .i64 0, .string ⟨#[]⟩] 31).push (by simp) #[.int .u8 0, .int .i64 0, .string ⟨#[]⟩] 26).push (by simp) #[.int .u8 0, .int .i64 0, .string ⟨#[]⟩] 26)
  rw [← hWW]
  clear hWW
  have M0 := Lib.hid hm
  clear hm
  go_loopw [6, 7] (fun cl i wr => ∃ (k nl : Nat) (lc mc : CellD) (sm ok : Bool), k ≤ n ∧ cl = .bool ok ∧ i = .int .i64 (k : Int) ∧ foldSt (xs.take k) = ⟨nl, sm, lc, mc, ok⟩ ∧ Mem w.heap.size [#[.int .i64 0, .int .i64 0, .bool false, .bool false, .int .u8 0, .int .i64 0, .string ⟨#[]⟩, .int .u8 0, .int .i64 0, .string ⟨#[]⟩], #[.int .i64 (n : Int), .int .i64 (nl : Int), .bool sm, .bool false, .int .u8 0, .int .i64 0, .string ⟨#[]⟩, .int .u8 0, .int .i64 0, .string ⟨#[]⟩], #[.int .u8 lc.kind, .int .i64 lc.n, .string lc.s], #[.int .u8 mc.kind, .int .i64 mc.n, .string mc.s]] w wr) (fun _ i _ => n - (intOf i).toNat)
  case atStart => exact ⟨0, 0, zeroCell, zeroCell, false, true, Nat.zero_le _, rfl, rfl, rfl, M0.out⟩
  case round =>
    obtain ⟨k, nl, lc, mc, sm, ok, hk, rfl, rfl, hfold, hmem⟩ := hrel
    have HFOLD := Lib.hid hfold
    have M1 := Lib.hid hmem
    have hinv := stInv xs k (by have := HXL.out; omega)
    rw [hfold] at hinv
    have HINV := Lib.hid hinv
    have hnl : nl ≤ k := by have := hinv.nulls; simp at this; omega
    clear hfold hmem hinv
    by_cases hlt : k < n
    · obtain ⟨b, off, x, cs, rfl, hbl, hx, hcl, hr, hcell⟩ := HS.out.at_ hlt
      obtain ⟨rfl, _, ⟨hk0, _⟩, _⟩ := hr
      have d0 := M1.out.old (p := ⟨b, off + k * 3 + 0, none⟩) hbl (hcell 0 _ rfl)
      have d1 := M1.out.old (p := ⟨b, off + k * 3 + 1, none⟩) hbl (hcell 1 _ rfl)
      have d2 := M1.out.old (p := ⟨b, off + k * 3 + 2, none⟩) hbl (hcell 2 _ rfl)
      rw [Nat.add_zero] at d0
      have hki : (0 : Int) ≤ (k : Int) := by omega
      have hkn : (k : Int) < (n : Int) := by omega
      have HX := Lib.hid hx
      have HXS := Lib.hid (HSZ.out x (List.mem_of_getElem? hx))
      clear hcell hx
      by_cases hx0 : x.kind = 0
      · have hxk : (x.kind == 0) = true := by rw [hx0]; rfl
        have HK0 := Lib.hid hx0
        have hq : IntKind.i64.wrap ((nl : Int) + 1) = (nl : Int) + 1 := wrap_small _ (by omega) (by omega)
        clear hx0
        have q1_1 : wr.cell? ⟨w.heap.size + 1, 1, none⟩ = some (.int .i64 (nl : Int)) := M1.out.cell 1 1 rfl rfl
        have q1_2 : wr.cell? ⟨w.heap.size + 1, 2, none⟩ = some (.bool sm) := M1.out.cell 1 2 rfl rfl
        have g0 : ∀ j, wr.frozen? ⟨w.heap.size, j, none⟩ = false := M1.out.frozen 0 rfl
        have g1 : ∀ j, wr.frozen? ⟨w.heap.size + 1, j, none⟩ = false := M1.out.frozen 1 rfl
        have g2 : ∀ j, wr.frozen? ⟨w.heap.size + 1 + 1, j, none⟩ = false := M1.out.frozen 2 rfl
        have g3 : ∀ j, wr.frozen? ⟨w.heap.size + 1 + 1 + 1, j, none⟩ = false := M1.out.frozen 3 rfl
        have z0 : w.heap.size < wr.heap.size := M1.out.lt 0 (by simp)
        have z1 : w.heap.size + 1 < wr.heap.size := M1.out.lt 1 (by simp)
        have z2 : w.heap.size + 1 + 1 < wr.heap.size := M1.out.lt 2 (by simp)
        have z3 : w.heap.size + 1 + 1 + 1 < wr.heap.size := M1.out.lt 3 (by simp)
        go_wp2
        go_roundw
        case rel =>
          refine ⟨k + 1, nl + 1, lc, mc, sm, ok, by omega, rfl, by go_num, ?_, ?_⟩
          · rw [foldSt_snoc HX.out, HFOLD.out]
            exact rstep_null HK0.out
          · have hst_0 : Mem w.heap.size [#[.int .i64 0, .int .i64 0, .bool false, .bool false, .int .u8 0, .int .i64 0, .string ⟨#[]⟩, .int .u8 0, .int .i64 0, .string ⟨#[]⟩], #[.int .i64 (n : Int), .int .i64 ((nl : Int) + 1), .bool sm, .bool false, .int .u8 0, .int .i64 0, .string ⟨#[]⟩, .int .u8 0, .int .i64 0, .string ⟨#[]⟩], #[.int .u8 lc.kind, .int .i64 lc.n, .string lc.s], #[.int .u8 mc.kind, .int .i64 mc.n, .string mc.s]] w (wr.setCell ⟨w.heap.size + 1, 1, none⟩ (.int .i64 ((nl : Int) + 1))) := M1.out.set 1 1 (.int .i64 ((nl : Int) + 1)) rfl (by simp)
            exact hst_0.alloc (.cells #[.int .u8 x.kind, .int .i64 x.n, .string x.s] 26)
        case measure => simp [intOf] <;> omega
      · have hxk : (x.kind == 0) = false := by rw [beq_eq_false_iff_ne]; exact hx0
        have HK0 := Lib.hid hx0
        clear hx0
        by_cases hx3 : x.kind = 3
        · have hx3i : (x.kind == 3) = true := by rw [hx3]; rfl
          have hsg := fun W => HSG.out x.s W HXS.out
          have HX3 := Lib.hid hx3
          unfold SignsPost at hsg
          generalize hcl : clean x.s = cz at *
          have HCL := Lib.hid hcl
          have HSGX := Lib.hid hsg
          clear hsg hx3 hcl
          go_wp2_with fail
          have hcb : CellsAt (wr.alloc (.cells #[.int .u8 x.kind, .int .i64 x.n, .string x.s] 26)) wr.heap.size #[.int .u8 x.kind, .int .i64 x.n, .string x.s] := CellsAt.alloc_new _ _ _
          have HCB0 := Lib.hid hcb
          clear hcb
          refine (HSGX.out _).mono ?_
          rintro e w4 ⟨lv, av, rfl, _, _, hb, _⟩
          have hm : Mem w.heap.size [#[.int .i64 0, .int .i64 0, .bool false, .bool false, .int .u8 0, .int .i64 0, .string ⟨#[]⟩, .int .u8 0, .int .i64 0, .string ⟨#[]⟩], #[.int .i64 (n : Int), .int .i64 (nl : Int), .bool sm, .bool false, .int .u8 0, .int .i64 0, .string ⟨#[]⟩, .int .u8 0, .int .i64 0, .string ⟨#[]⟩], #[.int .u8 lc.kind, .int .i64 lc.n, .string lc.s], #[.int .u8 mc.kind, .int .i64 mc.n, .string mc.s]] w w4 := (M1.out.alloc (.cells #[.int .u8 x.kind, .int .i64 x.n, .string x.s] 26)).call hb
          have Mw4 := Lib.hid hm
          clear hm
          have hcb := HCB0.out.below hb (by simp)
          have HCB := Lib.hid hcb
          have hcz : wr.heap.size < w4.heap.size := by have := hb.size; (try simp at this); omega
          clear hb
          have t0 : w4.cell? ⟨wr.heap.size, 0, none⟩ = some (.int .u8 x.kind) := hcb 0 _ rfl
          have t1 : w4.cell? ⟨wr.heap.size, 1, none⟩ = some (.int .i64 x.n) := hcb 1 _ rfl
          have t2 : w4.cell? ⟨wr.heap.size, 2, none⟩ = some (.string x.s) := hcb 2 _ rfl
          have tne : w.heap.size + 1 + 1 + 1 < wr.heap.size := Nat.lt_of_lt_of_le (by simp) M1.out.room
          clear hcb
          cases ok
          · have HOK2 := Lib.hid (show (false && (if x.kind = 3 then clean x.s else true)) = false from rfl)
            cases sm
            · have q1_2 : w4.cell? ⟨w.heap.size + 1, 2, none⟩ = some (.bool false) := Mw4.out.cell 1 2 rfl rfl
              have q2_0 : w4.cell? ⟨w.heap.size + 1 + 1, 0, none⟩ = some (.int .u8 lc.kind) := Mw4.out.cell 2 0 rfl rfl
              have q2_1 : w4.cell? ⟨w.heap.size + 1 + 1, 1, none⟩ = some (.int .i64 lc.n) := Mw4.out.cell 2 1 rfl rfl
              have q2_2 : w4.cell? ⟨w.heap.size + 1 + 1, 2, none⟩ = some (.string lc.s) := Mw4.out.cell 2 2 rfl rfl
              have q3_0 : w4.cell? ⟨w.heap.size + 1 + 1 + 1, 0, none⟩ = some (.int .u8 mc.kind) := Mw4.out.cell 3 0 rfl rfl
              have q3_1 : w4.cell? ⟨w.heap.size + 1 + 1 + 1, 1, none⟩ = some (.int .i64 mc.n) := Mw4.out.cell 3 1 rfl rfl
              have q3_2 : w4.cell? ⟨w.heap.size + 1 + 1 + 1, 2, none⟩ = some (.string mc.s) := Mw4.out.cell 3 2 rfl rfl
              have g0 : ∀ j, w4.frozen? ⟨w.heap.size, j, none⟩ = false := Mw4.out.frozen 0 rfl
              have g1 : ∀ j, w4.frozen? ⟨w.heap.size + 1, j, none⟩ = false := Mw4.out.frozen 1 rfl
              have g2 : ∀ j, w4.frozen? ⟨w.heap.size + 1 + 1, j, none⟩ = false := Mw4.out.frozen 2 rfl
              have g3 : ∀ j, w4.frozen? ⟨w.heap.size + 1 + 1 + 1, j, none⟩ = false := Mw4.out.frozen 3 rfl
              have z0 : w.heap.size < w4.heap.size := Mw4.out.lt 0 (by simp)
              have z1 : w.heap.size + 1 < w4.heap.size := Mw4.out.lt 1 (by simp)
              have z2 : w.heap.size + 1 + 1 < w4.heap.size := Mw4.out.lt 2 (by simp)
              have z3 : w.heap.size + 1 + 1 + 1 < w4.heap.size := Mw4.out.lt 3 (by simp)
              go_wp2
              go_roundw
              case rel =>
                refine ⟨k + 1, nl, x, x, true, false, by omega, rfl, by go_num, ?_, ?_⟩
                · rw [foldSt_snoc HX.out, HFOLD.out]
                  exact rstep_some HK0.out (if_pos (.inl rfl)) (if_pos (.inl rfl)) HOK2.out
                · have hst_0 : Mem w.heap.size [#[.int .i64 0, .int .i64 0, .bool false, .bool false, .int .u8 0, .int .i64 0, .string ⟨#[]⟩, .int .u8 0, .int .i64 0, .string ⟨#[]⟩], #[.int .i64 (n : Int), .int .i64 (nl : Int), .bool false, .bool false, .int .u8 0, .int .i64 0, .string ⟨#[]⟩, .int .u8 0, .int .i64 0, .string ⟨#[]⟩], #[.int .u8 x.kind, .int .i64 lc.n, .string lc.s], #[.int .u8 mc.kind, .int .i64 mc.n, .string mc.s]] w (w4.setCell ⟨w.heap.size + 1 + 1, 0, none⟩ (.int .u8 x.kind)) := Mw4.out.set 2 0 (.int .u8 x.kind) rfl (by simp)
                  have hst_1 : Mem w.heap.size [#[.int .i64 0, .int .i64 0, .bool false, .bool false, .int .u8 0, .int .i64 0, .string ⟨#[]⟩, .int .u8 0, .int .i64 0, .string ⟨#[]⟩], #[.int .i64 (n : Int), .int .i64 (nl : Int), .bool false, .bool false, .int .u8 0, .int .i64 0, .string ⟨#[]⟩, .int .u8 0, .int .i64 0, .string ⟨#[]⟩], #[.int .u8 x.kind, .int .i64 x.n, .string lc.s], #[.int .u8 mc.kind, .int .i64 mc.n, .string mc.s]] w ((w4.setCell ⟨w.heap.size + 1 + 1, 0, none⟩ (.int .u8 x.kind)).setCell ⟨w.heap.size + 1 + 1, 1, none⟩ (.int .i64 x.n)) := hst_0.set 2 1 (.int .i64 x.n) rfl (by simp)
                  have hst_2 : Mem w.heap.size [#[.int .i64 0, .int .i64 0, .bool false, .bool false, .int .u8 0, .int .i64 0, .string ⟨#[]⟩, .int .u8 0, .int .i64 0, .string ⟨#[]⟩], #[.int .i64 (n : Int), .int .i64 (nl : Int), .bool false, .bool false, .int .u8 0, .int .i64 0, .string ⟨#[]⟩, .int .u8 0, .int .i64 0, .string ⟨#[]⟩], #[.int .u8 x.kind, .int .i64 x.n, .string x.s], #[.int .u8 mc.kind, .int .i64 mc.n, .string mc.s]] w (((w4.setCell ⟨w.heap.size + 1 + 1, 0, none⟩ (.int .u8 x.kind)).setCell ⟨w.heap.size + 1 + 1, 1, none⟩ (.int .i64 x.n)).setCell ⟨w.heap.size + 1 + 1, 2, none⟩ (.string x.s)) := hst_1.set 2 2 (.string x.s) rfl (by simp)
                  have hst_3 : Mem w.heap.size [#[.int .i64 0, .int .i64 0, .bool false, .bool false, .int .u8 0, .int .i64 0, .string ⟨#[]⟩, .int .u8 0, .int .i64 0, .string ⟨#[]⟩], #[.int .i64 (n : Int), .int .i64 (nl : Int), .bool false, .bool false, .int .u8 0, .int .i64 0, .string ⟨#[]⟩, .int .u8 0, .int .i64 0, .string ⟨#[]⟩], #[.int .u8 x.kind, .int .i64 x.n, .string x.s], #[.int .u8 x.kind, .int .i64 mc.n, .string mc.s]] w ((((w4.setCell ⟨w.heap.size + 1 + 1, 0, none⟩ (.int .u8 x.kind)).setCell ⟨w.heap.size + 1 + 1, 1, none⟩ (.int .i64 x.n)).setCell ⟨w.heap.size + 1 + 1, 2, none⟩ (.string x.s)).setCell ⟨w.heap.size + 1 + 1 + 1, 0, none⟩ (.int .u8 x.kind)) := hst_2.set 3 0 (.int .u8 x.kind) rfl (by simp)
                  have hst_4 : Mem w.heap.size [#[.int .i64 0, .int .i64 0, .bool false, .bool false, .int .u8 0, .int .i64 0, .string ⟨#[]⟩, .int .u8 0, .int .i64 0, .string ⟨#[]⟩], #[.int .i64 (n : Int), .int .i64 (nl : Int), .bool false, .bool false, .int .u8 0, .int .i64 0, .string ⟨#[]⟩, .int .u8 0, .int .i64 0, .string ⟨#[]⟩], #[.int .u8 x.kind, .int .i64 x.n, .string x.s], #[.int .u8 x.kind, .int .i64 x.n, .string mc.s]] w (((((w4.setCell ⟨w.heap.size + 1 + 1, 0, none⟩ (.int .u8 x.kind)).setCell ⟨w.heap.size + 1 + 1, 1, none⟩ (.int .i64 x.n)).setCell ⟨w.heap.size + 1 + 1, 2, none⟩ (.string x.s)).setCell ⟨w.heap.size + 1 + 1 + 1, 0, none⟩ (.int .u8 x.kind)).setCell ⟨w.heap.size + 1 + 1 + 1, 1, none⟩ (.int .i64 x.n)) := hst_3.set 3 1 (.int .i64 x.n) rfl (by simp)
                  have hst_5 : Mem w.heap.size [#[.int .i64 0, .int .i64 0, .bool false, .bool false, .int .u8 0, .int .i64 0, .string ⟨#[]⟩, .int .u8 0, .int .i64 0, .string ⟨#[]⟩], #[.int .i64 (n : Int), .int .i64 (nl : Int), .bool false, .bool false, .int .u8 0, .int .i64 0, .string ⟨#[]⟩, .int .u8 0, .int .i64 0, .string ⟨#[]⟩], #[.int .u8 x.kind, .int .i64 x.n, .string x.s], #[.int .u8 x.kind, .int .i64 x.n, .string x.s]] w ((((((w4.setCell ⟨w.heap.size + 1 + 1, 0, none⟩ (.int .u8 x.kind)).setCell ⟨w.heap.size + 1 + 1, 1, none⟩ (.int .i64 x.n)).setCell ⟨w.heap.size + 1 + 1, 2, none⟩ (.string x.s)).setCell ⟨w.heap.size + 1 + 1 + 1, 0, none⟩ (.int .u8 x.kind)).setCell ⟨w.heap.size + 1 + 1 + 1, 1, none⟩ (.int .i64 x.n)).setCell ⟨w.heap.size + 1 + 1 + 1, 2, none⟩ (.string x.s)) := hst_4.set 3 2 (.string x.s) rfl (by simp)
                  have hst_6 : Mem w.heap.size [#[.int .i64 0, .int .i64 0, .bool false, .bool false, .int .u8 0, .int .i64 0, .string ⟨#[]⟩, .int .u8 0, .int .i64 0, .string ⟨#[]⟩], #[.int .i64 (n : Int), .int .i64 (nl : Int), .bool true, .bool false, .int .u8 0, .int .i64 0, .string ⟨#[]⟩, .int .u8 0, .int .i64 0, .string ⟨#[]⟩], #[.int .u8 x.kind, .int .i64 x.n, .string x.s], #[.int .u8 x.kind, .int .i64 x.n, .string x.s]] w (((((((w4.setCell ⟨w.heap.size + 1 + 1, 0, none⟩ (.int .u8 x.kind)).setCell ⟨w.heap.size + 1 + 1, 1, none⟩ (.int .i64 x.n)).setCell ⟨w.heap.size + 1 + 1, 2, none⟩ (.string x.s)).setCell ⟨w.heap.size + 1 + 1 + 1, 0, none⟩ (.int .u8 x.kind)).setCell ⟨w.heap.size + 1 + 1 + 1, 1, none⟩ (.int .i64 x.n)).setCell ⟨w.heap.size + 1 + 1 + 1, 2, none⟩ (.string x.s)).setCell ⟨w.heap.size + 1, 2, none⟩ (.bool true)) := hst_5.set 1 2 (.bool true) rfl (by simp)
                  exact hst_6
              case measure => simp [intOf] <;> omega
            · have q1_2 : w4.cell? ⟨w.heap.size + 1, 2, none⟩ = some (.bool true) := Mw4.out.cell 1 2 rfl rfl
              have q2_0 : w4.cell? ⟨w.heap.size + 1 + 1, 0, none⟩ = some (.int .u8 lc.kind) := Mw4.out.cell 2 0 rfl rfl
              have q2_1 : w4.cell? ⟨w.heap.size + 1 + 1, 1, none⟩ = some (.int .i64 lc.n) := Mw4.out.cell 2 1 rfl rfl
              have q2_2 : w4.cell? ⟨w.heap.size + 1 + 1, 2, none⟩ = some (.string lc.s) := Mw4.out.cell 2 2 rfl rfl
              have q3_0 : w4.cell? ⟨w.heap.size + 1 + 1 + 1, 0, none⟩ = some (.int .u8 mc.kind) := Mw4.out.cell 3 0 rfl rfl
              have q3_1 : w4.cell? ⟨w.heap.size + 1 + 1 + 1, 1, none⟩ = some (.int .i64 mc.n) := Mw4.out.cell 3 1 rfl rfl
              have q3_2 : w4.cell? ⟨w.heap.size + 1 + 1 + 1, 2, none⟩ = some (.string mc.s) := Mw4.out.cell 3 2 rfl rfl
              have g0 : ∀ j, w4.frozen? ⟨w.heap.size, j, none⟩ = false := Mw4.out.frozen 0 rfl
              have g1 : ∀ j, w4.frozen? ⟨w.heap.size + 1, j, none⟩ = false := Mw4.out.frozen 1 rfl
              have g2 : ∀ j, w4.frozen? ⟨w.heap.size + 1 + 1, j, none⟩ = false := Mw4.out.frozen 2 rfl
              have g3 : ∀ j, w4.frozen? ⟨w.heap.size + 1 + 1 + 1, j, none⟩ = false := Mw4.out.frozen 3 rfl
              have z0 : w.heap.size < w4.heap.size := Mw4.out.lt 0 (by simp)
              have z1 : w.heap.size + 1 < w4.heap.size := Mw4.out.lt 1 (by simp)
              have z2 : w.heap.size + 1 + 1 < w4.heap.size := Mw4.out.lt 2 (by simp)
              have z3 : w.heap.size + 1 + 1 + 1 < w4.heap.size := Mw4.out.lt 3 (by simp)
              by_cases hl1 : LessC x lc
              · by_cases hl2 : LessC mc x
                · have HL1 := Lib.hid (HLESS.out x lc)
                  have HL2 := Lib.hid (HLESS.out mc x)
                  rw [show decide (LessC x lc) = true by simp [hl1]] at HL1
                  rw [show decide (LessC mc x) = true by simp [hl2]] at HL2
                  unfold CellD.cells at HL1 HL2
                  have HD1 := Lib.hid hl1
                  have HD2 := Lib.hid hl2
                  clear hl1 hl2
                  go_wp2_with fail
                  refine (HL1.out _).mono ?_
                  rintro e w5 ⟨rfl, hb⟩
                  clear q1_2 q2_0 q2_1 q2_2 q3_0 q3_1 q3_2 g0 g1 g2 g3 z0 z1 z2 z3
                  have hm : Mem w.heap.size [#[.int .i64 0, .int .i64 0, .bool false, .bool false, .int .u8 0, .int .i64 0, .string ⟨#[]⟩, .int .u8 0, .int .i64 0, .string ⟨#[]⟩], #[.int .i64 (n : Int), .int .i64 (nl : Int), .bool true, .bool false, .int .u8 0, .int .i64 0, .string ⟨#[]⟩, .int .u8 0, .int .i64 0, .string ⟨#[]⟩], #[.int .u8 lc.kind, .int .i64 lc.n, .string lc.s], #[.int .u8 mc.kind, .int .i64 mc.n, .string mc.s]] w w5 := Mw4.out.call hb
                  have Mw5 := Lib.hid hm
                  clear hm
                  have hcb := HCB.out.below hb hcz
                  have HCC := Lib.hid hcb
                  have hcz5 := Nat.lt_of_lt_of_le hcz hb.size
                  clear hcz
                  have hcz := hcz5
                  clear hcz5
                  clear hb
                  have t0 : w5.cell? ⟨wr.heap.size, 0, none⟩ = some (.int .u8 x.kind) := hcb 0 _ rfl
                  have t1 : w5.cell? ⟨wr.heap.size, 1, none⟩ = some (.int .i64 x.n) := hcb 1 _ rfl
                  have t2 : w5.cell? ⟨wr.heap.size, 2, none⟩ = some (.string x.s) := hcb 2 _ rfl
                  have tne : w.heap.size + 1 + 1 + 1 < wr.heap.size := Nat.lt_of_lt_of_le (by simp) M1.out.room
                  have q1_2 : w5.cell? ⟨w.heap.size + 1, 2, none⟩ = some (.bool true) := Mw5.out.cell 1 2 rfl rfl
                  have q2_0 : w5.cell? ⟨w.heap.size + 1 + 1, 0, none⟩ = some (.int .u8 lc.kind) := Mw5.out.cell 2 0 rfl rfl
                  have q2_1 : w5.cell? ⟨w.heap.size + 1 + 1, 1, none⟩ = some (.int .i64 lc.n) := Mw5.out.cell 2 1 rfl rfl
                  have q2_2 : w5.cell? ⟨w.heap.size + 1 + 1, 2, none⟩ = some (.string lc.s) := Mw5.out.cell 2 2 rfl rfl
                  have q3_0 : w5.cell? ⟨w.heap.size + 1 + 1 + 1, 0, none⟩ = some (.int .u8 mc.kind) := Mw5.out.cell 3 0 rfl rfl
                  have q3_1 : w5.cell? ⟨w.heap.size + 1 + 1 + 1, 1, none⟩ = some (.int .i64 mc.n) := Mw5.out.cell 3 1 rfl rfl
                  have q3_2 : w5.cell? ⟨w.heap.size + 1 + 1 + 1, 2, none⟩ = some (.string mc.s) := Mw5.out.cell 3 2 rfl rfl
                  have g0 : ∀ j, w5.frozen? ⟨w.heap.size, j, none⟩ = false := Mw5.out.frozen 0 rfl
                  have g1 : ∀ j, w5.frozen? ⟨w.heap.size + 1, j, none⟩ = false := Mw5.out.frozen 1 rfl
                  have g2 : ∀ j, w5.frozen? ⟨w.heap.size + 1 + 1, j, none⟩ = false := Mw5.out.frozen 2 rfl
                  have g3 : ∀ j, w5.frozen? ⟨w.heap.size + 1 + 1 + 1, j, none⟩ = false := Mw5.out.frozen 3 rfl
                  have z0 : w.heap.size < w5.heap.size := Mw5.out.lt 0 (by simp)
                  have z1 : w.heap.size + 1 < w5.heap.size := Mw5.out.lt 1 (by simp)
                  have z2 : w.heap.size + 1 + 1 < w5.heap.size := Mw5.out.lt 2 (by simp)
                  have z3 : w.heap.size + 1 + 1 + 1 < w5.heap.size := Mw5.out.lt 3 (by simp)
                  clear hcb
                  go_wp2_with fail
                  refine (HL2.out _).mono ?_
                  rintro e w6 ⟨rfl, hb⟩
                  have hst_0 : Mem w.heap.size [#[.int .i64 0, .int .i64 0, .bool false, .bool false, .int .u8 0, .int .i64 0, .string ⟨#[]⟩, .int .u8 0, .int .i64 0, .string ⟨#[]⟩], #[.int .i64 (n : Int), .int .i64 (nl : Int), .bool true, .bool false, .int .u8 0, .int .i64 0, .string ⟨#[]⟩, .int .u8 0, .int .i64 0, .string ⟨#[]⟩], #[.int .u8 x.kind, .int .i64 lc.n, .string lc.s], #[.int .u8 mc.kind, .int .i64 mc.n, .string mc.s]] w (w5.setCell ⟨w.heap.size + 1 + 1, 0, none⟩ (.int .u8 x.kind)) := Mw5.out.set 2 0 (.int .u8 x.kind) rfl (by simp)
                  have hst_1 : Mem w.heap.size [#[.int .i64 0, .int .i64 0, .bool false, .bool false, .int .u8 0, .int .i64 0, .string ⟨#[]⟩, .int .u8 0, .int .i64 0, .string ⟨#[]⟩], #[.int .i64 (n : Int), .int .i64 (nl : Int), .bool true, .bool false, .int .u8 0, .int .i64 0, .string ⟨#[]⟩, .int .u8 0, .int .i64 0, .string ⟨#[]⟩], #[.int .u8 x.kind, .int .i64 x.n, .string lc.s], #[.int .u8 mc.kind, .int .i64 mc.n, .string mc.s]] w ((w5.setCell ⟨w.heap.size + 1 + 1, 0, none⟩ (.int .u8 x.kind)).setCell ⟨w.heap.size + 1 + 1, 1, none⟩ (.int .i64 x.n)) := hst_0.set 2 1 (.int .i64 x.n) rfl (by simp)
                  have hst_2 : Mem w.heap.size [#[.int .i64 0, .int .i64 0, .bool false, .bool false, .int .u8 0, .int .i64 0, .string ⟨#[]⟩, .int .u8 0, .int .i64 0, .string ⟨#[]⟩], #[.int .i64 (n : Int), .int .i64 (nl : Int), .bool true, .bool false, .int .u8 0, .int .i64 0, .string ⟨#[]⟩, .int .u8 0, .int .i64 0, .string ⟨#[]⟩], #[.int .u8 x.kind, .int .i64 x.n, .string x.s], #[.int .u8 mc.kind, .int .i64 mc.n, .string mc.s]] w (((w5.setCell ⟨w.heap.size + 1 + 1, 0, none⟩ (.int .u8 x.kind)).setCell ⟨w.heap.size + 1 + 1, 1, none⟩ (.int .i64 x.n)).setCell ⟨w.heap.size + 1 + 1, 2, none⟩ (.string x.s)) := hst_1.set 2 2 (.string x.s) rfl (by simp)
                  clear q1_2 q2_0 q2_1 q2_2 q3_0 q3_1 q3_2 g0 g1 g2 g3 z0 z1 z2 z3
                  have hm : Mem w.heap.size [#[.int .i64 0, .int .i64 0, .bool false, .bool false, .int .u8 0, .int .i64 0, .string ⟨#[]⟩, .int .u8 0, .int .i64 0, .string ⟨#[]⟩], #[.int .i64 (n : Int), .int .i64 (nl : Int), .bool true, .bool false, .int .u8 0, .int .i64 0, .string ⟨#[]⟩, .int .u8 0, .int .i64 0, .string ⟨#[]⟩], #[.int .u8 x.kind, .int .i64 x.n, .string x.s], #[.int .u8 mc.kind, .int .i64 mc.n, .string mc.s]] w w6 := hst_2.call hb
                  have Mw6 := Lib.hid hm
                  clear hm hst_0 hst_1 hst_2
                  have hcb : CellsAt w6 wr.heap.size #[.int .u8 x.kind, .int .i64 x.n, .string x.s] := (((HCC.out.setFar (by first | omega | (simp; omega)) _).setFar (by first | omega | (simp; omega)) _).setFar (by first | omega | (simp; omega)) _).below hb (by simpa using hcz)
                  have hcz6 : wr.heap.size < w6.heap.size := by have := hb.size; (try simp at this); omega
                  clear hb hcz t0 t1 t2
                  have t0 : w6.cell? ⟨wr.heap.size, 0, none⟩ = some (.int .u8 x.kind) := hcb 0 _ rfl
                  have t1 : w6.cell? ⟨wr.heap.size, 1, none⟩ = some (.int .i64 x.n) := hcb 1 _ rfl
                  have t2 : w6.cell? ⟨wr.heap.size, 2, none⟩ = some (.string x.s) := hcb 2 _ rfl
                  clear hcb
                  have q1_2 : w6.cell? ⟨w.heap.size + 1, 2, none⟩ = some (.bool true) := Mw6.out.cell 1 2 rfl rfl
                  have q2_0 : w6.cell? ⟨w.heap.size + 1 + 1, 0, none⟩ = some (.int .u8 x.kind) := Mw6.out.cell 2 0 rfl rfl
                  have q2_1 : w6.cell? ⟨w.heap.size + 1 + 1, 1, none⟩ = some (.int .i64 x.n) := Mw6.out.cell 2 1 rfl rfl
                  have q2_2 : w6.cell? ⟨w.heap.size + 1 + 1, 2, none⟩ = some (.string x.s) := Mw6.out.cell 2 2 rfl rfl
                  have q3_0 : w6.cell? ⟨w.heap.size + 1 + 1 + 1, 0, none⟩ = some (.int .u8 mc.kind) := Mw6.out.cell 3 0 rfl rfl
                  have q3_1 : w6.cell? ⟨w.heap.size + 1 + 1 + 1, 1, none⟩ = some (.int .i64 mc.n) := Mw6.out.cell 3 1 rfl rfl
                  have q3_2 : w6.cell? ⟨w.heap.size + 1 + 1 + 1, 2, none⟩ = some (.string mc.s) := Mw6.out.cell 3 2 rfl rfl
                  have g0 : ∀ j, w6.frozen? ⟨w.heap.size, j, none⟩ = false := Mw6.out.frozen 0 rfl
                  have g1 : ∀ j, w6.frozen? ⟨w.heap.size + 1, j, none⟩ = false := Mw6.out.frozen 1 rfl
                  have g2 : ∀ j, w6.frozen? ⟨w.heap.size + 1 + 1, j, none⟩ = false := Mw6.out.frozen 2 rfl
                  have g3 : ∀ j, w6.frozen? ⟨w.heap.size + 1 + 1 + 1, j, none⟩ = false := Mw6.out.frozen 3 rfl
                  have z0 : w.heap.size < w6.heap.size := Mw6.out.lt 0 (by simp)
                  have z1 : w.heap.size + 1 < w6.heap.size := Mw6.out.lt 1 (by simp)
                  have z2 : w.heap.size + 1 + 1 < w6.heap.size := Mw6.out.lt 2 (by simp)
                  have z3 : w.heap.size + 1 + 1 + 1 < w6.heap.size := Mw6.out.lt 3 (by simp)
                  go_wp2
                  go_roundw
                  case rel =>
                    refine ⟨k + 1, nl, x, x, true, false, by omega, rfl, by go_num, ?_, ?_⟩
                    · rw [foldSt_snoc HX.out, HFOLD.out]
                      exact rstep_some HK0.out (if_pos (.inr HD1.out)) (if_pos (.inr HD2.out)) HOK2.out
                    · have hst_0 : Mem w.heap.size [#[.int .i64 0, .int .i64 0, .bool false, .bool false, .int .u8 0, .int .i64 0, .string ⟨#[]⟩, .int .u8 0, .int .i64 0, .string ⟨#[]⟩], #[.int .i64 (n : Int), .int .i64 (nl : Int), .bool true, .bool false, .int .u8 0, .int .i64 0, .string ⟨#[]⟩, .int .u8 0, .int .i64 0, .string ⟨#[]⟩], #[.int .u8 x.kind, .int .i64 x.n, .string x.s], #[.int .u8 x.kind, .int .i64 mc.n, .string mc.s]] w (w6.setCell ⟨w.heap.size + 1 + 1 + 1, 0, none⟩ (.int .u8 x.kind)) := Mw6.out.set 3 0 (.int .u8 x.kind) rfl (by simp)
                      have hst_1 : Mem w.heap.size [#[.int .i64 0, .int .i64 0, .bool false, .bool false, .int .u8 0, .int .i64 0, .string ⟨#[]⟩, .int .u8 0, .int .i64 0, .string ⟨#[]⟩], #[.int .i64 (n : Int), .int .i64 (nl : Int), .bool true, .bool false, .int .u8 0, .int .i64 0, .string ⟨#[]⟩, .int .u8 0, .int .i64 0, .string ⟨#[]⟩], #[.int .u8 x.kind, .int .i64 x.n, .string x.s], #[.int .u8 x.kind, .int .i64 x.n, .string mc.s]] w ((w6.setCell ⟨w.heap.size + 1 + 1 + 1, 0, none⟩ (.int .u8 x.kind)).setCell ⟨w.heap.size + 1 + 1 + 1, 1, none⟩ (.int .i64 x.n)) := hst_0.set 3 1 (.int .i64 x.n) rfl (by simp)
                      have hst_2 : Mem w.heap.size [#[.int .i64 0, .int .i64 0, .bool false, .bool false, .int .u8 0, .int .i64 0, .string ⟨#[]⟩, .int .u8 0, .int .i64 0, .string ⟨#[]⟩], #[.int .i64 (n : Int), .int .i64 (nl : Int), .bool true, .bool false, .int .u8 0, .int .i64 0, .string ⟨#[]⟩, .int .u8 0, .int .i64 0, .string ⟨#[]⟩], #[.int .u8 x.kind, .int .i64 x.n, .string x.s], #[.int .u8 x.kind, .int .i64 x.n, .string x.s]] w (((w6.setCell ⟨w.heap.size + 1 + 1 + 1, 0, none⟩ (.int .u8 x.kind)).setCell ⟨w.heap.size + 1 + 1 + 1, 1, none⟩ (.int .i64 x.n)).setCell ⟨w.heap.size + 1 + 1 + 1, 2, none⟩ (.string x.s)) := hst_1.set 3 2 (.string x.s) rfl (by simp)
                      have hst_3 : Mem w.heap.size [#[.int .i64 0, .int .i64 0, .bool false, .bool false, .int .u8 0, .int .i64 0, .string ⟨#[]⟩, .int .u8 0, .int .i64 0, .string ⟨#[]⟩], #[.int .i64 (n : Int), .int .i64 (nl : Int), .bool true, .bool false, .int .u8 0, .int .i64 0, .string ⟨#[]⟩, .int .u8 0, .int .i64 0, .string ⟨#[]⟩], #[.int .u8 x.kind, .int .i64 x.n, .string x.s], #[.int .u8 x.kind, .int .i64 x.n, .string x.s]] w ((((w6.setCell ⟨w.heap.size + 1 + 1 + 1, 0, none⟩ (.int .u8 x.kind)).setCell ⟨w.heap.size + 1 + 1 + 1, 1, none⟩ (.int .i64 x.n)).setCell ⟨w.heap.size + 1 + 1 + 1, 2, none⟩ (.string x.s)).setCell ⟨w.heap.size + 1, 2, none⟩ (.bool true)) := hst_2.set 1 2 (.bool true) rfl (by simp)
                      exact hst_3
                  case measure => simp [intOf] <;> omega
                · have HL1 := Lib.hid (HLESS.out x lc)
                  have HL2 := Lib.hid (HLESS.out mc x)
                  rw [show decide (LessC x lc) = true by simp [hl1]] at HL1
                  rw [show decide (LessC mc x) = false by simp [hl2]] at HL2
                  unfold CellD.cells at HL1 HL2
                  have HD1 := Lib.hid hl1
                  have HD2 := Lib.hid hl2
                  clear hl1 hl2
                  go_wp2_with fail
                  refine (HL1.out _).mono ?_
                  rintro e w5 ⟨rfl, hb⟩
                  clear q1_2 q2_0 q2_1 q2_2 q3_0 q3_1 q3_2 g0 g1 g2 g3 z0 z1 z2 z3
                  have hm : Mem w.heap.size [#[.int .i64 0, .int .i64 0, .bool false, .bool false, .int .u8 0, .int .i64 0, .string ⟨#[]⟩, .int .u8 0, .int .i64 0, .string ⟨#[]⟩], #[.int .i64 (n : Int), .int .i64 (nl : Int), .bool true, .bool false, .int .u8 0, .int .i64 0, .string ⟨#[]⟩, .int .u8 0, .int .i64 0, .string ⟨#[]⟩], #[.int .u8 lc.kind, .int .i64 lc.n, .string lc.s], #[.int .u8 mc.kind, .int .i64 mc.n, .string mc.s]] w w5 := Mw4.out.call hb
                  have Mw5 := Lib.hid hm
                  clear hm
                  have hcb := HCB.out.below hb hcz
                  have HCC := Lib.hid hcb
                  have hcz5 := Nat.lt_of_lt_of_le hcz hb.size
                  clear hcz
                  have hcz := hcz5
                  clear hcz5
                  clear hb
                  have t0 : w5.cell? ⟨wr.heap.size, 0, none⟩ = some (.int .u8 x.kind) := hcb 0 _ rfl
                  have t1 : w5.cell? ⟨wr.heap.size, 1, none⟩ = some (.int .i64 x.n) := hcb 1 _ rfl
                  have t2 : w5.cell? ⟨wr.heap.size, 2, none⟩ = some (.string x.s) := hcb 2 _ rfl
                  have tne : w.heap.size + 1 + 1 + 1 < wr.heap.size := Nat.lt_of_lt_of_le (by simp) M1.out.room
                  have q1_2 : w5.cell? ⟨w.heap.size + 1, 2, none⟩ = some (.bool true) := Mw5.out.cell 1 2 rfl rfl
                  have q2_0 : w5.cell? ⟨w.heap.size + 1 + 1, 0, none⟩ = some (.int .u8 lc.kind) := Mw5.out.cell 2 0 rfl rfl
                  have q2_1 : w5.cell? ⟨w.heap.size + 1 + 1, 1, none⟩ = some (.int .i64 lc.n) := Mw5.out.cell 2 1 rfl rfl
                  have q2_2 : w5.cell? ⟨w.heap.size + 1 + 1, 2, none⟩ = some (.string lc.s) := Mw5.out.cell 2 2 rfl rfl
                  have q3_0 : w5.cell? ⟨w.heap.size + 1 + 1 + 1, 0, none⟩ = some (.int .u8 mc.kind) := Mw5.out.cell 3 0 rfl rfl
                  have q3_1 : w5.cell? ⟨w.heap.size + 1 + 1 + 1, 1, none⟩ = some (.int .i64 mc.n) := Mw5.out.cell 3 1 rfl rfl
                  have q3_2 : w5.cell? ⟨w.heap.size + 1 + 1 + 1, 2, none⟩ = some (.string mc.s) := Mw5.out.cell 3 2 rfl rfl
                  have g0 : ∀ j, w5.frozen? ⟨w.heap.size, j, none⟩ = false := Mw5.out.frozen 0 rfl
                  have g1 : ∀ j, w5.frozen? ⟨w.heap.size + 1, j, none⟩ = false := Mw5.out.frozen 1 rfl
                  have g2 : ∀ j, w5.frozen? ⟨w.heap.size + 1 + 1, j, none⟩ = false := Mw5.out.frozen 2 rfl
                  have g3 : ∀ j, w5.frozen? ⟨w.heap.size + 1 + 1 + 1, j, none⟩ = false := Mw5.out.frozen 3 rfl
                  have z0 : w.heap.size < w5.heap.size := Mw5.out.lt 0 (by simp)
                  have z1 : w.heap.size + 1 < w5.heap.size := Mw5.out.lt 1 (by simp)
                  have z2 : w.heap.size + 1 + 1 < w5.heap.size := Mw5.out.lt 2 (by simp)
                  have z3 : w.heap.size + 1 + 1 + 1 < w5.heap.size := Mw5.out.lt 3 (by simp)
                  clear hcb
                  go_wp2_with fail
                  refine (HL2.out _).mono ?_
                  rintro e w6 ⟨rfl, hb⟩
                  have hst_0 : Mem w.heap.size [#[.int .i64 0, .int .i64 0, .bool false, .bool false, .int .u8 0, .int .i64 0, .string ⟨#[]⟩, .int .u8 0, .int .i64 0, .string ⟨#[]⟩], #[.int .i64 (n : Int), .int .i64 (nl : Int), .bool true, .bool false, .int .u8 0, .int .i64 0, .string ⟨#[]⟩, .int .u8 0, .int .i64 0, .string ⟨#[]⟩], #[.int .u8 x.kind, .int .i64 lc.n, .string lc.s], #[.int .u8 mc.kind, .int .i64 mc.n, .string mc.s]] w (w5.setCell ⟨w.heap.size + 1 + 1, 0, none⟩ (.int .u8 x.kind)) := Mw5.out.set 2 0 (.int .u8 x.kind) rfl (by simp)
                  have hst_1 : Mem w.heap.size [#[.int .i64 0, .int .i64 0, .bool false, .bool false, .int .u8 0, .int .i64 0, .string ⟨#[]⟩, .int .u8 0, .int .i64 0, .string ⟨#[]⟩], #[.int .i64 (n : Int), .int .i64 (nl : Int), .bool true, .bool false, .int .u8 0, .int .i64 0, .string ⟨#[]⟩, .int .u8 0, .int .i64 0, .string ⟨#[]⟩], #[.int .u8 x.kind, .int .i64 x.n, .string lc.s], #[.int .u8 mc.kind, .int .i64 mc.n, .string mc.s]] w ((w5.setCell ⟨w.heap.size + 1 + 1, 0, none⟩ (.int .u8 x.kind)).setCell ⟨w.heap.size + 1 + 1, 1, none⟩ (.int .i64 x.n)) := hst_0.set 2 1 (.int .i64 x.n) rfl (by simp)
                  have hst_2 : Mem w.heap.size [#[.int .i64 0, .int .i64 0, .bool false, .bool false, .int .u8 0, .int .i64 0, .string ⟨#[]⟩, .int .u8 0, .int .i64 0, .string ⟨#[]⟩], #[.int .i64 (n : Int), .int .i64 (nl : Int), .bool true, .bool false, .int .u8 0, .int .i64 0, .string ⟨#[]⟩, .int .u8 0, .int .i64 0, .string ⟨#[]⟩], #[.int .u8 x.kind, .int .i64 x.n, .string x.s], #[.int .u8 mc.kind, .int .i64 mc.n, .string mc.s]] w (((w5.setCell ⟨w.heap.size + 1 + 1, 0, none⟩ (.int .u8 x.kind)).setCell ⟨w.heap.size + 1 + 1, 1, none⟩ (.int .i64 x.n)).setCell ⟨w.heap.size + 1 + 1, 2, none⟩ (.string x.s)) := hst_1.set 2 2 (.string x.s) rfl (by simp)
                  clear q1_2 q2_0 q2_1 q2_2 q3_0 q3_1 q3_2 g0 g1 g2 g3 z0 z1 z2 z3
                  have hm : Mem w.heap.size [#[.int .i64 0, .int .i64 0, .bool false, .bool false, .int .u8 0, .int .i64 0, .string ⟨#[]⟩, .int .u8 0, .int .i64 0, .string ⟨#[]⟩], #[.int .i64 (n : Int), .int .i64 (nl : Int), .bool true, .bool false, .int .u8 0, .int .i64 0, .string ⟨#[]⟩, .int .u8 0, .int .i64 0, .string ⟨#[]⟩], #[.int .u8 x.kind, .int .i64 x.n, .string x.s], #[.int .u8 mc.kind, .int .i64 mc.n, .string mc.s]] w w6 := hst_2.call hb
                  have Mw6 := Lib.hid hm
                  clear hm hst_0 hst_1 hst_2
                  have hcb : CellsAt w6 wr.heap.size #[.int .u8 x.kind, .int .i64 x.n, .string x.s] := (((HCC.out.setFar (by first | omega | (simp; omega)) _).setFar (by first | omega | (simp; omega)) _).setFar (by first | omega | (simp; omega)) _).below hb (by simpa using hcz)
                  have hcz6 : wr.heap.size < w6.heap.size := by have := hb.size; (try simp at this); omega
                  clear hb hcz t0 t1 t2
                  have t0 : w6.cell? ⟨wr.heap.size, 0, none⟩ = some (.int .u8 x.kind) := hcb 0 _ rfl
                  have t1 : w6.cell? ⟨wr.heap.size, 1, none⟩ = some (.int .i64 x.n) := hcb 1 _ rfl
                  have t2 : w6.cell? ⟨wr.heap.size, 2, none⟩ = some (.string x.s) := hcb 2 _ rfl
                  clear hcb
                  have q1_2 : w6.cell? ⟨w.heap.size + 1, 2, none⟩ = some (.bool true) := Mw6.out.cell 1 2 rfl rfl
                  have q2_0 : w6.cell? ⟨w.heap.size + 1 + 1, 0, none⟩ = some (.int .u8 x.kind) := Mw6.out.cell 2 0 rfl rfl
                  have q2_1 : w6.cell? ⟨w.heap.size + 1 + 1, 1, none⟩ = some (.int .i64 x.n) := Mw6.out.cell 2 1 rfl rfl
                  have q2_2 : w6.cell? ⟨w.heap.size + 1 + 1, 2, none⟩ = some (.string x.s) := Mw6.out.cell 2 2 rfl rfl
                  have q3_0 : w6.cell? ⟨w.heap.size + 1 + 1 + 1, 0, none⟩ = some (.int .u8 mc.kind) := Mw6.out.cell 3 0 rfl rfl
                  have q3_1 : w6.cell? ⟨w.heap.size + 1 + 1 + 1, 1, none⟩ = some (.int .i64 mc.n) := Mw6.out.cell 3 1 rfl rfl
                  have q3_2 : w6.cell? ⟨w.heap.size + 1 + 1 + 1, 2, none⟩ = some (.string mc.s) := Mw6.out.cell 3 2 rfl rfl
                  have g0 : ∀ j, w6.frozen? ⟨w.heap.size, j, none⟩ = false := Mw6.out.frozen 0 rfl
                  have g1 : ∀ j, w6.frozen? ⟨w.heap.size + 1, j, none⟩ = false := Mw6.out.frozen 1 rfl
                  have g2 : ∀ j, w6.frozen? ⟨w.heap.size + 1 + 1, j, none⟩ = false := Mw6.out.frozen 2 rfl
                  have g3 : ∀ j, w6.frozen? ⟨w.heap.size + 1 + 1 + 1, j, none⟩ = false := Mw6.out.frozen 3 rfl
                  have z0 : w.heap.size < w6.heap.size := Mw6.out.lt 0 (by simp)
                  have z1 : w.heap.size + 1 < w6.heap.size := Mw6.out.lt 1 (by simp)
                  have z2 : w.heap.size + 1 + 1 < w6.heap.size := Mw6.out.lt 2 (by simp)
                  have z3 : w.heap.size + 1 + 1 + 1 < w6.heap.size := Mw6.out.lt 3 (by simp)
                  go_wp2
                  go_roundw
                  case rel =>
                    refine ⟨k + 1, nl, x, mc, true, false, by omega, rfl, by go_num, ?_, ?_⟩
                    · rw [foldSt_snoc HX.out, HFOLD.out]
                      exact rstep_some HK0.out (if_pos (.inr HD1.out)) (if_neg (fun h => h.elim (fun h => by cases h) HD2.out)) HOK2.out
                    · have hst_0 : Mem w.heap.size [#[.int .i64 0, .int .i64 0, .bool false, .bool false, .int .u8 0, .int .i64 0, .string ⟨#[]⟩, .int .u8 0, .int .i64 0, .string ⟨#[]⟩], #[.int .i64 (n : Int), .int .i64 (nl : Int), .bool true, .bool false, .int .u8 0, .int .i64 0, .string ⟨#[]⟩, .int .u8 0, .int .i64 0, .string ⟨#[]⟩], #[.int .u8 x.kind, .int .i64 x.n, .string x.s], #[.int .u8 mc.kind, .int .i64 mc.n, .string mc.s]] w (w6.setCell ⟨w.heap.size + 1, 2, none⟩ (.bool true)) := Mw6.out.set 1 2 (.bool true) rfl (by simp)
                      exact hst_0
                  case measure => simp [intOf] <;> omega
              · by_cases hl2 : LessC mc x
                · have HL1 := Lib.hid (HLESS.out x lc)
                  have HL2 := Lib.hid (HLESS.out mc x)
                  rw [show decide (LessC x lc) = false by simp [hl1]] at HL1
                  rw [show decide (LessC mc x) = true by simp [hl2]] at HL2
                  unfold CellD.cells at HL1 HL2
                  have HD1 := Lib.hid hl1
                  have HD2 := Lib.hid hl2
                  clear hl1 hl2
                  go_wp2_with fail
                  refine (HL1.out _).mono ?_
                  rintro e w5 ⟨rfl, hb⟩
                  clear q1_2 q2_0 q2_1 q2_2 q3_0 q3_1 q3_2 g0 g1 g2 g3 z0 z1 z2 z3
                  have hm : Mem w.heap.size [#[.int .i64 0, .int .i64 0, .bool false, .bool false, .int .u8 0, .int .i64 0, .string ⟨#[]⟩, .int .u8 0, .int .i64 0, .string ⟨#[]⟩], #[.int .i64 (n : Int), .int .i64 (nl : Int), .bool true, .bool false, .int .u8 0, .int .i64 0, .string ⟨#[]⟩, .int .u8 0, .int .i64 0, .string ⟨#[]⟩], #[.int .u8 lc.kind, .int .i64 lc.n, .string lc.s], #[.int .u8 mc.kind, .int .i64 mc.n, .string mc.s]] w w5 := Mw4.out.call hb
                  have Mw5 := Lib.hid hm
                  clear hm
                  have hcb := HCB.out.below hb hcz
                  have HCC := Lib.hid hcb
                  have hcz5 := Nat.lt_of_lt_of_le hcz hb.size
                  clear hcz
                  have hcz := hcz5
                  clear hcz5
                  clear hb
                  have t0 : w5.cell? ⟨wr.heap.size, 0, none⟩ = some (.int .u8 x.kind) := hcb 0 _ rfl
                  have t1 : w5.cell? ⟨wr.heap.size, 1, none⟩ = some (.int .i64 x.n) := hcb 1 _ rfl
                  have t2 : w5.cell? ⟨wr.heap.size, 2, none⟩ = some (.string x.s) := hcb 2 _ rfl
                  have tne : w.heap.size + 1 + 1 + 1 < wr.heap.size := Nat.lt_of_lt_of_le (by simp) M1.out.room
                  have q1_2 : w5.cell? ⟨w.heap.size + 1, 2, none⟩ = some (.bool true) := Mw5.out.cell 1 2 rfl rfl
                  have q2_0 : w5.cell? ⟨w.heap.size + 1 + 1, 0, none⟩ = some (.int .u8 lc.kind) := Mw5.out.cell 2 0 rfl rfl
                  have q2_1 : w5.cell? ⟨w.heap.size + 1 + 1, 1, none⟩ = some (.int .i64 lc.n) := Mw5.out.cell 2 1 rfl rfl
                  have q2_2 : w5.cell? ⟨w.heap.size + 1 + 1, 2, none⟩ = some (.string lc.s) := Mw5.out.cell 2 2 rfl rfl
                  have q3_0 : w5.cell? ⟨w.heap.size + 1 + 1 + 1, 0, none⟩ = some (.int .u8 mc.kind) := Mw5.out.cell 3 0 rfl rfl
                  have q3_1 : w5.cell? ⟨w.heap.size + 1 + 1 + 1, 1, none⟩ = some (.int .i64 mc.n) := Mw5.out.cell 3 1 rfl rfl
                  have q3_2 : w5.cell? ⟨w.heap.size + 1 + 1 + 1, 2, none⟩ = some (.string mc.s) := Mw5.out.cell 3 2 rfl rfl
                  have g0 : ∀ j, w5.frozen? ⟨w.heap.size, j, none⟩ = false := Mw5.out.frozen 0 rfl
                  have g1 : ∀ j, w5.frozen? ⟨w.heap.size + 1, j, none⟩ = false := Mw5.out.frozen 1 rfl
                  have g2 : ∀ j, w5.frozen? ⟨w.heap.size + 1 + 1, j, none⟩ = false := Mw5.out.frozen 2 rfl
                  have g3 : ∀ j, w5.frozen? ⟨w.heap.size + 1 + 1 + 1, j, none⟩ = false := Mw5.out.frozen 3 rfl
                  have z0 : w.heap.size < w5.heap.size := Mw5.out.lt 0 (by simp)
                  have z1 : w.heap.size + 1 < w5.heap.size := Mw5.out.lt 1 (by simp)
                  have z2 : w.heap.size + 1 + 1 < w5.heap.size := Mw5.out.lt 2 (by simp)
                  have z3 : w.heap.size + 1 + 1 + 1 < w5.heap.size := Mw5.out.lt 3 (by simp)
                  clear hcb
                  go_wp2_with fail
                  refine (HL2.out _).mono ?_
                  rintro e w6 ⟨rfl, hb⟩
                  clear q1_2 q2_0 q2_1 q2_2 q3_0 q3_1 q3_2 g0 g1 g2 g3 z0 z1 z2 z3
                  have hm : Mem w.heap.size [#[.int .i64 0, .int .i64 0, .bool false, .bool false, .int .u8 0, .int .i64 0, .string ⟨#[]⟩, .int .u8 0, .int .i64 0, .string ⟨#[]⟩], #[.int .i64 (n : Int), .int .i64 (nl : Int), .bool true, .bool false, .int .u8 0, .int .i64 0, .string ⟨#[]⟩, .int .u8 0, .int .i64 0, .string ⟨#[]⟩], #[.int .u8 lc.kind, .int .i64 lc.n, .string lc.s], #[.int .u8 mc.kind, .int .i64 mc.n, .string mc.s]] w w6 := Mw5.out.call hb
                  have Mw6 := Lib.hid hm
                  clear hm
                  have hcb : CellsAt w6 wr.heap.size #[.int .u8 x.kind, .int .i64 x.n, .string x.s] := HCC.out.below hb hcz
                  have hcz6 : wr.heap.size < w6.heap.size := by have := hb.size; (try simp at this); omega
                  clear hb hcz t0 t1 t2
                  have t0 : w6.cell? ⟨wr.heap.size, 0, none⟩ = some (.int .u8 x.kind) := hcb 0 _ rfl
                  have t1 : w6.cell? ⟨wr.heap.size, 1, none⟩ = some (.int .i64 x.n) := hcb 1 _ rfl
                  have t2 : w6.cell? ⟨wr.heap.size, 2, none⟩ = some (.string x.s) := hcb 2 _ rfl
                  clear hcb
                  have q1_2 : w6.cell? ⟨w.heap.size + 1, 2, none⟩ = some (.bool true) := Mw6.out.cell 1 2 rfl rfl
                  have q2_0 : w6.cell? ⟨w.heap.size + 1 + 1, 0, none⟩ = some (.int .u8 lc.kind) := Mw6.out.cell 2 0 rfl rfl
                  have q2_1 : w6.cell? ⟨w.heap.size + 1 + 1, 1, none⟩ = some (.int .i64 lc.n) := Mw6.out.cell 2 1 rfl rfl
                  have q2_2 : w6.cell? ⟨w.heap.size + 1 + 1, 2, none⟩ = some (.string lc.s) := Mw6.out.cell 2 2 rfl rfl
                  have q3_0 : w6.cell? ⟨w.heap.size + 1 + 1 + 1, 0, none⟩ = some (.int .u8 mc.kind) := Mw6.out.cell 3 0 rfl rfl
                  have q3_1 : w6.cell? ⟨w.heap.size + 1 + 1 + 1, 1, none⟩ = some (.int .i64 mc.n) := Mw6.out.cell 3 1 rfl rfl
                  have q3_2 : w6.cell? ⟨w.heap.size + 1 + 1 + 1, 2, none⟩ = some (.string mc.s) := Mw6.out.cell 3 2 rfl rfl
                  have g0 : ∀ j, w6.frozen? ⟨w.heap.size, j, none⟩ = false := Mw6.out.frozen 0 rfl
                  have g1 : ∀ j, w6.frozen? ⟨w.heap.size + 1, j, none⟩ = false := Mw6.out.frozen 1 rfl
                  have g2 : ∀ j, w6.frozen? ⟨w.heap.size + 1 + 1, j, none⟩ = false := Mw6.out.frozen 2 rfl
                  have g3 : ∀ j, w6.frozen? ⟨w.heap.size + 1 + 1 + 1, j, none⟩ = false := Mw6.out.frozen 3 rfl
                  have z0 : w.heap.size < w6.heap.size := Mw6.out.lt 0 (by simp)
                  have z1 : w.heap.size + 1 < w6.heap.size := Mw6.out.lt 1 (by simp)
                  have z2 : w.heap.size + 1 + 1 < w6.heap.size := Mw6.out.lt 2 (by simp)
                  have z3 : w.heap.size + 1 + 1 + 1 < w6.heap.size := Mw6.out.lt 3 (by simp)
                  go_wp2
                  go_roundw
                  case rel =>
                    refine ⟨k + 1, nl, lc, x, true, false, by omega, rfl, by go_num, ?_, ?_⟩
                    · rw [foldSt_snoc HX.out, HFOLD.out]
                      exact rstep_some HK0.out (if_neg (fun h => h.elim (fun h => by cases h) HD1.out)) (if_pos (.inr HD2.out)) HOK2.out
                    · have hst_0 : Mem w.heap.size [#[.int .i64 0, .int .i64 0, .bool false, .bool false, .int .u8 0, .int .i64 0, .string ⟨#[]⟩, .int .u8 0, .int .i64 0, .string ⟨#[]⟩], #[.int .i64 (n : Int), .int .i64 (nl : Int), .bool true, .bool false, .int .u8 0, .int .i64 0, .string ⟨#[]⟩, .int .u8 0, .int .i64 0, .string ⟨#[]⟩], #[.int .u8 lc.kind, .int .i64 lc.n, .string lc.s], #[.int .u8 x.kind, .int .i64 mc.n, .string mc.s]] w (w6.setCell ⟨w.heap.size + 1 + 1 + 1, 0, none⟩ (.int .u8 x.kind)) := Mw6.out.set 3 0 (.int .u8 x.kind) rfl (by simp)
                      have hst_1 : Mem w.heap.size [#[.int .i64 0, .int .i64 0, .bool false, .bool false, .int .u8 0, .int .i64 0, .string ⟨#[]⟩, .int .u8 0, .int .i64 0, .string ⟨#[]⟩], #[.int .i64 (n : Int), .int .i64 (nl : Int), .bool true, .bool false, .int .u8 0, .int .i64 0, .string ⟨#[]⟩, .int .u8 0, .int .i64 0, .string ⟨#[]⟩], #[.int .u8 lc.kind, .int .i64 lc.n, .string lc.s], #[.int .u8 x.kind, .int .i64 x.n, .string mc.s]] w ((w6.setCell ⟨w.heap.size + 1 + 1 + 1, 0, none⟩ (.int .u8 x.kind)).setCell ⟨w.heap.size + 1 + 1 + 1, 1, none⟩ (.int .i64 x.n)) := hst_0.set 3 1 (.int .i64 x.n) rfl (by simp)
                      have hst_2 : Mem w.heap.size [#[.int .i64 0, .int .i64 0, .bool false, .bool false, .int .u8 0, .int .i64 0, .string ⟨#[]⟩, .int .u8 0, .int .i64 0, .string ⟨#[]⟩], #[.int .i64 (n : Int), .int .i64 (nl : Int), .bool true, .bool false, .int .u8 0, .int .i64 0, .string ⟨#[]⟩, .int .u8 0, .int .i64 0, .string ⟨#[]⟩], #[.int .u8 lc.kind, .int .i64 lc.n, .string lc.s], #[.int .u8 x.kind, .int .i64 x.n, .string x.s]] w (((w6.setCell ⟨w.heap.size + 1 + 1 + 1, 0, none⟩ (.int .u8 x.kind)).setCell ⟨w.heap.size + 1 + 1 + 1, 1, none⟩ (.int .i64 x.n)).setCell ⟨w.heap.size + 1 + 1 + 1, 2, none⟩ (.string x.s)) := hst_1.set 3 2 (.string x.s) rfl (by simp)
                      have hst_3 : Mem w.heap.size [#[.int .i64 0, .int .i64 0, .bool false, .bool false, .int .u8 0, .int .i64 0, .string ⟨#[]⟩, .int .u8 0, .int .i64 0, .string ⟨#[]⟩], #[.int .i64 (n : Int), .int .i64 (nl : Int), .bool true, .bool false, .int .u8 0, .int .i64 0, .string ⟨#[]⟩, .int .u8 0, .int .i64 0, .string ⟨#[]⟩], #[.int .u8 lc.kind, .int .i64 lc.n, .string lc.s], #[.int .u8 x.kind, .int .i64 x.n, .string x.s]] w ((((w6.setCell ⟨w.heap.size + 1 + 1 + 1, 0, none⟩ (.int .u8 x.kind)).setCell ⟨w.heap.size + 1 + 1 + 1, 1, none⟩ (.int .i64 x.n)).setCell ⟨w.heap.size + 1 + 1 + 1, 2, none⟩ (.string x.s)).setCell ⟨w.heap.size + 1, 2, none⟩ (.bool true)) := hst_2.set 1 2 (.bool true) rfl (by simp)
                      exact hst_3
                  case measure => simp [intOf] <;> omega
                · have HL1 := Lib.hid (HLESS.out x lc)
                  have HL2 := Lib.hid (HLESS.out mc x)
                  rw [show decide (LessC x lc) = false by simp [hl1]] at HL1
                  rw [show decide (LessC mc x) = false by simp [hl2]] at HL2
                  unfold CellD.cells at HL1 HL2
                  have HD1 := Lib.hid hl1
                  have HD2 := Lib.hid hl2
                  clear hl1 hl2
                  go_wp2_with fail
                  refine (HL1.out _).mono ?_
                  rintro e w5 ⟨rfl, hb⟩
                  clear q1_2 q2_0 q2_1 q2_2 q3_0 q3_1 q3_2 g0 g1 g2 g3 z0 z1 z2 z3
                  have hm : Mem w.heap.size [#[.int .i64 0, .int .i64 0, .bool false, .bool false, .int .u8 0, .int .i64 0, .string ⟨#[]⟩, .int .u8 0, .int .i64 0, .string ⟨#[]⟩], #[.int .i64 (n : Int), .int .i64 (nl : Int), .bool true, .bool false, .int .u8 0, .int .i64 0, .string ⟨#[]⟩, .int .u8 0, .int .i64 0, .string ⟨#[]⟩], #[.int .u8 lc.kind, .int .i64 lc.n, .string lc.s], #[.int .u8 mc.kind, .int .i64 mc.n, .string mc.s]] w w5 := Mw4.out.call hb
                  have Mw5 := Lib.hid hm
                  clear hm
                  have hcb := HCB.out.below hb hcz
                  have HCC := Lib.hid hcb
                  have hcz5 := Nat.lt_of_lt_of_le hcz hb.size
                  clear hcz
                  have hcz := hcz5
                  clear hcz5
                  clear hb
                  have t0 : w5.cell? ⟨wr.heap.size, 0, none⟩ = some (.int .u8 x.kind) := hcb 0 _ rfl
                  have t1 : w5.cell? ⟨wr.heap.size, 1, none⟩ = some (.int .i64 x.n) := hcb 1 _ rfl
                  have t2 : w5.cell? ⟨wr.heap.size, 2, none⟩ = some (.string x.s) := hcb 2 _ rfl
                  have tne : w.heap.size + 1 + 1 + 1 < wr.heap.size := Nat.lt_of_lt_of_le (by simp) M1.out.room
                  have q1_2 : w5.cell? ⟨w.heap.size + 1, 2, none⟩ = some (.bool true) := Mw5.out.cell 1 2 rfl rfl
                  have q2_0 : w5.cell? ⟨w.heap.size + 1 + 1, 0, none⟩ = some (.int .u8 lc.kind) := Mw5.out.cell 2 0 rfl rfl
                  have q2_1 : w5.cell? ⟨w.heap.size + 1 + 1, 1, none⟩ = some (.int .i64 lc.n) := Mw5.out.cell 2 1 rfl rfl
                  have q2_2 : w5.cell? ⟨w.heap.size + 1 + 1, 2, none⟩ = some (.string lc.s) := Mw5.out.cell 2 2 rfl rfl
                  have q3_0 : w5.cell? ⟨w.heap.size + 1 + 1 + 1, 0, none⟩ = some (.int .u8 mc.kind) := Mw5.out.cell 3 0 rfl rfl
                  have q3_1 : w5.cell? ⟨w.heap.size + 1 + 1 + 1, 1, none⟩ = some (.int .i64 mc.n) := Mw5.out.cell 3 1 rfl rfl
                  have q3_2 : w5.cell? ⟨w.heap.size + 1 + 1 + 1, 2, none⟩ = some (.string mc.s) := Mw5.out.cell 3 2 rfl rfl
                  have g0 : ∀ j, w5.frozen? ⟨w.heap.size, j, none⟩ = false := Mw5.out.frozen 0 rfl
                  have g1 : ∀ j, w5.frozen? ⟨w.heap.size + 1, j, none⟩ = false := Mw5.out.frozen 1 rfl
                  have g2 : ∀ j, w5.frozen? ⟨w.heap.size + 1 + 1, j, none⟩ = false := Mw5.out.frozen 2 rfl
                  have g3 : ∀ j, w5.frozen? ⟨w.heap.size + 1 + 1 + 1, j, none⟩ = false := Mw5.out.frozen 3 rfl
                  have z0 : w.heap.size < w5.heap.size := Mw5.out.lt 0 (by simp)
                  have z1 : w.heap.size + 1 < w5.heap.size := Mw5.out.lt 1 (by simp)
                  have z2 : w.heap.size + 1 + 1 < w5.heap.size := Mw5.out.lt 2 (by simp)
                  have z3 : w.heap.size + 1 + 1 + 1 < w5.heap.size := Mw5.out.lt 3 (by simp)
                  clear hcb
                  go_wp2_with fail
                  refine (HL2.out _).mono ?_
                  rintro e w6 ⟨rfl, hb⟩
                  clear q1_2 q2_0 q2_1 q2_2 q3_0 q3_1 q3_2 g0 g1 g2 g3 z0 z1 z2 z3
                  have hm : Mem w.heap.size [#[.int .i64 0, .int .i64 0, .bool false, .bool false, .int .u8 0, .int .i64 0, .string ⟨#[]⟩, .int .u8 0, .int .i64 0, .string ⟨#[]⟩], #[.int .i64 (n : Int), .int .i64 (nl : Int), .bool true, .bool false, .int .u8 0, .int .i64 0, .string ⟨#[]⟩, .int .u8 0, .int .i64 0, .string ⟨#[]⟩], #[.int .u8 lc.kind, .int .i64 lc.n, .string lc.s], #[.int .u8 mc.kind, .int .i64 mc.n, .string mc.s]] w w6 := Mw5.out.call hb
                  have Mw6 := Lib.hid hm
                  clear hm
                  have hcb : CellsAt w6 wr.heap.size #[.int .u8 x.kind, .int .i64 x.n, .string x.s] := HCC.out.below hb hcz
                  have hcz6 : wr.heap.size < w6.heap.size := by have := hb.size; (try simp at this); omega
                  clear hb hcz t0 t1 t2
                  have t0 : w6.cell? ⟨wr.heap.size, 0, none⟩ = some (.int .u8 x.kind) := hcb 0 _ rfl
                  have t1 : w6.cell? ⟨wr.heap.size, 1, none⟩ = some (.int .i64 x.n) := hcb 1 _ rfl
                  have t2 : w6.cell? ⟨wr.heap.size, 2, none⟩ = some (.string x.s) := hcb 2 _ rfl
                  clear hcb
                  have q1_2 : w6.cell? ⟨w.heap.size + 1, 2, none⟩ = some (.bool true) := Mw6.out.cell 1 2 rfl rfl
                  have q2_0 : w6.cell? ⟨w.heap.size + 1 + 1, 0, none⟩ = some (.int .u8 lc.kind) := Mw6.out.cell 2 0 rfl rfl
                  have q2_1 : w6.cell? ⟨w.heap.size + 1 + 1, 1, none⟩ = some (.int .i64 lc.n) := Mw6.out.cell 2 1 rfl rfl
                  have q2_2 : w6.cell? ⟨w.heap.size + 1 + 1, 2, none⟩ = some (.string lc.s) := Mw6.out.cell 2 2 rfl rfl
                  have q3_0 : w6.cell? ⟨w.heap.size + 1 + 1 + 1, 0, none⟩ = some (.int .u8 mc.kind) := Mw6.out.cell 3 0 rfl rfl
                  have q3_1 : w6.cell? ⟨w.heap.size + 1 + 1 + 1, 1, none⟩ = some (.int .i64 mc.n) := Mw6.out.cell 3 1 rfl rfl
                  have q3_2 : w6.cell? ⟨w.heap.size + 1 + 1 + 1, 2, none⟩ = some (.string mc.s) := Mw6.out.cell 3 2 rfl rfl
                  have g0 : ∀ j, w6.frozen? ⟨w.heap.size, j, none⟩ = false := Mw6.out.frozen 0 rfl
                  have g1 : ∀ j, w6.frozen? ⟨w.heap.size + 1, j, none⟩ = false := Mw6.out.frozen 1 rfl
                  have g2 : ∀ j, w6.frozen? ⟨w.heap.size + 1 + 1, j, none⟩ = false := Mw6.out.frozen 2 rfl
                  have g3 : ∀ j, w6.frozen? ⟨w.heap.size + 1 + 1 + 1, j, none⟩ = false := Mw6.out.frozen 3 rfl
                  have z0 : w.heap.size < w6.heap.size := Mw6.out.lt 0 (by simp)
                  have z1 : w.heap.size + 1 < w6.heap.size := Mw6.out.lt 1 (by simp)
                  have z2 : w.heap.size + 1 + 1 < w6.heap.size := Mw6.out.lt 2 (by simp)
                  have z3 : w.heap.size + 1 + 1 + 1 < w6.heap.size := Mw6.out.lt 3 (by simp)
                  go_wp2
                  go_roundw
                  case rel =>
                    refine ⟨k + 1, nl, lc, mc, true, false, by omega, rfl, by go_num, ?_, ?_⟩
                    · rw [foldSt_snoc HX.out, HFOLD.out]
                      exact rstep_some HK0.out (if_neg (fun h => h.elim (fun h => by cases h) HD1.out)) (if_neg (fun h => h.elim (fun h => by cases h) HD2.out)) HOK2.out
                    · have hst_0 : Mem w.heap.size [#[.int .i64 0, .int .i64 0, .bool false, .bool false, .int .u8 0, .int .i64 0, .string ⟨#[]⟩, .int .u8 0, .int .i64 0, .string ⟨#[]⟩], #[.int .i64 (n : Int), .int .i64 (nl : Int), .bool true, .bool false, .int .u8 0, .int .i64 0, .string ⟨#[]⟩, .int .u8 0, .int .i64 0, .string ⟨#[]⟩], #[.int .u8 lc.kind, .int .i64 lc.n, .string lc.s], #[.int .u8 mc.kind, .int .i64 mc.n, .string mc.s]] w (w6.setCell ⟨w.heap.size + 1, 2, none⟩ (.bool true)) := Mw6.out.set 1 2 (.bool true) rfl (by simp)
                      exact hst_0
                  case measure => simp [intOf] <;> omega
          · have HOK2 := Lib.hid (show (true && (if x.kind = 3 then clean x.s else true)) = cz from by rw [if_pos HX3.out, HCL.out]; rfl)
            cases sm
            · have q1_2 : w4.cell? ⟨w.heap.size + 1, 2, none⟩ = some (.bool false) := Mw4.out.cell 1 2 rfl rfl
              have q2_0 : w4.cell? ⟨w.heap.size + 1 + 1, 0, none⟩ = some (.int .u8 lc.kind) := Mw4.out.cell 2 0 rfl rfl
              have q2_1 : w4.cell? ⟨w.heap.size + 1 + 1, 1, none⟩ = some (.int .i64 lc.n) := Mw4.out.cell 2 1 rfl rfl
              have q2_2 : w4.cell? ⟨w.heap.size + 1 + 1, 2, none⟩ = some (.string lc.s) := Mw4.out.cell 2 2 rfl rfl
              have q3_0 : w4.cell? ⟨w.heap.size + 1 + 1 + 1, 0, none⟩ = some (.int .u8 mc.kind) := Mw4.out.cell 3 0 rfl rfl
              have q3_1 : w4.cell? ⟨w.heap.size + 1 + 1 + 1, 1, none⟩ = some (.int .i64 mc.n) := Mw4.out.cell 3 1 rfl rfl
              have q3_2 : w4.cell? ⟨w.heap.size + 1 + 1 + 1, 2, none⟩ = some (.string mc.s) := Mw4.out.cell 3 2 rfl rfl
              have g0 : ∀ j, w4.frozen? ⟨w.heap.size, j, none⟩ = false := Mw4.out.frozen 0 rfl
              have g1 : ∀ j, w4.frozen? ⟨w.heap.size + 1, j, none⟩ = false := Mw4.out.frozen 1 rfl
              have g2 : ∀ j, w4.frozen? ⟨w.heap.size + 1 + 1, j, none⟩ = false := Mw4.out.frozen 2 rfl
              have g3 : ∀ j, w4.frozen? ⟨w.heap.size + 1 + 1 + 1, j, none⟩ = false := Mw4.out.frozen 3 rfl
              have z0 : w.heap.size < w4.heap.size := Mw4.out.lt 0 (by simp)
              have z1 : w.heap.size + 1 < w4.heap.size := Mw4.out.lt 1 (by simp)
              have z2 : w.heap.size + 1 + 1 < w4.heap.size := Mw4.out.lt 2 (by simp)
              have z3 : w.heap.size + 1 + 1 + 1 < w4.heap.size := Mw4.out.lt 3 (by simp)
              go_wp2
              go_roundw
              case rel =>
                refine ⟨k + 1, nl, x, x, true, cz, by omega, rfl, by go_num, ?_, ?_⟩
                · rw [foldSt_snoc HX.out, HFOLD.out]
                  exact rstep_some HK0.out (if_pos (.inl rfl)) (if_pos (.inl rfl)) HOK2.out
                · have hst_0 : Mem w.heap.size [#[.int .i64 0, .int .i64 0, .bool false, .bool false, .int .u8 0, .int .i64 0, .string ⟨#[]⟩, .int .u8 0, .int .i64 0, .string ⟨#[]⟩], #[.int .i64 (n : Int), .int .i64 (nl : Int), .bool false, .bool false, .int .u8 0, .int .i64 0, .string ⟨#[]⟩, .int .u8 0, .int .i64 0, .string ⟨#[]⟩], #[.int .u8 x.kind, .int .i64 lc.n, .string lc.s], #[.int .u8 mc.kind, .int .i64 mc.n, .string mc.s]] w (w4.setCell ⟨w.heap.size + 1 + 1, 0, none⟩ (.int .u8 x.kind)) := Mw4.out.set 2 0 (.int .u8 x.kind) rfl (by simp)
                  have hst_1 : Mem w.heap.size [#[.int .i64 0, .int .i64 0, .bool false, .bool false, .int .u8 0, .int .i64 0, .string ⟨#[]⟩, .int .u8 0, .int .i64 0, .string ⟨#[]⟩], #[.int .i64 (n : Int), .int .i64 (nl : Int), .bool false, .bool false, .int .u8 0, .int .i64 0, .string ⟨#[]⟩, .int .u8 0, .int .i64 0, .string ⟨#[]⟩], #[.int .u8 x.kind, .int .i64 x.n, .string lc.s], #[.int .u8 mc.kind, .int .i64 mc.n, .string mc.s]] w ((w4.setCell ⟨w.heap.size + 1 + 1, 0, none⟩ (.int .u8 x.kind)).setCell ⟨w.heap.size + 1 + 1, 1, none⟩ (.int .i64 x.n)) := hst_0.set 2 1 (.int .i64 x.n) rfl (by simp)
                  have hst_2 : Mem w.heap.size [#[.int .i64 0, .int .i64 0, .bool false, .bool false, .int .u8 0, .int .i64 0, .string ⟨#[]⟩, .int .u8 0, .int .i64 0, .string ⟨#[]⟩], #[.int .i64 (n : Int), .int .i64 (nl : Int), .bool false, .bool false, .int .u8 0, .int .i64 0, .string ⟨#[]⟩, .int .u8 0, .int .i64 0, .string ⟨#[]⟩], #[.int .u8 x.kind, .int .i64 x.n, .string x.s], #[.int .u8 mc.kind, .int .i64 mc.n, .string mc.s]] w (((w4.setCell ⟨w.heap.size + 1 + 1, 0, none⟩ (.int .u8 x.kind)).setCell ⟨w.heap.size + 1 + 1, 1, none⟩ (.int .i64 x.n)).setCell ⟨w.heap.size + 1 + 1, 2, none⟩ (.string x.s)) := hst_1.set 2 2 (.string x.s) rfl (by simp)
                  have hst_3 : Mem w.heap.size [#[.int .i64 0, .int .i64 0, .bool false, .bool false, .int .u8 0, .int .i64 0, .string ⟨#[]⟩, .int .u8 0, .int .i64 0, .string ⟨#[]⟩], #[.int .i64 (n : Int), .int .i64 (nl : Int), .bool false, .bool false, .int .u8 0, .int .i64 0, .string ⟨#[]⟩, .int .u8 0, .int .i64 0, .string ⟨#[]⟩], #[.int .u8 x.kind, .int .i64 x.n, .string x.s], #[.int .u8 x.kind, .int .i64 mc.n, .string mc.s]] w ((((w4.setCell ⟨w.heap.size + 1 + 1, 0, none⟩ (.int .u8 x.kind)).setCell ⟨w.heap.size + 1 + 1, 1, none⟩ (.int .i64 x.n)).setCell ⟨w.heap.size + 1 + 1, 2, none⟩ (.string x.s)).setCell ⟨w.heap.size + 1 + 1 + 1, 0, none⟩ (.int .u8 x.kind)) := hst_2.set 3 0 (.int .u8 x.kind) rfl (by simp)
                  have hst_4 : Mem w.heap.size [#[.int .i64 0, .int .i64 0, .bool false, .bool false, .int .u8 0, .int .i64 0, .string ⟨#[]⟩, .int .u8 0, .int .i64 0, .string ⟨#[]⟩], #[.int .i64 (n : Int), .int .i64 (nl : Int), .bool false, .bool false, .int .u8 0, .int .i64 0, .string ⟨#[]⟩, .int .u8 0, .int .i64 0, .string ⟨#[]⟩], #[.int .u8 x.kind, .int .i64 x.n, .string x.s], #[.int .u8 x.kind, .int .i64 x.n, .string mc.s]] w (((((w4.setCell ⟨w.heap.size + 1 + 1, 0, none⟩ (.int .u8 x.kind)).setCell ⟨w.heap.size + 1 + 1, 1, none⟩ (.int .i64 x.n)).setCell ⟨w.heap.size + 1 + 1, 2, none⟩ (.string x.s)).setCell ⟨w.heap.size + 1 + 1 + 1, 0, none⟩ (.int .u8 x.kind)).setCell ⟨w.heap.size + 1 + 1 + 1, 1, none⟩ (.int .i64 x.n)) := hst_3.set 3 1 (.int .i64 x.n) rfl (by simp)
                  have hst_5 : Mem w.heap.size [#[.int .i64 0, .int .i64 0, .bool false, .bool false, .int .u8 0, .int .i64 0, .string ⟨#[]⟩, .int .u8 0, .int .i64 0, .string ⟨#[]⟩], #[.int .i64 (n : Int), .int .i64 (nl : Int), .bool false, .bool false, .int .u8 0, .int .i64 0, .string ⟨#[]⟩, .int .u8 0, .int .i64 0, .string ⟨#[]⟩], #[.int .u8 x.kind, .int .i64 x.n, .string x.s], #[.int .u8 x.kind, .int .i64 x.n, .string x.s]] w ((((((w4.setCell ⟨w.heap.size + 1 + 1, 0, none⟩ (.int .u8 x.kind)).setCell ⟨w.heap.size + 1 + 1, 1, none⟩ (.int .i64 x.n)).setCell ⟨w.heap.size + 1 + 1, 2, none⟩ (.string x.s)).setCell ⟨w.heap.size + 1 + 1 + 1, 0, none⟩ (.int .u8 x.kind)).setCell ⟨w.heap.size + 1 + 1 + 1, 1, none⟩ (.int .i64 x.n)).setCell ⟨w.heap.size + 1 + 1 + 1, 2, none⟩ (.string x.s)) := hst_4.set 3 2 (.string x.s) rfl (by simp)
                  have hst_6 : Mem w.heap.size [#[.int .i64 0, .int .i64 0, .bool false, .bool false, .int .u8 0, .int .i64 0, .string ⟨#[]⟩, .int .u8 0, .int .i64 0, .string ⟨#[]⟩], #[.int .i64 (n : Int), .int .i64 (nl : Int), .bool true, .bool false, .int .u8 0, .int .i64 0, .string ⟨#[]⟩, .int .u8 0, .int .i64 0, .string ⟨#[]⟩], #[.int .u8 x.kind, .int .i64 x.n, .string x.s], #[.int .u8 x.kind, .int .i64 x.n, .string x.s]] w (((((((w4.setCell ⟨w.heap.size + 1 + 1, 0, none⟩ (.int .u8 x.kind)).setCell ⟨w.heap.size + 1 + 1, 1, none⟩ (.int .i64 x.n)).setCell ⟨w.heap.size + 1 + 1, 2, none⟩ (.string x.s)).setCell ⟨w.heap.size + 1 + 1 + 1, 0, none⟩ (.int .u8 x.kind)).setCell ⟨w.heap.size + 1 + 1 + 1, 1, none⟩ (.int .i64 x.n)).setCell ⟨w.heap.size + 1 + 1 + 1, 2, none⟩ (.string x.s)).setCell ⟨w.heap.size + 1, 2, none⟩ (.bool true)) := hst_5.set 1 2 (.bool true) rfl (by simp)
                  exact hst_6
              case measure => simp [intOf] <;> omega
            · have q1_2 : w4.cell? ⟨w.heap.size + 1, 2, none⟩ = some (.bool true) := Mw4.out.cell 1 2 rfl rfl
              have q2_0 : w4.cell? ⟨w.heap.size + 1 + 1, 0, none⟩ = some (.int .u8 lc.kind) := Mw4.out.cell 2 0 rfl rfl
              have q2_1 : w4.cell? ⟨w.heap.size + 1 + 1, 1, none⟩ = some (.int .i64 lc.n) := Mw4.out.cell 2 1 rfl rfl
              have q2_2 : w4.cell? ⟨w.heap.size + 1 + 1, 2, none⟩ = some (.string lc.s) := Mw4.out.cell 2 2 rfl rfl
              have q3_0 : w4.cell? ⟨w.heap.size + 1 + 1 + 1, 0, none⟩ = some (.int .u8 mc.kind) := Mw4.out.cell 3 0 rfl rfl
              have q3_1 : w4.cell? ⟨w.heap.size + 1 + 1 + 1, 1, none⟩ = some (.int .i64 mc.n) := Mw4.out.cell 3 1 rfl rfl
              have q3_2 : w4.cell? ⟨w.heap.size + 1 + 1 + 1, 2, none⟩ = some (.string mc.s) := Mw4.out.cell 3 2 rfl rfl
              have g0 : ∀ j, w4.frozen? ⟨w.heap.size, j, none⟩ = false := Mw4.out.frozen 0 rfl
              have g1 : ∀ j, w4.frozen? ⟨w.heap.size + 1, j, none⟩ = false := Mw4.out.frozen 1 rfl
              have g2 : ∀ j, w4.frozen? ⟨w.heap.size + 1 + 1, j, none⟩ = false := Mw4.out.frozen 2 rfl
              have g3 : ∀ j, w4.frozen? ⟨w.heap.size + 1 + 1 + 1, j, none⟩ = false := Mw4.out.frozen 3 rfl
              have z0 : w.heap.size < w4.heap.size := Mw4.out.lt 0 (by simp)
              have z1 : w.heap.size + 1 < w4.heap.size := Mw4.out.lt 1 (by simp)
              have z2 : w.heap.size + 1 + 1 < w4.heap.size := Mw4.out.lt 2 (by simp)
              have z3 : w.heap.size + 1 + 1 + 1 < w4.heap.size := Mw4.out.lt 3 (by simp)
              by_cases hl1 : LessC x lc
              · by_cases hl2 : LessC mc x
                · have HL1 := Lib.hid (HLESS.out x lc)
                  have HL2 := Lib.hid (HLESS.out mc x)
                  rw [show decide (LessC x lc) = true by simp [hl1]] at HL1
                  rw [show decide (LessC mc x) = true by simp [hl2]] at HL2
                  unfold CellD.cells at HL1 HL2
                  have HD1 := Lib.hid hl1
                  have HD2 := Lib.hid hl2
                  clear hl1 hl2
                  go_wp2_with fail
                  refine (HL1.out _).mono ?_
                  rintro e w5 ⟨rfl, hb⟩
                  clear q1_2 q2_0 q2_1 q2_2 q3_0 q3_1 q3_2 g0 g1 g2 g3 z0 z1 z2 z3
                  have hm : Mem w.heap.size [#[.int .i64 0, .int .i64 0, .bool false, .bool false, .int .u8 0, .int .i64 0, .string ⟨#[]⟩, .int .u8 0, .int .i64 0, .string ⟨#[]⟩], #[.int .i64 (n : Int), .int .i64 (nl : Int), .bool true, .bool false, .int .u8 0, .int .i64 0, .string ⟨#[]⟩, .int .u8 0, .int .i64 0, .string ⟨#[]⟩], #[.int .u8 lc.kind, .int .i64 lc.n, .string lc.s], #[.int .u8 mc.kind, .int .i64 mc.n, .string mc.s]] w w5 := Mw4.out.call hb
                  have Mw5 := Lib.hid hm
                  clear hm
                  have hcb := HCB.out.below hb hcz
                  have HCC := Lib.hid hcb
                  have hcz5 := Nat.lt_of_lt_of_le hcz hb.size
                  clear hcz
                  have hcz := hcz5
                  clear hcz5
                  clear hb
                  have t0 : w5.cell? ⟨wr.heap.size, 0, none⟩ = some (.int .u8 x.kind) := hcb 0 _ rfl
                  have t1 : w5.cell? ⟨wr.heap.size, 1, none⟩ = some (.int .i64 x.n) := hcb 1 _ rfl
                  have t2 : w5.cell? ⟨wr.heap.size, 2, none⟩ = some (.string x.s) := hcb 2 _ rfl
                  have tne : w.heap.size + 1 + 1 + 1 < wr.heap.size := Nat.lt_of_lt_of_le (by simp) M1.out.room
                  have q1_2 : w5.cell? ⟨w.heap.size + 1, 2, none⟩ = some (.bool true) := Mw5.out.cell 1 2 rfl rfl
                  have q2_0 : w5.cell? ⟨w.heap.size + 1 + 1, 0, none⟩ = some (.int .u8 lc.kind) := Mw5.out.cell 2 0 rfl rfl
                  have q2_1 : w5.cell? ⟨w.heap.size + 1 + 1, 1, none⟩ = some (.int .i64 lc.n) := Mw5.out.cell 2 1 rfl rfl
                  have q2_2 : w5.cell? ⟨w.heap.size + 1 + 1, 2, none⟩ = some (.string lc.s) := Mw5.out.cell 2 2 rfl rfl
                  have q3_0 : w5.cell? ⟨w.heap.size + 1 + 1 + 1, 0, none⟩ = some (.int .u8 mc.kind) := Mw5.out.cell 3 0 rfl rfl
                  have q3_1 : w5.cell? ⟨w.heap.size + 1 + 1 + 1, 1, none⟩ = some (.int .i64 mc.n) := Mw5.out.cell 3 1 rfl rfl
                  have q3_2 : w5.cell? ⟨w.heap.size + 1 + 1 + 1, 2, none⟩ = some (.string mc.s) := Mw5.out.cell 3 2 rfl rfl
                  have g0 : ∀ j, w5.frozen? ⟨w.heap.size, j, none⟩ = false := Mw5.out.frozen 0 rfl
                  have g1 : ∀ j, w5.frozen? ⟨w.heap.size + 1, j, none⟩ = false := Mw5.out.frozen 1 rfl
                  have g2 : ∀ j, w5.frozen? ⟨w.heap.size + 1 + 1, j, none⟩ = false := Mw5.out.frozen 2 rfl
                  have g3 : ∀ j, w5.frozen? ⟨w.heap.size + 1 + 1 + 1, j, none⟩ = false := Mw5.out.frozen 3 rfl
                  have z0 : w.heap.size < w5.heap.size := Mw5.out.lt 0 (by simp)
                  have z1 : w.heap.size + 1 < w5.heap.size := Mw5.out.lt 1 (by simp)
                  have z2 : w.heap.size + 1 + 1 < w5.heap.size := Mw5.out.lt 2 (by simp)
                  have z3 : w.heap.size + 1 + 1 + 1 < w5.heap.size := Mw5.out.lt 3 (by simp)
                  clear hcb
                  go_wp2_with fail
                  refine (HL2.out _).mono ?_
                  rintro e w6 ⟨rfl, hb⟩
                  have hst_0 : Mem w.heap.size [#[.int .i64 0, .int .i64 0, .bool false, .bool false, .int .u8 0, .int .i64 0, .string ⟨#[]⟩, .int .u8 0, .int .i64 0, .string ⟨#[]⟩], #[.int .i64 (n : Int), .int .i64 (nl : Int), .bool true, .bool false, .int .u8 0, .int .i64 0, .string ⟨#[]⟩, .int .u8 0, .int .i64 0, .string ⟨#[]⟩], #[.int .u8 x.kind, .int .i64 lc.n, .string lc.s], #[.int .u8 mc.kind, .int .i64 mc.n, .string mc.s]] w (w5.setCell ⟨w.heap.size + 1 + 1, 0, none⟩ (.int .u8 x.kind)) := Mw5.out.set 2 0 (.int .u8 x.kind) rfl (by simp)
                  have hst_1 : Mem w.heap.size [#[.int .i64 0, .int .i64 0, .bool false, .bool false, .int .u8 0, .int .i64 0, .string ⟨#[]⟩, .int .u8 0, .int .i64 0, .string ⟨#[]⟩], #[.int .i64 (n : Int), .int .i64 (nl : Int), .bool true, .bool false, .int .u8 0, .int .i64 0, .string ⟨#[]⟩, .int .u8 0, .int .i64 0, .string ⟨#[]⟩], #[.int .u8 x.kind, .int .i64 x.n, .string lc.s], #[.int .u8 mc.kind, .int .i64 mc.n, .string mc.s]] w ((w5.setCell ⟨w.heap.size + 1 + 1, 0, none⟩ (.int .u8 x.kind)).setCell ⟨w.heap.size + 1 + 1, 1, none⟩ (.int .i64 x.n)) := hst_0.set 2 1 (.int .i64 x.n) rfl (by simp)
                  have hst_2 : Mem w.heap.size [#[.int .i64 0, .int .i64 0, .bool false, .bool false, .int .u8 0, .int .i64 0, .string ⟨#[]⟩, .int .u8 0, .int .i64 0, .string ⟨#[]⟩], #[.int .i64 (n : Int), .int .i64 (nl : Int), .bool true, .bool false, .int .u8 0, .int .i64 0, .string ⟨#[]⟩, .int .u8 0, .int .i64 0, .string ⟨#[]⟩], #[.int .u8 x.kind, .int .i64 x.n, .string x.s], #[.int .u8 mc.kind, .int .i64 mc.n, .string mc.s]] w (((w5.setCell ⟨w.heap.size + 1 + 1, 0, none⟩ (.int .u8 x.kind)).setCell ⟨w.heap.size + 1 + 1, 1, none⟩ (.int .i64 x.n)).setCell ⟨w.heap.size + 1 + 1, 2, none⟩ (.string x.s)) := hst_1.set 2 2 (.string x.s) rfl (by simp)
                  clear q1_2 q2_0 q2_1 q2_2 q3_0 q3_1 q3_2 g0 g1 g2 g3 z0 z1 z2 z3
                  have hm : Mem w.heap.size [#[.int .i64 0, .int .i64 0, .bool false, .bool false, .int .u8 0, .int .i64 0, .string ⟨#[]⟩, .int .u8 0, .int .i64 0, .string ⟨#[]⟩], #[.int .i64 (n : Int), .int .i64 (nl : Int), .bool true, .bool false, .int .u8 0, .int .i64 0, .string ⟨#[]⟩, .int .u8 0, .int .i64 0, .string ⟨#[]⟩], #[.int .u8 x.kind, .int .i64 x.n, .string x.s], #[.int .u8 mc.kind, .int .i64 mc.n, .string mc.s]] w w6 := hst_2.call hb
                  have Mw6 := Lib.hid hm
                  clear hm hst_0 hst_1 hst_2
                  have hcb : CellsAt w6 wr.heap.size #[.int .u8 x.kind, .int .i64 x.n, .string x.s] := (((HCC.out.setFar (by first | omega | (simp; omega)) _).setFar (by first | omega | (simp; omega)) _).setFar (by first | omega | (simp; omega)) _).below hb (by simpa using hcz)
                  have hcz6 : wr.heap.size < w6.heap.size := by have := hb.size; (try simp at this); omega
                  clear hb hcz t0 t1 t2
                  have t0 : w6.cell? ⟨wr.heap.size, 0, none⟩ = some (.int .u8 x.kind) := hcb 0 _ rfl
                  have t1 : w6.cell? ⟨wr.heap.size, 1, none⟩ = some (.int .i64 x.n) := hcb 1 _ rfl
                  have t2 : w6.cell? ⟨wr.heap.size, 2, none⟩ = some (.string x.s) := hcb 2 _ rfl
                  clear hcb
                  have q1_2 : w6.cell? ⟨w.heap.size + 1, 2, none⟩ = some (.bool true) := Mw6.out.cell 1 2 rfl rfl
                  have q2_0 : w6.cell? ⟨w.heap.size + 1 + 1, 0, none⟩ = some (.int .u8 x.kind) := Mw6.out.cell 2 0 rfl rfl
                  have q2_1 : w6.cell? ⟨w.heap.size + 1 + 1, 1, none⟩ = some (.int .i64 x.n) := Mw6.out.cell 2 1 rfl rfl
                  have q2_2 : w6.cell? ⟨w.heap.size + 1 + 1, 2, none⟩ = some (.string x.s) := Mw6.out.cell 2 2 rfl rfl
                  have q3_0 : w6.cell? ⟨w.heap.size + 1 + 1 + 1, 0, none⟩ = some (.int .u8 mc.kind) := Mw6.out.cell 3 0 rfl rfl
                  have q3_1 : w6.cell? ⟨w.heap.size + 1 + 1 + 1, 1, none⟩ = some (.int .i64 mc.n) := Mw6.out.cell 3 1 rfl rfl
                  have q3_2 : w6.cell? ⟨w.heap.size + 1 + 1 + 1, 2, none⟩ = some (.string mc.s) := Mw6.out.cell 3 2 rfl rfl
                  have g0 : ∀ j, w6.frozen? ⟨w.heap.size, j, none⟩ = false := Mw6.out.frozen 0 rfl
                  have g1 : ∀ j, w6.frozen? ⟨w.heap.size + 1, j, none⟩ = false := Mw6.out.frozen 1 rfl
                  have g2 : ∀ j, w6.frozen? ⟨w.heap.size + 1 + 1, j, none⟩ = false := Mw6.out.frozen 2 rfl
                  have g3 : ∀ j, w6.frozen? ⟨w.heap.size + 1 + 1 + 1, j, none⟩ = false := Mw6.out.frozen 3 rfl
                  have z0 : w.heap.size < w6.heap.size := Mw6.out.lt 0 (by simp)
                  have z1 : w.heap.size + 1 < w6.heap.size := Mw6.out.lt 1 (by simp)
                  have z2 : w.heap.size + 1 + 1 < w6.heap.size := Mw6.out.lt 2 (by simp)
                  have z3 : w.heap.size + 1 + 1 + 1 < w6.heap.size := Mw6.out.lt 3 (by simp)
                  go_wp2
                  go_roundw
                  case rel =>
                    refine ⟨k + 1, nl, x, x, true, cz, by omega, rfl, by go_num, ?_, ?_⟩
                    · rw [foldSt_snoc HX.out, HFOLD.out]
                      exact rstep_some HK0.out (if_pos (.inr HD1.out)) (if_pos (.inr HD2.out)) HOK2.out
                    · have hst_0 : Mem w.heap.size [#[.int .i64 0, .int .i64 0, .bool false, .bool false, .int .u8 0, .int .i64 0, .string ⟨#[]⟩, .int .u8 0, .int .i64 0, .string ⟨#[]⟩], #[.int .i64 (n : Int), .int .i64 (nl : Int), .bool true, .bool false, .int .u8 0, .int .i64 0, .string ⟨#[]⟩, .int .u8 0, .int .i64 0, .string ⟨#[]⟩], #[.int .u8 x.kind, .int .i64 x.n, .string x.s], #[.int .u8 x.kind, .int .i64 mc.n, .string mc.s]] w (w6.setCell ⟨w.heap.size + 1 + 1 + 1, 0, none⟩ (.int .u8 x.kind)) := Mw6.out.set 3 0 (.int .u8 x.kind) rfl (by simp)
                      have hst_1 : Mem w.heap.size [#[.int .i64 0, .int .i64 0, .bool false, .bool false, .int .u8 0, .int .i64 0, .string ⟨#[]⟩, .int .u8 0, .int .i64 0, .string ⟨#[]⟩], #[.int .i64 (n : Int), .int .i64 (nl : Int), .bool true, .bool false, .int .u8 0, .int .i64 0, .string ⟨#[]⟩, .int .u8 0, .int .i64 0, .string ⟨#[]⟩], #[.int .u8 x.kind, .int .i64 x.n, .string x.s], #[.int .u8 x.kind, .int .i64 x.n, .string mc.s]] w ((w6.setCell ⟨w.heap.size + 1 + 1 + 1, 0, none⟩ (.int .u8 x.kind)).setCell ⟨w.heap.size + 1 + 1 + 1, 1, none⟩ (.int .i64 x.n)) := hst_0.set 3 1 (.int .i64 x.n) rfl (by simp)
                      have hst_2 : Mem w.heap.size [#[.int .i64 0, .int .i64 0, .bool false, .bool false, .int .u8 0, .int .i64 0, .string ⟨#[]⟩, .int .u8 0, .int .i64 0, .string ⟨#[]⟩], #[.int .i64 (n : Int), .int .i64 (nl : Int), .bool true, .bool false, .int .u8 0, .int .i64 0, .string ⟨#[]⟩, .int .u8 0, .int .i64 0, .string ⟨#[]⟩], #[.int .u8 x.kind, .int .i64 x.n, .string x.s], #[.int .u8 x.kind, .int .i64 x.n, .string x.s]] w (((w6.setCell ⟨w.heap.size + 1 + 1 + 1, 0, none⟩ (.int .u8 x.kind)).setCell ⟨w.heap.size + 1 + 1 + 1, 1, none⟩ (.int .i64 x.n)).setCell ⟨w.heap.size + 1 + 1 + 1, 2, none⟩ (.string x.s)) := hst_1.set 3 2 (.string x.s) rfl (by simp)
                      have hst_3 : Mem w.heap.size [#[.int .i64 0, .int .i64 0, .bool false, .bool false, .int .u8 0, .int .i64 0, .string ⟨#[]⟩, .int .u8 0, .int .i64 0, .string ⟨#[]⟩], #[.int .i64 (n : Int), .int .i64 (nl : Int), .bool true, .bool false, .int .u8 0, .int .i64 0, .string ⟨#[]⟩, .int .u8 0, .int .i64 0, .string ⟨#[]⟩], #[.int .u8 x.kind, .int .i64 x.n, .string x.s], #[.int .u8 x.kind, .int .i64 x.n, .string x.s]] w ((((w6.setCell ⟨w.heap.size + 1 + 1 + 1, 0, none⟩ (.int .u8 x.kind)).setCell ⟨w.heap.size + 1 + 1 + 1, 1, none⟩ (.int .i64 x.n)).setCell ⟨w.heap.size + 1 + 1 + 1, 2, none⟩ (.string x.s)).setCell ⟨w.heap.size + 1, 2, none⟩ (.bool true)) := hst_2.set 1 2 (.bool true) rfl (by simp)
                      exact hst_3
                  case measure => simp [intOf] <;> omega
                · have HL1 := Lib.hid (HLESS.out x lc)
                  have HL2 := Lib.hid (HLESS.out mc x)
                  rw [show decide (LessC x lc) = true by simp [hl1]] at HL1
                  rw [show decide (LessC mc x) = false by simp [hl2]] at HL2
                  unfold CellD.cells at HL1 HL2
                  have HD1 := Lib.hid hl1
                  have HD2 := Lib.hid hl2
                  clear hl1 hl2
                  go_wp2_with fail
                  refine (HL1.out _).mono ?_
                  rintro e w5 ⟨rfl, hb⟩
                  clear q1_2 q2_0 q2_1 q2_2 q3_0 q3_1 q3_2 g0 g1 g2 g3 z0 z1 z2 z3
                  have hm : Mem w.heap.size [#[.int .i64 0, .int .i64 0, .bool false, .bool false, .int .u8 0, .int .i64 0, .string ⟨#[]⟩, .int .u8 0, .int .i64 0, .string ⟨#[]⟩], #[.int .i64 (n : Int), .int .i64 (nl : Int), .bool true, .bool false, .int .u8 0, .int .i64 0, .string ⟨#[]⟩, .int .u8 0, .int .i64 0, .string ⟨#[]⟩], #[.int .u8 lc.kind, .int .i64 lc.n, .string lc.s], #[.int .u8 mc.kind, .int .i64 mc.n, .string mc.s]] w w5 := Mw4.out.call hb
                  have Mw5 := Lib.hid hm
                  clear hm
                  have hcb := HCB.out.below hb hcz
                  have HCC := Lib.hid hcb
                  have hcz5 := Nat.lt_of_lt_of_le hcz hb.size
                  clear hcz
                  have hcz := hcz5
                  clear hcz5
                  clear hb
                  have t0 : w5.cell? ⟨wr.heap.size, 0, none⟩ = some (.int .u8 x.kind) := hcb 0 _ rfl
                  have t1 : w5.cell? ⟨wr.heap.size, 1, none⟩ = some (.int .i64 x.n) := hcb 1 _ rfl
                  have t2 : w5.cell? ⟨wr.heap.size, 2, none⟩ = some (.string x.s) := hcb 2 _ rfl
                  have tne : w.heap.size + 1 + 1 + 1 < wr.heap.size := Nat.lt_of_lt_of_le (by simp) M1.out.room
                  have q1_2 : w5.cell? ⟨w.heap.size + 1, 2, none⟩ = some (.bool true) := Mw5.out.cell 1 2 rfl rfl
                  have q2_0 : w5.cell? ⟨w.heap.size + 1 + 1, 0, none⟩ = some (.int .u8 lc.kind) := Mw5.out.cell 2 0 rfl rfl
                  have q2_1 : w5.cell? ⟨w.heap.size + 1 + 1, 1, none⟩ = some (.int .i64 lc.n) := Mw5.out.cell 2 1 rfl rfl
                  have q2_2 : w5.cell? ⟨w.heap.size + 1 + 1, 2, none⟩ = some (.string lc.s) := Mw5.out.cell 2 2 rfl rfl
                  have q3_0 : w5.cell? ⟨w.heap.size + 1 + 1 + 1, 0, none⟩ = some (.int .u8 mc.kind) := Mw5.out.cell 3 0 rfl rfl
                  have q3_1 : w5.cell? ⟨w.heap.size + 1 + 1 + 1, 1, none⟩ = some (.int .i64 mc.n) := Mw5.out.cell 3 1 rfl rfl
                  have q3_2 : w5.cell? ⟨w.heap.size + 1 + 1 + 1, 2, none⟩ = some (.string mc.s) := Mw5.out.cell 3 2 rfl rfl
                  have g0 : ∀ j, w5.frozen? ⟨w.heap.size, j, none⟩ = false := Mw5.out.frozen 0 rfl
                  have g1 : ∀ j, w5.frozen? ⟨w.heap.size + 1, j, none⟩ = false := Mw5.out.frozen 1 rfl
                  have g2 : ∀ j, w5.frozen? ⟨w.heap.size + 1 + 1, j, none⟩ = false := Mw5.out.frozen 2 rfl
                  have g3 : ∀ j, w5.frozen? ⟨w.heap.size + 1 + 1 + 1, j, none⟩ = false := Mw5.out.frozen 3 rfl
                  have z0 : w.heap.size < w5.heap.size := Mw5.out.lt 0 (by simp)
                  have z1 : w.heap.size + 1 < w5.heap.size := Mw5.out.lt 1 (by simp)
                  have z2 : w.heap.size + 1 + 1 < w5.heap.size := Mw5.out.lt 2 (by simp)
                  have z3 : w.heap.size + 1 + 1 + 1 < w5.heap.size := Mw5.out.lt 3 (by simp)
                  clear hcb
                  go_wp2_with fail
                  refine (HL2.out _).mono ?_
                  rintro e w6 ⟨rfl, hb⟩
                  have hst_0 : Mem w.heap.size [#[.int .i64 0, .int .i64 0, .bool false, .bool false, .int .u8 0, .int .i64 0, .string ⟨#[]⟩, .int .u8 0, .int .i64 0, .string ⟨#[]⟩], #[.int .i64 (n : Int), .int .i64 (nl : Int), .bool true, .bool false, .int .u8 0, .int .i64 0, .string ⟨#[]⟩, .int .u8 0, .int .i64 0, .string ⟨#[]⟩], #[.int .u8 x.kind, .int .i64 lc.n, .string lc.s], #[.int .u8 mc.kind, .int .i64 mc.n, .string mc.s]] w (w5.setCell ⟨w.heap.size + 1 + 1, 0, none⟩ (.int .u8 x.kind)) := Mw5.out.set 2 0 (.int .u8 x.kind) rfl (by simp)
                  have hst_1 : Mem w.heap.size [#[.int .i64 0, .int .i64 0, .bool false, .bool false, .int .u8 0, .int .i64 0, .string ⟨#[]⟩, .int .u8 0, .int .i64 0, .string ⟨#[]⟩], #[.int .i64 (n : Int), .int .i64 (nl : Int), .bool true, .bool false, .int .u8 0, .int .i64 0, .string ⟨#[]⟩, .int .u8 0, .int .i64 0, .string ⟨#[]⟩], #[.int .u8 x.kind, .int .i64 x.n, .string lc.s], #[.int .u8 mc.kind, .int .i64 mc.n, .string mc.s]] w ((w5.setCell ⟨w.heap.size + 1 + 1, 0, none⟩ (.int .u8 x.kind)).setCell ⟨w.heap.size + 1 + 1, 1, none⟩ (.int .i64 x.n)) := hst_0.set 2 1 (.int .i64 x.n) rfl (by simp)
                  have hst_2 : Mem w.heap.size [#[.int .i64 0, .int .i64 0, .bool false, .bool false, .int .u8 0, .int .i64 0, .string ⟨#[]⟩, .int .u8 0, .int .i64 0, .string ⟨#[]⟩], #[.int .i64 (n : Int), .int .i64 (nl : Int), .bool true, .bool false, .int .u8 0, .int .i64 0, .string ⟨#[]⟩, .int .u8 0, .int .i64 0, .string ⟨#[]⟩], #[.int .u8 x.kind, .int .i64 x.n, .string x.s], #[.int .u8 mc.kind, .int .i64 mc.n, .string mc.s]] w (((w5.setCell ⟨w.heap.size + 1 + 1, 0, none⟩ (.int .u8 x.kind)).setCell ⟨w.heap.size + 1 + 1, 1, none⟩ (.int .i64 x.n)).setCell ⟨w.heap.size + 1 + 1, 2, none⟩ (.string x.s)) := hst_1.set 2 2 (.string x.s) rfl (by simp)
                  clear q1_2 q2_0 q2_1 q2_2 q3_0 q3_1 q3_2 g0 g1 g2 g3 z0 z1 z2 z3
                  have hm : Mem w.heap.size [#[.int .i64 0, .int .i64 0, .bool false, .bool false, .int .u8 0, .int .i64 0, .string ⟨#[]⟩, .int .u8 0, .int .i64 0, .string ⟨#[]⟩], #[.int .i64 (n : Int), .int .i64 (nl : Int), .bool true, .bool false, .int .u8 0, .int .i64 0, .string ⟨#[]⟩, .int .u8 0, .int .i64 0, .string ⟨#[]⟩], #[.int .u8 x.kind, .int .i64 x.n, .string x.s], #[.int .u8 mc.kind, .int .i64 mc.n, .string mc.s]] w w6 := hst_2.call hb
                  have Mw6 := Lib.hid hm
                  clear hm hst_0 hst_1 hst_2
                  have hcb : CellsAt w6 wr.heap.size #[.int .u8 x.kind, .int .i64 x.n, .string x.s] := (((HCC.out.setFar (by first | omega | (simp; omega)) _).setFar (by first | omega | (simp; omega)) _).setFar (by first | omega | (simp; omega)) _).below hb (by simpa using hcz)
                  have hcz6 : wr.heap.size < w6.heap.size := by have := hb.size; (try simp at this); omega
                  clear hb hcz t0 t1 t2
                  have t0 : w6.cell? ⟨wr.heap.size, 0, none⟩ = some (.int .u8 x.kind) := hcb 0 _ rfl
                  have t1 : w6.cell? ⟨wr.heap.size, 1, none⟩ = some (.int .i64 x.n) := hcb 1 _ rfl
                  have t2 : w6.cell? ⟨wr.heap.size, 2, none⟩ = some (.string x.s) := hcb 2 _ rfl
                  clear hcb
                  have q1_2 : w6.cell? ⟨w.heap.size + 1, 2, none⟩ = some (.bool true) := Mw6.out.cell 1 2 rfl rfl
                  have q2_0 : w6.cell? ⟨w.heap.size + 1 + 1, 0, none⟩ = some (.int .u8 x.kind) := Mw6.out.cell 2 0 rfl rfl
                  have q2_1 : w6.cell? ⟨w.heap.size + 1 + 1, 1, none⟩ = some (.int .i64 x.n) := Mw6.out.cell 2 1 rfl rfl
                  have q2_2 : w6.cell? ⟨w.heap.size + 1 + 1, 2, none⟩ = some (.string x.s) := Mw6.out.cell 2 2 rfl rfl
                  have q3_0 : w6.cell? ⟨w.heap.size + 1 + 1 + 1, 0, none⟩ = some (.int .u8 mc.kind) := Mw6.out.cell 3 0 rfl rfl
                  have q3_1 : w6.cell? ⟨w.heap.size + 1 + 1 + 1, 1, none⟩ = some (.int .i64 mc.n) := Mw6.out.cell 3 1 rfl rfl
                  have q3_2 : w6.cell? ⟨w.heap.size + 1 + 1 + 1, 2, none⟩ = some (.string mc.s) := Mw6.out.cell 3 2 rfl rfl
                  have g0 : ∀ j, w6.frozen? ⟨w.heap.size, j, none⟩ = false := Mw6.out.frozen 0 rfl
                  have g1 : ∀ j, w6.frozen? ⟨w.heap.size + 1, j, none⟩ = false := Mw6.out.frozen 1 rfl
                  have g2 : ∀ j, w6.frozen? ⟨w.heap.size + 1 + 1, j, none⟩ = false := Mw6.out.frozen 2 rfl
                  have g3 : ∀ j, w6.frozen? ⟨w.heap.size + 1 + 1 + 1, j, none⟩ = false := Mw6.out.frozen 3 rfl
                  have z0 : w.heap.size < w6.heap.size := Mw6.out.lt 0 (by simp)
                  have z1 : w.heap.size + 1 < w6.heap.size := Mw6.out.lt 1 (by simp)
                  have z2 : w.heap.size + 1 + 1 < w6.heap.size := Mw6.out.lt 2 (by simp)
                  have z3 : w.heap.size + 1 + 1 + 1 < w6.heap.size := Mw6.out.lt 3 (by simp)
                  go_wp2
                  go_roundw
                  case rel =>
                    refine ⟨k + 1, nl, x, mc, true, cz, by omega, rfl, by go_num, ?_, ?_⟩
                    · rw [foldSt_snoc HX.out, HFOLD.out]
                      exact rstep_some HK0.out (if_pos (.inr HD1.out)) (if_neg (fun h => h.elim (fun h => by cases h) HD2.out)) HOK2.out
                    · have hst_0 : Mem w.heap.size [#[.int .i64 0, .int .i64 0, .bool false, .bool false, .int .u8 0, .int .i64 0, .string ⟨#[]⟩, .int .u8 0, .int .i64 0, .string ⟨#[]⟩], #[.int .i64 (n : Int), .int .i64 (nl : Int), .bool true, .bool false, .int .u8 0, .int .i64 0, .string ⟨#[]⟩, .int .u8 0, .int .i64 0, .string ⟨#[]⟩], #[.int .u8 x.kind, .int .i64 x.n, .string x.s], #[.int .u8 mc.kind, .int .i64 mc.n, .string mc.s]] w (w6.setCell ⟨w.heap.size + 1, 2, none⟩ (.bool true)) := Mw6.out.set 1 2 (.bool true) rfl (by simp)
                      exact hst_0
                  case measure => simp [intOf] <;> omega
              · by_cases hl2 : LessC mc x
                · have HL1 := Lib.hid (HLESS.out x lc)
                  have HL2 := Lib.hid (HLESS.out mc x)
                  rw [show decide (LessC x lc) = false by simp [hl1]] at HL1
                  rw [show decide (LessC mc x) = true by simp [hl2]] at HL2
                  unfold CellD.cells at HL1 HL2
                  have HD1 := Lib.hid hl1
                  have HD2 := Lib.hid hl2
                  clear hl1 hl2
                  go_wp2_with fail
                  refine (HL1.out _).mono ?_
                  rintro e w5 ⟨rfl, hb⟩
                  clear q1_2 q2_0 q2_1 q2_2 q3_0 q3_1 q3_2 g0 g1 g2 g3 z0 z1 z2 z3
                  have hm : Mem w.heap.size [#[.int .i64 0, .int .i64 0, .bool false, .bool false, .int .u8 0, .int .i64 0, .string ⟨#[]⟩, .int .u8 0, .int .i64 0, .string ⟨#[]⟩], #[.int .i64 (n : Int), .int .i64 (nl : Int), .bool true, .bool false, .int .u8 0, .int .i64 0, .string ⟨#[]⟩, .int .u8 0, .int .i64 0, .string ⟨#[]⟩], #[.int .u8 lc.kind, .int .i64 lc.n, .string lc.s], #[.int .u8 mc.kind, .int .i64 mc.n, .string mc.s]] w w5 := Mw4.out.call hb
                  have Mw5 := Lib.hid hm
                  clear hm
                  have hcb := HCB.out.below hb hcz
                  have HCC := Lib.hid hcb
                  have hcz5 := Nat.lt_of_lt_of_le hcz hb.size
                  clear hcz
                  have hcz := hcz5
                  clear hcz5
                  clear hb
                  have t0 : w5.cell? ⟨wr.heap.size, 0, none⟩ = some (.int .u8 x.kind) := hcb 0 _ rfl
                  have t1 : w5.cell? ⟨wr.heap.size, 1, none⟩ = some (.int .i64 x.n) := hcb 1 _ rfl
                  have t2 : w5.cell? ⟨wr.heap.size, 2, none⟩ = some (.string x.s) := hcb 2 _ rfl
                  have tne : w.heap.size + 1 + 1 + 1 < wr.heap.size := Nat.lt_of_lt_of_le (by simp) M1.out.room
                  have q1_2 : w5.cell? ⟨w.heap.size + 1, 2, none⟩ = some (.bool true) := Mw5.out.cell 1 2 rfl rfl
                  have q2_0 : w5.cell? ⟨w.heap.size + 1 + 1, 0, none⟩ = some (.int .u8 lc.kind) := Mw5.out.cell 2 0 rfl rfl
                  have q2_1 : w5.cell? ⟨w.heap.size + 1 + 1, 1, none⟩ = some (.int .i64 lc.n) := Mw5.out.cell 2 1 rfl rfl
                  have q2_2 : w5.cell? ⟨w.heap.size + 1 + 1, 2, none⟩ = some (.string lc.s) := Mw5.out.cell 2 2 rfl rfl
                  have q3_0 : w5.cell? ⟨w.heap.size + 1 + 1 + 1, 0, none⟩ = some (.int .u8 mc.kind) := Mw5.out.cell 3 0 rfl rfl
                  have q3_1 : w5.cell? ⟨w.heap.size + 1 + 1 + 1, 1, none⟩ = some (.int .i64 mc.n) := Mw5.out.cell 3 1 rfl rfl
                  have q3_2 : w5.cell? ⟨w.heap.size + 1 + 1 + 1, 2, none⟩ = some (.string mc.s) := Mw5.out.cell 3 2 rfl rfl
                  have g0 : ∀ j, w5.frozen? ⟨w.heap.size, j, none⟩ = false := Mw5.out.frozen 0 rfl
                  have g1 : ∀ j, w5.frozen? ⟨w.heap.size + 1, j, none⟩ = false := Mw5.out.frozen 1 rfl
                  have g2 : ∀ j, w5.frozen? ⟨w.heap.size + 1 + 1, j, none⟩ = false := Mw5.out.frozen 2 rfl
                  have g3 : ∀ j, w5.frozen? ⟨w.heap.size + 1 + 1 + 1, j, none⟩ = false := Mw5.out.frozen 3 rfl
                  have z0 : w.heap.size < w5.heap.size := Mw5.out.lt 0 (by simp)
                  have z1 : w.heap.size + 1 < w5.heap.size := Mw5.out.lt 1 (by simp)
                  have z2 : w.heap.size + 1 + 1 < w5.heap.size := Mw5.out.lt 2 (by simp)
                  have z3 : w.heap.size + 1 + 1 + 1 < w5.heap.size := Mw5.out.lt 3 (by simp)
                  clear hcb
                  go_wp2_with fail
                  refine (HL2.out _).mono ?_
                  rintro e w6 ⟨rfl, hb⟩
                  clear q1_2 q2_0 q2_1 q2_2 q3_0 q3_1 q3_2 g0 g1 g2 g3 z0 z1 z2 z3
                  have hm : Mem w.heap.size [#[.int .i64 0, .int .i64 0, .bool false, .bool false, .int .u8 0, .int .i64 0, .string ⟨#[]⟩, .int .u8 0, .int .i64 0, .string ⟨#[]⟩], #[.int .i64 (n : Int), .int .i64 (nl : Int), .bool true, .bool false, .int .u8 0, .int .i64 0, .string ⟨#[]⟩, .int .u8 0, .int .i64 0, .string ⟨#[]⟩], #[.int .u8 lc.kind, .int .i64 lc.n, .string lc.s], #[.int .u8 mc.kind, .int .i64 mc.n, .string mc.s]] w w6 := Mw5.out.call hb
                  have Mw6 := Lib.hid hm
                  clear hm
                  have hcb : CellsAt w6 wr.heap.size #[.int .u8 x.kind, .int .i64 x.n, .string x.s] := HCC.out.below hb hcz
                  have hcz6 : wr.heap.size < w6.heap.size := by have := hb.size; (try simp at this); omega
                  clear hb hcz t0 t1 t2
                  have t0 : w6.cell? ⟨wr.heap.size, 0, none⟩ = some (.int .u8 x.kind) := hcb 0 _ rfl
                  have t1 : w6.cell? ⟨wr.heap.size, 1, none⟩ = some (.int .i64 x.n) := hcb 1 _ rfl
                  have t2 : w6.cell? ⟨wr.heap.size, 2, none⟩ = some (.string x.s) := hcb 2 _ rfl
                  clear hcb
                  have q1_2 : w6.cell? ⟨w.heap.size + 1, 2, none⟩ = some (.bool true) := Mw6.out.cell 1 2 rfl rfl
                  have q2_0 : w6.cell? ⟨w.heap.size + 1 + 1, 0, none⟩ = some (.int .u8 lc.kind) := Mw6.out.cell 2 0 rfl rfl
                  have q2_1 : w6.cell? ⟨w.heap.size + 1 + 1, 1, none⟩ = some (.int .i64 lc.n) := Mw6.out.cell 2 1 rfl rfl
                  have q2_2 : w6.cell? ⟨w.heap.size + 1 + 1, 2, none⟩ = some (.string lc.s) := Mw6.out.cell 2 2 rfl rfl
                  have q3_0 : w6.cell? ⟨w.heap.size + 1 + 1 + 1, 0, none⟩ = some (.int .u8 mc.kind) := Mw6.out.cell 3 0 rfl rfl
                  have q3_1 : w6.cell? ⟨w.heap.size + 1 + 1 + 1, 1, none⟩ = some (.int .i64 mc.n) := Mw6.out.cell 3 1 rfl rfl
                  have q3_2 : w6.cell? ⟨w.heap.size + 1 + 1 + 1, 2, none⟩ = some (.string mc.s) := Mw6.out.cell 3 2 rfl rfl
                  have g0 : ∀ j, w6.frozen? ⟨w.heap.size, j, none⟩ = false := Mw6.out.frozen 0 rfl
                  have g1 : ∀ j, w6.frozen? ⟨w.heap.size + 1, j, none⟩ = false := Mw6.out.frozen 1 rfl
                  have g2 : ∀ j, w6.frozen? ⟨w.heap.size + 1 + 1, j, none⟩ = false := Mw6.out.frozen 2 rfl
                  have g3 : ∀ j, w6.frozen? ⟨w.heap.size + 1 + 1 + 1, j, none⟩ = false := Mw6.out.frozen 3 rfl
                  have z0 : w.heap.size < w6.heap.size := Mw6.out.lt 0 (by simp)
                  have z1 : w.heap.size + 1 < w6.heap.size := Mw6.out.lt 1 (by simp)
                  have z2 : w.heap.size + 1 + 1 < w6.heap.size := Mw6.out.lt 2 (by simp)
                  have z3 : w.heap.size + 1 + 1 + 1 < w6.heap.size := Mw6.out.lt 3 (by simp)
                  go_wp2
                  go_roundw
                  case rel =>
                    refine ⟨k + 1, nl, lc, x, true, cz, by omega, rfl, by go_num, ?_, ?_⟩
                    · rw [foldSt_snoc HX.out, HFOLD.out]
                      exact rstep_some HK0.out (if_neg (fun h => h.elim (fun h => by cases h) HD1.out)) (if_pos (.inr HD2.out)) HOK2.out
                    · have hst_0 : Mem w.heap.size [#[.int .i64 0, .int .i64 0, .bool false, .bool false, .int .u8 0, .int .i64 0, .string ⟨#[]⟩, .int .u8 0, .int .i64 0, .string ⟨#[]⟩], #[.int .i64 (n : Int), .int .i64 (nl : Int), .bool true, .bool false, .int .u8 0, .int .i64 0, .string ⟨#[]⟩, .int .u8 0, .int .i64 0, .string ⟨#[]⟩], #[.int .u8 lc.kind, .int .i64 lc.n, .string lc.s], #[.int .u8 x.kind, .int .i64 mc.n, .string mc.s]] w (w6.setCell ⟨w.heap.size + 1 + 1 + 1, 0, none⟩ (.int .u8 x.kind)) := Mw6.out.set 3 0 (.int .u8 x.kind) rfl (by simp)
                      have hst_1 : Mem w.heap.size [#[.int .i64 0, .int .i64 0, .bool false, .bool false, .int .u8 0, .int .i64 0, .string ⟨#[]⟩, .int .u8 0, .int .i64 0, .string ⟨#[]⟩], #[.int .i64 (n : Int), .int .i64 (nl : Int), .bool true, .bool false, .int .u8 0, .int .i64 0, .string ⟨#[]⟩, .int .u8 0, .int .i64 0, .string ⟨#[]⟩], #[.int .u8 lc.kind, .int .i64 lc.n, .string lc.s], #[.int .u8 x.kind, .int .i64 x.n, .string mc.s]] w ((w6.setCell ⟨w.heap.size + 1 + 1 + 1, 0, none⟩ (.int .u8 x.kind)).setCell ⟨w.heap.size + 1 + 1 + 1, 1, none⟩ (.int .i64 x.n)) := hst_0.set 3 1 (.int .i64 x.n) rfl (by simp)
                      have hst_2 : Mem w.heap.size [#[.int .i64 0, .int .i64 0, .bool false, .bool false, .int .u8 0, .int .i64 0, .string ⟨#[]⟩, .int .u8 0, .int .i64 0, .string ⟨#[]⟩], #[.int .i64 (n : Int), .int .i64 (nl : Int), .bool true, .bool false, .int .u8 0, .int .i64 0, .string ⟨#[]⟩, .int .u8 0, .int .i64 0, .string ⟨#[]⟩], #[.int .u8 lc.kind, .int .i64 lc.n, .string lc.s], #[.int .u8 x.kind, .int .i64 x.n, .string x.s]] w (((w6.setCell ⟨w.heap.size + 1 + 1 + 1, 0, none⟩ (.int .u8 x.kind)).setCell ⟨w.heap.size + 1 + 1 + 1, 1, none⟩ (.int .i64 x.n)).setCell ⟨w.heap.size + 1 + 1 + 1, 2, none⟩ (.string x.s)) := hst_1.set 3 2 (.string x.s) rfl (by simp)
                      have hst_3 : Mem w.heap.size [#[.int .i64 0, .int .i64 0, .bool false, .bool false, .int .u8 0, .int .i64 0, .string ⟨#[]⟩, .int .u8 0, .int .i64 0, .string ⟨#[]⟩], #[.int .i64 (n : Int), .int .i64 (nl : Int), .bool true, .bool false, .int .u8 0, .int .i64 0, .string ⟨#[]⟩, .int .u8 0, .int .i64 0, .string ⟨#[]⟩], #[.int .u8 lc.kind, .int .i64 lc.n, .string lc.s], #[.int .u8 x.kind, .int .i64 x.n, .string x.s]] w ((((w6.setCell ⟨w.heap.size + 1 + 1 + 1, 0, none⟩ (.int .u8 x.kind)).setCell ⟨w.heap.size + 1 + 1 + 1, 1, none⟩ (.int .i64 x.n)).setCell ⟨w.heap.size + 1 + 1 + 1, 2, none⟩ (.string x.s)).setCell ⟨w.heap.size + 1, 2, none⟩ (.bool true)) := hst_2.set 1 2 (.bool true) rfl (by simp)
                      exact hst_3
                  case measure => simp [intOf] <;> omega
                · have HL1 := Lib.hid (HLESS.out x lc)
                  have HL2 := Lib.hid (HLESS.out mc x)
                  rw [show decide (LessC x lc) = false by simp [hl1]] at HL1
                  rw [show decide (LessC mc x) = false by simp [hl2]] at HL2
                  unfold CellD.cells at HL1 HL2
                  have HD1 := Lib.hid hl1
                  have HD2 := Lib.hid hl2
                  clear hl1 hl2
                  go_wp2_with fail
                  refine (HL1.out _).mono ?_
                  rintro e w5 ⟨rfl, hb⟩
                  clear q1_2 q2_0 q2_1 q2_2 q3_0 q3_1 q3_2 g0 g1 g2 g3 z0 z1 z2 z3
                  have hm : Mem w.heap.size [#[.int .i64 0, .int .i64 0, .bool false, .bool false, .int .u8 0, .int .i64 0, .string ⟨#[]⟩, .int .u8 0, .int .i64 0, .string ⟨#[]⟩], #[.int .i64 (n : Int), .int .i64 (nl : Int), .bool true, .bool false, .int .u8 0, .int .i64 0, .string ⟨#[]⟩, .int .u8 0, .int .i64 0, .string ⟨#[]⟩], #[.int .u8 lc.kind, .int .i64 lc.n, .string lc.s], #[.int .u8 mc.kind, .int .i64 mc.n, .string mc.s]] w w5 := Mw4.out.call hb
                  have Mw5 := Lib.hid hm
                  clear hm
                  have hcb := HCB.out.below hb hcz
                  have HCC := Lib.hid hcb
                  have hcz5 := Nat.lt_of_lt_of_le hcz hb.size
                  clear hcz
                  have hcz := hcz5
                  clear hcz5
                  clear hb
                  have t0 : w5.cell? ⟨wr.heap.size, 0, none⟩ = some (.int .u8 x.kind) := hcb 0 _ rfl
                  have t1 : w5.cell? ⟨wr.heap.size, 1, none⟩ = some (.int .i64 x.n) := hcb 1 _ rfl
                  have t2 : w5.cell? ⟨wr.heap.size, 2, none⟩ = some (.string x.s) := hcb 2 _ rfl
                  have tne : w.heap.size + 1 + 1 + 1 < wr.heap.size := Nat.lt_of_lt_of_le (by simp) M1.out.room
                  have q1_2 : w5.cell? ⟨w.heap.size + 1, 2, none⟩ = some (.bool true) := Mw5.out.cell 1 2 rfl rfl
                  have q2_0 : w5.cell? ⟨w.heap.size + 1 + 1, 0, none⟩ = some (.int .u8 lc.kind) := Mw5.out.cell 2 0 rfl rfl
                  have q2_1 : w5.cell? ⟨w.heap.size + 1 + 1, 1, none⟩ = some (.int .i64 lc.n) := Mw5.out.cell 2 1 rfl rfl
                  have q2_2 : w5.cell? ⟨w.heap.size + 1 + 1, 2, none⟩ = some (.string lc.s) := Mw5.out.cell 2 2 rfl rfl
                  have q3_0 : w5.cell? ⟨w.heap.size + 1 + 1 + 1, 0, none⟩ = some (.int .u8 mc.kind) := Mw5.out.cell 3 0 rfl rfl
                  have q3_1 : w5.cell? ⟨w.heap.size + 1 + 1 + 1, 1, none⟩ = some (.int .i64 mc.n) := Mw5.out.cell 3 1 rfl rfl
                  have q3_2 : w5.cell? ⟨w.heap.size + 1 + 1 + 1, 2, none⟩ = some (.string mc.s) := Mw5.out.cell 3 2 rfl rfl
                  have g0 : ∀ j, w5.frozen? ⟨w.heap.size, j, none⟩ = false := Mw5.out.frozen 0 rfl
                  have g1 : ∀ j, w5.frozen? ⟨w.heap.size + 1, j, none⟩ = false := Mw5.out.frozen 1 rfl
                  have g2 : ∀ j, w5.frozen? ⟨w.heap.size + 1 + 1, j, none⟩ = false := Mw5.out.frozen 2 rfl
                  have g3 : ∀ j, w5.frozen? ⟨w.heap.size + 1 + 1 + 1, j, none⟩ = false := Mw5.out.frozen 3 rfl
                  have z0 : w.heap.size < w5.heap.size := Mw5.out.lt 0 (by simp)
                  have z1 : w.heap.size + 1 < w5.heap.size := Mw5.out.lt 1 (by simp)
                  have z2 : w.heap.size + 1 + 1 < w5.heap.size := Mw5.out.lt 2 (by simp)
                  have z3 : w.heap.size + 1 + 1 + 1 < w5.heap.size := Mw5.out.lt 3 (by simp)
                  clear hcb
                  go_wp2_with fail
                  refine (HL2.out _).mono ?_
                  rintro e w6 ⟨rfl, hb⟩
                  clear q1_2 q2_0 q2_1 q2_2 q3_0 q3_1 q3_2 g0 g1 g2 g3 z0 z1 z2 z3
                  have hm : Mem w.heap.size [#[.int .i64 0, .int .i64 0, .bool false, .bool false, .int .u8 0, .int .i64 0, .string ⟨#[]⟩, .int .u8 0, .int .i64 0, .string ⟨#[]⟩], #[.int .i64 (n : Int), .int .i64 (nl : Int), .bool true, .bool false, .int .u8 0, .int .i64 0, .string ⟨#[]⟩, .int .u8 0, .int .i64 0, .string ⟨#[]⟩], #[.int .u8 lc.kind, .int .i64 lc.n, .string lc.s], #[.int .u8 mc.kind, .int .i64 mc.n, .string mc.s]] w w6 := Mw5.out.call hb
                  have Mw6 := Lib.hid hm
                  clear hm
                  have hcb : CellsAt w6 wr.heap.size #[.int .u8 x.kind, .int .i64 x.n, .string x.s] := HCC.out.below hb hcz
                  have hcz6 : wr.heap.size < w6.heap.size := by have := hb.size; (try simp at this); omega
                  clear hb hcz t0 t1 t2
                  have t0 : w6.cell? ⟨wr.heap.size, 0, none⟩ = some (.int .u8 x.kind) := hcb 0 _ rfl
                  have t1 : w6.cell? ⟨wr.heap.size, 1, none⟩ = some (.int .i64 x.n) := hcb 1 _ rfl
                  have t2 : w6.cell? ⟨wr.heap.size, 2, none⟩ = some (.string x.s) := hcb 2 _ rfl
                  clear hcb
                  have q1_2 : w6.cell? ⟨w.heap.size + 1, 2, none⟩ = some (.bool true) := Mw6.out.cell 1 2 rfl rfl
                  have q2_0 : w6.cell? ⟨w.heap.size + 1 + 1, 0, none⟩ = some (.int .u8 lc.kind) := Mw6.out.cell 2 0 rfl rfl
                  have q2_1 : w6.cell? ⟨w.heap.size + 1 + 1, 1, none⟩ = some (.int .i64 lc.n) := Mw6.out.cell 2 1 rfl rfl
                  have q2_2 : w6.cell? ⟨w.heap.size + 1 + 1, 2, none⟩ = some (.string lc.s) := Mw6.out.cell 2 2 rfl rfl
                  have q3_0 : w6.cell? ⟨w.heap.size + 1 + 1 + 1, 0, none⟩ = some (.int .u8 mc.kind) := Mw6.out.cell 3 0 rfl rfl
                  have q3_1 : w6.cell? ⟨w.heap.size + 1 + 1 + 1, 1, none⟩ = some (.int .i64 mc.n) := Mw6.out.cell 3 1 rfl rfl
                  have q3_2 : w6.cell? ⟨w.heap.size + 1 + 1 + 1, 2, none⟩ = some (.string mc.s) := Mw6.out.cell 3 2 rfl rfl
                  have g0 : ∀ j, w6.frozen? ⟨w.heap.size, j, none⟩ = false := Mw6.out.frozen 0 rfl
                  have g1 : ∀ j, w6.frozen? ⟨w.heap.size + 1, j, none⟩ = false := Mw6.out.frozen 1 rfl
                  have g2 : ∀ j, w6.frozen? ⟨w.heap.size + 1 + 1, j, none⟩ = false := Mw6.out.frozen 2 rfl
                  have g3 : ∀ j, w6.frozen? ⟨w.heap.size + 1 + 1 + 1, j, none⟩ = false := Mw6.out.frozen 3 rfl
                  have z0 : w.heap.size < w6.heap.size := Mw6.out.lt 0 (by simp)
                  have z1 : w.heap.size + 1 < w6.heap.size := Mw6.out.lt 1 (by simp)
                  have z2 : w.heap.size + 1 + 1 < w6.heap.size := Mw6.out.lt 2 (by simp)
                  have z3 : w.heap.size + 1 + 1 + 1 < w6.heap.size := Mw6.out.lt 3 (by simp)
                  go_wp2
                  go_roundw
                  case rel =>
                    refine ⟨k + 1, nl, lc, mc, true, cz, by omega, rfl, by go_num, ?_, ?_⟩
                    · rw [foldSt_snoc HX.out, HFOLD.out]
                      exact rstep_some HK0.out (if_neg (fun h => h.elim (fun h => by cases h) HD1.out)) (if_neg (fun h => h.elim (fun h => by cases h) HD2.out)) HOK2.out
                    · have hst_0 : Mem w.heap.size [#[.int .i64 0, .int .i64 0, .bool false, .bool false, .int .u8 0, .int .i64 0, .string ⟨#[]⟩, .int .u8 0, .int .i64 0, .string ⟨#[]⟩], #[.int .i64 (n : Int), .int .i64 (nl : Int), .bool true, .bool false, .int .u8 0, .int .i64 0, .string ⟨#[]⟩, .int .u8 0, .int .i64 0, .string ⟨#[]⟩], #[.int .u8 lc.kind, .int .i64 lc.n, .string lc.s], #[.int .u8 mc.kind, .int .i64 mc.n, .string mc.s]] w (w6.setCell ⟨w.heap.size + 1, 2, none⟩ (.bool true)) := Mw6.out.set 1 2 (.bool true) rfl (by simp)
                      exact hst_0
                  case measure => simp [intOf] <;> omega
        · have hx3i : (x.kind == 3) = false := by rw [beq_eq_false_iff_ne]; exact hx3
          have HOK2 := Lib.hid (show (ok && (if x.kind = 3 then clean x.s else true)) = ok by rw [if_neg hx3]; simp)
          clear hx3
          cases sm
          · have q1_2 : wr.cell? ⟨w.heap.size + 1, 2, none⟩ = some (.bool false) := M1.out.cell 1 2 rfl rfl
            have q2_0 : wr.cell? ⟨w.heap.size + 1 + 1, 0, none⟩ = some (.int .u8 lc.kind) := M1.out.cell 2 0 rfl rfl
            have q2_1 : wr.cell? ⟨w.heap.size + 1 + 1, 1, none⟩ = some (.int .i64 lc.n) := M1.out.cell 2 1 rfl rfl
            have q2_2 : wr.cell? ⟨w.heap.size + 1 + 1, 2, none⟩ = some (.string lc.s) := M1.out.cell 2 2 rfl rfl
            have q3_0 : wr.cell? ⟨w.heap.size + 1 + 1 + 1, 0, none⟩ = some (.int .u8 mc.kind) := M1.out.cell 3 0 rfl rfl
            have q3_1 : wr.cell? ⟨w.heap.size + 1 + 1 + 1, 1, none⟩ = some (.int .i64 mc.n) := M1.out.cell 3 1 rfl rfl
            have q3_2 : wr.cell? ⟨w.heap.size + 1 + 1 + 1, 2, none⟩ = some (.string mc.s) := M1.out.cell 3 2 rfl rfl
            have g0 : ∀ j, wr.frozen? ⟨w.heap.size, j, none⟩ = false := M1.out.frozen 0 rfl
            have g1 : ∀ j, wr.frozen? ⟨w.heap.size + 1, j, none⟩ = false := M1.out.frozen 1 rfl
            have g2 : ∀ j, wr.frozen? ⟨w.heap.size + 1 + 1, j, none⟩ = false := M1.out.frozen 2 rfl
            have g3 : ∀ j, wr.frozen? ⟨w.heap.size + 1 + 1 + 1, j, none⟩ = false := M1.out.frozen 3 rfl
            have z0 : w.heap.size < wr.heap.size := M1.out.lt 0 (by simp)
            have z1 : w.heap.size + 1 < wr.heap.size := M1.out.lt 1 (by simp)
            have z2 : w.heap.size + 1 + 1 < wr.heap.size := M1.out.lt 2 (by simp)
            have z3 : w.heap.size + 1 + 1 + 1 < wr.heap.size := M1.out.lt 3 (by simp)
            go_wp2
            go_roundw
            case rel =>
              refine ⟨k + 1, nl, x, x, true, ok, by omega, rfl, by go_num, ?_, ?_⟩
              · rw [foldSt_snoc HX.out, HFOLD.out]
                exact rstep_some HK0.out (if_pos (.inl rfl)) (if_pos (.inl rfl)) HOK2.out
              · have hst_0 : Mem w.heap.size [#[.int .i64 0, .int .i64 0, .bool false, .bool false, .int .u8 0, .int .i64 0, .string ⟨#[]⟩, .int .u8 0, .int .i64 0, .string ⟨#[]⟩], #[.int .i64 (n : Int), .int .i64 (nl : Int), .bool false, .bool false, .int .u8 0, .int .i64 0, .string ⟨#[]⟩, .int .u8 0, .int .i64 0, .string ⟨#[]⟩], #[.int .u8 x.kind, .int .i64 lc.n, .string lc.s], #[.int .u8 mc.kind, .int .i64 mc.n, .string mc.s]] w (wr.setCell ⟨w.heap.size + 1 + 1, 0, none⟩ (.int .u8 x.kind)) := M1.out.set 2 0 (.int .u8 x.kind) rfl (by simp)
                have hst_1 : Mem w.heap.size [#[.int .i64 0, .int .i64 0, .bool false, .bool false, .int .u8 0, .int .i64 0, .string ⟨#[]⟩, .int .u8 0, .int .i64 0, .string ⟨#[]⟩], #[.int .i64 (n : Int), .int .i64 (nl : Int), .bool false, .bool false, .int .u8 0, .int .i64 0, .string ⟨#[]⟩, .int .u8 0, .int .i64 0, .string ⟨#[]⟩], #[.int .u8 x.kind, .int .i64 x.n, .string lc.s], #[.int .u8 mc.kind, .int .i64 mc.n, .string mc.s]] w ((wr.setCell ⟨w.heap.size + 1 + 1, 0, none⟩ (.int .u8 x.kind)).setCell ⟨w.heap.size + 1 + 1, 1, none⟩ (.int .i64 x.n)) := hst_0.set 2 1 (.int .i64 x.n) rfl (by simp)
                have hst_2 : Mem w.heap.size [#[.int .i64 0, .int .i64 0, .bool false, .bool false, .int .u8 0, .int .i64 0, .string ⟨#[]⟩, .int .u8 0, .int .i64 0, .string ⟨#[]⟩], #[.int .i64 (n : Int), .int .i64 (nl : Int), .bool false, .bool false, .int .u8 0, .int .i64 0, .string ⟨#[]⟩, .int .u8 0, .int .i64 0, .string ⟨#[]⟩], #[.int .u8 x.kind, .int .i64 x.n, .string x.s], #[.int .u8 mc.kind, .int .i64 mc.n, .string mc.s]] w (((wr.setCell ⟨w.heap.size + 1 + 1, 0, none⟩ (.int .u8 x.kind)).setCell ⟨w.heap.size + 1 + 1, 1, none⟩ (.int .i64 x.n)).setCell ⟨w.heap.size + 1 + 1, 2, none⟩ (.string x.s)) := hst_1.set 2 2 (.string x.s) rfl (by simp)
                have hst_3 : Mem w.heap.size [#[.int .i64 0, .int .i64 0, .bool false, .bool false, .int .u8 0, .int .i64 0, .string ⟨#[]⟩, .int .u8 0, .int .i64 0, .string ⟨#[]⟩], #[.int .i64 (n : Int), .int .i64 (nl : Int), .bool false, .bool false, .int .u8 0, .int .i64 0, .string ⟨#[]⟩, .int .u8 0, .int .i64 0, .string ⟨#[]⟩], #[.int .u8 x.kind, .int .i64 x.n, .string x.s], #[.int .u8 x.kind, .int .i64 mc.n, .string mc.s]] w ((((wr.setCell ⟨w.heap.size + 1 + 1, 0, none⟩ (.int .u8 x.kind)).setCell ⟨w.heap.size + 1 + 1, 1, none⟩ (.int .i64 x.n)).setCell ⟨w.heap.size + 1 + 1, 2, none⟩ (.string x.s)).setCell ⟨w.heap.size + 1 + 1 + 1, 0, none⟩ (.int .u8 x.kind)) := hst_2.set 3 0 (.int .u8 x.kind) rfl (by simp)
                have hst_4 : Mem w.heap.size [#[.int .i64 0, .int .i64 0, .bool false, .bool false, .int .u8 0, .int .i64 0, .string ⟨#[]⟩, .int .u8 0, .int .i64 0, .string ⟨#[]⟩], #[.int .i64 (n : Int), .int .i64 (nl : Int), .bool false, .bool false, .int .u8 0, .int .i64 0, .string ⟨#[]⟩, .int .u8 0, .int .i64 0, .string ⟨#[]⟩], #[.int .u8 x.kind, .int .i64 x.n, .string x.s], #[.int .u8 x.kind, .int .i64 x.n, .string mc.s]] w (((((wr.setCell ⟨w.heap.size + 1 + 1, 0, none⟩ (.int .u8 x.kind)).setCell ⟨w.heap.size + 1 + 1, 1, none⟩ (.int .i64 x.n)).setCell ⟨w.heap.size + 1 + 1, 2, none⟩ (.string x.s)).setCell ⟨w.heap.size + 1 + 1 + 1, 0, none⟩ (.int .u8 x.kind)).setCell ⟨w.heap.size + 1 + 1 + 1, 1, none⟩ (.int .i64 x.n)) := hst_3.set 3 1 (.int .i64 x.n) rfl (by simp)
                have hst_5 : Mem w.heap.size [#[.int .i64 0, .int .i64 0, .bool false, .bool false, .int .u8 0, .int .i64 0, .string ⟨#[]⟩, .int .u8 0, .int .i64 0, .string ⟨#[]⟩], #[.int .i64 (n : Int), .int .i64 (nl : Int), .bool false, .bool false, .int .u8 0, .int .i64 0, .string ⟨#[]⟩, .int .u8 0, .int .i64 0, .string ⟨#[]⟩], #[.int .u8 x.kind, .int .i64 x.n, .string x.s], #[.int .u8 x.kind, .int .i64 x.n, .string x.s]] w ((((((wr.setCell ⟨w.heap.size + 1 + 1, 0, none⟩ (.int .u8 x.kind)).setCell ⟨w.heap.size + 1 + 1, 1, none⟩ (.int .i64 x.n)).setCell ⟨w.heap.size + 1 + 1, 2, none⟩ (.string x.s)).setCell ⟨w.heap.size + 1 + 1 + 1, 0, none⟩ (.int .u8 x.kind)).setCell ⟨w.heap.size + 1 + 1 + 1, 1, none⟩ (.int .i64 x.n)).setCell ⟨w.heap.size + 1 + 1 + 1, 2, none⟩ (.string x.s)) := hst_4.set 3 2 (.string x.s) rfl (by simp)
                have hst_6 : Mem w.heap.size [#[.int .i64 0, .int .i64 0, .bool false, .bool false, .int .u8 0, .int .i64 0, .string ⟨#[]⟩, .int .u8 0, .int .i64 0, .string ⟨#[]⟩], #[.int .i64 (n : Int), .int .i64 (nl : Int), .bool true, .bool false, .int .u8 0, .int .i64 0, .string ⟨#[]⟩, .int .u8 0, .int .i64 0, .string ⟨#[]⟩], #[.int .u8 x.kind, .int .i64 x.n, .string x.s], #[.int .u8 x.kind, .int .i64 x.n, .string x.s]] w (((((((wr.setCell ⟨w.heap.size + 1 + 1, 0, none⟩ (.int .u8 x.kind)).setCell ⟨w.heap.size + 1 + 1, 1, none⟩ (.int .i64 x.n)).setCell ⟨w.heap.size + 1 + 1, 2, none⟩ (.string x.s)).setCell ⟨w.heap.size + 1 + 1 + 1, 0, none⟩ (.int .u8 x.kind)).setCell ⟨w.heap.size + 1 + 1 + 1, 1, none⟩ (.int .i64 x.n)).setCell ⟨w.heap.size + 1 + 1 + 1, 2, none⟩ (.string x.s)).setCell ⟨w.heap.size + 1, 2, none⟩ (.bool true)) := hst_5.set 1 2 (.bool true) rfl (by simp)
                exact hst_6.alloc (.cells #[.int .u8 x.kind, .int .i64 x.n, .string x.s] 26)
            case measure => simp [intOf] <;> omega
          · have q1_2 : wr.cell? ⟨w.heap.size + 1, 2, none⟩ = some (.bool true) := M1.out.cell 1 2 rfl rfl
            have q2_0 : wr.cell? ⟨w.heap.size + 1 + 1, 0, none⟩ = some (.int .u8 lc.kind) := M1.out.cell 2 0 rfl rfl
            have q2_1 : wr.cell? ⟨w.heap.size + 1 + 1, 1, none⟩ = some (.int .i64 lc.n) := M1.out.cell 2 1 rfl rfl
            have q2_2 : wr.cell? ⟨w.heap.size + 1 + 1, 2, none⟩ = some (.string lc.s) := M1.out.cell 2 2 rfl rfl
            have q3_0 : wr.cell? ⟨w.heap.size + 1 + 1 + 1, 0, none⟩ = some (.int .u8 mc.kind) := M1.out.cell 3 0 rfl rfl
            have q3_1 : wr.cell? ⟨w.heap.size + 1 + 1 + 1, 1, none⟩ = some (.int .i64 mc.n) := M1.out.cell 3 1 rfl rfl
            have q3_2 : wr.cell? ⟨w.heap.size + 1 + 1 + 1, 2, none⟩ = some (.string mc.s) := M1.out.cell 3 2 rfl rfl
            have g0 : ∀ j, wr.frozen? ⟨w.heap.size, j, none⟩ = false := M1.out.frozen 0 rfl
            have g1 : ∀ j, wr.frozen? ⟨w.heap.size + 1, j, none⟩ = false := M1.out.frozen 1 rfl
            have g2 : ∀ j, wr.frozen? ⟨w.heap.size + 1 + 1, j, none⟩ = false := M1.out.frozen 2 rfl
            have g3 : ∀ j, wr.frozen? ⟨w.heap.size + 1 + 1 + 1, j, none⟩ = false := M1.out.frozen 3 rfl
            have z0 : w.heap.size < wr.heap.size := M1.out.lt 0 (by simp)
            have z1 : w.heap.size + 1 < wr.heap.size := M1.out.lt 1 (by simp)
            have z2 : w.heap.size + 1 + 1 < wr.heap.size := M1.out.lt 2 (by simp)
            have z3 : w.heap.size + 1 + 1 + 1 < wr.heap.size := M1.out.lt 3 (by simp)
            by_cases hl1 : LessC x lc
            · by_cases hl2 : LessC mc x
              · have HL1 := Lib.hid (HLESS.out x lc)
                have HL2 := Lib.hid (HLESS.out mc x)
                rw [show decide (LessC x lc) = true by simp [hl1]] at HL1
                rw [show decide (LessC mc x) = true by simp [hl2]] at HL2
                unfold CellD.cells at HL1 HL2
                have HD1 := Lib.hid hl1
                have HD2 := Lib.hid hl2
                clear hl1 hl2
                go_wp2_with fail
                have hcb : CellsAt (wr.alloc (.cells #[.int .u8 x.kind, .int .i64 x.n, .string x.s] 26)) wr.heap.size #[.int .u8 x.kind, .int .i64 x.n, .string x.s] := CellsAt.alloc_new _ _ _
                have HCB := Lib.hid hcb
                clear hcb
                refine (HL1.out _).mono ?_
                rintro e w5 ⟨rfl, hb⟩
                clear q1_2 q2_0 q2_1 q2_2 q3_0 q3_1 q3_2 g0 g1 g2 g3 z0 z1 z2 z3
                have hm : Mem w.heap.size [#[.int .i64 0, .int .i64 0, .bool false, .bool false, .int .u8 0, .int .i64 0, .string ⟨#[]⟩, .int .u8 0, .int .i64 0, .string ⟨#[]⟩], #[.int .i64 (n : Int), .int .i64 (nl : Int), .bool true, .bool false, .int .u8 0, .int .i64 0, .string ⟨#[]⟩, .int .u8 0, .int .i64 0, .string ⟨#[]⟩], #[.int .u8 lc.kind, .int .i64 lc.n, .string lc.s], #[.int .u8 mc.kind, .int .i64 mc.n, .string mc.s]] w w5 := (M1.out.alloc (.cells #[.int .u8 x.kind, .int .i64 x.n, .string x.s] 26)).call hb
                have Mw5 := Lib.hid hm
                clear hm
                have hcb := HCB.out.below hb (by simp)
                have HCC := Lib.hid hcb
                have hcz : wr.heap.size < w5.heap.size := by have := hb.size; (try simp at this); omega
                clear hb
                have t0 : w5.cell? ⟨wr.heap.size, 0, none⟩ = some (.int .u8 x.kind) := hcb 0 _ rfl
                have t1 : w5.cell? ⟨wr.heap.size, 1, none⟩ = some (.int .i64 x.n) := hcb 1 _ rfl
                have t2 : w5.cell? ⟨wr.heap.size, 2, none⟩ = some (.string x.s) := hcb 2 _ rfl
                have tne : w.heap.size + 1 + 1 + 1 < wr.heap.size := Nat.lt_of_lt_of_le (by simp) M1.out.room
                have q1_2 : w5.cell? ⟨w.heap.size + 1, 2, none⟩ = some (.bool true) := Mw5.out.cell 1 2 rfl rfl
                have q2_0 : w5.cell? ⟨w.heap.size + 1 + 1, 0, none⟩ = some (.int .u8 lc.kind) := Mw5.out.cell 2 0 rfl rfl
                have q2_1 : w5.cell? ⟨w.heap.size + 1 + 1, 1, none⟩ = some (.int .i64 lc.n) := Mw5.out.cell 2 1 rfl rfl
                have q2_2 : w5.cell? ⟨w.heap.size + 1 + 1, 2, none⟩ = some (.string lc.s) := Mw5.out.cell 2 2 rfl rfl
                have q3_0 : w5.cell? ⟨w.heap.size + 1 + 1 + 1, 0, none⟩ = some (.int .u8 mc.kind) := Mw5.out.cell 3 0 rfl rfl
                have q3_1 : w5.cell? ⟨w.heap.size + 1 + 1 + 1, 1, none⟩ = some (.int .i64 mc.n) := Mw5.out.cell 3 1 rfl rfl
                have q3_2 : w5.cell? ⟨w.heap.size + 1 + 1 + 1, 2, none⟩ = some (.string mc.s) := Mw5.out.cell 3 2 rfl rfl
                have g0 : ∀ j, w5.frozen? ⟨w.heap.size, j, none⟩ = false := Mw5.out.frozen 0 rfl
                have g1 : ∀ j, w5.frozen? ⟨w.heap.size + 1, j, none⟩ = false := Mw5.out.frozen 1 rfl
                have g2 : ∀ j, w5.frozen? ⟨w.heap.size + 1 + 1, j, none⟩ = false := Mw5.out.frozen 2 rfl
                have g3 : ∀ j, w5.frozen? ⟨w.heap.size + 1 + 1 + 1, j, none⟩ = false := Mw5.out.frozen 3 rfl
                have z0 : w.heap.size < w5.heap.size := Mw5.out.lt 0 (by simp)
                have z1 : w.heap.size + 1 < w5.heap.size := Mw5.out.lt 1 (by simp)
                have z2 : w.heap.size + 1 + 1 < w5.heap.size := Mw5.out.lt 2 (by simp)
                have z3 : w.heap.size + 1 + 1 + 1 < w5.heap.size := Mw5.out.lt 3 (by simp)
                clear hcb
                go_wp2_with fail
                refine (HL2.out _).mono ?_
                rintro e w6 ⟨rfl, hb⟩
                have hst_0 : Mem w.heap.size [#[.int .i64 0, .int .i64 0, .bool false, .bool false, .int .u8 0, .int .i64 0, .string ⟨#[]⟩, .int .u8 0, .int .i64 0, .string ⟨#[]⟩], #[.int .i64 (n : Int), .int .i64 (nl : Int), .bool true, .bool false, .int .u8 0, .int .i64 0, .string ⟨#[]⟩, .int .u8 0, .int .i64 0, .string ⟨#[]⟩], #[.int .u8 x.kind, .int .i64 lc.n, .string lc.s], #[.int .u8 mc.kind, .int .i64 mc.n, .string mc.s]] w (w5.setCell ⟨w.heap.size + 1 + 1, 0, none⟩ (.int .u8 x.kind)) := Mw5.out.set 2 0 (.int .u8 x.kind) rfl (by simp)
                have hst_1 : Mem w.heap.size [#[.int .i64 0, .int .i64 0, .bool false, .bool false, .int .u8 0, .int .i64 0, .string ⟨#[]⟩, .int .u8 0, .int .i64 0, .string ⟨#[]⟩], #[.int .i64 (n : Int), .int .i64 (nl : Int), .bool true, .bool false, .int .u8 0, .int .i64 0, .string ⟨#[]⟩, .int .u8 0, .int .i64 0, .string ⟨#[]⟩], #[.int .u8 x.kind, .int .i64 x.n, .string lc.s], #[.int .u8 mc.kind, .int .i64 mc.n, .string mc.s]] w ((w5.setCell ⟨w.heap.size + 1 + 1, 0, none⟩ (.int .u8 x.kind)).setCell ⟨w.heap.size + 1 + 1, 1, none⟩ (.int .i64 x.n)) := hst_0.set 2 1 (.int .i64 x.n) rfl (by simp)
                have hst_2 : Mem w.heap.size [#[.int .i64 0, .int .i64 0, .bool false, .bool false, .int .u8 0, .int .i64 0, .string ⟨#[]⟩, .int .u8 0, .int .i64 0, .string ⟨#[]⟩], #[.int .i64 (n : Int), .int .i64 (nl : Int), .bool true, .bool false, .int .u8 0, .int .i64 0, .string ⟨#[]⟩, .int .u8 0, .int .i64 0, .string ⟨#[]⟩], #[.int .u8 x.kind, .int .i64 x.n, .string x.s], #[.int .u8 mc.kind, .int .i64 mc.n, .string mc.s]] w (((w5.setCell ⟨w.heap.size + 1 + 1, 0, none⟩ (.int .u8 x.kind)).setCell ⟨w.heap.size + 1 + 1, 1, none⟩ (.int .i64 x.n)).setCell ⟨w.heap.size + 1 + 1, 2, none⟩ (.string x.s)) := hst_1.set 2 2 (.string x.s) rfl (by simp)
                clear q1_2 q2_0 q2_1 q2_2 q3_0 q3_1 q3_2 g0 g1 g2 g3 z0 z1 z2 z3
                have hm : Mem w.heap.size [#[.int .i64 0, .int .i64 0, .bool false, .bool false, .int .u8 0, .int .i64 0, .string ⟨#[]⟩, .int .u8 0, .int .i64 0, .string ⟨#[]⟩], #[.int .i64 (n : Int), .int .i64 (nl : Int), .bool true, .bool false, .int .u8 0, .int .i64 0, .string ⟨#[]⟩, .int .u8 0, .int .i64 0, .string ⟨#[]⟩], #[.int .u8 x.kind, .int .i64 x.n, .string x.s], #[.int .u8 mc.kind, .int .i64 mc.n, .string mc.s]] w w6 := hst_2.call hb
                have Mw6 := Lib.hid hm
                clear hm hst_0 hst_1 hst_2
                have hcb : CellsAt w6 wr.heap.size #[.int .u8 x.kind, .int .i64 x.n, .string x.s] := (((HCC.out.setFar (by first | omega | (simp; omega)) _).setFar (by first | omega | (simp; omega)) _).setFar (by first | omega | (simp; omega)) _).below hb (by simpa using hcz)
                have hcz6 : wr.heap.size < w6.heap.size := by have := hb.size; (try simp at this); omega
                clear hb hcz t0 t1 t2
                have t0 : w6.cell? ⟨wr.heap.size, 0, none⟩ = some (.int .u8 x.kind) := hcb 0 _ rfl
                have t1 : w6.cell? ⟨wr.heap.size, 1, none⟩ = some (.int .i64 x.n) := hcb 1 _ rfl
                have t2 : w6.cell? ⟨wr.heap.size, 2, none⟩ = some (.string x.s) := hcb 2 _ rfl
                clear hcb
                have q1_2 : w6.cell? ⟨w.heap.size + 1, 2, none⟩ = some (.bool true) := Mw6.out.cell 1 2 rfl rfl
                have q2_0 : w6.cell? ⟨w.heap.size + 1 + 1, 0, none⟩ = some (.int .u8 x.kind) := Mw6.out.cell 2 0 rfl rfl
                have q2_1 : w6.cell? ⟨w.heap.size + 1 + 1, 1, none⟩ = some (.int .i64 x.n) := Mw6.out.cell 2 1 rfl rfl
                have q2_2 : w6.cell? ⟨w.heap.size + 1 + 1, 2, none⟩ = some (.string x.s) := Mw6.out.cell 2 2 rfl rfl
                have q3_0 : w6.cell? ⟨w.heap.size + 1 + 1 + 1, 0, none⟩ = some (.int .u8 mc.kind) := Mw6.out.cell 3 0 rfl rfl
                have q3_1 : w6.cell? ⟨w.heap.size + 1 + 1 + 1, 1, none⟩ = some (.int .i64 mc.n) := Mw6.out.cell 3 1 rfl rfl
                have q3_2 : w6.cell? ⟨w.heap.size + 1 + 1 + 1, 2, none⟩ = some (.string mc.s) := Mw6.out.cell 3 2 rfl rfl
                have g0 : ∀ j, w6.frozen? ⟨w.heap.size, j, none⟩ = false := Mw6.out.frozen 0 rfl
                have g1 : ∀ j, w6.frozen? ⟨w.heap.size + 1, j, none⟩ = false := Mw6.out.frozen 1 rfl
                have g2 : ∀ j, w6.frozen? ⟨w.heap.size + 1 + 1, j, none⟩ = false := Mw6.out.frozen 2 rfl
                have g3 : ∀ j, w6.frozen? ⟨w.heap.size + 1 + 1 + 1, j, none⟩ = false := Mw6.out.frozen 3 rfl
                have z0 : w.heap.size < w6.heap.size := Mw6.out.lt 0 (by simp)
                have z1 : w.heap.size + 1 < w6.heap.size := Mw6.out.lt 1 (by simp)
                have z2 : w.heap.size + 1 + 1 < w6.heap.size := Mw6.out.lt 2 (by simp)
                have z3 : w.heap.size + 1 + 1 + 1 < w6.heap.size := Mw6.out.lt 3 (by simp)
                go_wp2
                go_roundw
                case rel =>
                  refine ⟨k + 1, nl, x, x, true, ok, by omega, rfl, by go_num, ?_, ?_⟩
                  · rw [foldSt_snoc HX.out, HFOLD.out]
                    exact rstep_some HK0.out (if_pos (.inr HD1.out)) (if_pos (.inr HD2.out)) HOK2.out
                  · have hst_0 : Mem w.heap.size [#[.int .i64 0, .int .i64 0, .bool false, .bool false, .int .u8 0, .int .i64 0, .string ⟨#[]⟩, .int .u8 0, .int .i64 0, .string ⟨#[]⟩], #[.int .i64 (n : Int), .int .i64 (nl : Int), .bool true, .bool false, .int .u8 0, .int .i64 0, .string ⟨#[]⟩, .int .u8 0, .int .i64 0, .string ⟨#[]⟩], #[.int .u8 x.kind, .int .i64 x.n, .string x.s], #[.int .u8 x.kind, .int .i64 mc.n, .string mc.s]] w (w6.setCell ⟨w.heap.size + 1 + 1 + 1, 0, none⟩ (.int .u8 x.kind)) := Mw6.out.set 3 0 (.int .u8 x.kind) rfl (by simp)
                    have hst_1 : Mem w.heap.size [#[.int .i64 0, .int .i64 0, .bool false, .bool false, .int .u8 0, .int .i64 0, .string ⟨#[]⟩, .int .u8 0, .int .i64 0, .string ⟨#[]⟩], #[.int .i64 (n : Int), .int .i64 (nl : Int), .bool true, .bool false, .int .u8 0, .int .i64 0, .string ⟨#[]⟩, .int .u8 0, .int .i64 0, .string ⟨#[]⟩], #[.int .u8 x.kind, .int .i64 x.n, .string x.s], #[.int .u8 x.kind, .int .i64 x.n, .string mc.s]] w ((w6.setCell ⟨w.heap.size + 1 + 1 + 1, 0, none⟩ (.int .u8 x.kind)).setCell ⟨w.heap.size + 1 + 1 + 1, 1, none⟩ (.int .i64 x.n)) := hst_0.set 3 1 (.int .i64 x.n) rfl (by simp)
                    have hst_2 : Mem w.heap.size [#[.int .i64 0, .int .i64 0, .bool false, .bool false, .int .u8 0, .int .i64 0, .string ⟨#[]⟩, .int .u8 0, .int .i64 0, .string ⟨#[]⟩], #[.int .i64 (n : Int), .int .i64 (nl : Int), .bool true, .bool false, .int .u8 0, .int .i64 0, .string ⟨#[]⟩, .int .u8 0, .int .i64 0, .string ⟨#[]⟩], #[.int .u8 x.kind, .int .i64 x.n, .string x.s], #[.int .u8 x.kind, .int .i64 x.n, .string x.s]] w (((w6.setCell ⟨w.heap.size + 1 + 1 + 1, 0, none⟩ (.int .u8 x.kind)).setCell ⟨w.heap.size + 1 + 1 + 1, 1, none⟩ (.int .i64 x.n)).setCell ⟨w.heap.size + 1 + 1 + 1, 2, none⟩ (.string x.s)) := hst_1.set 3 2 (.string x.s) rfl (by simp)
                    have hst_3 : Mem w.heap.size [#[.int .i64 0, .int .i64 0, .bool false, .bool false, .int .u8 0, .int .i64 0, .string ⟨#[]⟩, .int .u8 0, .int .i64 0, .string ⟨#[]⟩], #[.int .i64 (n : Int), .int .i64 (nl : Int), .bool true, .bool false, .int .u8 0, .int .i64 0, .string ⟨#[]⟩, .int .u8 0, .int .i64 0, .string ⟨#[]⟩], #[.int .u8 x.kind, .int .i64 x.n, .string x.s], #[.int .u8 x.kind, .int .i64 x.n, .string x.s]] w ((((w6.setCell ⟨w.heap.size + 1 + 1 + 1, 0, none⟩ (.int .u8 x.kind)).setCell ⟨w.heap.size + 1 + 1 + 1, 1, none⟩ (.int .i64 x.n)).setCell ⟨w.heap.size + 1 + 1 + 1, 2, none⟩ (.string x.s)).setCell ⟨w.heap.size + 1, 2, none⟩ (.bool true)) := hst_2.set 1 2 (.bool true) rfl (by simp)
                    exact hst_3
                case measure => simp [intOf] <;> omega
              · have HL1 := Lib.hid (HLESS.out x lc)
                have HL2 := Lib.hid (HLESS.out mc x)
                rw [show decide (LessC x lc) = true by simp [hl1]] at HL1
                rw [show decide (LessC mc x) = false by simp [hl2]] at HL2
                unfold CellD.cells at HL1 HL2
                have HD1 := Lib.hid hl1
                have HD2 := Lib.hid hl2
                clear hl1 hl2
                go_wp2_with fail
                have hcb : CellsAt (wr.alloc (.cells #[.int .u8 x.kind, .int .i64 x.n, .string x.s] 26)) wr.heap.size #[.int .u8 x.kind, .int .i64 x.n, .string x.s] := CellsAt.alloc_new _ _ _
                have HCB := Lib.hid hcb
                clear hcb
                refine (HL1.out _).mono ?_
                rintro e w5 ⟨rfl, hb⟩
                clear q1_2 q2_0 q2_1 q2_2 q3_0 q3_1 q3_2 g0 g1 g2 g3 z0 z1 z2 z3
                have hm : Mem w.heap.size [#[.int .i64 0, .int .i64 0, .bool false, .bool false, .int .u8 0, .int .i64 0, .string ⟨#[]⟩, .int .u8 0, .int .i64 0, .string ⟨#[]⟩], #[.int .i64 (n : Int), .int .i64 (nl : Int), .bool true, .bool false, .int .u8 0, .int .i64 0, .string ⟨#[]⟩, .int .u8 0, .int .i64 0, .string ⟨#[]⟩], #[.int .u8 lc.kind, .int .i64 lc.n, .string lc.s], #[.int .u8 mc.kind, .int .i64 mc.n, .string mc.s]] w w5 := (M1.out.alloc (.cells #[.int .u8 x.kind, .int .i64 x.n, .string x.s] 26)).call hb
                have Mw5 := Lib.hid hm
                clear hm
                have hcb := HCB.out.below hb (by simp)
                have HCC := Lib.hid hcb
                have hcz : wr.heap.size < w5.heap.size := by have := hb.size; (try simp at this); omega
                clear hb
                have t0 : w5.cell? ⟨wr.heap.size, 0, none⟩ = some (.int .u8 x.kind) := hcb 0 _ rfl
                have t1 : w5.cell? ⟨wr.heap.size, 1, none⟩ = some (.int .i64 x.n) := hcb 1 _ rfl
                have t2 : w5.cell? ⟨wr.heap.size, 2, none⟩ = some (.string x.s) := hcb 2 _ rfl
                have tne : w.heap.size + 1 + 1 + 1 < wr.heap.size := Nat.lt_of_lt_of_le (by simp) M1.out.room
                have q1_2 : w5.cell? ⟨w.heap.size + 1, 2, none⟩ = some (.bool true) := Mw5.out.cell 1 2 rfl rfl
                have q2_0 : w5.cell? ⟨w.heap.size + 1 + 1, 0, none⟩ = some (.int .u8 lc.kind) := Mw5.out.cell 2 0 rfl rfl
                have q2_1 : w5.cell? ⟨w.heap.size + 1 + 1, 1, none⟩ = some (.int .i64 lc.n) := Mw5.out.cell 2 1 rfl rfl
                have q2_2 : w5.cell? ⟨w.heap.size + 1 + 1, 2, none⟩ = some (.string lc.s) := Mw5.out.cell 2 2 rfl rfl
                have q3_0 : w5.cell? ⟨w.heap.size + 1 + 1 + 1, 0, none⟩ = some (.int .u8 mc.kind) := Mw5.out.cell 3 0 rfl rfl
                have q3_1 : w5.cell? ⟨w.heap.size + 1 + 1 + 1, 1, none⟩ = some (.int .i64 mc.n) := Mw5.out.cell 3 1 rfl rfl
                have q3_2 : w5.cell? ⟨w.heap.size + 1 + 1 + 1, 2, none⟩ = some (.string mc.s) := Mw5.out.cell 3 2 rfl rfl
                have g0 : ∀ j, w5.frozen? ⟨w.heap.size, j, none⟩ = false := Mw5.out.frozen 0 rfl
                have g1 : ∀ j, w5.frozen? ⟨w.heap.size + 1, j, none⟩ = false := Mw5.out.frozen 1 rfl
                have g2 : ∀ j, w5.frozen? ⟨w.heap.size + 1 + 1, j, none⟩ = false := Mw5.out.frozen 2 rfl
                have g3 : ∀ j, w5.frozen? ⟨w.heap.size + 1 + 1 + 1, j, none⟩ = false := Mw5.out.frozen 3 rfl
                have z0 : w.heap.size < w5.heap.size := Mw5.out.lt 0 (by simp)
                have z1 : w.heap.size + 1 < w5.heap.size := Mw5.out.lt 1 (by simp)
                have z2 : w.heap.size + 1 + 1 < w5.heap.size := Mw5.out.lt 2 (by simp)
                have z3 : w.heap.size + 1 + 1 + 1 < w5.heap.size := Mw5.out.lt 3 (by simp)
                clear hcb
                go_wp2_with fail
                refine (HL2.out _).mono ?_
                rintro e w6 ⟨rfl, hb⟩
                have hst_0 : Mem w.heap.size [#[.int .i64 0, .int .i64 0, .bool false, .bool false, .int .u8 0, .int .i64 0, .string ⟨#[]⟩, .int .u8 0, .int .i64 0, .string ⟨#[]⟩], #[.int .i64 (n : Int), .int .i64 (nl : Int), .bool true, .bool false, .int .u8 0, .int .i64 0, .string ⟨#[]⟩, .int .u8 0, .int .i64 0, .string ⟨#[]⟩], #[.int .u8 x.kind, .int .i64 lc.n, .string lc.s], #[.int .u8 mc.kind, .int .i64 mc.n, .string mc.s]] w (w5.setCell ⟨w.heap.size + 1 + 1, 0, none⟩ (.int .u8 x.kind)) := Mw5.out.set 2 0 (.int .u8 x.kind) rfl (by simp)
                have hst_1 : Mem w.heap.size [#[.int .i64 0, .int .i64 0, .bool false, .bool false, .int .u8 0, .int .i64 0, .string ⟨#[]⟩, .int .u8 0, .int .i64 0, .string ⟨#[]⟩], #[.int .i64 (n : Int), .int .i64 (nl : Int), .bool true, .bool false, .int .u8 0, .int .i64 0, .string ⟨#[]⟩, .int .u8 0, .int .i64 0, .string ⟨#[]⟩], #[.int .u8 x.kind, .int .i64 x.n, .string lc.s], #[.int .u8 mc.kind, .int .i64 mc.n, .string mc.s]] w ((w5.setCell ⟨w.heap.size + 1 + 1, 0, none⟩ (.int .u8 x.kind)).setCell ⟨w.heap.size + 1 + 1, 1, none⟩ (.int .i64 x.n)) := hst_0.set 2 1 (.int .i64 x.n) rfl (by simp)
                have hst_2 : Mem w.heap.size [#[.int .i64 0, .int .i64 0, .bool false, .bool false, .int .u8 0, .int .i64 0, .string ⟨#[]⟩, .int .u8 0, .int .i64 0, .string ⟨#[]⟩], #[.int .i64 (n : Int), .int .i64 (nl : Int), .bool true, .bool false, .int .u8 0, .int .i64 0, .string ⟨#[]⟩, .int .u8 0, .int .i64 0, .string ⟨#[]⟩], #[.int .u8 x.kind, .int .i64 x.n, .string x.s], #[.int .u8 mc.kind, .int .i64 mc.n, .string mc.s]] w (((w5.setCell ⟨w.heap.size + 1 + 1, 0, none⟩ (.int .u8 x.kind)).setCell ⟨w.heap.size + 1 + 1, 1, none⟩ (.int .i64 x.n)).setCell ⟨w.heap.size + 1 + 1, 2, none⟩ (.string x.s)) := hst_1.set 2 2 (.string x.s) rfl (by simp)
                clear q1_2 q2_0 q2_1 q2_2 q3_0 q3_1 q3_2 g0 g1 g2 g3 z0 z1 z2 z3
                have hm : Mem w.heap.size [#[.int .i64 0, .int .i64 0, .bool false, .bool false, .int .u8 0, .int .i64 0, .string ⟨#[]⟩, .int .u8 0, .int .i64 0, .string ⟨#[]⟩], #[.int .i64 (n : Int), .int .i64 (nl : Int), .bool true, .bool false, .int .u8 0, .int .i64 0, .string ⟨#[]⟩, .int .u8 0, .int .i64 0, .string ⟨#[]⟩], #[.int .u8 x.kind, .int .i64 x.n, .string x.s], #[.int .u8 mc.kind, .int .i64 mc.n, .string mc.s]] w w6 := hst_2.call hb
                have Mw6 := Lib.hid hm
                clear hm hst_0 hst_1 hst_2
                have hcb : CellsAt w6 wr.heap.size #[.int .u8 x.kind, .int .i64 x.n, .string x.s] := (((HCC.out.setFar (by first | omega | (simp; omega)) _).setFar (by first | omega | (simp; omega)) _).setFar (by first | omega | (simp; omega)) _).below hb (by simpa using hcz)
                have hcz6 : wr.heap.size < w6.heap.size := by have := hb.size; (try simp at this); omega
                clear hb hcz t0 t1 t2
                have t0 : w6.cell? ⟨wr.heap.size, 0, none⟩ = some (.int .u8 x.kind) := hcb 0 _ rfl
                have t1 : w6.cell? ⟨wr.heap.size, 1, none⟩ = some (.int .i64 x.n) := hcb 1 _ rfl
                have t2 : w6.cell? ⟨wr.heap.size, 2, none⟩ = some (.string x.s) := hcb 2 _ rfl
                clear hcb
                have q1_2 : w6.cell? ⟨w.heap.size + 1, 2, none⟩ = some (.bool true) := Mw6.out.cell 1 2 rfl rfl
                have q2_0 : w6.cell? ⟨w.heap.size + 1 + 1, 0, none⟩ = some (.int .u8 x.kind) := Mw6.out.cell 2 0 rfl rfl
                have q2_1 : w6.cell? ⟨w.heap.size + 1 + 1, 1, none⟩ = some (.int .i64 x.n) := Mw6.out.cell 2 1 rfl rfl
                have q2_2 : w6.cell? ⟨w.heap.size + 1 + 1, 2, none⟩ = some (.string x.s) := Mw6.out.cell 2 2 rfl rfl
                have q3_0 : w6.cell? ⟨w.heap.size + 1 + 1 + 1, 0, none⟩ = some (.int .u8 mc.kind) := Mw6.out.cell 3 0 rfl rfl
                have q3_1 : w6.cell? ⟨w.heap.size + 1 + 1 + 1, 1, none⟩ = some (.int .i64 mc.n) := Mw6.out.cell 3 1 rfl rfl
                have q3_2 : w6.cell? ⟨w.heap.size + 1 + 1 + 1, 2, none⟩ = some (.string mc.s) := Mw6.out.cell 3 2 rfl rfl
                have g0 : ∀ j, w6.frozen? ⟨w.heap.size, j, none⟩ = false := Mw6.out.frozen 0 rfl
                have g1 : ∀ j, w6.frozen? ⟨w.heap.size + 1, j, none⟩ = false := Mw6.out.frozen 1 rfl
                have g2 : ∀ j, w6.frozen? ⟨w.heap.size + 1 + 1, j, none⟩ = false := Mw6.out.frozen 2 rfl
                have g3 : ∀ j, w6.frozen? ⟨w.heap.size + 1 + 1 + 1, j, none⟩ = false := Mw6.out.frozen 3 rfl
                have z0 : w.heap.size < w6.heap.size := Mw6.out.lt 0 (by simp)
                have z1 : w.heap.size + 1 < w6.heap.size := Mw6.out.lt 1 (by simp)
                have z2 : w.heap.size + 1 + 1 < w6.heap.size := Mw6.out.lt 2 (by simp)
                have z3 : w.heap.size + 1 + 1 + 1 < w6.heap.size := Mw6.out.lt 3 (by simp)
                go_wp2
                go_roundw
                case rel =>
                  refine ⟨k + 1, nl, x, mc, true, ok, by omega, rfl, by go_num, ?_, ?_⟩
                  · rw [foldSt_snoc HX.out, HFOLD.out]
                    exact rstep_some HK0.out (if_pos (.inr HD1.out)) (if_neg (fun h => h.elim (fun h => by cases h) HD2.out)) HOK2.out
                  · have hst_0 : Mem w.heap.size [#[.int .i64 0, .int .i64 0, .bool false, .bool false, .int .u8 0, .int .i64 0, .string ⟨#[]⟩, .int .u8 0, .int .i64 0, .string ⟨#[]⟩], #[.int .i64 (n : Int), .int .i64 (nl : Int), .bool true, .bool false, .int .u8 0, .int .i64 0, .string ⟨#[]⟩, .int .u8 0, .int .i64 0, .string ⟨#[]⟩], #[.int .u8 x.kind, .int .i64 x.n, .string x.s], #[.int .u8 mc.kind, .int .i64 mc.n, .string mc.s]] w (w6.setCell ⟨w.heap.size + 1, 2, none⟩ (.bool true)) := Mw6.out.set 1 2 (.bool true) rfl (by simp)
                    exact hst_0
                case measure => simp [intOf] <;> omega
            · by_cases hl2 : LessC mc x
              · have HL1 := Lib.hid (HLESS.out x lc)
                have HL2 := Lib.hid (HLESS.out mc x)
                rw [show decide (LessC x lc) = false by simp [hl1]] at HL1
                rw [show decide (LessC mc x) = true by simp [hl2]] at HL2
                unfold CellD.cells at HL1 HL2
                have HD1 := Lib.hid hl1
                have HD2 := Lib.hid hl2
                clear hl1 hl2
                go_wp2_with fail
                have hcb : CellsAt (wr.alloc (.cells #[.int .u8 x.kind, .int .i64 x.n, .string x.s] 26)) wr.heap.size #[.int .u8 x.kind, .int .i64 x.n, .string x.s] := CellsAt.alloc_new _ _ _
                have HCB := Lib.hid hcb
                clear hcb
                refine (HL1.out _).mono ?_
                rintro e w5 ⟨rfl, hb⟩
                clear q1_2 q2_0 q2_1 q2_2 q3_0 q3_1 q3_2 g0 g1 g2 g3 z0 z1 z2 z3
                have hm : Mem w.heap.size [#[.int .i64 0, .int .i64 0, .bool false, .bool false, .int .u8 0, .int .i64 0, .string ⟨#[]⟩, .int .u8 0, .int .i64 0, .string ⟨#[]⟩], #[.int .i64 (n : Int), .int .i64 (nl : Int), .bool true, .bool false, .int .u8 0, .int .i64 0, .string ⟨#[]⟩, .int .u8 0, .int .i64 0, .string ⟨#[]⟩], #[.int .u8 lc.kind, .int .i64 lc.n, .string lc.s], #[.int .u8 mc.kind, .int .i64 mc.n, .string mc.s]] w w5 := (M1.out.alloc (.cells #[.int .u8 x.kind, .int .i64 x.n, .string x.s] 26)).call hb
                have Mw5 := Lib.hid hm
                clear hm
                have hcb := HCB.out.below hb (by simp)
                have HCC := Lib.hid hcb
                have hcz : wr.heap.size < w5.heap.size := by have := hb.size; (try simp at this); omega
                clear hb
                have t0 : w5.cell? ⟨wr.heap.size, 0, none⟩ = some (.int .u8 x.kind) := hcb 0 _ rfl
                have t1 : w5.cell? ⟨wr.heap.size, 1, none⟩ = some (.int .i64 x.n) := hcb 1 _ rfl
                have t2 : w5.cell? ⟨wr.heap.size, 2, none⟩ = some (.string x.s) := hcb 2 _ rfl
                have tne : w.heap.size + 1 + 1 + 1 < wr.heap.size := Nat.lt_of_lt_of_le (by simp) M1.out.room
                have q1_2 : w5.cell? ⟨w.heap.size + 1, 2, none⟩ = some (.bool true) := Mw5.out.cell 1 2 rfl rfl
                have q2_0 : w5.cell? ⟨w.heap.size + 1 + 1, 0, none⟩ = some (.int .u8 lc.kind) := Mw5.out.cell 2 0 rfl rfl
                have q2_1 : w5.cell? ⟨w.heap.size + 1 + 1, 1, none⟩ = some (.int .i64 lc.n) := Mw5.out.cell 2 1 rfl rfl
                have q2_2 : w5.cell? ⟨w.heap.size + 1 + 1, 2, none⟩ = some (.string lc.s) := Mw5.out.cell 2 2 rfl rfl
                have q3_0 : w5.cell? ⟨w.heap.size + 1 + 1 + 1, 0, none⟩ = some (.int .u8 mc.kind) := Mw5.out.cell 3 0 rfl rfl
                have q3_1 : w5.cell? ⟨w.heap.size + 1 + 1 + 1, 1, none⟩ = some (.int .i64 mc.n) := Mw5.out.cell 3 1 rfl rfl
                have q3_2 : w5.cell? ⟨w.heap.size + 1 + 1 + 1, 2, none⟩ = some (.string mc.s) := Mw5.out.cell 3 2 rfl rfl
                have g0 : ∀ j, w5.frozen? ⟨w.heap.size, j, none⟩ = false := Mw5.out.frozen 0 rfl
                have g1 : ∀ j, w5.frozen? ⟨w.heap.size + 1, j, none⟩ = false := Mw5.out.frozen 1 rfl
                have g2 : ∀ j, w5.frozen? ⟨w.heap.size + 1 + 1, j, none⟩ = false := Mw5.out.frozen 2 rfl
                have g3 : ∀ j, w5.frozen? ⟨w.heap.size + 1 + 1 + 1, j, none⟩ = false := Mw5.out.frozen 3 rfl
                have z0 : w.heap.size < w5.heap.size := Mw5.out.lt 0 (by simp)
                have z1 : w.heap.size + 1 < w5.heap.size := Mw5.out.lt 1 (by simp)
                have z2 : w.heap.size + 1 + 1 < w5.heap.size := Mw5.out.lt 2 (by simp)
                have z3 : w.heap.size + 1 + 1 + 1 < w5.heap.size := Mw5.out.lt 3 (by simp)
                clear hcb
                go_wp2_with fail
                refine (HL2.out _).mono ?_
                rintro e w6 ⟨rfl, hb⟩
                clear q1_2 q2_0 q2_1 q2_2 q3_0 q3_1 q3_2 g0 g1 g2 g3 z0 z1 z2 z3
                have hm : Mem w.heap.size [#[.int .i64 0, .int .i64 0, .bool false, .bool false, .int .u8 0, .int .i64 0, .string ⟨#[]⟩, .int .u8 0, .int .i64 0, .string ⟨#[]⟩], #[.int .i64 (n : Int), .int .i64 (nl : Int), .bool true, .bool false, .int .u8 0, .int .i64 0, .string ⟨#[]⟩, .int .u8 0, .int .i64 0, .string ⟨#[]⟩], #[.int .u8 lc.kind, .int .i64 lc.n, .string lc.s], #[.int .u8 mc.kind, .int .i64 mc.n, .string mc.s]] w w6 := Mw5.out.call hb
                have Mw6 := Lib.hid hm
                clear hm
                have hcb : CellsAt w6 wr.heap.size #[.int .u8 x.kind, .int .i64 x.n, .string x.s] := HCC.out.below hb hcz
                have hcz6 : wr.heap.size < w6.heap.size := by have := hb.size; (try simp at this); omega
                clear hb hcz t0 t1 t2
                have t0 : w6.cell? ⟨wr.heap.size, 0, none⟩ = some (.int .u8 x.kind) := hcb 0 _ rfl
                have t1 : w6.cell? ⟨wr.heap.size, 1, none⟩ = some (.int .i64 x.n) := hcb 1 _ rfl
                have t2 : w6.cell? ⟨wr.heap.size, 2, none⟩ = some (.string x.s) := hcb 2 _ rfl
                clear hcb
                have q1_2 : w6.cell? ⟨w.heap.size + 1, 2, none⟩ = some (.bool true) := Mw6.out.cell 1 2 rfl rfl
                have q2_0 : w6.cell? ⟨w.heap.size + 1 + 1, 0, none⟩ = some (.int .u8 lc.kind) := Mw6.out.cell 2 0 rfl rfl
                have q2_1 : w6.cell? ⟨w.heap.size + 1 + 1, 1, none⟩ = some (.int .i64 lc.n) := Mw6.out.cell 2 1 rfl rfl
                have q2_2 : w6.cell? ⟨w.heap.size + 1 + 1, 2, none⟩ = some (.string lc.s) := Mw6.out.cell 2 2 rfl rfl
                have q3_0 : w6.cell? ⟨w.heap.size + 1 + 1 + 1, 0, none⟩ = some (.int .u8 mc.kind) := Mw6.out.cell 3 0 rfl rfl
                have q3_1 : w6.cell? ⟨w.heap.size + 1 + 1 + 1, 1, none⟩ = some (.int .i64 mc.n) := Mw6.out.cell 3 1 rfl rfl
                have q3_2 : w6.cell? ⟨w.heap.size + 1 + 1 + 1, 2, none⟩ = some (.string mc.s) := Mw6.out.cell 3 2 rfl rfl
                have g0 : ∀ j, w6.frozen? ⟨w.heap.size, j, none⟩ = false := Mw6.out.frozen 0 rfl
                have g1 : ∀ j, w6.frozen? ⟨w.heap.size + 1, j, none⟩ = false := Mw6.out.frozen 1 rfl
                have g2 : ∀ j, w6.frozen? ⟨w.heap.size + 1 + 1, j, none⟩ = false := Mw6.out.frozen 2 rfl
                have g3 : ∀ j, w6.frozen? ⟨w.heap.size + 1 + 1 + 1, j, none⟩ = false := Mw6.out.frozen 3 rfl
                have z0 : w.heap.size < w6.heap.size := Mw6.out.lt 0 (by simp)
                have z1 : w.heap.size + 1 < w6.heap.size := Mw6.out.lt 1 (by simp)
                have z2 : w.heap.size + 1 + 1 < w6.heap.size := Mw6.out.lt 2 (by simp)
                have z3 : w.heap.size + 1 + 1 + 1 < w6.heap.size := Mw6.out.lt 3 (by simp)
                go_wp2
                go_roundw
                case rel =>
                  refine ⟨k + 1, nl, lc, x, true, ok, by omega, rfl, by go_num, ?_, ?_⟩
                  · rw [foldSt_snoc HX.out, HFOLD.out]
                    exact rstep_some HK0.out (if_neg (fun h => h.elim (fun h => by cases h) HD1.out)) (if_pos (.inr HD2.out)) HOK2.out
                  · have hst_0 : Mem w.heap.size [#[.int .i64 0, .int .i64 0, .bool false, .bool false, .int .u8 0, .int .i64 0, .string ⟨#[]⟩, .int .u8 0, .int .i64 0, .string ⟨#[]⟩], #[.int .i64 (n : Int), .int .i64 (nl : Int), .bool true, .bool false, .int .u8 0, .int .i64 0, .string ⟨#[]⟩, .int .u8 0, .int .i64 0, .string ⟨#[]⟩], #[.int .u8 lc.kind, .int .i64 lc.n, .string lc.s], #[.int .u8 x.kind, .int .i64 mc.n, .string mc.s]] w (w6.setCell ⟨w.heap.size + 1 + 1 + 1, 0, none⟩ (.int .u8 x.kind)) := Mw6.out.set 3 0 (.int .u8 x.kind) rfl (by simp)
                    have hst_1 : Mem w.heap.size [#[.int .i64 0, .int .i64 0, .bool false, .bool false, .int .u8 0, .int .i64 0, .string ⟨#[]⟩, .int .u8 0, .int .i64 0, .string ⟨#[]⟩], #[.int .i64 (n : Int), .int .i64 (nl : Int), .bool true, .bool false, .int .u8 0, .int .i64 0, .string ⟨#[]⟩, .int .u8 0, .int .i64 0, .string ⟨#[]⟩], #[.int .u8 lc.kind, .int .i64 lc.n, .string lc.s], #[.int .u8 x.kind, .int .i64 x.n, .string mc.s]] w ((w6.setCell ⟨w.heap.size + 1 + 1 + 1, 0, none⟩ (.int .u8 x.kind)).setCell ⟨w.heap.size + 1 + 1 + 1, 1, none⟩ (.int .i64 x.n)) := hst_0.set 3 1 (.int .i64 x.n) rfl (by simp)
                    have hst_2 : Mem w.heap.size [#[.int .i64 0, .int .i64 0, .bool false, .bool false, .int .u8 0, .int .i64 0, .string ⟨#[]⟩, .int .u8 0, .int .i64 0, .string ⟨#[]⟩], #[.int .i64 (n : Int), .int .i64 (nl : Int), .bool true, .bool false, .int .u8 0, .int .i64 0, .string ⟨#[]⟩, .int .u8 0, .int .i64 0, .string ⟨#[]⟩], #[.int .u8 lc.kind, .int .i64 lc.n, .string lc.s], #[.int .u8 x.kind, .int .i64 x.n, .string x.s]] w (((w6.setCell ⟨w.heap.size + 1 + 1 + 1, 0, none⟩ (.int .u8 x.kind)).setCell ⟨w.heap.size + 1 + 1 + 1, 1, none⟩ (.int .i64 x.n)).setCell ⟨w.heap.size + 1 + 1 + 1, 2, none⟩ (.string x.s)) := hst_1.set 3 2 (.string x.s) rfl (by simp)
                    have hst_3 : Mem w.heap.size [#[.int .i64 0, .int .i64 0, .bool false, .bool false, .int .u8 0, .int .i64 0, .string ⟨#[]⟩, .int .u8 0, .int .i64 0, .string ⟨#[]⟩], #[.int .i64 (n : Int), .int .i64 (nl : Int), .bool true, .bool false, .int .u8 0, .int .i64 0, .string ⟨#[]⟩, .int .u8 0, .int .i64 0, .string ⟨#[]⟩], #[.int .u8 lc.kind, .int .i64 lc.n, .string lc.s], #[.int .u8 x.kind, .int .i64 x.n, .string x.s]] w ((((w6.setCell ⟨w.heap.size + 1 + 1 + 1, 0, none⟩ (.int .u8 x.kind)).setCell ⟨w.heap.size + 1 + 1 + 1, 1, none⟩ (.int .i64 x.n)).setCell ⟨w.heap.size + 1 + 1 + 1, 2, none⟩ (.string x.s)).setCell ⟨w.heap.size + 1, 2, none⟩ (.bool true)) := hst_2.set 1 2 (.bool true) rfl (by simp)
                    exact hst_3
                case measure => simp [intOf] <;> omega
              · have HL1 := Lib.hid (HLESS.out x lc)
                have HL2 := Lib.hid (HLESS.out mc x)
                rw [show decide (LessC x lc) = false by simp [hl1]] at HL1
                rw [show decide (LessC mc x) = false by simp [hl2]] at HL2
                unfold CellD.cells at HL1 HL2
                have HD1 := Lib.hid hl1
                have HD2 := Lib.hid hl2
                clear hl1 hl2
                go_wp2_with fail
                have hcb : CellsAt (wr.alloc (.cells #[.int .u8 x.kind, .int .i64 x.n, .string x.s] 26)) wr.heap.size #[.int .u8 x.kind, .int .i64 x.n, .string x.s] := CellsAt.alloc_new _ _ _
                have HCB := Lib.hid hcb
                clear hcb
                refine (HL1.out _).mono ?_
                rintro e w5 ⟨rfl, hb⟩
                clear q1_2 q2_0 q2_1 q2_2 q3_0 q3_1 q3_2 g0 g1 g2 g3 z0 z1 z2 z3
                have hm : Mem w.heap.size [#[.int .i64 0, .int .i64 0, .bool false, .bool false, .int .u8 0, .int .i64 0, .string ⟨#[]⟩, .int .u8 0, .int .i64 0, .string ⟨#[]⟩], #[.int .i64 (n : Int), .int .i64 (nl : Int), .bool true, .bool false, .int .u8 0, .int .i64 0, .string ⟨#[]⟩, .int .u8 0, .int .i64 0, .string ⟨#[]⟩], #[.int .u8 lc.kind, .int .i64 lc.n, .string lc.s], #[.int .u8 mc.kind, .int .i64 mc.n, .string mc.s]] w w5 := (M1.out.alloc (.cells #[.int .u8 x.kind, .int .i64 x.n, .string x.s] 26)).call hb
                have Mw5 := Lib.hid hm
                clear hm
                have hcb := HCB.out.below hb (by simp)
                have HCC := Lib.hid hcb
                have hcz : wr.heap.size < w5.heap.size := by have := hb.size; (try simp at this); omega
                clear hb
                have t0 : w5.cell? ⟨wr.heap.size, 0, none⟩ = some (.int .u8 x.kind) := hcb 0 _ rfl
                have t1 : w5.cell? ⟨wr.heap.size, 1, none⟩ = some (.int .i64 x.n) := hcb 1 _ rfl
                have t2 : w5.cell? ⟨wr.heap.size, 2, none⟩ = some (.string x.s) := hcb 2 _ rfl
                have tne : w.heap.size + 1 + 1 + 1 < wr.heap.size := Nat.lt_of_lt_of_le (by simp) M1.out.room
                have q1_2 : w5.cell? ⟨w.heap.size + 1, 2, none⟩ = some (.bool true) := Mw5.out.cell 1 2 rfl rfl
                have q2_0 : w5.cell? ⟨w.heap.size + 1 + 1, 0, none⟩ = some (.int .u8 lc.kind) := Mw5.out.cell 2 0 rfl rfl
                have q2_1 : w5.cell? ⟨w.heap.size + 1 + 1, 1, none⟩ = some (.int .i64 lc.n) := Mw5.out.cell 2 1 rfl rfl
                have q2_2 : w5.cell? ⟨w.heap.size + 1 + 1, 2, none⟩ = some (.string lc.s) := Mw5.out.cell 2 2 rfl rfl
                have q3_0 : w5.cell? ⟨w.heap.size + 1 + 1 + 1, 0, none⟩ = some (.int .u8 mc.kind) := Mw5.out.cell 3 0 rfl rfl
                have q3_1 : w5.cell? ⟨w.heap.size + 1 + 1 + 1, 1, none⟩ = some (.int .i64 mc.n) := Mw5.out.cell 3 1 rfl rfl
                have q3_2 : w5.cell? ⟨w.heap.size + 1 + 1 + 1, 2, none⟩ = some (.string mc.s) := Mw5.out.cell 3 2 rfl rfl
                have g0 : ∀ j, w5.frozen? ⟨w.heap.size, j, none⟩ = false := Mw5.out.frozen 0 rfl
                have g1 : ∀ j, w5.frozen? ⟨w.heap.size + 1, j, none⟩ = false := Mw5.out.frozen 1 rfl
                have g2 : ∀ j, w5.frozen? ⟨w.heap.size + 1 + 1, j, none⟩ = false := Mw5.out.frozen 2 rfl
                have g3 : ∀ j, w5.frozen? ⟨w.heap.size + 1 + 1 + 1, j, none⟩ = false := Mw5.out.frozen 3 rfl
                have z0 : w.heap.size < w5.heap.size := Mw5.out.lt 0 (by simp)
                have z1 : w.heap.size + 1 < w5.heap.size := Mw5.out.lt 1 (by simp)
                have z2 : w.heap.size + 1 + 1 < w5.heap.size := Mw5.out.lt 2 (by simp)
                have z3 : w.heap.size + 1 + 1 + 1 < w5.heap.size := Mw5.out.lt 3 (by simp)
                clear hcb
                go_wp2_with fail
                refine (HL2.out _).mono ?_
                rintro e w6 ⟨rfl, hb⟩
                clear q1_2 q2_0 q2_1 q2_2 q3_0 q3_1 q3_2 g0 g1 g2 g3 z0 z1 z2 z3
                have hm : Mem w.heap.size [#[.int .i64 0, .int .i64 0, .bool false, .bool false, .int .u8 0, .int .i64 0, .string ⟨#[]⟩, .int .u8 0, .int .i64 0, .string ⟨#[]⟩], #[.int .i64 (n : Int), .int .i64 (nl : Int), .bool true, .bool false, .int .u8 0, .int .i64 0, .string ⟨#[]⟩, .int .u8 0, .int .i64 0, .string ⟨#[]⟩], #[.int .u8 lc.kind, .int .i64 lc.n, .string lc.s], #[.int .u8 mc.kind, .int .i64 mc.n, .string mc.s]] w w6 := Mw5.out.call hb
                have Mw6 := Lib.hid hm
                clear hm
                have hcb : CellsAt w6 wr.heap.size #[.int .u8 x.kind, .int .i64 x.n, .string x.s] := HCC.out.below hb hcz
                have hcz6 : wr.heap.size < w6.heap.size := by have := hb.size; (try simp at this); omega
                clear hb hcz t0 t1 t2
                have t0 : w6.cell? ⟨wr.heap.size, 0, none⟩ = some (.int .u8 x.kind) := hcb 0 _ rfl
                have t1 : w6.cell? ⟨wr.heap.size, 1, none⟩ = some (.int .i64 x.n) := hcb 1 _ rfl
                have t2 : w6.cell? ⟨wr.heap.size, 2, none⟩ = some (.string x.s) := hcb 2 _ rfl
                clear hcb
                have q1_2 : w6.cell? ⟨w.heap.size + 1, 2, none⟩ = some (.bool true) := Mw6.out.cell 1 2 rfl rfl
                have q2_0 : w6.cell? ⟨w.heap.size + 1 + 1, 0, none⟩ = some (.int .u8 lc.kind) := Mw6.out.cell 2 0 rfl rfl
                have q2_1 : w6.cell? ⟨w.heap.size + 1 + 1, 1, none⟩ = some (.int .i64 lc.n) := Mw6.out.cell 2 1 rfl rfl
                have q2_2 : w6.cell? ⟨w.heap.size + 1 + 1, 2, none⟩ = some (.string lc.s) := Mw6.out.cell 2 2 rfl rfl
                have q3_0 : w6.cell? ⟨w.heap.size + 1 + 1 + 1, 0, none⟩ = some (.int .u8 mc.kind) := Mw6.out.cell 3 0 rfl rfl
                have q3_1 : w6.cell? ⟨w.heap.size + 1 + 1 + 1, 1, none⟩ = some (.int .i64 mc.n) := Mw6.out.cell 3 1 rfl rfl
                have q3_2 : w6.cell? ⟨w.heap.size + 1 + 1 + 1, 2, none⟩ = some (.string mc.s) := Mw6.out.cell 3 2 rfl rfl
                have g0 : ∀ j, w6.frozen? ⟨w.heap.size, j, none⟩ = false := Mw6.out.frozen 0 rfl
                have g1 : ∀ j, w6.frozen? ⟨w.heap.size + 1, j, none⟩ = false := Mw6.out.frozen 1 rfl
                have g2 : ∀ j, w6.frozen? ⟨w.heap.size + 1 + 1, j, none⟩ = false := Mw6.out.frozen 2 rfl
                have g3 : ∀ j, w6.frozen? ⟨w.heap.size + 1 + 1 + 1, j, none⟩ = false := Mw6.out.frozen 3 rfl
                have z0 : w.heap.size < w6.heap.size := Mw6.out.lt 0 (by simp)
                have z1 : w.heap.size + 1 < w6.heap.size := Mw6.out.lt 1 (by simp)
                have z2 : w.heap.size + 1 + 1 < w6.heap.size := Mw6.out.lt 2 (by simp)
                have z3 : w.heap.size + 1 + 1 + 1 < w6.heap.size := Mw6.out.lt 3 (by simp)
                go_wp2
                go_roundw
                case rel =>
                  refine ⟨k + 1, nl, lc, mc, true, ok, by omega, rfl, by go_num, ?_, ?_⟩
                  · rw [foldSt_snoc HX.out, HFOLD.out]
                    exact rstep_some HK0.out (if_neg (fun h => h.elim (fun h => by cases h) HD1.out)) (if_neg (fun h => h.elim (fun h => by cases h) HD2.out)) HOK2.out
                  · have hst_0 : Mem w.heap.size [#[.int .i64 0, .int .i64 0, .bool false, .bool false, .int .u8 0, .int .i64 0, .string ⟨#[]⟩, .int .u8 0, .int .i64 0, .string ⟨#[]⟩], #[.int .i64 (n : Int), .int .i64 (nl : Int), .bool true, .bool false, .int .u8 0, .int .i64 0, .string ⟨#[]⟩, .int .u8 0, .int .i64 0, .string ⟨#[]⟩], #[.int .u8 lc.kind, .int .i64 lc.n, .string lc.s], #[.int .u8 mc.kind, .int .i64 mc.n, .string mc.s]] w (w6.setCell ⟨w.heap.size + 1, 2, none⟩ (.bool true)) := Mw6.out.set 1 2 (.bool true) rfl (by simp)
                    exact hst_0
                case measure => simp [intOf] <;> omega
    · obtain rfl : k = n := by omega
      have hall : xs.take k = xs := List.take_of_length_le (by have := HXL.out; omega)
      rw [hall] at HFOLD HINV
      have hall2 : xs.length = k := HXL.out
      clear hk hlt hnl
      have hfs := HFOLD.out
      have hst := HINV.out
      clear HFOLD HINV
      cases sm
      · have hres : statsF xs = ⟨(k : Int), nl, false, false, zeroCell, zeroCell⟩ := by
          unfold statsF
          rw [hfs]
          simp only [if_pos]
          rw [hall2]
        have HRES := Lib.hid hres
        clear hres hfs hst
        have q0_0 : wr.cell? ⟨w.heap.size, 0, none⟩ = some (.int .i64 0) := M1.out.cell 0 0 rfl rfl
        have q0_1 : wr.cell? ⟨w.heap.size, 1, none⟩ = some (.int .i64 0) := M1.out.cell 0 1 rfl rfl
        have q0_2 : wr.cell? ⟨w.heap.size, 2, none⟩ = some (.bool false) := M1.out.cell 0 2 rfl rfl
        have q0_3 : wr.cell? ⟨w.heap.size, 3, none⟩ = some (.bool false) := M1.out.cell 0 3 rfl rfl
        have q0_4 : wr.cell? ⟨w.heap.size, 4, none⟩ = some (.int .u8 0) := M1.out.cell 0 4 rfl rfl
        have q0_5 : wr.cell? ⟨w.heap.size, 5, none⟩ = some (.int .i64 0) := M1.out.cell 0 5 rfl rfl
        have q0_6 : wr.cell? ⟨w.heap.size, 6, none⟩ = some (.string ⟨#[]⟩) := M1.out.cell 0 6 rfl rfl
        have q0_7 : wr.cell? ⟨w.heap.size, 7, none⟩ = some (.int .u8 0) := M1.out.cell 0 7 rfl rfl
        have q0_8 : wr.cell? ⟨w.heap.size, 8, none⟩ = some (.int .i64 0) := M1.out.cell 0 8 rfl rfl
        have q0_9 : wr.cell? ⟨w.heap.size, 9, none⟩ = some (.string ⟨#[]⟩) := M1.out.cell 0 9 rfl rfl
        have q1_0 : wr.cell? ⟨w.heap.size + 1, 0, none⟩ = some (.int .i64 (k : Int)) := M1.out.cell 1 0 rfl rfl
        have q1_1 : wr.cell? ⟨w.heap.size + 1, 1, none⟩ = some (.int .i64 (nl : Int)) := M1.out.cell 1 1 rfl rfl
        have q1_2 : wr.cell? ⟨w.heap.size + 1, 2, none⟩ = some (.bool false) := M1.out.cell 1 2 rfl rfl
        have q1_3 : wr.cell? ⟨w.heap.size + 1, 3, none⟩ = some (.bool false) := M1.out.cell 1 3 rfl rfl
        have q1_4 : wr.cell? ⟨w.heap.size + 1, 4, none⟩ = some (.int .u8 0) := M1.out.cell 1 4 rfl rfl
        have q1_5 : wr.cell? ⟨w.heap.size + 1, 5, none⟩ = some (.int .i64 0) := M1.out.cell 1 5 rfl rfl
        have q1_6 : wr.cell? ⟨w.heap.size + 1, 6, none⟩ = some (.string ⟨#[]⟩) := M1.out.cell 1 6 rfl rfl
        have q1_7 : wr.cell? ⟨w.heap.size + 1, 7, none⟩ = some (.int .u8 0) := M1.out.cell 1 7 rfl rfl
        have q1_8 : wr.cell? ⟨w.heap.size + 1, 8, none⟩ = some (.int .i64 0) := M1.out.cell 1 8 rfl rfl
        have q1_9 : wr.cell? ⟨w.heap.size + 1, 9, none⟩ = some (.string ⟨#[]⟩) := M1.out.cell 1 9 rfl rfl
        have g0 : ∀ j, wr.frozen? ⟨w.heap.size, j, none⟩ = false := M1.out.frozen 0 rfl
        have g1 : ∀ j, wr.frozen? ⟨w.heap.size + 1, j, none⟩ = false := M1.out.frozen 1 rfl
        have g2 : ∀ j, wr.frozen? ⟨w.heap.size + 1 + 1, j, none⟩ = false := M1.out.frozen 2 rfl
        have g3 : ∀ j, wr.frozen? ⟨w.heap.size + 1 + 1 + 1, j, none⟩ = false := M1.out.frozen 3 rfl
        have z0 : w.heap.size < wr.heap.size := M1.out.lt 0 (by simp)
        have z1 : w.heap.size + 1 < wr.heap.size := M1.out.lt 1 (by simp)
        have z2 : w.heap.size + 1 + 1 < wr.heap.size := M1.out.lt 2 (by simp)
        have z3 : w.heap.size + 1 + 1 + 1 < wr.heap.size := M1.out.lt 3 (by simp)
        go_wp2
        refine bodyPost_ret (v := .agg #[.int .i64 (k : Int), .int .i64 (nl : Int), .bool false, .bool false, .int .u8 0, .int .i64 0, .string ⟨#[]⟩, .int .u8 0, .int .i64 0, .string ⟨#[]⟩]) (by simp [results, Try.results10, go_sem, q0_0, q0_1, q0_2, q0_3, q0_4, q0_5, q0_6, q0_7, q0_8, q0_9]) rfl ⟨by rw [HRES.out]; rfl, ?_⟩
        repeat (with_reducible refine Below.setCell ?_ (by first | exact Nat.le_refl _ | (simp; done) | omega | (simp; omega)) _)
        exact M1.out.below
      · obtain ⟨hlm, hlk⟩ := hst.least rfl
        obtain ⟨hmm, hmk⟩ := hst.most rfl
        have hlow := hst.low rfl
        have hkm : lc.kind = 3 → mc.kind = 3 := by
          intro h3
          have h4 := hlow _ hmm hmk
          have h5 : ¬ mc.kind < lc.kind := fun h => h4 (.inl h)
          have h6 := (HG.out mc hmm).1
          omega
        have hstat : statsF xs = (if lc.kind = 3 then (if ok = true then ⟨(k : Int), nl, true, (aboveF mc.s 4).2, ⟨3, 0, firstF lc.s 4⟩, if (aboveF mc.s 4).2 = true then ⟨3, 0, (aboveF mc.s 4).1⟩ else zeroCell⟩ else ⟨(k : Int), nl, true, false, ⟨3, 0, ByteArray.empty⟩, zeroCell⟩) else ⟨(k : Int), nl, true, true, lc, mc⟩) := by
          unfold statsF
          rw [hfs]
          simp only [Bool.true_eq_false, if_false]
          rw [hall2]
        have hln := (HG.out lc hlm).2
        have hmn := (HG.out mc hmm).2
        have HSL := Lib.hid (HSZ.out lc hlm)
        have HSM := Lib.hid (HSZ.out mc hmm)
        clear hfs hst hlow hlm hmm hlk hmk
        by_cases h3 : lc.kind = 3
        · rw [if_pos h3] at hstat
          have hm3 := hkm h3
          have hln0 := hln h3
          have hmn0 := hmn hm3
          obtain ⟨lk, ln, ls⟩ := lc
          obtain ⟨mk, mn, ms⟩ := mc
          obtain rfl : lk = 3 := h3
          obtain rfl : mk = 3 := hm3
          obtain rfl : ln = 0 := hln0
          obtain rfl : mn = 0 := hmn0
          simp only [] at HSL HSM hstat
          have HF1 := Lib.hid (fun W => HFI.out ls 4 W HSL.out)
          have HA1 := Lib.hid (fun W => HAB.out ms 4 W HSM.out (by decide))
          unfold FirstPost at HF1
          unfold AbovePost at HA1
          obtain ⟨fz, hfz⟩ : ∃ fz, firstF ls 4 = fz := ⟨_, rfl⟩
          obtain ⟨ay, hay⟩ : ∃ ay, aboveF ms 4 = ay := ⟨_, rfl⟩
          rw [hfz] at hstat HF1
          rw [hay] at hstat HA1
          clear hfz hay hkm hln hmn
          obtain ⟨ah, ai⟩ := ay
          have HSTAT := Lib.hid hstat
          clear hstat
          have q0_0 : wr.cell? ⟨w.heap.size, 0, none⟩ = some (.int .i64 0) := M1.out.cell 0 0 rfl rfl
          have q0_1 : wr.cell? ⟨w.heap.size, 1, none⟩ = some (.int .i64 0) := M1.out.cell 0 1 rfl rfl
          have q0_2 : wr.cell? ⟨w.heap.size, 2, none⟩ = some (.bool false) := M1.out.cell 0 2 rfl rfl
          have q0_3 : wr.cell? ⟨w.heap.size, 3, none⟩ = some (.bool false) := M1.out.cell 0 3 rfl rfl
          have q0_4 : wr.cell? ⟨w.heap.size, 4, none⟩ = some (.int .u8 0) := M1.out.cell 0 4 rfl rfl
          have q0_5 : wr.cell? ⟨w.heap.size, 5, none⟩ = some (.int .i64 0) := M1.out.cell 0 5 rfl rfl
          have q0_6 : wr.cell? ⟨w.heap.size, 6, none⟩ = some (.string ⟨#[]⟩) := M1.out.cell 0 6 rfl rfl
          have q0_7 : wr.cell? ⟨w.heap.size, 7, none⟩ = some (.int .u8 0) := M1.out.cell 0 7 rfl rfl
          have q0_8 : wr.cell? ⟨w.heap.size, 8, none⟩ = some (.int .i64 0) := M1.out.cell 0 8 rfl rfl
          have q0_9 : wr.cell? ⟨w.heap.size, 9, none⟩ = some (.string ⟨#[]⟩) := M1.out.cell 0 9 rfl rfl
          have q1_0 : wr.cell? ⟨w.heap.size + 1, 0, none⟩ = some (.int .i64 (k : Int)) := M1.out.cell 1 0 rfl rfl
          have q1_1 : wr.cell? ⟨w.heap.size + 1, 1, none⟩ = some (.int .i64 (nl : Int)) := M1.out.cell 1 1 rfl rfl
          have q1_2 : wr.cell? ⟨w.heap.size + 1, 2, none⟩ = some (.bool true) := M1.out.cell 1 2 rfl rfl
          have q1_3 : wr.cell? ⟨w.heap.size + 1, 3, none⟩ = some (.bool false) := M1.out.cell 1 3 rfl rfl
          have q1_4 : wr.cell? ⟨w.heap.size + 1, 4, none⟩ = some (.int .u8 0) := M1.out.cell 1 4 rfl rfl
          have q1_5 : wr.cell? ⟨w.heap.size + 1, 5, none⟩ = some (.int .i64 0) := M1.out.cell 1 5 rfl rfl
          have q1_6 : wr.cell? ⟨w.heap.size + 1, 6, none⟩ = some (.string ⟨#[]⟩) := M1.out.cell 1 6 rfl rfl
          have q1_7 : wr.cell? ⟨w.heap.size + 1, 7, none⟩ = some (.int .u8 0) := M1.out.cell 1 7 rfl rfl
          have q1_8 : wr.cell? ⟨w.heap.size + 1, 8, none⟩ = some (.int .i64 0) := M1.out.cell 1 8 rfl rfl
          have q1_9 : wr.cell? ⟨w.heap.size + 1, 9, none⟩ = some (.string ⟨#[]⟩) := M1.out.cell 1 9 rfl rfl
          have q2_0 : wr.cell? ⟨w.heap.size + 1 + 1, 0, none⟩ = some (.int .u8 3) := M1.out.cell 2 0 rfl rfl
          have q2_1 : wr.cell? ⟨w.heap.size + 1 + 1, 1, none⟩ = some (.int .i64 0) := M1.out.cell 2 1 rfl rfl
          have q2_2 : wr.cell? ⟨w.heap.size + 1 + 1, 2, none⟩ = some (.string ls) := M1.out.cell 2 2 rfl rfl
          have q3_0 : wr.cell? ⟨w.heap.size + 1 + 1 + 1, 0, none⟩ = some (.int .u8 3) := M1.out.cell 3 0 rfl rfl
          have q3_1 : wr.cell? ⟨w.heap.size + 1 + 1 + 1, 1, none⟩ = some (.int .i64 0) := M1.out.cell 3 1 rfl rfl
          have q3_2 : wr.cell? ⟨w.heap.size + 1 + 1 + 1, 2, none⟩ = some (.string ms) := M1.out.cell 3 2 rfl rfl
          have g0 : ∀ j, wr.frozen? ⟨w.heap.size, j, none⟩ = false := M1.out.frozen 0 rfl
          have g1 : ∀ j, wr.frozen? ⟨w.heap.size + 1, j, none⟩ = false := M1.out.frozen 1 rfl
          have g2 : ∀ j, wr.frozen? ⟨w.heap.size + 1 + 1, j, none⟩ = false := M1.out.frozen 2 rfl
          have g3 : ∀ j, wr.frozen? ⟨w.heap.size + 1 + 1 + 1, j, none⟩ = false := M1.out.frozen 3 rfl
          have z0 : w.heap.size < wr.heap.size := M1.out.lt 0 (by simp)
          have z1 : w.heap.size + 1 < wr.heap.size := M1.out.lt 1 (by simp)
          have z2 : w.heap.size + 1 + 1 < wr.heap.size := M1.out.lt 2 (by simp)
          have z3 : w.heap.size + 1 + 1 + 1 < wr.heap.size := M1.out.lt 3 (by simp)
          go_wp2_with fail
          refine (HF1.out _).mono ?_
          rintro e w1 ⟨rfl, hb⟩
          have hst_0 : Mem w.heap.size [#[.int .i64 0, .int .i64 0, .bool false, .bool false, .int .u8 0, .int .i64 0, .string ⟨#[]⟩, .int .u8 0, .int .i64 0, .string ⟨#[]⟩], #[.int .i64 (k : Int), .int .i64 (nl : Int), .bool true, .bool true, .int .u8 0, .int .i64 0, .string ⟨#[]⟩, .int .u8 0, .int .i64 0, .string ⟨#[]⟩], #[.int .u8 3, .int .i64 0, .string ls], #[.int .u8 3, .int .i64 0, .string ms]] w (wr.setCell ⟨w.heap.size + 1, 3, none⟩ (.bool true)) := M1.out.set 1 3 (.bool true) rfl (by simp)
          clear q0_0 q0_1 q0_2 q0_3 q0_4 q0_5 q0_6 q0_7 q0_8 q0_9 q1_0 q1_1 q1_2 q1_3 q1_4 q1_5 q1_6 q1_7 q1_8 q1_9 q2_0 q2_1 q2_2 q3_0 q3_1 q3_2 g0 g1 g2 g3 z0 z1 z2 z3
          have hm : Mem w.heap.size [#[.int .i64 0, .int .i64 0, .bool false, .bool false, .int .u8 0, .int .i64 0, .string ⟨#[]⟩, .int .u8 0, .int .i64 0, .string ⟨#[]⟩], #[.int .i64 (k : Int), .int .i64 (nl : Int), .bool true, .bool true, .int .u8 0, .int .i64 0, .string ⟨#[]⟩, .int .u8 0, .int .i64 0, .string ⟨#[]⟩], #[.int .u8 3, .int .i64 0, .string ls], #[.int .u8 3, .int .i64 0, .string ms]] w w1 := hst_0.call hb
          have Mw1 := Lib.hid hm
          clear hm hst_0
          clear hb
          cases ok
          · have hstat := HSTAT.out
            rw [if_neg (by simp)] at hstat
            clear HSTAT
            have HRES := Lib.hid hstat
            clear hstat
            have q0_0 : w1.cell? ⟨w.heap.size, 0, none⟩ = some (.int .i64 0) := Mw1.out.cell 0 0 rfl rfl
            have q0_1 : w1.cell? ⟨w.heap.size, 1, none⟩ = some (.int .i64 0) := Mw1.out.cell 0 1 rfl rfl
            have q0_2 : w1.cell? ⟨w.heap.size, 2, none⟩ = some (.bool false) := Mw1.out.cell 0 2 rfl rfl
            have q0_3 : w1.cell? ⟨w.heap.size, 3, none⟩ = some (.bool false) := Mw1.out.cell 0 3 rfl rfl
            have q0_4 : w1.cell? ⟨w.heap.size, 4, none⟩ = some (.int .u8 0) := Mw1.out.cell 0 4 rfl rfl
            have q0_5 : w1.cell? ⟨w.heap.size, 5, none⟩ = some (.int .i64 0) := Mw1.out.cell 0 5 rfl rfl
            have q0_6 : w1.cell? ⟨w.heap.size, 6, none⟩ = some (.string ⟨#[]⟩) := Mw1.out.cell 0 6 rfl rfl
            have q0_7 : w1.cell? ⟨w.heap.size, 7, none⟩ = some (.int .u8 0) := Mw1.out.cell 0 7 rfl rfl
            have q0_8 : w1.cell? ⟨w.heap.size, 8, none⟩ = some (.int .i64 0) := Mw1.out.cell 0 8 rfl rfl
            have q0_9 : w1.cell? ⟨w.heap.size, 9, none⟩ = some (.string ⟨#[]⟩) := Mw1.out.cell 0 9 rfl rfl
            have q1_0 : w1.cell? ⟨w.heap.size + 1, 0, none⟩ = some (.int .i64 (k : Int)) := Mw1.out.cell 1 0 rfl rfl
            have q1_1 : w1.cell? ⟨w.heap.size + 1, 1, none⟩ = some (.int .i64 (nl : Int)) := Mw1.out.cell 1 1 rfl rfl
            have q1_2 : w1.cell? ⟨w.heap.size + 1, 2, none⟩ = some (.bool true) := Mw1.out.cell 1 2 rfl rfl
            have q1_3 : w1.cell? ⟨w.heap.size + 1, 3, none⟩ = some (.bool true) := Mw1.out.cell 1 3 rfl rfl
            have q1_4 : w1.cell? ⟨w.heap.size + 1, 4, none⟩ = some (.int .u8 0) := Mw1.out.cell 1 4 rfl rfl
            have q1_5 : w1.cell? ⟨w.heap.size + 1, 5, none⟩ = some (.int .i64 0) := Mw1.out.cell 1 5 rfl rfl
            have q1_6 : w1.cell? ⟨w.heap.size + 1, 6, none⟩ = some (.string ⟨#[]⟩) := Mw1.out.cell 1 6 rfl rfl
            have q1_7 : w1.cell? ⟨w.heap.size + 1, 7, none⟩ = some (.int .u8 0) := Mw1.out.cell 1 7 rfl rfl
            have q1_8 : w1.cell? ⟨w.heap.size + 1, 8, none⟩ = some (.int .i64 0) := Mw1.out.cell 1 8 rfl rfl
            have q1_9 : w1.cell? ⟨w.heap.size + 1, 9, none⟩ = some (.string ⟨#[]⟩) := Mw1.out.cell 1 9 rfl rfl
            have q2_0 : w1.cell? ⟨w.heap.size + 1 + 1, 0, none⟩ = some (.int .u8 3) := Mw1.out.cell 2 0 rfl rfl
            have q2_1 : w1.cell? ⟨w.heap.size + 1 + 1, 1, none⟩ = some (.int .i64 0) := Mw1.out.cell 2 1 rfl rfl
            have q2_2 : w1.cell? ⟨w.heap.size + 1 + 1, 2, none⟩ = some (.string ls) := Mw1.out.cell 2 2 rfl rfl
            have q3_0 : w1.cell? ⟨w.heap.size + 1 + 1 + 1, 0, none⟩ = some (.int .u8 3) := Mw1.out.cell 3 0 rfl rfl
            have q3_1 : w1.cell? ⟨w.heap.size + 1 + 1 + 1, 1, none⟩ = some (.int .i64 0) := Mw1.out.cell 3 1 rfl rfl
            have q3_2 : w1.cell? ⟨w.heap.size + 1 + 1 + 1, 2, none⟩ = some (.string ms) := Mw1.out.cell 3 2 rfl rfl
            have g0 : ∀ j, w1.frozen? ⟨w.heap.size, j, none⟩ = false := Mw1.out.frozen 0 rfl
            have g1 : ∀ j, w1.frozen? ⟨w.heap.size + 1, j, none⟩ = false := Mw1.out.frozen 1 rfl
            have g2 : ∀ j, w1.frozen? ⟨w.heap.size + 1 + 1, j, none⟩ = false := Mw1.out.frozen 2 rfl
            have g3 : ∀ j, w1.frozen? ⟨w.heap.size + 1 + 1 + 1, j, none⟩ = false := Mw1.out.frozen 3 rfl
            have z0 : w.heap.size < w1.heap.size := Mw1.out.lt 0 (by simp)
            have z1 : w.heap.size + 1 < w1.heap.size := Mw1.out.lt 1 (by simp)
            have z2 : w.heap.size + 1 + 1 < w1.heap.size := Mw1.out.lt 2 (by simp)
            have z3 : w.heap.size + 1 + 1 + 1 < w1.heap.size := Mw1.out.lt 3 (by simp)
            go_upto_region 32 with (fail)
            have hst_0 : Mem w.heap.size [#[.int .i64 0, .int .i64 0, .bool false, .bool false, .int .u8 0, .int .i64 0, .string ⟨#[]⟩, .int .u8 0, .int .i64 0, .string ⟨#[]⟩], #[.int .i64 (k : Int), .int .i64 (nl : Int), .bool true, .bool true, .int .u8 0, .int .i64 0, .string ⟨#[]⟩, .int .u8 0, .int .i64 0, .string ⟨#[]⟩], #[.int .u8 3, .int .i64 0, .string fz], #[.int .u8 3, .int .i64 0, .string ms]] w (w1.setCell ⟨w.heap.size + 1 + 1, 2, none⟩ (.string fz)) := Mw1.out.set 2 2 (.string fz) rfl (by simp)
            have hst_1 : Mem w.heap.size [#[.int .i64 0, .int .i64 0, .bool false, .bool false, .int .u8 0, .int .i64 0, .string ⟨#[]⟩, .int .u8 0, .int .i64 0, .string ⟨#[]⟩], #[.int .i64 (k : Int), .int .i64 (nl : Int), .bool true, .bool true, .int .u8 0, .int .i64 0, .string ⟨#[]⟩, .int .u8 0, .int .i64 0, .string ⟨#[]⟩], #[.int .u8 3, .int .i64 0, .string ⟨#[]⟩], #[.int .u8 3, .int .i64 0, .string ms]] w ((w1.setCell ⟨w.heap.size + 1 + 1, 2, none⟩ (.string fz)).setCell ⟨w.heap.size + 1 + 1, 2, none⟩ (.string ⟨#[]⟩)) := hst_0.set 2 2 (.string ⟨#[]⟩) rfl (by simp)
            have hst_2 : Mem w.heap.size [#[.int .i64 0, .int .i64 0, .bool false, .bool false, .int .u8 0, .int .i64 0, .string ⟨#[]⟩, .int .u8 0, .int .i64 0, .string ⟨#[]⟩], #[.int .i64 (k : Int), .int .i64 (nl : Int), .bool true, .bool false, .int .u8 0, .int .i64 0, .string ⟨#[]⟩, .int .u8 0, .int .i64 0, .string ⟨#[]⟩], #[.int .u8 3, .int .i64 0, .string ⟨#[]⟩], #[.int .u8 3, .int .i64 0, .string ms]] w (((w1.setCell ⟨w.heap.size + 1 + 1, 2, none⟩ (.string fz)).setCell ⟨w.heap.size + 1 + 1, 2, none⟩ (.string ⟨#[]⟩)).setCell ⟨w.heap.size + 1, 3, none⟩ (.bool false)) := hst_1.set 1 3 (.bool false) rfl (by simp)
            have hst_3 : Mem w.heap.size [#[.int .i64 0, .int .i64 0, .bool false, .bool false, .int .u8 0, .int .i64 0, .string ⟨#[]⟩, .int .u8 0, .int .i64 0, .string ⟨#[]⟩], #[.int .i64 (k : Int), .int .i64 (nl : Int), .bool true, .bool false, .int .u8 3, .int .i64 0, .string ⟨#[]⟩, .int .u8 0, .int .i64 0, .string ⟨#[]⟩], #[.int .u8 3, .int .i64 0, .string ⟨#[]⟩], #[.int .u8 3, .int .i64 0, .string ms]] w ((((w1.setCell ⟨w.heap.size + 1 + 1, 2, none⟩ (.string fz)).setCell ⟨w.heap.size + 1 + 1, 2, none⟩ (.string ⟨#[]⟩)).setCell ⟨w.heap.size + 1, 3, none⟩ (.bool false)).setCell ⟨w.heap.size + 1, 4, none⟩ (.int .u8 3)) := hst_2.set 1 4 (.int .u8 3) rfl (by simp)
            have hst_4 : Mem w.heap.size [#[.int .i64 0, .int .i64 0, .bool false, .bool false, .int .u8 0, .int .i64 0, .string ⟨#[]⟩, .int .u8 0, .int .i64 0, .string ⟨#[]⟩], #[.int .i64 (k : Int), .int .i64 (nl : Int), .bool true, .bool false, .int .u8 3, .int .i64 0, .string ⟨#[]⟩, .int .u8 0, .int .i64 0, .string ⟨#[]⟩], #[.int .u8 3, .int .i64 0, .string ⟨#[]⟩], #[.int .u8 3, .int .i64 0, .string ms]] w (((((w1.setCell ⟨w.heap.size + 1 + 1, 2, none⟩ (.string fz)).setCell ⟨w.heap.size + 1 + 1, 2, none⟩ (.string ⟨#[]⟩)).setCell ⟨w.heap.size + 1, 3, none⟩ (.bool false)).setCell ⟨w.heap.size + 1, 4, none⟩ (.int .u8 3)).setCell ⟨w.heap.size + 1, 5, none⟩ (.int .i64 0)) := hst_3.set 1 5 (.int .i64 0) rfl (by simp)
            have hst_5 : Mem w.heap.size [#[.int .i64 0, .int .i64 0, .bool false, .bool false, .int .u8 0, .int .i64 0, .string ⟨#[]⟩, .int .u8 0, .int .i64 0, .string ⟨#[]⟩], #[.int .i64 (k : Int), .int .i64 (nl : Int), .bool true, .bool false, .int .u8 3, .int .i64 0, .string ⟨#[]⟩, .int .u8 0, .int .i64 0, .string ⟨#[]⟩], #[.int .u8 3, .int .i64 0, .string ⟨#[]⟩], #[.int .u8 3, .int .i64 0, .string ms]] w ((((((w1.setCell ⟨w.heap.size + 1 + 1, 2, none⟩ (.string fz)).setCell ⟨w.heap.size + 1 + 1, 2, none⟩ (.string ⟨#[]⟩)).setCell ⟨w.heap.size + 1, 3, none⟩ (.bool false)).setCell ⟨w.heap.size + 1, 4, none⟩ (.int .u8 3)).setCell ⟨w.heap.size + 1, 5, none⟩ (.int .i64 0)).setCell ⟨w.heap.size + 1, 6, none⟩ (.string ⟨#[]⟩)) := hst_4.set 1 6 (.string ⟨#[]⟩) rfl (by simp)
            have hm := hst_5
            obtain ⟨wz, hWW⟩ : ∃ W : World, W = ((((((w1.setCell ⟨w.heap.size + 1 + 1, 2, none⟩ (.string fz)).setCell ⟨w.heap.size + 1 + 1, 2, none⟩ (.string ⟨#[]⟩)).setCell ⟨w.heap.size + 1, 3, none⟩ (.bool false)).setCell ⟨w.heap.size + 1, 4, none⟩ (.int .u8 3)).setCell ⟨w.heap.size + 1, 5, none⟩ (.int .i64 0)).setCell ⟨w.heap.size + 1, 6, none⟩ (.string ⟨#[]⟩)) := ⟨_, rfl⟩
            rw [← hWW] at hm ⊢
            clear hWW hst_0 hst_1 hst_2 hst_3 hst_4 hst_5
            clear q0_0 q0_1 q0_2 q0_3 q0_4 q0_5 q0_6 q0_7 q0_8 q0_9 q1_0 q1_1 q1_2 q1_3 q1_4 q1_5 q1_6 q1_7 q1_8 q1_9 q2_0 q2_1 q2_2 q3_0 q3_1 q3_2 g0 g1 g2 g3 z0 z1 z2 z3
            have Mwz := Lib.hid hm
            clear hm
            have q0_0 : wz.cell? ⟨w.heap.size, 0, none⟩ = some (.int .i64 0) := Mwz.out.cell 0 0 rfl rfl
            have q0_1 : wz.cell? ⟨w.heap.size, 1, none⟩ = some (.int .i64 0) := Mwz.out.cell 0 1 rfl rfl
            have q0_2 : wz.cell? ⟨w.heap.size, 2, none⟩ = some (.bool false) := Mwz.out.cell 0 2 rfl rfl
            have q0_3 : wz.cell? ⟨w.heap.size, 3, none⟩ = some (.bool false) := Mwz.out.cell 0 3 rfl rfl
            have q0_4 : wz.cell? ⟨w.heap.size, 4, none⟩ = some (.int .u8 0) := Mwz.out.cell 0 4 rfl rfl
            have q0_5 : wz.cell? ⟨w.heap.size, 5, none⟩ = some (.int .i64 0) := Mwz.out.cell 0 5 rfl rfl
            have q0_6 : wz.cell? ⟨w.heap.size, 6, none⟩ = some (.string ⟨#[]⟩) := Mwz.out.cell 0 6 rfl rfl
            have q0_7 : wz.cell? ⟨w.heap.size, 7, none⟩ = some (.int .u8 0) := Mwz.out.cell 0 7 rfl rfl
            have q0_8 : wz.cell? ⟨w.heap.size, 8, none⟩ = some (.int .i64 0) := Mwz.out.cell 0 8 rfl rfl
            have q0_9 : wz.cell? ⟨w.heap.size, 9, none⟩ = some (.string ⟨#[]⟩) := Mwz.out.cell 0 9 rfl rfl
            have q1_0 : wz.cell? ⟨w.heap.size + 1, 0, none⟩ = some (.int .i64 (k : Int)) := Mwz.out.cell 1 0 rfl rfl
            have q1_1 : wz.cell? ⟨w.heap.size + 1, 1, none⟩ = some (.int .i64 (nl : Int)) := Mwz.out.cell 1 1 rfl rfl
            have q1_2 : wz.cell? ⟨w.heap.size + 1, 2, none⟩ = some (.bool true) := Mwz.out.cell 1 2 rfl rfl
            have q1_3 : wz.cell? ⟨w.heap.size + 1, 3, none⟩ = some (.bool false) := Mwz.out.cell 1 3 rfl rfl
            have q1_4 : wz.cell? ⟨w.heap.size + 1, 4, none⟩ = some (.int .u8 3) := Mwz.out.cell 1 4 rfl rfl
            have q1_5 : wz.cell? ⟨w.heap.size + 1, 5, none⟩ = some (.int .i64 0) := Mwz.out.cell 1 5 rfl rfl
            have q1_6 : wz.cell? ⟨w.heap.size + 1, 6, none⟩ = some (.string ⟨#[]⟩) := Mwz.out.cell 1 6 rfl rfl
            have q1_7 : wz.cell? ⟨w.heap.size + 1, 7, none⟩ = some (.int .u8 0) := Mwz.out.cell 1 7 rfl rfl
            have q1_8 : wz.cell? ⟨w.heap.size + 1, 8, none⟩ = some (.int .i64 0) := Mwz.out.cell 1 8 rfl rfl
            have q1_9 : wz.cell? ⟨w.heap.size + 1, 9, none⟩ = some (.string ⟨#[]⟩) := Mwz.out.cell 1 9 rfl rfl
            have g0 : ∀ j, wz.frozen? ⟨w.heap.size, j, none⟩ = false := Mwz.out.frozen 0 rfl
            have g1 : ∀ j, wz.frozen? ⟨w.heap.size + 1, j, none⟩ = false := Mwz.out.frozen 1 rfl
            have g2 : ∀ j, wz.frozen? ⟨w.heap.size + 1 + 1, j, none⟩ = false := Mwz.out.frozen 2 rfl
            have g3 : ∀ j, wz.frozen? ⟨w.heap.size + 1 + 1 + 1, j, none⟩ = false := Mwz.out.frozen 3 rfl
            have z0 : w.heap.size < wz.heap.size := Mwz.out.lt 0 (by simp)
            have z1 : w.heap.size + 1 < wz.heap.size := Mwz.out.lt 1 (by simp)
            have z2 : w.heap.size + 1 + 1 < wz.heap.size := Mwz.out.lt 2 (by simp)
            have z3 : w.heap.size + 1 + 1 + 1 < wz.heap.size := Mwz.out.lt 3 (by simp)
            go_wp2
            refine bodyPost_ret (v := .agg #[.int .i64 (k : Int), .int .i64 (nl : Int), .bool true, .bool false, .int .u8 3, .int .i64 0, .string ⟨#[]⟩, .int .u8 0, .int .i64 0, .string ⟨#[]⟩]) (by simp [results, Try.results10, go_sem, q0_0, q0_1, q0_2, q0_3, q0_4, q0_5, q0_6, q0_7, q0_8, q0_9]) rfl ⟨by rw [HRES.out]; rfl, ?_⟩
            repeat (with_reducible refine Below.setCell ?_ (by first | exact Nat.le_refl _ | (simp; done) | omega | (simp; omega)) _)
            exact Mwz.out.below
          · have hstat := HSTAT.out
            rw [if_pos rfl] at hstat
            clear HSTAT
            have HSTAT := Lib.hid hstat
            clear hstat
            have q0_0 : w1.cell? ⟨w.heap.size, 0, none⟩ = some (.int .i64 0) := Mw1.out.cell 0 0 rfl rfl
            have q0_1 : w1.cell? ⟨w.heap.size, 1, none⟩ = some (.int .i64 0) := Mw1.out.cell 0 1 rfl rfl
            have q0_2 : w1.cell? ⟨w.heap.size, 2, none⟩ = some (.bool false) := Mw1.out.cell 0 2 rfl rfl
            have q0_3 : w1.cell? ⟨w.heap.size, 3, none⟩ = some (.bool false) := Mw1.out.cell 0 3 rfl rfl
            have q0_4 : w1.cell? ⟨w.heap.size, 4, none⟩ = some (.int .u8 0) := Mw1.out.cell 0 4 rfl rfl
            have q0_5 : w1.cell? ⟨w.heap.size, 5, none⟩ = some (.int .i64 0) := Mw1.out.cell 0 5 rfl rfl
            have q0_6 : w1.cell? ⟨w.heap.size, 6, none⟩ = some (.string ⟨#[]⟩) := Mw1.out.cell 0 6 rfl rfl
            have q0_7 : w1.cell? ⟨w.heap.size, 7, none⟩ = some (.int .u8 0) := Mw1.out.cell 0 7 rfl rfl
            have q0_8 : w1.cell? ⟨w.heap.size, 8, none⟩ = some (.int .i64 0) := Mw1.out.cell 0 8 rfl rfl
            have q0_9 : w1.cell? ⟨w.heap.size, 9, none⟩ = some (.string ⟨#[]⟩) := Mw1.out.cell 0 9 rfl rfl
            have q1_0 : w1.cell? ⟨w.heap.size + 1, 0, none⟩ = some (.int .i64 (k : Int)) := Mw1.out.cell 1 0 rfl rfl
            have q1_1 : w1.cell? ⟨w.heap.size + 1, 1, none⟩ = some (.int .i64 (nl : Int)) := Mw1.out.cell 1 1 rfl rfl
            have q1_2 : w1.cell? ⟨w.heap.size + 1, 2, none⟩ = some (.bool true) := Mw1.out.cell 1 2 rfl rfl
            have q1_3 : w1.cell? ⟨w.heap.size + 1, 3, none⟩ = some (.bool true) := Mw1.out.cell 1 3 rfl rfl
            have q1_4 : w1.cell? ⟨w.heap.size + 1, 4, none⟩ = some (.int .u8 0) := Mw1.out.cell 1 4 rfl rfl
            have q1_5 : w1.cell? ⟨w.heap.size + 1, 5, none⟩ = some (.int .i64 0) := Mw1.out.cell 1 5 rfl rfl
            have q1_6 : w1.cell? ⟨w.heap.size + 1, 6, none⟩ = some (.string ⟨#[]⟩) := Mw1.out.cell 1 6 rfl rfl
            have q1_7 : w1.cell? ⟨w.heap.size + 1, 7, none⟩ = some (.int .u8 0) := Mw1.out.cell 1 7 rfl rfl
            have q1_8 : w1.cell? ⟨w.heap.size + 1, 8, none⟩ = some (.int .i64 0) := Mw1.out.cell 1 8 rfl rfl
            have q1_9 : w1.cell? ⟨w.heap.size + 1, 9, none⟩ = some (.string ⟨#[]⟩) := Mw1.out.cell 1 9 rfl rfl
            have q2_0 : w1.cell? ⟨w.heap.size + 1 + 1, 0, none⟩ = some (.int .u8 3) := Mw1.out.cell 2 0 rfl rfl
            have q2_1 : w1.cell? ⟨w.heap.size + 1 + 1, 1, none⟩ = some (.int .i64 0) := Mw1.out.cell 2 1 rfl rfl
            have q2_2 : w1.cell? ⟨w.heap.size + 1 + 1, 2, none⟩ = some (.string ls) := Mw1.out.cell 2 2 rfl rfl
            have q3_0 : w1.cell? ⟨w.heap.size + 1 + 1 + 1, 0, none⟩ = some (.int .u8 3) := Mw1.out.cell 3 0 rfl rfl
            have q3_1 : w1.cell? ⟨w.heap.size + 1 + 1 + 1, 1, none⟩ = some (.int .i64 0) := Mw1.out.cell 3 1 rfl rfl
            have q3_2 : w1.cell? ⟨w.heap.size + 1 + 1 + 1, 2, none⟩ = some (.string ms) := Mw1.out.cell 3 2 rfl rfl
            have g0 : ∀ j, w1.frozen? ⟨w.heap.size, j, none⟩ = false := Mw1.out.frozen 0 rfl
            have g1 : ∀ j, w1.frozen? ⟨w.heap.size + 1, j, none⟩ = false := Mw1.out.frozen 1 rfl
            have g2 : ∀ j, w1.frozen? ⟨w.heap.size + 1 + 1, j, none⟩ = false := Mw1.out.frozen 2 rfl
            have g3 : ∀ j, w1.frozen? ⟨w.heap.size + 1 + 1 + 1, j, none⟩ = false := Mw1.out.frozen 3 rfl
            have z0 : w.heap.size < w1.heap.size := Mw1.out.lt 0 (by simp)
            have z1 : w.heap.size + 1 < w1.heap.size := Mw1.out.lt 1 (by simp)
            have z2 : w.heap.size + 1 + 1 < w1.heap.size := Mw1.out.lt 2 (by simp)
            have z3 : w.heap.size + 1 + 1 + 1 < w1.heap.size := Mw1.out.lt 3 (by simp)
            go_wp2_with fail
            refine (HA1.out _).mono ?_
            rintro e w2 ⟨rfl, hb⟩
            have hst_0 : Mem w.heap.size [#[.int .i64 0, .int .i64 0, .bool false, .bool false, .int .u8 0, .int .i64 0, .string ⟨#[]⟩, .int .u8 0, .int .i64 0, .string ⟨#[]⟩], #[.int .i64 (k : Int), .int .i64 (nl : Int), .bool true, .bool true, .int .u8 0, .int .i64 0, .string ⟨#[]⟩, .int .u8 0, .int .i64 0, .string ⟨#[]⟩], #[.int .u8 3, .int .i64 0, .string fz], #[.int .u8 3, .int .i64 0, .string ms]] w (w1.setCell ⟨w.heap.size + 1 + 1, 2, none⟩ (.string fz)) := Mw1.out.set 2 2 (.string fz) rfl (by simp)
            clear q0_0 q0_1 q0_2 q0_3 q0_4 q0_5 q0_6 q0_7 q0_8 q0_9 q1_0 q1_1 q1_2 q1_3 q1_4 q1_5 q1_6 q1_7 q1_8 q1_9 q2_0 q2_1 q2_2 q3_0 q3_1 q3_2 g0 g1 g2 g3 z0 z1 z2 z3
            have hm : Mem w.heap.size [#[.int .i64 0, .int .i64 0, .bool false, .bool false, .int .u8 0, .int .i64 0, .string ⟨#[]⟩, .int .u8 0, .int .i64 0, .string ⟨#[]⟩], #[.int .i64 (k : Int), .int .i64 (nl : Int), .bool true, .bool true, .int .u8 0, .int .i64 0, .string ⟨#[]⟩, .int .u8 0, .int .i64 0, .string ⟨#[]⟩], #[.int .u8 3, .int .i64 0, .string fz], #[.int .u8 3, .int .i64 0, .string ms]] w w2 := hst_0.call hb
            have Mw2 := Lib.hid hm
            clear hm hst_0
            clear hb
            cases ai
            · have hstat := HSTAT.out
              simp only [Bool.false_eq_true, if_false] at hstat
              clear HSTAT
              have HRES := Lib.hid hstat
              clear hstat
              have q0_0 : w2.cell? ⟨w.heap.size, 0, none⟩ = some (.int .i64 0) := Mw2.out.cell 0 0 rfl rfl
              have q0_1 : w2.cell? ⟨w.heap.size, 1, none⟩ = some (.int .i64 0) := Mw2.out.cell 0 1 rfl rfl
              have q0_2 : w2.cell? ⟨w.heap.size, 2, none⟩ = some (.bool false) := Mw2.out.cell 0 2 rfl rfl
              have q0_3 : w2.cell? ⟨w.heap.size, 3, none⟩ = some (.bool false) := Mw2.out.cell 0 3 rfl rfl
              have q0_4 : w2.cell? ⟨w.heap.size, 4, none⟩ = some (.int .u8 0) := Mw2.out.cell 0 4 rfl rfl
              have q0_5 : w2.cell? ⟨w.heap.size, 5, none⟩ = some (.int .i64 0) := Mw2.out.cell 0 5 rfl rfl
              have q0_6 : w2.cell? ⟨w.heap.size, 6, none⟩ = some (.string ⟨#[]⟩) := Mw2.out.cell 0 6 rfl rfl
              have q0_7 : w2.cell? ⟨w.heap.size, 7, none⟩ = some (.int .u8 0) := Mw2.out.cell 0 7 rfl rfl
              have q0_8 : w2.cell? ⟨w.heap.size, 8, none⟩ = some (.int .i64 0) := Mw2.out.cell 0 8 rfl rfl
              have q0_9 : w2.cell? ⟨w.heap.size, 9, none⟩ = some (.string ⟨#[]⟩) := Mw2.out.cell 0 9 rfl rfl
              have q1_0 : w2.cell? ⟨w.heap.size + 1, 0, none⟩ = some (.int .i64 (k : Int)) := Mw2.out.cell 1 0 rfl rfl
              have q1_1 : w2.cell? ⟨w.heap.size + 1, 1, none⟩ = some (.int .i64 (nl : Int)) := Mw2.out.cell 1 1 rfl rfl
              have q1_2 : w2.cell? ⟨w.heap.size + 1, 2, none⟩ = some (.bool true) := Mw2.out.cell 1 2 rfl rfl
              have q1_3 : w2.cell? ⟨w.heap.size + 1, 3, none⟩ = some (.bool true) := Mw2.out.cell 1 3 rfl rfl
              have q1_4 : w2.cell? ⟨w.heap.size + 1, 4, none⟩ = some (.int .u8 0) := Mw2.out.cell 1 4 rfl rfl
              have q1_5 : w2.cell? ⟨w.heap.size + 1, 5, none⟩ = some (.int .i64 0) := Mw2.out.cell 1 5 rfl rfl
              have q1_6 : w2.cell? ⟨w.heap.size + 1, 6, none⟩ = some (.string ⟨#[]⟩) := Mw2.out.cell 1 6 rfl rfl
              have q1_7 : w2.cell? ⟨w.heap.size + 1, 7, none⟩ = some (.int .u8 0) := Mw2.out.cell 1 7 rfl rfl
              have q1_8 : w2.cell? ⟨w.heap.size + 1, 8, none⟩ = some (.int .i64 0) := Mw2.out.cell 1 8 rfl rfl
              have q1_9 : w2.cell? ⟨w.heap.size + 1, 9, none⟩ = some (.string ⟨#[]⟩) := Mw2.out.cell 1 9 rfl rfl
              have q2_0 : w2.cell? ⟨w.heap.size + 1 + 1, 0, none⟩ = some (.int .u8 3) := Mw2.out.cell 2 0 rfl rfl
              have q2_1 : w2.cell? ⟨w.heap.size + 1 + 1, 1, none⟩ = some (.int .i64 0) := Mw2.out.cell 2 1 rfl rfl
              have q2_2 : w2.cell? ⟨w.heap.size + 1 + 1, 2, none⟩ = some (.string fz) := Mw2.out.cell 2 2 rfl rfl
              have q3_0 : w2.cell? ⟨w.heap.size + 1 + 1 + 1, 0, none⟩ = some (.int .u8 3) := Mw2.out.cell 3 0 rfl rfl
              have q3_1 : w2.cell? ⟨w.heap.size + 1 + 1 + 1, 1, none⟩ = some (.int .i64 0) := Mw2.out.cell 3 1 rfl rfl
              have q3_2 : w2.cell? ⟨w.heap.size + 1 + 1 + 1, 2, none⟩ = some (.string ms) := Mw2.out.cell 3 2 rfl rfl
              have g0 : ∀ j, w2.frozen? ⟨w.heap.size, j, none⟩ = false := Mw2.out.frozen 0 rfl
              have g1 : ∀ j, w2.frozen? ⟨w.heap.size + 1, j, none⟩ = false := Mw2.out.frozen 1 rfl
              have g2 : ∀ j, w2.frozen? ⟨w.heap.size + 1 + 1, j, none⟩ = false := Mw2.out.frozen 2 rfl
              have g3 : ∀ j, w2.frozen? ⟨w.heap.size + 1 + 1 + 1, j, none⟩ = false := Mw2.out.frozen 3 rfl
              have z0 : w.heap.size < w2.heap.size := Mw2.out.lt 0 (by simp)
              have z1 : w.heap.size + 1 < w2.heap.size := Mw2.out.lt 1 (by simp)
              have z2 : w.heap.size + 1 + 1 < w2.heap.size := Mw2.out.lt 2 (by simp)
              have z3 : w.heap.size + 1 + 1 + 1 < w2.heap.size := Mw2.out.lt 3 (by simp)
              go_upto_region 32 with (fail)
              have hst_0 : Mem w.heap.size [#[.int .i64 0, .int .i64 0, .bool false, .bool false, .int .u8 0, .int .i64 0, .string ⟨#[]⟩, .int .u8 0, .int .i64 0, .string ⟨#[]⟩], #[.int .i64 (k : Int), .int .i64 (nl : Int), .bool true, .bool true, .int .u8 0, .int .i64 0, .string ⟨#[]⟩, .int .u8 0, .int .i64 0, .string ⟨#[]⟩], #[.int .u8 3, .int .i64 0, .string fz], #[.int .u8 3, .int .i64 0, .string ah]] w (w2.setCell ⟨w.heap.size + 1 + 1 + 1, 2, none⟩ (.string ah)) := Mw2.out.set 3 2 (.string ah) rfl (by simp)
              have hst_1 : Mem w.heap.size [#[.int .i64 0, .int .i64 0, .bool false, .bool false, .int .u8 0, .int .i64 0, .string ⟨#[]⟩, .int .u8 0, .int .i64 0, .string ⟨#[]⟩], #[.int .i64 (k : Int), .int .i64 (nl : Int), .bool true, .bool false, .int .u8 0, .int .i64 0, .string ⟨#[]⟩, .int .u8 0, .int .i64 0, .string ⟨#[]⟩], #[.int .u8 3, .int .i64 0, .string fz], #[.int .u8 3, .int .i64 0, .string ah]] w ((w2.setCell ⟨w.heap.size + 1 + 1 + 1, 2, none⟩ (.string ah)).setCell ⟨w.heap.size + 1, 3, none⟩ (.bool false)) := hst_0.set 1 3 (.bool false) rfl (by simp)
              have hst_2 : Mem w.heap.size [#[.int .i64 0, .int .i64 0, .bool false, .bool false, .int .u8 0, .int .i64 0, .string ⟨#[]⟩, .int .u8 0, .int .i64 0, .string ⟨#[]⟩], #[.int .i64 (k : Int), .int .i64 (nl : Int), .bool true, .bool false, .int .u8 3, .int .i64 0, .string ⟨#[]⟩, .int .u8 0, .int .i64 0, .string ⟨#[]⟩], #[.int .u8 3, .int .i64 0, .string fz], #[.int .u8 3, .int .i64 0, .string ah]] w (((w2.setCell ⟨w.heap.size + 1 + 1 + 1, 2, none⟩ (.string ah)).setCell ⟨w.heap.size + 1, 3, none⟩ (.bool false)).setCell ⟨w.heap.size + 1, 4, none⟩ (.int .u8 3)) := hst_1.set 1 4 (.int .u8 3) rfl (by simp)
              have hst_3 : Mem w.heap.size [#[.int .i64 0, .int .i64 0, .bool false, .bool false, .int .u8 0, .int .i64 0, .string ⟨#[]⟩, .int .u8 0, .int .i64 0, .string ⟨#[]⟩], #[.int .i64 (k : Int), .int .i64 (nl : Int), .bool true, .bool false, .int .u8 3, .int .i64 0, .string ⟨#[]⟩, .int .u8 0, .int .i64 0, .string ⟨#[]⟩], #[.int .u8 3, .int .i64 0, .string fz], #[.int .u8 3, .int .i64 0, .string ah]] w ((((w2.setCell ⟨w.heap.size + 1 + 1 + 1, 2, none⟩ (.string ah)).setCell ⟨w.heap.size + 1, 3, none⟩ (.bool false)).setCell ⟨w.heap.size + 1, 4, none⟩ (.int .u8 3)).setCell ⟨w.heap.size + 1, 5, none⟩ (.int .i64 0)) := hst_2.set 1 5 (.int .i64 0) rfl (by simp)
              have hst_4 : Mem w.heap.size [#[.int .i64 0, .int .i64 0, .bool false, .bool false, .int .u8 0, .int .i64 0, .string ⟨#[]⟩, .int .u8 0, .int .i64 0, .string ⟨#[]⟩], #[.int .i64 (k : Int), .int .i64 (nl : Int), .bool true, .bool false, .int .u8 3, .int .i64 0, .string fz, .int .u8 0, .int .i64 0, .string ⟨#[]⟩], #[.int .u8 3, .int .i64 0, .string fz], #[.int .u8 3, .int .i64 0, .string ah]] w (((((w2.setCell ⟨w.heap.size + 1 + 1 + 1, 2, none⟩ (.string ah)).setCell ⟨w.heap.size + 1, 3, none⟩ (.bool false)).setCell ⟨w.heap.size + 1, 4, none⟩ (.int .u8 3)).setCell ⟨w.heap.size + 1, 5, none⟩ (.int .i64 0)).setCell ⟨w.heap.size + 1, 6, none⟩ (.string fz)) := hst_3.set 1 6 (.string fz) rfl (by simp)
              have hm := hst_4
              obtain ⟨wz, hWW⟩ : ∃ W : World, W = (((((w2.setCell ⟨w.heap.size + 1 + 1 + 1, 2, none⟩ (.string ah)).setCell ⟨w.heap.size + 1, 3, none⟩ (.bool false)).setCell ⟨w.heap.size + 1, 4, none⟩ (.int .u8 3)).setCell ⟨w.heap.size + 1, 5, none⟩ (.int .i64 0)).setCell ⟨w.heap.size + 1, 6, none⟩ (.string fz)) := ⟨_, rfl⟩
              rw [← hWW] at hm ⊢
              clear hWW hst_0 hst_1 hst_2 hst_3 hst_4
              clear q0_0 q0_1 q0_2 q0_3 q0_4 q0_5 q0_6 q0_7 q0_8 q0_9 q1_0 q1_1 q1_2 q1_3 q1_4 q1_5 q1_6 q1_7 q1_8 q1_9 q2_0 q2_1 q2_2 q3_0 q3_1 q3_2 g0 g1 g2 g3 z0 z1 z2 z3
              have Mwz := Lib.hid hm
              clear hm
              have q0_0 : wz.cell? ⟨w.heap.size, 0, none⟩ = some (.int .i64 0) := Mwz.out.cell 0 0 rfl rfl
              have q0_1 : wz.cell? ⟨w.heap.size, 1, none⟩ = some (.int .i64 0) := Mwz.out.cell 0 1 rfl rfl
              have q0_2 : wz.cell? ⟨w.heap.size, 2, none⟩ = some (.bool false) := Mwz.out.cell 0 2 rfl rfl
              have q0_3 : wz.cell? ⟨w.heap.size, 3, none⟩ = some (.bool false) := Mwz.out.cell 0 3 rfl rfl
              have q0_4 : wz.cell? ⟨w.heap.size, 4, none⟩ = some (.int .u8 0) := Mwz.out.cell 0 4 rfl rfl
              have q0_5 : wz.cell? ⟨w.heap.size, 5, none⟩ = some (.int .i64 0) := Mwz.out.cell 0 5 rfl rfl
              have q0_6 : wz.cell? ⟨w.heap.size, 6, none⟩ = some (.string ⟨#[]⟩) := Mwz.out.cell 0 6 rfl rfl
              have q0_7 : wz.cell? ⟨w.heap.size, 7, none⟩ = some (.int .u8 0) := Mwz.out.cell 0 7 rfl rfl
              have q0_8 : wz.cell? ⟨w.heap.size, 8, none⟩ = some (.int .i64 0) := Mwz.out.cell 0 8 rfl rfl
              have q0_9 : wz.cell? ⟨w.heap.size, 9, none⟩ = some (.string ⟨#[]⟩) := Mwz.out.cell 0 9 rfl rfl
              have q1_0 : wz.cell? ⟨w.heap.size + 1, 0, none⟩ = some (.int .i64 (k : Int)) := Mwz.out.cell 1 0 rfl rfl
              have q1_1 : wz.cell? ⟨w.heap.size + 1, 1, none⟩ = some (.int .i64 (nl : Int)) := Mwz.out.cell 1 1 rfl rfl
              have q1_2 : wz.cell? ⟨w.heap.size + 1, 2, none⟩ = some (.bool true) := Mwz.out.cell 1 2 rfl rfl
              have q1_3 : wz.cell? ⟨w.heap.size + 1, 3, none⟩ = some (.bool false) := Mwz.out.cell 1 3 rfl rfl
              have q1_4 : wz.cell? ⟨w.heap.size + 1, 4, none⟩ = some (.int .u8 3) := Mwz.out.cell 1 4 rfl rfl
              have q1_5 : wz.cell? ⟨w.heap.size + 1, 5, none⟩ = some (.int .i64 0) := Mwz.out.cell 1 5 rfl rfl
              have q1_6 : wz.cell? ⟨w.heap.size + 1, 6, none⟩ = some (.string fz) := Mwz.out.cell 1 6 rfl rfl
              have q1_7 : wz.cell? ⟨w.heap.size + 1, 7, none⟩ = some (.int .u8 0) := Mwz.out.cell 1 7 rfl rfl
              have q1_8 : wz.cell? ⟨w.heap.size + 1, 8, none⟩ = some (.int .i64 0) := Mwz.out.cell 1 8 rfl rfl
              have q1_9 : wz.cell? ⟨w.heap.size + 1, 9, none⟩ = some (.string ⟨#[]⟩) := Mwz.out.cell 1 9 rfl rfl
              have g0 : ∀ j, wz.frozen? ⟨w.heap.size, j, none⟩ = false := Mwz.out.frozen 0 rfl
              have g1 : ∀ j, wz.frozen? ⟨w.heap.size + 1, j, none⟩ = false := Mwz.out.frozen 1 rfl
              have g2 : ∀ j, wz.frozen? ⟨w.heap.size + 1 + 1, j, none⟩ = false := Mwz.out.frozen 2 rfl
              have g3 : ∀ j, wz.frozen? ⟨w.heap.size + 1 + 1 + 1, j, none⟩ = false := Mwz.out.frozen 3 rfl
              have z0 : w.heap.size < wz.heap.size := Mwz.out.lt 0 (by simp)
              have z1 : w.heap.size + 1 < wz.heap.size := Mwz.out.lt 1 (by simp)
              have z2 : w.heap.size + 1 + 1 < wz.heap.size := Mwz.out.lt 2 (by simp)
              have z3 : w.heap.size + 1 + 1 + 1 < wz.heap.size := Mwz.out.lt 3 (by simp)
              go_wp2
              refine bodyPost_ret (v := .agg #[.int .i64 (k : Int), .int .i64 (nl : Int), .bool true, .bool false, .int .u8 3, .int .i64 0, .string fz, .int .u8 0, .int .i64 0, .string ⟨#[]⟩]) (by simp [results, Try.results10, go_sem, q0_0, q0_1, q0_2, q0_3, q0_4, q0_5, q0_6, q0_7, q0_8, q0_9]) rfl ⟨by rw [HRES.out]; rfl, ?_⟩
              repeat (with_reducible refine Below.setCell ?_ (by first | exact Nat.le_refl _ | (simp; done) | omega | (simp; omega)) _)
              exact Mwz.out.below
            · have hstat := HSTAT.out
              simp only [if_true] at hstat
              clear HSTAT
              have HRES := Lib.hid hstat
              clear hstat
              have q0_0 : w2.cell? ⟨w.heap.size, 0, none⟩ = some (.int .i64 0) := Mw2.out.cell 0 0 rfl rfl
              have q0_1 : w2.cell? ⟨w.heap.size, 1, none⟩ = some (.int .i64 0) := Mw2.out.cell 0 1 rfl rfl
              have q0_2 : w2.cell? ⟨w.heap.size, 2, none⟩ = some (.bool false) := Mw2.out.cell 0 2 rfl rfl
              have q0_3 : w2.cell? ⟨w.heap.size, 3, none⟩ = some (.bool false) := Mw2.out.cell 0 3 rfl rfl
              have q0_4 : w2.cell? ⟨w.heap.size, 4, none⟩ = some (.int .u8 0) := Mw2.out.cell 0 4 rfl rfl
              have q0_5 : w2.cell? ⟨w.heap.size, 5, none⟩ = some (.int .i64 0) := Mw2.out.cell 0 5 rfl rfl
              have q0_6 : w2.cell? ⟨w.heap.size, 6, none⟩ = some (.string ⟨#[]⟩) := Mw2.out.cell 0 6 rfl rfl
              have q0_7 : w2.cell? ⟨w.heap.size, 7, none⟩ = some (.int .u8 0) := Mw2.out.cell 0 7 rfl rfl
              have q0_8 : w2.cell? ⟨w.heap.size, 8, none⟩ = some (.int .i64 0) := Mw2.out.cell 0 8 rfl rfl
              have q0_9 : w2.cell? ⟨w.heap.size, 9, none⟩ = some (.string ⟨#[]⟩) := Mw2.out.cell 0 9 rfl rfl
              have q1_0 : w2.cell? ⟨w.heap.size + 1, 0, none⟩ = some (.int .i64 (k : Int)) := Mw2.out.cell 1 0 rfl rfl
              have q1_1 : w2.cell? ⟨w.heap.size + 1, 1, none⟩ = some (.int .i64 (nl : Int)) := Mw2.out.cell 1 1 rfl rfl
              have q1_2 : w2.cell? ⟨w.heap.size + 1, 2, none⟩ = some (.bool true) := Mw2.out.cell 1 2 rfl rfl
              have q1_3 : w2.cell? ⟨w.heap.size + 1, 3, none⟩ = some (.bool true) := Mw2.out.cell 1 3 rfl rfl
              have q1_4 : w2.cell? ⟨w.heap.size + 1, 4, none⟩ = some (.int .u8 0) := Mw2.out.cell 1 4 rfl rfl
              have q1_5 : w2.cell? ⟨w.heap.size + 1, 5, none⟩ = some (.int .i64 0) := Mw2.out.cell 1 5 rfl rfl
              have q1_6 : w2.cell? ⟨w.heap.size + 1, 6, none⟩ = some (.string ⟨#[]⟩) := Mw2.out.cell 1 6 rfl rfl
              have q1_7 : w2.cell? ⟨w.heap.size + 1, 7, none⟩ = some (.int .u8 0) := Mw2.out.cell 1 7 rfl rfl
              have q1_8 : w2.cell? ⟨w.heap.size + 1, 8, none⟩ = some (.int .i64 0) := Mw2.out.cell 1 8 rfl rfl
              have q1_9 : w2.cell? ⟨w.heap.size + 1, 9, none⟩ = some (.string ⟨#[]⟩) := Mw2.out.cell 1 9 rfl rfl
              have q2_0 : w2.cell? ⟨w.heap.size + 1 + 1, 0, none⟩ = some (.int .u8 3) := Mw2.out.cell 2 0 rfl rfl
              have q2_1 : w2.cell? ⟨w.heap.size + 1 + 1, 1, none⟩ = some (.int .i64 0) := Mw2.out.cell 2 1 rfl rfl
              have q2_2 : w2.cell? ⟨w.heap.size + 1 + 1, 2, none⟩ = some (.string fz) := Mw2.out.cell 2 2 rfl rfl
              have q3_0 : w2.cell? ⟨w.heap.size + 1 + 1 + 1, 0, none⟩ = some (.int .u8 3) := Mw2.out.cell 3 0 rfl rfl
              have q3_1 : w2.cell? ⟨w.heap.size + 1 + 1 + 1, 1, none⟩ = some (.int .i64 0) := Mw2.out.cell 3 1 rfl rfl
              have q3_2 : w2.cell? ⟨w.heap.size + 1 + 1 + 1, 2, none⟩ = some (.string ms) := Mw2.out.cell 3 2 rfl rfl
              have g0 : ∀ j, w2.frozen? ⟨w.heap.size, j, none⟩ = false := Mw2.out.frozen 0 rfl
              have g1 : ∀ j, w2.frozen? ⟨w.heap.size + 1, j, none⟩ = false := Mw2.out.frozen 1 rfl
              have g2 : ∀ j, w2.frozen? ⟨w.heap.size + 1 + 1, j, none⟩ = false := Mw2.out.frozen 2 rfl
              have g3 : ∀ j, w2.frozen? ⟨w.heap.size + 1 + 1 + 1, j, none⟩ = false := Mw2.out.frozen 3 rfl
              have z0 : w.heap.size < w2.heap.size := Mw2.out.lt 0 (by simp)
              have z1 : w.heap.size + 1 < w2.heap.size := Mw2.out.lt 1 (by simp)
              have z2 : w.heap.size + 1 + 1 < w2.heap.size := Mw2.out.lt 2 (by simp)
              have z3 : w.heap.size + 1 + 1 + 1 < w2.heap.size := Mw2.out.lt 3 (by simp)
              go_upto_region 32 with (fail)
              have hst_0 : Mem w.heap.size [#[.int .i64 0, .int .i64 0, .bool false, .bool false, .int .u8 0, .int .i64 0, .string ⟨#[]⟩, .int .u8 0, .int .i64 0, .string ⟨#[]⟩], #[.int .i64 (k : Int), .int .i64 (nl : Int), .bool true, .bool true, .int .u8 0, .int .i64 0, .string ⟨#[]⟩, .int .u8 0, .int .i64 0, .string ⟨#[]⟩], #[.int .u8 3, .int .i64 0, .string fz], #[.int .u8 3, .int .i64 0, .string ah]] w (w2.setCell ⟨w.heap.size + 1 + 1 + 1, 2, none⟩ (.string ah)) := Mw2.out.set 3 2 (.string ah) rfl (by simp)
              have hst_1 : Mem w.heap.size [#[.int .i64 0, .int .i64 0, .bool false, .bool false, .int .u8 0, .int .i64 0, .string ⟨#[]⟩, .int .u8 0, .int .i64 0, .string ⟨#[]⟩], #[.int .i64 (k : Int), .int .i64 (nl : Int), .bool true, .bool true, .int .u8 0, .int .i64 0, .string ⟨#[]⟩, .int .u8 0, .int .i64 0, .string ⟨#[]⟩], #[.int .u8 3, .int .i64 0, .string fz], #[.int .u8 3, .int .i64 0, .string ah]] w ((w2.setCell ⟨w.heap.size + 1 + 1 + 1, 2, none⟩ (.string ah)).setCell ⟨w.heap.size + 1, 3, none⟩ (.bool true)) := hst_0.set 1 3 (.bool true) rfl (by simp)
              have hst_2 : Mem w.heap.size [#[.int .i64 0, .int .i64 0, .bool false, .bool false, .int .u8 0, .int .i64 0, .string ⟨#[]⟩, .int .u8 0, .int .i64 0, .string ⟨#[]⟩], #[.int .i64 (k : Int), .int .i64 (nl : Int), .bool true, .bool true, .int .u8 3, .int .i64 0, .string ⟨#[]⟩, .int .u8 0, .int .i64 0, .string ⟨#[]⟩], #[.int .u8 3, .int .i64 0, .string fz], #[.int .u8 3, .int .i64 0, .string ah]] w (((w2.setCell ⟨w.heap.size + 1 + 1 + 1, 2, none⟩ (.string ah)).setCell ⟨w.heap.size + 1, 3, none⟩ (.bool true)).setCell ⟨w.heap.size + 1, 4, none⟩ (.int .u8 3)) := hst_1.set 1 4 (.int .u8 3) rfl (by simp)
              have hst_3 : Mem w.heap.size [#[.int .i64 0, .int .i64 0, .bool false, .bool false, .int .u8 0, .int .i64 0, .string ⟨#[]⟩, .int .u8 0, .int .i64 0, .string ⟨#[]⟩], #[.int .i64 (k : Int), .int .i64 (nl : Int), .bool true, .bool true, .int .u8 3, .int .i64 0, .string ⟨#[]⟩, .int .u8 0, .int .i64 0, .string ⟨#[]⟩], #[.int .u8 3, .int .i64 0, .string fz], #[.int .u8 3, .int .i64 0, .string ah]] w ((((w2.setCell ⟨w.heap.size + 1 + 1 + 1, 2, none⟩ (.string ah)).setCell ⟨w.heap.size + 1, 3, none⟩ (.bool true)).setCell ⟨w.heap.size + 1, 4, none⟩ (.int .u8 3)).setCell ⟨w.heap.size + 1, 5, none⟩ (.int .i64 0)) := hst_2.set 1 5 (.int .i64 0) rfl (by simp)
              have hst_4 : Mem w.heap.size [#[.int .i64 0, .int .i64 0, .bool false, .bool false, .int .u8 0, .int .i64 0, .string ⟨#[]⟩, .int .u8 0, .int .i64 0, .string ⟨#[]⟩], #[.int .i64 (k : Int), .int .i64 (nl : Int), .bool true, .bool true, .int .u8 3, .int .i64 0, .string fz, .int .u8 0, .int .i64 0, .string ⟨#[]⟩], #[.int .u8 3, .int .i64 0, .string fz], #[.int .u8 3, .int .i64 0, .string ah]] w (((((w2.setCell ⟨w.heap.size + 1 + 1 + 1, 2, none⟩ (.string ah)).setCell ⟨w.heap.size + 1, 3, none⟩ (.bool true)).setCell ⟨w.heap.size + 1, 4, none⟩ (.int .u8 3)).setCell ⟨w.heap.size + 1, 5, none⟩ (.int .i64 0)).setCell ⟨w.heap.size + 1, 6, none⟩ (.string fz)) := hst_3.set 1 6 (.string fz) rfl (by simp)
              have hst_5 : Mem w.heap.size [#[.int .i64 0, .int .i64 0, .bool false, .bool false, .int .u8 0, .int .i64 0, .string ⟨#[]⟩, .int .u8 0, .int .i64 0, .string ⟨#[]⟩], #[.int .i64 (k : Int), .int .i64 (nl : Int), .bool true, .bool true, .int .u8 3, .int .i64 0, .string fz, .int .u8 3, .int .i64 0, .string ⟨#[]⟩], #[.int .u8 3, .int .i64 0, .string fz], #[.int .u8 3, .int .i64 0, .string ah]] w ((((((w2.setCell ⟨w.heap.size + 1 + 1 + 1, 2, none⟩ (.string ah)).setCell ⟨w.heap.size + 1, 3, none⟩ (.bool true)).setCell ⟨w.heap.size + 1, 4, none⟩ (.int .u8 3)).setCell ⟨w.heap.size + 1, 5, none⟩ (.int .i64 0)).setCell ⟨w.heap.size + 1, 6, none⟩ (.string fz)).setCell ⟨w.heap.size + 1, 7, none⟩ (.int .u8 3)) := hst_4.set 1 7 (.int .u8 3) rfl (by simp)
              have hst_6 : Mem w.heap.size [#[.int .i64 0, .int .i64 0, .bool false, .bool false, .int .u8 0, .int .i64 0, .string ⟨#[]⟩, .int .u8 0, .int .i64 0, .string ⟨#[]⟩], #[.int .i64 (k : Int), .int .i64 (nl : Int), .bool true, .bool true, .int .u8 3, .int .i64 0, .string fz, .int .u8 3, .int .i64 0, .string ⟨#[]⟩], #[.int .u8 3, .int .i64 0, .string fz], #[.int .u8 3, .int .i64 0, .string ah]] w (((((((w2.setCell ⟨w.heap.size + 1 + 1 + 1, 2, none⟩ (.string ah)).setCell ⟨w.heap.size + 1, 3, none⟩ (.bool true)).setCell ⟨w.heap.size + 1, 4, none⟩ (.int .u8 3)).setCell ⟨w.heap.size + 1, 5, none⟩ (.int .i64 0)).setCell ⟨w.heap.size + 1, 6, none⟩ (.string fz)).setCell ⟨w.heap.size + 1, 7, none⟩ (.int .u8 3)).setCell ⟨w.heap.size + 1, 8, none⟩ (.int .i64 0)) := hst_5.set 1 8 (.int .i64 0) rfl (by simp)
              have hst_7 : Mem w.heap.size [#[.int .i64 0, .int .i64 0, .bool false, .bool false, .int .u8 0, .int .i64 0, .string ⟨#[]⟩, .int .u8 0, .int .i64 0, .string ⟨#[]⟩], #[.int .i64 (k : Int), .int .i64 (nl : Int), .bool true, .bool true, .int .u8 3, .int .i64 0, .string fz, .int .u8 3, .int .i64 0, .string ah], #[.int .u8 3, .int .i64 0, .string fz], #[.int .u8 3, .int .i64 0, .string ah]] w ((((((((w2.setCell ⟨w.heap.size + 1 + 1 + 1, 2, none⟩ (.string ah)).setCell ⟨w.heap.size + 1, 3, none⟩ (.bool true)).setCell ⟨w.heap.size + 1, 4, none⟩ (.int .u8 3)).setCell ⟨w.heap.size + 1, 5, none⟩ (.int .i64 0)).setCell ⟨w.heap.size + 1, 6, none⟩ (.string fz)).setCell ⟨w.heap.size + 1, 7, none⟩ (.int .u8 3)).setCell ⟨w.heap.size + 1, 8, none⟩ (.int .i64 0)).setCell ⟨w.heap.size + 1, 9, none⟩ (.string ah)) := hst_6.set 1 9 (.string ah) rfl (by simp)
              have hm := hst_7
              obtain ⟨wz, hWW⟩ : ∃ W : World, W = ((((((((w2.setCell ⟨w.heap.size + 1 + 1 + 1, 2, none⟩ (.string ah)).setCell ⟨w.heap.size + 1, 3, none⟩ (.bool true)).setCell ⟨w.heap.size + 1, 4, none⟩ (.int .u8 3)).setCell ⟨w.heap.size + 1, 5, none⟩ (.int .i64 0)).setCell ⟨w.heap.size + 1, 6, none⟩ (.string fz)).setCell ⟨w.heap.size + 1, 7, none⟩ (.int .u8 3)).setCell ⟨w.heap.size + 1, 8, none⟩ (.int .i64 0)).setCell ⟨w.heap.size + 1, 9, none⟩ (.string ah)) := ⟨_, rfl⟩
              rw [← hWW] at hm ⊢
              clear hWW hst_0 hst_1 hst_2 hst_3 hst_4 hst_5 hst_6 hst_7
              clear q0_0 q0_1 q0_2 q0_3 q0_4 q0_5 q0_6 q0_7 q0_8 q0_9 q1_0 q1_1 q1_2 q1_3 q1_4 q1_5 q1_6 q1_7 q1_8 q1_9 q2_0 q2_1 q2_2 q3_0 q3_1 q3_2 g0 g1 g2 g3 z0 z1 z2 z3
              have Mwz := Lib.hid hm
              clear hm
              have q0_0 : wz.cell? ⟨w.heap.size, 0, none⟩ = some (.int .i64 0) := Mwz.out.cell 0 0 rfl rfl
              have q0_1 : wz.cell? ⟨w.heap.size, 1, none⟩ = some (.int .i64 0) := Mwz.out.cell 0 1 rfl rfl
              have q0_2 : wz.cell? ⟨w.heap.size, 2, none⟩ = some (.bool false) := Mwz.out.cell 0 2 rfl rfl
              have q0_3 : wz.cell? ⟨w.heap.size, 3, none⟩ = some (.bool false) := Mwz.out.cell 0 3 rfl rfl
              have q0_4 : wz.cell? ⟨w.heap.size, 4, none⟩ = some (.int .u8 0) := Mwz.out.cell 0 4 rfl rfl
              have q0_5 : wz.cell? ⟨w.heap.size, 5, none⟩ = some (.int .i64 0) := Mwz.out.cell 0 5 rfl rfl
              have q0_6 : wz.cell? ⟨w.heap.size, 6, none⟩ = some (.string ⟨#[]⟩) := Mwz.out.cell 0 6 rfl rfl
              have q0_7 : wz.cell? ⟨w.heap.size, 7, none⟩ = some (.int .u8 0) := Mwz.out.cell 0 7 rfl rfl
              have q0_8 : wz.cell? ⟨w.heap.size, 8, none⟩ = some (.int .i64 0) := Mwz.out.cell 0 8 rfl rfl
              have q0_9 : wz.cell? ⟨w.heap.size, 9, none⟩ = some (.string ⟨#[]⟩) := Mwz.out.cell 0 9 rfl rfl
              have q1_0 : wz.cell? ⟨w.heap.size + 1, 0, none⟩ = some (.int .i64 (k : Int)) := Mwz.out.cell 1 0 rfl rfl
              have q1_1 : wz.cell? ⟨w.heap.size + 1, 1, none⟩ = some (.int .i64 (nl : Int)) := Mwz.out.cell 1 1 rfl rfl
              have q1_2 : wz.cell? ⟨w.heap.size + 1, 2, none⟩ = some (.bool true) := Mwz.out.cell 1 2 rfl rfl
              have q1_3 : wz.cell? ⟨w.heap.size + 1, 3, none⟩ = some (.bool true) := Mwz.out.cell 1 3 rfl rfl
              have q1_4 : wz.cell? ⟨w.heap.size + 1, 4, none⟩ = some (.int .u8 3) := Mwz.out.cell 1 4 rfl rfl
              have q1_5 : wz.cell? ⟨w.heap.size + 1, 5, none⟩ = some (.int .i64 0) := Mwz.out.cell 1 5 rfl rfl
              have q1_6 : wz.cell? ⟨w.heap.size + 1, 6, none⟩ = some (.string fz) := Mwz.out.cell 1 6 rfl rfl
              have q1_7 : wz.cell? ⟨w.heap.size + 1, 7, none⟩ = some (.int .u8 3) := Mwz.out.cell 1 7 rfl rfl
              have q1_8 : wz.cell? ⟨w.heap.size + 1, 8, none⟩ = some (.int .i64 0) := Mwz.out.cell 1 8 rfl rfl
              have q1_9 : wz.cell? ⟨w.heap.size + 1, 9, none⟩ = some (.string ah) := Mwz.out.cell 1 9 rfl rfl
              have g0 : ∀ j, wz.frozen? ⟨w.heap.size, j, none⟩ = false := Mwz.out.frozen 0 rfl
              have g1 : ∀ j, wz.frozen? ⟨w.heap.size + 1, j, none⟩ = false := Mwz.out.frozen 1 rfl
              have g2 : ∀ j, wz.frozen? ⟨w.heap.size + 1 + 1, j, none⟩ = false := Mwz.out.frozen 2 rfl
              have g3 : ∀ j, wz.frozen? ⟨w.heap.size + 1 + 1 + 1, j, none⟩ = false := Mwz.out.frozen 3 rfl
              have z0 : w.heap.size < wz.heap.size := Mwz.out.lt 0 (by simp)
              have z1 : w.heap.size + 1 < wz.heap.size := Mwz.out.lt 1 (by simp)
              have z2 : w.heap.size + 1 + 1 < wz.heap.size := Mwz.out.lt 2 (by simp)
              have z3 : w.heap.size + 1 + 1 + 1 < wz.heap.size := Mwz.out.lt 3 (by simp)
              go_wp2
              refine bodyPost_ret (v := .agg #[.int .i64 (k : Int), .int .i64 (nl : Int), .bool true, .bool true, .int .u8 3, .int .i64 0, .string fz, .int .u8 3, .int .i64 0, .string ah]) (by simp [results, Try.results10, go_sem, q0_0, q0_1, q0_2, q0_3, q0_4, q0_5, q0_6, q0_7, q0_8, q0_9]) rfl ⟨by rw [HRES.out]; rfl, ?_⟩
              repeat (with_reducible refine Below.setCell ?_ (by first | exact Nat.le_refl _ | (simp; done) | omega | (simp; omega)) _)
              exact Mwz.out.below
        · have h3i : (lc.kind == 3) = false := by rw [beq_eq_false_iff_ne]; exact h3
          rw [if_neg h3] at hstat
          have HRES := Lib.hid hstat
          clear hstat hkm hln hmn h3
          have q0_0 : wr.cell? ⟨w.heap.size, 0, none⟩ = some (.int .i64 0) := M1.out.cell 0 0 rfl rfl
          have q0_1 : wr.cell? ⟨w.heap.size, 1, none⟩ = some (.int .i64 0) := M1.out.cell 0 1 rfl rfl
          have q0_2 : wr.cell? ⟨w.heap.size, 2, none⟩ = some (.bool false) := M1.out.cell 0 2 rfl rfl
          have q0_3 : wr.cell? ⟨w.heap.size, 3, none⟩ = some (.bool false) := M1.out.cell 0 3 rfl rfl
          have q0_4 : wr.cell? ⟨w.heap.size, 4, none⟩ = some (.int .u8 0) := M1.out.cell 0 4 rfl rfl
          have q0_5 : wr.cell? ⟨w.heap.size, 5, none⟩ = some (.int .i64 0) := M1.out.cell 0 5 rfl rfl
          have q0_6 : wr.cell? ⟨w.heap.size, 6, none⟩ = some (.string ⟨#[]⟩) := M1.out.cell 0 6 rfl rfl
          have q0_7 : wr.cell? ⟨w.heap.size, 7, none⟩ = some (.int .u8 0) := M1.out.cell 0 7 rfl rfl
          have q0_8 : wr.cell? ⟨w.heap.size, 8, none⟩ = some (.int .i64 0) := M1.out.cell 0 8 rfl rfl
          have q0_9 : wr.cell? ⟨w.heap.size, 9, none⟩ = some (.string ⟨#[]⟩) := M1.out.cell 0 9 rfl rfl
          have q1_0 : wr.cell? ⟨w.heap.size + 1, 0, none⟩ = some (.int .i64 (k : Int)) := M1.out.cell 1 0 rfl rfl
          have q1_1 : wr.cell? ⟨w.heap.size + 1, 1, none⟩ = some (.int .i64 (nl : Int)) := M1.out.cell 1 1 rfl rfl
          have q1_2 : wr.cell? ⟨w.heap.size + 1, 2, none⟩ = some (.bool true) := M1.out.cell 1 2 rfl rfl
          have q1_3 : wr.cell? ⟨w.heap.size + 1, 3, none⟩ = some (.bool false) := M1.out.cell 1 3 rfl rfl
          have q1_4 : wr.cell? ⟨w.heap.size + 1, 4, none⟩ = some (.int .u8 0) := M1.out.cell 1 4 rfl rfl
          have q1_5 : wr.cell? ⟨w.heap.size + 1, 5, none⟩ = some (.int .i64 0) := M1.out.cell 1 5 rfl rfl
          have q1_6 : wr.cell? ⟨w.heap.size + 1, 6, none⟩ = some (.string ⟨#[]⟩) := M1.out.cell 1 6 rfl rfl
          have q1_7 : wr.cell? ⟨w.heap.size + 1, 7, none⟩ = some (.int .u8 0) := M1.out.cell 1 7 rfl rfl
          have q1_8 : wr.cell? ⟨w.heap.size + 1, 8, none⟩ = some (.int .i64 0) := M1.out.cell 1 8 rfl rfl
          have q1_9 : wr.cell? ⟨w.heap.size + 1, 9, none⟩ = some (.string ⟨#[]⟩) := M1.out.cell 1 9 rfl rfl
          have q2_0 : wr.cell? ⟨w.heap.size + 1 + 1, 0, none⟩ = some (.int .u8 lc.kind) := M1.out.cell 2 0 rfl rfl
          have q2_1 : wr.cell? ⟨w.heap.size + 1 + 1, 1, none⟩ = some (.int .i64 lc.n) := M1.out.cell 2 1 rfl rfl
          have q2_2 : wr.cell? ⟨w.heap.size + 1 + 1, 2, none⟩ = some (.string lc.s) := M1.out.cell 2 2 rfl rfl
          have q3_0 : wr.cell? ⟨w.heap.size + 1 + 1 + 1, 0, none⟩ = some (.int .u8 mc.kind) := M1.out.cell 3 0 rfl rfl
          have q3_1 : wr.cell? ⟨w.heap.size + 1 + 1 + 1, 1, none⟩ = some (.int .i64 mc.n) := M1.out.cell 3 1 rfl rfl
          have q3_2 : wr.cell? ⟨w.heap.size + 1 + 1 + 1, 2, none⟩ = some (.string mc.s) := M1.out.cell 3 2 rfl rfl
          have g0 : ∀ j, wr.frozen? ⟨w.heap.size, j, none⟩ = false := M1.out.frozen 0 rfl
          have g1 : ∀ j, wr.frozen? ⟨w.heap.size + 1, j, none⟩ = false := M1.out.frozen 1 rfl
          have g2 : ∀ j, wr.frozen? ⟨w.heap.size + 1 + 1, j, none⟩ = false := M1.out.frozen 2 rfl
          have g3 : ∀ j, wr.frozen? ⟨w.heap.size + 1 + 1 + 1, j, none⟩ = false := M1.out.frozen 3 rfl
          have z0 : w.heap.size < wr.heap.size := M1.out.lt 0 (by simp)
          have z1 : w.heap.size + 1 < wr.heap.size := M1.out.lt 1 (by simp)
          have z2 : w.heap.size + 1 + 1 < wr.heap.size := M1.out.lt 2 (by simp)
          have z3 : w.heap.size + 1 + 1 + 1 < wr.heap.size := M1.out.lt 3 (by simp)
          go_upto_region 32 with (fail)
          have hst_0 : Mem w.heap.size [#[.int .i64 0, .int .i64 0, .bool false, .bool false, .int .u8 0, .int .i64 0, .string ⟨#[]⟩, .int .u8 0, .int .i64 0, .string ⟨#[]⟩], #[.int .i64 (k : Int), .int .i64 (nl : Int), .bool true, .bool true, .int .u8 0, .int .i64 0, .string ⟨#[]⟩, .int .u8 0, .int .i64 0, .string ⟨#[]⟩], #[.int .u8 lc.kind, .int .i64 lc.n, .string lc.s], #[.int .u8 mc.kind, .int .i64 mc.n, .string mc.s]] w (wr.setCell ⟨w.heap.size + 1, 3, none⟩ (.bool true)) := M1.out.set 1 3 (.bool true) rfl (by simp)
          have hst_1 : Mem w.heap.size [#[.int .i64 0, .int .i64 0, .bool false, .bool false, .int .u8 0, .int .i64 0, .string ⟨#[]⟩, .int .u8 0, .int .i64 0, .string ⟨#[]⟩], #[.int .i64 (k : Int), .int .i64 (nl : Int), .bool true, .bool true, .int .u8 lc.kind, .int .i64 0, .string ⟨#[]⟩, .int .u8 0, .int .i64 0, .string ⟨#[]⟩], #[.int .u8 lc.kind, .int .i64 lc.n, .string lc.s], #[.int .u8 mc.kind, .int .i64 mc.n, .string mc.s]] w ((wr.setCell ⟨w.heap.size + 1, 3, none⟩ (.bool true)).setCell ⟨w.heap.size + 1, 4, none⟩ (.int .u8 lc.kind)) := hst_0.set 1 4 (.int .u8 lc.kind) rfl (by simp)
          have hst_2 : Mem w.heap.size [#[.int .i64 0, .int .i64 0, .bool false, .bool false, .int .u8 0, .int .i64 0, .string ⟨#[]⟩, .int .u8 0, .int .i64 0, .string ⟨#[]⟩], #[.int .i64 (k : Int), .int .i64 (nl : Int), .bool true, .bool true, .int .u8 lc.kind, .int .i64 lc.n, .string ⟨#[]⟩, .int .u8 0, .int .i64 0, .string ⟨#[]⟩], #[.int .u8 lc.kind, .int .i64 lc.n, .string lc.s], #[.int .u8 mc.kind, .int .i64 mc.n, .string mc.s]] w (((wr.setCell ⟨w.heap.size + 1, 3, none⟩ (.bool true)).setCell ⟨w.heap.size + 1, 4, none⟩ (.int .u8 lc.kind)).setCell ⟨w.heap.size + 1, 5, none⟩ (.int .i64 lc.n)) := hst_1.set 1 5 (.int .i64 lc.n) rfl (by simp)
          have hst_3 : Mem w.heap.size [#[.int .i64 0, .int .i64 0, .bool false, .bool false, .int .u8 0, .int .i64 0, .string ⟨#[]⟩, .int .u8 0, .int .i64 0, .string ⟨#[]⟩], #[.int .i64 (k : Int), .int .i64 (nl : Int), .bool true, .bool true, .int .u8 lc.kind, .int .i64 lc.n, .string lc.s, .int .u8 0, .int .i64 0, .string ⟨#[]⟩], #[.int .u8 lc.kind, .int .i64 lc.n, .string lc.s], #[.int .u8 mc.kind, .int .i64 mc.n, .string mc.s]] w ((((wr.setCell ⟨w.heap.size + 1, 3, none⟩ (.bool true)).setCell ⟨w.heap.size + 1, 4, none⟩ (.int .u8 lc.kind)).setCell ⟨w.heap.size + 1, 5, none⟩ (.int .i64 lc.n)).setCell ⟨w.heap.size + 1, 6, none⟩ (.string lc.s)) := hst_2.set 1 6 (.string lc.s) rfl (by simp)
          have hst_4 : Mem w.heap.size [#[.int .i64 0, .int .i64 0, .bool false, .bool false, .int .u8 0, .int .i64 0, .string ⟨#[]⟩, .int .u8 0, .int .i64 0, .string ⟨#[]⟩], #[.int .i64 (k : Int), .int .i64 (nl : Int), .bool true, .bool true, .int .u8 lc.kind, .int .i64 lc.n, .string lc.s, .int .u8 mc.kind, .int .i64 0, .string ⟨#[]⟩], #[.int .u8 lc.kind, .int .i64 lc.n, .string lc.s], #[.int .u8 mc.kind, .int .i64 mc.n, .string mc.s]] w (((((wr.setCell ⟨w.heap.size + 1, 3, none⟩ (.bool true)).setCell ⟨w.heap.size + 1, 4, none⟩ (.int .u8 lc.kind)).setCell ⟨w.heap.size + 1, 5, none⟩ (.int .i64 lc.n)).setCell ⟨w.heap.size + 1, 6, none⟩ (.string lc.s)).setCell ⟨w.heap.size + 1, 7, none⟩ (.int .u8 mc.kind)) := hst_3.set 1 7 (.int .u8 mc.kind) rfl (by simp)
          have hst_5 : Mem w.heap.size [#[.int .i64 0, .int .i64 0, .bool false, .bool false, .int .u8 0, .int .i64 0, .string ⟨#[]⟩, .int .u8 0, .int .i64 0, .string ⟨#[]⟩], #[.int .i64 (k : Int), .int .i64 (nl : Int), .bool true, .bool true, .int .u8 lc.kind, .int .i64 lc.n, .string lc.s, .int .u8 mc.kind, .int .i64 mc.n, .string ⟨#[]⟩], #[.int .u8 lc.kind, .int .i64 lc.n, .string lc.s], #[.int .u8 mc.kind, .int .i64 mc.n, .string mc.s]] w ((((((wr.setCell ⟨w.heap.size + 1, 3, none⟩ (.bool true)).setCell ⟨w.heap.size + 1, 4, none⟩ (.int .u8 lc.kind)).setCell ⟨w.heap.size + 1, 5, none⟩ (.int .i64 lc.n)).setCell ⟨w.heap.size + 1, 6, none⟩ (.string lc.s)).setCell ⟨w.heap.size + 1, 7, none⟩ (.int .u8 mc.kind)).setCell ⟨w.heap.size + 1, 8, none⟩ (.int .i64 mc.n)) := hst_4.set 1 8 (.int .i64 mc.n) rfl (by simp)
          have hst_6 : Mem w.heap.size [#[.int .i64 0, .int .i64 0, .bool false, .bool false, .int .u8 0, .int .i64 0, .string ⟨#[]⟩, .int .u8 0, .int .i64 0, .string ⟨#[]⟩], #[.int .i64 (k : Int), .int .i64 (nl : Int), .bool true, .bool true, .int .u8 lc.kind, .int .i64 lc.n, .string lc.s, .int .u8 mc.kind, .int .i64 mc.n, .string mc.s], #[.int .u8 lc.kind, .int .i64 lc.n, .string lc.s], #[.int .u8 mc.kind, .int .i64 mc.n, .string mc.s]] w (((((((wr.setCell ⟨w.heap.size + 1, 3, none⟩ (.bool true)).setCell ⟨w.heap.size + 1, 4, none⟩ (.int .u8 lc.kind)).setCell ⟨w.heap.size + 1, 5, none⟩ (.int .i64 lc.n)).setCell ⟨w.heap.size + 1, 6, none⟩ (.string lc.s)).setCell ⟨w.heap.size + 1, 7, none⟩ (.int .u8 mc.kind)).setCell ⟨w.heap.size + 1, 8, none⟩ (.int .i64 mc.n)).setCell ⟨w.heap.size + 1, 9, none⟩ (.string mc.s)) := hst_5.set 1 9 (.string mc.s) rfl (by simp)
          have hm := hst_6
          obtain ⟨wz, hWW⟩ : ∃ W : World, W = (((((((wr.setCell ⟨w.heap.size + 1, 3, none⟩ (.bool true)).setCell ⟨w.heap.size + 1, 4, none⟩ (.int .u8 lc.kind)).setCell ⟨w.heap.size + 1, 5, none⟩ (.int .i64 lc.n)).setCell ⟨w.heap.size + 1, 6, none⟩ (.string lc.s)).setCell ⟨w.heap.size + 1, 7, none⟩ (.int .u8 mc.kind)).setCell ⟨w.heap.size + 1, 8, none⟩ (.int .i64 mc.n)).setCell ⟨w.heap.size + 1, 9, none⟩ (.string mc.s)) := ⟨_, rfl⟩
          rw [← hWW] at hm ⊢
          clear hWW hst_0 hst_1 hst_2 hst_3 hst_4 hst_5 hst_6
          clear q0_0 q0_1 q0_2 q0_3 q0_4 q0_5 q0_6 q0_7 q0_8 q0_9 q1_0 q1_1 q1_2 q1_3 q1_4 q1_5 q1_6 q1_7 q1_8 q1_9 q2_0 q2_1 q2_2 q3_0 q3_1 q3_2 g0 g1 g2 g3 z0 z1 z2 z3
          have Mwz := Lib.hid hm
          clear hm
          have q0_0 : wz.cell? ⟨w.heap.size, 0, none⟩ = some (.int .i64 0) := Mwz.out.cell 0 0 rfl rfl
          have q0_1 : wz.cell? ⟨w.heap.size, 1, none⟩ = some (.int .i64 0) := Mwz.out.cell 0 1 rfl rfl
          have q0_2 : wz.cell? ⟨w.heap.size, 2, none⟩ = some (.bool false) := Mwz.out.cell 0 2 rfl rfl
          have q0_3 : wz.cell? ⟨w.heap.size, 3, none⟩ = some (.bool false) := Mwz.out.cell 0 3 rfl rfl
          have q0_4 : wz.cell? ⟨w.heap.size, 4, none⟩ = some (.int .u8 0) := Mwz.out.cell 0 4 rfl rfl
          have q0_5 : wz.cell? ⟨w.heap.size, 5, none⟩ = some (.int .i64 0) := Mwz.out.cell 0 5 rfl rfl
          have q0_6 : wz.cell? ⟨w.heap.size, 6, none⟩ = some (.string ⟨#[]⟩) := Mwz.out.cell 0 6 rfl rfl
          have q0_7 : wz.cell? ⟨w.heap.size, 7, none⟩ = some (.int .u8 0) := Mwz.out.cell 0 7 rfl rfl
          have q0_8 : wz.cell? ⟨w.heap.size, 8, none⟩ = some (.int .i64 0) := Mwz.out.cell 0 8 rfl rfl
          have q0_9 : wz.cell? ⟨w.heap.size, 9, none⟩ = some (.string ⟨#[]⟩) := Mwz.out.cell 0 9 rfl rfl
          have q1_0 : wz.cell? ⟨w.heap.size + 1, 0, none⟩ = some (.int .i64 (k : Int)) := Mwz.out.cell 1 0 rfl rfl
          have q1_1 : wz.cell? ⟨w.heap.size + 1, 1, none⟩ = some (.int .i64 (nl : Int)) := Mwz.out.cell 1 1 rfl rfl
          have q1_2 : wz.cell? ⟨w.heap.size + 1, 2, none⟩ = some (.bool true) := Mwz.out.cell 1 2 rfl rfl
          have q1_3 : wz.cell? ⟨w.heap.size + 1, 3, none⟩ = some (.bool true) := Mwz.out.cell 1 3 rfl rfl
          have q1_4 : wz.cell? ⟨w.heap.size + 1, 4, none⟩ = some (.int .u8 lc.kind) := Mwz.out.cell 1 4 rfl rfl
          have q1_5 : wz.cell? ⟨w.heap.size + 1, 5, none⟩ = some (.int .i64 lc.n) := Mwz.out.cell 1 5 rfl rfl
          have q1_6 : wz.cell? ⟨w.heap.size + 1, 6, none⟩ = some (.string lc.s) := Mwz.out.cell 1 6 rfl rfl
          have q1_7 : wz.cell? ⟨w.heap.size + 1, 7, none⟩ = some (.int .u8 mc.kind) := Mwz.out.cell 1 7 rfl rfl
          have q1_8 : wz.cell? ⟨w.heap.size + 1, 8, none⟩ = some (.int .i64 mc.n) := Mwz.out.cell 1 8 rfl rfl
          have q1_9 : wz.cell? ⟨w.heap.size + 1, 9, none⟩ = some (.string mc.s) := Mwz.out.cell 1 9 rfl rfl
          have g0 : ∀ j, wz.frozen? ⟨w.heap.size, j, none⟩ = false := Mwz.out.frozen 0 rfl
          have g1 : ∀ j, wz.frozen? ⟨w.heap.size + 1, j, none⟩ = false := Mwz.out.frozen 1 rfl
          have g2 : ∀ j, wz.frozen? ⟨w.heap.size + 1 + 1, j, none⟩ = false := Mwz.out.frozen 2 rfl
          have g3 : ∀ j, wz.frozen? ⟨w.heap.size + 1 + 1 + 1, j, none⟩ = false := Mwz.out.frozen 3 rfl
          have z0 : w.heap.size < wz.heap.size := Mwz.out.lt 0 (by simp)
          have z1 : w.heap.size + 1 < wz.heap.size := Mwz.out.lt 1 (by simp)
          have z2 : w.heap.size + 1 + 1 < wz.heap.size := Mwz.out.lt 2 (by simp)
          have z3 : w.heap.size + 1 + 1 + 1 < wz.heap.size := Mwz.out.lt 3 (by simp)
          go_wp2
          refine bodyPost_ret (v := .agg #[.int .i64 (k : Int), .int .i64 (nl : Int), .bool true, .bool true, .int .u8 lc.kind, .int .i64 lc.n, .string lc.s, .int .u8 mc.kind, .int .i64 mc.n, .string mc.s]) (by simp [results, Try.results10, go_sem, q0_0, q0_1, q0_2, q0_3, q0_4, q0_5, q0_6, q0_7, q0_8, q0_9]) rfl ⟨by rw [HRES.out]; rfl, ?_⟩
          repeat (with_reducible refine Below.setCell ?_ (by first | exact Nat.le_refl _ | (simp; done) | omega | (simp; omega)) _)
          exact Mwz.out.below
end Go.Proofs.Ytkofaoaglnjkgaa
