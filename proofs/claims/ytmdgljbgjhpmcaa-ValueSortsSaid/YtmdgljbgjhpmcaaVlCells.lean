/- value: ValueCells. -/
import Derived.Test.YtmdgljbgjhpmcaaVlFix
import Derived.BigRegion
import Derived.BigQuiet
import Derived.Deep.QuietTactic
import Derived.Deep.RegionHeld3
namespace Go.Proofs.Ytmdgljbgjhpmcaa
open Go.RowKit Go.Deep
set_option linter.unusedVariables false

theorem good_cell (c : CellD) (h0 : 0 ≤ c.kind) : (goodVal c).cell = fix c := by
  obtain ⟨k, n, s⟩ := c
  have h0 : 0 ≤ k := h0
  unfold goodVal fix
  by_cases hc : chk ⟨k, n, s⟩ = 0
  · rw [if_pos hc, if_pos hc]
    have hk : ¬ 3 < k := by intro h; simp [chk, h] at hc
    have hk4 : k = 0 ∨ k = 1 ∨ k = 2 ∨ k = 3 := by omega
    simp only [chk, if_neg hk] at hc
    by_cases hb : (k ≠ 3 ∧ s.size ≠ 0) ∨ (k ≠ 1 ∧ k ≠ 2 ∧ n ≠ 0) ∨ (k = 2 ∧ n ≠ 0 ∧ n ≠ 1)
    · rw [if_pos hb] at hc; omega
    · rcases hk4 with rfl | rfl | rfl | rfl
      · have hs : s = ByteArray.empty := empty_of (by omega)
        have hn : n = 0 := by omega
        subst hs hn
        rfl
      · have hs : s = ByteArray.empty := empty_of (by omega)
        subst hs
        rfl
      · have hs : s = ByteArray.empty := empty_of (by omega)
        have hn : n = 0 ∨ n = 1 := by omega
        subst hs
        rcases hn with rfl | rfl <;> rfl
      · have hn : n = 0 := by omega
        subst hn
        rfl
  · rw [if_neg hc, if_neg hc]
    rfl
theorem kindOf_same (v : ValD) (w : World) : Calls Try.prog 15 #[v.val] w (fun e w' => e = .returned (.int .u8 v.cell.kind) ∧ w' = w) := by
  obtain ⟨i1, i2, i3, i4⟩ := assertsI64
  obtain ⟨b1, b2, b3, b4⟩ := assertsBool
  obtain ⟨s1, s2, s3, s4⟩ := assertsStr
  cases v
  all_goals
    simp only [ValD.val, ValD.cell]
    go_enter Try.func15, Try.ntmps15
    go_wp2
    go_ret
    exact ⟨rfl, rfl⟩
set_option maxRecDepth 100000 in
set_option maxHeartbeats 4000000 in
theorem valueCells (cs : List Value) (c : CellD) (w : World) (h : CellR w cs c) : Calls Try.prog 3 #[.agg cs.toArray] w (TruthPost w) := by
  obtain ⟨rfl, hsz, ⟨h0, _⟩, _⟩ := h
  have HO := Lib.hid (fun w => (both c h0 w).2)
  have HC := Lib.hid (fun w => (both c h0 w).1)
  have HF := Lib.hid (fun w => fix_calls c h0 w)
  have hg := good_cell c h0
  have hlc : ∀ w, Calls Try.prog 12 #[(goodVal c).val] w (ValIs (.agg (fix c).cells) w) := fun w => by have := lawCell (goodVal c) w; rwa [hg] at this
  have hvc : ∀ w, Calls Try.prog 14 #[(goodVal c).val] w (ValIs (.tuple #[.agg (fix c).cells, .bool true]) w) := fun w => by have := valueCell (goodVal c) w; rwa [hg] at this
  have hko : ∀ w, Calls Try.prog 15 #[(goodVal c).val] w (fun e w' => e = .returned (.int .u8 (fix c).kind) ∧ w' = w) := fun w => by have := kindOf_same (goodVal c) w; rwa [hg] at this
  have hfx := HF.out
  have hfix : chk c = 0 ∧ fix c = c ∨ chk c ≠ 0 ∧ fix c = zeroCell := by
    unfold fix
    by_cases hc : chk c = 0
    · exact .inl ⟨hc, by rw [if_pos hc]⟩
    · exact .inr ⟨hc, by rw [if_neg hc]⟩
  obtain ⟨fk, fn, fs, hff⟩ : ∃ fk fn fs, fix c = ⟨fk, fn, fs⟩ := ⟨_, _, _, rfl⟩
  rw [hff] at hfix
  simp only [hff, CellD.cells] at hlc hvc hko hfx
  have HLC := Lib.hid hlc
  have HVC := Lib.hid hvc
  have HKO := Lib.hid hko
  have HFX := Lib.hid hfx
  have HFIX := Lib.hid hfix
  have hcc : (chk c != chk c) = false := by simp
  have hcc2 : (chk c == chk c) = true := by simp
  have hkk : (fk == fk) = true := by simp
  have hnn : (fn == fn) = true := by simp
  have hss : (fs.toList == fs.toList) = true := by simp
  clear hlc hvc hko hfx hff hfix
  go_enter Try.func3, Try.ntmps3
  go_wp2_with fail
  refine (alive_calls _).mono ?_
  rintro e w1 ⟨rfl, hb1⟩
  have c0 := (hb1.cell (p := ⟨w.heap.size, 0, none⟩) (by simp)).trans (by rw [World.cell?_alloc_new])
  have c1 := (hb1.cell (p := ⟨w.heap.size, 1, none⟩) (by simp)).trans (by rw [World.cell?_alloc_new])
  have c2 := (hb1.cell (p := ⟨w.heap.size, 2, none⟩) (by simp)).trans (by rw [World.cell?_alloc_new])
  have hz1 : w.heap.size < w1.heap.size := by have := hb1.size; simp at this; omega
  have B1 := Lib.hid (((Below.refl w.heap.size w).alloc (Nat.le_refl _) _).trans (hb1.mono (by simp)))
  clear hb1 hg
  go_wp2_with fail
  refine (HO.out _).mono ?_
  rintro e w2 ⟨rfl, hb2⟩
  have d0 := (hb2.cell (p := ⟨w.heap.size, 0, none⟩) hz1).trans c0
  have d1 := (hb2.cell (p := ⟨w.heap.size, 1, none⟩) hz1).trans c1
  have d2 := (hb2.cell (p := ⟨w.heap.size, 2, none⟩) hz1).trans c2
  have hz2 : w.heap.size < w2.heap.size := by have := hb2.size; omega
  have B2 := Lib.hid (B1.out.trans (hb2.mono (by omega)))
  clear hb2 c0 c1 c2
  go_wp2_with fail
  refine (HC.out _).mono ?_
  rintro e w3 ⟨rfl, hb3⟩
  have e0 := (hb3.cell (p := ⟨w.heap.size, 0, none⟩) hz2).trans d0
  have e1 := (hb3.cell (p := ⟨w.heap.size, 1, none⟩) hz2).trans d1
  have e2 := (hb3.cell (p := ⟨w.heap.size, 2, none⟩) hz2).trans d2
  have hz3 : w.heap.size < w3.heap.size := by have := hb3.size; omega
  have B3 := Lib.hid (B2.out.trans (hb3.mono (by omega)))
  clear hb3 d0 d1 d2
  go_wp2_with fail
  have hS : ∀ W, Below w3.heap.size w3 W → W.cell? ⟨w.heap.size, 0, none⟩ = some (.int .u8 c.kind) ∧ W.cell? ⟨w.heap.size, 1, none⟩ = some (.int .i64 c.n) ∧ W.cell? ⟨w.heap.size, 2, none⟩ = some (.string c.s) := fun W hb => ⟨(hb.cell (p := ⟨w.heap.size, 0, none⟩) hz3).trans e0, (hb.cell (p := ⟨w.heap.size, 1, none⟩) hz3).trans e1, (hb.cell (p := ⟨w.heap.size, 2, none⟩) hz3).trans e2⟩
  have HSS := Lib.hid hS
  clear hS
  first
    | go_region_held3 (fun W => W.cell? ⟨w.heap.size, 0, none⟩ = some (.int .u8 c.kind) ∧ W.cell? ⟨w.heap.size, 1, none⟩ = some (.int .i64 c.n) ∧ W.cell? ⟨w.heap.size, 2, none⟩ = some (.string c.s))
        (first | exact HSS.out _ k5 | exact HSS.out _ k4 | exact HSS.out _ (Below.refl _ _).drew)
        (first
          | (go_at_call 12; refine (HLC.out _).mono ?_; rintro e w4 ⟨rfl, hb4⟩; have k4 : Below w3.heap.size w3 w4 := (by first | exact (Below.refl _ _).drew.trans hb4 | exact k5.trans (hb4.mono k5.size)))
          | (go_at_call 13; refine (HFX.out _).mono ?_; rintro e w5 ⟨rfl, hb5⟩; have k5 : Below w3.heap.size w3 w5 := (by first | exact (Below.refl _ _).drew.trans hb5 | exact k4.trans (hb5.mono k4.size))))
    | fail
  go_wp2_with fail
  refine (HVC.out _).mono ?_
  rintro e w6 ⟨rfl, hb6⟩
  have k6 : Below w3.heap.size w3 w6 := k5.trans (hb6.mono k5.size)
  have f0 := (k6.cell (p := ⟨w.heap.size, 0, none⟩) hz3).trans e0
  have f1 := (k6.cell (p := ⟨w.heap.size, 1, none⟩) hz3).trans e1
  have f2 := (k6.cell (p := ⟨w.heap.size, 2, none⟩) hz3).trans e2
  have hz6 : w.heap.size < w6.heap.size := by have := k6.size; omega
  have B6 := Lib.hid (B3.out.trans (k6.mono (Nat.le_of_lt hz3)))
  clear e0 e1 e2 hb6 k6 k5 hb5
  try clear k4 hb4
  go_wp2_with fail
  have hb7 : Below w6.heap.size w6 (w6.alloc (.cells #[.int .u8 fk, .int .i64 fn, .string fs] 24)) := (Below.refl _ _).alloc (Nat.le_refl _) _
  have hc7 : ∀ (i : Nat) (v : Value), (#[.int .u8 fk, .int .i64 fn, .string fs] : Array Value)[i]? = some v → (w6.alloc (.cells #[.int .u8 fk, .int .i64 fn, .string fs] 24)).cell? ⟨w6.heap.size, i, none⟩ = some v := fun i v h => by rw [World.cell?_alloc_new]; exact h
  generalize w6.alloc (.cells #[.int .u8 fk, .int .i64 fn, .string fs] 24) = W7 at *
  have g0 := (hb7.cell (p := ⟨w.heap.size, 0, none⟩) hz6).trans f0
  have g1 := (hb7.cell (p := ⟨w.heap.size, 1, none⟩) hz6).trans f1
  have g2 := (hb7.cell (p := ⟨w.heap.size, 2, none⟩) hz6).trans f2
  have z0 := hc7 0 _ rfl
  have z1 := hc7 1 _ rfl
  have z2 := hc7 2 _ rfl
  have B7 := Lib.hid (B6.out.trans (hb7.mono (Nat.le_of_lt hz6)))
  clear hb7 hc7 f0 f1 f2
  rcases HFIX.out with ⟨hc0, hcf⟩ | ⟨hc0, hcf⟩
  · have hq0 : (chk c == 0) = true := by rw [hc0]; rfl
    have hq1 : (chk c != 0) = false := by rw [hc0]; rfl
    have hk1 : fk = c.kind := by rw [← hcf]
    have hk2 : fn = c.n := by rw [← hcf]
    have hk3 : fs = c.s := by rw [← hcf]
    subst hk1 hk2 hk3
    clear hc0 hcf
    go_quiet (first | (go_at_call 15; exact Calls.quiet_of_same (HKO.out _)))
    go_wp2
    go_ret
    exact ⟨rfl, below_drewN B7.out _⟩
  · have hq0 : (chk c == 0) = false := by rw [beq_eq_false_iff_ne]; exact hc0
    have hq1 : (chk c != 0) = true := by rw [bne, hq0]; rfl
    have hk1 : fk = 0 := congrArg CellD.kind hcf
    have hk2 : fn = 0 := congrArg CellD.n hcf
    have hk3 : fs = ByteArray.empty := congrArg CellD.s hcf
    subst hk1 hk2 hk3
    clear hc0 hcf
    go_quiet (first | (go_at_call 15; exact Calls.quiet_of_same (HKO.out _)))
    go_wp2
    go_ret
    exact ⟨rfl, below_drewN B7.out _⟩
end Go.Proofs.Ytmdgljbgjhpmcaa
