/- The closed probe of chapter 9 says true. -/
import Derived.Test.YtkildbpfondgcaaPrEx
import Derived.Test.YtkildbpfondgcaaPrEval
import Derived.Test.YtkildbpfondgcaaPrMayN3
import Derived.Test.YtkildbpfondgcaaPrStats
import Derived.Test.YtkildbpfondgcaaBase
import Derived.Deep.RegionHeld3
import Derived.Deep.DeepCutAuto
namespace Go.Proofs.Ytkildbpfondgcaa
open Go.RowKit Go.Deep
set_option linter.unusedVariables false
set_option linter.unusedSimpArgs false

theorem sl_one {α : Type} {size : Nat} {R : Rd α} {w : World} {b : Nat} {cs : List Value} {x : α} (hl : cs.length = size) (hr : R w cs x) (h : Box w b cs.toArray) : Sl size R w (some ⟨b, 0, none⟩) 1 [x] := by
  refine ⟨rfl, fun _ => ⟨b, 0, rfl, h.lt, fun i y hi => ?_⟩⟩
  have : i = 0 := by have := (List.getElem?_eq_some_iff.1 hi).1; simp at this; omega
  subst this
  cases hi
  refine ⟨cs, hl, hr, fun j v hj => ?_⟩
  simpa using h.cells j v (by simpa using hj)
theorem sl_vals {w : World} {b : Nat} {vs : List ValD} (h : Box w b (vs.map ValD.val).toArray) : Sl 1 ValR w (some ⟨b, 0, none⟩) vs.length vs := by
  refine ⟨rfl, fun _ => ⟨b, 0, rfl, h.lt, fun i y hi => ⟨[y.val], rfl, rfl, fun j v hj => ?_⟩⟩⟩
  have : j = 0 := by have := (List.getElem?_eq_some_iff.1 hj).1; simp at this; omega
  subst this
  cases hj
  simpa using h.cells i y.val (by simp [hi])
def exVals : List ValD := [.whole 3, .whole 5, .nil]
def exTexts : List ValD := [.text tA, .text tB]
theorem cellOK_w (n : Int) (h : -9223372036854775808 ≤ n ∧ n ≤ 9223372036854775807) : CellOK (cw n) := ⟨by show ByteArray.empty.size ≤ maxLen; decide, by show (0 : Int) ≤ 1 ∧ (1 : Int) ≤ 255; omega, h⟩
theorem exS_ok : StatOK exS := ⟨by show (-9223372036854775808 : Int) ≤ 3 ∧ (3 : Int) ≤ 9223372036854775807; omega, by show (-9223372036854775808 : Int) ≤ 1 ∧ (1 : Int) ≤ 9223372036854775807; omega, cellOK_w 3 (by decide), cellOK_w 5 (by decide)⟩
theorem exPred (w : World) (op n : Nat) (h : op < 256) (hn : n ≤ 100) : PredR 1 w [.int .u8 (op : Int), .int .u32 1, .int .u8 1, .int .i64 (n : Int), .string ByteArray.empty, .slice none 0 0] (.mk op 1 (cw n) []) :=
  ⟨none, 0, 0, rfl, Nat.le_refl _, Nat.zero_le _, fun _ => rfl, Sl.nil_ _ _ _, h, by show 1 < 2 ^ 32; decide, cellOK_w n (by omega)⟩
theorem exNot (w : World) (b : Nat) (h : Box w b #[.int .u8 1, .int .u32 1, .int .u8 1, .int .i64 7, .string ByteArray.empty, .slice none 0 0]) : PredR 2 w [.int .u8 8, .int .u32 0, .int .u8 0, .int .i64 0, .string ByteArray.empty, .slice (some ⟨b, 0, none⟩) 1 1] notP :=
  ⟨some ⟨b, 0, none⟩, 1, 1, rfl, Nat.le_refl _, by decide, (fun h => by cases h), sl_one (cs := [.int .u8 1, .int .u32 1, .int .u8 1, .int .i64 7, .string ByteArray.empty, .slice none 0 0]) rfl (exPred w 1 7 (by decide) (by decide)) h, by show 8 < 256; decide, by show 0 < 2 ^ 32; decide, ⟨by decide, by decide, by decide⟩⟩
set_option maxRecDepth 100000 in
set_option maxHeartbeats 16000000 in
theorem alive_calls (w : World) : Calls Try.prog 6 #[] w (fun e w' => e = .returned (.bool true) ∧ Below w.heap.size w w') := by
  go_enter Try.func6, Try.ntmps6
  go_wp2_with fail
  refine (two_calls _).mono ?_
  rintro e w1 ⟨sa, rfl, hs, hb⟩
  have HS_w1 := Lib.hid hs
  clear hs
  have HB_w1 := Lib.hid hb
  clear hb
  go_wp2_with fail
  obtain ⟨W1, hWW⟩ : ∃ W : World, W = ((w1.alloc (.cells #[.int .u32 1, .slice sa 2 2] 42)).alloc (.cells #[.iface 2 (.int .i64 3), .iface 2 (.int .i64 5), .nilIface] 60)) := ⟨_, rfl⟩
  have hb : Below w1.heap.size w1 W1 := by rw [hWW]; exact (((Below.refl _ _).alloc (by first | exact Nat.le_refl _ | (simp; done) | (simp; omega)) _).alloc (by first | exact Nat.le_refl _ | (simp; done) | (simp; omega)) _)
  have hx0 : Box W1 (w1.heap.size) #[.int .u32 1, .slice sa 2 2] := by rw [hWW]; exact (Box.at_ _ _ _ _ (by simp)).alloc _
  have hx1 : Box W1 (w1.heap.size + 1) #[.iface 2 (.int .i64 3), .iface 2 (.int .i64 5), .nilIface] := by rw [hWW]; exact (Box.at_ _ _ _ _ (by simp))
  rw [← hWW]
  clear hWW
  have HS_W1 := Lib.hid (SchemaR.stable _ _ _ _ hb HS_w1.out)
  have HB_W1 := Lib.hid (HB_w1.out.trans (hb.mono HB_w1.out.size))
  clear hb
  have XS_W1 := Lib.hid hx0
  clear hx0
  have XV_W1 := Lib.hid hx1
  clear hx1
  have hst := stats_calls (some ⟨w1.heap.size + 1, 0, none⟩) 3 3 exVals W1 (sl_vals (vs := exVals) XV_W1.out) (by decide) (by intro v hv; simp [exVals] at hv; rcases hv with rfl | rfl | rfl <;> decide)
  rw [show statsF (exVals.map ValD.cell) = exS from stats1] at hst
  simp only [exS, StatD.cells, cw] at hst
  refine hst.mono ?_
  rintro e w2 ⟨rfl, hb⟩
  clear hst
  have XS_w2 := Lib.hid (XS_W1.out.call hb)
  have HS_w2 := Lib.hid (SchemaR.stable _ _ _ _ hb HS_W1.out)
  have HB_w2 := Lib.hid (HB_W1.out.trans (hb.mono HB_W1.out.size))
  clear hb
  go_wp2_with fail
  obtain ⟨W2, hWW⟩ : ∃ W : World, W = (w2.alloc (.cells #[.int .i64 3, .int .i64 1, .bool true, .bool true, .int .u8 1, .int .i64 3, .string ByteArray.empty, .int .u8 1, .int .i64 5, .string ByteArray.empty] 29)) := ⟨_, rfl⟩
  have hb : Below w2.heap.size w2 W2 := by rw [hWW]; exact ((Below.refl _ _).alloc (by first | exact Nat.le_refl _ | (simp; done) | (simp; omega)) _)
  have hx0 : Box W2 (w2.heap.size) #[.int .i64 3, .int .i64 1, .bool true, .bool true, .int .u8 1, .int .i64 3, .string ByteArray.empty, .int .u8 1, .int .i64 5, .string ByteArray.empty] := by rw [hWW]; exact (Box.at_ _ _ _ _ (by simp))
  rw [← hWW]
  clear hWW
  have XS_W2 := Lib.hid (XS_w2.out.call hb)
  have HS_W2 := Lib.hid (SchemaR.stable _ _ _ _ hb HS_w2.out)
  have HB_W2 := Lib.hid (HB_w2.out.trans (hb.mono HB_w2.out.size))
  clear hb
  have XT_W2 := Lib.hid hx0
  clear hx0
  refine (whole_calls 7 _).mono ?_
  rintro e w3 ⟨rfl, hb⟩
  have XS_w3 := Lib.hid (XS_W2.out.call hb)
  have XT_w3 := Lib.hid (XT_W2.out.call hb)
  have HS_w3 := Lib.hid (SchemaR.stable _ _ _ _ hb HS_W2.out)
  have HB_w3 := Lib.hid (HB_W2.out.trans (hb.mono HB_W2.out.size))
  clear hb
  have qS0 : w3.cell? ⟨w1.heap.size, 0, none⟩ = some (.int .u32 1) := XS_w3.out.cell 0 rfl
  have qS1 : w3.cell? ⟨w1.heap.size, 1, none⟩ = some (.slice sa 2 2) := XS_w3.out.cell 1 rfl
  have zS : w1.heap.size < w3.heap.size := XS_w3.out.lt
  have qT0 : w3.cell? ⟨w2.heap.size, 0, none⟩ = some (.int .i64 3) := XT_w3.out.cell 0 rfl
  have qT1 : w3.cell? ⟨w2.heap.size, 1, none⟩ = some (.int .i64 1) := XT_w3.out.cell 1 rfl
  have qT2 : w3.cell? ⟨w2.heap.size, 2, none⟩ = some (.bool true) := XT_w3.out.cell 2 rfl
  have qT3 : w3.cell? ⟨w2.heap.size, 3, none⟩ = some (.bool true) := XT_w3.out.cell 3 rfl
  have qT4 : w3.cell? ⟨w2.heap.size, 4, none⟩ = some (.int .u8 1) := XT_w3.out.cell 4 rfl
  have qT5 : w3.cell? ⟨w2.heap.size, 5, none⟩ = some (.int .i64 3) := XT_w3.out.cell 5 rfl
  have qT6 : w3.cell? ⟨w2.heap.size, 6, none⟩ = some (.string ByteArray.empty) := XT_w3.out.cell 6 rfl
  have qT7 : w3.cell? ⟨w2.heap.size, 7, none⟩ = some (.int .u8 1) := XT_w3.out.cell 7 rfl
  have qT8 : w3.cell? ⟨w2.heap.size, 8, none⟩ = some (.int .i64 5) := XT_w3.out.cell 8 rfl
  have qT9 : w3.cell? ⟨w2.heap.size, 9, none⟩ = some (.string ByteArray.empty) := XT_w3.out.cell 9 rfl
  have zT : w2.heap.size < w3.heap.size := XT_w3.out.lt
  go_wp2_with fail
  obtain ⟨W3, hWW⟩ : ∃ W : World, W = ((w3.alloc (.cells #[.int .u8 1, .int .u32 1, .int .u8 1, .int .i64 7, .string ByteArray.empty, .slice none 0 0] 39)).alloc (.cells #[.int .i64 3, .int .i64 1, .bool true, .bool true, .int .u8 1, .int .i64 3, .string ByteArray.empty, .int .u8 1, .int .i64 5, .string ByteArray.empty] 29)) := ⟨_, rfl⟩
  have hb : Below w3.heap.size w3 W3 := by rw [hWW]; exact (((Below.refl _ _).alloc (by first | exact Nat.le_refl _ | (simp; done) | (simp; omega)) _).alloc (by first | exact Nat.le_refl _ | (simp; done) | (simp; omega)) _)
  have hx0 : Box W3 (w3.heap.size) #[.int .u8 1, .int .u32 1, .int .u8 1, .int .i64 7, .string ByteArray.empty, .slice none 0 0] := by rw [hWW]; exact (Box.at_ _ _ _ _ (by simp)).alloc _
  have hx1 : Box W3 (w3.heap.size + 1) #[.int .i64 3, .int .i64 1, .bool true, .bool true, .int .u8 1, .int .i64 3, .string ByteArray.empty, .int .u8 1, .int .i64 5, .string ByteArray.empty] := by rw [hWW]; exact (Box.at_ _ _ _ _ (by simp))
  rw [← hWW]
  clear hWW
  have XS_W3 := Lib.hid (XS_w3.out.call hb)
  have XT_W3 := Lib.hid (XT_w3.out.call hb)
  have HS_W3 := Lib.hid (SchemaR.stable _ _ _ _ hb HS_w3.out)
  have HB_W3 := Lib.hid (HB_w3.out.trans (hb.mono HB_w3.out.size))
  clear hb
  clear qS0 qS1 zS qT0 qT1 qT2 qT3 qT4 qT5 qT6 qT7 qT8 qT9 zT
  have XP_W3 := Lib.hid hx0
  clear hx0
  have XL_W3 := Lib.hid hx1
  clear hx1
  have hmy := may_all 1 eqP _ twoS _ (some ⟨w3.heap.size + 1, 0, none⟩) 1 1 [exS] W3 (exPred _ 1 7 (by decide) (by decide)) HS_W3.out (by decide) (sl_one (cs := exS.cells.toList) rfl ⟨rfl, exS_ok⟩ XL_W3.out) (by decide)
  rw [ev_may1] at hmy
  simp only [B3.cells] at hmy
  refine hmy.mono ?_
  rintro e w4 ⟨rfl, hb⟩
  clear hmy
  have XS_w4 := Lib.hid (XS_W3.out.call hb)
  have XT_w4 := Lib.hid (XT_W3.out.call hb)
  have XP_w4 := Lib.hid (XP_W3.out.call hb)
  have HS_w4 := Lib.hid (SchemaR.stable _ _ _ _ hb HS_W3.out)
  have HB_w4 := Lib.hid (HB_W3.out.trans (hb.mono HB_W3.out.size))
  clear hb
  have qS0 : w4.cell? ⟨w1.heap.size, 0, none⟩ = some (.int .u32 1) := XS_w4.out.cell 0 rfl
  have qS1 : w4.cell? ⟨w1.heap.size, 1, none⟩ = some (.slice sa 2 2) := XS_w4.out.cell 1 rfl
  have zS : w1.heap.size < w4.heap.size := XS_w4.out.lt
  have qT0 : w4.cell? ⟨w2.heap.size, 0, none⟩ = some (.int .i64 3) := XT_w4.out.cell 0 rfl
  have qT1 : w4.cell? ⟨w2.heap.size, 1, none⟩ = some (.int .i64 1) := XT_w4.out.cell 1 rfl
  have qT2 : w4.cell? ⟨w2.heap.size, 2, none⟩ = some (.bool true) := XT_w4.out.cell 2 rfl
  have qT3 : w4.cell? ⟨w2.heap.size, 3, none⟩ = some (.bool true) := XT_w4.out.cell 3 rfl
  have qT4 : w4.cell? ⟨w2.heap.size, 4, none⟩ = some (.int .u8 1) := XT_w4.out.cell 4 rfl
  have qT5 : w4.cell? ⟨w2.heap.size, 5, none⟩ = some (.int .i64 3) := XT_w4.out.cell 5 rfl
  have qT6 : w4.cell? ⟨w2.heap.size, 6, none⟩ = some (.string ByteArray.empty) := XT_w4.out.cell 6 rfl
  have qT7 : w4.cell? ⟨w2.heap.size, 7, none⟩ = some (.int .u8 1) := XT_w4.out.cell 7 rfl
  have qT8 : w4.cell? ⟨w2.heap.size, 8, none⟩ = some (.int .i64 5) := XT_w4.out.cell 8 rfl
  have qT9 : w4.cell? ⟨w2.heap.size, 9, none⟩ = some (.string ByteArray.empty) := XT_w4.out.cell 9 rfl
  have zT : w2.heap.size < w4.heap.size := XT_w4.out.lt
  have qP0 : w4.cell? ⟨w3.heap.size, 0, none⟩ = some (.int .u8 1) := XP_w4.out.cell 0 rfl
  have qP1 : w4.cell? ⟨w3.heap.size, 1, none⟩ = some (.int .u32 1) := XP_w4.out.cell 1 rfl
  have qP2 : w4.cell? ⟨w3.heap.size, 2, none⟩ = some (.int .u8 1) := XP_w4.out.cell 2 rfl
  have qP3 : w4.cell? ⟨w3.heap.size, 3, none⟩ = some (.int .i64 7) := XP_w4.out.cell 3 rfl
  have qP4 : w4.cell? ⟨w3.heap.size, 4, none⟩ = some (.string ByteArray.empty) := XP_w4.out.cell 4 rfl
  have qP5 : w4.cell? ⟨w3.heap.size, 5, none⟩ = some (.slice none 0 0) := XP_w4.out.cell 5 rfl
  have zP : w3.heap.size < w4.heap.size := XP_w4.out.lt
  go_wp2_with fail
  obtain ⟨W4, hWW⟩ : ∃ W : World, W = (w4.alloc (.cells #[.bool true, .bool true, .bool false] 51)) := ⟨_, rfl⟩
  have hb : Below w4.heap.size w4 W4 := by rw [hWW]; exact ((Below.refl _ _).alloc (by first | exact Nat.le_refl _ | (simp; done) | (simp; omega)) _)
  have hx0 : Box W4 (w4.heap.size) #[.bool true, .bool true, .bool false] := by rw [hWW]; exact (Box.at_ _ _ _ _ (by simp))
  rw [← hWW]
  clear hWW
  have XS_W4 := Lib.hid (XS_w4.out.call hb)
  have XT_W4 := Lib.hid (XT_w4.out.call hb)
  have XP_W4 := Lib.hid (XP_w4.out.call hb)
  have HS_W4 := Lib.hid (SchemaR.stable _ _ _ _ hb HS_w4.out)
  have HB_W4 := Lib.hid (HB_w4.out.trans (hb.mono HB_w4.out.size))
  clear hb
  clear qS0 qS1 zS qT0 qT1 qT2 qT3 qT4 qT5 qT6 qT7 qT8 qT9 zT qP0 qP1 qP2 qP3 qP4 qP5 zP
  have XA_W4 := Lib.hid hx0
  clear hx0
  have hS : ∀ W, Below W4.heap.size W4 W → W.cell? ⟨w1.heap.size, 0, none⟩ = some (.int .u32 1) ∧ W.cell? ⟨w1.heap.size, 1, none⟩ = some (.slice sa 2 2) ∧ W.cell? ⟨w2.heap.size, 0, none⟩ = some (.int .i64 3) ∧ W.cell? ⟨w2.heap.size, 1, none⟩ = some (.int .i64 1) ∧ W.cell? ⟨w2.heap.size, 2, none⟩ = some (.bool true) ∧ W.cell? ⟨w2.heap.size, 3, none⟩ = some (.bool true) ∧ W.cell? ⟨w2.heap.size, 4, none⟩ = some (.int .u8 1) ∧ W.cell? ⟨w2.heap.size, 5, none⟩ = some (.int .i64 3) ∧ W.cell? ⟨w2.heap.size, 6, none⟩ = some (.string ByteArray.empty) ∧ W.cell? ⟨w2.heap.size, 7, none⟩ = some (.int .u8 1) ∧ W.cell? ⟨w2.heap.size, 8, none⟩ = some (.int .i64 5) ∧ W.cell? ⟨w2.heap.size, 9, none⟩ = some (.string ByteArray.empty) := fun W hb => ⟨(XS_W4.out.call hb).cell 0 rfl, (XS_W4.out.call hb).cell 1 rfl, (XT_W4.out.call hb).cell 0 rfl, (XT_W4.out.call hb).cell 1 rfl, (XT_W4.out.call hb).cell 2 rfl, (XT_W4.out.call hb).cell 3 rfl, (XT_W4.out.call hb).cell 4 rfl, (XT_W4.out.call hb).cell 5 rfl, (XT_W4.out.call hb).cell 6 rfl, (XT_W4.out.call hb).cell 7 rfl, (XT_W4.out.call hb).cell 8 rfl, (XT_W4.out.call hb).cell 9 rfl⟩
  have HSS := Lib.hid hS
  clear hS
  have hm5 : ∀ (W : World) (b : Nat), Below W4.heap.size W4 W → Box W b #[.int .i64 3, .int .i64 1, .bool true, .bool true, .int .u8 1, .int .i64 3, .string ByteArray.empty, .int .u8 1, .int .i64 5, .string ByteArray.empty] → Calls Try.prog 17 #[.agg #[.int .u8 2, .int .u32 1, .int .u8 1, .int .i64 9, .string ByteArray.empty, .slice none 0 0], .agg #[.int .u32 1, .slice sa 2 2], .slice (some ⟨b, 0, none⟩) 1 1] W (ValIs (.agg #[.bool false, .bool true, .bool true]) W) := fun W b hb hx => by
    have hmy := may_all 1 ltP _ twoS _ (some ⟨b, 0, none⟩) 1 1 [exS] W (exPred _ 2 9 (by decide) (by decide)) (SchemaR.stable _ _ _ _ hb HS_W4.out) (by decide) (sl_one (cs := exS.cells.toList) rfl ⟨rfl, exS_ok⟩ hx) (by decide)
    rw [ev_may2] at hmy
    exact hmy
  have HM5 := Lib.hid hm5
  clear hm5
  go_cut [5] (fun v wx => ∃ b5 : Nat, v = .pointer (some ⟨b5, 0, none⟩) ∧ Below W4.heap.size W4 wx ∧ Box wx b5 #[.bool false, .bool true, .bool true])
  case first =>
    go_region_held3 (fun W => W.cell? ⟨w1.heap.size, 0, none⟩ = some (.int .u32 1) ∧ W.cell? ⟨w1.heap.size, 1, none⟩ = some (.slice sa 2 2) ∧ W.cell? ⟨w2.heap.size, 0, none⟩ = some (.int .i64 3) ∧ W.cell? ⟨w2.heap.size, 1, none⟩ = some (.int .i64 1) ∧ W.cell? ⟨w2.heap.size, 2, none⟩ = some (.bool true) ∧ W.cell? ⟨w2.heap.size, 3, none⟩ = some (.bool true) ∧ W.cell? ⟨w2.heap.size, 4, none⟩ = some (.int .u8 1) ∧ W.cell? ⟨w2.heap.size, 5, none⟩ = some (.int .i64 3) ∧ W.cell? ⟨w2.heap.size, 6, none⟩ = some (.string ByteArray.empty) ∧ W.cell? ⟨w2.heap.size, 7, none⟩ = some (.int .u8 1) ∧ W.cell? ⟨w2.heap.size, 8, none⟩ = some (.int .i64 5) ∧ W.cell? ⟨w2.heap.size, 9, none⟩ = some (.string ByteArray.empty))
      (first | (refine HSS.out _ ?_; exact (by repeat (first | exact Below.refl _ _ | (with_reducible refine Below.drew ?_) | (with_reducible refine Below.alloc ?_ (by first | exact Nat.le_refl _ | exact K6.out.size | exact K5.out.size | (simp; done) | (have := K6.out.size; simp; omega) | (have := K5.out.size; simp; omega) | (simp; omega)) _) | (with_reducible refine Below.setCell ?_ (by first | exact Nat.le_refl _ | exact K6.out.size | exact K5.out.size | (simp; done) | (have := K6.out.size; simp; omega) | (have := K5.out.size; simp; omega) | (simp; omega)) _) | (with_reducible exact K6.out) | (with_reducible exact K5.out)))))
      (first
        | (go_at_call 20; (with_reducible refine (whole_calls 9 _).mono ?_); rintro e w5 ⟨rfl, hp5⟩; have k5 := below_step (W0 := W4) (by repeat (first | exact Below.refl _ _ | (with_reducible refine Below.drew ?_) | (with_reducible refine Below.alloc ?_ (by first | exact Nat.le_refl _ | exact K6.out.size | exact K5.out.size | (simp; done) | (have := K6.out.size; simp; omega) | (have := K5.out.size; simp; omega) | (simp; omega)) _) | (with_reducible refine Below.setCell ?_ (by first | exact Nat.le_refl _ | exact K6.out.size | exact K5.out.size | (simp; done) | (have := K6.out.size; simp; omega) | (have := K5.out.size; simp; omega) | (simp; omega)) _) | (with_reducible exact K6.out) | (with_reducible exact K5.out))) hp5; have K5 := Lib.hid k5; have HP5 := Lib.hid hp5; clear hp5)
        | (go_at_call 17; (with_reducible refine (HM5.out _ _ (by repeat (first | exact Below.refl _ _ | (with_reducible refine Below.drew ?_) | (with_reducible refine Below.alloc ?_ (by first | exact Nat.le_refl _ | exact K6.out.size | exact K5.out.size | (simp; done) | (have := K6.out.size; simp; omega) | (have := K5.out.size; simp; omega) | (simp; omega)) _) | (with_reducible refine Below.setCell ?_ (by first | exact Nat.le_refl _ | exact K6.out.size | exact K5.out.size | (simp; done) | (have := K6.out.size; simp; omega) | (have := K5.out.size; simp; omega) | (simp; omega)) _) | (with_reducible exact K6.out) | (with_reducible exact K5.out))) (by (repeat (first | (with_reducible exact Box.at_ _ _ _ _ (by first | rfl | (simp; done) | fail)) | (with_reducible refine Box.set ?_ (by simp) _) | (with_reducible refine Box.drew ?_) | (with_reducible refine Box.alloc ?_ _) | (with_reducible refine Box.call ?_ HP5.out))); first | done | fail)).mono ?_); rintro e w6 ⟨rfl, hp6⟩; have k6 := below_step (W0 := W4) (by repeat (first | exact Below.refl _ _ | (with_reducible refine Below.drew ?_) | (with_reducible refine Below.alloc ?_ (by first | exact Nat.le_refl _ | exact K6.out.size | exact K5.out.size | (simp; done) | (have := K6.out.size; simp; omega) | (have := K5.out.size; simp; omega) | (simp; omega)) _) | (with_reducible refine Below.setCell ?_ (by first | exact Nat.le_refl _ | exact K6.out.size | exact K5.out.size | (simp; done) | (have := K6.out.size; simp; omega) | (have := K5.out.size; simp; omega) | (simp; omega)) _) | (with_reducible exact K6.out) | (with_reducible exact K5.out))) hp6; have K6 := Lib.hid k6; have HP6 := Lib.hid hp6; clear hp6; (first | (refine Box.use (w := w6) (b := W4.heap.size) (cs := #[.bool false, .bool false, .bool false]) ?_ ?_; (focus (refine Box.call ?_ HP6.out; repeat (first | (with_reducible exact Box.at_ _ _ _ _ (by first | rfl | (simp; done) | fail)) | (with_reducible refine Box.set ?_ (by simp) _) | (with_reducible refine Box.drew ?_) | (with_reducible refine Box.alloc ?_ _) | (with_reducible refine Box.call ?_ HP6.out) | (with_reducible refine Box.call ?_ HP5.out)))); intro hz; have z0 : w6.cell? ⟨W4.heap.size, 0, none⟩ = some (.bool false) := hz.cell 0 rfl; have z1 : w6.cell? ⟨W4.heap.size, 1, none⟩ = some (.bool false) := hz.cell 1 rfl; have z2 : w6.cell? ⟨W4.heap.size, 2, none⟩ = some (.bool false) := hz.cell 2 rfl; have zf := hz.soft; unfold Soft at zf; have zl := hz.lt; have HZ := Lib.hid hz; clear hz) | (refine Box.use (w := w6) (b := W4.heap.size + 1) (cs := #[.bool false, .bool false, .bool false]) ?_ ?_; (focus (refine Box.call ?_ HP6.out; repeat (first | (with_reducible exact Box.at_ _ _ _ _ (by first | rfl | (simp; done) | fail)) | (with_reducible refine Box.set ?_ (by simp) _) | (with_reducible refine Box.drew ?_) | (with_reducible refine Box.alloc ?_ _) | (with_reducible refine Box.call ?_ HP6.out) | (with_reducible refine Box.call ?_ HP5.out)))); intro hz; have z0 : w6.cell? ⟨W4.heap.size + 1, 0, none⟩ = some (.bool false) := hz.cell 0 rfl; have z1 : w6.cell? ⟨W4.heap.size + 1, 1, none⟩ = some (.bool false) := hz.cell 1 rfl; have z2 : w6.cell? ⟨W4.heap.size + 1, 2, none⟩ = some (.bool false) := hz.cell 2 rfl; have zf := hz.soft; unfold Soft at zf; have zl := hz.lt; have HZ := Lib.hid hz; clear hz) | (refine Box.use (w := w6) (b := w5.heap.size) (cs := #[.bool false, .bool false, .bool false]) ?_ ?_; (focus (refine Box.call ?_ HP6.out; repeat (first | (with_reducible exact Box.at_ _ _ _ _ (by first | rfl | (simp; done) | fail)) | (with_reducible refine Box.set ?_ (by simp) _) | (with_reducible refine Box.drew ?_) | (with_reducible refine Box.alloc ?_ _) | (with_reducible refine Box.call ?_ HP6.out) | (with_reducible refine Box.call ?_ HP5.out)))); intro hz; have z0 : w6.cell? ⟨w5.heap.size, 0, none⟩ = some (.bool false) := hz.cell 0 rfl; have z1 : w6.cell? ⟨w5.heap.size, 1, none⟩ = some (.bool false) := hz.cell 1 rfl; have z2 : w6.cell? ⟨w5.heap.size, 2, none⟩ = some (.bool false) := hz.cell 2 rfl; have zf := hz.soft; unfold Soft at zf; have zl := hz.lt; have HZ := Lib.hid hz; clear hz) | (refine Box.use (w := w6) (b := w5.heap.size + 1) (cs := #[.bool false, .bool false, .bool false]) ?_ ?_; (focus (refine Box.call ?_ HP6.out; repeat (first | (with_reducible exact Box.at_ _ _ _ _ (by first | rfl | (simp; done) | fail)) | (with_reducible refine Box.set ?_ (by simp) _) | (with_reducible refine Box.drew ?_) | (with_reducible refine Box.alloc ?_ _) | (with_reducible refine Box.call ?_ HP6.out) | (with_reducible refine Box.call ?_ HP5.out)))); intro hz; have z0 : w6.cell? ⟨w5.heap.size + 1, 0, none⟩ = some (.bool false) := hz.cell 0 rfl; have z1 : w6.cell? ⟨w5.heap.size + 1, 1, none⟩ = some (.bool false) := hz.cell 1 rfl; have z2 : w6.cell? ⟨w5.heap.size + 1, 2, none⟩ = some (.bool false) := hz.cell 2 rfl; have zf := hz.soft; unfold Soft at zf; have zl := hz.lt; have HZ := Lib.hid hz; clear hz) | skip))
        | fail)
    all_goals go_wp2_with fail
    all_goals go_meet
    all_goals refine ⟨_, rfl, (by repeat (first | exact Below.refl _ _ | (with_reducible refine Below.drew ?_) | (with_reducible refine Below.alloc ?_ (by first | exact Nat.le_refl _ | exact K6.out.size | exact K5.out.size | (simp; done) | (have := K6.out.size; simp; omega) | (have := K5.out.size; simp; omega) | (simp; omega)) _) | (with_reducible refine Below.setCell ?_ (by first | exact Nat.le_refl _ | exact K6.out.size | exact K5.out.size | (simp; done) | (have := K6.out.size; simp; omega) | (have := K5.out.size; simp; omega) | (simp; omega)) _) | (with_reducible exact K6.out) | (with_reducible exact K5.out))), ?_⟩
    all_goals (first | exact (by (repeat (first | (with_reducible exact Box.at_ _ _ _ _ (by first | rfl | (simp; done) | fail)) | (with_reducible refine Box.set ?_ (by simp) _) | (with_reducible refine Box.drew ?_) | (with_reducible refine Box.alloc ?_ _) | (with_reducible refine Box.call ?_ HP6.out) | (with_reducible refine Box.call ?_ HP5.out))); first | done | fail) | (have := ((HZ.out.set (j := 0) (by simp) (.bool false)).set (j := 1) (by simp) (.bool true)).set (j := 2) (by simp) (.bool true); simpa using this) | skip)
  case rest =>
    obtain ⟨b5, rfl, hb, hx5⟩ := hcut
    have XS_wc := Lib.hid (XS_W4.out.call hb)
    have XT_wc := Lib.hid (XT_W4.out.call hb)
    have XP_wc := Lib.hid (XP_W4.out.call hb)
    have XA_wc := Lib.hid (XA_W4.out.call hb)
    have HS_wc := Lib.hid (SchemaR.stable _ _ _ _ hb HS_W4.out)
    have HB_wc := Lib.hid (HB_W4.out.trans (hb.mono HB_W4.out.size))
    clear hb
    have XB_wc := Lib.hid hx5
    clear hx5
    have qS0 : wc.cell? ⟨w1.heap.size, 0, none⟩ = some (.int .u32 1) := XS_wc.out.cell 0 rfl
    have qS1 : wc.cell? ⟨w1.heap.size, 1, none⟩ = some (.slice sa 2 2) := XS_wc.out.cell 1 rfl
    have zS : w1.heap.size < wc.heap.size := XS_wc.out.lt
    have qT0 : wc.cell? ⟨w2.heap.size, 0, none⟩ = some (.int .i64 3) := XT_wc.out.cell 0 rfl
    have qT1 : wc.cell? ⟨w2.heap.size, 1, none⟩ = some (.int .i64 1) := XT_wc.out.cell 1 rfl
    have qT2 : wc.cell? ⟨w2.heap.size, 2, none⟩ = some (.bool true) := XT_wc.out.cell 2 rfl
    have qT3 : wc.cell? ⟨w2.heap.size, 3, none⟩ = some (.bool true) := XT_wc.out.cell 3 rfl
    have qT4 : wc.cell? ⟨w2.heap.size, 4, none⟩ = some (.int .u8 1) := XT_wc.out.cell 4 rfl
    have qT5 : wc.cell? ⟨w2.heap.size, 5, none⟩ = some (.int .i64 3) := XT_wc.out.cell 5 rfl
    have qT6 : wc.cell? ⟨w2.heap.size, 6, none⟩ = some (.string ByteArray.empty) := XT_wc.out.cell 6 rfl
    have qT7 : wc.cell? ⟨w2.heap.size, 7, none⟩ = some (.int .u8 1) := XT_wc.out.cell 7 rfl
    have qT8 : wc.cell? ⟨w2.heap.size, 8, none⟩ = some (.int .i64 5) := XT_wc.out.cell 8 rfl
    have qT9 : wc.cell? ⟨w2.heap.size, 9, none⟩ = some (.string ByteArray.empty) := XT_wc.out.cell 9 rfl
    have zT : w2.heap.size < wc.heap.size := XT_wc.out.lt
    have qP0 : wc.cell? ⟨w3.heap.size, 0, none⟩ = some (.int .u8 1) := XP_wc.out.cell 0 rfl
    have qP1 : wc.cell? ⟨w3.heap.size, 1, none⟩ = some (.int .u32 1) := XP_wc.out.cell 1 rfl
    have qP2 : wc.cell? ⟨w3.heap.size, 2, none⟩ = some (.int .u8 1) := XP_wc.out.cell 2 rfl
    have qP3 : wc.cell? ⟨w3.heap.size, 3, none⟩ = some (.int .i64 7) := XP_wc.out.cell 3 rfl
    have qP4 : wc.cell? ⟨w3.heap.size, 4, none⟩ = some (.string ByteArray.empty) := XP_wc.out.cell 4 rfl
    have qP5 : wc.cell? ⟨w3.heap.size, 5, none⟩ = some (.slice none 0 0) := XP_wc.out.cell 5 rfl
    have zP : w3.heap.size < wc.heap.size := XP_wc.out.lt
    go_wp2_with fail
    obtain ⟨W6, hWW⟩ : ∃ W : World, W = ((wc.alloc (.cells #[.int .u8 1, .int .u32 1, .int .u8 1, .int .i64 7, .string ByteArray.empty, .slice none 0 0] 39)).alloc (.cells #[.int .i64 3, .int .i64 1, .bool true, .bool true, .int .u8 1, .int .i64 3, .string ByteArray.empty, .int .u8 1, .int .i64 5, .string ByteArray.empty] 29)) := ⟨_, rfl⟩
    have hb : Below wc.heap.size wc W6 := by rw [hWW]; exact (((Below.refl _ _).alloc (by first | exact Nat.le_refl _ | (simp; done) | (simp; omega)) _).alloc (by first | exact Nat.le_refl _ | (simp; done) | (simp; omega)) _)
    have hx0 : Box W6 (wc.heap.size) #[.int .u8 1, .int .u32 1, .int .u8 1, .int .i64 7, .string ByteArray.empty, .slice none 0 0] := by rw [hWW]; exact (Box.at_ _ _ _ _ (by simp)).alloc _
    have hx1 : Box W6 (wc.heap.size + 1) #[.int .i64 3, .int .i64 1, .bool true, .bool true, .int .u8 1, .int .i64 3, .string ByteArray.empty, .int .u8 1, .int .i64 5, .string ByteArray.empty] := by rw [hWW]; exact (Box.at_ _ _ _ _ (by simp))
    rw [← hWW]
    clear hWW
    have XS_W6 := Lib.hid (XS_wc.out.call hb)
    have XT_W6 := Lib.hid (XT_wc.out.call hb)
    have XP_W6 := Lib.hid (XP_wc.out.call hb)
    have XA_W6 := Lib.hid (XA_wc.out.call hb)
    have XB_W6 := Lib.hid (XB_wc.out.call hb)
    have HS_W6 := Lib.hid (SchemaR.stable _ _ _ _ hb HS_wc.out)
    have HB_W6 := Lib.hid (HB_wc.out.trans (hb.mono HB_wc.out.size))
    clear hb
    clear qS0 qS1 zS qT0 qT1 qT2 qT3 qT4 qT5 qT6 qT7 qT8 qT9 zT qP0 qP1 qP2 qP3 qP4 qP5 zP
    have XK_W6 := Lib.hid hx0
    clear hx0
    have XL_W6 := Lib.hid hx1
    clear hx1
    have hmy := may_all 2 notP _ twoS _ (some ⟨wc.heap.size + 1, 0, none⟩) 1 1 [exS] W6 (exNot _ _ XK_W6.out) HS_W6.out (by decide) (sl_one (cs := exS.cells.toList) rfl ⟨rfl, exS_ok⟩ XL_W6.out) (by decide)
    rw [ev_may3] at hmy
    simp only [B3.cells] at hmy
    refine hmy.mono ?_
    rintro e w7 ⟨rfl, hb⟩
    clear hmy
    have XS_w7 := Lib.hid (XS_W6.out.call hb)
    have XT_w7 := Lib.hid (XT_W6.out.call hb)
    have XP_w7 := Lib.hid (XP_W6.out.call hb)
    have XA_w7 := Lib.hid (XA_W6.out.call hb)
    have XB_w7 := Lib.hid (XB_W6.out.call hb)
    have HS_w7 := Lib.hid (SchemaR.stable _ _ _ _ hb HS_W6.out)
    have HB_w7 := Lib.hid (HB_W6.out.trans (hb.mono HB_W6.out.size))
    clear hb
    go_wp2_with fail
    obtain ⟨W7, hWW⟩ : ∃ W : World, W = ((w7.alloc (.cells #[.bool false, .bool true, .bool true] 51)).alloc (.cells #[.iface 9 (.string ⟨#[97, 98, 99, 100, 101, 102]⟩), .iface 9 (.string ⟨#[98]⟩)] 60)) := ⟨_, rfl⟩
    have hb : Below w7.heap.size w7 W7 := by rw [hWW]; exact (((Below.refl _ _).alloc (by first | exact Nat.le_refl _ | (simp; done) | (simp; omega)) _).alloc (by first | exact Nat.le_refl _ | (simp; done) | (simp; omega)) _)
    have hx0 : Box W7 (w7.heap.size) #[.bool false, .bool true, .bool true] := by rw [hWW]; exact (Box.at_ _ _ _ _ (by simp)).alloc _
    have hx1 : Box W7 (w7.heap.size + 1) #[.iface 9 (.string ⟨#[97, 98, 99, 100, 101, 102]⟩), .iface 9 (.string ⟨#[98]⟩)] := by rw [hWW]; exact (Box.at_ _ _ _ _ (by simp))
    rw [← hWW]
    clear hWW
    have XS_W7 := Lib.hid (XS_w7.out.call hb)
    have XT_W7 := Lib.hid (XT_w7.out.call hb)
    have XP_W7 := Lib.hid (XP_w7.out.call hb)
    have XA_W7 := Lib.hid (XA_w7.out.call hb)
    have XB_W7 := Lib.hid (XB_w7.out.call hb)
    have HS_W7 := Lib.hid (SchemaR.stable _ _ _ _ hb HS_w7.out)
    have HB_W7 := Lib.hid (HB_w7.out.trans (hb.mono HB_w7.out.size))
    clear hb
    have XC_W7 := Lib.hid hx0
    clear hx0
    have XV_W7 := Lib.hid hx1
    clear hx1
    have hst := stats_calls (some ⟨w7.heap.size + 1, 0, none⟩) 2 2 exTexts W7 (sl_vals (vs := exTexts) XV_W7.out) (by decide) (by intro v hv; simp [exTexts] at hv; rcases hv with rfl | rfl <;> decide)
    rw [show statsF (exTexts.map ValD.cell) = _ from stats2] at hst
    simp only [StatD.cells, tB] at hst
    refine hst.mono ?_
    rintro e w8 ⟨rfl, hb⟩
    clear hst
    have XS_w8 := Lib.hid (XS_W7.out.call hb)
    have XT_w8 := Lib.hid (XT_W7.out.call hb)
    have XP_w8 := Lib.hid (XP_W7.out.call hb)
    have XA_w8 := Lib.hid (XA_W7.out.call hb)
    have XB_w8 := Lib.hid (XB_W7.out.call hb)
    have XC_w8 := Lib.hid (XC_W7.out.call hb)
    have HS_w8 := Lib.hid (SchemaR.stable _ _ _ _ hb HS_W7.out)
    have HB_w8 := Lib.hid (HB_W7.out.trans (hb.mono HB_W7.out.size))
    clear hb
    have qS0 : w8.cell? ⟨w1.heap.size, 0, none⟩ = some (.int .u32 1) := XS_w8.out.cell 0 rfl
    have qS1 : w8.cell? ⟨w1.heap.size, 1, none⟩ = some (.slice sa 2 2) := XS_w8.out.cell 1 rfl
    have zS : w1.heap.size < w8.heap.size := XS_w8.out.lt
    have qT0 : w8.cell? ⟨w2.heap.size, 0, none⟩ = some (.int .i64 3) := XT_w8.out.cell 0 rfl
    have qT1 : w8.cell? ⟨w2.heap.size, 1, none⟩ = some (.int .i64 1) := XT_w8.out.cell 1 rfl
    have qT2 : w8.cell? ⟨w2.heap.size, 2, none⟩ = some (.bool true) := XT_w8.out.cell 2 rfl
    have qT3 : w8.cell? ⟨w2.heap.size, 3, none⟩ = some (.bool true) := XT_w8.out.cell 3 rfl
    have qT4 : w8.cell? ⟨w2.heap.size, 4, none⟩ = some (.int .u8 1) := XT_w8.out.cell 4 rfl
    have qT5 : w8.cell? ⟨w2.heap.size, 5, none⟩ = some (.int .i64 3) := XT_w8.out.cell 5 rfl
    have qT6 : w8.cell? ⟨w2.heap.size, 6, none⟩ = some (.string ByteArray.empty) := XT_w8.out.cell 6 rfl
    have qT7 : w8.cell? ⟨w2.heap.size, 7, none⟩ = some (.int .u8 1) := XT_w8.out.cell 7 rfl
    have qT8 : w8.cell? ⟨w2.heap.size, 8, none⟩ = some (.int .i64 5) := XT_w8.out.cell 8 rfl
    have qT9 : w8.cell? ⟨w2.heap.size, 9, none⟩ = some (.string ByteArray.empty) := XT_w8.out.cell 9 rfl
    have zT : w2.heap.size < w8.heap.size := XT_w8.out.lt
    have qP0 : w8.cell? ⟨w3.heap.size, 0, none⟩ = some (.int .u8 1) := XP_w8.out.cell 0 rfl
    have qP1 : w8.cell? ⟨w3.heap.size, 1, none⟩ = some (.int .u32 1) := XP_w8.out.cell 1 rfl
    have qP2 : w8.cell? ⟨w3.heap.size, 2, none⟩ = some (.int .u8 1) := XP_w8.out.cell 2 rfl
    have qP3 : w8.cell? ⟨w3.heap.size, 3, none⟩ = some (.int .i64 7) := XP_w8.out.cell 3 rfl
    have qP4 : w8.cell? ⟨w3.heap.size, 4, none⟩ = some (.string ByteArray.empty) := XP_w8.out.cell 4 rfl
    have qP5 : w8.cell? ⟨w3.heap.size, 5, none⟩ = some (.slice none 0 0) := XP_w8.out.cell 5 rfl
    have zP : w3.heap.size < w8.heap.size := XP_w8.out.lt
    have qA0 : w8.cell? ⟨w4.heap.size, 0, none⟩ = some (.bool true) := XA_w8.out.cell 0 rfl
    have qA1 : w8.cell? ⟨w4.heap.size, 1, none⟩ = some (.bool true) := XA_w8.out.cell 1 rfl
    have qA2 : w8.cell? ⟨w4.heap.size, 2, none⟩ = some (.bool false) := XA_w8.out.cell 2 rfl
    have zA : w4.heap.size < w8.heap.size := XA_w8.out.lt
    have qB0 : w8.cell? ⟨b5, 0, none⟩ = some (.bool false) := XB_w8.out.cell 0 rfl
    have qB1 : w8.cell? ⟨b5, 1, none⟩ = some (.bool true) := XB_w8.out.cell 1 rfl
    have qB2 : w8.cell? ⟨b5, 2, none⟩ = some (.bool true) := XB_w8.out.cell 2 rfl
    have zB : b5 < w8.heap.size := XB_w8.out.lt
    have qC0 : w8.cell? ⟨w7.heap.size, 0, none⟩ = some (.bool false) := XC_w8.out.cell 0 rfl
    have qC1 : w8.cell? ⟨w7.heap.size, 1, none⟩ = some (.bool true) := XC_w8.out.cell 1 rfl
    have qC2 : w8.cell? ⟨w7.heap.size, 2, none⟩ = some (.bool true) := XC_w8.out.cell 2 rfl
    have zC : w7.heap.size < w8.heap.size := XC_w8.out.lt
    go_wp2_with fail
    obtain ⟨W8, hWW⟩ : ∃ W : World, W = (w8.alloc (.cells #[.int .i64 2, .int .i64 0, .bool true, .bool true, .int .u8 3, .int .i64 0, .string ⟨#[97, 98, 99, 100]⟩, .int .u8 3, .int .i64 0, .string ⟨#[98]⟩] 29)) := ⟨_, rfl⟩
    have hb : Below w8.heap.size w8 W8 := by rw [hWW]; exact ((Below.refl _ _).alloc (by first | exact Nat.le_refl _ | (simp; done) | (simp; omega)) _)
    have hx0 : Box W8 (w8.heap.size) #[.int .i64 2, .int .i64 0, .bool true, .bool true, .int .u8 3, .int .i64 0, .string ⟨#[97, 98, 99, 100]⟩, .int .u8 3, .int .i64 0, .string ⟨#[98]⟩] := by rw [hWW]; exact (Box.at_ _ _ _ _ (by simp))
    rw [← hWW]
    clear hWW
    have XS_W8 := Lib.hid (XS_w8.out.call hb)
    have XT_W8 := Lib.hid (XT_w8.out.call hb)
    have XP_W8 := Lib.hid (XP_w8.out.call hb)
    have XA_W8 := Lib.hid (XA_w8.out.call hb)
    have XB_W8 := Lib.hid (XB_w8.out.call hb)
    have XC_W8 := Lib.hid (XC_w8.out.call hb)
    have HS_W8 := Lib.hid (SchemaR.stable _ _ _ _ hb HS_w8.out)
    have HB_W8 := Lib.hid (HB_w8.out.trans (hb.mono HB_w8.out.size))
    clear hb
    clear qS0 qS1 zS qT0 qT1 qT2 qT3 qT4 qT5 qT6 qT7 qT8 qT9 zT qP0 qP1 qP2 qP3 qP4 qP5 zP qA0 qA1 qA2 zA qB0 qB1 qB2 zB qC0 qC1 qC2 zC
    have XD_W8 := Lib.hid hx0
    clear hx0
    have hS : ∀ W, Below W8.heap.size W8 W → W.cell? ⟨w1.heap.size, 0, none⟩ = some (.int .u32 1) ∧ W.cell? ⟨w1.heap.size, 1, none⟩ = some (.slice sa 2 2) ∧ W.cell? ⟨w2.heap.size, 0, none⟩ = some (.int .i64 3) ∧ W.cell? ⟨w2.heap.size, 1, none⟩ = some (.int .i64 1) ∧ W.cell? ⟨w2.heap.size, 2, none⟩ = some (.bool true) ∧ W.cell? ⟨w2.heap.size, 3, none⟩ = some (.bool true) ∧ W.cell? ⟨w2.heap.size, 4, none⟩ = some (.int .u8 1) ∧ W.cell? ⟨w2.heap.size, 5, none⟩ = some (.int .i64 3) ∧ W.cell? ⟨w2.heap.size, 6, none⟩ = some (.string ByteArray.empty) ∧ W.cell? ⟨w2.heap.size, 7, none⟩ = some (.int .u8 1) ∧ W.cell? ⟨w2.heap.size, 8, none⟩ = some (.int .i64 5) ∧ W.cell? ⟨w2.heap.size, 9, none⟩ = some (.string ByteArray.empty) ∧ W.cell? ⟨w3.heap.size, 0, none⟩ = some (.int .u8 1) ∧ W.cell? ⟨w3.heap.size, 1, none⟩ = some (.int .u32 1) ∧ W.cell? ⟨w3.heap.size, 2, none⟩ = some (.int .u8 1) ∧ W.cell? ⟨w3.heap.size, 3, none⟩ = some (.int .i64 7) ∧ W.cell? ⟨w3.heap.size, 4, none⟩ = some (.string ByteArray.empty) ∧ W.cell? ⟨w3.heap.size, 5, none⟩ = some (.slice none 0 0) ∧ W.cell? ⟨w4.heap.size, 0, none⟩ = some (.bool true) ∧ W.cell? ⟨w4.heap.size, 1, none⟩ = some (.bool true) ∧ W.cell? ⟨w4.heap.size, 2, none⟩ = some (.bool false) ∧ W.cell? ⟨b5, 0, none⟩ = some (.bool false) ∧ W.cell? ⟨b5, 1, none⟩ = some (.bool true) ∧ W.cell? ⟨b5, 2, none⟩ = some (.bool true) ∧ W.cell? ⟨w7.heap.size, 0, none⟩ = some (.bool false) ∧ W.cell? ⟨w7.heap.size, 1, none⟩ = some (.bool true) ∧ W.cell? ⟨w7.heap.size, 2, none⟩ = some (.bool true) ∧ W.cell? ⟨w8.heap.size, 0, none⟩ = some (.int .i64 2) ∧ W.cell? ⟨w8.heap.size, 1, none⟩ = some (.int .i64 0) ∧ W.cell? ⟨w8.heap.size, 2, none⟩ = some (.bool true) ∧ W.cell? ⟨w8.heap.size, 3, none⟩ = some (.bool true) ∧ W.cell? ⟨w8.heap.size, 4, none⟩ = some (.int .u8 3) ∧ W.cell? ⟨w8.heap.size, 5, none⟩ = some (.int .i64 0) ∧ W.cell? ⟨w8.heap.size, 6, none⟩ = some (.string ⟨#[97, 98, 99, 100]⟩) ∧ W.cell? ⟨w8.heap.size, 7, none⟩ = some (.int .u8 3) ∧ W.cell? ⟨w8.heap.size, 8, none⟩ = some (.int .i64 0) ∧ W.cell? ⟨w8.heap.size, 9, none⟩ = some (.string ⟨#[98]⟩) := fun W hb => ⟨(XS_W8.out.call hb).cell 0 rfl, (XS_W8.out.call hb).cell 1 rfl, (XT_W8.out.call hb).cell 0 rfl, (XT_W8.out.call hb).cell 1 rfl, (XT_W8.out.call hb).cell 2 rfl, (XT_W8.out.call hb).cell 3 rfl, (XT_W8.out.call hb).cell 4 rfl, (XT_W8.out.call hb).cell 5 rfl, (XT_W8.out.call hb).cell 6 rfl, (XT_W8.out.call hb).cell 7 rfl, (XT_W8.out.call hb).cell 8 rfl, (XT_W8.out.call hb).cell 9 rfl, (XP_W8.out.call hb).cell 0 rfl, (XP_W8.out.call hb).cell 1 rfl, (XP_W8.out.call hb).cell 2 rfl, (XP_W8.out.call hb).cell 3 rfl, (XP_W8.out.call hb).cell 4 rfl, (XP_W8.out.call hb).cell 5 rfl, (XA_W8.out.call hb).cell 0 rfl, (XA_W8.out.call hb).cell 1 rfl, (XA_W8.out.call hb).cell 2 rfl, (XB_W8.out.call hb).cell 0 rfl, (XB_W8.out.call hb).cell 1 rfl, (XB_W8.out.call hb).cell 2 rfl, (XC_W8.out.call hb).cell 0 rfl, (XC_W8.out.call hb).cell 1 rfl, (XC_W8.out.call hb).cell 2 rfl, (XD_W8.out.call hb).cell 0 rfl, (XD_W8.out.call hb).cell 1 rfl, (XD_W8.out.call hb).cell 2 rfl, (XD_W8.out.call hb).cell 3 rfl, (XD_W8.out.call hb).cell 4 rfl, (XD_W8.out.call hb).cell 5 rfl, (XD_W8.out.call hb).cell 6 rfl, (XD_W8.out.call hb).cell 7 rfl, (XD_W8.out.call hb).cell 8 rfl, (XD_W8.out.call hb).cell 9 rfl⟩
    have HS8 := Lib.hid hS
    clear hS
    have hck : ∀ W, Below W8.heap.size W8 W → Calls Try.prog 14 #[.agg #[.int .u8 1, .int .u32 1, .int .u8 1, .int .i64 7, .string ByteArray.empty, .slice none 0 0], .agg #[.int .u32 1, .slice sa 2 2]] W (ErrIs 0 W) := fun W hb => Check_ok twoS _ W (SchemaR.stable _ _ _ _ hb HS_W8.out) rfl
    unfold ErrIs at hck
    have HCK := Lib.hid hck
    clear hck
    have hev : ∀ (W : World) (b : Nat), Below W8.heap.size W8 W → Box W b #[.iface 2 (.int .i64 7), .nilIface] → Calls Try.prog 18 #[.agg #[.int .u8 1, .int .u32 1, .int .u8 1, .int .i64 7, .string ByteArray.empty, .slice none 0 0], .agg #[.int .u32 1, .slice sa 2 2], .slice (some ⟨b, 0, none⟩) 2 2] W (ValIs (.int .u8 2) W) := fun W b hb hx => by
      have h := eval_all 1 eqP _ twoS _ (some ⟨b, 0, none⟩) 2 2 [.whole 7, .nil] W (exPred _ 1 7 (by decide) (by decide)) (SchemaR.stable _ _ _ _ hb HS_W8.out) (by decide) (sl_vals (vs := [.whole 7, .nil]) hx) (by decide) (by intro v hv; simp at hv; rcases hv with rfl | rfl <;> decide)
      rw [show evalN twoS.fields (List.map ValD.cell [.whole 7, .nil]) 1 eqP = 2 from ev_eval] at h
      exact h
    have HEV := Lib.hid hev
    clear hev
    have he3 := eq3
    have hg3 := eqg3
    have hb3 := bin3
    go_region_held3 (fun W => W.cell? ⟨w1.heap.size, 0, none⟩ = some (.int .u32 1) ∧ W.cell? ⟨w1.heap.size, 1, none⟩ = some (.slice sa 2 2) ∧ W.cell? ⟨w2.heap.size, 0, none⟩ = some (.int .i64 3) ∧ W.cell? ⟨w2.heap.size, 1, none⟩ = some (.int .i64 1) ∧ W.cell? ⟨w2.heap.size, 2, none⟩ = some (.bool true) ∧ W.cell? ⟨w2.heap.size, 3, none⟩ = some (.bool true) ∧ W.cell? ⟨w2.heap.size, 4, none⟩ = some (.int .u8 1) ∧ W.cell? ⟨w2.heap.size, 5, none⟩ = some (.int .i64 3) ∧ W.cell? ⟨w2.heap.size, 6, none⟩ = some (.string ByteArray.empty) ∧ W.cell? ⟨w2.heap.size, 7, none⟩ = some (.int .u8 1) ∧ W.cell? ⟨w2.heap.size, 8, none⟩ = some (.int .i64 5) ∧ W.cell? ⟨w2.heap.size, 9, none⟩ = some (.string ByteArray.empty) ∧ W.cell? ⟨w3.heap.size, 0, none⟩ = some (.int .u8 1) ∧ W.cell? ⟨w3.heap.size, 1, none⟩ = some (.int .u32 1) ∧ W.cell? ⟨w3.heap.size, 2, none⟩ = some (.int .u8 1) ∧ W.cell? ⟨w3.heap.size, 3, none⟩ = some (.int .i64 7) ∧ W.cell? ⟨w3.heap.size, 4, none⟩ = some (.string ByteArray.empty) ∧ W.cell? ⟨w3.heap.size, 5, none⟩ = some (.slice none 0 0) ∧ W.cell? ⟨w4.heap.size, 0, none⟩ = some (.bool true) ∧ W.cell? ⟨w4.heap.size, 1, none⟩ = some (.bool true) ∧ W.cell? ⟨w4.heap.size, 2, none⟩ = some (.bool false) ∧ W.cell? ⟨b5, 0, none⟩ = some (.bool false) ∧ W.cell? ⟨b5, 1, none⟩ = some (.bool true) ∧ W.cell? ⟨b5, 2, none⟩ = some (.bool true) ∧ W.cell? ⟨w7.heap.size, 0, none⟩ = some (.bool false) ∧ W.cell? ⟨w7.heap.size, 1, none⟩ = some (.bool true) ∧ W.cell? ⟨w7.heap.size, 2, none⟩ = some (.bool true) ∧ W.cell? ⟨w8.heap.size, 0, none⟩ = some (.int .i64 2) ∧ W.cell? ⟨w8.heap.size, 1, none⟩ = some (.int .i64 0) ∧ W.cell? ⟨w8.heap.size, 2, none⟩ = some (.bool true) ∧ W.cell? ⟨w8.heap.size, 3, none⟩ = some (.bool true) ∧ W.cell? ⟨w8.heap.size, 4, none⟩ = some (.int .u8 3) ∧ W.cell? ⟨w8.heap.size, 5, none⟩ = some (.int .i64 0) ∧ W.cell? ⟨w8.heap.size, 6, none⟩ = some (.string ⟨#[97, 98, 99, 100]⟩) ∧ W.cell? ⟨w8.heap.size, 7, none⟩ = some (.int .u8 3) ∧ W.cell? ⟨w8.heap.size, 8, none⟩ = some (.int .i64 0) ∧ W.cell? ⟨w8.heap.size, 9, none⟩ = some (.string ⟨#[98]⟩))
      (first | (refine HS8.out _ ?_; exact (by repeat (first | exact Below.refl _ _ | (with_reducible refine Below.drew ?_) | (with_reducible refine Below.alloc ?_ (by first | exact Nat.le_refl _ | exact K1.out.size | exact K2.out.size | exact K3.out.size | exact K4.out.size | (simp; done) | (have := K1.out.size; simp; omega) | (have := K2.out.size; simp; omega) | (have := K3.out.size; simp; omega) | (have := K4.out.size; simp; omega) | (simp; omega)) _) | (with_reducible exact K1.out) | (with_reducible exact K2.out) | (with_reducible exact K3.out) | (with_reducible exact K4.out) ))))
      (first
        | (go_at_call_of 20 (Value.int IntKind.i64 3); (with_reducible refine (whole_calls 3 _).mono ?_); rintro e wq1 ⟨rfl, hp⟩; have k := below_step (W0 := W8) (by repeat (first | exact Below.refl _ _ | (with_reducible refine Below.drew ?_) | (with_reducible refine Below.alloc ?_ (by first | exact Nat.le_refl _ | exact K1.out.size | exact K2.out.size | exact K3.out.size | exact K4.out.size | (simp; done) | (have := K1.out.size; simp; omega) | (have := K2.out.size; simp; omega) | (have := K3.out.size; simp; omega) | (have := K4.out.size; simp; omega) | (simp; omega)) _) | (with_reducible exact K1.out) | (with_reducible exact K2.out) | (with_reducible exact K3.out) | (with_reducible exact K4.out) )) hp; have K1 := Lib.hid k; clear hp k)
        | (go_at_call_of 20 (Value.int IntKind.i64 5); (with_reducible refine (whole_calls 5 _).mono ?_); rintro e wq2 ⟨rfl, hp⟩; have k := below_step (W0 := W8) (by repeat (first | exact Below.refl _ _ | (with_reducible refine Below.drew ?_) | (with_reducible refine Below.alloc ?_ (by first | exact Nat.le_refl _ | exact K1.out.size | exact K2.out.size | exact K3.out.size | exact K4.out.size | (simp; done) | (have := K1.out.size; simp; omega) | (have := K2.out.size; simp; omega) | (have := K3.out.size; simp; omega) | (have := K4.out.size; simp; omega) | (simp; omega)) _) | (with_reducible exact K1.out) | (with_reducible exact K2.out) | (with_reducible exact K3.out) | (with_reducible exact K4.out) )) hp; have K2 := Lib.hid k; clear hp k)
        | (go_at_call 14; (with_reducible refine (HCK.out _ (by repeat (first | exact Below.refl _ _ | (with_reducible refine Below.drew ?_) | (with_reducible refine Below.alloc ?_ (by first | exact Nat.le_refl _ | exact K1.out.size | exact K2.out.size | exact K3.out.size | exact K4.out.size | (simp; done) | (have := K1.out.size; simp; omega) | (have := K2.out.size; simp; omega) | (have := K3.out.size; simp; omega) | (have := K4.out.size; simp; omega) | (simp; omega)) _) | (with_reducible exact K1.out) | (with_reducible exact K2.out) | (with_reducible exact K3.out) | (with_reducible exact K4.out) ))).mono ?_); rintro e wq3 ⟨rfl, hp⟩; have k := below_step (W0 := W8) (by repeat (first | exact Below.refl _ _ | (with_reducible refine Below.drew ?_) | (with_reducible refine Below.alloc ?_ (by first | exact Nat.le_refl _ | exact K1.out.size | exact K2.out.size | exact K3.out.size | exact K4.out.size | (simp; done) | (have := K1.out.size; simp; omega) | (have := K2.out.size; simp; omega) | (have := K3.out.size; simp; omega) | (have := K4.out.size; simp; omega) | (simp; omega)) _) | (with_reducible exact K1.out) | (with_reducible exact K2.out) | (with_reducible exact K3.out) | (with_reducible exact K4.out) )) hp; have K3 := Lib.hid k; clear hp k)
        | (go_at_call 18; (with_reducible refine (HEV.out _ _ (by repeat (first | exact Below.refl _ _ | (with_reducible refine Below.drew ?_) | (with_reducible refine Below.alloc ?_ (by first | exact Nat.le_refl _ | exact K1.out.size | exact K2.out.size | exact K3.out.size | exact K4.out.size | (simp; done) | (have := K1.out.size; simp; omega) | (have := K2.out.size; simp; omega) | (have := K3.out.size; simp; omega) | (have := K4.out.size; simp; omega) | (simp; omega)) _) | (with_reducible exact K1.out) | (with_reducible exact K2.out) | (with_reducible exact K3.out) | (with_reducible exact K4.out) )) (by (repeat (first | (with_reducible exact Box.at_ _ _ _ _ (by first | rfl | (simp; done) | fail)) | (with_reducible refine Box.set ?_ (by simp) _) | (with_reducible refine Box.drew ?_) | (with_reducible refine Box.alloc ?_ _))); first | done | fail)).mono ?_); rintro e wq4 ⟨rfl, hp⟩; have k := below_step (W0 := W8) (by repeat (first | exact Below.refl _ _ | (with_reducible refine Below.drew ?_) | (with_reducible refine Below.alloc ?_ (by first | exact Nat.le_refl _ | exact K1.out.size | exact K2.out.size | exact K3.out.size | exact K4.out.size | (simp; done) | (have := K1.out.size; simp; omega) | (have := K2.out.size; simp; omega) | (have := K3.out.size; simp; omega) | (have := K4.out.size; simp; omega) | (simp; omega)) _) | (with_reducible exact K1.out) | (with_reducible exact K2.out) | (with_reducible exact K3.out) | (with_reducible exact K4.out) )) hp; have K4 := Lib.hid k; clear hp k)
        | fail)
    all_goals go_wp2
    all_goals go_ret
    all_goals exact ⟨rfl, HB_W8.out.trans (K4.out.mono HB_W8.out.size)⟩
end Go.Proofs.Ytkildbpfondgcaa
