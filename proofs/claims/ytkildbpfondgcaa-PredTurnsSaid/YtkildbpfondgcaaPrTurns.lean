/- The law PredTurns. -/
import Derived.Test.YtkildbpfondgcaaPrColumn
import Derived.Test.YtkildbpfondgcaaPrAlive
import Derived.Test.YtkildbpfondgcaaGreat14m
namespace Go.Proofs.Ytkildbpfondgcaa
open Go.RowKit Go.Deep
set_option linter.unusedVariables false
set_option linter.unusedSimpArgs false

/-- not (a and b) -/
def bothP (a b : PredD) : PredD := .mk 8 0 zeroCell [.mk 6 0 zeroCell [a, b]]
/-- (not a) or (not b) -/
def notsP (a b : PredD) : PredD := .mk 7 0 zeroCell [.mk 8 0 zeroCell [a], .mk 8 0 zeroCell [b]]
theorem eval_turns (fs : List FieldD) (row : List CellD) (d : Nat) (a b : PredD) : evalN fs row (d + 2) (bothP a b) = evalN fs row (d + 2) (notsP a b) := by
  have ha := evalN_le fs row d a
  have hb := evalN_le fs row d b
  simp only [evalN, bothP, notsP, PredD.op, PredD.kids, List.foldl_cons, List.foldl_nil]
  simp
  omega
theorem both_turns (a b : B3) : (⟨(bothB min (bothB min ⟨false, false, true⟩ a) b).ye, (bothB min (bothB min ⟨false, false, true⟩ a) b).un, (bothB min (bothB min ⟨false, false, true⟩ a) b).no⟩ : B3) = bothB max (bothB max ⟨true, false, false⟩ ⟨a.ye, a.un, a.no⟩) ⟨b.ye, b.un, b.no⟩ := by
  obtain ⟨a0, a1, a2⟩ := a
  obtain ⟨b0, b1, b2⟩ := b
  cases a0 <;> cases a1 <;> cases a2 <;> cases b0 <;> cases b1 <;> cases b2 <;> rfl
theorem may_turns (fs : List FieldD) (sts : List StatD) (d : Nat) (a b : PredD) : mayN fs sts (d + 2) (bothP a b) = mayN fs sts (d + 2) (notsP a b) := by
  have h := both_turns (mayN fs sts d a) (mayN fs sts d b)
  simp only [mayN, bothP, notsP, PredD.op, PredD.kids, List.foldl_cons, List.foldl_nil]
  simpa using h
theorem sl_two {α : Type} {size : Nat} {R : Rd α} {w : World} {b : Nat} {cs es : List Value} {x y : α} (hl : cs.length = size) (hm : es.length = size) (hr : R w cs x) (hs : R w es y) (h : Box w b (cs ++ es).toArray) : Sl size R w (some ⟨b, 0, none⟩) 2 [x, y] := by
  refine ⟨rfl, fun _ => ⟨b, 0, rfl, h.lt, fun i z hi => ?_⟩⟩
  have : i = 0 ∨ i = 1 := by have := (List.getElem?_eq_some_iff.1 hi).1; simp at this; omega
  rcases this with rfl | rfl
  · cases hi
    refine ⟨cs, hl, hr, fun j v hj => ?_⟩
    have hjl : j < cs.length := (List.getElem?_eq_some_iff.1 hj).1
    simpa using h.cells j v (by simpa [List.getElem?_append_left hjl] using hj)
  · cases hi
    refine ⟨es, hm, hs, fun j v hj => ?_⟩
    have := h.cells (size + j) v (by rw [List.getElem?_toArray, List.getElem?_append_right (by omega), show size + j - cs.length = j by omega]; exact hj)
    simpa using this
theorem pred_node (d op b n : Nat) (w : World) (ps : List PredD) (ho : op < 256) (hn : n ≤ 2) (h : Sl 6 (PredR d) w (some ⟨b, 0, none⟩) n ps) : PredR (d + 1) w [.int .u8 (op : Int), .int .u32 0, .int .u8 0, .int .i64 0, .string ⟨#[]⟩, .slice (some ⟨b, 0, none⟩) n n] (.mk op 0 zeroCell ps) :=
  ⟨some ⟨b, 0, none⟩, n, n, rfl, Nat.le_refl _, by unfold maxLen; omega, (fun h => by cases h), h, ho, by show 0 < 2 ^ 32; decide, ⟨by show ByteArray.empty.size ≤ maxLen; decide, by show (0 : Int) ≤ 0 ∧ (0 : Int) ≤ 255; omega, by show (-9223372036854775808 : Int) ≤ 0 ∧ (0 : Int) ≤ 9223372036854775807; omega⟩⟩
theorem predR_wide {d : Nat} {w : World} {cs : List Value} {p : PredD} (h : PredR d w cs p) : cs.length = 6 := by
  obtain ⟨a, n, c, rfl⟩ := h.shape; rfl
set_option maxRecDepth 100000 in
set_option maxHeartbeats 16000000 in
theorem predTurns_calls (cp : List Value) (dp : Nat × PredD) (cq : List Value) (dq : Nat × PredD) (scs : List Value) (s : SchemaD) (a : Option Addr) (n c : Nat) (xs : List CellD) (ta : Option Addr) (tn tc : Nat) (sts : List StatD) (w : World) (hp : PredR dp.1 w cp dp.2) (hq : PredR dq.1 w cq dq.2) (hs : SchemaR w scs s) (h : Sl 3 CellR w a n xs) (hst : Sl 10 StatR w ta tn sts) :
    Calls Try.prog 5 #[.agg cp.toArray, .agg cq.toArray, .agg scs.toArray, .slice a n c, .slice ta tn tc] w (TruePost w) := by
  obtain ⟨d, hp, hq⟩ : ∃ d, PredR d w cp dp.2 ∧ PredR d w cq dq.2 := ⟨max dp.1 dq.1, hp.mono (by omega), hq.mono (by omega)⟩
  obtain ⟨_, p⟩ := dp
  obtain ⟨_, q⟩ := dq
  simp only [] at hp hq
  obtain ⟨ka, kn, kc, hcp⟩ := hp.shape
  obtain ⟨ja, jn, jc, hcq⟩ := hq.shape
  subst hcp hcq
  have HP := Lib.hid hp
  have HQ := Lib.hid hq
  have HSC := Lib.hid hs
  have HXS := Lib.hid h
  have HST := Lib.hid hst
  have hall : ∀ x ∈ xs, CellOK x := fun x hx => by obtain ⟨cs, hr⟩ := sl_all h x hx; exact hr.2
  have HALL := Lib.hid hall
  obtain ⟨fa, fnn, fc, rfl, hs1, hs2, hs3, hfs, hs4⟩ := hs
  have HG := Lib.hid great_calls
  have HG8 := Lib.hid great08
  unfold Great9Post at HG
  unfold Great08Post at HG8
  clear hp hq h hst hs1 hs2 hs3 hfs hs4 hall
  go_enter Try.func5, Try.ntmps5
  go_wp2_with fail
  obtain ⟨W0, hWW⟩ : ∃ W0 : World, W0 = (((w.alloc (.cells #[.int .u8 (p.op : Int), .int .u32 (p.field : Int), .int .u8 p.value.kind, .int .i64 p.value.n, .string p.value.s, .slice ka kn kc] 39)).alloc (.cells #[.int .u8 (q.op : Int), .int .u32 (q.field : Int), .int .u8 q.value.kind, .int .i64 q.value.n, .string q.value.s, .slice ja jn jc] 39)).alloc (.cells #[.int .u32 (s.id : Int), .slice fa fnn fc] 42)) := ⟨_, rfl⟩
  have hm : Mem w.heap.size [#[.int .u8 (p.op : Int), .int .u32 (p.field : Int), .int .u8 p.value.kind, .int .i64 p.value.n, .string p.value.s, .slice ka kn kc], #[.int .u8 (q.op : Int), .int .u32 (q.field : Int), .int .u8 q.value.kind, .int .i64 q.value.n, .string q.value.s, .slice ja jn jc], #[.int .u32 (s.id : Int), .slice fa fnn fc]] w W0 := by rw [hWW]; exact ((((Mem.nil w).push (by simp) #[.int .u8 (p.op : Int), .int .u32 (p.field : Int), .int .u8 p.value.kind, .int .i64 p.value.n, .string p.value.s, .slice ka kn kc] 39).push (by simp) #[.int .u8 (q.op : Int), .int .u32 (q.field : Int), .int .u8 q.value.kind, .int .i64 q.value.n, .string q.value.s, .slice ja jn jc] 39).push (by simp) #[.int .u32 (s.id : Int), .slice fa fnn fc] 42)
  rw [← hWW]
  clear hWW
  have M0 := Lib.hid hm
  clear hm
  refine (alive_calls _).mono ?_
  rintro e w1 ⟨rfl, hb⟩
  have hm : Mem w.heap.size [#[.int .u8 (p.op : Int), .int .u32 (p.field : Int), .int .u8 p.value.kind, .int .i64 p.value.n, .string p.value.s, .slice ka kn kc], #[.int .u8 (q.op : Int), .int .u32 (q.field : Int), .int .u8 q.value.kind, .int .i64 q.value.n, .string q.value.s, .slice ja jn jc], #[.int .u32 (s.id : Int), .slice fa fnn fc]] w w1 := M0.out.call hb
  have Mw1 := Lib.hid hm
  clear hm
  clear hb
  have q0_0 : w1.cell? ⟨w.heap.size, 0, none⟩ = some (.int .u8 (p.op : Int)) := Mw1.out.cell 0 0 rfl rfl
  have q0_1 : w1.cell? ⟨w.heap.size, 1, none⟩ = some (.int .u32 (p.field : Int)) := Mw1.out.cell 0 1 rfl rfl
  have q0_2 : w1.cell? ⟨w.heap.size, 2, none⟩ = some (.int .u8 p.value.kind) := Mw1.out.cell 0 2 rfl rfl
  have q0_3 : w1.cell? ⟨w.heap.size, 3, none⟩ = some (.int .i64 p.value.n) := Mw1.out.cell 0 3 rfl rfl
  have q0_4 : w1.cell? ⟨w.heap.size, 4, none⟩ = some (.string p.value.s) := Mw1.out.cell 0 4 rfl rfl
  have q0_5 : w1.cell? ⟨w.heap.size, 5, none⟩ = some (.slice ka kn kc) := Mw1.out.cell 0 5 rfl rfl
  have q1_0 : w1.cell? ⟨w.heap.size + 1, 0, none⟩ = some (.int .u8 (q.op : Int)) := Mw1.out.cell 1 0 rfl rfl
  have q1_1 : w1.cell? ⟨w.heap.size + 1, 1, none⟩ = some (.int .u32 (q.field : Int)) := Mw1.out.cell 1 1 rfl rfl
  have q1_2 : w1.cell? ⟨w.heap.size + 1, 2, none⟩ = some (.int .u8 q.value.kind) := Mw1.out.cell 1 2 rfl rfl
  have q1_3 : w1.cell? ⟨w.heap.size + 1, 3, none⟩ = some (.int .i64 q.value.n) := Mw1.out.cell 1 3 rfl rfl
  have q1_4 : w1.cell? ⟨w.heap.size + 1, 4, none⟩ = some (.string q.value.s) := Mw1.out.cell 1 4 rfl rfl
  have q1_5 : w1.cell? ⟨w.heap.size + 1, 5, none⟩ = some (.slice ja jn jc) := Mw1.out.cell 1 5 rfl rfl
  have q2_0 : w1.cell? ⟨w.heap.size + 1 + 1, 0, none⟩ = some (.int .u32 (s.id : Int)) := Mw1.out.cell 2 0 rfl rfl
  have q2_1 : w1.cell? ⟨w.heap.size + 1 + 1, 1, none⟩ = some (.slice fa fnn fc) := Mw1.out.cell 2 1 rfl rfl
  have z0 : w.heap.size < w1.heap.size := Mw1.out.lt 0 (by simp)
  have z1 : w.heap.size + 1 < w1.heap.size := Mw1.out.lt 1 (by simp)
  have z2 : w.heap.size + 1 + 1 < w1.heap.size := Mw1.out.lt 2 (by simp)
  go_wp2_with fail
  refine (HG.out d p _ _ (PredR.stable d _ _ _ _ Mw1.out.below HP.out)).mono ?_
  rintro e w1 ⟨hg1, hb⟩
  clear q0_0 q0_1 q0_2 q0_3 q0_4 q0_5 q1_0 q1_1 q1_2 q1_3 q1_4 q1_5 q2_0 q2_1 z0 z1 z2
  have hm : Mem w.heap.size [#[.int .u8 (p.op : Int), .int .u32 (p.field : Int), .int .u8 p.value.kind, .int .i64 p.value.n, .string p.value.s, .slice ka kn kc], #[.int .u8 (q.op : Int), .int .u32 (q.field : Int), .int .u8 q.value.kind, .int .i64 q.value.n, .string q.value.s, .slice ja jn jc], #[.int .u32 (s.id : Int), .slice fa fnn fc]] w w1 := Mw1.out.call hb
  have Mw1 := Lib.hid hm
  clear hm
  clear hb
  rcases hg1 with rfl | ⟨rfl, _⟩
  · have q0_0 : w1.cell? ⟨w.heap.size, 0, none⟩ = some (.int .u8 (p.op : Int)) := Mw1.out.cell 0 0 rfl rfl
    have q0_1 : w1.cell? ⟨w.heap.size, 1, none⟩ = some (.int .u32 (p.field : Int)) := Mw1.out.cell 0 1 rfl rfl
    have q0_2 : w1.cell? ⟨w.heap.size, 2, none⟩ = some (.int .u8 p.value.kind) := Mw1.out.cell 0 2 rfl rfl
    have q0_3 : w1.cell? ⟨w.heap.size, 3, none⟩ = some (.int .i64 p.value.n) := Mw1.out.cell 0 3 rfl rfl
    have q0_4 : w1.cell? ⟨w.heap.size, 4, none⟩ = some (.string p.value.s) := Mw1.out.cell 0 4 rfl rfl
    have q0_5 : w1.cell? ⟨w.heap.size, 5, none⟩ = some (.slice ka kn kc) := Mw1.out.cell 0 5 rfl rfl
    have q1_0 : w1.cell? ⟨w.heap.size + 1, 0, none⟩ = some (.int .u8 (q.op : Int)) := Mw1.out.cell 1 0 rfl rfl
    have q1_1 : w1.cell? ⟨w.heap.size + 1, 1, none⟩ = some (.int .u32 (q.field : Int)) := Mw1.out.cell 1 1 rfl rfl
    have q1_2 : w1.cell? ⟨w.heap.size + 1, 2, none⟩ = some (.int .u8 q.value.kind) := Mw1.out.cell 1 2 rfl rfl
    have q1_3 : w1.cell? ⟨w.heap.size + 1, 3, none⟩ = some (.int .i64 q.value.n) := Mw1.out.cell 1 3 rfl rfl
    have q1_4 : w1.cell? ⟨w.heap.size + 1, 4, none⟩ = some (.string q.value.s) := Mw1.out.cell 1 4 rfl rfl
    have q1_5 : w1.cell? ⟨w.heap.size + 1, 5, none⟩ = some (.slice ja jn jc) := Mw1.out.cell 1 5 rfl rfl
    have q2_0 : w1.cell? ⟨w.heap.size + 1 + 1, 0, none⟩ = some (.int .u32 (s.id : Int)) := Mw1.out.cell 2 0 rfl rfl
    have q2_1 : w1.cell? ⟨w.heap.size + 1 + 1, 1, none⟩ = some (.slice fa fnn fc) := Mw1.out.cell 2 1 rfl rfl
    have z0 : w.heap.size < w1.heap.size := Mw1.out.lt 0 (by simp)
    have z1 : w.heap.size + 1 < w1.heap.size := Mw1.out.lt 1 (by simp)
    have z2 : w.heap.size + 1 + 1 < w1.heap.size := Mw1.out.lt 2 (by simp)
    go_wp2
    go_ret
    exact ⟨rfl, Mw1.out.below⟩
  · have q0_0 : w1.cell? ⟨w.heap.size, 0, none⟩ = some (.int .u8 (p.op : Int)) := Mw1.out.cell 0 0 rfl rfl
    have q0_1 : w1.cell? ⟨w.heap.size, 1, none⟩ = some (.int .u32 (p.field : Int)) := Mw1.out.cell 0 1 rfl rfl
    have q0_2 : w1.cell? ⟨w.heap.size, 2, none⟩ = some (.int .u8 p.value.kind) := Mw1.out.cell 0 2 rfl rfl
    have q0_3 : w1.cell? ⟨w.heap.size, 3, none⟩ = some (.int .i64 p.value.n) := Mw1.out.cell 0 3 rfl rfl
    have q0_4 : w1.cell? ⟨w.heap.size, 4, none⟩ = some (.string p.value.s) := Mw1.out.cell 0 4 rfl rfl
    have q0_5 : w1.cell? ⟨w.heap.size, 5, none⟩ = some (.slice ka kn kc) := Mw1.out.cell 0 5 rfl rfl
    have q1_0 : w1.cell? ⟨w.heap.size + 1, 0, none⟩ = some (.int .u8 (q.op : Int)) := Mw1.out.cell 1 0 rfl rfl
    have q1_1 : w1.cell? ⟨w.heap.size + 1, 1, none⟩ = some (.int .u32 (q.field : Int)) := Mw1.out.cell 1 1 rfl rfl
    have q1_2 : w1.cell? ⟨w.heap.size + 1, 2, none⟩ = some (.int .u8 q.value.kind) := Mw1.out.cell 1 2 rfl rfl
    have q1_3 : w1.cell? ⟨w.heap.size + 1, 3, none⟩ = some (.int .i64 q.value.n) := Mw1.out.cell 1 3 rfl rfl
    have q1_4 : w1.cell? ⟨w.heap.size + 1, 4, none⟩ = some (.string q.value.s) := Mw1.out.cell 1 4 rfl rfl
    have q1_5 : w1.cell? ⟨w.heap.size + 1, 5, none⟩ = some (.slice ja jn jc) := Mw1.out.cell 1 5 rfl rfl
    have q2_0 : w1.cell? ⟨w.heap.size + 1 + 1, 0, none⟩ = some (.int .u32 (s.id : Int)) := Mw1.out.cell 2 0 rfl rfl
    have q2_1 : w1.cell? ⟨w.heap.size + 1 + 1, 1, none⟩ = some (.slice fa fnn fc) := Mw1.out.cell 2 1 rfl rfl
    have z0 : w.heap.size < w1.heap.size := Mw1.out.lt 0 (by simp)
    have z1 : w.heap.size + 1 < w1.heap.size := Mw1.out.lt 1 (by simp)
    have z2 : w.heap.size + 1 + 1 < w1.heap.size := Mw1.out.lt 2 (by simp)
    go_wp2_with fail
    refine (HG.out d q _ _ (PredR.stable d _ _ _ _ Mw1.out.below HQ.out)).mono ?_
    rintro e w3 ⟨hg2, hb⟩
    clear q0_0 q0_1 q0_2 q0_3 q0_4 q0_5 q1_0 q1_1 q1_2 q1_3 q1_4 q1_5 q2_0 q2_1 z0 z1 z2
    have hm : Mem w.heap.size [#[.int .u8 (p.op : Int), .int .u32 (p.field : Int), .int .u8 p.value.kind, .int .i64 p.value.n, .string p.value.s, .slice ka kn kc], #[.int .u8 (q.op : Int), .int .u32 (q.field : Int), .int .u8 q.value.kind, .int .i64 q.value.n, .string q.value.s, .slice ja jn jc], #[.int .u32 (s.id : Int), .slice fa fnn fc]] w w3 := Mw1.out.call hb
    have Mw3 := Lib.hid hm
    clear hm
    clear hb
    rcases hg2 with rfl | ⟨rfl, _⟩
    · have q0_0 : w3.cell? ⟨w.heap.size, 0, none⟩ = some (.int .u8 (p.op : Int)) := Mw3.out.cell 0 0 rfl rfl
      have q0_1 : w3.cell? ⟨w.heap.size, 1, none⟩ = some (.int .u32 (p.field : Int)) := Mw3.out.cell 0 1 rfl rfl
      have q0_2 : w3.cell? ⟨w.heap.size, 2, none⟩ = some (.int .u8 p.value.kind) := Mw3.out.cell 0 2 rfl rfl
      have q0_3 : w3.cell? ⟨w.heap.size, 3, none⟩ = some (.int .i64 p.value.n) := Mw3.out.cell 0 3 rfl rfl
      have q0_4 : w3.cell? ⟨w.heap.size, 4, none⟩ = some (.string p.value.s) := Mw3.out.cell 0 4 rfl rfl
      have q0_5 : w3.cell? ⟨w.heap.size, 5, none⟩ = some (.slice ka kn kc) := Mw3.out.cell 0 5 rfl rfl
      have q1_0 : w3.cell? ⟨w.heap.size + 1, 0, none⟩ = some (.int .u8 (q.op : Int)) := Mw3.out.cell 1 0 rfl rfl
      have q1_1 : w3.cell? ⟨w.heap.size + 1, 1, none⟩ = some (.int .u32 (q.field : Int)) := Mw3.out.cell 1 1 rfl rfl
      have q1_2 : w3.cell? ⟨w.heap.size + 1, 2, none⟩ = some (.int .u8 q.value.kind) := Mw3.out.cell 1 2 rfl rfl
      have q1_3 : w3.cell? ⟨w.heap.size + 1, 3, none⟩ = some (.int .i64 q.value.n) := Mw3.out.cell 1 3 rfl rfl
      have q1_4 : w3.cell? ⟨w.heap.size + 1, 4, none⟩ = some (.string q.value.s) := Mw3.out.cell 1 4 rfl rfl
      have q1_5 : w3.cell? ⟨w.heap.size + 1, 5, none⟩ = some (.slice ja jn jc) := Mw3.out.cell 1 5 rfl rfl
      have q2_0 : w3.cell? ⟨w.heap.size + 1 + 1, 0, none⟩ = some (.int .u32 (s.id : Int)) := Mw3.out.cell 2 0 rfl rfl
      have q2_1 : w3.cell? ⟨w.heap.size + 1 + 1, 1, none⟩ = some (.slice fa fnn fc) := Mw3.out.cell 2 1 rfl rfl
      have z0 : w.heap.size < w3.heap.size := Mw3.out.lt 0 (by simp)
      have z1 : w.heap.size + 1 < w3.heap.size := Mw3.out.lt 1 (by simp)
      have z2 : w.heap.size + 1 + 1 < w3.heap.size := Mw3.out.lt 2 (by simp)
      go_wp2
      go_ret
      exact ⟨rfl, Mw3.out.below⟩
    · have q0_0 : w3.cell? ⟨w.heap.size, 0, none⟩ = some (.int .u8 (p.op : Int)) := Mw3.out.cell 0 0 rfl rfl
      have q0_1 : w3.cell? ⟨w.heap.size, 1, none⟩ = some (.int .u32 (p.field : Int)) := Mw3.out.cell 0 1 rfl rfl
      have q0_2 : w3.cell? ⟨w.heap.size, 2, none⟩ = some (.int .u8 p.value.kind) := Mw3.out.cell 0 2 rfl rfl
      have q0_3 : w3.cell? ⟨w.heap.size, 3, none⟩ = some (.int .i64 p.value.n) := Mw3.out.cell 0 3 rfl rfl
      have q0_4 : w3.cell? ⟨w.heap.size, 4, none⟩ = some (.string p.value.s) := Mw3.out.cell 0 4 rfl rfl
      have q0_5 : w3.cell? ⟨w.heap.size, 5, none⟩ = some (.slice ka kn kc) := Mw3.out.cell 0 5 rfl rfl
      have q1_0 : w3.cell? ⟨w.heap.size + 1, 0, none⟩ = some (.int .u8 (q.op : Int)) := Mw3.out.cell 1 0 rfl rfl
      have q1_1 : w3.cell? ⟨w.heap.size + 1, 1, none⟩ = some (.int .u32 (q.field : Int)) := Mw3.out.cell 1 1 rfl rfl
      have q1_2 : w3.cell? ⟨w.heap.size + 1, 2, none⟩ = some (.int .u8 q.value.kind) := Mw3.out.cell 1 2 rfl rfl
      have q1_3 : w3.cell? ⟨w.heap.size + 1, 3, none⟩ = some (.int .i64 q.value.n) := Mw3.out.cell 1 3 rfl rfl
      have q1_4 : w3.cell? ⟨w.heap.size + 1, 4, none⟩ = some (.string q.value.s) := Mw3.out.cell 1 4 rfl rfl
      have q1_5 : w3.cell? ⟨w.heap.size + 1, 5, none⟩ = some (.slice ja jn jc) := Mw3.out.cell 1 5 rfl rfl
      have q2_0 : w3.cell? ⟨w.heap.size + 1 + 1, 0, none⟩ = some (.int .u32 (s.id : Int)) := Mw3.out.cell 2 0 rfl rfl
      have q2_1 : w3.cell? ⟨w.heap.size + 1 + 1, 1, none⟩ = some (.slice fa fnn fc) := Mw3.out.cell 2 1 rfl rfl
      have z0 : w.heap.size < w3.heap.size := Mw3.out.lt 0 (by simp)
      have z1 : w.heap.size + 1 < w3.heap.size := Mw3.out.lt 1 (by simp)
      have z2 : w.heap.size + 1 + 1 < w3.heap.size := Mw3.out.lt 2 (by simp)
      go_wp2_with fail
      refine (HG8.out _ s _ (SchemaR.stable _ _ _ _ Mw3.out.below HSC.out)).mono ?_
      rintro e w4 ⟨b8, rfl, hb, hg8⟩
      clear q0_0 q0_1 q0_2 q0_3 q0_4 q0_5 q1_0 q1_1 q1_2 q1_3 q1_4 q1_5 q2_0 q2_1 z0 z1 z2
      have hm : Mem w.heap.size [#[.int .u8 (p.op : Int), .int .u32 (p.field : Int), .int .u8 p.value.kind, .int .i64 p.value.n, .string p.value.s, .slice ka kn kc], #[.int .u8 (q.op : Int), .int .u32 (q.field : Int), .int .u8 q.value.kind, .int .i64 q.value.n, .string q.value.s, .slice ja jn jc], #[.int .u32 (s.id : Int), .slice fa fnn fc]] w w4 := Mw3.out.call hb
      have Mw4 := Lib.hid hm
      clear hm
      clear hb
      cases b8
      · have HF8 := Lib.hid (hg8 rfl)
        clear hg8
        have q0_0 : w4.cell? ⟨w.heap.size, 0, none⟩ = some (.int .u8 (p.op : Int)) := Mw4.out.cell 0 0 rfl rfl
        have q0_1 : w4.cell? ⟨w.heap.size, 1, none⟩ = some (.int .u32 (p.field : Int)) := Mw4.out.cell 0 1 rfl rfl
        have q0_2 : w4.cell? ⟨w.heap.size, 2, none⟩ = some (.int .u8 p.value.kind) := Mw4.out.cell 0 2 rfl rfl
        have q0_3 : w4.cell? ⟨w.heap.size, 3, none⟩ = some (.int .i64 p.value.n) := Mw4.out.cell 0 3 rfl rfl
        have q0_4 : w4.cell? ⟨w.heap.size, 4, none⟩ = some (.string p.value.s) := Mw4.out.cell 0 4 rfl rfl
        have q0_5 : w4.cell? ⟨w.heap.size, 5, none⟩ = some (.slice ka kn kc) := Mw4.out.cell 0 5 rfl rfl
        have q1_0 : w4.cell? ⟨w.heap.size + 1, 0, none⟩ = some (.int .u8 (q.op : Int)) := Mw4.out.cell 1 0 rfl rfl
        have q1_1 : w4.cell? ⟨w.heap.size + 1, 1, none⟩ = some (.int .u32 (q.field : Int)) := Mw4.out.cell 1 1 rfl rfl
        have q1_2 : w4.cell? ⟨w.heap.size + 1, 2, none⟩ = some (.int .u8 q.value.kind) := Mw4.out.cell 1 2 rfl rfl
        have q1_3 : w4.cell? ⟨w.heap.size + 1, 3, none⟩ = some (.int .i64 q.value.n) := Mw4.out.cell 1 3 rfl rfl
        have q1_4 : w4.cell? ⟨w.heap.size + 1, 4, none⟩ = some (.string q.value.s) := Mw4.out.cell 1 4 rfl rfl
        have q1_5 : w4.cell? ⟨w.heap.size + 1, 5, none⟩ = some (.slice ja jn jc) := Mw4.out.cell 1 5 rfl rfl
        have q2_0 : w4.cell? ⟨w.heap.size + 1 + 1, 0, none⟩ = some (.int .u32 (s.id : Int)) := Mw4.out.cell 2 0 rfl rfl
        have q2_1 : w4.cell? ⟨w.heap.size + 1 + 1, 1, none⟩ = some (.slice fa fnn fc) := Mw4.out.cell 2 1 rfl rfl
        have z0 : w.heap.size < w4.heap.size := Mw4.out.lt 0 (by simp)
        have z1 : w.heap.size + 1 < w4.heap.size := Mw4.out.lt 1 (by simp)
        have z2 : w.heap.size + 1 + 1 < w4.heap.size := Mw4.out.lt 2 (by simp)
        by_cases hn : n ≤ 100
        · have hni : (n : Int) ≤ 100 := by omega
          by_cases htn : tn ≤ 100
          · have htni : (tn : Int) ≤ 100 := by omega
            have hrow := fun W (hb : Below w.heap.size w W) => row_calls a n c xs W (HXS.out.below CellR.stable hb) (by omega)
            have HROW := Lib.hid hrow
            clear hrow
            go_wp2_with fail
            refine (HROW.out _ Mw4.out.below).mono ?_
            rintro e w5 ⟨v5, rfl, hown5, hb⟩
            clear q0_0 q0_1 q0_2 q0_3 q0_4 q0_5 q1_0 q1_1 q1_2 q1_3 q1_4 q1_5 q2_0 q2_1 z0 z1 z2
            have hm : Mem w.heap.size [#[.int .u8 (p.op : Int), .int .u32 (p.field : Int), .int .u8 p.value.kind, .int .i64 p.value.n, .string p.value.s, .slice ka kn kc], #[.int .u8 (q.op : Int), .int .u32 (q.field : Int), .int .u8 q.value.kind, .int .i64 q.value.n, .string q.value.s, .slice ja jn jc], #[.int .u32 (s.id : Int), .slice fa fnn fc]] w w5 := Mw4.out.call hb
            have Mw5 := Lib.hid hm
            clear hm
            clear hb
            obtain ⟨ra, rc, rfl, hsl5⟩ := row_sl hown5
            have HR5 := Lib.hid hsl5
            clear hown5 hsl5
            have q0_0 : w5.cell? ⟨w.heap.size, 0, none⟩ = some (.int .u8 (p.op : Int)) := Mw5.out.cell 0 0 rfl rfl
            have q0_1 : w5.cell? ⟨w.heap.size, 1, none⟩ = some (.int .u32 (p.field : Int)) := Mw5.out.cell 0 1 rfl rfl
            have q0_2 : w5.cell? ⟨w.heap.size, 2, none⟩ = some (.int .u8 p.value.kind) := Mw5.out.cell 0 2 rfl rfl
            have q0_3 : w5.cell? ⟨w.heap.size, 3, none⟩ = some (.int .i64 p.value.n) := Mw5.out.cell 0 3 rfl rfl
            have q0_4 : w5.cell? ⟨w.heap.size, 4, none⟩ = some (.string p.value.s) := Mw5.out.cell 0 4 rfl rfl
            have q0_5 : w5.cell? ⟨w.heap.size, 5, none⟩ = some (.slice ka kn kc) := Mw5.out.cell 0 5 rfl rfl
            have q1_0 : w5.cell? ⟨w.heap.size + 1, 0, none⟩ = some (.int .u8 (q.op : Int)) := Mw5.out.cell 1 0 rfl rfl
            have q1_1 : w5.cell? ⟨w.heap.size + 1, 1, none⟩ = some (.int .u32 (q.field : Int)) := Mw5.out.cell 1 1 rfl rfl
            have q1_2 : w5.cell? ⟨w.heap.size + 1, 2, none⟩ = some (.int .u8 q.value.kind) := Mw5.out.cell 1 2 rfl rfl
            have q1_3 : w5.cell? ⟨w.heap.size + 1, 3, none⟩ = some (.int .i64 q.value.n) := Mw5.out.cell 1 3 rfl rfl
            have q1_4 : w5.cell? ⟨w.heap.size + 1, 4, none⟩ = some (.string q.value.s) := Mw5.out.cell 1 4 rfl rfl
            have q1_5 : w5.cell? ⟨w.heap.size + 1, 5, none⟩ = some (.slice ja jn jc) := Mw5.out.cell 1 5 rfl rfl
            have q2_0 : w5.cell? ⟨w.heap.size + 1 + 1, 0, none⟩ = some (.int .u32 (s.id : Int)) := Mw5.out.cell 2 0 rfl rfl
            have q2_1 : w5.cell? ⟨w.heap.size + 1 + 1, 1, none⟩ = some (.slice fa fnn fc) := Mw5.out.cell 2 1 rfl rfl
            have z0 : w.heap.size < w5.heap.size := Mw5.out.lt 0 (by simp)
            have z1 : w.heap.size + 1 < w5.heap.size := Mw5.out.lt 1 (by simp)
            have z2 : w.heap.size + 1 + 1 < w5.heap.size := Mw5.out.lt 2 (by simp)
            go_upto_region 7 with (fail)
            obtain ⟨W5, hWW⟩ : ∃ W : World, W = (((w5.alloc (.cells #[.int .u8 (p.op : Int), .int .u32 (p.field : Int), .int .u8 p.value.kind, .int .i64 p.value.n, .string p.value.s, .slice ka kn kc, .int .u8 (q.op : Int), .int .u32 (q.field : Int), .int .u8 q.value.kind, .int .i64 q.value.n, .string q.value.s, .slice ja jn jc] 39)).alloc (.cells #[.int .u8 6, .int .u32 0, .int .u8 0, .int .i64 0, .string ⟨#[]⟩, .slice (some ⟨w5.heap.size, 0, none⟩) 2 2] 39)).alloc (.cells #[.int .u8 8, .int .u32 0, .int .u8 0, .int .i64 0, .string ⟨#[]⟩, .slice (some ⟨w5.heap.size + 1, 0, none⟩) 1 1] 39)) := ⟨_, rfl⟩
            have hb6 : Below w5.heap.size w5 W5 := by rw [hWW]; exact (((Below.refl _ _).alloc (by first | exact Nat.le_refl _ | (simp; done) | (simp; omega)) _).alloc (by first | exact Nat.le_refl _ | (simp; done) | (simp; omega)) _).alloc (by first | exact Nat.le_refl _ | (simp; done) | (simp; omega)) _
            have hx0 : Box W5 (w5.heap.size) #[.int .u8 (p.op : Int), .int .u32 (p.field : Int), .int .u8 p.value.kind, .int .i64 p.value.n, .string p.value.s, .slice ka kn kc, .int .u8 (q.op : Int), .int .u32 (q.field : Int), .int .u8 q.value.kind, .int .i64 q.value.n, .string q.value.s, .slice ja jn jc] := by rw [hWW]; exact ((Box.at_ _ _ _ _ (by simp)).alloc _).alloc _
            have hx1 : Box W5 (w5.heap.size + 1) #[.int .u8 6, .int .u32 0, .int .u8 0, .int .i64 0, .string ⟨#[]⟩, .slice (some ⟨w5.heap.size, 0, none⟩) 2 2] := by rw [hWW]; exact (Box.at_ _ _ _ _ (by simp)).alloc _
            have hx2 : Box W5 (w5.heap.size + 1 + 1) #[.int .u8 8, .int .u32 0, .int .u8 0, .int .i64 0, .string ⟨#[]⟩, .slice (some ⟨w5.heap.size + 1, 0, none⟩) 1 1] := by rw [hWW]; exact Box.at_ _ _ _ _ (by simp)
            rw [← hWW]
            clear hWW
            clear q0_0 q0_1 q0_2 q0_3 q0_4 q0_5 q1_0 q1_1 q1_2 q1_3 q1_4 q1_5 q2_0 q2_1 z0 z1 z2
            have MW5 := Lib.hid (Mw5.out.call hb6)
            have HRW5 := Lib.hid (HR5.out.below ValR.stable hb6)
            have HX0_W5 := Lib.hid hx0
            clear hx0
            have HX1_W5 := Lib.hid hx1
            clear hx1
            have HX2_W5 := Lib.hid hx2
            clear hx2
            clear hb6
            have q0_0 : W5.cell? ⟨w.heap.size, 0, none⟩ = some (.int .u8 (p.op : Int)) := MW5.out.cell 0 0 rfl rfl
            have q0_1 : W5.cell? ⟨w.heap.size, 1, none⟩ = some (.int .u32 (p.field : Int)) := MW5.out.cell 0 1 rfl rfl
            have q0_2 : W5.cell? ⟨w.heap.size, 2, none⟩ = some (.int .u8 p.value.kind) := MW5.out.cell 0 2 rfl rfl
            have q0_3 : W5.cell? ⟨w.heap.size, 3, none⟩ = some (.int .i64 p.value.n) := MW5.out.cell 0 3 rfl rfl
            have q0_4 : W5.cell? ⟨w.heap.size, 4, none⟩ = some (.string p.value.s) := MW5.out.cell 0 4 rfl rfl
            have q0_5 : W5.cell? ⟨w.heap.size, 5, none⟩ = some (.slice ka kn kc) := MW5.out.cell 0 5 rfl rfl
            have q1_0 : W5.cell? ⟨w.heap.size + 1, 0, none⟩ = some (.int .u8 (q.op : Int)) := MW5.out.cell 1 0 rfl rfl
            have q1_1 : W5.cell? ⟨w.heap.size + 1, 1, none⟩ = some (.int .u32 (q.field : Int)) := MW5.out.cell 1 1 rfl rfl
            have q1_2 : W5.cell? ⟨w.heap.size + 1, 2, none⟩ = some (.int .u8 q.value.kind) := MW5.out.cell 1 2 rfl rfl
            have q1_3 : W5.cell? ⟨w.heap.size + 1, 3, none⟩ = some (.int .i64 q.value.n) := MW5.out.cell 1 3 rfl rfl
            have q1_4 : W5.cell? ⟨w.heap.size + 1, 4, none⟩ = some (.string q.value.s) := MW5.out.cell 1 4 rfl rfl
            have q1_5 : W5.cell? ⟨w.heap.size + 1, 5, none⟩ = some (.slice ja jn jc) := MW5.out.cell 1 5 rfl rfl
            have q2_0 : W5.cell? ⟨w.heap.size + 1 + 1, 0, none⟩ = some (.int .u32 (s.id : Int)) := MW5.out.cell 2 0 rfl rfl
            have q2_1 : W5.cell? ⟨w.heap.size + 1 + 1, 1, none⟩ = some (.slice fa fnn fc) := MW5.out.cell 2 1 rfl rfl
            have z0 : w.heap.size < W5.heap.size := MW5.out.lt 0 (by simp)
            have z1 : w.heap.size + 1 < W5.heap.size := MW5.out.lt 1 (by simp)
            have z2 : w.heap.size + 1 + 1 < W5.heap.size := MW5.out.lt 2 (by simp)
            go_wp2
            obtain ⟨W6, hWW⟩ : ∃ W : World, W = ((((W5.alloc (.cells #[.int .u8 (p.op : Int), .int .u32 (p.field : Int), .int .u8 p.value.kind, .int .i64 p.value.n, .string p.value.s, .slice ka kn kc] 39)).alloc (.cells #[.int .u8 (q.op : Int), .int .u32 (q.field : Int), .int .u8 q.value.kind, .int .i64 q.value.n, .string q.value.s, .slice ja jn jc] 39)).alloc (.cells #[.int .u8 8, .int .u32 0, .int .u8 0, .int .i64 0, .string ⟨#[]⟩, .slice (some ⟨W5.heap.size, 0, none⟩) 1 1, .int .u8 8, .int .u32 0, .int .u8 0, .int .i64 0, .string ⟨#[]⟩, .slice (some ⟨W5.heap.size + 1, 0, none⟩) 1 1] 39)).alloc (.cells #[.int .u8 7, .int .u32 0, .int .u8 0, .int .i64 0, .string ⟨#[]⟩, .slice (some ⟨W5.heap.size + 1 + 1, 0, none⟩) 2 2] 39)) := ⟨_, rfl⟩
            have hb6 : Below W5.heap.size W5 W6 := by rw [hWW]; exact ((((Below.refl _ _).alloc (by first | exact Nat.le_refl _ | (simp; done) | (simp; omega)) _).alloc (by first | exact Nat.le_refl _ | (simp; done) | (simp; omega)) _).alloc (by first | exact Nat.le_refl _ | (simp; done) | (simp; omega)) _).alloc (by first | exact Nat.le_refl _ | (simp; done) | (simp; omega)) _
            have hx3 : Box W6 (W5.heap.size) #[.int .u8 (p.op : Int), .int .u32 (p.field : Int), .int .u8 p.value.kind, .int .i64 p.value.n, .string p.value.s, .slice ka kn kc] := by rw [hWW]; exact (((Box.at_ _ _ _ _ (by simp)).alloc _).alloc _).alloc _
            have hx4 : Box W6 (W5.heap.size + 1) #[.int .u8 (q.op : Int), .int .u32 (q.field : Int), .int .u8 q.value.kind, .int .i64 q.value.n, .string q.value.s, .slice ja jn jc] := by rw [hWW]; exact ((Box.at_ _ _ _ _ (by simp)).alloc _).alloc _
            have hx5 : Box W6 (W5.heap.size + 1 + 1) #[.int .u8 8, .int .u32 0, .int .u8 0, .int .i64 0, .string ⟨#[]⟩, .slice (some ⟨W5.heap.size, 0, none⟩) 1 1, .int .u8 8, .int .u32 0, .int .u8 0, .int .i64 0, .string ⟨#[]⟩, .slice (some ⟨W5.heap.size + 1, 0, none⟩) 1 1] := by rw [hWW]; exact (Box.at_ _ _ _ _ (by simp)).alloc _
            have hx6 : Box W6 (W5.heap.size + 1 + 1 + 1) #[.int .u8 7, .int .u32 0, .int .u8 0, .int .i64 0, .string ⟨#[]⟩, .slice (some ⟨W5.heap.size + 1 + 1, 0, none⟩) 2 2] := by rw [hWW]; exact Box.at_ _ _ _ _ (by simp)
            rw [← hWW]
            clear hWW
            clear q0_0 q0_1 q0_2 q0_3 q0_4 q0_5 q1_0 q1_1 q1_2 q1_3 q1_4 q1_5 q2_0 q2_1 z0 z1 z2
            have MW6 := Lib.hid (MW5.out.call hb6)
            have HRW6 := Lib.hid (HRW5.out.below ValR.stable hb6)
            have HX0_W6 := Lib.hid (HX0_W5.out.call hb6)
            have HX1_W6 := Lib.hid (HX1_W5.out.call hb6)
            have HX2_W6 := Lib.hid (HX2_W5.out.call hb6)
            have HX3_W6 := Lib.hid hx3
            clear hx3
            have HX4_W6 := Lib.hid hx4
            clear hx4
            have HX5_W6 := Lib.hid hx5
            clear hx5
            have HX6_W6 := Lib.hid hx6
            clear hx6
            clear hb6
            have M6 := Lib.hid MW6.out
            have HR6 := Lib.hid HRW6.out
            have hpa := PredR.stable d _ _ _ _ M6.out.below HP.out
            have hpb := PredR.stable d _ _ _ _ M6.out.below HQ.out
            have hand := pred_node d 6 _ 2 W6 [p, q] (by decide) (by decide) (sl_two (cs := [.int .u8 (p.op : Int), .int .u32 (p.field : Int), .int .u8 p.value.kind, .int .i64 p.value.n, .string p.value.s, .slice ka kn kc]) (es := [.int .u8 (q.op : Int), .int .u32 (q.field : Int), .int .u8 q.value.kind, .int .i64 q.value.n, .string q.value.s, .slice ja jn jc]) rfl rfl hpa hpb HX0_W6.out)
            have hboth : PredR (d + 2) W6 _ (bothP p q) := pred_node (d + 1) 8 _ 1 W6 _ (by decide) (by decide) (sl_one (cs := [.int .u8 6, .int .u32 0, .int .u8 0, .int .i64 0, .string ⟨#[]⟩, .slice (some ⟨w5.heap.size, 0, none⟩) 2 2]) rfl hand HX1_W6.out)
            have hna := pred_node d 8 _ 1 W6 [p] (by decide) (by decide) (sl_one (cs := [.int .u8 (p.op : Int), .int .u32 (p.field : Int), .int .u8 p.value.kind, .int .i64 p.value.n, .string p.value.s, .slice ka kn kc]) rfl hpa HX3_W6.out)
            have hnb := pred_node d 8 _ 1 W6 [q] (by decide) (by decide) (sl_one (cs := [.int .u8 (q.op : Int), .int .u32 (q.field : Int), .int .u8 q.value.kind, .int .i64 q.value.n, .string q.value.s, .slice ja jn jc]) rfl hpb HX4_W6.out)
            have hnots : PredR (d + 2) W6 _ (notsP p q) := pred_node (d + 1) 7 _ 2 W6 _ (by decide) (by decide) (sl_two (cs := [.int .u8 8, .int .u32 0, .int .u8 0, .int .i64 0, .string ⟨#[]⟩, .slice (some ⟨W5.heap.size, 0, none⟩) 1 1]) (es := [.int .u8 8, .int .u32 0, .int .u8 0, .int .i64 0, .string ⟨#[]⟩, .slice (some ⟨W5.heap.size + 1, 0, none⟩) 1 1]) rfl rfl hna hnb HX5_W6.out)
            have HBO := Lib.hid hboth
            have HNO := Lib.hid hnots
            have HX2 := Lib.hid HX2_W6.out
            have HX6 := Lib.hid HX6_W6.out
            clear hpa hpb hand hboth hna hnb hnots
            go_loopw [14] (fun i wr => ∃ k : Nat, k ≤ tn ∧ i = .int .i64 (k : Int) ∧ wr = W6) (fun i _ => tn - (intOf i).toNat)
            case atStart => exact ⟨0, Nat.zero_le _, rfl, rfl⟩
            case round =>
              obtain ⟨k, hk, rfl, rfl⟩ := hrel
              have hki : (0 : Int) ≤ (k : Int) := by omega
              by_cases hlt : k < tn
              · have hkm : (k : Int) < (tn : Int) := by omega
                obtain ⟨b, off, st, cs, rfl, hbl, hx, hcl, hr, hcell⟩ := HST.out.at_ hlt
                obtain ⟨rfl, _, _, ⟨hs1, _⟩, ⟨hs2, _⟩⟩ := hr
                have d6 := M6.out.old (p := ⟨b, off + k * 10 + 6, none⟩) hbl (hcell 6 _ rfl)
                have d9 := M6.out.old (p := ⟨b, off + k * 10 + 9, none⟩) hbl (hcell 9 _ rfl)
                have d6' : wr.cell? ⟨b, off + k * 10 + 4 + 2, none⟩ = some (.string st.min.s) := d6
                have d9' : wr.cell? ⟨b, off + k * 10 + 7 + 2, none⟩ = some (.string st.max.s) := d9
                have hs3 : st.min.s.size ≤ 9223372036854775807 := by unfold maxLen at hs1; omega
                have hs4 : st.max.s.size ≤ 9223372036854775807 := by unfold maxLen at hs2; omega
                clear hcell hx hcl hs1 hs2
                by_cases h1 : 1000 < st.min.s.size
                · have h1i : (1000 : Int) < (st.min.s.size : Int) := by omega
                  go_wp2
                  go_ret
                  exact ⟨rfl, M6.out.below⟩
                · have h1i : (st.min.s.size : Int) ≤ 1000 := by omega
                  by_cases h2 : 1000 < st.max.s.size
                  · have h2i : (1000 : Int) < (st.max.s.size : Int) := by omega
                    go_wp2
                    go_ret
                    exact ⟨rfl, M6.out.below⟩
                  · have h2i : (st.max.s.size : Int) ≤ 1000 := by omega
                    go_wp2
                    go_roundw
                    case rel => exact ⟨k + 1, by omega, by go_num, trivial⟩
                    case measure => simp [intOf] <;> omega
              · go_wp2_with fail
                have hsz : ∀ v ∈ xs.map goodVal, v.cell.s.size ≤ 100000 := by
                  intro v hv
                  obtain ⟨x, hx, rfl⟩ := List.mem_map.1 hv
                  rw [good_cell x (HALL.out x hx).2.1.1]
                  have := fix_size x; omega
                have hfl : s.fields.length ≤ 1000 := by have := HF8.out.1; omega
                have hev : ∀ (G : Kept wr) (cs : List Value) (r : PredD), PredR (d + 2) wr cs r → Calls Try.prog 18 #[.agg cs.toArray, .agg #[.int .u32 (s.id : Int), .slice fa fnn fc], .slice ra n rc] G.W (ValIs (.int .u8 (evalN s.fields ((xs.map goodVal).map ValD.cell) (d + 2) r : Nat)) G.W) := fun G cs r hr =>
                  eval_all (d + 2) r cs s _ ra n rc _ G.W (PredR.stable _ _ _ _ _ (G.h.mono (Nat.le_refl _)) hr) (SchemaR.stable _ _ _ _ ((M6.out.call G.h).below) HSC.out) hfl (HR6.out.below ValR.stable G.h) (by omega) hsz
                have hmy : ∀ (G : Kept wr) (cs : List Value) (r : PredD), PredR (d + 2) wr cs r → Calls Try.prog 17 #[.agg cs.toArray, .agg #[.int .u32 (s.id : Int), .slice fa fnn fc], .slice ta tn tc] G.W (ValIs (.agg (mayN s.fields sts (d + 2) r).cells) G.W) := fun G cs r hr =>
                  may_all (d + 2) r cs s _ ta tn tc sts G.W (PredR.stable _ _ _ _ _ (G.h.mono (Nat.le_refl _)) hr) (SchemaR.stable _ _ _ _ ((M6.out.call G.h).below) HSC.out) hfl (HST.out.below StatR.stable ((M6.out.call G.h).below)) (by omega)
                have he1 := fun G => hev G _ _ HBO.out
                have he2 := fun G => hev G _ _ HNO.out
                have hm1 := fun G => hmy G _ _ HBO.out
                have hm2 := fun G => hmy G _ _ HNO.out
                rw [← eval_turns] at he2
                rw [← may_turns] at hm2
                generalize evalN s.fields ((xs.map goodVal).map ValD.cell) (d + 2) (bothP p q) = er at *
                generalize mayN s.fields sts (d + 2) (bothP p q) = mr at *
                obtain ⟨m0, m1, m2⟩ := mr
                simp only [B3.cells] at hm1 hm2
                have HE1 := Lib.hid he1
                have HE2 := Lib.hid he2
                have HM1 := Lib.hid hm1
                have HM2 := Lib.hid hm2
                clear hev hmy he1 he2 hm1 hm2 hsz
                have y0 : wr.cell? ⟨w5.heap.size + 1 + 1, 0, none⟩ = some (.int .u8 8) := HX2.out.cell 0 rfl
                have ky0 := kept_cell y0
                have y1 : wr.cell? ⟨w5.heap.size + 1 + 1, 1, none⟩ = some (.int .u32 0) := HX2.out.cell 1 rfl
                have ky1 := kept_cell y1
                have y2 : wr.cell? ⟨w5.heap.size + 1 + 1, 2, none⟩ = some (.int .u8 0) := HX2.out.cell 2 rfl
                have ky2 := kept_cell y2
                have y3 : wr.cell? ⟨w5.heap.size + 1 + 1, 3, none⟩ = some (.int .i64 0) := HX2.out.cell 3 rfl
                have ky3 := kept_cell y3
                have y4 : wr.cell? ⟨w5.heap.size + 1 + 1, 4, none⟩ = some (.string ⟨#[]⟩) := HX2.out.cell 4 rfl
                have ky4 := kept_cell y4
                have y5 : wr.cell? ⟨w5.heap.size + 1 + 1, 5, none⟩ = some (.slice (some ⟨w5.heap.size + 1, 0, none⟩) 1 1) := HX2.out.cell 5 rfl
                have ky5 := kept_cell y5
                have t0 : wr.cell? ⟨W5.heap.size + 1 + 1 + 1, 0, none⟩ = some (.int .u8 7) := HX6.out.cell 0 rfl
                have kt0 := kept_cell t0
                have t1 : wr.cell? ⟨W5.heap.size + 1 + 1 + 1, 1, none⟩ = some (.int .u32 0) := HX6.out.cell 1 rfl
                have kt1 := kept_cell t1
                have t2 : wr.cell? ⟨W5.heap.size + 1 + 1 + 1, 2, none⟩ = some (.int .u8 0) := HX6.out.cell 2 rfl
                have kt2 := kept_cell t2
                have t3 : wr.cell? ⟨W5.heap.size + 1 + 1 + 1, 3, none⟩ = some (.int .i64 0) := HX6.out.cell 3 rfl
                have kt3 := kept_cell t3
                have t4 : wr.cell? ⟨W5.heap.size + 1 + 1 + 1, 4, none⟩ = some (.string ⟨#[]⟩) := HX6.out.cell 4 rfl
                have kt4 := kept_cell t4
                have t5 : wr.cell? ⟨W5.heap.size + 1 + 1 + 1, 5, none⟩ = some (.slice (some ⟨W5.heap.size + 1 + 1, 0, none⟩) 2 2) := HX6.out.cell 5 rfl
                have kt5 := kept_cell t5
                have s0 : wr.cell? ⟨w.heap.size + 1 + 1, 0, none⟩ = some (.int .u32 (s.id : Int)) := M6.out.cell 2 0 rfl rfl
                have ks0 := kept_cell s0
                have s1 : wr.cell? ⟨w.heap.size + 1 + 1, 1, none⟩ = some (.slice fa fnn fc) := M6.out.cell 2 1 rfl rfl
                have ks1 := kept_cell s1
                have he3 := eq3
                have hg3 := eqg3
                have hb3 := bin3
                refine wp_region_kept (by kernel_rfl) (by kernel_rfl) ?_
                repeat (go_big_quiet_step (first | (go_at_call 18; with_reducible exact kept_call (HE1.out _)) | (go_at_call 18; with_reducible exact kept_call (HE2.out _)) | (go_at_call 17; with_reducible exact kept_call (HM1.out _)) | (go_at_call 17; with_reducible exact kept_call (HM2.out _))))
                refine wpQuiet_nil ?_
                intro W7 hb7
                go_wp2
                go_ret
                exact ⟨rfl, (M6.out.call hb7).below⟩
          · have htni : (100 : Int) < (tn : Int) := by omega
            go_wp2
            go_ret
            exact ⟨rfl, Mw4.out.below⟩
        · have hni : (100 : Int) < (n : Int) := by omega
          go_wp2
          go_ret
          exact ⟨rfl, Mw4.out.below⟩
      · clear hg8
        have q0_0 : w4.cell? ⟨w.heap.size, 0, none⟩ = some (.int .u8 (p.op : Int)) := Mw4.out.cell 0 0 rfl rfl
        have q0_1 : w4.cell? ⟨w.heap.size, 1, none⟩ = some (.int .u32 (p.field : Int)) := Mw4.out.cell 0 1 rfl rfl
        have q0_2 : w4.cell? ⟨w.heap.size, 2, none⟩ = some (.int .u8 p.value.kind) := Mw4.out.cell 0 2 rfl rfl
        have q0_3 : w4.cell? ⟨w.heap.size, 3, none⟩ = some (.int .i64 p.value.n) := Mw4.out.cell 0 3 rfl rfl
        have q0_4 : w4.cell? ⟨w.heap.size, 4, none⟩ = some (.string p.value.s) := Mw4.out.cell 0 4 rfl rfl
        have q0_5 : w4.cell? ⟨w.heap.size, 5, none⟩ = some (.slice ka kn kc) := Mw4.out.cell 0 5 rfl rfl
        have q1_0 : w4.cell? ⟨w.heap.size + 1, 0, none⟩ = some (.int .u8 (q.op : Int)) := Mw4.out.cell 1 0 rfl rfl
        have q1_1 : w4.cell? ⟨w.heap.size + 1, 1, none⟩ = some (.int .u32 (q.field : Int)) := Mw4.out.cell 1 1 rfl rfl
        have q1_2 : w4.cell? ⟨w.heap.size + 1, 2, none⟩ = some (.int .u8 q.value.kind) := Mw4.out.cell 1 2 rfl rfl
        have q1_3 : w4.cell? ⟨w.heap.size + 1, 3, none⟩ = some (.int .i64 q.value.n) := Mw4.out.cell 1 3 rfl rfl
        have q1_4 : w4.cell? ⟨w.heap.size + 1, 4, none⟩ = some (.string q.value.s) := Mw4.out.cell 1 4 rfl rfl
        have q1_5 : w4.cell? ⟨w.heap.size + 1, 5, none⟩ = some (.slice ja jn jc) := Mw4.out.cell 1 5 rfl rfl
        have q2_0 : w4.cell? ⟨w.heap.size + 1 + 1, 0, none⟩ = some (.int .u32 (s.id : Int)) := Mw4.out.cell 2 0 rfl rfl
        have q2_1 : w4.cell? ⟨w.heap.size + 1 + 1, 1, none⟩ = some (.slice fa fnn fc) := Mw4.out.cell 2 1 rfl rfl
        have z0 : w.heap.size < w4.heap.size := Mw4.out.lt 0 (by simp)
        have z1 : w.heap.size + 1 < w4.heap.size := Mw4.out.lt 1 (by simp)
        have z2 : w.heap.size + 1 + 1 < w4.heap.size := Mw4.out.lt 2 (by simp)
        go_wp2
        go_ret
        exact ⟨rfl, Mw4.out.below⟩
end Go.Proofs.Ytkildbpfondgcaa
