/- What a table, handed in by whoever calls, reads as. -/
import Derived.Test.YtlcolgibabibdaaData
import Derived.Test.YtlcolgibabibdaaRows
namespace Go.Proofs.Ytlcolgibabibdaa
open Go.RowKit Go.Deep
set_option linter.unusedVariables false

theorem opens_field {α H : Type} {enc : TypeId × Value → H} {P : Program} {t : TypeId} {size : Nat} {R : Rd α} (ho : Opens H enc P t size R) (hc : P.cellsOf t = size) {w : World} {base : Nat} {spare : Nat → Bool} {held : Bool} {n off : Nat} {cs cs' : List Value}
    (h : ∃ y, DataW.trod enc P w base spare held n t ((cs.drop off).take (P.cellsOf t)) = some y) (e : (cs.drop off).take size = cs') : ∃ x, R w cs' x := by
  obtain ⟨y, hy⟩ := h
  rw [hc, e] at hy
  exact (ho w base spare held n cs' y hy).2
theorem cells_u64 : Try.prog.cellsOf 24 = 1 := by kernel_rfl
theorem cells_u32 : Try.prog.cellsOf 29 = 1 := by kernel_rfl
theorem cells_str : Try.prog.cellsOf 9 = 1 := by kernel_rfl
theorem cells_bool : Try.prog.cellsOf 4 = 1 := by kernel_rfl
theorem cells_kind : Try.prog.cellsOf 56 = 1 := by kernel_rfl
theorem cells_strs : Try.prog.cellsOf 30 = 1 := by kernel_rfl
theorem cells_fields : Try.prog.cellsOf 46 = 1 := by kernel_rfl
theorem cells_field : Try.prog.cellsOf 58 = 4 := by kernel_rfl
theorem cells_schema : Try.prog.cellsOf 48 = 2 := by kernel_rfl
theorem cells_snap : Try.prog.cellsOf 32 = 7 := by kernel_rfl
theorem cells_table : Try.prog.cellsOf 26 = 3 := by kernel_rfl
theorem cells_schemas : Try.prog.cellsOf 22 = 1 := by kernel_rfl
theorem cells_snaps : Try.prog.cellsOf 23 = 1 := by kernel_rfl

theorem wf_u64 {n : Int} (h : (Lit.int .u64 n).wf = true) : 0 ≤ n ∧ n < 2 ^ 64 := by have := bounds_u64 h; omega
theorem wf_u32 {n : Int} (h : (Lit.int .u32 n).wf = true) : 0 ≤ n ∧ n < 2 ^ 32 := by have := bounds_u32 h; omega
theorem wf_u8 {n : Int} (h : (Lit.int .u8 n).wf = true) : 0 ≤ n ∧ n < 2 ^ 8 := by have := bounds_u8 h; omega
section
variable {H : Type} {enc : TypeId × Value → H}
theorem opens_u64 : Opens H enc Try.prog 24 1 (fun w cs x => NatR .u64 w cs x ∧ (Lit.int .u64 (x : Int)).wf = true) := opens_nat Try.underlying24 fun n h => (wf_u64 h).1
theorem opens_u32 : Opens H enc Try.prog 29 1 (fun w cs x => NatR .u32 w cs x ∧ (Lit.int .u32 (x : Int)).wf = true) := opens_nat Try.underlying29 fun n h => (wf_u32 h).1
theorem opens_kind : Opens H enc Try.prog 56 1 (fun w cs x => NatR .u8 w cs x ∧ (Lit.int .u8 (x : Int)).wf = true) := opens_nat Try.underlying56 fun n h => (wf_u8 h).1
theorem opens_strs : Opens H enc Try.prog 30 1 (SlR 1 StrR) := opens_slice Try.underlying30 cells_str (by decide) (opens_str Try.underlying9)
theorem opens_fieldD : Opens H enc Try.prog 58 4 FieldR := by
  refine opens_struct Try.underlying58 cells_field fun w base spare held n cs hl hf => ?_
  match cs, hl with
  | [v0, v1, v2, v3], _ =>
    obtain ⟨x0, h0, w0⟩ := opens_field opens_u32 cells_u32 (cs' := [v0]) (hf 0 _ rfl) rfl
    obtain ⟨x1, h1, w1⟩ := opens_field (opens_str Try.underlying9) cells_str (cs' := [v1]) (hf 1 _ rfl) rfl
    obtain ⟨x2, h2, w2⟩ := opens_field opens_kind cells_kind (cs' := [v2]) (hf 2 _ rfl) rfl
    obtain ⟨x3, h3⟩ := opens_field (opens_bool Try.underlying4) cells_bool (cs' := [v3]) (hf 3 _ rfl) rfl
    cases h0; cases h1; cases h2; cases h3
    have b0 : x0 < 2 ^ 32 := by have := wf_u32 w0; omega
    have b2 : x2 < 256 := by have := wf_u8 w2; omega
    exact ⟨⟨x0, x1, x2, x3⟩, rfl, w1, b0, b2⟩
theorem opens_schema : Opens H enc Try.prog 48 2 SchemaR := by
  refine opens_struct Try.underlying48 cells_schema fun w base spare held n cs hl hf => ?_
  match cs, hl with
  | [v0, v1], _ =>
    obtain ⟨x0, h0, w0⟩ := opens_field opens_u32 cells_u32 (cs' := [v0]) (hf 0 _ rfl) rfl
    obtain ⟨x1, a, m, c, h1, k1, k2, k3, hsl⟩ := opens_field (opens_slice Try.underlying46 cells_field (by decide) opens_fieldD) cells_fields (cs' := [v1]) (hf 1 _ rfl) rfl
    cases h0; cases h1
    have b0 : x0 < 2 ^ 32 := by have := wf_u32 w0; omega
    exact ⟨⟨x0, x1⟩, a, m, c, rfl, k1, k2, k3, hsl, b0⟩
theorem opens_snap : Opens H enc Try.prog 32 7 SnapR := by
  refine opens_struct Try.underlying32 cells_snap fun w base spare held n cs hl hf => ?_
  match cs, hl with
  | [v0, v1, v2, v3, v4, v5, v6], _ =>
    obtain ⟨x0, h0, w0⟩ := opens_field opens_u64 cells_u64 (cs' := [v0]) (hf 0 _ rfl) rfl
    obtain ⟨x1, h1, w1⟩ := opens_field opens_u64 cells_u64 (cs' := [v1]) (hf 1 _ rfl) rfl
    obtain ⟨x2, h2, w2⟩ := opens_field opens_u64 cells_u64 (cs' := [v2]) (hf 2 _ rfl) rfl
    obtain ⟨x3, h3, w3⟩ := opens_field opens_u64 cells_u64 (cs' := [v3]) (hf 3 _ rfl) rfl
    obtain ⟨x4, h4, w4⟩ := opens_field opens_u64 cells_u64 (cs' := [v4]) (hf 4 _ rfl) rfl
    obtain ⟨x5, h5, w5⟩ := opens_field opens_u32 cells_u32 (cs' := [v5]) (hf 5 _ rfl) rfl
    obtain ⟨x6, a, m, c, h6, k1, k2, k3, hsl⟩ := opens_field opens_strs cells_strs (cs' := [v6]) (hf 6 _ rfl) rfl
    cases h0; cases h1; cases h2; cases h3; cases h4; cases h5; cases h6
    have b0 : x0 < 2 ^ 64 := by have := wf_u64 w0; omega
    have b1 : x1 < 2 ^ 64 := by have := wf_u64 w1; omega
    have b2 : x2 < 2 ^ 64 := by have := wf_u64 w2; omega
    have b3 : x3 < 2 ^ 64 := by have := wf_u64 w3; omega
    have b4 : x4 < 2 ^ 64 := by have := wf_u64 w4; omega
    have b5 : x5 < 2 ^ 32 := by have := wf_u32 w5; omega
    exact ⟨⟨x0, x1, x2, x3, x4, x5, x6⟩, a, m, c, rfl, k1, k2, k3, hsl, b0, b1, b2, b3, b4, b5⟩
theorem opens_table : Opens H enc Try.prog 26 3 TableR := by
  refine opens_struct Try.underlying26 cells_table fun w base spare held n cs hl hf => ?_
  match cs, hl with
  | [v0, v1, v2], _ =>
    obtain ⟨x0, a, m, c, h0, k1, k2, k3, hsl⟩ := opens_field (opens_slice Try.underlying22 cells_schema (by decide) opens_schema) cells_schemas (cs' := [v0]) (hf 0 _ rfl) rfl
    obtain ⟨x1, a', m', c', h1, k1', k2', k3', hsl'⟩ := opens_field (opens_slice Try.underlying23 cells_snap (by decide) opens_snap) cells_snaps (cs' := [v1]) (hf 1 _ rfl) rfl
    obtain ⟨x2, h2, w2⟩ := opens_field opens_u64 cells_u64 (cs' := [v2]) (hf 2 _ rfl) rfl
    cases h0; cases h1; cases h2
    have b2 : x2 < 2 ^ 64 := by have := wf_u64 w2; omega
    exact ⟨⟨x0, x1, x2⟩, a, m, c, a', m', c', rfl, k1, k2, k3, hsl, k1', k2', k3', hsl', b2⟩
end
theorem laidOut : laidOutB Try.prog = true := by kernel_rfl
theorem own : ownKnob Try.prog.godebug = none := by kernel_rfl
/-- A struct value handed in: its cells. -/
theorem open_agg {P : Program} {t : TypeId} {fs : Array Field} (ht : P.underlying t = some (.struct fs)) {w : World} {r : Reach} {b : Nat} {v : Value} (h : Value.okWide P w r b t v) : ∃ cs : List Value, v = .agg cs.toArray ∧ v.cells.toList = cs := by
  unfold Value.okWide at h
  rw [ht] at h
  obtain ⟨cs, rfl, _⟩ := h
  exact ⟨cs.toList, by simp, by simp [Value.cells]⟩
theorem open_table {H : Type} {enc : TypeId × Value → H} {w : World} {r : Reach} {b base : Nat} {spare : Nat → Bool} {held : Bool} {v : Value} {d : DataW H} {ps : List MemPlace} (h : Value.okWide Try.prog w r b 26 v) (ht : DataW.Trod enc Try.prog w base spare held 26 v d ps) :
    ∃ cs t, v = .agg (List.toArray cs) ∧ TableR w cs t := by
  obtain ⟨cs, hv, hcs⟩ := open_agg Try.underlying26 h
  obtain ⟨fuel, hf⟩ := ht
  rw [hcs] at hf
  obtain ⟨_, t, hr⟩ := opens_table _ _ _ _ _ _ _ hf
  exact ⟨cs, t, hv, hr⟩
end Go.Proofs.Ytlcolgibabibdaa
