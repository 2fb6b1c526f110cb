/- What a table, entries and texts, handed in by whoever calls, read as (beside predicates, schemas and statistics). -/
import Derived.Test.YtkofaoaglnjkgaaPrOpen
import Derived.Test.YtkofaoaglnjkgaaPlPm
namespace Go.Proofs.Ytkofaoaglnjkgaa
open Go.RowKit Go.Deep
set_option linter.unusedVariables false
set_option linter.unusedSimpArgs false

theorem cells_u64 : Try.prog.cellsOf 49 = 1 := by kernel_rfl
theorem cells_strs : Try.prog.cellsOf 38 = 1 := by kernel_rfl
theorem cells_snap : Try.prog.cellsOf 102 = 7 := by kernel_rfl
theorem cells_table : Try.prog.cellsOf 59 = 3 := by kernel_rfl
theorem cells_schemas : Try.prog.cellsOf 56 = 1 := by kernel_rfl
theorem cells_snaps : Try.prog.cellsOf 57 = 1 := by kernel_rfl

theorem wf_u64 {n : Int} (h : (Lit.int .u64 n).wf = true) : 0 ≤ n ∧ n < 2 ^ 64 := by have := bounds_u64 h; omega
theorem cells_entry : Try.prog.cellsOf 52 = 6 := by kernel_rfl
theorem cells_stats : Try.prog.cellsOf 50 = 1 := by kernel_rfl
section
variable {H : Type} {enc : TypeId × Value → H}
theorem opens_u64 : Opens H enc Try.prog 49 1 (fun w cs x => NatR .u64 w cs x ∧ (Lit.int .u64 (x : Int)).wf = true) := opens_nat Try.underlying49 fun n h => (wf_u64 h).1
theorem opens_strs : Opens H enc Try.prog 38 1 (SlR 1 StrR) := opens_slice Try.underlying38 cells_str (by decide) (opens_str Try.underlying9)
set_option maxRecDepth 100000 in
theorem opens_snap : Opens H enc Try.prog 102 7 SnapR := by
  refine opens_struct Try.underlying102 cells_snap fun w base spare held n cs hl hf => ?_
  match cs, hl with
  | [v0, v1, v2, v3, v4, v5, v6], _ =>
    obtain ⟨x0, h0, w0⟩ := opens_field opens_u64 cells_u64 (cs' := [v0]) (hf 0 _ rfl) rfl
    obtain ⟨x1, h1, w1⟩ := opens_field opens_u64 cells_u64 (cs' := [v1]) (hf 1 _ rfl) rfl
    obtain ⟨x2, h2, w2⟩ := opens_field opens_u64 cells_u64 (cs' := [v2]) (hf 2 _ rfl) rfl
    obtain ⟨x3, h3, w3⟩ := opens_field opens_u64 cells_u64 (cs' := [v3]) (hf 3 _ rfl) rfl
    obtain ⟨x4, h4, w4⟩ := opens_field opens_u64 cells_u64 (cs' := [v4]) (hf 4 _ rfl) rfl
    obtain ⟨x5, h5, w5⟩ := opens_field opens_u32 cells_u32 (cs' := [v5]) (hf 5 _ rfl) rfl
    obtain ⟨x6, a, m, c, h6, k1, k2, k3, hsl⟩ := opens_field opens_strs cells_strs (cs' := [v6]) (hf 6 _ rfl) rfl
    cases h0; cases h1; cases h2; cases h3; cases h4; cases h5; cases h6
    have b0 : x0 < 2 ^ 64 := by have := wf_u64 w0; omega
    have b1 : x1 < 2 ^ 64 := by have := wf_u64 w1; omega
    have b2 : x2 < 2 ^ 64 := by have := wf_u64 w2; omega
    have b3 : x3 < 2 ^ 64 := by have := wf_u64 w3; omega
    have b4 : x4 < 2 ^ 64 := by have := wf_u64 w4; omega
    have b5 : x5 < 2 ^ 32 := by have := wf_u32 w5; omega
    exact ⟨⟨x0, x1, x2, x3, x4, x5, x6⟩, a, m, c, rfl, k1, k2, k3, hsl, b0, b1, b2, b3, b4, b5⟩
set_option maxRecDepth 100000 in
theorem opens_table : Opens H enc Try.prog 59 3 TableR := by
  refine opens_struct Try.underlying59 cells_table fun w base spare held n cs hl hf => ?_
  match cs, hl with
  | [v0, v1, v2], _ =>
    obtain ⟨x0, a, m, c, h0, k1, k2, k3, hsl⟩ := opens_field (opens_slice Try.underlying56 cells_schema (by decide) opens_schema) cells_schemas (cs' := [v0]) (hf 0 _ rfl) rfl
    obtain ⟨x1, a', m', c', h1, k1', k2', k3', hsl'⟩ := opens_field (opens_slice Try.underlying57 cells_snap (by decide) opens_snap) cells_snaps (cs' := [v1]) (hf 1 _ rfl) rfl
    obtain ⟨x2, h2, w2⟩ := opens_field opens_u64 cells_u64 (cs' := [v2]) (hf 2 _ rfl) rfl
    cases h0; cases h1; cases h2
    have b2 : x2 < 2 ^ 64 := by have := wf_u64 w2; omega
    exact ⟨⟨x0, x1, x2⟩, a, m, c, a', m', c', rfl, k1, k2, k3, hsl, k1', k2', k3', hsl', b2⟩
set_option maxRecDepth 100000 in
theorem opens_entry : Opens H enc Try.prog 52 6 EntryR := by
  refine opens_struct Try.underlying52 cells_entry fun w base spare held n cs hl hf => ?_
  match cs, hl with
  | [v0, v1, v2, v3, v4, v5], _ =>
    obtain ⟨x0, h0, w0⟩ := opens_field (opens_str Try.underlying9) cells_str (cs' := [v0]) (hf 0 _ rfl) rfl
    obtain ⟨x1, h1⟩ := opens_field (opens_bool Try.underlying4) cells_bool (cs' := [v1]) (hf 1 _ rfl) rfl
    obtain ⟨x2, h2, w2⟩ := opens_field opens_u64 cells_u64 (cs' := [v2]) (hf 2 _ rfl) rfl
    obtain ⟨x3, h3, w3⟩ := opens_field (opens_int Try.underlying3) cells_int (cs' := [v3]) (hf 3 _ rfl) rfl
    obtain ⟨x4, h4, w4⟩ := opens_field opens_u32 cells_u32 (cs' := [v4]) (hf 4 _ rfl) rfl
    obtain ⟨x5, a, m, c, h5, k1, k2, k3, hsl⟩ := opens_field (opens_slice Try.underlying50 cells_stat (by decide) opens_stat) cells_stats (cs' := [v5]) (hf 5 _ rfl) rfl
    cases h0; cases h1; cases h2; cases h3; cases h4; cases h5
    have b2 : x2 < 2 ^ 64 := by have := wf_u64 w2; omega
    have b4 : x4 < 2 ^ 32 := by have := wf_u32 w4; omega
    exact ⟨⟨x0, x1, x2, x3, x4, x5⟩, a, m, c, rfl, k1, k2, k3, hsl, w0, b2, bounds_i64 w3, b4⟩
end
set_option maxRecDepth 100000 in
theorem open_table {H : Type} {enc : TypeId × Value → H} {w : World} {r : Reach} {b base : Nat} {spare : Nat → Bool} {held : Bool} {v : Value} {d : DataW H} {ps : List MemPlace} (h : Value.okWide Try.prog w r b 59 v) (ht : DataW.Trod enc Try.prog w base spare held 59 v d ps) :
    ∃ cs t, v = .agg (List.toArray cs) ∧ TableR w cs t := by
  obtain ⟨cs, hv, hcs⟩ := open_agg Try.underlying59 h
  obtain ⟨fuel, hf⟩ := ht
  rw [hcs] at hf
  obtain ⟨_, t, hr⟩ := opens_table _ _ _ _ _ _ _ hf
  exact ⟨cs, t, hv, hr⟩
set_option maxRecDepth 100000 in
theorem open_entries {H : Type} {enc : TypeId × Value → H} {w : World} {r : Reach} {b base : Nat} {spare : Nat → Bool} {held : Bool} {v : Value} {d : DataW H} {ps : List MemPlace} (h : Value.okWide Try.prog w r b 62 v) (ht : DataW.Trod enc Try.prog w base spare held 62 v d ps) :
    ∃ a n c xs, v = .slice a n c ∧ Sl 6 EntryR w a n xs := by
  obtain ⟨fuel, hf⟩ := ht
  obtain ⟨_, xs, a, n, c, hcs, _, _, _, hs⟩ := opens_slice Try.underlying62 cells_entry (by decide) opens_entry _ _ _ _ _ _ _ hf
  exact ⟨a, n, c, xs, slice_val Try.underlying62 h hcs, hs⟩
set_option maxRecDepth 100000 in
theorem open_strs {H : Type} {enc : TypeId × Value → H} {w : World} {r : Reach} {b base : Nat} {spare : Nat → Bool} {held : Bool} {v : Value} {d : DataW H} {ps : List MemPlace} (h : Value.okWide Try.prog w r b 38 v) (ht : DataW.Trod enc Try.prog w base spare held 38 v d ps) :
    ∃ a n c xs, v = .slice a n c ∧ Sl 1 StrR w a n xs := by
  obtain ⟨fuel, hf⟩ := ht
  obtain ⟨_, xs, a, n, c, hcs, _, _, _, hs⟩ := opens_slice Try.underlying38 cells_str (by decide) (opens_str Try.underlying9) _ _ _ _ _ _ _ hf
  exact ⟨a, n, c, xs, slice_val Try.underlying38 h hcs, hs⟩
end Go.Proofs.Ytkofaoaglnjkgaa
