/- What events, handed in by whoever calls, read as. -/
import Derived.Test.YtlclhinianamhaaPrOpen
import Derived.Test.YtlclhinianamhaaEvAlive
namespace Go.Proofs.Ytlclhinianamhaa
open Go.RowKit Go.Deep
set_option linter.unusedVariables false
set_option linter.unusedSimpArgs false

theorem cells_u64 : Try.prog.cellsOf 26 = 1 := by kernel_rfl
theorem cells_event : Try.prog.cellsOf 32 = 8 := by kernel_rfl
theorem wf_u64 {n : Int} (h : (Lit.int .u64 n).wf = true) : 0 ≤ n ∧ n < 2 ^ 64 := by have := bounds_u64 h; omega
section
variable {H : Type} {enc : TypeId × Value → H}
theorem opens_u64 : Opens H enc Try.prog 26 1 (fun w cs x => NatR .u64 w cs x ∧ (Lit.int .u64 (x : Int)).wf = true) := opens_nat Try.underlying26 fun n h => (wf_u64 h).1
set_option maxRecDepth 100000 in
theorem opens_event : Opens H enc Try.prog 32 8 EventR := by
  refine opens_struct Try.underlying32 cells_event fun w base spare held n cs hl hf => ?_
  match cs, hl with
  | [v0, v1, v2, v3, v4, v5, v6, v7], _ =>
    obtain ⟨x0, h0, w0⟩ := opens_field opens_u64 cells_u64 (cs' := [v0]) (hf 0 _ rfl) rfl
    obtain ⟨x1, h1, w1⟩ := opens_field opens_op cells_u8 (cs' := [v1]) (hf 1 _ rfl) rfl
    obtain ⟨x2, a, m, c, h2, k1, k2, k3, hsl⟩ := opens_field (opens_slice Try.underlying27 cells_cell (by decide) opens_cell) cells_cellrow (cs' := [v2]) (hf 2 _ rfl) rfl
    obtain ⟨x3, h3, w3, b3, c3⟩ := opens_field opens_cell cells_cell (cs' := [v3, v4, v5]) (hf 3 _ rfl) rfl
    obtain ⟨x4, h4, w4⟩ := opens_field (opens_str Try.underlying9) cells_str (cs' := [v6]) (hf 4 _ rfl) rfl
    obtain ⟨x5, h5, w5⟩ := opens_field opens_kind cells_kind (cs' := [v7]) (hf 5 _ rfl) rfl
    cases h0; cases h1; cases h2; cases h3; cases h4; cases h5
    have b0 : x0 < 2 ^ 64 := by have := wf_u64 w0; omega
    have b1 : x1 < 256 := by have := wf_u8 w1; omega
    have b5 : x5 < 256 := by have := wf_u8 w5; omega
    exact ⟨⟨x0, x1, x2, x3, x4, x5⟩, a, m, c, rfl, k1, k2, k3, hsl, b0, b1, ⟨w3, b3, c3⟩, w4, b5⟩
end
set_option maxRecDepth 100000 in
theorem open_event {H : Type} {enc : TypeId × Value → H} {w : World} {r : Reach} {b base : Nat} {spare : Nat → Bool} {held : Bool} {v : Value} {d : DataW H} {ps : List MemPlace} (h : Value.okWide Try.prog w r b 32 v) (ht : DataW.Trod enc Try.prog w base spare held 32 v d ps) :
    ∃ cs s, v = .agg (List.toArray cs) ∧ EventR w cs s := by
  obtain ⟨cs, hv, hcs⟩ := open_agg Try.underlying32 h
  obtain ⟨fuel, hf⟩ := ht
  rw [hcs] at hf
  obtain ⟨_, s, hr⟩ := opens_event _ _ _ _ _ _ _ hf
  exact ⟨cs, s, hv, hr⟩
set_option maxRecDepth 100000 in
theorem open_events {H : Type} {enc : TypeId × Value → H} {w : World} {r : Reach} {b base : Nat} {spare : Nat → Bool} {held : Bool} {v : Value} {d : DataW H} {ps : List MemPlace} (h : Value.okWide Try.prog w r b 40 v) (ht : DataW.Trod enc Try.prog w base spare held 40 v d ps) :
    ∃ a n c xs, v = .slice a n c ∧ Sl 8 EventR w a n xs := by
  obtain ⟨fuel, hf⟩ := ht
  obtain ⟨_, xs, a, n, c, hcs, _, _, _, hs⟩ := opens_slice Try.underlying40 cells_event (by decide) opens_event _ _ _ _ _ _ _ hf
  exact ⟨a, n, c, xs, slice_val Try.underlying40 h hcs, hs⟩
end Go.Proofs.Ytlclhinianamhaa
