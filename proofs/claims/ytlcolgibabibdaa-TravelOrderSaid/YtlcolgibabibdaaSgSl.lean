/- A row of the call's own that reads as numbers. -/
import Derived.Test.YtlcolgibabibdaaSgCuts
import Derived.Test.YtlcolgibabibdaaSk
namespace Go.Proofs.Ytlcolgibabibdaa
open Go.RowKit Go.Deep
set_option linter.unusedVariables false

theorem sl_own {w : World} {B e n c : Nat} {ad : Option Addr} {xs : List Nat} (h : w.ownsRow B e 1 (.slice ad n c) n (intsV xs)) : Sl 1 (NatR .i64) w ad n xs := by
  have hl : xs.length = n := by have := h.1; rw [intsV_length] at this; omega
  refine ⟨hl, fun hn => ?_⟩
  rcases h.2 with ⟨_, h0⟩ | ⟨g, cap, cur, hv, hb, hg, _⟩
  · omega
  · simp only [Value.slice.injEq] at hv
    obtain ⟨rfl, _, rfl⟩ := hv
    refine ⟨g, 0, rfl, ?_, fun i x hi => ⟨[.int .i64 (x : Int)], rfl, rfl, fun j v hj => ?_⟩⟩
    · rcases Nat.lt_or_ge g w.heap.size with hlt | hge
      · exact hlt
      · rw [Array.getElem?_eq_none hge] at hg; cases hg
    · have hil : i < n := by
        rcases Nat.lt_or_ge i n with h1 | h1
        · exact h1
        · rw [List.getElem?_eq_none (by omega)] at hi; cases hi
      cases j with
      | zero =>
        simp at hj; subst hj
        have := h.cellAt i (by omega)
        rw [intsV, List.getElem?_map, hi] at this
        simpa using this
      | succ j => simp at hj
end Go.Proofs.Ytlcolgibabibdaa
