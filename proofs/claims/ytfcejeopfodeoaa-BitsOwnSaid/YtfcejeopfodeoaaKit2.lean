/- Words for what comes in. -/
import Derived.Test.YtfcejeopfodeoaaKit
import Derived.OpenShut
namespace Go.Proofs.Ytfcejeopfodeoaa
open Go.RowKit

/-- What a slice of numbers that came in is. -/
theorem nums_of_row {k : IntKind} {w : World} {a : Option Addr} {len cap : Nat} {zs : List Int} (M : Nat)
    (h : (a = none ∧ len = 0 ∧ cap = 0 ∧ zs = []) ∨ ∃ x, a = some x ∧ len ≤ cap ∧ cap ≤ maxLen ∧ zs.length = cap ∧ (∀ i, i < zs.length → w.cell? (x.add i) = some (.int k (zs.getD i 0))) ∧ ∀ n ∈ zs, (Lit.int k n).wf = true)
    (hk : ∀ n, (Lit.int k n).wf = true → 0 ≤ n ∧ n < (M : Int)) : ∃ xs, Nums k w a len xs ∧ (∀ x ∈ xs, x < M) ∧ len ≤ maxLen := by
  rcases h with ⟨rfl, rfl, rfl, rfl⟩ | ⟨x, rfl, hl, hm, hz, hc, hw⟩
  · exact ⟨[], ⟨rfl, fun h => absurd h (by omega)⟩, by simp, by unfold maxLen; omega⟩
  · have hlen : ((zs.take len).map Int.toNat).length = len := by simp; omega
    refine ⟨(zs.take len).map Int.toNat, ⟨hlen, fun hn => ?_⟩, ?_, by omega⟩
    · obtain ⟨b, off, spot⟩ := x
      have h0 := hc 0 (by omega)
      have hspot : spot = none := by simpa [Addr.add] using World.cell?_spot h0
      subst hspot
      refine ⟨b, off, rfl, by have := World.block_lt_of_cell? w _ h0; simpa [Addr.add] using this, fun i hi => ?_⟩
      have h1 := hc i (by omega)
      have hplain : (⟨b, off, none⟩ : Addr).add i = ⟨b, off + i, none⟩ := by unfold Addr.add; split <;> simp_all
      rw [hplain] at h1
      rw [h1]
      have hiz : i < zs.length := by omega
      have h2 := (hk _ (hw zs[i] (List.getElem_mem hiz))).1
      simp [List.getD, hiz, hi]
      omega
    · intro x hx
      obtain ⟨z, hz, rfl⟩ := List.mem_map.1 hx
      have := hk z (hw z (List.mem_of_mem_take hz))
      omega
theorem wf_u64 (n : Int) (h : (Lit.int .u64 n).wf = true) : 0 ≤ n ∧ n < ((2 ^ 64 : Nat) : Int) := by
  have := bounds_u64 h; omega
theorem wf_u8 (n : Int) (h : (Lit.int .u8 n).wf = true) : 0 ≤ n ∧ n < ((256 : Nat) : Int) := by
  have := bounds_u8 h; omega

end Go.Proofs.Ytfcejeopfodeoaa
