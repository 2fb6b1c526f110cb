/- Rows of cells (of structs) that a call grows for itself. -/
import Derived.Test.YtkofaoaglnjkgaaVlFix
import Derived.Test.YtkofaoaglnjkgaaKept
import Derived.Deep.AppendLies
import Derived.Maps.AppendAt
namespace Go.Proofs.Ytkofaoaglnjkgaa
open Go.RowKit Go.Deep
set_option linter.unusedVariables false
set_option linter.unusedSimpArgs false

section
variable {α : Type} {f : α → List Value} {size : Nat}
theorem flat_len (hf : ∀ x, (f x).length = size) : ∀ xs : List α, (xs.flatMap f).length = xs.length * size
  | [] => by simp
  | x :: xs => by rw [List.flatMap_cons, List.length_append, flat_len hf xs, hf, List.length_cons, Nat.add_mul]; omega
theorem flat_get (hf : ∀ x, (f x).length = size) : ∀ (xs : List α) (i j : Nat) (x : α), xs[i]? = some x → j < size → (xs.flatMap f)[i * size + j]? = (f x)[j]?
  | [], i, j, x, h, hj => by simp at h
  | y :: xs, 0, j, x, h, hj => by
    simp at h; subst h
    rw [List.flatMap_cons, Nat.zero_mul, Nat.zero_add, List.getElem?_append_left (by rw [hf]; exact hj)]
  | y :: xs, i + 1, j, x, h, hj => by
    rw [List.getElem?_cons_succ] at h
    rw [List.flatMap_cons, Nat.add_mul, List.getElem?_append_right (by rw [hf]; omega), hf, ← flat_get hf xs i j x h hj]
    congr 1; omega
theorem own_sl {R : Rd α} {w : World} {B e n c : Nat} {ad : Option Addr} {xs : List α} (hs : 0 < size) (hf : ∀ x, (f x).length = size) (hr : ∀ x ∈ xs, R w (f x) x) (h : w.ownsRow B e size (.slice ad n c) n (xs.flatMap f)) : Sl size R w ad n xs := by
  have hl : xs.length = n := by
    have := h.1; rw [flat_len hf] at this
    exact Nat.eq_of_mul_eq_mul_right hs this
  refine ⟨hl, fun hn => ?_⟩
  rcases h.2 with ⟨_, h0⟩ | ⟨g, cap, cur, hv, hb, hg, _⟩
  · omega
  · simp only [Value.slice.injEq] at hv
    obtain ⟨rfl, _, rfl⟩ := hv
    refine ⟨g, 0, rfl, ?_, fun i x hi => ⟨f x, hf x, hr x (List.mem_of_getElem? hi), fun j v hj => ?_⟩⟩
    · rcases Nat.lt_or_ge g w.heap.size with hlt | hge
      · exact hlt
      · rw [Array.getElem?_eq_none hge] at hg; cases hg
    · have hil : i < n := by have := (List.getElem?_eq_some_iff.1 hi).1; omega
      have hjl : j < size := by have := (List.getElem?_eq_some_iff.1 hj).1; rw [hf] at this; exact this
      have hlt : i * size + j < n * size := by
        have h1 : (i + 1) * size ≤ n * size := Nat.mul_le_mul_right _ hil
        rw [Nat.add_mul] at h1; omega
      have := h.cellAt (i * size + j) hlt
      rw [flat_get hf xs i j x hi hjl, hj] at this
      simpa using this
theorem flat_snoc {xs : List α} {k : Nat} {x : α} (h : xs[k]? = some x) : (xs.take (k + 1)).flatMap f = (xs.take k).flatMap f ++ f x := by
  rw [List.take_add_one, h, List.flatMap_append]; simp
end
def cellV (c : CellD) : List Value := [.int .u8 c.kind, .int .i64 c.n, .string c.s]
theorem cellV_len (c : CellD) : (cellV c).length = 3 := rfl
theorem infoCell : (Try.prog.info? 26).map (fun i => (i.zero, i.size, i.bytes)) = some (some (.agg #[.int .u8 0, .int .i64 0, .string ByteArray.empty]), 3, 32) := by kernel_rfl
end Go.Proofs.Ytkofaoaglnjkgaa
