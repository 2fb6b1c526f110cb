/- The contract of bits.Width. -/
import Derived.Test.YtfcejeopfodeoaaKit
import Derived.Test.YtfcejeopfodeoaaPlain
import Derived.Test.YtfcejeopfodeoaaShelf
namespace Go.Proofs.Ytfcejeopfodeoaa
open Go.RowKit

set_option maxHeartbeats 400000 in
theorem Width_calls (a : Option Addr) (n c : Nat) (xs : List Nat) (w : World) (h : Nums .u64 w a n xs) (hb : ∀ x ∈ xs, x < 2 ^ 64) (hn : n ≤ maxLen) :
    Calls Try.prog 11 #[.slice a n c] w fun e w' => e = .returned (.int .i64 (wide xs : Nat)) ∧ w = w' := by
  unfold maxLen at hn
  go_enter Try.func11, Try.ntmps11
  go_wp2
  go_loop [3, 8] (fun s i => ∃ k : Nat, k ≤ n ∧ i = .int .i64 k ∧ s = .int .u64 (orAll (xs.take k) : Nat)) (fun _ i => n - (intOf i).toNat)
  case atStart => exact ⟨0, Nat.zero_le _, rfl, rfl⟩
  case round =>
    obtain ⟨k, hk, rfl, rfl⟩ := hrel
    by_cases hlt : k < n
    · obtain ⟨hl, hx⟩ := h
      obtain ⟨b, off, rfl, _, hc⟩ := hx (by omega)
      have hck := hc k hlt
      have hxk : xs.getD k 0 = xs[k] := by simp [hl, hlt]
      have hor : bits BinOp.or IntKind.u64 (orAll (xs.take k) : Nat) (xs[k] : Nat) = ((orAll (xs.take (k + 1)) : Nat) : Int) := by
        rw [u64_or_nat _ _ (orAll_take_lt xs k hb) (hb _ (List.getElem_mem _)), orAll_take xs k (by omega)]
      have H := Lib.hid hor
      clear hc hx hor hxk
      go_wp2
      go_round
      case rel => exact ⟨k + 1, by omega, by go_num, by rw [H.out]⟩
      case measure => simp [intOf]; omega
    · have hk' : k = n := by omega
      obtain ⟨hl, _⟩ := h
      have hlt2 := orAll_lt xs 64 hb
      have htk : xs.take k = xs := List.take_of_length_le (by omega)
      rw [htk]
      clear htk
      go_wp2_with (go_at_call 16; refine (Try.bits_Len64 _ _ (by omega) (by omega)).mono ?_; rintro e w' ⟨rfl, rfl⟩)
      go_ret
      exact ⟨rfl, rfl⟩
end Go.Proofs.Ytfcejeopfodeoaa
