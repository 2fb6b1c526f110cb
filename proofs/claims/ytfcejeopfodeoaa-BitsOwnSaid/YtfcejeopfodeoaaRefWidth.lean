/- The contract of the reference's Width. -/
import Derived.Test.YtfcejeopfodeoaaWidth
namespace Go.Proofs.Ytfcejeopfodeoaa
open Go.RowKit

set_option maxHeartbeats 400000 in
theorem RefWidth_calls (a : Option Addr) (n c : Nat) (xs : List Nat) (w : World) (h : Nums .u64 w a n xs) (hb : ∀ x ∈ xs, x < 2 ^ 64) (hn : n ≤ maxLen) :
    Calls Try.prog 12 #[.slice a n c] w fun e w' => e = .returned (.int .i64 (wide xs : Nat)) ∧ w = w' := by
  unfold maxLen at hn
  go_enter Try.func12, Try.ntmps12
  go_wp2
  go_loop [3, 4] (fun s i => ∃ k : Nat, k ≤ n ∧ i = .int .i64 k ∧ s = .int .i64 (Lib.bitLen (orAll (xs.take k)) : Nat)) (fun _ i => n - (intOf i).toNat)
  case atStart => exact ⟨0, Nat.zero_le _, rfl, rfl⟩
  case round =>
    obtain ⟨k, hk, rfl, rfl⟩ := hrel
    by_cases hlt : k < n
    · obtain ⟨hl, hx⟩ := h
      obtain ⟨b, off, rfl, _, hc⟩ := hx (by omega)
      have hck := hc k hlt
      have hxk : xs.getD k 0 = xs[k] := by simp [hl, hlt]
      clear hc hx hxk
      go_wp2
      have hstep := bitLen_step xs k (by omega) hb
      have hl1 := bitLen_le64 _ (orAll_take_lt xs k hb)
      have hmore := fun m (hm : m < 64) => bitLen_more xs[k] m (hb _ (List.getElem_mem _)) hm
      have hl2 := bitLen_le64 xs[k] (hb _ (List.getElem_mem _))
      generalize hw0 : Lib.bitLen (orAll (xs.take k)) = w0 at *
      have H1 := Lib.hid hstep
      have H2 := Lib.hid hmore
      have H3 := Lib.hid hw0
      clear hstep hmore hw0
      go_loop [3] (fun s => ∃ m : Nat, w0 ≤ m ∧ m ≤ max w0 (Lib.bitLen xs[k]) ∧ s = .int .i64 m) (fun s => 64 - (intOf s).toNat)
      case atStart => exact ⟨w0, Nat.le_refl _, by omega, rfl⟩
      case round =>
        obtain ⟨m, hm0, hm, rfl⟩ := hrel
        by_cases h64 : m < 64
        · go_wp2
          · have h0 : (0 : Int) < ↑xs[k] / 2 ^ m := by assumption
            have h1 : 0 < xs[k] / 2 ^ m := by exact_mod_cast h0
            have h2 := (H2.out m h64).2 h1
            go_round
            case rel => exact ⟨m + 1, by omega, by omega, by go_num⟩
            case measure => simp [intOf]; omega
          · have h0 : ↑xs[k] / 2 ^ m ≤ (0 : Int) := by assumption
            have h1 : ¬ 0 < xs[k] / 2 ^ m := by
              have : xs[k] / 2 ^ m ≤ 0 := by exact_mod_cast h0
              omega
            have h2 : ¬ m < Lib.bitLen xs[k] := fun hc => h1 ((H2.out m h64).1 hc)
            go_round
            case rel => exact ⟨k + 1, by omega, by go_num, by rw [H1.out]; congr 2; omega⟩
            case measure => simp [intOf]; omega
        · go_wp2
          go_round
          case rel => exact ⟨k + 1, by omega, by go_num, by rw [H1.out]; congr 2; omega⟩
          case measure => simp [intOf]; omega
    · have hk' : k = n := by omega
      obtain ⟨hl, _⟩ := h
      have htk : xs.take k = xs := List.take_of_length_le (by omega)
      rw [htk]
      clear htk
      go_wp2
      go_ret
      exact ⟨rfl, rfl⟩
end Go.Proofs.Ytfcejeopfodeoaa
