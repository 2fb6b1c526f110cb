/- signs: SignsBound. -/
import Derived.Test.YtocjmllbbpfidaaSgBoundP
import Derived.Test.YtocjmllbbpfidaaSgAlive
import Derived.WalkLawsBesides
namespace Go.Proofs.Ytocjmllbbpfidaa
open Go.RowKit Go.Deep
set_option linter.unusedVariables false

theorem aboveF_cases (s : ByteArray) (n : Int) : aboveF s n = (ByteArray.empty, false) ∨ (clean s = true ∧ (N s : Int) ≤ n ∧ aboveF s n = (s, true)) ∨ (clean s = true ∧ ¬ (N s : Int) ≤ n ∧ ∃ a, aboveK s n.toNat = some a ∧ aboveF s n = (a, true)) := by
  unfold aboveF
  cases hc : clean s
  · exact .inl (by simp)
  · rw [if_neg (by simp)]
    by_cases hn : (N s : Int) ≤ n
    · rw [if_pos hn]; exact .inr (.inl ⟨rfl, hn, rfl⟩)
    · rw [if_neg hn]
      cases ha : aboveK s n.toNat with
      | none => exact .inl rfl
      | some a => exact .inr (.inr ⟨rfl, hn, a, rfl, rfl⟩)
theorem size_aboveK {s a : ByteArray} {m : Nat} (hm : m ≤ N s) (h : aboveK s m = some a) : a.size ≤ s.size + 4 := by
  obtain ⟨k, hk, _, rfl⟩ := aboveK_some hm h
  rw [ByteArray.size_append, ByteArray.size_extract]
  have := enc_size4 (nextF (rn s (P s k)))
  omega
set_option maxRecDepth 100000 in
set_option maxHeartbeats 10000000 in
theorem signsBound (s : ByteArray) (n : Int) (more : ByteArray) (w : World) (hs : s.size ≤ maxLen) (hn : -9223372036854775808 ≤ n ∧ n ≤ 9223372036854775807) (hmo : more.size ≤ maxLen) :
    Calls Try.prog 5 #[.string s, .int .i64 n, .string more] w (TruthPost w) := by
  have he : (ByteArray.empty.toList == ([] : List UInt8)) = true := by decide +kernel
  go_enter Try.func5, Try.ntmps5
  go_wp2_with fail
  refine (alive_calls _).mono ?_
  rintro e w1 ⟨rfl, hb1⟩
  have B1 := Lib.hid hb1
  clear hb1
  by_cases hbig : 3000 < s.size
  · go_wp2
    go_ret
    exact ⟨rfl, B1.out⟩
  · by_cases hbig2 : 3000 < more.size
    · go_wp2
      go_ret
      exact ⟨rfl, B1.out⟩
    · go_wp2_with fail
      refine (above_calls s n _ (by omega) hn).mono ?_
      rintro e w2 ⟨rfl, hb2⟩
      have B2 := Lib.hid (B1.out.trans (hb2.mono B1.out.size))
      clear hb2
      rcases aboveF_cases s n with h | ⟨hc, hN, h⟩ | ⟨hc, hN, a, ha, h⟩
      · rw [h]
        clear h
        go_wp2
        go_ret
        exact ⟨rfl, B2.out⟩
      · rw [h]
        clear h hc
        go_wp2_with fail
        refine (count_calls s _ (by omega)).mono ?_
        rintro e w3 ⟨rfl, hb3⟩
        have B3 := Lib.hid (B2.out.trans (hb3.mono B2.out.size))
        clear hb3
        have hq : (s.toList == s.toList) = true := by simp
        go_wp2
        go_ret
        exact ⟨rfl, B3.out⟩
      · rw [h]
        clear h
        go_wp2_with fail
        refine (count_calls s _ (by omega)).mono ?_
        rintro e w3 ⟨rfl, hb3⟩
        have B3 := Lib.hid (B2.out.trans (hb3.mono B2.out.size))
        clear hb3
        by_cases hn0 : n < 0
        · rw [show n.toNat = 0 by omega] at ha
          simp [aboveK] at ha
        · obtain ⟨m, rfl⟩ : ∃ m : Nat, n = (m : Int) := ⟨n.toNat, by omega⟩
          have hmN : m < N s := by omega
          rw [Int.toNat_natCast] at ha
          obtain ⟨b1, b2, b3⟩ := above_bound hmN hc ha more
          have hff : firstF s (m : Int) = s.extract 0 (P s m) := by unfold firstF; rw [if_pos (by omega), Int.toNat_natCast]
          have hsz := size_aboveK (Nat.le_of_lt hmN) ha
          have HFF := Lib.hid hff
          have HB2 := Lib.hid b2
          have HB3 := Lib.hid b3
          have hz : (s.extract 0 (P s m)).size + more.size ≤ 9223372036854775807 := by rw [ByteArray.size_extract]; omega
          have hsum := fun W : World => run_string_add_sum (P := Try.prog) (w := W) (s.extract 0 (P s m)) more hz
          have HSZ := Lib.hid hsz
          have HHN := Lib.hid hn
          have HSUM := Lib.hid hsum
          clear ha hc hff b2 b3 hsz hz hn hn0 hsum
          go_wp2_with fail
          refine (first_calls s _ _ (by omega) HHN.out).mono ?_
          rintro e w4 ⟨rfl, hb4⟩
          rw [HFF.out]
          have B4 := Lib.hid (B3.out.trans (hb4.mono B3.out.size))
          have b2 := HB2.out
          have hsum := HSUM.out
          clear hb4
          go_wp2_with fail
          refine (count_calls a _ (by have := HSZ.out; omega)).mono ?_
          rintro e w5 ⟨rfl, hb5⟩
          have B5 := Lib.hid (B4.out.trans (hb5.mono B4.out.size))
          have hle : ((N a : Nat) : Int) ≤ (m : Int) := by have := HB3.out; omega
          clear hb5
          go_wp2
          go_ret
          exact ⟨rfl, B5.out⟩
end Go.Proofs.Ytocjmllbbpfidaa
