/- signs: SignsTurn. -/
import Derived.Test.YtocjmllbbpfidaaSgTurn
namespace Go.Proofs.Ytocjmllbbpfidaa
open Go.RowKit Go.Deep
set_option linter.unusedVariables false

theorem turn_size (s : ByteArray) : (turnF s).size ≤ 4 * s.size := by
  have h := runesBytes_size_le (intsOf (rs s).reverse)
  have h2 : (intsOf (rs s).reverse).length = N s := by simp [intsOf, rs_length]
  have := N_le s
  have h3 : (turnF s).size = (runesBytes (intsOf (rs s).reverse)).size := rfl
  omega
set_option maxRecDepth 100000 in
set_option maxHeartbeats 4000000 in
theorem signsTurn (s : ByteArray) (w : World) (hs : s.size ≤ maxLen) :
    Calls Try.prog 8 #[.string s] w (TruthPost w) := by
  go_enter Try.func8, Try.ntmps8
  go_wp2_with fail
  refine (alive_calls _).mono ?_
  rintro e w1 ⟨rfl, hb1⟩
  have B1 := Lib.hid hb1
  clear hb1
  by_cases hbig : 3000 < s.size
  · go_wp2
    go_ret
    exact ⟨rfl, B1.out⟩
  · have htz := turn_size s
    have hTZ := Lib.hid htz
    have HTN := Lib.hid (turn_N s)
    have HTC := Lib.hid (turn_clean s)
    have HTT := Lib.hid (turn_turn s)
    clear htz
    go_wp2_with fail
    refine (turn_calls s _ (by omega)).mono ?_
    rintro e w2 ⟨rfl, hb2⟩
    have B2 := Lib.hid (B1.out.trans (hb2.mono B1.out.size))
    clear hb2
    generalize hT : turnF s = T at *
    have HTE := Lib.hid hT
    clear hT
    have htz5 : T.size ≤ 12000 := by have := turn_size s; rw [HTE.out] at this; omega
    go_wp2_with fail
    refine (refTurn s _ (by omega)).mono ?_
    rintro e w3 ⟨rfl, hb3⟩
    have B3 := Lib.hid (B2.out.trans (hb3.mono B2.out.size))
    rw [HTE.out]
    clear hb3
    have hq : (T.toList == T.toList) = true := by simp
    go_wp2_with fail
    refine (count_calls T _ (by omega)).mono ?_
    rintro e w4 ⟨rfl, hb4⟩
    rw [HTN.out]
    have B4 := Lib.hid (B3.out.trans (hb4.mono B3.out.size))
    clear hb4
    go_wp2_with fail
    refine (count_calls s _ (by omega)).mono ?_
    rintro e w5 ⟨rfl, hb5⟩
    have B5 := Lib.hid (B4.out.trans (hb5.mono B4.out.size))
    have hnn : ((N s : Int) == (N s : Int)) = true := by simp
    clear hb5
    go_wp2_with fail
    refine (clean_calls T _ (by omega)).mono ?_
    rintro e w6 ⟨rfl, hb6⟩
    rw [HTC.out]
    have B6 := Lib.hid (B5.out.trans (hb6.mono B5.out.size))
    clear hb6
    go_wp2_with fail
    refine (clean_calls s _ (by omega)).mono ?_
    rintro e w7 ⟨rfl, hb7⟩
    have B7 := Lib.hid (B6.out.trans (hb7.mono B6.out.size))
    clear hb7
    cases hc : clean s
    · clear hc
      go_wp2
      go_ret
      exact ⟨rfl, B7.out⟩
    · have htt := HTT.out hc
      have HT2 := Lib.hid htt
      clear hc htt
      go_wp2_with fail
      refine (turn_calls T _ (by omega)).mono ?_
      rintro e w8 ⟨rfl, hb8⟩
      rw [HT2.out]
      have B8 := Lib.hid (B7.out.trans (hb8.mono B7.out.size))
      have hss : (s.toList == s.toList) = true := by simp
      clear hb8
      go_wp2
      go_ret
      exact ⟨rfl, B8.out⟩
end Go.Proofs.Ytocjmllbbpfidaa
