/- signs: SignsSelf. -/
import Derived.Test.YtocjmllbbpfidaaSgSelfP
import Derived.Test.YtocjmllbbpfidaaSgAlive
import Derived.Test.YtocjmllbbpfidaaSgSl
namespace Go.Proofs.Ytocjmllbbpfidaa
open Go.RowKit Go.Deep
set_option linter.unusedVariables false

theorem bytes_ne2 {x y : ByteArray} (h : x ≠ y) : (x.toList == y.toList) = false := by
  rw [beq_eq_false_iff_ne, Lib.toList_data, Lib.toList_data]
  intro hc
  exact h (bytes_ext hc)
set_option maxRecDepth 100000 in
set_option maxHeartbeats 10000000 in
theorem signsSelf (s t : ByteArray) (w : World) (hs : s.size ≤ maxLen) (ht : t.size ≤ maxLen) :
    Calls Try.prog 7 #[.string s, .string t] w (TruthPost w) := by
  go_enter Try.func7, Try.ntmps7
  go_wp2_with fail
  refine (alive_calls _).mono ?_
  rintro e w1 ⟨rfl, hb1⟩
  have B1 := Lib.hid hb1
  clear hb1
  by_cases hbig : 300 < s.size
  · go_wp2
    go_ret
    exact ⟨rfl, B1.out⟩
  · by_cases hbig2 : 300 < t.size
    · go_wp2
      go_ret
      exact ⟨rfl, B1.out⟩
    · go_wp2_with fail
      refine (signs_calls s _ (by omega)).mono ?_
      rintro e w2 ⟨lv, av, rfl, hol, hoa, hb2, hne⟩
      obtain ⟨al, cl, rfl, hl1, hl2, hl3⟩ := own_slice hol
      have B2 := Lib.hid (B1.out.trans (hb2.mono B1.out.size))
      have S2 := Lib.hid (sl_own hol)
      have hNl := N_le s
      generalize hn : N s = n at *
      have HN := Lib.hid hn
      clear hol hoa hb2 hne hl3 hn
      go_wp2_with fail
      go_loopw [8, 9, 10] (fun vw vb vi wr => ∃ k : Nat, k ≤ n ∧ vi = .int .i64 (k : Int) ∧ vb = .string (bars k) ∧ vw = .bool (wildK s k) ∧ wr = w2) (fun _ _ vi _ => n - (intOf vi).toNat)
      case atStart => exact ⟨0, Nat.zero_le _, rfl, rfl, rfl, rfl⟩
      case round =>
        obtain ⟨k, hk, rfl, rfl, rfl, rfl⟩ := hrel
        by_cases hlt : k < n
        · obtain ⟨bx, ox, x, vx, rfl, hbx, hx, hrx, hcx⟩ := S2.out.at1 hlt
          cases hrx
          have hxs : sgn s k = x := by
            have h1 := sgn_of_rs (s := s) (k := k) (by rw [HN.out]; exact hlt)
            rw [hx] at h1
            exact (Option.some.inj h1).symm
          have HWS := Lib.hid (wildK_succ s k)
          have HXS := Lib.hid hxs
          have HBS := Lib.hid (bars_succ k)
          have hbz := bars_size k
          have hsum := run_string_add_sum (P := Try.prog) (w := wr) (bars k) ⟨#[95]⟩ (by rw [hbz]; show k + 1 ≤ _; omega)
          clear hx hxs
          have hk0 : (0 : Int) ≤ (k : Int) := by omega
          have hk1 : (k : Int) < (n : Int) := by omega
          cases hwk : wildK s k
          · have HWK := Lib.hid hwk
            clear hwk
            by_cases h37 : x = 37
            · have hq : ((x : Int) == 37) = true := by rw [beq_iff_eq]; omega
              have H37 := Lib.hid h37
              clear h37
              go_wp2
              go_roundw
              case rel => exact ⟨k + 1, by omega, by go_num, by rw [HBS.out], by rw [HWS.out, HWK.out, HXS.out, H37.out]; simp, trivial⟩
              case measure => simp [intOf] <;> omega
            · have hq : ((x : Int) == 37) = false := by rw [beq_eq_false_iff_ne]; omega
              have H37 := Lib.hid h37
              clear h37
              by_cases h95 : x = 95
              · have hq5 : ((x : Int) == 95) = true := by rw [beq_iff_eq]; omega
                have H95 := Lib.hid h95
                clear h95
                go_wp2
                go_roundw
                case rel => exact ⟨k + 1, by omega, by go_num, by rw [HBS.out], by rw [HWS.out, HWK.out, HXS.out, H95.out]; simp, trivial⟩
                case measure => simp [intOf] <;> omega
              · have hq5 : ((x : Int) == 95) = false := by rw [beq_eq_false_iff_ne]; omega
                have H95 := Lib.hid h95
                clear h95
                go_wp2
                go_roundw
                case rel => exact ⟨k + 1, by omega, by go_num, by rw [HBS.out], by rw [HWS.out, HWK.out, HXS.out]; have h1 := H37.out; have h2 := H95.out; simp [h1, h2], trivial⟩
                case measure => simp [intOf] <;> omega
          · have HWK := Lib.hid hwk
            clear hwk
            go_wp2
            go_roundw
            case rel => exact ⟨k + 1, by omega, by go_num, by rw [HBS.out], by rw [HWS.out, HWK.out]; simp, trivial⟩
            case measure => simp [intOf] <;> omega
        · obtain rfl : k = n := by omega
          have hb9 := bars_size k
          have hb9s : (⟨#[37]⟩ : ByteArray).size ≤ 100000 := by decide
          have hsum := fun W : World => run_string_add_sum (P := Try.prog) (w := W) (bars k) ⟨#[95]⟩ (by rw [hb9]; show k + 1 ≤ _; omega)
          go_wp2_with fail
          refine (like_calls s _ _ (by omega) hb9s).mono ?_
          rintro e w3 ⟨rfl, hb3⟩
          rw [like_pct]
          have B3 := Lib.hid (B2.out.trans (hb3.mono B2.out.size))
          clear hb3
          go_wp2_with fail
          refine (like_calls s _ _ (by omega) (by rw [hb9]; omega)).mono ?_
          rintro e w4 ⟨rfl, hb4⟩
          rw [like_bars, show decide (N s = k) = true by simp [HN.out]]
          have B4 := Lib.hid (B3.out.trans (hb4.mono B3.out.size))
          clear hb4
          go_wp2_with fail
          rw [← bars_succ]
          refine (like_calls s _ _ (by omega) (by rw [bars_size]; omega)).mono ?_
          rintro e w5 ⟨rfl, hb5⟩
          rw [like_bars, show decide (N s = k + 1) = false by have := HN.out; simp; omega]
          have B5 := Lib.hid (B4.out.trans (hb5.mono B4.out.size))
          clear hb5 hsum
          cases hcs : clean s
          · clear hcs
            go_wp2
            go_ret
            exact ⟨rfl, B5.out⟩
          · have HCS := Lib.hid hcs
            clear hcs
            cases hwk : wildK s k
            · have HWK := Lib.hid hwk
              clear hwk
              go_wp2_with fail
              refine (clean_calls t _ (by omega)).mono ?_
              rintro e w6 ⟨rfl, hb6⟩
              have B6 := Lib.hid (B5.out.trans (hb6.mono B5.out.size))
              clear hb6
              cases hct : clean t
              · clear hct
                go_wp2
                go_ret
                exact ⟨rfl, B6.out⟩
              · have HCT := Lib.hid hct
                clear hct
                have hwn := wild_none (s := s) (by rw [HN.out]; exact HWK.out)
                have hss := like_self hwn HCS.out HCS.out
                have hts := like_self hwn HCS.out HCT.out
                rw [show decide (s = s) = true by simp] at hss
                have HSS := Lib.hid hss
                have HTS := Lib.hid hts
                clear hwn hss hts
                go_wp2_with fail
                refine (like_calls s s _ (by omega) (by omega)).mono ?_
                rintro e w7 ⟨rfl, hb7⟩
                rw [HSS.out]
                have B7 := Lib.hid (B6.out.trans (hb7.mono B6.out.size))
                clear hb7
                go_wp2_with fail
                refine (like_calls t s _ (by omega) (by omega)).mono ?_
                rintro e w8 ⟨rfl, hb8⟩
                rw [HTS.out]
                have B8 := Lib.hid (B7.out.trans (hb8.mono B7.out.size))
                clear hb8
                by_cases hst : s = t
                · subst hst
                  have hq : (s.toList == s.toList) = true := by simp
                  rw [show decide (s = s) = true by simp]
                  go_wp2
                  go_ret
                  exact ⟨rfl, B8.out⟩
                · have hq := bytes_ne2 hst
                  rw [show decide (t = s) = false by simp [Ne.symm hst]]
                  clear hst
                  go_wp2
                  go_ret
                  exact ⟨rfl, B8.out⟩
            · clear hwk
              go_wp2
              go_ret
              exact ⟨rfl, B5.out⟩
end Go.Proofs.Ytocjmllbbpfidaa
