/- The program's schema.named and schema.right. -/
import Derived.Test.YtlclhinianamhaaRtNamed
namespace Go.Proofs.Ytlclhinianamhaa
open Go.RowKit Go.Deep
set_option linter.unusedVariables false
set_option linter.unusedSimpArgs false

set_option maxRecDepth 100000 in
set_option maxHeartbeats 4000000 in
theorem named_calls (t : ByteArray) (w : World) (ht : t.size ≤ maxLen) : Calls Try.prog 56 #[.string t] w (NamedPost t w) := by
  by_cases h1 : t.size < 1
  · have hb : namedB t = false := by unfold namedB; simp; omega
    have HB := Lib.hid hb
    clear hb
    go_enter Try.func56, Try.ntmps56
    go_wp2
    go_ret
    exact ⟨by rw [HB.out]; rfl, Below.refl _ _⟩
  · by_cases h2 : 16 < t.size
    · have hb : namedB t = false := by unfold namedB; simp; omega
      have HB := Lib.hid hb
      clear hb
      go_enter Try.func56, Try.ntmps56
      go_wp2
      go_ret
      exact ⟨by rw [HB.out]; rfl, Below.refl _ _⟩
    · have hnb : namedB t = (okK t (N t) && clean t) := by unfold namedB; rw [show decide (1 ≤ t.size) = true by simp; omega, show decide (t.size ≤ 16) = true by simp; omega]; simp
      have HNB := Lib.hid hnb
      clear hnb
      go_enter Try.func56, Try.ntmps56
      go_wp2_with fail
      refine (clean_calls t _ (by omega)).mono ?_
      rintro e w1 ⟨rfl, hb⟩
      have HB := Lib.hid hb
      clear hb
      cases hc : clean t
      · have HBAD := Lib.hid (show namedB t = false by rw [HNB.out, hc]; simp)
        clear hc
        go_wp2
        go_ret
        exact ⟨by rw [HBAD.out]; rfl, HB.out⟩
      have HNC := Lib.hid (show namedB t = okK t (N t) by rw [HNB.out, hc]; simp)
      clear hc HNB
      go_wp2_with fail
      go_loopw [3] (fun c wr => ∃ k : Nat, Upto t k ∧ okK t k = true ∧ wr = w1.iter t (P t k)) (fun _ wr => t.size - wr.iterPos w1.heap.size)
      case atStart => exact ⟨0, Upto.zero t, rfl, rfl⟩
      case round =>
        obtain ⟨k, hk, hok, rfl⟩ := hrel
        have HK := Lib.hid hk
        have HOK := Lib.hid hok
        clear hok
        by_cases hlt : P t k < t.size
        · have HS := Lib.hid (hk.step hlt)
          have HLN := Lib.hid (hk.lt_N hlt)
          have hnx := next_at w1 t (P t k) hlt
          have hwp := wd_pos t _ hlt
          have HWL := Lib.hid (wd_le t _ hlt)
          have HSU := Lib.hid (P_succ t k)
          have HLT := Lib.hid hlt
          have hkp := hk.k_le
          have HP0 : (0 < P t k) = (0 < k) := propext ⟨fun h => Nat.pos_of_ne_zero fun h0 => by subst h0; exact absurd h (by simp [P]), fun h => Nat.lt_of_lt_of_le h hkp⟩
          clear hk
          have hxx : rn t (P t k) = rn t (P t k) := rfl
          generalize hX : rn t (P t k) = x at *
          have HXX := Lib.hid hX
          clear hxx hX
          generalize hp : P t k = p at *
          have HPP := Lib.hid hp
          generalize wd t p = d at *
          clear hp
          by_cases hq8 : 97 ≤ x
          · have hf8 : (97 : Int) ≤ (x : Int) := by omega
            by_cases hq3 : x ≤ 122
            · have hf3 : (x : Int) ≤ 122 := by omega
              have HGO := Lib.hid (show okK t (k + 1) = true by rw [okK_succ, HOK.out, HPP.out, HXX.out]; simp [okC]; omega)
              go_wp2
              go_roundw
              case rel => exact ⟨k + 1, HS.out, HGO.out, by rw [HSU.out]⟩
              case measure => simp <;> omega
            · have hf3 : (122 : Int) < (x : Int) := by omega
              have hf2 : ((x : Int) == 95) = false := by rw [beq_eq_false_iff_ne]; omega
              by_cases hq1 : 127 < x
              · have hf1 : (127 : Int) < (x : Int) := by omega
                have HGO := Lib.hid (show okK t (k + 1) = true by rw [okK_succ, HOK.out, HPP.out, HXX.out]; simp [okC]; omega)
                go_wp2
                go_roundw
                case rel => exact ⟨k + 1, HS.out, HGO.out, by rw [HSU.out]⟩
                case measure => simp <;> omega
              · have hf1 : (x : Int) ≤ 127 := by omega
                have hf5 : (48 : Int) ≤ (x : Int) := by omega
                have hg2 : (57 : Int) < (x : Int) := by omega
                have HBAD := Lib.hid (okK_bad HLN.out (show okC k (rn t (P t k)) = false by rw [HPP.out, HXX.out]; simp [okC]; omega))
                go_wp2
                all_goals first
                  | (go_ret; exact ⟨by rw [HNC.out, HBAD.out]; rfl, HB.out.trans ((below_iter w1 t _).mono HB.out.size)⟩)
                  | (exfalso; rename_i hh; simp at hh; omega)
          · have hf8 : (x : Int) < 97 := by omega
            by_cases hq7 : x = 95
            · have hf7 : ((x : Int) == 95) = true := by rw [beq_iff_eq]; omega
              have HGO := Lib.hid (show okK t (k + 1) = true by rw [okK_succ, HOK.out, HPP.out, HXX.out]; simp [okC]; omega)
              go_wp2
              go_roundw
              case rel => exact ⟨k + 1, HS.out, HGO.out, by rw [HSU.out]⟩
              case measure => simp <;> omega
            · have hf7 : ((x : Int) == 95) = false := by rw [beq_eq_false_iff_ne]; omega
              have hg1 : (x : Int) ≤ 127 := by omega
              by_cases hq6 : 48 ≤ x
              · have hf6 : (48 : Int) ≤ (x : Int) := by omega
                by_cases hq5 : x ≤ 57
                · have hf5 : (x : Int) ≤ 57 := by omega
                  by_cases hq4 : 0 < k
                  · have hf4 : (0 : Int) < (p : Int) := by have := HP0.mpr hq4; omega
                    have HGO := Lib.hid (show okK t (k + 1) = true by rw [okK_succ, HOK.out, HPP.out, HXX.out]; simp [okC]; omega)
                    go_wp2
                    go_roundw
                    case rel => exact ⟨k + 1, HS.out, HGO.out, by rw [HSU.out]⟩
                    case measure => simp <;> omega
                  · have hf4 : (p : Int) ≤ 0 := by have hp0 : ¬ 0 < p := fun h => hq4 (HP0.mp h); omega
                    have HBAD := Lib.hid (okK_bad HLN.out (show okC k (rn t (P t k)) = false by rw [HPP.out, HXX.out]; simp [okC]; omega))
                    go_wp2
                    all_goals first
                      | (go_ret; exact ⟨by rw [HNC.out, HBAD.out]; rfl, HB.out.trans ((below_iter w1 t _).mono HB.out.size)⟩)
                      | (exfalso; rename_i hh; simp at hh; omega)
                · have hf5 : (57 : Int) < (x : Int) := by omega
                  have HBAD := Lib.hid (okK_bad HLN.out (show okC k (rn t (P t k)) = false by rw [HPP.out, HXX.out]; simp [okC]; omega))
                  go_wp2
                  all_goals first
                    | (go_ret; exact ⟨by rw [HNC.out, HBAD.out]; rfl, HB.out.trans ((below_iter w1 t _).mono HB.out.size)⟩)
                    | (exfalso; rename_i hh; simp at hh; omega)
              · have hf6 : (x : Int) < 48 := by omega
                have HBAD := Lib.hid (okK_bad HLN.out (show okC k (rn t (P t k)) = false by rw [HPP.out, HXX.out]; simp [okC]; omega))
                go_wp2
                all_goals first
                  | (go_ret; exact ⟨by rw [HNC.out, HBAD.out]; rfl, HB.out.trans ((below_iter w1 t _).mono HB.out.size)⟩)
                  | (exfalso; rename_i hh; simp at hh; omega)
        · have hnx := fun ty => run_next_end (P := Try.prog) w1 t (P t k) ty hlt
          have hkn := hk.done hlt
          subst hkn
          clear hk HK
          go_wp2
          go_ret
          exact ⟨by rw [HNC.out, HOK.out]; rfl, HB.out.trans ((below_iter w1 t _).mono HB.out.size)⟩
set_option maxHeartbeats 1000000 in
theorem right_calls (k : Nat) (w : World) : Calls Try.prog 59 #[.int .u8 (k : Int)] w (fun e w' => e = .returned (.bool (decide (1 ≤ k) && decide (k ≤ 3))) ∧ w' = w) := by
  by_cases h1 : 1 ≤ k
  · have hf1 : (1 : Int) ≤ (k : Int) := by omega
    by_cases h3 : k ≤ 3
    · have hf3 : (k : Int) ≤ 3 := by omega
      rw [show (decide (1 ≤ k) && decide (k ≤ 3)) = true by simp; omega]
      clear h1 h3
      go_enter Try.func59, Try.ntmps59
      go_wp2
      go_ret
      exact ⟨rfl, rfl⟩
    · have hf3 : (3 : Int) < (k : Int) := by omega
      have hd : decide ((k : Int) ≤ 3) = false := by simp; omega
      have HD := Lib.hid hd
      rw [show (decide (1 ≤ k) && decide (k ≤ 3)) = false by simp; omega]
      clear h1 h3 hd
      go_enter Try.func59, Try.ntmps59
      go_wp2
      go_ret
      exact ⟨by rw [← HD.out]; rfl, rfl⟩
  · have hf1 : (k : Int) < 1 := by omega
    rw [show (decide (1 ≤ k) && decide (k ≤ 3)) = false by simp; omega]
    clear h1
    go_enter Try.func59, Try.ntmps59
    go_wp2
    go_ret
    exact ⟨rfl, rfl⟩
end Go.Proofs.Ytlclhinianamhaa
