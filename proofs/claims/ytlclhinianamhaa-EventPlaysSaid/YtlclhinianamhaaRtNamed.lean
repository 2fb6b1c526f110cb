/- The contract of catchmentref08.Named. -/
import Derived.Test.YtlclhinianamhaaSgSigns
import Derived.Test.YtlclhinianamhaaSgTop
import Derived.WalkSpells
namespace Go.Proofs.Ytlclhinianamhaa
open Go.RowKit Go.Deep
set_option linter.unusedVariables false
set_option linter.unusedSimpArgs false

def okC (k c : Nat) : Bool := (decide (97 ≤ c) && decide (c ≤ 122)) || decide (c = 95) || decide (127 < c) || (decide (48 ≤ c) && decide (c ≤ 57) && decide (0 < k))
def okK (t : ByteArray) (k : Nat) : Bool := (List.range k).all fun j => okC j (rn t (P t j))
theorem okK_succ (t : ByteArray) (k : Nat) : okK t (k + 1) = (okK t k && okC k (rn t (P t k))) := by simp [okK, List.range_succ]
theorem okK_bad {t : ByteArray} {k n : Nat} (hk : k < n) (h : okC k (rn t (P t k)) = false) : okK t n = false := by
  unfold okK
  rw [List.all_eq_false]
  exact ⟨k, by simpa using hk, by simp [h]⟩
noncomputable def namedB (t : ByteArray) : Bool := decide (1 ≤ t.size) && decide (t.size ≤ 16) && okK t (N t) && clean t
def NamedPost (t : ByteArray) (w : World) (e : Ending) (w' : World) : Prop := e = .returned (.bool (namedB t)) ∧ Below w.heap.size w w'
theorem rs_get {t : ByteArray} {k : Nat} (h : k < N t) : (rs t)[k]? = some (rn t (P t k)) := by simp [rs, rsK, h]
set_option maxRecDepth 100000 in
set_option maxHeartbeats 4000000 in
theorem named08 (t : ByteArray) (w : World) (ht : t.size ≤ maxLen) : Calls Try.prog 45 #[.string t] w (NamedPost t w) := by
  by_cases h1 : t.size < 1
  · have hb : namedB t = false := by unfold namedB; simp; omega
    have HB := Lib.hid hb
    clear hb
    go_enter Try.func45, Try.ntmps45
    go_wp2
    go_ret
    exact ⟨by rw [HB.out]; rfl, Below.refl _ _⟩
  · by_cases h2 : 16 < t.size
    · have hb : namedB t = false := by unfold namedB; simp; omega
      have HB := Lib.hid hb
      clear hb
      go_enter Try.func45, Try.ntmps45
      go_wp2
      go_ret
      exact ⟨by rw [HB.out]; rfl, Below.refl _ _⟩
    · have hnb : namedB t = (okK t (N t) && clean t) := by unfold namedB; rw [show decide (1 ≤ t.size) = true by simp; omega, show decide (t.size ≤ 16) = true by simp; omega]; simp
      have HNB := Lib.hid hnb
      have hNl := N_le t
      clear hnb
      go_enter Try.func45, Try.ntmps45
      go_wp2_with fail
      refine (signs_calls t _ (by omega)).mono ?_
      rintro e w1 ⟨lv, av, rfl, hol, hoa, hb, hne⟩
      obtain ⟨al, cl, rfl, hl1, hl2, hl3⟩ := own_slice hol
      have S1 := Lib.hid (sl_own hol)
      have HB := Lib.hid hb
      clear hol hoa hb hne hl3
      go_wp2_with fail
      go_loopw [6] (fun i wr => ∃ k : Nat, k ≤ N t ∧ i = .int .i64 (k : Int) ∧ okK t k = true ∧ wr = w1) (fun i _ => N t - (intOf i).toNat)
      case atStart => exact ⟨0, Nat.zero_le _, rfl, rfl, rfl⟩
      case round =>
        obtain ⟨k, hk, rfl, hok, rfl⟩ := hrel
        have HOK := Lib.hid hok
        clear hok
        by_cases hlt : k < N t
        · obtain ⟨bx, ox, x, vx, rfl, hbx, hx, hrx, hcx⟩ := S1.out.at1 hlt
          cases hrx
          have hxx : rn t (P t k) = x := by
            have h1 := rs_get (t := t) (k := k) hlt
            rw [hx] at h1
            exact (Option.some.inj h1).symm
          have HXX := Lib.hid hxx
          have HLT := Lib.hid hlt
          have hk0 : (0 : Int) ≤ (k : Int) := by omega
          have hkn : (k : Int) < (N t : Int) := by omega
          clear hx hxx
          by_cases hq8 : 97 ≤ x
          · have hf8 : (97 : Int) ≤ (x : Int) := by omega
            by_cases hq3 : x ≤ 122
            · have hf3 : (x : Int) ≤ 122 := by omega
              have HGO := Lib.hid (show okK t (k + 1) = true by rw [okK_succ, HOK.out, HXX.out]; simp [okC]; omega)
              go_wp2
              go_roundw
              case rel => exact ⟨k + 1, by have := HLT.out; omega, by go_num, HGO.out, trivial⟩
              case measure => have := HLT.out; simp [intOf] <;> omega
            · have hf3 : (122 : Int) < (x : Int) := by omega
              by_cases hq2 : x = 95
              · have hf2 : ((x : Int) == 95) = true := by rw [beq_iff_eq]; omega
                have HQ2 := Lib.hid hq2
                exfalso; omega
              · have hf2 : ((x : Int) == 95) = false := by rw [beq_eq_false_iff_ne]; omega
                by_cases hq1 : 127 < x
                · have hf1 : (127 : Int) < (x : Int) := by omega
                  have HGO := Lib.hid (show okK t (k + 1) = true by rw [okK_succ, HOK.out, HXX.out]; simp [okC]; omega)
                  go_wp2
                  go_roundw
                  case rel => exact ⟨k + 1, by have := HLT.out; omega, by go_num, HGO.out, trivial⟩
                  case measure => have := HLT.out; simp [intOf] <;> omega
                · have hf1 : (x : Int) ≤ 127 := by omega
                  have hg1 : (x : Int) ≤ 127 := by omega
                  have hg2 : (57 : Int) < (x : Int) := by omega
                  have HBAD := Lib.hid (okK_bad HLT.out (show okC k (rn t (P t k)) = false by rw [HXX.out]; simp [okC]; omega))
                  go_wp2
                  all_goals first
                    | (go_ret; exact ⟨by rw [HNB.out, HBAD.out]; rfl, HB.out⟩)
                    | (exfalso; rename_i hh; simp at hh; omega)
          · have hf8 : (x : Int) < 97 := by omega
            by_cases hq7 : x = 95
            · have hf7 : ((x : Int) == 95) = true := by rw [beq_iff_eq]; omega
              have HQ7 := Lib.hid hq7
              have HGO := Lib.hid (show okK t (k + 1) = true by rw [okK_succ, HOK.out, HXX.out]; simp [okC]; omega)
              go_wp2
              go_roundw
              case rel => exact ⟨k + 1, by have := HLT.out; omega, by go_num, HGO.out, trivial⟩
              case measure => have := HLT.out; simp [intOf] <;> omega
            · have hf7 : ((x : Int) == 95) = false := by rw [beq_eq_false_iff_ne]; omega
              by_cases hq6 : 48 ≤ x
              · have hf6 : (48 : Int) ≤ (x : Int) := by omega
                by_cases hq5 : x ≤ 57
                · have hf5 : (x : Int) ≤ 57 := by omega
                  by_cases hq4 : 0 < k
                  · have hf4 : (0 : Int) < (k : Int) := by omega
                    have HGO := Lib.hid (show okK t (k + 1) = true by rw [okK_succ, HOK.out, HXX.out]; simp [okC]; omega)
                    go_wp2
                    go_roundw
                    case rel => exact ⟨k + 1, by have := HLT.out; omega, by go_num, HGO.out, trivial⟩
                    case measure => have := HLT.out; simp [intOf] <;> omega
                  · have hf4 : (k : Int) ≤ 0 := by omega
                    have hg1 : (x : Int) ≤ 127 := by omega
                    have HBAD := Lib.hid (okK_bad HLT.out (show okC k (rn t (P t k)) = false by rw [HXX.out]; simp [okC]; omega))
                    go_wp2
                    all_goals first
                      | (go_ret; exact ⟨by rw [HNB.out, HBAD.out]; rfl, HB.out⟩)
                      | (exfalso; rename_i hh; simp at hh; omega)
                · have hf5 : (57 : Int) < (x : Int) := by omega
                  have hg1 : (x : Int) ≤ 127 := by omega
                  have HBAD := Lib.hid (okK_bad HLT.out (show okC k (rn t (P t k)) = false by rw [HXX.out]; simp [okC]; omega))
                  go_wp2
                  all_goals first
                    | (go_ret; exact ⟨by rw [HNB.out, HBAD.out]; rfl, HB.out⟩)
                    | (exfalso; rename_i hh; simp at hh; omega)
              · have hf6 : (x : Int) < 48 := by omega
                have hg1 : (x : Int) ≤ 127 := by omega
                have HBAD := Lib.hid (okK_bad HLT.out (show okC k (rn t (P t k)) = false by rw [HXX.out]; simp [okC]; omega))
                go_wp2
                all_goals first
                  | (go_ret; exact ⟨by rw [HNB.out, HBAD.out]; rfl, HB.out⟩)
                  | (exfalso; rename_i hh; simp at hh; omega)
        · obtain rfl : k = N t := by omega
          go_wp2
          go_ret
          exact ⟨by rw [HNB.out, HOK.out]; rfl, HB.out⟩
end Go.Proofs.Ytlclhinianamhaa
