/- The contract of the reference's Same. -/
import Derived.Test.YtfcejeopfodeoaaKit
import Derived.Test.YtfcejeopfodeoaaShelf
import Derived.BigQuiet
import Derived.Deep.QuietTactic
import Derived.Deep.Draws
import Derived.Handy
namespace Go.Proofs.Ytfcejeopfodeoaa
open Go.RowKit
set_option linter.unusedVariables false

theorem take_step_eq {xs ys : List Nat} {k : Nat} (h : xs.take k = ys.take k) (hx : k < xs.length) (hy : k < ys.length) (he : ((xs[k]?.getD 0 : Nat) : Int) = ((ys[k]?.getD 0 : Nat) : Int)) : xs.take (k + 1) = ys.take (k + 1) := by
  rw [List.take_succ_eq_append_getElem hx, List.take_succ_eq_append_getElem hy, h]
  simp [hx, hy] at he
  have : xs[k] = ys[k] := by omega
  rw [this]
theorem ne_of_get {xs ys : List Nat} {k : Nat} (he : ((xs[k]?.getD 0 : Nat) : Int) ≠ ((ys[k]?.getD 0 : Nat) : Int)) : xs ≠ ys := by
  rintro rfl; exact he rfl

def SameIs (w : World) (xs ys : List Nat) (e : Ending) (w' : World) : Prop := e = .returned (.bool (decide (xs = ys))) ∧ ∃ k, w' = w.drewN k

set_option maxHeartbeats 400000 in
theorem Same_calls (a b : Option Addr) (n m c d : Nat) (xs ys : List Nat) (w : World) (ha : Nums .u64 w a n xs) (hb : Nums .u64 w b m ys) (hn : n ≤ maxLen) (hm : m ≤ maxLen) :
    Calls Try.prog 15 #[.slice a n c, .slice b m d] w (SameIs w xs ys) := by
  unfold maxLen at hn hm
  by_cases hnm : n = m
  · have hne : ((n : Int) != (m : Int)) = false := by rw [bne_eq_false_iff_eq]; omega
    have HA := Lib.hid ha
    have HB := Lib.hid hb
    have HN := Lib.hid hnm
    have hnm1 : n ≤ m := by omega
    have hnm2 : m ≤ n := by omega
    clear ha hb hnm
    go_enter Try.func15, Try.ntmps15
    go_wp2
    go_loopw [5] (fun s wr => ∃ k : Nat, k ≤ n ∧ s = .int .i64 k ∧ xs.take k = ys.take k ∧ ∃ q, wr = w.drewN q) (fun s _ => n - (intOf s).toNat)
    case atStart => exact ⟨0, Nat.zero_le _, rfl, rfl, 0, rfl⟩
    case round =>
      obtain ⟨k, hk, rfl, htk, q, rfl⟩ := hrel
      have HT := Lib.hid htk
      clear htk
      by_cases hlt : k < n
      · obtain ⟨ba, oa, rfl, _, hca⟩ := HA.out.2 (by omega)
        obtain ⟨bb, ob, rfl, _, hcb⟩ := HB.out.2 (by omega)
        have h1 := hca k hlt
        have h2 := hcb k (by omega)
        clear hca hcb
        have hk0 : (0 : Int) ≤ (k : Int) := by omega
        have hk1 : (k : Int) < (n : Int) := by omega
        have hk2 : (k : Int) < (m : Int) := by omega
        go_wp2
        go_quiet (fail)
        go_wp2
        · have h3 : (((xs[k]?.getD 0 : Nat) : Int) != ((ys[k]?.getD 0 : Nat) : Int)) = true := by assumption
          have h4 : xs ≠ ys := ne_of_get (by simpa using h3)
          go_ret
          exact ⟨by simp [h4], _, World.drewN_drewN _ _ _⟩
        · have h3 : (((xs[k]?.getD 0 : Nat) : Int) != ((ys[k]?.getD 0 : Nat) : Int)) = false := by assumption
          go_roundw
          case rel => exact ⟨k + 1, by omega, by go_num, take_step_eq HT.out (by have := HA.out.1; omega) (by have := HB.out.1; omega) (bne_eq_false_iff_eq.1 h3), _, rfl⟩
          case measure => simp [intOf] <;> omega
      · go_wp2
        go_ret
        have hxy : xs = ys := by
          have e := HT.out
          rwa [List.take_of_length_le (by have := HA.out.1; omega), List.take_of_length_le (by have := HB.out.1; omega)] at e
        exact ⟨by simp [hxy], q, rfl⟩
  · have hne : ((n : Int) != (m : Int)) = true := by rw [bne_iff_ne]; omega
    have hxy : xs ≠ ys := by
      rintro rfl
      exact hnm (ha.1.symm.trans hb.1)
    go_enter Try.func15, Try.ntmps15
    go_wp2
    go_ret
    exact ⟨by simp [hxy], 0, rfl⟩
end Go.Proofs.Ytfcejeopfodeoaa
