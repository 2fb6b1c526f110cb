/- The contracts of catchmentref12.Texts and catchmentref14.SameSnap. -/
import Derived.Test.YtkofaoaglnjkgaaGreat14m
import Derived.BigQuiet
import Derived.Lib.Strings
import Derived.Deep.QuietTactic
namespace Go.Proofs.Ytkofaoaglnjkgaa
open Go.RowKit Go.Deep
set_option linter.unusedVariables false
set_option linter.unusedSimpArgs false

def TextsIs (w : World) (xs ys : List ByteArray) (e : Ending) (w' : World) : Prop := e = .returned (.bool (decide (xs = ys))) ∧ ∃ k, w' = w.drewN k
theorem bytes_ne {x y : ByteArray} (h : x ≠ y) : (x.toList == y.toList) = false := by
  rw [beq_eq_false_iff_ne, Lib.toList_data, Lib.toList_data]
  intro hc
  apply h
  cases x; cases y
  simp_all
theorem take_step {α : Type} {xs ys : List α} {k : Nat} {x : α} (h : xs.take k = ys.take k) (hx : xs[k]? = some x) (hy : ys[k]? = some x) : xs.take (k + 1) = ys.take (k + 1) := by
  rw [List.take_add_one, List.take_add_one, h, hx, hy]

set_option maxHeartbeats 400000 in
theorem texts_calls (a b : Option Addr) (n m c d : Nat) (xs ys : List ByteArray) (w : World) (ha : Sl 1 StrR w a n xs) (hb : Sl 1 StrR w b m ys) (hn : n ≤ maxLen) (hm : m ≤ maxLen) :
    Calls Try.prog 27 #[.slice a n c, .slice b m d] w (TextsIs w xs ys) := by
  unfold maxLen at hn hm
  by_cases hnm : n = m
  · have hne : ((n : Int) != (m : Int)) = false := by rw [bne_eq_false_iff_eq]; omega
    have HA := Lib.hid ha
    have HB := Lib.hid hb
    have hnm1 : n ≤ m := by omega
    have hnm2 : m ≤ n := by omega
    clear ha hb hnm
    go_enter Try.func27, Try.ntmps27
    go_wp2
    go_loopw [5] (fun s wr => ∃ k : Nat, k ≤ n ∧ s = .int .i64 k ∧ xs.take k = ys.take k ∧ ∃ q, wr = w.drewN q) (fun s _ => n - (intOf s).toNat)
    case atStart => exact ⟨0, Nat.zero_le _, rfl, rfl, 0, rfl⟩
    case round =>
      obtain ⟨k, hk, rfl, htk, q, rfl⟩ := hrel
      have HT := Lib.hid htk
      clear htk
      by_cases hlt : k < n
      · obtain ⟨ba, oa, x, vx, rfl, _, hx, hrx, h1⟩ := HA.out.at1 hlt
        obtain ⟨bb, ob, y, vy, rfl, _, hy, hry, h2⟩ := HB.out.at1 (i := k) (by omega)
        obtain ⟨hvx, _⟩ := hrx
        obtain ⟨hvy, _⟩ := hry
        cases hvx
        cases hvy
        have HX := Lib.hid hx
        have HY := Lib.hid hy
        have hk0 : (0 : Int) ≤ (k : Int) := by omega
        have hk1 : (k : Int) < (n : Int) := by omega
        have hk2 : (k : Int) < (m : Int) := by omega
        clear hx hy
        by_cases hxy : x = y
        · subst hxy
          go_wp2
          go_quiet (fail)
          go_wp2
          go_roundw
          case rel => exact ⟨k + 1, by omega, by go_num, take_step HT.out HX.out HY.out, _, rfl⟩
          case measure => simp [intOf] <;> omega
        · have hxb := bytes_ne hxy
          have hne2 : xs ≠ ys := by
            rintro rfl
            have := HX.out.symm.trans HY.out
            exact hxy (by injection this)
          have HXY := Lib.hid hne2
          clear hxy hne2
          go_wp2
          go_quiet (fail)
          go_wp2
          go_ret
          exact ⟨by simp [HXY.out], _, World.drewN_drewN _ _ _⟩
      · go_wp2
        go_ret
        have hxy : xs = ys := by
          have e := HT.out
          rwa [List.take_of_length_le (by have := HA.out.1; omega), List.take_of_length_le (by have := HB.out.1; omega)] at e
        exact ⟨by simp [hxy], q, rfl⟩
  · have hne : ((n : Int) != (m : Int)) = true := by rw [bne_iff_ne]; omega
    have hxy : xs ≠ ys := by
      rintro rfl
      exact hnm (ha.1.symm.trans hb.1)
    go_enter Try.func27, Try.ntmps27
    go_wp2
    go_ret
    exact ⟨by simp [hxy], 0, rfl⟩

def sameSnapB (s t : SnapD) : Bool := decide (s.id = t.id) && decide (s.parent = t.parent) && decide (s.seq = t.seq) && decide (s.offset = t.offset) && decide (s.time = t.time) && decide (s.schema = t.schema) && decide (s.mans = t.mans)
def SamePost (s t : SnapD) (w : World) (e : Ending) (w' : World) : Prop := e = .returned (.bool (sameSnapB s t)) ∧ Below w.heap.size w w'

end Go.Proofs.Ytkofaoaglnjkgaa
