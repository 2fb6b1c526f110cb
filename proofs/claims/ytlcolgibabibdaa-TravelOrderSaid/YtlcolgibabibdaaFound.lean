/- The contract of found. -/
import Derived.Test.YtlcolgibabibdaaSame14
import Derived.Deep.RegionHeld3
namespace Go.Proofs.Ytlcolgibabibdaa
open Go.RowKit Go.Deep
set_option linter.unusedVariables false

def zeroSnap : SnapD := ⟨0, 0, 0, 0, 0, 0, []⟩
def zeroCs : List Value := [.int .u64 0, .int .u64 0, .int .u64 0, .int .u64 0, .int .u64 0, .int .u32 0, .slice none 0 0]
theorem zeroSnap_reads (w : World) : SnapR w zeroCs zeroSnap := ⟨none, 0, 0, rfl, Nat.le_refl _, by unfold maxLen; omega, fun _ => rfl, Sl.nil_ _ _ _, by decide, by decide, by decide, by decide, by decide, by decide⟩
def TruePost (w : World) (e : Ending) (w' : World) : Prop := e = .returned (.bool true) ∧ Below w.heap.size w w'
theorem sameSnapB_self (s : SnapD) : sameSnapB s s = true := by simp [sameSnapB]

set_option maxRecDepth 100000 in
set_option maxHeartbeats 1000000 in
theorem found_none (cs : List Value) (t : TableD) (w : World) (h : TableR w cs t) : Calls Try.prog 12 #[.agg cs.toArray, .agg #[.int .u64 0, .int .u64 0, .int .u64 0, .int .u64 0, .int .u64 0, .int .u32 0, .slice none 0 0], .int .i64 2, .int .i64 (-1)] w (TruePost w) := by
  obtain ⟨a, n, c, a', n', c', rfl, _⟩ := h
  go_enter Try.func12, Try.ntmps12
  go_wp2_with fail
  refine (sameSnap zeroCs zeroCs zeroSnap zeroSnap _ (zeroSnap_reads _) (zeroSnap_reads _)).mono ?_
  rintro e w1 ⟨rfl, hb⟩
  rw [sameSnapB_self]
  go_wp2
  go_ret
  exact ⟨rfl, (((Below.refl _ _).alloc (Nat.le_refl _) _).alloc (by simp) _).trans (hb.mono (by simp; omega))⟩

set_option maxRecDepth 100000 in
set_option maxHeartbeats 2000000 in
theorem found_some (cs ds : List Value) (t : TableD) (s : SnapD) (m : Nat) (w : World) (h : TableR w cs t) (hs : SnapR w ds s) (hm : t.snaps[m]? = some s) (hl : t.snaps.length ≤ 100) : Calls Try.prog 12 #[.agg cs.toArray, .agg ds.toArray, .int .i64 0, .int .i64 (m : Int)] w (TruePost w) := by
  obtain ⟨a', n', c', a, n, c, rfl, _, _, _, _, _, _, _, hsn, _⟩ := h
  obtain ⟨a2, n2, c2, rfl, hr2⟩ := hs
  have SS := Lib.hid (⟨a2, n2, c2, rfl, hr2⟩ : SnapR w _ s)
  have hmn : m < n := by
    rcases Nat.lt_or_ge m n with h | h
    · exact h
    · rw [List.getElem?_eq_none (by have := hsn.1; omega)] at hm; cases hm
  have hn : n ≤ 100 := by have := hsn.1; omega
  obtain ⟨b, off, x, cs', rfl, hbl, hx, hcl, hr, hcell⟩ := hsn.at_ hmn
  rw [hm] at hx
  cases hx
  obtain ⟨a3, n3, c3, rfl, hr3⟩ := hr
  have SX := Lib.hid (⟨a3, n3, c3, rfl, hr3⟩ : SnapR w _ s)
  have d0 := hcell 0 _ rfl
  have d1 := hcell 1 _ rfl
  have d2 := hcell 2 _ rfl
  have d3 := hcell 3 _ rfl
  have d4 := hcell 4 _ rfl
  have d5 := hcell 5 _ rfl
  have d6 := hcell 6 _ rfl
  rw [Nat.add_zero] at d0
  have hm0 : (0 : Int) ≤ (m : Int) := by omega
  have hmi : (m : Int) < (n : Int) := by omega
  clear hcell hr3 hr2 hm hsn
  go_enter Try.func12, Try.ntmps12
  go_wp2
  go_region_with (go_at_call 24; refine (sameSnap _ _ s s _ (SnapR.stable _ _ _ _ (((Below.refl _ _).alloc (Nat.le_refl _) _).alloc (by simp) _).drew SS.out) (SnapR.stable _ _ _ _ (((Below.refl _ _).alloc (Nat.le_refl _) _).alloc (by simp) _).drew SX.out)).mono ?_; rintro e w1 ⟨rfl, hb⟩)
  all_goals
    go_wp2
    go_ret
    exact ⟨by first | (simp only [sameSnapB_self]; rfl) | rfl, (((Below.refl _ _).alloc (Nat.le_refl _) _).alloc (by simp) _).drew.trans (hb.mono (by simp; omega))⟩
end Go.Proofs.Ytlcolgibabibdaa
