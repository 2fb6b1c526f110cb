/- The contract of catchmentref02.Sign. -/
import Derived.Test.YtkofaoaglnjkgaaSgBase
import Derived.Test.YtkofaoaglnjkgaaProg
import Derived.WalkKit
import Derived.WalkSpells
import Derived.Handy
import Derived.Lib.Hide
namespace Go.Proofs.Ytkofaoaglnjkgaa
open Go.RowKit
set_option linter.unusedVariables false
set_option linter.unusedSimpArgs false

theorem bt_eq (t : ByteArray) (j : Nat) (h : j < t.size) : (t[j]'h).toNat = bt t j := by
  unfold bt
  congr 1
  simp only [ByteArray.get!, getElem, ByteArray.get]
  have : j < t.data.size := h
  rw [getElem!_pos t.data j this]
  rfl
theorem wrap_byte (n : Nat) (h : n < 256) : RowKit.wrap64 (n : Int) = (n : Int) := by unfold RowKit.wrap64; omega
theorem sign_fin {t : ByteArray} {x y : Int} {a b : Nat} {c : Bool} (hs : (a, b, c) = (rn t 0, wd t 0, okAt t 0)) (hx : x = (a : Int)) (hy : y = (b : Int)) :
    Ending.returned (.tuple #[.int .i64 x, .int .i64 y, .bool c]) = .returned (.tuple #[.int .i64 (rn t 0 : Nat), .int .i64 (wd t 0 : Nat), .bool (okAt t 0)]) := by
  simp only [Prod.mk.injEq] at hs
  obtain ⟨h1, h2, h3⟩ := hs
  rw [hx, hy, h1, h2, h3]
def accF (t : ByteArray) (a : Nat) : Nat → Nat
  | 0 => a
  | k + 1 => accF t a k * 64 + (bt t (k + 1) - 128)
theorem acc_start (t : ByteArray) (b o : Nat) (h : o ≤ b) : Value.int .i64 ((b : Int) - (o : Int)) = .int .i64 ((accF t (b - o) 0 : Nat) : Int) := by
  show _ = Value.int .i64 ((b - o : Nat) : Int)
  rw [Int.ofNat_sub h]
def SignPost (t : ByteArray) (w : World) (e : Ending) (w' : World) : Prop := e = .returned (.tuple #[.int .i64 (rn t 0 : Nat), .int .i64 (wd t 0 : Nat), .bool (okAt t 0)]) ∧ w' = w

set_option maxRecDepth 100000 in
set_option maxHeartbeats 1000000 in
theorem sign_low (t : ByteArray) (w : World) (h : 0 < t.size) (hb : bt t 0 < 128) : Calls Try.prog 54 #[.string t] w (SignPost t w) := by
  have hs := sign_at t 0 h
  have hbe := bt_eq t 0 h
  generalize hb0 : bt t 0 = b at *
  have hw := wrap_byte b (by omega)
  unfold signN at hs
  rw [if_pos (by omega)] at hs
  have HS := Lib.hid hs
  clear hs hb0
  go_enter Try.func54, Try.ntmps54
  go_wp2
  go_ret3
  exact ⟨sign_fin HS.out rfl rfl, rfl⟩

set_option maxRecDepth 100000 in
set_option maxHeartbeats 1000000 in
theorem sign_bad1 (t : ByteArray) (w : World) (h : 0 < t.size) (hb : 128 ≤ bt t 0) (hb2 : bt t 0 < 194) : Calls Try.prog 54 #[.string t] w (SignPost t w) := by
  have hs := sign_at t 0 h
  have hbe := bt_eq t 0 h
  generalize hb0 : bt t 0 = b at *
  have hw := wrap_byte b (by omega)
  unfold signN at hs
  rw [if_neg (by omega), if_neg (by omega), if_neg (by omega), if_neg (by omega)] at hs
  have HS := Lib.hid hs
  clear hs hb0
  go_enter Try.func54, Try.ntmps54
  go_wp2
  go_ret3
  exact ⟨sign_fin HS.out rfl rfl, rfl⟩

set_option maxRecDepth 100000 in
set_option maxHeartbeats 1000000 in
theorem sign_bad2 (t : ByteArray) (w : World) (h : 0 < t.size) (hb : 245 ≤ bt t 0) (hb2 : bt t 0 < 256) : Calls Try.prog 54 #[.string t] w (SignPost t w) := by
  have hs := sign_at t 0 h
  have hbe := bt_eq t 0 h
  generalize hb0 : bt t 0 = b at *
  have hw := wrap_byte b (by omega)
  unfold signN at hs
  rw [if_neg (by omega), if_neg (by omega), if_neg (by omega), if_neg (by omega)] at hs
  have HS := Lib.hid hs
  clear hs hb0
  go_enter Try.func54, Try.ntmps54
  go_wp2
  go_ret3
  exact ⟨sign_fin HS.out rfl rfl, rfl⟩

set_option maxRecDepth 100000 in
set_option maxHeartbeats 4000000 in
theorem sign_good2 (t : ByteArray) (w : World) (h : 0 < t.size) (hb : 194 ≤ bt t 0) (hb2 : bt t 0 < 224) : Calls Try.prog 54 #[.string t] w (SignPost t w) := by
  have hs := sign_at t 0 h
  have hbe := bt_eq t 0 h
  generalize hb0 : bt t 0 = b at *
  have hw := wrap_byte b (by omega)
  unfold signN at hs
  rw [if_neg (by omega), if_pos (by omega)] at hs
  rw [Nat.sub_zero] at hs
  have HS := Lib.hid hs
  clear hs hb0
  by_cases hsz : t.size < 2
  · go_enter Try.func54, Try.ntmps54
    go_wp2
    go_ret3
    have hs := HS.out
    rw [if_pos hsz] at hs
    exact ⟨sign_fin hs rfl rfl, rfl⟩
  · go_enter Try.func54, Try.ntmps54
    go_wp2_with fail
    go_loopw [8, 9] (fun v i wr => ∃ k : Nat, k ≤ 1 ∧ i = .int .i64 ((k + 1 : Nat) : Int) ∧ v = .int .i64 (accF t (b - 192) k : Nat) ∧ accF t (b - 192) k < 32 * 64 ^ k ∧ (∀ j, 1 ≤ j → j ≤ k → 128 ≤ bt t j ∧ bt t j < 192) ∧ wr = w) (fun _ i _ => 2 - (intOf i).toNat)
    case atStart => exact ⟨0, Nat.zero_le _, rfl, (by show Value.int .i64 ((b : Int) - 192) = Value.int .i64 ((b - 192 : Nat) : Int); congr 1; omega), by rw [Nat.pow_zero]; show b - 192 < _; omega, fun j h1 h2 => by omega, rfl⟩
    case round =>
      obtain ⟨k, hk, rfl, rfl, hacc, hall, rfl⟩ := hrel
      have HA := Lib.hid hall
      clear hall
      by_cases hlt : k < 1
      · have hkt : k + 1 < t.size := by omega
        have hbk := bt_eq t (k + 1) hkt
        have hbl := bt_lt t (k + 1)
        have hac : accF t (b - 192) (k + 1) = accF t (b - 192) k * 64 + (bt t (k + 1) - 128) := rfl
        have HAC := Lib.hid hac
        clear hac
        have ha64 : accF t (b - 192) k < 524288 := by
          have : 64 ^ k ≤ 64 ^ 2 := Nat.pow_le_pow_right (by omega) (by omega)
          omega
        have HACC := Lib.hid hacc
        clear hacc
        have HBT := Lib.hid (rfl : bt t (k + 1) = bt t (k + 1))
        generalize hcc : bt t (k + 1) = c at *
        have HCC := Lib.hid hcc
        have hwc := wrap_byte c hbl
        clear hcc
        by_cases h1 : c < 128
        · go_wp2
          go_ret3
          have hs := HS.out
          simp only [Nat.zero_add] at hs
          have hco := HCC.out
          have hv := HA.out
          rw [if_neg hsz] at hs
          obtain rfl : k = 0 := by omega
          simp only [Nat.reduceAdd, Nat.zero_add] at hco
          rw [if_pos (by omega)] at hs
          exact ⟨sign_fin hs rfl rfl, rfl⟩
        · by_cases h2 : 192 ≤ c
          · go_wp2
            go_ret3
            have hs := HS.out
            simp only [Nat.zero_add] at hs
            have hco := HCC.out
            have hv := HA.out
            rw [if_neg hsz] at hs
            obtain rfl : k = 0 := by omega
            simp only [Nat.reduceAdd, Nat.zero_add] at hco
            rw [if_pos (by omega)] at hs
            exact ⟨sign_fin hs rfl rfl, rfl⟩
          · have hnn : (accF t (b - 192) k : Int) * 64 + (c : Int) - 128 = ((accF t (b - 192) (k + 1) : Nat) : Int) := by have := HAC.out; omega
            have HNN := Lib.hid hnn
            clear hnn
            go_wp2
            go_roundw
            case rel =>
              refine ⟨_, _, _, _, _, ⟨k + 1, by omega, by go_num, by rw [← HNN.out], ?_, fun j h3 h4 => ?_⟩, rfl, rfl, rfl, rfl, rfl⟩
              · have := HAC.out; have := HACC.out; rw [Nat.pow_succ]; omega
              · by_cases hj : j = k + 1
                · subst hj; have := HCC.out; omega
                · exact HA.out j h3 (by omega)
            case measure => simp [intOf] <;> omega
      · obtain rfl : k = 1 := by omega
        have hC : accF t (b - 192) 1 = ((b - 192) * 64 + (bt t 1 - 128)) := rfl
        have hs := HS.out
        simp only [Nat.zero_add] at hs
        rw [if_neg hsz, if_neg (by have := HA.out 1 (by omega) (by omega); omega), ← hC] at hs
        have HS2 := Lib.hid hs
        have hacc2 : accF t (b - 192) 1 < 8388608 := by omega
        clear hs hC hacc
        generalize accF t (b - 192) 1 = C at *
        by_cases h1 : C < 128
        · go_wp2
          go_ret3
          have hs := HS2.out
          rw [if_pos (by omega)] at hs
          exact ⟨sign_fin hs rfl rfl, rfl⟩
        · by_cases h2 : 1114111 < C
          · go_wp2
            go_ret3
            have hs := HS2.out
            rw [if_pos (by omega)] at hs
            exact ⟨sign_fin hs rfl rfl, rfl⟩
          · by_cases h3 : 55296 ≤ C
            · by_cases h4 : C < 57344
              · go_wp2
                go_ret3
                have hs := HS2.out
                rw [if_pos (by omega)] at hs
                exact ⟨sign_fin hs rfl rfl, rfl⟩
              · go_wp2
                go_ret3
                have hs := HS2.out
                rw [if_neg (by omega)] at hs
                exact ⟨sign_fin hs rfl rfl, rfl⟩
            · go_wp2
              go_ret3
              have hs := HS2.out
              rw [if_neg (by omega)] at hs
              exact ⟨sign_fin hs rfl rfl, rfl⟩

set_option maxRecDepth 100000 in
set_option maxHeartbeats 4000000 in
theorem sign_good3 (t : ByteArray) (w : World) (h : 0 < t.size) (hb : 224 ≤ bt t 0) (hb2 : bt t 0 < 240) : Calls Try.prog 54 #[.string t] w (SignPost t w) := by
  have hs := sign_at t 0 h
  have hbe := bt_eq t 0 h
  generalize hb0 : bt t 0 = b at *
  have hw := wrap_byte b (by omega)
  unfold signN at hs
  rw [if_neg (by omega), if_neg (by omega), if_pos (by omega)] at hs
  rw [Nat.sub_zero] at hs
  have HS := Lib.hid hs
  clear hs hb0
  by_cases hsz : t.size < 3
  · go_enter Try.func54, Try.ntmps54
    go_wp2
    go_ret3
    have hs := HS.out
    rw [if_pos hsz] at hs
    exact ⟨sign_fin hs rfl rfl, rfl⟩
  · go_enter Try.func54, Try.ntmps54
    go_wp2_with fail
    go_loopw [8, 9] (fun v i wr => ∃ k : Nat, k ≤ 2 ∧ i = .int .i64 ((k + 1 : Nat) : Int) ∧ v = .int .i64 (accF t (b - 224) k : Nat) ∧ accF t (b - 224) k < 32 * 64 ^ k ∧ (∀ j, 1 ≤ j → j ≤ k → 128 ≤ bt t j ∧ bt t j < 192) ∧ wr = w) (fun _ i _ => 3 - (intOf i).toNat)
    case atStart => exact ⟨0, Nat.zero_le _, rfl, (by show Value.int .i64 ((b : Int) - 224) = Value.int .i64 ((b - 224 : Nat) : Int); congr 1; omega), by rw [Nat.pow_zero]; show b - 224 < _; omega, fun j h1 h2 => by omega, rfl⟩
    case round =>
      obtain ⟨k, hk, rfl, rfl, hacc, hall, rfl⟩ := hrel
      have HA := Lib.hid hall
      clear hall
      by_cases hlt : k < 2
      · have hkt : k + 1 < t.size := by omega
        have hbk := bt_eq t (k + 1) hkt
        have hbl := bt_lt t (k + 1)
        have hac : accF t (b - 224) (k + 1) = accF t (b - 224) k * 64 + (bt t (k + 1) - 128) := rfl
        have HAC := Lib.hid hac
        clear hac
        have ha64 : accF t (b - 224) k < 524288 := by
          have : 64 ^ k ≤ 64 ^ 2 := Nat.pow_le_pow_right (by omega) (by omega)
          omega
        have HACC := Lib.hid hacc
        clear hacc
        have HBT := Lib.hid (rfl : bt t (k + 1) = bt t (k + 1))
        generalize hcc : bt t (k + 1) = c at *
        have HCC := Lib.hid hcc
        have hwc := wrap_byte c hbl
        clear hcc
        by_cases h1 : c < 128
        · go_wp2
          go_ret3
          have hs := HS.out
          simp only [Nat.zero_add] at hs
          have hco := HCC.out
          have hv := HA.out
          rw [if_neg hsz] at hs
          have : k = 0 ∨ k = 1 := by omega
          rcases this with rfl | rfl
          · simp only [Nat.reduceAdd, Nat.zero_add] at hco
            rw [if_pos (by omega)] at hs
            exact ⟨sign_fin hs rfl rfl, rfl⟩
          · simp only [Nat.reduceAdd, Nat.zero_add] at hco
            rw [if_neg (by have := hv 1 (by omega) (by omega); omega), if_pos (by omega)] at hs
            exact ⟨sign_fin hs rfl rfl, rfl⟩
        · by_cases h2 : 192 ≤ c
          · go_wp2
            go_ret3
            have hs := HS.out
            simp only [Nat.zero_add] at hs
            have hco := HCC.out
            have hv := HA.out
            rw [if_neg hsz] at hs
            have : k = 0 ∨ k = 1 := by omega
            rcases this with rfl | rfl
            · simp only [Nat.reduceAdd, Nat.zero_add] at hco
              rw [if_pos (by omega)] at hs
              exact ⟨sign_fin hs rfl rfl, rfl⟩
            · simp only [Nat.reduceAdd, Nat.zero_add] at hco
              rw [if_neg (by have := hv 1 (by omega) (by omega); omega), if_pos (by omega)] at hs
              exact ⟨sign_fin hs rfl rfl, rfl⟩
          · have hnn : (accF t (b - 224) k : Int) * 64 + (c : Int) - 128 = ((accF t (b - 224) (k + 1) : Nat) : Int) := by have := HAC.out; omega
            have HNN := Lib.hid hnn
            clear hnn
            go_wp2
            go_roundw
            case rel =>
              refine ⟨_, _, _, _, _, ⟨k + 1, by omega, by go_num, by rw [← HNN.out], ?_, fun j h3 h4 => ?_⟩, rfl, rfl, rfl, rfl, rfl⟩
              · have := HAC.out; have := HACC.out; rw [Nat.pow_succ]; omega
              · by_cases hj : j = k + 1
                · subst hj; have := HCC.out; omega
                · exact HA.out j h3 (by omega)
            case measure => simp [intOf] <;> omega
      · obtain rfl : k = 2 := by omega
        have hC : accF t (b - 224) 2 = (((b - 224) * 64 + (bt t 1 - 128)) * 64 + (bt t 2 - 128)) := rfl
        have hs := HS.out
        simp only [Nat.zero_add] at hs
        rw [if_neg hsz, if_neg (by have := HA.out 1 (by omega) (by omega); omega), if_neg (by have := HA.out 2 (by omega) (by omega); omega), ← hC] at hs
        have HS2 := Lib.hid hs
        have hacc2 : accF t (b - 224) 2 < 8388608 := by omega
        clear hs hC hacc
        generalize accF t (b - 224) 2 = C at *
        by_cases h1 : C < 2048
        · go_wp2
          go_ret3
          have hs := HS2.out
          rw [if_pos (by omega)] at hs
          exact ⟨sign_fin hs rfl rfl, rfl⟩
        · by_cases h2 : 1114111 < C
          · go_wp2
            go_ret3
            have hs := HS2.out
            rw [if_pos (by omega)] at hs
            exact ⟨sign_fin hs rfl rfl, rfl⟩
          · by_cases h3 : 55296 ≤ C
            · by_cases h4 : C < 57344
              · go_wp2
                go_ret3
                have hs := HS2.out
                rw [if_pos (by omega)] at hs
                exact ⟨sign_fin hs rfl rfl, rfl⟩
              · go_wp2
                go_ret3
                have hs := HS2.out
                rw [if_neg (by omega)] at hs
                exact ⟨sign_fin hs rfl rfl, rfl⟩
            · go_wp2
              go_ret3
              have hs := HS2.out
              rw [if_neg (by omega)] at hs
              exact ⟨sign_fin hs rfl rfl, rfl⟩

set_option maxRecDepth 100000 in
set_option maxHeartbeats 4000000 in
theorem sign_good4 (t : ByteArray) (w : World) (h : 0 < t.size) (hb : 240 ≤ bt t 0) (hb2 : bt t 0 < 245) : Calls Try.prog 54 #[.string t] w (SignPost t w) := by
  have hs := sign_at t 0 h
  have hbe := bt_eq t 0 h
  generalize hb0 : bt t 0 = b at *
  have hw := wrap_byte b (by omega)
  unfold signN at hs
  rw [if_neg (by omega), if_neg (by omega), if_neg (by omega), if_pos (by omega)] at hs
  rw [Nat.sub_zero] at hs
  have HS := Lib.hid hs
  clear hs hb0
  by_cases hsz : t.size < 4
  · go_enter Try.func54, Try.ntmps54
    go_wp2
    go_ret3
    have hs := HS.out
    rw [if_pos hsz] at hs
    exact ⟨sign_fin hs rfl rfl, rfl⟩
  · go_enter Try.func54, Try.ntmps54
    go_wp2_with fail
    go_loopw [8, 9] (fun v i wr => ∃ k : Nat, k ≤ 3 ∧ i = .int .i64 ((k + 1 : Nat) : Int) ∧ v = .int .i64 (accF t (b - 240) k : Nat) ∧ accF t (b - 240) k < 32 * 64 ^ k ∧ (∀ j, 1 ≤ j → j ≤ k → 128 ≤ bt t j ∧ bt t j < 192) ∧ wr = w) (fun _ i _ => 4 - (intOf i).toNat)
    case atStart => exact ⟨0, Nat.zero_le _, rfl, (by show Value.int .i64 ((b : Int) - 240) = Value.int .i64 ((b - 240 : Nat) : Int); congr 1; omega), by rw [Nat.pow_zero]; show b - 240 < _; omega, fun j h1 h2 => by omega, rfl⟩
    case round =>
      obtain ⟨k, hk, rfl, rfl, hacc, hall, rfl⟩ := hrel
      have HA := Lib.hid hall
      clear hall
      by_cases hlt : k < 3
      · have hkt : k + 1 < t.size := by omega
        have hbk := bt_eq t (k + 1) hkt
        have hbl := bt_lt t (k + 1)
        have hac : accF t (b - 240) (k + 1) = accF t (b - 240) k * 64 + (bt t (k + 1) - 128) := rfl
        have HAC := Lib.hid hac
        clear hac
        have ha64 : accF t (b - 240) k < 524288 := by
          have : 64 ^ k ≤ 64 ^ 2 := Nat.pow_le_pow_right (by omega) (by omega)
          omega
        have HACC := Lib.hid hacc
        clear hacc
        have HBT := Lib.hid (rfl : bt t (k + 1) = bt t (k + 1))
        generalize hcc : bt t (k + 1) = c at *
        have HCC := Lib.hid hcc
        have hwc := wrap_byte c hbl
        clear hcc
        by_cases h1 : c < 128
        · go_wp2
          go_ret3
          have hs := HS.out
          simp only [Nat.zero_add] at hs
          have hco := HCC.out
          have hv := HA.out
          rw [if_neg hsz] at hs
          have : k = 0 ∨ k = 1 ∨ k = 2 := by omega
          rcases this with rfl | rfl | rfl
          · simp only [Nat.reduceAdd, Nat.zero_add] at hco
            rw [if_pos (by omega)] at hs
            exact ⟨sign_fin hs rfl rfl, rfl⟩
          · simp only [Nat.reduceAdd, Nat.zero_add] at hco
            rw [if_neg (by have := hv 1 (by omega) (by omega); omega), if_pos (by omega)] at hs
            exact ⟨sign_fin hs rfl rfl, rfl⟩
          · simp only [Nat.reduceAdd, Nat.zero_add] at hco
            rw [if_neg (by have := hv 1 (by omega) (by omega); omega), if_neg (by have := hv 2 (by omega) (by omega); omega), if_pos (by omega)] at hs
            exact ⟨sign_fin hs rfl rfl, rfl⟩
        · by_cases h2 : 192 ≤ c
          · go_wp2
            go_ret3
            have hs := HS.out
            simp only [Nat.zero_add] at hs
            have hco := HCC.out
            have hv := HA.out
            rw [if_neg hsz] at hs
            have : k = 0 ∨ k = 1 ∨ k = 2 := by omega
            rcases this with rfl | rfl | rfl
            · simp only [Nat.reduceAdd, Nat.zero_add] at hco
              rw [if_pos (by omega)] at hs
              exact ⟨sign_fin hs rfl rfl, rfl⟩
            · simp only [Nat.reduceAdd, Nat.zero_add] at hco
              rw [if_neg (by have := hv 1 (by omega) (by omega); omega), if_pos (by omega)] at hs
              exact ⟨sign_fin hs rfl rfl, rfl⟩
            · simp only [Nat.reduceAdd, Nat.zero_add] at hco
              rw [if_neg (by have := hv 1 (by omega) (by omega); omega), if_neg (by have := hv 2 (by omega) (by omega); omega), if_pos (by omega)] at hs
              exact ⟨sign_fin hs rfl rfl, rfl⟩
          · have hnn : (accF t (b - 240) k : Int) * 64 + (c : Int) - 128 = ((accF t (b - 240) (k + 1) : Nat) : Int) := by have := HAC.out; omega
            have HNN := Lib.hid hnn
            clear hnn
            go_wp2
            go_roundw
            case rel =>
              refine ⟨_, _, _, _, _, ⟨k + 1, by omega, by go_num, by rw [← HNN.out], ?_, fun j h3 h4 => ?_⟩, rfl, rfl, rfl, rfl, rfl⟩
              · have := HAC.out; have := HACC.out; rw [Nat.pow_succ]; omega
              · by_cases hj : j = k + 1
                · subst hj; have := HCC.out; omega
                · exact HA.out j h3 (by omega)
            case measure => simp [intOf] <;> omega
      · obtain rfl : k = 3 := by omega
        have hC : accF t (b - 240) 3 = ((((b - 240) * 64 + (bt t 1 - 128)) * 64 + (bt t 2 - 128)) * 64 + (bt t 3 - 128)) := rfl
        have hs := HS.out
        simp only [Nat.zero_add] at hs
        rw [if_neg hsz, if_neg (by have := HA.out 1 (by omega) (by omega); omega), if_neg (by have := HA.out 2 (by omega) (by omega); omega), if_neg (by have := HA.out 3 (by omega) (by omega); omega), ← hC] at hs
        have HS2 := Lib.hid hs
        have hacc2 : accF t (b - 240) 3 < 8388608 := by omega
        clear hs hC hacc
        generalize accF t (b - 240) 3 = C at *
        by_cases h1 : C < 65536
        · go_wp2
          go_ret3
          have hs := HS2.out
          rw [if_pos (by omega)] at hs
          exact ⟨sign_fin hs rfl rfl, rfl⟩
        · by_cases h2 : 1114111 < C
          · go_wp2
            go_ret3
            have hs := HS2.out
            rw [if_pos (by omega)] at hs
            exact ⟨sign_fin hs rfl rfl, rfl⟩
          · by_cases h3 : 55296 ≤ C
            · by_cases h4 : C < 57344
              · exfalso; omega
              · go_wp2
                go_ret3
                have hs := HS2.out
                rw [if_neg (by omega)] at hs
                exact ⟨sign_fin hs rfl rfl, rfl⟩
            · exfalso; omega

theorem sign_calls (t : ByteArray) (w : World) (h : 0 < t.size) : Calls Try.prog 54 #[.string t] w (SignPost t w) := by
  have := bt_lt t 0
  by_cases c0 : bt t 0 < 128
  · exact sign_low t w h c0
  · by_cases c1 : bt t 0 < 194
    · exact sign_bad1 t w h (by omega) c1
    · by_cases c2 : bt t 0 < 224
      · exact sign_good2 t w h (by omega) c2
      · by_cases c3 : bt t 0 < 240
        · exact sign_good3 t w h (by omega) c3
        · by_cases c4 : bt t 0 < 245
          · exact sign_good4 t w h (by omega) c4
          · exact sign_bad2 t w h (by omega) (by omega)
end Go.Proofs.Ytkofaoaglnjkgaa
