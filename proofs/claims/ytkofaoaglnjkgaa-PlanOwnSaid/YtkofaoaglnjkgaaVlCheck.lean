/- The contracts of catchmentref01.Check and value.Of. -/
import Derived.Test.YtkofaoaglnjkgaaVlVal
import Derived.Lib.Strings
namespace Go.Proofs.Ytkofaoaglnjkgaa
open Go.RowKit Go.Deep
set_option linter.unusedVariables false
set_option linter.unusedSimpArgs false

/-- An error's number of a cell. -/
def chk (c : CellD) : Int :=
  if 3 < c.kind then 10
  else if (c.kind ≠ 3 ∧ c.s.size ≠ 0) ∨ (c.kind ≠ 1 ∧ c.kind ≠ 2 ∧ c.n ≠ 0) ∨ (c.kind = 2 ∧ c.n ≠ 0 ∧ c.n ≠ 1) then 1
  else if 64 < c.s.size then 5 else 0
def valOf (c : CellD) : ValD :=
  if c.kind = 1 then .whole c.n else if c.kind = 2 then .truth (decide (c.n = 1)) else if c.kind = 3 then .text c.s else .nil
theorem empty_of {s : ByteArray} (h : s.size = 0) : s = ByteArray.empty := ByteArray.size_eq_zero_iff.1 h
theorem list_empty {s : ByteArray} (h : s.size ≠ 0) : (s.toList == []) = false := by
  rw [beq_eq_false_iff_ne, Lib.toList_data]
  intro e
  apply h
  have : s.data.toList.length = 0 := by rw [e]; rfl
  have h2 : s.size = s.data.toList.length := (Array.length_toList (xs := s.data)).symm
  omega
theorem list_empty' : (ByteArray.empty.toList == ([] : List UInt8)) = true := by decide +kernel
set_option maxRecDepth 100000 in
set_option maxHeartbeats 1000000 in
theorem chk_big (k n : Int) (s : ByteArray) (hk : 3 < k) (w : World) : Calls Try.prog 29 #[.agg #[.int .u8 k, .int .i64 n, .string s]] w (ValIs (.int .i64 10) w) := by
  go_enter Try.func29, Try.ntmps29
  go_wp2
  all_goals (go_ret; exact ⟨rfl, by repeat (first | exact Below.refl _ _ | refine Below.alloc ?_ (by simp <;> omega) _)⟩)
set_option maxRecDepth 100000 in
set_option maxHeartbeats 1000000 in
theorem of_big (k n : Int) (s : ByteArray) (hk : 3 < k) (w : World) : Calls Try.prog 52 #[.agg #[.int .u8 k, .int .i64 n, .string s]] w (ValIs (.tuple #[.nilIface, .int .i64 10]) w) := by
  go_enter Try.func52, Try.ntmps52
  go_wp2
  all_goals (go_ret2; exact ⟨rfl, by repeat (first | exact Below.refl _ _ | refine Below.alloc ?_ (by simp <;> omega) _)⟩)
set_option maxRecDepth 100000 in
set_option maxHeartbeats 1000000 in
theorem chk_0s (n : Int) (s : ByteArray) (hs : s.size ≠ 0) (w : World) : Calls Try.prog 29 #[.agg #[.int .u8 0, .int .i64 n, .string s]] w (ValIs (.int .i64 1) w) := by
  have q0 := list_empty hs
  go_enter Try.func29, Try.ntmps29
  go_wp2
  all_goals (go_ret; exact ⟨rfl, by repeat (first | exact Below.refl _ _ | refine Below.alloc ?_ (by simp <;> omega) _)⟩)
set_option maxRecDepth 100000 in
set_option maxHeartbeats 1000000 in
theorem of_0s (n : Int) (s : ByteArray) (hs : s.size ≠ 0) (w : World) : Calls Try.prog 52 #[.agg #[.int .u8 0, .int .i64 n, .string s]] w (ValIs (.tuple #[.nilIface, .int .i64 1]) w) := by
  have q0 := list_empty hs
  go_enter Try.func52, Try.ntmps52
  go_wp2
  all_goals (go_ret2; exact ⟨rfl, by repeat (first | exact Below.refl _ _ | refine Below.alloc ?_ (by simp <;> omega) _)⟩)
set_option maxRecDepth 100000 in
set_option maxHeartbeats 1000000 in
theorem chk_1s (n : Int) (s : ByteArray) (hs : s.size ≠ 0) (w : World) : Calls Try.prog 29 #[.agg #[.int .u8 1, .int .i64 n, .string s]] w (ValIs (.int .i64 1) w) := by
  have q0 := list_empty hs
  go_enter Try.func29, Try.ntmps29
  go_wp2
  all_goals (go_ret; exact ⟨rfl, by repeat (first | exact Below.refl _ _ | refine Below.alloc ?_ (by simp <;> omega) _)⟩)
set_option maxRecDepth 100000 in
set_option maxHeartbeats 1000000 in
theorem of_1s (n : Int) (s : ByteArray) (hs : s.size ≠ 0) (w : World) : Calls Try.prog 52 #[.agg #[.int .u8 1, .int .i64 n, .string s]] w (ValIs (.tuple #[.nilIface, .int .i64 1]) w) := by
  have q0 := list_empty hs
  go_enter Try.func52, Try.ntmps52
  go_wp2
  all_goals (go_ret2; exact ⟨rfl, by repeat (first | exact Below.refl _ _ | refine Below.alloc ?_ (by simp <;> omega) _)⟩)
set_option maxRecDepth 100000 in
set_option maxHeartbeats 1000000 in
theorem chk_2s (n : Int) (s : ByteArray) (hs : s.size ≠ 0) (w : World) : Calls Try.prog 29 #[.agg #[.int .u8 2, .int .i64 n, .string s]] w (ValIs (.int .i64 1) w) := by
  have q0 := list_empty hs
  go_enter Try.func29, Try.ntmps29
  go_wp2
  all_goals (go_ret; exact ⟨rfl, by repeat (first | exact Below.refl _ _ | refine Below.alloc ?_ (by simp <;> omega) _)⟩)
set_option maxRecDepth 100000 in
set_option maxHeartbeats 1000000 in
theorem of_2s (n : Int) (s : ByteArray) (hs : s.size ≠ 0) (w : World) : Calls Try.prog 52 #[.agg #[.int .u8 2, .int .i64 n, .string s]] w (ValIs (.tuple #[.nilIface, .int .i64 1]) w) := by
  have q0 := list_empty hs
  go_enter Try.func52, Try.ntmps52
  go_wp2
  all_goals (go_ret2; exact ⟨rfl, by repeat (first | exact Below.refl _ _ | refine Below.alloc ?_ (by simp <;> omega) _)⟩)
set_option maxRecDepth 100000 in
set_option maxHeartbeats 1000000 in
theorem chk_0n (n : Int) (hn : (n == 0) = false) (w : World) : Calls Try.prog 29 #[.agg #[.int .u8 0, .int .i64 n, .string ByteArray.empty]] w (ValIs (.int .i64 1) w) := by
  have q0 := list_empty'
  have hn2 : (n != 0) = true := by rw [bne, hn]; rfl
  go_enter Try.func29, Try.ntmps29
  go_wp2
  all_goals (go_ret; exact ⟨rfl, by repeat (first | exact Below.refl _ _ | refine Below.alloc ?_ (by simp <;> omega) _)⟩)
set_option maxRecDepth 100000 in
set_option maxHeartbeats 1000000 in
theorem of_0n (n : Int) (hn : (n == 0) = false) (w : World) : Calls Try.prog 52 #[.agg #[.int .u8 0, .int .i64 n, .string ByteArray.empty]] w (ValIs (.tuple #[.nilIface, .int .i64 1]) w) := by
  have q0 := list_empty'
  have hn2 : (n != 0) = true := by rw [bne, hn]; rfl
  go_enter Try.func52, Try.ntmps52
  go_wp2
  all_goals (go_ret2; exact ⟨rfl, by repeat (first | exact Below.refl _ _ | refine Below.alloc ?_ (by simp <;> omega) _)⟩)
set_option maxRecDepth 100000 in
set_option maxHeartbeats 1000000 in
theorem chk_0  (w : World) : Calls Try.prog 29 #[.agg #[.int .u8 0, .int .i64 0, .string ByteArray.empty]] w (ValIs (.int .i64 0) w) := by
  have q0 := list_empty'
  go_enter Try.func29, Try.ntmps29
  go_wp2
  all_goals (go_ret; exact ⟨rfl, by repeat (first | exact Below.refl _ _ | refine Below.alloc ?_ (by simp <;> omega) _)⟩)
set_option maxRecDepth 100000 in
set_option maxHeartbeats 1000000 in
theorem of_0  (w : World) : Calls Try.prog 52 #[.agg #[.int .u8 0, .int .i64 0, .string ByteArray.empty]] w (ValIs (.tuple #[.nilIface, .int .i64 0]) w) := by
  have q0 := list_empty'
  go_enter Try.func52, Try.ntmps52
  go_wp2
  all_goals (go_ret2; exact ⟨rfl, by repeat (first | exact Below.refl _ _ | refine Below.alloc ?_ (by simp <;> omega) _)⟩)
set_option maxRecDepth 100000 in
set_option maxHeartbeats 1000000 in
theorem chk_1 (n : Int) (w : World) : Calls Try.prog 29 #[.agg #[.int .u8 1, .int .i64 n, .string ByteArray.empty]] w (ValIs (.int .i64 0) w) := by
  have q0 := list_empty'
  go_enter Try.func29, Try.ntmps29
  go_wp2
  all_goals (go_ret; exact ⟨rfl, by repeat (first | exact Below.refl _ _ | refine Below.alloc ?_ (by simp <;> omega) _)⟩)
set_option maxRecDepth 100000 in
set_option maxHeartbeats 1000000 in
theorem of_1 (n : Int) (w : World) : Calls Try.prog 52 #[.agg #[.int .u8 1, .int .i64 n, .string ByteArray.empty]] w (ValIs (.tuple #[.iface 2 (.int .i64 n), .int .i64 0]) w) := by
  have q0 := list_empty'
  go_enter Try.func52, Try.ntmps52
  go_wp2
  all_goals (go_ret2; exact ⟨rfl, by repeat (first | exact Below.refl _ _ | refine Below.alloc ?_ (by simp <;> omega) _)⟩)
set_option maxRecDepth 100000 in
set_option maxHeartbeats 1000000 in
theorem chk_2n (n : Int) (hn : (n == 0) = false) (hn1 : (n == 1) = false) (w : World) : Calls Try.prog 29 #[.agg #[.int .u8 2, .int .i64 n, .string ByteArray.empty]] w (ValIs (.int .i64 1) w) := by
  have q0 := list_empty'
  have hn2 : (n != 0) = true := by rw [bne, hn]; rfl
  have hn3 : (n != 1) = true := by rw [bne, hn1]; rfl
  go_enter Try.func29, Try.ntmps29
  go_wp2
  all_goals (go_ret; exact ⟨rfl, by repeat (first | exact Below.refl _ _ | refine Below.alloc ?_ (by simp <;> omega) _)⟩)
set_option maxRecDepth 100000 in
set_option maxHeartbeats 1000000 in
theorem of_2n (n : Int) (hn : (n == 0) = false) (hn1 : (n == 1) = false) (w : World) : Calls Try.prog 52 #[.agg #[.int .u8 2, .int .i64 n, .string ByteArray.empty]] w (ValIs (.tuple #[.nilIface, .int .i64 1]) w) := by
  have q0 := list_empty'
  have hn2 : (n != 0) = true := by rw [bne, hn]; rfl
  have hn3 : (n != 1) = true := by rw [bne, hn1]; rfl
  go_enter Try.func52, Try.ntmps52
  go_wp2
  all_goals (go_ret2; exact ⟨rfl, by repeat (first | exact Below.refl _ _ | refine Below.alloc ?_ (by simp <;> omega) _)⟩)
set_option maxRecDepth 100000 in
set_option maxHeartbeats 1000000 in
theorem chk_20  (w : World) : Calls Try.prog 29 #[.agg #[.int .u8 2, .int .i64 0, .string ByteArray.empty]] w (ValIs (.int .i64 0) w) := by
  have q0 := list_empty'
  go_enter Try.func29, Try.ntmps29
  go_wp2
  all_goals (go_ret; exact ⟨rfl, by repeat (first | exact Below.refl _ _ | refine Below.alloc ?_ (by simp <;> omega) _)⟩)
set_option maxRecDepth 100000 in
set_option maxHeartbeats 1000000 in
theorem of_20  (w : World) : Calls Try.prog 52 #[.agg #[.int .u8 2, .int .i64 0, .string ByteArray.empty]] w (ValIs (.tuple #[.iface 4 (.bool false), .int .i64 0]) w) := by
  have q0 := list_empty'
  go_enter Try.func52, Try.ntmps52
  go_wp2
  all_goals (go_ret2; exact ⟨rfl, by repeat (first | exact Below.refl _ _ | refine Below.alloc ?_ (by simp <;> omega) _)⟩)
set_option maxRecDepth 100000 in
set_option maxHeartbeats 1000000 in
theorem chk_21  (w : World) : Calls Try.prog 29 #[.agg #[.int .u8 2, .int .i64 1, .string ByteArray.empty]] w (ValIs (.int .i64 0) w) := by
  have q0 := list_empty'
  go_enter Try.func29, Try.ntmps29
  go_wp2
  all_goals (go_ret; exact ⟨rfl, by repeat (first | exact Below.refl _ _ | refine Below.alloc ?_ (by simp <;> omega) _)⟩)
set_option maxRecDepth 100000 in
set_option maxHeartbeats 1000000 in
theorem of_21  (w : World) : Calls Try.prog 52 #[.agg #[.int .u8 2, .int .i64 1, .string ByteArray.empty]] w (ValIs (.tuple #[.iface 4 (.bool true), .int .i64 0]) w) := by
  have q0 := list_empty'
  go_enter Try.func52, Try.ntmps52
  go_wp2
  all_goals (go_ret2; exact ⟨rfl, by repeat (first | exact Below.refl _ _ | refine Below.alloc ?_ (by simp <;> omega) _)⟩)
set_option maxRecDepth 100000 in
set_option maxHeartbeats 1000000 in
theorem chk_3n (n : Int) (s : ByteArray) (hn : (n == 0) = false) (w : World) : Calls Try.prog 29 #[.agg #[.int .u8 3, .int .i64 n, .string s]] w (ValIs (.int .i64 1) w) := by
  have hn2 : (n != 0) = true := by rw [bne, hn]; rfl
  go_enter Try.func29, Try.ntmps29
  go_wp2
  all_goals (go_ret; exact ⟨rfl, by repeat (first | exact Below.refl _ _ | refine Below.alloc ?_ (by simp <;> omega) _)⟩)
set_option maxRecDepth 100000 in
set_option maxHeartbeats 1000000 in
theorem of_3n (n : Int) (s : ByteArray) (hn : (n == 0) = false) (w : World) : Calls Try.prog 52 #[.agg #[.int .u8 3, .int .i64 n, .string s]] w (ValIs (.tuple #[.nilIface, .int .i64 1]) w) := by
  have hn2 : (n != 0) = true := by rw [bne, hn]; rfl
  go_enter Try.func52, Try.ntmps52
  go_wp2
  all_goals (go_ret2; exact ⟨rfl, by repeat (first | exact Below.refl _ _ | refine Below.alloc ?_ (by simp <;> omega) _)⟩)
set_option maxRecDepth 100000 in
set_option maxHeartbeats 1000000 in
theorem chk_3l (s : ByteArray) (hs : (64 : Int) < (s.size : Int)) (w : World) : Calls Try.prog 29 #[.agg #[.int .u8 3, .int .i64 0, .string s]] w (ValIs (.int .i64 5) w) := by
  go_enter Try.func29, Try.ntmps29
  go_wp2
  all_goals (go_ret; exact ⟨rfl, by repeat (first | exact Below.refl _ _ | refine Below.alloc ?_ (by simp <;> omega) _)⟩)
set_option maxRecDepth 100000 in
set_option maxHeartbeats 1000000 in
theorem of_3l (s : ByteArray) (hs : (64 : Int) < (s.size : Int)) (w : World) : Calls Try.prog 52 #[.agg #[.int .u8 3, .int .i64 0, .string s]] w (ValIs (.tuple #[.nilIface, .int .i64 5]) w) := by
  go_enter Try.func52, Try.ntmps52
  go_wp2
  all_goals (go_ret2; exact ⟨rfl, by repeat (first | exact Below.refl _ _ | refine Below.alloc ?_ (by simp <;> omega) _)⟩)
set_option maxRecDepth 100000 in
set_option maxHeartbeats 1000000 in
theorem chk_3 (s : ByteArray) (hs : (s.size : Int) ≤ 64) (w : World) : Calls Try.prog 29 #[.agg #[.int .u8 3, .int .i64 0, .string s]] w (ValIs (.int .i64 0) w) := by
  go_enter Try.func29, Try.ntmps29
  go_wp2
  all_goals (go_ret; exact ⟨rfl, by repeat (first | exact Below.refl _ _ | refine Below.alloc ?_ (by simp <;> omega) _)⟩)
set_option maxRecDepth 100000 in
set_option maxHeartbeats 1000000 in
theorem of_3 (s : ByteArray) (hs : (s.size : Int) ≤ 64) (w : World) : Calls Try.prog 52 #[.agg #[.int .u8 3, .int .i64 0, .string s]] w (ValIs (.tuple #[.iface 9 (.string s), .int .i64 0]) w) := by
  go_enter Try.func52, Try.ntmps52
  go_wp2
  all_goals (go_ret2; exact ⟨rfl, by repeat (first | exact Below.refl _ _ | refine Below.alloc ?_ (by simp <;> omega) _)⟩)
end Go.Proofs.Ytkofaoaglnjkgaa
