/- value: ValueOdd. -/
import Derived.Test.YtmdgljbgjhpmcaaVlFix
namespace Go.Proofs.Ytmdgljbgjhpmcaa
open Go.RowKit Go.Deep
set_option linter.unusedVariables false

set_option maxRecDepth 100000 in
set_option maxHeartbeats 2000000 in
theorem cellOdd (t : TypeId) (h1 : t ≠ 2) (h2 : t ≠ 4) (h3 : t ≠ 9) (v : Value) (w : World) : Calls Try.prog 14 #[.iface t v] w (ValIs (.tuple #[.agg #[.int .u8 0, .int .i64 0, .string ByteArray.empty], .bool false]) w) := by
  obtain ⟨i1, i2, i3, i4⟩ := assertsI64
  obtain ⟨b1, b2, b3, b4⟩ := assertsBool
  obtain ⟨s1, s2, s3, s4⟩ := assertsStr
  have e1 := i3 t h1
  have e2 := b3 t h2
  have e3 := s3 t h3
  clear i1 i2 i3 i4 b1 b2 b3 b4 s1 s2 s3 s4 h1 h2 h3
  go_enter Try.func14, Try.ntmps14
  go_wp2
  go_returns
  exact ⟨rfl, by repeat (first | exact Below.refl _ _ | refine Below.alloc ?_ (by simp <;> omega) _)⟩
def OddAt (W : World) (B i : Nat) : Prop := ∃ t v, W.cell? ⟨B, i, none⟩ = some (.iface t v) ∧ t ≠ 2 ∧ t ≠ 4 ∧ t ≠ 9
set_option maxRecDepth 100000 in
set_option maxHeartbeats 4000000 in
theorem valueOdd (a b : Int) (ad : Option Addr) (n c : Nat) (d : Int) (x y : Value) (w : World) :
    Calls Try.prog 5 #[.int .i64 a, .int .u32 b, .slice ad n c, .int .u64 d, .agg #[x, y]] w (TruthPost w) := by
  go_enter Try.func5, Try.ntmps5
  go_wp2_with fail
  refine (alive_calls _).mono ?_
  rintro e w1 ⟨rfl, hb1⟩
  have c0 := (hb1.cell (p := ⟨w.heap.size, 0, none⟩) (by simp <;> omega)).trans (by rw [World.cell?_alloc_lt _ _ _ (by simp), World.cell?_alloc_new])
  have d0 := (hb1.cell (p := ⟨w.heap.size + 1, 0, none⟩) (by simp)).trans (by rw [World.cell?_alloc_at _ _ _ _ (by simp)])
  have d1 := (hb1.cell (p := ⟨w.heap.size + 1, 1, none⟩) (by simp)).trans (by rw [World.cell?_alloc_at _ _ _ _ (by simp)])
  have hz1 : w.heap.size + 1 < w1.heap.size := by have := hb1.size; simp at this; omega
  have B1 := Lib.hid ((((Below.refl w.heap.size w).alloc (Nat.le_refl _) _).alloc (by simp) _).trans (hb1.mono (by simp <;> omega)))
  clear hb1
  go_wp2_with fail
  have hbx : Below w1.heap.size w1 (w1.alloc (.cells #[Value.iface 3 (.int .i64 a), .iface 41 (.int .u32 b), .iface 42 (.slice ad n c), .iface 43 (.int .u64 d), .iface 44 (.agg #[x, y]), .iface 21 (.int .i32 (wrap32 a)), .iface 5 (.int .u8 (d % 256)), .iface 21 (.int .i32 (wrap32 a)), .iface 45 (.agg #[]), .iface 46 (.pointer (some ⟨w.heap.size, 0, none⟩))] 20)) := (Below.refl _ _).alloc (Nat.le_refl _) _
  have hcx : ∀ (i : Nat) (v : Value), (#[Value.iface 3 (.int .i64 a), .iface 41 (.int .u32 b), .iface 42 (.slice ad n c), .iface 43 (.int .u64 d), .iface 44 (.agg #[x, y]), .iface 21 (.int .i32 (wrap32 a)), .iface 5 (.int .u8 (d % 256)), .iface 21 (.int .i32 (wrap32 a)), .iface 45 (.agg #[]), .iface 46 (.pointer (some ⟨w.heap.size, 0, none⟩))] : Array Value)[i]? = some v → (w1.alloc (.cells #[Value.iface 3 (.int .i64 a), .iface 41 (.int .u32 b), .iface 42 (.slice ad n c), .iface 43 (.int .u64 d), .iface 44 (.agg #[x, y]), .iface 21 (.int .i32 (wrap32 a)), .iface 5 (.int .u8 (d % 256)), .iface 21 (.int .i32 (wrap32 a)), .iface 45 (.agg #[]), .iface 46 (.pointer (some ⟨w.heap.size, 0, none⟩))] 20)).cell? ⟨w1.heap.size, i, none⟩ = some v := fun i v h => by rw [World.cell?_alloc_new]; exact h
  have hzx : w1.heap.size < (w1.alloc (.cells #[Value.iface 3 (.int .i64 a), .iface 41 (.int .u32 b), .iface 42 (.slice ad n c), .iface 43 (.int .u64 d), .iface 44 (.agg #[x, y]), .iface 21 (.int .i32 (wrap32 a)), .iface 5 (.int .u8 (d % 256)), .iface 21 (.int .i32 (wrap32 a)), .iface 45 (.agg #[]), .iface 46 (.pointer (some ⟨w.heap.size, 0, none⟩))] 20)).heap.size := by simp
  generalize w1.alloc (.cells #[Value.iface 3 (.int .i64 a), .iface 41 (.int .u32 b), .iface 42 (.slice ad n c), .iface 43 (.int .u64 d), .iface 44 (.agg #[x, y]), .iface 21 (.int .i32 (wrap32 a)), .iface 5 (.int .u8 (d % 256)), .iface 21 (.int .i32 (wrap32 a)), .iface 45 (.agg #[]), .iface 46 (.pointer (some ⟨w.heap.size, 0, none⟩))] 20) = W0 at *
  have hodd : ∀ i, i < 10 → OddAt W0 w1.heap.size i := by
    intro i hi
    match i, hi with
    | 0, _ => exact ⟨_, _, hcx 0 _ rfl, by decide, by decide, by decide⟩
    | 1, _ => exact ⟨_, _, hcx 1 _ rfl, by decide, by decide, by decide⟩
    | 2, _ => exact ⟨_, _, hcx 2 _ rfl, by decide, by decide, by decide⟩
    | 3, _ => exact ⟨_, _, hcx 3 _ rfl, by decide, by decide, by decide⟩
    | 4, _ => exact ⟨_, _, hcx 4 _ rfl, by decide, by decide, by decide⟩
    | 5, _ => exact ⟨_, _, hcx 5 _ rfl, by decide, by decide, by decide⟩
    | 6, _ => exact ⟨_, _, hcx 6 _ rfl, by decide, by decide, by decide⟩
    | 7, _ => exact ⟨_, _, hcx 7 _ rfl, by decide, by decide, by decide⟩
    | 8, _ => exact ⟨_, _, hcx 8 _ rfl, by decide, by decide, by decide⟩
    | 9, _ => exact ⟨_, _, hcx 9 _ rfl, by decide, by decide, by decide⟩
    | n + 10, h => omega
  have HODD := Lib.hid hodd
  have BX := Lib.hid (B1.out.trans (hbx.mono (by omega)))
  have hzw : w.heap.size ≤ W0.heap.size := BX.out.size
  clear hcx hodd hbx c0 d0 d1
  go_loopw [41] (fun i wr => ∃ k : Nat, k ≤ 10 ∧ i = .int .i64 (k : Int) ∧ Below W0.heap.size W0 wr) (fun i _ => 10 - (intOf i).toNat)
  case atStart => exact ⟨0, by omega, rfl, Below.refl _ _⟩
  case round =>
    obtain ⟨k, hk, rfl, hb⟩ := hrel
    have HB := Lib.hid hb
    by_cases hlt : k < 10
    · obtain ⟨t, v, hv, n1, n2, n3⟩ := HODD.out k hlt
      have z := (hb.cell (p := ⟨w1.heap.size, k, none⟩) hzx).trans hv
      have HC := Lib.hid (cellOdd t n1 n2 n3 v)
      have hk0 : (0 : Int) ≤ (k : Int) := by omega
      have hk10 : (k : Int) < 10 := by omega
      clear hv n1 n2 n3 hb
      go_wp2_with fail
      refine (HC.out _).mono ?_
      rintro e w4 ⟨rfl, hb4⟩
      have HB4 := Lib.hid (HB.out.trans (hb4.mono HB.out.size))
      clear hb4
      go_wp2
      go_roundw
      case rel => exact ⟨k + 1, by omega, by go_num, HB4.out.alloc HB4.out.size _⟩
      case measure => simp [intOf] <;> omega
    · go_wp2
      go_ret
      exact ⟨rfl, BX.out.trans (HB.out.mono hzw)⟩
theorem cells_arr2 : Try.prog.cellsOf 44 = 2 := by kernel_rfl
theorem open_arr2 {w : World} {r : Reach} {b : Nat} {v : Value} (h : Value.okWide Try.prog w r b 44 v) : ∃ x y, v = .agg #[x, y] := by
  unfold Value.okWide at h
  rw [Try.underlying44, cells_arr2] at h
  obtain ⟨cs, rfl, hs, _⟩ := h
  match cs, hs with
  | ⟨[x, y]⟩, _ => exact ⟨x, y, rfl⟩
theorem open_bytesv {H : Type} {enc : TypeId × Value → H} {w : World} {r : Reach} {b base : Nat} {spare : Nat → Bool} {held : Bool} {v : Value} {d : DataW H} {ps : List MemPlace} (h : Value.okWide Try.prog w r b 42 v) (ht : DataW.Trod enc Try.prog w base spare held 42 v d ps) :
    ∃ a n c, v = .slice a n c := by
  obtain ⟨fuel, hf⟩ := ht
  obtain ⟨_, xs, a, n, c, hcs, _⟩ := opens_slice Try.underlying42 (by kernel_rfl) (by decide) (opens_int Try.underlying5) _ _ _ _ _ _ _ hf
  exact ⟨a, n, c, slice_val Try.underlying42 h hcs⟩
end Go.Proofs.Ytmdgljbgjhpmcaa
