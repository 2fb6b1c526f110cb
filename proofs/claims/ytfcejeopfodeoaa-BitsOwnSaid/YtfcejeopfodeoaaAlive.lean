/- The example that each statement begins with. -/
import Derived.Test.YtfcejeopfodeoaaUnpack
import Derived.Test.YtfcejeopfodeoaaSame
namespace Go.Proofs.Ytfcejeopfodeoaa
open Go.RowKit

theorem upto_check (xs : List Nat) (w p : Nat) (bs : List Nat) (hb : ∀ b ∈ bs, b < 256) (hp : p ≤ 8 * bs.length) (h : ∀ q, q < 8 * bs.length → bitOf bs q = (decide (q < p) && bitAt xs w q)) : Upto xs w p bs := by
  refine ⟨hb, fun q => ?_⟩
  by_cases hq : q < 8 * bs.length
  · exact h q hq
  · rw [bitOf_beyond bs q (by omega)]; simp; omega
theorem ex_pack : Upto [5, 1, 7] 3 9 [205, 1] := upto_check _ _ _ _ (by decide) (by decide) (by decide)
theorem ex_unpack : Unpacked [11] 1 [1, 1, 0, 1] := by
  intro j hj r
  simp at hj
  have : j = 0 ∨ j = 1 ∨ j = 2 ∨ j = 3 := by omega
  cases r with
  | zero => rcases this with rfl | rfl | rfl | rfl <;> decide
  | succ r => rcases this with rfl | rfl | rfl | rfl <;> simp [Nat.testBit_succ]
theorem ex_tail : Tail [27] 4 := ⟨4, by decide, by decide⟩
theorem ex_no_tail : ¬ Tail [11] 4 := by
  rintro ⟨q, h1, h2⟩
  by_cases hq : q < 8
  · have : q = 4 ∨ q = 5 ∨ q = 6 ∨ q = 7 := by omega
    rcases this with rfl | rfl | rfl | rfl <;> exact absurd h2 (by decide)
  · rw [bitOf_beyond _ _ (by simp; omega)] at h2; cases h2

set_option maxRecDepth 100000 in
set_option maxHeartbeats 1000000 in
theorem alive_calls (w : World) : Calls Try.prog 8 #[] w fun e w' => e = .returned (.bool true) ∧ Below w.heap.size w w' := by
  go_enter Try.func8, Try.ntmps8
  go_wp2_with fail
  refine (Pack_yes _ _ _ [5, 1, 7] _ 3 (Nums.lit _ _ _ _ _ rfl #[.int .u64 5, .int .u64 1, .int .u64 7] rfl _ (by simp)) (by decide) (by decide) (by decide) (by decide)).mono ?_
  rintro e w1 ⟨g, m, bs, rfl, hm, hup, hown, hb1⟩
  have hbs : bs = [205, 1] := Upto.unique hup ex_pack (by rw [hown.2.2.1, hm]; rfl)
  subst hbs
  simp only [List.length_cons, List.length_nil] at hm
  obtain rfl : m = 2 := hm
  have hn1 := Lib.hid hown.nums
  have hb1' := Lib.hid hb1
  clear hown hup hb1
  go_wp2_with fail
  refine (Unpack_yes _ _ _ _ 4 1 [11] (Nums.lit _ _ _ _ _ rfl #[.int .u8 11] rfl _ (by simp)) (by decide) (by decide) (by decide) (by decide) rfl ex_no_tail).mono ?_
  rintro e w2 ⟨a2, c2, xs, rfl, hl2, hup2, hn2, hb2⟩
  have hxs : xs = [1, 1, 0, 1] := Unpacked.unique hup2 ex_unpack hl2
  subst hxs
  have hn2h := Lib.hid hn2
  have hb2h := Lib.hid hb2
  clear hup2 hl2 hn2 hb2
  go_wp2_with fail
  refine (Unpack_tail _ _ _ _ 4 1 [27] (Nums.lit _ _ _ _ _ rfl #[.int .u8 27] rfl _ (by simp)) (by decide) (by decide) (by decide) (by decide) rfl ex_tail).mono ?_
  rintro e w3 ⟨rfl, rfl⟩
  have hn2' := Lib.hid (hn2h.out.alloc (.cells #[.int .u8 27] 5))
  have hcv := conv_bytes (c := 2) (((hn1.out.alloc (.cells #[.int .u8 11] 5)).below hb2h.out).alloc (.cells #[.int .u8 27] 5)) (by decide) 24 9 5 Try.underlying24 Try.underlying5 Try.underlying9
  rw [show strB [205, 1] = ⟨#[205, 1]⟩ from rfl] at hcv
  go_wp2_with fail
  refine (Same_calls _ _ 4 4 _ _ [1, 1, 0, 1] [1, 1, 0, 1] _ (hn2'.out.alloc _) (Nums.lit _ _ _ _ _ rfl #[.int .u64 1, .int .u64 1, .int .u64 0, .int .u64 1] rfl (w2.heap.size + 1) (by simp)) (by decide) (by decide)).mono ?_
  rintro e w4 ⟨rfl, q, rfl⟩
  go_wp2_with fail
  refine (Width_calls _ _ _ [5] _ (Nums.lit _ _ _ _ _ rfl #[.int .u64 5] rfl (w2.heap.size + 1 + 1) (by simp)) (by decide) (by decide)).mono ?_
  rintro e w5 ⟨rfl, rfl⟩
  rw [show wide [5] = 3 by decide]
  go_wp2_with fail
  go_ret
  refine ⟨rfl, ?_⟩
  have b1 : Below w.heap.size w w1 := (((Below.refl _ w).alloc (Nat.le_refl _) _).trans (hb1'.out.mono (by simp)))
  have b2 : Below w.heap.size w w2 := (b1.alloc b1.size _).trans (hb2h.out.mono (by have := b1.size; simp; omega))
  exact ((below_drewN (((b2.alloc b2.size _)).alloc (by have := b2.size; simp; omega) _) q).alloc (by have := b2.size; simp; omega) _)
end Go.Proofs.Ytfcejeopfodeoaa
