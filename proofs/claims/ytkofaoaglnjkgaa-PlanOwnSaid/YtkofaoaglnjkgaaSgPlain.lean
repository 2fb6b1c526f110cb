/- Plain: signs of a text, by the model's own decoding. -/
import Derived.WalkKit
import Derived.Lib.DecodeN
import Derived.Lib.Hide
namespace Go.Proofs.Ytkofaoaglnjkgaa
open Go.Lib (decodeN decode_at)
set_option linter.unusedVariables false
set_option linter.unusedSimpArgs false

def rn (s : ByteArray) (i : Nat) : Nat := (Utf8.decode s i).1
def wd (s : ByteArray) (i : Nat) : Nat := (Utf8.decode s i).2
def okAt (s : ByteArray) (i : Nat) : Bool := !(decide (rn s i = 65533) && decide (wd s i = 1))
def bt (s : ByteArray) (i : Nat) : Nat := (s.get! i).toNat
theorem bt_lt (s : ByteArray) (i : Nat) : bt s i < 256 := (s.get! i).toNat_lt
/-- What the reference reckons. -/
def signN (n b0 b1 b2 b3 : Nat) : Nat × Nat × Bool :=
  if b0 < 128 then (b0, 1, true)
  else if 194 ≤ b0 ∧ b0 < 224 then
    if n < 2 then (65533, 1, false) else if b1 < 128 ∨ 192 ≤ b1 then (65533, 1, false)
    else if ((b0 - 192) * 64 + (b1 - 128)) < 128 ∨ 1114111 < ((b0 - 192) * 64 + (b1 - 128)) ∨ (55296 ≤ ((b0 - 192) * 64 + (b1 - 128)) ∧ ((b0 - 192) * 64 + (b1 - 128)) < 57344) then (65533, 1, false) else (((b0 - 192) * 64 + (b1 - 128)), 2, true)
  else if 224 ≤ b0 ∧ b0 < 240 then
    if n < 3 then (65533, 1, false) else if b1 < 128 ∨ 192 ≤ b1 then (65533, 1, false) else if b2 < 128 ∨ 192 ≤ b2 then (65533, 1, false)
    else if (((b0 - 224) * 64 + (b1 - 128)) * 64 + (b2 - 128)) < 2048 ∨ 1114111 < (((b0 - 224) * 64 + (b1 - 128)) * 64 + (b2 - 128)) ∨ (55296 ≤ (((b0 - 224) * 64 + (b1 - 128)) * 64 + (b2 - 128)) ∧ (((b0 - 224) * 64 + (b1 - 128)) * 64 + (b2 - 128)) < 57344) then (65533, 1, false) else ((((b0 - 224) * 64 + (b1 - 128)) * 64 + (b2 - 128)), 3, true)
  else if 240 ≤ b0 ∧ b0 < 245 then
    if n < 4 then (65533, 1, false) else if b1 < 128 ∨ 192 ≤ b1 then (65533, 1, false) else if b2 < 128 ∨ 192 ≤ b2 then (65533, 1, false) else if b3 < 128 ∨ 192 ≤ b3 then (65533, 1, false)
    else if ((((b0 - 240) * 64 + (b1 - 128)) * 64 + (b2 - 128)) * 64 + (b3 - 128)) < 65536 ∨ 1114111 < ((((b0 - 240) * 64 + (b1 - 128)) * 64 + (b2 - 128)) * 64 + (b3 - 128)) ∨ (55296 ≤ ((((b0 - 240) * 64 + (b1 - 128)) * 64 + (b2 - 128)) * 64 + (b3 - 128)) ∧ ((((b0 - 240) * 64 + (b1 - 128)) * 64 + (b2 - 128)) * 64 + (b3 - 128)) < 57344) then (65533, 1, false) else (((((b0 - 240) * 64 + (b1 - 128)) * 64 + (b2 - 128)) * 64 + (b3 - 128)), 4, true)
  else (65533, 1, false)
def okN (p : Nat × Nat) : Nat × Nat × Bool := (p.1, p.2, !(decide (p.1 = 65533) && decide (p.2 = 1)))
set_option maxHeartbeats 4000000 in
set_option maxRecDepth 100000 in
theorem signN_eq (n b0 b1 b2 b3 : Nat) (h0 : b0 < 256) (h1 : b1 < 256) (h2 : b2 < 256) (h3 : b3 < 256) (hn : 0 < n) : signN n b0 b1 b2 b3 = okN (decodeN n b0 b1 b2 b3) := by
  unfold signN decodeN okN
  by_cases c0 : b0 < 128
  · rw [if_pos c0, if_pos c0]
    have : ¬ b0 = 65533 := by omega
    simp [this]
  · rw [if_neg c0, if_neg c0]
    by_cases c1 : 194 ≤ b0 ∧ b0 < 224
    · rw [if_pos c1]
      repeat' split
      all_goals first | rfl | (exfalso; omega) | (refine Prod.ext (by dsimp only; omega) (by simp)) | (refine Prod.ext (by dsimp only; omega) (by dsimp only; simp; omega))
    · rw [if_neg c1]
      by_cases c2 : 224 ≤ b0 ∧ b0 < 240
      · rw [if_pos c2]
        repeat' split
        all_goals first | rfl | (exfalso; omega) | (refine Prod.ext (by dsimp only; omega) (by simp)) | (refine Prod.ext (by dsimp only; omega) (by dsimp only; simp; omega))
      · rw [if_neg c2]
        by_cases c3 : 240 ≤ b0 ∧ b0 < 245
        · rw [if_pos c3]
          repeat' split
          all_goals first | rfl | (exfalso; omega) | (refine Prod.ext (by dsimp only; omega) (by simp)) | (refine Prod.ext (by dsimp only; omega) (by dsimp only; simp; omega))
        · rw [if_neg c3]
          repeat' split
          all_goals first | rfl | (exfalso; omega) | (refine Prod.ext (by dsimp only; omega) (by simp)) | (refine Prod.ext (by dsimp only; omega) (by dsimp only; simp; omega))
theorem sign_at (s : ByteArray) (i : Nat) (hi : i < s.size) : signN (s.size - i) (bt s i) (bt s (i + 1)) (bt s (i + 2)) (bt s (i + 3)) = (rn s i, wd s i, okAt s i) := by
  rw [signN_eq _ _ _ _ _ (bt_lt _ _) (bt_lt _ _) (bt_lt _ _) (bt_lt _ _) (by omega)]
  unfold okN rn wd okAt rn wd
  rw [decode_at]
  rfl
end Go.Proofs.Ytkofaoaglnjkgaa
