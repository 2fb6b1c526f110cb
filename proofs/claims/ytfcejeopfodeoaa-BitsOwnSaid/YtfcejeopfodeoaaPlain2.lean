/- Plain facts on unpacking. No program in sight. -/
import Derived.Test.YtfcejeopfodeoaaPlain
namespace Go.Proofs.Ytfcejeopfodeoaa

/-- The number whose lowest k bits are the bytes' from bit p on. -/
def IsNum (bs : List Nat) (p k x : Nat) : Prop := ∀ r, x.testBit r = (decide (r < k) && bitOf bs (p + r))
theorem IsNum.unique {bs : List Nat} {p k x y : Nat} (h : IsNum bs p k x) (h' : IsNum bs p k y) : x = y :=
  Nat.eq_of_testBit_eq fun r => by rw [h r, h' r]
theorem IsNum.zero (bs : List Nat) (p : Nat) : IsNum bs p 0 0 := fun r => by simp
theorem IsNum.lt {bs : List Nat} {p k x : Nat} (h : IsNum bs p k x) : x < 2 ^ k := by
  apply Nat.lt_pow_two_of_testBit
  intro r hr
  rw [h r]; simp [show ¬ r < k by omega]
theorem part_testBit (y s r k t : Nat) : ((((y >>> s &&& (2 ^ r - 1))) <<< k) % 2 ^ 64).testBit t = (decide (t < 64 ∧ k ≤ t ∧ t - k < r) && y.testBit (s + (t - k))) := by
  rw [Nat.testBit_mod_two_pow, Nat.testBit_shiftLeft, Nat.testBit_and, Nat.testBit_shiftRight, Nat.testBit_two_pow_sub_one]
  by_cases h1 : t < 64 <;> by_cases h2 : k ≤ t <;> by_cases h4 : t - k < r <;> simp [h1, h2, h4]
/-- A step of the unpacking: as many bits as the byte has. -/
theorem IsNum.step {bs : List Nat} {p k r x w : Nat} (h : IsNum bs p k x) (hr : r = min (8 - (p + k) % 8) (w - k)) (hk : k < w) (hw : w ≤ 64) :
    IsNum bs p (k + r) (x ||| (((bs.getD ((p + k) / 8) 0 >>> ((p + k) % 8) &&& (2 ^ r - 1)) <<< k) % 2 ^ 64)) := by
  intro t
  rw [Nat.testBit_or, h t, part_testBit]
  by_cases h1 : t < k
  · have : ¬ (t < 64 ∧ k ≤ t ∧ t - k < r) := by omega
    have h2 : t < k + r := by omega
    simp only [h1, h2, this, decide_true, decide_false, Bool.true_and, Bool.false_and, Bool.or_false]
  · by_cases h2 : t < k + r
    · have h3 : t < 64 ∧ k ≤ t ∧ t - k < r := by omega
      simp only [h1, h2, h3, and_self, decide_true, decide_false, Bool.true_and, Bool.false_and, Bool.false_or]
      unfold bitOf
      rw [show (p + t) / 8 = (p + k) / 8 by omega, show (p + t) % 8 = (p + k) % 8 + (t - k) by omega]
    · have h3 : ¬ (t < 64 ∧ k ≤ t ∧ t - k < r) := by omega
      simp only [h1, h2, h3, decide_false, Bool.false_and, Bool.or_false]

/-- Numbers that are unpacked: of those ahead of i all, of i the lowest k bits. -/
def Unp (bs : List Nat) (d i k : Nat) (xs : List Nat) : Prop := ∀ j, j < xs.length → IsNum bs (j * d) (if j < i then d else if j = i then k else 0) (xs.getD j 0)
theorem Unp.start (bs : List Nat) (d n : Nat) : Unp bs d 0 0 (List.replicate n 0) := by
  intro j hj
  have : (List.replicate n 0).getD j 0 = 0 := by simp at hj; simp [List.getD, hj]
  rw [this]
  have : (if j < 0 then d else if j = 0 then 0 else 0) = 0 := by split <;> simp_all
  rw [this]; exact IsNum.zero _ _
theorem Unp.next {bs : List Nat} {d i : Nat} {xs : List Nat} (h : Unp bs d i d xs) : Unp bs d (i + 1) 0 xs := by
  intro j hj
  have := h j hj
  have e : (if j < i then d else if j = i then d else 0) = (if j < i + 1 then d else if j = i + 1 then 0 else 0) := by
    by_cases h1 : j < i
    · simp [h1, show j < i + 1 by omega]
    · by_cases h2 : j = i
      · simp [h2]
      · simp [h1, h2, show ¬ j < i + 1 by omega]
  rw [← e]; exact this
theorem Unp.set {bs : List Nat} {d i k k' y : Nat} {xs : List Nat} (h : Unp bs d i k xs) (_hi : i < xs.length) (hy : IsNum bs (i * d) k' y) : Unp bs d i k' (xs.set i y) := by
  intro j hj
  rw [List.length_set] at hj
  by_cases e : j = i
  · subst e
    have : (xs.set j y).getD j 0 = y := by simp [List.getD, hj]
    rw [this]; simpa using hy
  · have : (xs.set i y).getD j 0 = xs.getD j 0 := by simp [List.getD, Ne.symm e]
    rw [this]
    have := h j hj
    simpa [e] using this
theorem Unp.at_ {bs : List Nat} {d i k : Nat} {xs : List Nat} (h : Unp bs d i k xs) (hi : i < xs.length) : IsNum bs (i * d) k (xs.getD i 0) := by simpa using h i hi

/-- All numbers. -/
def Unpacked (bs : List Nat) (d : Nat) (xs : List Nat) : Prop := ∀ j, j < xs.length → IsNum bs (j * d) d (xs.getD j 0)
theorem Unp.all {bs : List Nat} {d n k : Nat} {xs : List Nat} (h : Unp bs d n k xs) (hl : xs.length ≤ n) : Unpacked bs d xs := by
  intro j hj
  have := h j hj
  simpa [show j < n by omega] using this
theorem Unpacked.unique {bs : List Nat} {d : Nat} {xs ys : List Nat} (h : Unpacked bs d xs) (h' : Unpacked bs d ys) (hl : xs.length = ys.length) : xs = ys := by
  apply List.ext_getElem hl
  intro j h1 h2
  have e1 := h j h1
  have e2 := h' j h2
  have g1 : xs.getD j 0 = xs[j] := by simp [List.getD, h1]
  have g2 : ys.getD j 0 = ys[j] := by simp [List.getD, h2]
  rw [g1] at e1; rw [g2] at e2
  exact e1.unique e2
theorem Unpacked.lt {bs : List Nat} {d : Nat} {xs : List Nat} (h : Unpacked bs d xs) : ∀ x ∈ xs, x < 2 ^ d := by
  intro x hx
  obtain ⟨j, hj, rfl⟩ := List.getElem_of_mem hx
  have := (h j hj).lt
  have g1 : xs.getD j 0 = xs[j] := by simp [List.getD, hj]
  rwa [g1] at this
theorem Unpacked.snoc {bs : List Nat} {d x : Nat} {xs : List Nat} (h : Unpacked bs d xs) (hx : IsNum bs (xs.length * d) d x) : Unpacked bs d (xs ++ [x]) := by
  intro j hj
  by_cases h1 : j < xs.length
  · have : (xs ++ [x]).getD j 0 = xs.getD j 0 := by simp [List.getD, List.getElem?_append, h1]
    rw [this]; exact h j h1
  · have h2 : j = xs.length := by rw [List.length_append] at hj; simp at hj; omega
    subst h2
    have : (xs ++ [x]).getD xs.length 0 = x := by simp [List.getD]
    rw [this]; exact hx

/-- Is a bit from p on 1? -/
def Tail (bs : List Nat) (p : Nat) : Prop := ∃ q, p ≤ q ∧ bitOf bs q = true
theorem bitOf_beyond (bs : List Nat) (q : Nat) (h : 8 * bs.length ≤ q) : bitOf bs q = false := by
  unfold bitOf
  have : bs.getD (q / 8) 0 = 0 := by rw [List.getD, List.getElem?_eq_none (by omega)]; rfl
  rw [this]; simp
theorem tail_last (bs : List Nat) (p : Nat) (hb : ∀ b ∈ bs, b < 256) (hl : bs.length = (p + 7) / 8) (hr : 0 < p % 8) : 0 < bs.getD (bs.length - 1) 0 / 2 ^ (p % 8) ↔ Tail bs p := by
  have hle : bs.length - 1 = p / 8 := by omega
  rw [hle]
  constructor
  · intro h
    obtain ⟨t, ht⟩ : ∃ t, (bs.getD (p / 8) 0 / 2 ^ (p % 8)).testBit t = true := Nat.exists_testBit_of_ne_zero (by omega)
    rw [← Nat.shiftRight_eq_div_pow, Nat.testBit_shiftRight] at ht
    have ht8 : p % 8 + t < 8 := by
      rcases Nat.lt_or_ge (p % 8 + t) 8 with h8 | h8
      · exact h8
      · have hm : bs.getD (p / 8) 0 < 256 := by
          have hj : p / 8 < bs.length := by omega
          have : bs.getD (p / 8) 0 = bs[p / 8] := by simp [List.getD, hj]
          rw [this]; exact hb _ (List.getElem_mem _)
        have hp : 2 ^ 8 ≤ 2 ^ (p % 8 + t) := Nat.pow_le_pow_right (by decide) h8
        rw [Nat.testBit_lt_two_pow (by omega)] at ht; cases ht
    refine ⟨p + t, by omega, ?_⟩
    unfold bitOf
    rw [show (p + t) / 8 = p / 8 by omega, show (p + t) % 8 = p % 8 + t by omega]; exact ht
  · rintro ⟨q, hq, hbit⟩
    have hq8 : q < 8 * bs.length := by
      rcases Nat.lt_or_ge q (8 * bs.length) with h | h
      · exact h
      · rw [bitOf_beyond bs q h] at hbit; cases hbit
    unfold bitOf at hbit
    rw [show q / 8 = p / 8 by omega] at hbit
    have : (bs.getD (p / 8) 0 / 2 ^ (p % 8)).testBit (q % 8 - p % 8) = true := by
      rw [← Nat.shiftRight_eq_div_pow, Nat.testBit_shiftRight]
      rw [show p % 8 + (q % 8 - p % 8) = q % 8 by omega]; exact hbit
    rcases Nat.eq_zero_or_pos (bs.getD (p / 8) 0 / 2 ^ (p % 8)) with h0 | h0
    · rw [h0] at this; simp at this
    · exact h0
theorem no_tail (bs : List Nat) (p : Nat) (hl : bs.length = (p + 7) / 8) (hr : p % 8 = 0) : ¬ Tail bs p := by
  rintro ⟨q, hq, hbit⟩
  rw [bitOf_beyond bs q (by omega)] at hbit; cases hbit
theorem mul_bounds {n d : Nat} (hn : n ≤ 256) (hd : d ≤ 64) : n * d ≤ 16384 ∧ (n : Int) * d ≤ 16384 ∧ 0 ≤ (n : Int) * d := by
  have h : n * d ≤ 256 * 64 := Nat.mul_le_mul hn hd
  have e : (n : Int) * d = ((n * d : Nat) : Int) := (Int.natCast_mul n d).symm
  rw [e]; omega
end Go.Proofs.Ytfcejeopfodeoaa
