/- Plain facts on bits: widths, and what packed bytes are. No program in sight. -/
import Derived.Lib.BitFns
namespace Go.Proofs.Ytfcejeopfodeoaa

theorem lt_bitLenAux : ∀ (f x : Nat), x < 2 ^ f → x < 2 ^ Lib.bitLenAux f x
  | 0, x, h => by simpa [Lib.bitLenAux] using h
  | f + 1, x, h => by
    simp only [Lib.bitLenAux]
    split
    · subst_vars; decide
    · have := lt_bitLenAux f (x / 2) (by rw [Nat.pow_succ] at h; omega)
      rw [Nat.add_comm, Nat.pow_succ]; omega
theorem bitLen_le_iff (x k : Nat) (hx : x < 2 ^ 64) (hk : k ≤ 64) : Lib.bitLen x ≤ k ↔ x < 2 ^ k := by
  constructor
  · intro h
    exact Nat.lt_of_lt_of_le (lt_bitLenAux 64 x hx) (Nat.pow_le_pow_right (by decide) h)
  · exact Lib.bitLen_le x k hk
theorem bitLen_le64 (x : Nat) (hx : x < 2 ^ 64) : Lib.bitLen x ≤ 64 := (bitLen_le_iff x 64 hx (by decide)).2 hx
theorem bitLen_more (x m : Nat) (hx : x < 2 ^ 64) (hm : m < 64) : m < Lib.bitLen x ↔ 0 < x / 2 ^ m := by
  have h := bitLen_le_iff x m hx (by omega)
  have h2 : x / 2 ^ m = 0 ↔ x < 2 ^ m := Nat.div_eq_zero_iff_lt (Nat.two_pow_pos m)
  constructor
  · intro hl
    refine Nat.pos_of_ne_zero fun hc => ?_
    have := h.2 (h2.1 hc); omega
  · intro hl
    have h3 : ¬ x < 2 ^ m := fun hc => absurd (h2.2 hc) (Nat.pos_iff_ne_zero.1 hl)
    have : ¬ Lib.bitLen x ≤ m := fun hc => h3 (h.1 hc)
    omega
theorem bitLen_or (x y : Nat) (hx : x < 2 ^ 64) (hy : y < 2 ^ 64) : Lib.bitLen (x ||| y) = max (Lib.bitLen x) (Lib.bitLen y) := by
  have ho : x ||| y < 2 ^ 64 := Nat.or_lt_two_pow hx hy
  have h1 := bitLen_le64 x hx
  have h2 := bitLen_le64 y hy
  have h3 := bitLen_le64 _ ho
  apply Nat.le_antisymm
  · rw [bitLen_le_iff _ _ ho (by omega)]
    exact Nat.or_lt_two_pow ((bitLen_le_iff _ _ hx (by omega)).1 (by omega)) ((bitLen_le_iff _ _ hy (by omega)).1 (by omega))
  · have hb := (bitLen_le_iff _ _ ho h3).1 (Nat.le_refl _)
    apply Nat.max_le.2
    exact ⟨(bitLen_le_iff _ _ hx h3).2 (Nat.lt_of_le_of_lt Nat.left_le_or hb), (bitLen_le_iff _ _ hy h3).2 (Nat.lt_of_le_of_lt Nat.right_le_or hb)⟩

def orAll (l : List Nat) : Nat := l.foldl (· ||| ·) 0
theorem orAll_snoc (l : List Nat) (x : Nat) : orAll (l ++ [x]) = orAll l ||| x := by simp [orAll]
theorem orAll_lt (l : List Nat) (k : Nat) (h : ∀ x ∈ l, x < 2 ^ k) : orAll l < 2 ^ k := by
  have : ∀ (l : List Nat) (a : Nat), a < 2 ^ k → (∀ x ∈ l, x < 2 ^ k) → l.foldl (· ||| ·) a < 2 ^ k := by
    intro l
    induction l with
    | nil => intro a ha _; simpa using ha
    | cons x l ih =>
      intro a ha hl
      simp only [List.foldl_cons]
      exact ih _ (Nat.or_lt_two_pow ha (hl x (by simp))) (fun y hy => hl y (by simp [hy]))
  exact this l 0 (Nat.two_pow_pos k) h
theorem le_orAll (l : List Nat) (x : Nat) (h : x ∈ l) : x ≤ orAll l := by
  have h1 : ∀ (l : List Nat) (a : Nat), a ≤ l.foldl (· ||| ·) a := by
    intro l
    induction l with
    | nil => intro a; simp
    | cons x l ih => intro a; simp only [List.foldl_cons]; exact Nat.le_trans Nat.left_le_or (ih _)
  have h2 : ∀ (l : List Nat) (a : Nat), x ∈ l → x ≤ l.foldl (· ||| ·) a := by
    intro l
    induction l with
    | nil => intro a hx; simp at hx
    | cons y l ih =>
      intro a hx
      simp only [List.foldl_cons]
      rcases List.mem_cons.1 hx with rfl | hx
      · exact Nat.le_trans Nat.right_le_or (h1 _ _)
      · exact ih _ hx
  exact h2 l 0 h
theorem orAll_take (xs : List Nat) (k : Nat) (h : k < xs.length) : orAll (xs.take (k + 1)) = orAll (xs.take k) ||| xs[k] := by
  rw [List.take_succ_eq_append_getElem h, orAll_snoc]
theorem orAll_take_lt (xs : List Nat) (k : Nat) (h : ∀ x ∈ xs, x < 2 ^ 64) : orAll (xs.take k) < 2 ^ 64 :=
  orAll_lt _ _ (fun x hx => h x (List.mem_of_mem_take hx))
theorem bitLen_step (xs : List Nat) (k : Nat) (h : k < xs.length) (hb : ∀ x ∈ xs, x < 2 ^ 64) :
    Lib.bitLen (orAll (xs.take (k + 1))) = max (Lib.bitLen (orAll (xs.take k))) (Lib.bitLen xs[k]) := by
  rw [orAll_take xs k h, bitLen_or _ _ (orAll_take_lt xs k hb) (hb _ (List.getElem_mem _))]
/-- The width of numbers. -/
def wide (xs : List Nat) : Nat := Lib.bitLen (orAll xs)
theorem wide_le (xs : List Nat) (w : Nat) (hw : w ≤ 64) (hb : ∀ x ∈ xs, x < 2 ^ 64) : wide xs ≤ w ↔ ∀ x ∈ xs, x < 2 ^ w := by
  unfold wide
  rw [bitLen_le_iff _ _ (orAll_lt xs 64 hb) hw]
  constructor
  · intro h x hx; exact Nat.lt_of_le_of_lt (le_orAll xs x hx) h
  · exact orAll_lt xs w

/-- Bit number q of numbers of w bits, one behind the other. -/
def bitAt (xs : List Nat) (w q : Nat) : Bool := (xs.getD (q / w) 0).testBit (q % w)
/-- Bit number q of bytes. -/
def bitOf (bs : List Nat) (q : Nat) : Bool := (bs.getD (q / 8) 0).testBit (q % 8)
/-- Bytes whose bits below p are the numbers', and 0 from there on. -/
def Upto (xs : List Nat) (w p : Nat) (bs : List Nat) : Prop := (∀ b ∈ bs, b < 256) ∧ ∀ q, bitOf bs q = (decide (q < p) && bitAt xs w q)

theorem bytes_ext (bs cs : List Nat) (hl : bs.length = cs.length) (hb : ∀ b ∈ bs, b < 256) (hc : ∀ b ∈ cs, b < 256) (h : ∀ q, bitOf bs q = bitOf cs q) : bs = cs := by
  apply List.ext_getElem hl
  intro i h1 h2
  apply Nat.eq_of_testBit_eq
  intro j
  by_cases hj : j < 8
  · have := h (8 * i + j)
    unfold bitOf at this
    rw [show (8 * i + j) / 8 = i by omega, show (8 * i + j) % 8 = j by omega] at this
    simpa [h1, h2, List.getD] using this
  · have e1 := hb _ (List.getElem_mem h1)
    have e2 := hc _ (List.getElem_mem h2)
    have hp : 2 ^ 8 ≤ 2 ^ j := Nat.pow_le_pow_right (by decide) (by omega)
    rw [Nat.testBit_lt_two_pow (by omega), Nat.testBit_lt_two_pow (by omega)]
theorem Upto.unique {xs : List Nat} {w p : Nat} {bs cs : List Nat} (h : Upto xs w p bs) (k : Upto xs w p cs) (hl : bs.length = cs.length) : bs = cs :=
  bytes_ext bs cs hl h.1 k.1 (fun q => by rw [h.2, k.2])
theorem Upto.zero (xs : List Nat) (w m : Nat) : Upto xs w 0 (List.replicate m 0) := by
  refine ⟨fun b hb => by rw [List.mem_replicate] at hb; omega, fun q => ?_⟩
  unfold bitOf
  have : (List.replicate m 0).getD (q / 8) 0 = 0 := by
    rw [List.getD]
    by_cases hq : q / 8 < m <;> simp [hq]
  rw [this]; simp

theorem bitAt_in (xs : List Nat) (w i r : Nat) (hr : r < w) : bitAt xs w (i * w + r) = (xs.getD i 0).testBit r := by
  unfold bitAt
  rw [Nat.mul_comm, Nat.mul_add_div (by omega), Nat.div_eq_of_lt hr, Nat.mul_add_mod, Nat.mod_eq_of_lt hr, Nat.add_zero]

theorem bitOf_set (bs : List Nat) (j v q : Nat) (hj : j < bs.length) : bitOf (bs.set j v) q = if q / 8 = j then v.testBit (q % 8) else bitOf bs q := by
  unfold bitOf
  by_cases h : q / 8 = j
  · subst h; simp [List.getD, hj]
  · simp only [h, if_false]
    simp only [List.getD, List.getElem?_set]
    rw [if_neg (by omega)]

theorem chunk_testBit (x k r s t : Nat) : ((((x >>> k &&& (2 ^ r - 1)) % 256) <<< s) % 256).testBit t = (decide (t < 8 ∧ s ≤ t ∧ t - s < 8 ∧ t - s < r) && x.testBit (k + (t - s))) := by
  rw [show (256 : Nat) = 2 ^ 8 from rfl, Nat.testBit_mod_two_pow, Nat.testBit_shiftLeft, Nat.testBit_mod_two_pow, Nat.testBit_and, Nat.testBit_shiftRight, Nat.testBit_two_pow_sub_one]
  by_cases h1 : t < 8 <;> by_cases h2 : s ≤ t <;> by_cases h3 : t - s < 8 <;> by_cases h4 : t - s < r <;> simp [h1, h2, h3, h4]

/-- A step of the packing: as many bits as there is room for. -/
theorem Upto.step {xs : List Nat} {w i k r : Nat} {bs : List Nat} (h : Upto xs w (i * w + k) bs) (hr : r = min (8 - (i * w + k) % 8) (w - k)) (hk : k < w) (hj : (i * w + k) / 8 < bs.length) (v : Nat)
    (hv : v = bs.getD ((i * w + k) / 8) 0 ||| (((xs.getD i 0 >>> k &&& (2 ^ r - 1)) % 256) <<< ((i * w + k) % 8)) % 256) :
    Upto xs w (i * w + (k + r)) (bs.set ((i * w + k) / 8) v) := by
  generalize hp : i * w + k = p at *
  have hp8 : p = p / 8 * 8 + p % 8 := by omega
  have hmem : bs.getD (p / 8) 0 < 256 := by
    have : bs.getD (p / 8) 0 = bs[p / 8] := by simp [List.getD, hj]
    rw [this]; exact h.1 _ (List.getElem_mem _)
  have hv256 : v < 256 := by
    rw [hv]
    exact Nat.or_lt_two_pow (n := 8) hmem (Nat.mod_lt _ (by decide))
  refine ⟨fun b hb => ?_, fun q => ?_⟩
  · rcases List.mem_or_eq_of_mem_set hb with hb | rfl
    · exact h.1 _ hb
    · exact hv256
  · rw [bitOf_set _ _ _ _ hj]
    have old := h.2 q
    split
    · rename_i hq
      have hold : (bs.getD (p / 8) 0).testBit (q % 8) = (decide (q < p) && bitAt xs w q) := by rw [← old]; unfold bitOf; rw [hq]
      rw [hv, Nat.testBit_or, hold]
      have hq8 : q = p / 8 * 8 + q % 8 := by omega
      rw [chunk_testBit]
      by_cases h1 : q < p
      · have : ¬ (q % 8 < 8 ∧ p % 8 ≤ q % 8 ∧ q % 8 - p % 8 < 8 ∧ q % 8 - p % 8 < r) := by omega
        have h3 : q < i * w + (k + r) := by omega
        simp only [this, h1, h3, decide_true, decide_false, Bool.true_and, Bool.false_and, Bool.or_false]
      · by_cases h2 : q < i * w + (k + r)
        · have e : (q % 8 < 8 ∧ p % 8 ≤ q % 8 ∧ q % 8 - p % 8 < 8 ∧ q % 8 - p % 8 < r) := by omega
          have hin : bitAt xs w q = (xs.getD i 0).testBit (k + (q % 8 - p % 8)) := by
            rw [← bitAt_in xs w i _ (by omega)]
            congr 1; omega
          simp only [h1, h2, e, hin, and_self, decide_true, decide_false, Bool.true_and, Bool.false_and, Bool.false_or]
        · have e : ¬ (q % 8 < 8 ∧ p % 8 ≤ q % 8 ∧ q % 8 - p % 8 < 8 ∧ q % 8 - p % 8 < r) := by omega
          simp only [h1, h2, e, decide_false, Bool.false_and, Bool.or_false]
    · rename_i hq
      rw [old]
      by_cases h1 : q < p
      · have h3 : q < i * w + (k + r) := by omega
        simp [h1, h3]
      · have h3 : ¬ q < i * w + (k + r) := by omega
        simp [h1, h3]
theorem Upto.byte_lt {xs : List Nat} {w p : Nat} {bs : List Nat} (h : Upto xs w p bs) (hj : p / 8 < bs.length) : bs.getD (p / 8) 0 < 2 ^ (p % 8) := by
  apply Nat.lt_pow_two_of_testBit
  intro t ht
  by_cases h8 : t < 8
  · have := h.2 (8 * (p / 8) + t)
    unfold bitOf at this
    rw [show (8 * (p / 8) + t) / 8 = p / 8 by omega, show (8 * (p / 8) + t) % 8 = t by omega] at this
    rw [this]
    have : ¬ (8 * (p / 8) + t < p) := by omega
    simp [this]
  · have hm : bs.getD (p / 8) 0 < 256 := by
      have : bs.getD (p / 8) 0 = bs[p / 8] := by simp [List.getD, hj]
      rw [this]; exact h.1 _ (List.getElem_mem _)
    have hp : 2 ^ 8 ≤ 2 ^ t := Nat.pow_le_pow_right (by decide) (by omega)
    exact Nat.testBit_lt_two_pow (by omega)
/-- One byte more, of zeros. -/
theorem Upto.more {xs : List Nat} {w p : Nat} {bs : List Nat} (h : Upto xs w p bs) : Upto xs w p (bs ++ [0]) := by
  refine ⟨fun b hb => ?_, fun q => ?_⟩
  · rcases List.mem_append.1 hb with hb | hb
    · exact h.1 b hb
    · simp at hb; omega
  · rw [← h.2 q]
    unfold bitOf
    have : (bs ++ [0]).getD (q / 8) 0 = bs.getD (q / 8) 0 := by
      simp only [List.getD, List.getElem?_append]
      split
      · rfl
      · rename_i hl
        rw [List.getElem?_eq_none (by omega : bs.length ≤ q / 8)]
        cases hq : q / 8 - bs.length <;> simp
    rw [this]
theorem Upto.zero_bit {xs : List Nat} {w i k : Nat} {bs : List Nat} (h : Upto xs w (i * w + k) bs) (hk : k < w) (hbit : (xs.getD i 0).testBit k = false) : Upto xs w (i * w + (k + 1)) bs := by
  refine ⟨h.1, fun q => ?_⟩
  rw [h.2]
  have e := bitAt_in xs w i k hk
  by_cases h1 : q < i * w + k
  · simp [h1, show q < i * w + (k + 1) by omega]
  · by_cases h2 : q = i * w + k
    · subst h2; rw [e, hbit]; simp
    · simp [h1, show ¬ q < i * w + (k + 1) by omega]
theorem Upto.one_bit {xs : List Nat} {w i k : Nat} {bs : List Nat} (h : Upto xs w (i * w + k) bs) (hk : k < w) (hj : (i * w + k) / 8 < bs.length) (hbit : (xs.getD i 0).testBit k = true) :
    Upto xs w (i * w + (k + 1)) (bs.set ((i * w + k) / 8) (bs.getD ((i * w + k) / 8) 0 + 2 ^ ((i * w + k) % 8))) := by
  have hlt := h.byte_lt hj
  have e := bitAt_in xs w i k hk
  generalize hp : i * w + k = p at *
  have hor : bs.getD (p / 8) 0 + 2 ^ (p % 8) = 2 ^ (p % 8) ||| bs.getD (p / 8) 0 := by
    have := Nat.two_pow_add_eq_or_of_lt hlt 1
    rw [Nat.mul_one] at this; omega
  have hv : bs.getD (p / 8) 0 + 2 ^ (p % 8) < 256 := by
    have h1 : 2 ^ (p % 8) ≤ 2 ^ 7 := Nat.pow_le_pow_right (by decide) (by omega)
    omega
  refine ⟨fun b hb => ?_, fun q => ?_⟩
  · rcases List.mem_or_eq_of_mem_set hb with hb | rfl
    · exact h.1 _ hb
    · exact hv
  · rw [bitOf_set _ _ _ _ hj]
    have old := h.2 q
    split
    · rename_i hq
      have hold : (bs.getD (p / 8) 0).testBit (q % 8) = (decide (q < p) && bitAt xs w q) := by rw [← old]; unfold bitOf; rw [hq]
      rw [hor, Nat.testBit_or, Nat.testBit_two_pow, hold]
      by_cases h2 : q = p
      · subst h2; rw [e, hbit]; simp; omega
      · have : ¬ (p % 8 = q % 8) := by omega
        by_cases h1 : q < p
        · simp [this, h1, show q < i * w + (k + 1) by omega]
        · simp [this, h1, show ¬ q < i * w + (k + 1) by omega]
    · rename_i hq
      rw [old]
      by_cases h1 : q < p
      · simp [h1, show q < i * w + (k + 1) by omega]
      · simp [h1, show ¬ q < i * w + (k + 1) by omega]
theorem testBit_of_mod (x k : Nat) : x.testBit k = decide (x / 2 ^ k % 2 = 1) := Nat.testBit_eq_decide_div_mod_eq
end Go.Proofs.Ytfcejeopfodeoaa
