/- Plain: where the signs of a text begin. -/
import Derived.Test.YtkofaoaglnjkgaaSgPlain
namespace Go.Proofs.Ytkofaoaglnjkgaa
open Go.Lib (decodeN decode_at)
set_option linter.unusedVariables false
set_option linter.unusedSimpArgs false

theorem get!_extract (s : ByteArray) (i k : Nat) : (s.extract i s.size).get! k = s.get! (i + k) := by
  simp only [ByteArray.get!, ByteArray.data_extract, Array.getElem!_eq_getD, Array.getD_eq_getD_getElem?, Array.getElem?_extract]
  have h : s.size = s.data.size := rfl
  by_cases hk : k < min s.size s.data.size - i
  · rw [if_pos hk]
  · rw [if_neg hk, Array.getElem?_eq_none (by omega)]
theorem decode_tail (s : ByteArray) (i : Nat) (hi : i ≤ s.size) : Utf8.decode (s.extract i s.size) 0 = Utf8.decode s i := by
  rw [decode_at, decode_at]
  simp only [get!_extract, Nat.zero_add]
  rw [show (s.extract i s.size).size - 0 = s.size - i by rw [ByteArray.size_extract]; omega]
  rfl
theorem rn_tail (s : ByteArray) (i : Nat) (hi : i ≤ s.size) : rn (s.extract i s.size) 0 = rn s i := by unfold rn; rw [decode_tail s i hi]
theorem wd_tail (s : ByteArray) (i : Nat) (hi : i ≤ s.size) : wd (s.extract i s.size) 0 = wd s i := by unfold wd; rw [decode_tail s i hi]
theorem ok_tail (s : ByteArray) (i : Nat) (hi : i ≤ s.size) : okAt (s.extract i s.size) 0 = okAt s i := by unfold okAt; rw [rn_tail s i hi, wd_tail s i hi]
theorem decodeN_facts (n b0 b1 b2 b3 : Nat) (hn : 0 < n) : 1 ≤ (decodeN n b0 b1 b2 b3).2 ∧ (decodeN n b0 b1 b2 b3).2 ≤ n ∧ (decodeN n b0 b1 b2 b3).2 ≤ 4 ∧ (decodeN n b0 b1 b2 b3).1 ≤ 1114111 ∧ ¬ (55296 ≤ (decodeN n b0 b1 b2 b3).1 ∧ (decodeN n b0 b1 b2 b3).1 < 57344) := by
  unfold decodeN
  repeat' split
  all_goals (dsimp only; omega)
theorem wd_pos (s : ByteArray) (i : Nat) (hi : i < s.size) : 1 ≤ wd s i := by unfold wd; rw [decode_at]; exact (decodeN_facts _ _ _ _ _ (by omega)).1
theorem wd_le (s : ByteArray) (i : Nat) (hi : i < s.size) : i + wd s i ≤ s.size := by unfold wd; rw [decode_at]; have := (decodeN_facts (s.size - i) (s.get! i).toNat (s.get! (i + 1)).toNat (s.get! (i + 2)).toNat (s.get! (i + 3)).toNat (by omega)).2.1; omega
theorem wd_le4 (s : ByteArray) (i : Nat) (hi : i < s.size) : wd s i ≤ 4 := by unfold wd; rw [decode_at]; exact (decodeN_facts _ _ _ _ _ (by omega)).2.2.1
theorem rn_le (s : ByteArray) (i : Nat) (hi : i < s.size) : rn s i ≤ 1114111 := by unfold rn; rw [decode_at]; exact (decodeN_facts _ _ _ _ _ (by omega)).2.2.2.1
theorem rn_sur (s : ByteArray) (i : Nat) (hi : i < s.size) : ¬ (55296 ≤ rn s i ∧ rn s i < 57344) := by unfold rn; rw [decode_at]; exact (decodeN_facts _ _ _ _ _ (by omega)).2.2.2.2

/-- Where the k-th sign begins. -/
def P (s : ByteArray) : Nat → Nat
  | 0 => 0
  | k + 1 => P s k + wd s (P s k)
theorem P_succ (s : ByteArray) (k : Nat) : P s (k + 1) = P s k + wd s (P s k) := rfl
def Upto (s : ByteArray) (k : Nat) : Prop := P s k ≤ s.size ∧ ∀ j, j < k → P s j < s.size
theorem Upto.zero (s : ByteArray) : Upto s 0 := ⟨Nat.zero_le _, fun j h => by omega⟩
theorem Upto.step {s : ByteArray} {k : Nat} (h : Upto s k) (hl : P s k < s.size) : Upto s (k + 1) :=
  ⟨by rw [P_succ]; exact wd_le s _ hl, fun j hj => by
    by_cases hjk : j = k
    · subst hjk; exact hl
    · exact h.2 j (by omega)⟩
theorem Upto.k_le {s : ByteArray} : ∀ {k : Nat}, Upto s k → k ≤ P s k
  | 0, _ => Nat.zero_le _
  | k + 1, h => by
    have h1 : Upto s k := ⟨Nat.le_of_lt (h.2 k (by omega)), fun j hj => h.2 j (by omega)⟩
    have := h1.k_le
    have := wd_pos s _ (h.2 k (by omega))
    rw [P_succ]; omega
theorem exists_N (s : ByteArray) : ∃ n, P s n = s.size ∧ Upto s n := by
  have key : ∀ m k, s.size - P s k ≤ m → Upto s k → ∃ n, P s n = s.size ∧ Upto s n := by
    intro m
    induction m with
    | zero => intro k hk h; exact ⟨k, by have := h.1; omega, h⟩
    | succ m ih =>
      intro k hk h
      by_cases hl : P s k < s.size
      · exact ih (k + 1) (by have := wd_pos s _ hl; rw [P_succ]; omega) (h.step hl)
      · exact ⟨k, by have := h.1; omega, h⟩
  exact key s.size 0 (by omega) (Upto.zero s)
noncomputable def N (s : ByteArray) : Nat := Classical.choose (exists_N s)
theorem P_N (s : ByteArray) : P s (N s) = s.size := (Classical.choose_spec (exists_N s)).1
theorem upto_N (s : ByteArray) : Upto s (N s) := (Classical.choose_spec (exists_N s)).2
theorem Upto.le_N {s : ByteArray} {k : Nat} (h : Upto s k) : k ≤ N s := by
  rcases Nat.lt_or_ge (N s) k with h1 | h1
  · have := h.2 _ h1; rw [P_N] at this; omega
  · exact h1
theorem Upto.lt_N {s : ByteArray} {k : Nat} (h : Upto s k) (hl : P s k < s.size) : k < N s := (h.step hl).le_N
theorem Upto.done {s : ByteArray} {k : Nat} (h : Upto s k) (hl : ¬ P s k < s.size) : k = N s := by
  have h1 := h.le_N
  rcases Nat.lt_or_ge k (N s) with h2 | h2
  · exact absurd ((upto_N s).2 k h2) hl
  · omega
theorem upto_of_le {s : ByteArray} {k : Nat} (h : k ≤ N s) : Upto s k := by
  have hn := upto_N s
  refine ⟨?_, fun j hj => hn.2 j (by omega)⟩
  rcases Nat.lt_or_ge k (N s) with h2 | h2
  · exact Nat.le_of_lt (hn.2 k h2)
  · have : k = N s := by omega
    subst this; exact hn.1
theorem N_le (s : ByteArray) : N s ≤ s.size := by have := (upto_N s).k_le; rw [P_N] at this; exact this
theorem P_lt {s : ByteArray} {k : Nat} (h : k < N s) : P s k < s.size := (upto_N s).2 k h
def rsK (s : ByteArray) (k : Nat) : List Nat := (List.range k).map fun j => rn s (P s j)
def atsK (s : ByteArray) (k : Nat) : List Nat := (List.range k).map (P s)
def cleanK (s : ByteArray) (k : Nat) : Bool := (List.range k).all fun j => okAt s (P s j)
noncomputable def rs (s : ByteArray) : List Nat := rsK s (N s)
noncomputable def ats (s : ByteArray) : List Nat := atsK s (N s)
noncomputable def clean (s : ByteArray) : Bool := cleanK s (N s)
theorem rsK_succ (s : ByteArray) (k : Nat) : rsK s (k + 1) = rsK s k ++ [rn s (P s k)] := by simp [rsK, List.range_succ]
theorem atsK_succ (s : ByteArray) (k : Nat) : atsK s (k + 1) = atsK s k ++ [P s k] := by simp [atsK, List.range_succ]
theorem cleanK_succ (s : ByteArray) (k : Nat) : cleanK s (k + 1) = (cleanK s k && okAt s (P s k)) := by simp [cleanK, List.range_succ]
theorem rsK_length (s : ByteArray) (k : Nat) : (rsK s k).length = k := by simp [rsK]
theorem atsK_length (s : ByteArray) (k : Nat) : (atsK s k).length = k := by simp [atsK]
def intsV (xs : List Nat) : List Value := xs.map fun x : Nat => Value.int .i64 (x : Int)
theorem intsV_length (xs : List Nat) : (intsV xs).length = xs.length := by simp [intsV]
theorem intsV_snoc (xs : List Nat) (x : Nat) : intsV xs ++ [Value.int .i64 (x : Int)] = intsV (xs ++ [x]) := by simp [intsV]
end Go.Proofs.Ytkofaoaglnjkgaa
