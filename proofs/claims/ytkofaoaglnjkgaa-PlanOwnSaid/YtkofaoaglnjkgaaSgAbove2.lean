/- The contract of signs.Above. -/
import Derived.Test.YtkofaoaglnjkgaaSgAbove
namespace Go.Proofs.Ytkofaoaglnjkgaa
open Go.RowKit Go.Deep
set_option linter.unusedVariables false
set_option linter.unusedSimpArgs false

def runesV (xs : List Nat) : Array Value := (xs.map fun r : Nat => Value.int .i32 (r : Int)).toArray
theorem runesV_snoc (xs : List Nat) (r : Nat) : (runesV xs).push (.int .i32 (r : Int)) = runesV (xs ++ [r]) := by simp [runesV]
theorem runesV_size (xs : List Nat) : (runesV xs).size = xs.length := by simp [runesV]
theorem runesFrom_eq (s : ByteArray) : ∀ (bound k : Nat), Upto s k → N s ≤ k + bound → Conv.runesFrom s bound (P s k) (runesV (rsK s k)) = runesV (rs s)
  | 0, k, hk, hb => by
    have := hk.le_N
    have e : k = N s := by omega
    rw [Conv.runesFrom, e]; rfl
  | b + 1, k, hk, hb => by
    unfold Conv.runesFrom
    by_cases hlt : P s k < s.size
    · rw [if_pos hlt]
      have ih := runesFrom_eq s b (k + 1) (hk.step hlt) (by omega)
      rw [P_succ, rsK_succ, ← runesV_snoc] at ih
      exact ih
    · rw [if_neg hlt, hk.done hlt]; rfl
theorem runes_all (s : ByteArray) : Conv.runesFrom s s.size 0 #[] = runesV (rs s) := runesFrom_eq s s.size 0 (Upto.zero s) (by have := N_le s; omega)
theorem rs_length (s : ByteArray) : (rs s).length = N s := rsK_length s _
def intsOf (xs : List Nat) : List Int := xs.map fun x : Nat => (x : Int)
theorem runesBytes_snoc (xs : List Nat) (r : Nat) : runesBytes (intsOf (xs ++ [r])) = runesBytes (intsOf xs) ++ Utf8.encode (r : Int) := by simp [runesBytes, intsOf, List.foldl_append]
theorem extract_two (s : ByteArray) (a b : Nat) (hab : a ≤ b) (hb : b ≤ s.size) : s.extract 0 a ++ s.extract a b = s.extract 0 b := by
  apply bytes_ext
  simp only [ByteArray.data_append, ByteArray.data_extract, Array.toList_append]
  have hz : s.size = s.data.size := rfl
  rw [← Array.toList_append, Array.extract_append_extract]
  rw [Nat.min_eq_left (Nat.zero_le _), Nat.max_eq_right hab]
theorem runes_clean {s : ByteArray} : ∀ {k : Nat}, k ≤ N s → cleanK s k = true → runesBytes (intsOf (rsK s k)) = s.extract 0 (P s k)
  | 0, _, _ => by
    rw [P]
    exact (ByteArray.size_eq_zero_iff.1 (by simp)).symm
  | k + 1, hk, hc => by
    rw [cleanK_succ, Bool.and_eq_true] at hc
    have hlt := P_lt (show k < N s by omega)
    rw [rsK_succ, runesBytes_snoc, runes_clean (by omega) hc.1, enc_dec s _ hlt hc.2, P_succ]
    exact extract_two s _ _ (by omega) (wd_le s _ hlt)
theorem clean_le {s : ByteArray} {k : Nat} (hk : k ≤ N s) (hc : clean s = true) : cleanK s k = true := by
  unfold clean cleanK at hc
  unfold cleanK
  rw [List.all_eq_true] at hc ⊢
  intro j hj
  exact hc j (by simp at hj ⊢; omega)
def lenOf : Value → Nat
  | .slice _ n _ => n
  | _ => 0

end Go.Proofs.Ytkofaoaglnjkgaa
