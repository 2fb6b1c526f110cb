/- Plain: patterns that stand for any text, for so many signs, for one text alone. -/
import Derived.Test.YtocjmllbbpfidaaSgTurnP
import Derived.Test.YtocjmllbbpfidaaSgLike
namespace Go.Proofs.Ytocjmllbbpfidaa
set_option linter.unusedVariables false

theorem any37 (X : Nat → Nat) (f : Nat → Bool) (h : f 0 = true) : ∀ i, stepF X 37 f i = true
  | 0 => by simp [stepF, h]
  | i + 1 => by simp [stepF, any37 X f h i]
theorem bars_fit (X : Nat → Nat) (Y : Nat → Nat) : ∀ m, (∀ k, k < m → Y k = 95) → ∀ i, fitsK X Y m i = decide (i = m)
  | 0, _, i => rfl
  | m + 1, h, i => by
    have ih := bars_fit X Y m (fun k hk => h k (by omega))
    show stepF X (Y m) (fitsK X Y m) i = _
    rw [h m (by omega)]
    cases i with
    | zero => simp [stepF]
    | succ i => simp [stepF, ih]
theorem plain_fit (X Y : Nat → Nat) : ∀ m, (∀ k, k < m → Y k ≠ 37 ∧ Y k ≠ 95) → ∀ i, fitsK X Y m i = decide (i = m ∧ ∀ j, j < m → X j = Y j)
  | 0, _, i => by simp [fitsK]
  | m + 1, h, i => by
    have ih := plain_fit X Y m (fun k hk => h k (by omega))
    obtain ⟨h1, h2⟩ := h m (by omega)
    show stepF X (Y m) (fitsK X Y m) i = _
    cases i with
    | zero => simp [stepF, h1]
    | succ i =>
      simp only [stepF, if_neg h1, ih]
      rw [Bool.eq_iff_iff]
      simp only [Bool.and_eq_true, decide_eq_true_eq, Bool.or_eq_true]
      constructor
      · rintro ⟨⟨rfl, hj⟩, h3 | h3⟩
        · exact absurd h3 h2
        · refine ⟨rfl, fun j hj2 => ?_⟩
          by_cases hjm : j = i
          · subst hjm; exact h3
          · exact hj j (by omega)
      · rintro ⟨h3, hj⟩
        have : i = m := by omega
        subst this
        exact ⟨⟨rfl, fun j hj2 => hj j (by omega)⟩, .inr (hj i (by omega))⟩
/-- So many bars. -/
def bars (m : Nat) : ByteArray := runesBytes (intsOf (List.replicate m 95))
theorem bars_ok (m : Nat) : ∀ c ∈ List.replicate m 95, okRune c := by
  intro c hc
  rw [List.eq_of_mem_replicate hc]
  exact ⟨by omega, by omega⟩
theorem bars_zero : bars 0 = ByteArray.empty := rfl
theorem enc95 : Utf8.encode ((95 : Nat) : Int) = ⟨#[95]⟩ := by
  apply bytes_ext
  rw [encode_list 95 (by omega) (by omega), if_pos (by omega)]
  rfl
theorem bars_succ (m : Nat) : bars (m + 1) = bars m ++ ⟨#[95]⟩ := by
  unfold bars
  rw [List.replicate_succ', runesBytes_snoc, enc95]
theorem bars_size : ∀ m, (bars m).size = m
  | 0 => by rw [bars_zero]; rfl
  | m + 1 => by rw [bars_succ, ByteArray.size_append, bars_size m]; rfl
theorem bars_N (m : Nat) : N (bars m) = m := by unfold bars; rw [rb_N _ (bars_ok m), List.length_replicate]
theorem sgn_of_rs {s : ByteArray} {k : Nat} (h : k < N s) : (rs s)[k]? = some (sgn s k) := by simp [rs, rsK, h, sgn]
theorem bars_sgn (m k : Nat) (h : k < m) : sgn (bars m) k = 95 := by
  have h1 := sgn_of_rs (s := bars m) (k := k) (by rw [bars_N]; exact h)
  have h2 : rs (bars m) = List.replicate m 95 := rb_rs _ (bars_ok m)
  rw [h2, List.getElem?_replicate, if_pos h] at h1
  exact (Option.some.inj h1).symm
theorem like_bars (s : ByteArray) (m : Nat) : likeB s (bars m) = decide (N s = m) := by
  unfold likeB
  rw [bars_N]
  exact bars_fit _ _ m (fun k hk => bars_sgn m k hk) _
theorem n_pct : N ⟨#[37]⟩ = 1 := N_unique (by decide +kernel) (by decide +kernel)
theorem like_pct (s : ByteArray) : likeB s ⟨#[37]⟩ = true := by
  unfold likeB
  rw [n_pct]
  show stepF _ (sgn ⟨#[37]⟩ 0) _ _ = true
  have : sgn ⟨#[37]⟩ 0 = 37 := by decide +kernel
  rw [this]
  exact any37 _ _ rfl _
theorem rs_inj {s t : ByteArray} (hs : clean s = true) (ht : clean t = true) (h : rs s = rs t) : s = t := by
  have h1 := runes_clean (Nat.le_refl (N s)) hs
  have h2 := runes_clean (Nat.le_refl (N t)) ht
  rw [P_N, ByteArray.extract_zero_size] at h1 h2
  rw [← h1, ← h2]
  show runesBytes (intsOf (rs s)) = runesBytes (intsOf (rs t))
  rw [h]
theorem like_self {s t : ByteArray} (hw : ∀ k, k < N s → sgn s k ≠ 37 ∧ sgn s k ≠ 95) (hs : clean s = true) (ht : clean t = true) : likeB t s = decide (t = s) := by
  unfold likeB
  rw [plain_fit _ _ _ hw]
  rw [Bool.eq_iff_iff]
  simp only [decide_eq_true_eq]
  constructor
  · rintro ⟨hn, hj⟩
    refine rs_inj ht hs ?_
    apply List.ext_getElem?
    intro k
    by_cases hk : k < N s
    · rw [sgn_of_rs hk, sgn_of_rs (by omega), hj k hk]
    · rw [List.getElem?_eq_none (by rw [rs_length]; omega), List.getElem?_eq_none (by rw [rs_length]; omega)]
  · rintro rfl
    exact ⟨rfl, fun j _ => rfl⟩
def wildK (s : ByteArray) (k : Nat) : Bool := (List.range k).any fun j => decide (sgn s j = 37) || decide (sgn s j = 95)
theorem wildK_succ (s : ByteArray) (k : Nat) : wildK s (k + 1) = (wildK s k || (decide (sgn s k = 37) || decide (sgn s k = 95))) := by simp [wildK, List.range_succ]
theorem wild_none {s : ByteArray} (h : wildK s (N s) = false) : ∀ k, k < N s → sgn s k ≠ 37 ∧ sgn s k ≠ 95 := by
  intro k hk
  unfold wildK at h
  rw [List.any_eq_false] at h
  have := h k (by simpa using hk)
  simpa using this
end Go.Proofs.Ytocjmllbbpfidaa
