/- Plain: beginnings of a text; a sign's bytes. -/
import Derived.Test.YtkofaoaglnjkgaaSgBase
import Derived.Laws.Cover4
namespace Go.Proofs.Ytkofaoaglnjkgaa
open Go.Lib (decodeN decode_at)
set_option linter.unusedVariables false
set_option linter.unusedSimpArgs false

set_option maxHeartbeats 4000000 in
set_option maxRecDepth 100000 in
theorem decodeN_cut (n m b0 b1 b2 b3 c1 c2 c3 : Nat) (hm : m ≤ n) (h0 : 0 < m) (e1 : 1 < m → c1 = b1) (e2 : 2 < m → c2 = b2) (e3 : 3 < m → c3 = b3) (hw : (decodeN n b0 b1 b2 b3).2 ≤ m) : decodeN m b0 c1 c2 c3 = decodeN n b0 b1 b2 b3 := by
  by_cases m4 : 3 < m
  · rw [e1 (by omega), e2 (by omega), e3 m4]
    unfold decodeN
    have a1 : (1 < m) = (1 < n) := propext ⟨fun _ => by omega, fun _ => by omega⟩
    have a2 : (2 < m) = (2 < n) := propext ⟨fun _ => by omega, fun _ => by omega⟩
    have a3 : (3 < m) = (3 < n) := propext ⟨fun _ => by omega, fun _ => by omega⟩
    simp only [a1, a2, a3]
  · unfold decodeN at hw ⊢
    have : m = 1 ∨ m = 2 ∨ m = 3 := by omega
    rcases this with rfl | rfl | rfl
    · repeat' split at hw
      all_goals (repeat' split)
      all_goals first | rfl | (exfalso; omega) | omega
    · rw [e1 (by omega)]
      repeat' split at hw
      all_goals (repeat' split)
      all_goals first | rfl | (exfalso; omega) | omega
    · rw [e1 (by omega), e2 (by omega)]
      repeat' split at hw
      all_goals (repeat' split)
      all_goals first | rfl | (exfalso; omega) | omega
theorem get!_head (s : ByteArray) (e i : Nat) (he : e ≤ s.size) (hi : i < e) : (s.extract 0 e).get! i = s.get! i := by
  have hz : s.size = s.data.size := rfl
  simp only [ByteArray.get!, ByteArray.data_extract, Array.getElem!_eq_getD, Array.getD_eq_getD_getElem?, Array.getElem?_extract]
  rw [if_pos (by omega), Nat.zero_add]
theorem decode_head (s : ByteArray) (e i : Nat) (he : e ≤ s.size) (hi : i + wd s i ≤ e) (h : i < s.size) : Utf8.decode (s.extract 0 e) i = Utf8.decode s i := by
  have hp := wd_pos s i h
  rw [decode_at, decode_at]
  have hz : (s.extract 0 e).size = e := by rw [ByteArray.size_extract]; omega
  rw [hz, get!_head s e i he (by omega)]
  refine decodeN_cut (s.size - i) (e - i) _ _ _ _ _ _ _ (by omega) (by omega) (fun h1 => ?_) (fun h1 => ?_) (fun h1 => ?_) ?_
  · rw [get!_head s e _ he (by omega)]
  · rw [get!_head s e _ he (by omega)]
  · rw [get!_head s e _ he (by omega)]
  · have : wd s i = (decodeN (s.size - i) (s.get! i).toNat (s.get! (i + 1)).toNat (s.get! (i + 2)).toNat (s.get! (i + 3)).toNat).2 := by unfold wd; rw [decode_at]
    omega
theorem P_mono {s : ByteArray} {j k : Nat} (h : j ≤ k) : P s j ≤ P s k := by
  induction k with
  | zero => have : j = 0 := by omega
            subst this; exact Nat.le_refl _
  | succ k ih =>
    by_cases hjk : j = k + 1
    · subst hjk; exact Nat.le_refl _
    · have := ih (by omega); rw [P_succ]; omega
/-- A text's beginning that ends where a sign ends. -/
theorem head_P {s : ByteArray} {m : Nat} (hm : m ≤ N s) (k : Nat) (h : k ≤ m) : P (s.extract 0 (P s m)) k = P s k := by
  have hle := (upto_of_le hm).1
  have hcut : ∀ j, j < m → P s j + wd s (P s j) ≤ P s m := fun j hj => by have := P_mono (s := s) (show j + 1 ≤ m from hj); rw [P_succ] at this; exact this
  generalize P s m = e at *
  induction k with
  | zero => rw [P, P]
  | succ k ih =>
    have ih := ih (by omega)
    have hlt := P_lt (show k < N s by omega)
    have hd := decode_head s e (P s k) hle (hcut k (by omega)) hlt
    rw [P_succ, ih, P_succ]
    unfold wd
    rw [hd]
theorem head_rn {s : ByteArray} {m : Nat} (hm : m ≤ N s) (k : Nat) (h : k < m) : Utf8.decode (s.extract 0 (P s m)) (P (s.extract 0 (P s m)) k) = Utf8.decode s (P s k) := by
  have hlt := P_lt (show k < N s by omega)
  have hsu := P_succ s k
  have hmo := P_mono (s := s) (show k + 1 ≤ m from h)
  rw [head_P hm k (by omega), decode_head s (P s m) (P s k) (upto_of_le hm).1 (by omega) hlt]
theorem N_unique {s : ByteArray} {n : Nat} (h1 : P s n = s.size) (h2 : ∀ k, k < n → P s k < s.size) : N s = n := by
  have hu : Upto s n := ⟨by omega, h2⟩
  exact (hu.done (by omega)).symm
theorem P_strict {s : ByteArray} {j k : Nat} (h : j < k) (hk : k ≤ N s) : P s j < P s k := by
  have h1 := P_lt (show j < N s by omega)
  have h2 := wd_pos s _ h1
  have h3 := P_succ s j
  have := P_mono (s := s) (show j + 1 ≤ k from h)
  omega
theorem head_N {s : ByteArray} {m : Nat} (hm : m ≤ N s) : N (s.extract 0 (P s m)) = m := by
  have hz : (s.extract 0 (P s m)).size = P s m := by rw [ByteArray.size_extract]; have := (upto_of_le hm).1; omega
  refine N_unique ?_ fun k hk => ?_
  · rw [head_P hm m (Nat.le_refl _), hz]
  · rw [head_P hm k (by omega), hz]; exact P_strict hk hm
theorem head_rs {s : ByteArray} {m : Nat} (hm : m ≤ N s) : rs (s.extract 0 (P s m)) = rsK s m := by
  unfold rs
  rw [head_N hm]
  unfold rsK
  apply List.map_congr_left
  intro k hk
  unfold rn
  rw [head_rn hm k (by simpa using hk)]

/-- A whole sign's bytes are what its number is written with. -/
theorem encode_list (c : Nat) (hv : c ≤ 1114111) (hs : ¬ (55296 ≤ c ∧ c < 57344)) : (Utf8.encode (c : Int)).data.toList =
    if c < 128 then [UInt8.ofNat c] else if c < 2048 then [UInt8.ofNat (192 + c / 64), UInt8.ofNat (128 + c % 64)]
    else if c < 65536 then [UInt8.ofNat (224 + c / 4096), UInt8.ofNat (128 + c / 64 % 64), UInt8.ofNat (128 + c % 64)]
    else [UInt8.ofNat (240 + c / 262144), UInt8.ofNat (128 + c / 4096 % 64), UInt8.ofNat (128 + c / 64 % 64), UInt8.ofNat (128 + c % 64)] := by
  have hval : Utf8.valid (c : Int) = true := by simp [Utf8.valid]; omega
  unfold Utf8.encode
  simp only [hval, if_true, Int.toNat_natCast]
  by_cases h1 : c < 128
  · simp only [h1, if_true]
  · simp only [h1, if_false]
    by_cases h2 : c < 2048
    · simp only [h2, if_true]
    · simp only [h2, if_false]
      by_cases h3 : c < 65536
      · simp only [h3, if_true]
      · simp only [h3, if_false]
theorem ofNat_bt (s : ByteArray) (i n : Nat) (h : n = bt s i) : UInt8.ofNat n = s.get! i := by
  subst h; unfold bt; simp
theorem slice_list (s : ByteArray) (i k : Nat) (h : i + k ≤ s.size) : (s.extract i (i + k)).data.toList = (List.range k).map fun j => s.get! (i + j) := by
  have hz : s.size = s.data.size := rfl
  apply List.ext_getElem?
  intro j
  by_cases hj : j < k
  · rw [List.getElem?_map, List.getElem?_range hj, get!_data _ j (by rw [ByteArray.size_extract]; omega)]
    simp only [Option.map_some, Option.some.injEq]
    simp only [ByteArray.get!, ByteArray.data_extract, Array.getElem!_eq_getD, Array.getD_eq_getD_getElem?, Array.getElem?_extract]
    rw [if_pos (by omega)]
  · rw [List.getElem?_eq_none (by have : (s.extract i (i + k)).data.size = (s.extract i (i + k)).size := rfl; rw [ByteArray.size_extract] at this; simp only [Array.length_toList]; omega), List.getElem?_eq_none (by simp; omega)]
theorem bytes_ext {a b : ByteArray} (h : a.data.toList = b.data.toList) : a = b := by
  cases a; cases b; simp_all
set_option maxHeartbeats 4000000 in
set_option maxRecDepth 100000 in
theorem enc_dec (s : ByteArray) (i : Nat) (hi : i < s.size) (hok : okAt s i = true) : Utf8.encode (rn s i : Nat) = s.extract i (i + wd s i) := by
  apply bytes_ext
  have hw := wd_le s i hi
  rw [encode_list _ (rn_le s i hi) (rn_sur s i hi), slice_list s i _ hw]
  have hs := sign_at s i hi
  have g1 := bt_lt s i
  have g2 := bt_lt s (i + 1)
  have g3 := bt_lt s (i + 2)
  have g4 := bt_lt s (i + 3)
  rw [hok] at hs
  unfold signN at hs
  repeat' split at hs
  all_goals (simp only [Prod.mk.injEq] at hs; obtain ⟨e1, e2, e3⟩ := hs)
  all_goals first | (cases e3; done) | skip
  · rw [← e1, ← e2, if_pos (by assumption)]
    simp only [List.range_succ, List.range_zero, List.nil_append, List.map_cons, List.map_nil, Nat.add_zero, List.map_append, List.cons_append]
    rw [ofNat_bt s i _ rfl]
  · rw [← e1, ← e2, if_neg (by omega), if_pos (by omega)]
    simp only [List.range_succ, List.range_zero, List.nil_append, List.map_cons, List.map_nil, Nat.add_zero, List.map_append, List.cons_append]
    rw [ofNat_bt s i _ (by omega), ofNat_bt s (i + 1) _ (by omega)]
  · rw [← e1, ← e2, if_neg (by omega), if_neg (by omega), if_pos (by omega)]
    simp only [List.range_succ, List.range_zero, List.nil_append, List.map_cons, List.map_nil, Nat.add_zero, List.map_append, List.cons_append]
    rw [ofNat_bt s i _ (by omega), ofNat_bt s (i + 1) _ (by omega), ofNat_bt s (i + 2) _ (by omega)]
  · rw [← e1, ← e2, if_neg (by omega), if_neg (by omega), if_neg (by omega)]
    simp only [List.range_succ, List.range_zero, List.nil_append, List.map_cons, List.map_nil, Nat.add_zero, List.map_append, List.cons_append]
    rw [ofNat_bt s i _ (by omega), ofNat_bt s (i + 1) _ (by omega), ofNat_bt s (i + 2) _ (by omega), ofNat_bt s (i + 3) _ (by omega)]
end Go.Proofs.Ytkofaoaglnjkgaa
