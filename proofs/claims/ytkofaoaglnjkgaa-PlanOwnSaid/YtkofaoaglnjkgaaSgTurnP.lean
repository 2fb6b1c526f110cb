/- Plain: what numbers are written as reads as these numbers. -/
import Derived.Test.YtkofaoaglnjkgaaSgAbove2
namespace Go.Proofs.Ytkofaoaglnjkgaa
open Go.Lib (decodeN decode_at)
set_option linter.unusedVariables false
set_option linter.unusedSimpArgs false

def okRune (c : Nat) : Prop := c ≤ 1114111 ∧ ¬ (55296 ≤ c ∧ c < 57344)
theorem get!_app (a b : ByteArray) (i : Nat) : (a ++ b).get! (a.size + i) = b.get! i := by
  have hz : a.size = a.data.size := rfl
  simp only [ByteArray.get!, ByteArray.data_append, Array.getElem!_eq_getD, Array.getD_eq_getD_getElem?]
  rw [Array.getElem?_append_right (by omega), hz, Nat.add_sub_cancel_left]
theorem get!_left (a b : ByteArray) (i : Nat) (h : i < a.size) : (a ++ b).get! i = a.get! i := by
  have hz : a.size = a.data.size := rfl
  simp only [ByteArray.get!, ByteArray.data_append, Array.getElem!_eq_getD, Array.getD_eq_getD_getElem?]
  rw [Array.getElem?_append_left (by omega)]
theorem decode_app (a b : ByteArray) : Utf8.decode (a ++ b) a.size = Utf8.decode b 0 := by
  rw [decode_at, decode_at]
  have hz : (a ++ b).size - a.size = b.size - 0 := by rw [ByteArray.size_append]; omega
  rw [hz]
  have h0 := get!_app a b 0
  have h1 := get!_app a b 1
  have h2 := get!_app a b 2
  have h3 := get!_app a b 3
  rw [Nat.add_zero] at h0
  rw [h0, h1, h2, h3]
theorem get!_list (b : ByteArray) (l : List UInt8) (h : b.data.toList = l) (i : Nat) (x : UInt8) (hx : l[i]? = some x) : b.get! i = x := by
  subst h
  have hi : i < b.size := by
    rcases Nat.lt_or_ge i b.size with h | h
    · exact h
    · rw [List.getElem?_eq_none (by have : b.size = b.data.size := rfl; simp; omega)] at hx; cases hx
  have := get!_data b i hi
  rw [this] at hx
  exact Option.some.inj hx
theorem u8_nat (n : Nat) (h : n < 256) : (UInt8.ofNat n).toNat = n := by rw [UInt8.toNat_ofNat', Nat.mod_eq_of_lt h]
theorem size_of_list (b : ByteArray) (l : List UInt8) (h : b.data.toList = l) : b.size = l.length := by subst h; exact (Array.length_toList (xs := b.data)).symm
set_option maxHeartbeats 4000000 in
set_option maxRecDepth 100000 in
theorem decode_enc (c : Nat) (h : okRune c) (rest : ByteArray) : Utf8.decode (Utf8.encode (c : Int) ++ rest) 0 = (c, (Utf8.encode (c : Int)).size) := by
  have hl := encode_list c h.1 h.2
  generalize Utf8.encode (c : Int) = E at *
  rw [decode_at]
  have h1 := h.1
  have h2 := h.2
  by_cases c1 : c < 128
  · rw [if_pos c1] at hl
    have hz := size_of_list E _ hl
    have g0 := get!_list E _ hl 0 _ rfl
    rw [get!_left E rest 0 (by rw [hz]; simp), g0, u8_nat _ (by omega), hz]
    unfold decodeN
    rw [if_pos c1]
    rfl
  · rw [if_neg c1] at hl
    by_cases c2 : c < 2048
    · rw [if_pos c2] at hl
      have hz := size_of_list E _ hl
      have g0 := get!_list E _ hl 0 _ rfl
      have g1 := get!_list E _ hl 1 _ rfl
      rw [get!_left E rest 0 (by rw [hz]; simp), get!_left E rest (0 + 1) (by rw [hz]; simp), g0, g1, u8_nat _ (by omega), u8_nat _ (by omega), hz]
      have hs : (E ++ rest).size - 0 = 2 + rest.size := by rw [ByteArray.size_append, hz]; rfl
      rw [hs]
      unfold decodeN
      rw [if_neg (by omega), if_pos (by omega), if_pos (by omega)]
      exact Prod.ext (by dsimp only; omega) rfl
    · rw [if_neg c2] at hl
      by_cases c3 : c < 65536
      · rw [if_pos c3] at hl
        have hz := size_of_list E _ hl
        have g0 := get!_list E _ hl 0 _ rfl
        have g1 := get!_list E _ hl 1 _ rfl
        have g2 := get!_list E _ hl 2 _ rfl
        rw [get!_left E rest 0 (by rw [hz]; simp), get!_left E rest (0 + 1) (by rw [hz]; simp), get!_left E rest (0 + 2) (by rw [hz]; simp), g0, g1, g2, u8_nat _ (by omega), u8_nat _ (by omega), u8_nat _ (by omega), hz]
        have hs : (E ++ rest).size - 0 = 3 + rest.size := by rw [ByteArray.size_append, hz]; rfl
        rw [hs]
        unfold decodeN
        rw [if_neg (by omega), if_neg (by omega), if_pos (by omega), if_pos (by omega)]
        exact Prod.ext (by dsimp only; omega) rfl
      · rw [if_neg c3] at hl
        have hz := size_of_list E _ hl
        have g0 := get!_list E _ hl 0 _ rfl
        have g1 := get!_list E _ hl 1 _ rfl
        have g2 := get!_list E _ hl 2 _ rfl
        have g3 := get!_list E _ hl 3 _ rfl
        rw [get!_left E rest 0 (by rw [hz]; simp), get!_left E rest (0 + 1) (by rw [hz]; simp), get!_left E rest (0 + 2) (by rw [hz]; simp), get!_left E rest (0 + 3) (by rw [hz]; simp), g0, g1, g2, g3, u8_nat _ (by omega), u8_nat _ (by omega), u8_nat _ (by omega), u8_nat _ (by omega), hz]
        have hs : (E ++ rest).size - 0 = 4 + rest.size := by rw [ByteArray.size_append, hz]; rfl
        rw [hs]
        unfold decodeN
        rw [if_neg (by omega), if_neg (by omega), if_neg (by omega), if_pos (by omega), if_pos (by omega)]
        exact Prod.ext (by dsimp only; omega) rfl
theorem fold_app : ∀ (l : List Int) (a : ByteArray), l.foldl (fun r n => r ++ Utf8.encode n) a = a ++ l.foldl (fun r n => r ++ Utf8.encode n) ByteArray.empty
  | [], a => by rw [List.foldl_nil, List.foldl_nil, ByteArray.append_empty]
  | x :: l, a => by
    rw [List.foldl_cons, List.foldl_cons, fold_app l (a ++ Utf8.encode x), fold_app l (ByteArray.empty ++ Utf8.encode x), ByteArray.empty_append, ByteArray.append_assoc]
theorem rb_append (xs ys : List Nat) : runesBytes (intsOf (xs ++ ys)) = runesBytes (intsOf xs) ++ runesBytes (intsOf ys) := by
  unfold runesBytes intsOf
  rw [List.map_append, List.foldl_append, fold_app]
theorem rb_cons (y : Nat) (ys : List Nat) : runesBytes (intsOf (y :: ys)) = Utf8.encode (y : Int) ++ runesBytes (intsOf ys) := by
  unfold runesBytes intsOf
  rw [List.map_cons, List.foldl_cons, fold_app, ByteArray.empty_append]
theorem enc_pos (c : Nat) (h : okRune c) : 0 < (Utf8.encode (c : Int)).size := by
  rw [size_of_list _ _ (encode_list c h.1 h.2)]
  repeat' split
  all_goals simp
/-- The place of the k-th number, as written. -/
theorem rb_place (L : List Nat) (hL : ∀ c ∈ L, okRune c) (k : Nat) (hk : k < L.length) : Utf8.decode (runesBytes (intsOf L)) (runesBytes (intsOf (L.take k))).size = (L[k], (Utf8.encode (L[k] : Int)).size) := by
  have e : L = L.take k ++ (L[k] :: L.drop (k + 1)) := by rw [List.getElem_cons_drop, List.take_append_drop]
  have e2 : runesBytes (intsOf L) = runesBytes (intsOf (L.take k)) ++ (Utf8.encode (L[k] : Int) ++ runesBytes (intsOf (L.drop (k + 1)))) := by
    rw [← rb_cons, ← rb_append, ← e]
  rw [e2, decode_app, decode_enc _ (hL _ (List.getElem_mem hk))]
theorem rb_P (L : List Nat) (hL : ∀ c ∈ L, okRune c) : ∀ k, k ≤ L.length → P (runesBytes (intsOf L)) k = (runesBytes (intsOf (L.take k))).size
  | 0, _ => by rw [P]; simp [intsOf, runesBytes]
  | k + 1, h => by
    have ih := rb_P L hL k (by omega)
    have hp := rb_place L hL k (by omega)
    rw [P_succ, ih]
    unfold wd
    rw [hp]
    have : L.take (k + 1) = L.take k ++ [L[k]] := by rw [List.take_succ_eq_append_getElem]
    rw [this, runesBytes_snoc, ByteArray.size_append]
theorem rb_N (L : List Nat) (hL : ∀ c ∈ L, okRune c) : N (runesBytes (intsOf L)) = L.length := by
  refine N_unique ?_ fun k hk => ?_
  · rw [rb_P L hL _ (Nat.le_refl _), List.take_length]
  · rw [rb_P L hL k (by omega)]
    have h1 := rb_append (L.take k) (L.drop k)
    rw [List.take_append_drop] at h1
    rw [h1, ByteArray.size_append]
    have h2 : L.drop k = L[k] :: L.drop (k + 1) := (List.getElem_cons_drop hk).symm
    rw [h2, rb_cons, ByteArray.size_append]
    have := enc_pos L[k] (hL _ (List.getElem_mem hk))
    omega
theorem rb_rs (L : List Nat) (hL : ∀ c ∈ L, okRune c) : rs (runesBytes (intsOf L)) = L := by
  unfold rs
  rw [rb_N L hL]
  apply List.ext_getElem (by rw [rsK_length])
  intro k h1 h2
  simp only [rsK, List.getElem_map, List.getElem_range]
  unfold rn
  rw [rb_P L hL k (by omega), rb_place L hL k h2]
theorem rb_clean (L : List Nat) (hL : ∀ c ∈ L, okRune c) : clean (runesBytes (intsOf L)) = true := by
  unfold clean cleanK
  rw [rb_N L hL, List.all_eq_true]
  intro k hk
  simp at hk
  have hp := rb_place L hL k hk
  have hr : rn (runesBytes (intsOf L)) (P (runesBytes (intsOf L)) k) = L[k] := by unfold rn; rw [rb_P L hL k (by omega), hp]
  have hw : wd (runesBytes (intsOf L)) (P (runesBytes (intsOf L)) k) = (Utf8.encode (L[k] : Int)).size := by unfold wd; rw [rb_P L hL k (by omega), hp]
  unfold okAt
  rw [hr, hw]
  by_cases h : L[k] = 65533
  · rw [h]
    have : (Utf8.encode ((65533 : Nat) : Int)).size = 3 := by rw [size_of_list _ _ (encode_list 65533 (by omega) (by omega))]; rfl
    rw [this]; rfl
  · simp [h]
theorem rs_ok (s : ByteArray) : ∀ c ∈ rs s, okRune c := by
  intro c hc
  unfold rs rsK at hc
  obtain ⟨k, hk, rfl⟩ := List.mem_map.1 hc
  simp at hk
  exact ⟨rn_le s _ (P_lt hk), rn_sur s _ (P_lt hk)⟩
noncomputable def turnF (s : ByteArray) : ByteArray := runesBytes (intsOf (rs s).reverse)
theorem rev_ok (s : ByteArray) : ∀ c ∈ (rs s).reverse, okRune c := fun c hc => rs_ok s c (List.mem_reverse.1 hc)
theorem turn_N (s : ByteArray) : N (turnF s) = N s := by
  unfold turnF; rw [rb_N _ (rev_ok s), List.length_reverse, rs_length]
theorem turn_clean (s : ByteArray) : clean (turnF s) = true := rb_clean _ (rev_ok s)
theorem turn_turn (s : ByteArray) (h : clean s = true) : turnF (turnF s) = s := by
  have e : rs (turnF s) = (rs s).reverse := rb_rs _ (rev_ok s)
  have : turnF (turnF s) = runesBytes (intsOf (rs (turnF s)).reverse) := rfl
  rw [this, e, List.reverse_reverse]
  unfold rs
  rw [runes_clean (Nat.le_refl _) h, P_N]
  exact ByteArray.extract_zero_size
end Go.Proofs.Ytkofaoaglnjkgaa
