/- Plain: a sign's bytes are in order as its number; what lies above. -/
import Derived.Test.YtkofaoaglnjkgaaSgTurnP
namespace Go.Proofs.Ytkofaoaglnjkgaa
set_option linter.unusedVariables false
set_option linter.unusedSimpArgs false

/-- x is ahead of y at a place that both have. -/
def Ahead (x y : List UInt8) : Prop := ∃ (pre : List UInt8) (a b : UInt8) (x' y' : List UInt8), x = pre ++ a :: x' ∧ y = pre ++ b :: y' ∧ a < b
theorem ahead_less : ∀ (pre : List UInt8) (a b : UInt8) (x' y' : List UInt8), a < b → Op.bytesLess (pre ++ b :: y') (pre ++ a :: x') = false
  | [], a, b, x', y', h => by
    have h1 : ¬ b < a := by rw [UInt8.lt_iff_toNat_lt] at h ⊢; omega
    have h2 : ¬ b = a := by rintro rfl; rw [UInt8.lt_iff_toNat_lt] at h; omega
    simp [Op.bytesLess, h, h1, h2]
  | p :: pre, a, b, x', y', h => by
    have := ahead_less pre a b x' y' h
    simp [Op.bytesLess, this]
theorem Ahead.less {x y : List UInt8} (h : Ahead x y) (r r' : List UInt8) (pre : List UInt8) : Op.bytesLess (pre ++ (y ++ r')) (pre ++ (x ++ r)) = false := by
  obtain ⟨p, a, b, x', y', rfl, rfl, hab⟩ := h
  have := ahead_less (pre ++ p) a b (x' ++ r) (y' ++ r') hab
  simpa using this
theorem ofNat_lt {a b : Nat} (h : a < b) (hb : b < 256) : UInt8.ofNat a < UInt8.ofNat b := by
  rw [UInt8.lt_iff_toNat_lt, u8_nat a (by omega), u8_nat b hb]; exact h
theorem ahead0 {a b : Nat} (x y : List UInt8) (h : a < b) (hb : b < 256) : Ahead (UInt8.ofNat a :: x) (UInt8.ofNat b :: y) := ⟨[], _, _, x, y, rfl, rfl, ofNat_lt h hb⟩
theorem ahead1 {a b c d : Nat} (x y : List UInt8) (he : a = c) (h : b < d) (hb : d < 256) : Ahead (UInt8.ofNat a :: UInt8.ofNat b :: x) (UInt8.ofNat c :: UInt8.ofNat d :: y) := by
  subst he; exact ⟨[UInt8.ofNat a], _, _, x, y, rfl, rfl, ofNat_lt h hb⟩
theorem ahead2 {a b c d e f : Nat} (x y : List UInt8) (h1 : a = d) (h2 : b = e) (h : c < f) (hb : f < 256) : Ahead (UInt8.ofNat a :: UInt8.ofNat b :: UInt8.ofNat c :: x) (UInt8.ofNat d :: UInt8.ofNat e :: UInt8.ofNat f :: y) := by
  subst h1 h2; exact ⟨[UInt8.ofNat a, UInt8.ofNat b], _, _, x, y, rfl, rfl, ofNat_lt h hb⟩
theorem ahead3 {a b c d a' b' c' d' : Nat} (x y : List UInt8) (h1 : a = a') (h2 : b = b') (h3 : c = c') (h : d < d') (hb : d' < 256) : Ahead (UInt8.ofNat a :: UInt8.ofNat b :: UInt8.ofNat c :: UInt8.ofNat d :: x) (UInt8.ofNat a' :: UInt8.ofNat b' :: UInt8.ofNat c' :: UInt8.ofNat d' :: y) := by
  subst h1 h2 h3; exact ⟨[UInt8.ofNat a, UInt8.ofNat b, UInt8.ofNat c], _, _, x, y, rfl, rfl, ofNat_lt h hb⟩
theorem enc_ahead (c d : Nat) (hc : okRune c) (hd : okRune d) (h : c < d) : Ahead (Utf8.encode (c : Int)).data.toList (Utf8.encode (d : Int)).data.toList := by
  rw [encode_list c hc.1 hc.2, encode_list d hd.1 hd.2]
  have h1 := hd.1
  by_cases c1 : c < 128
  · rw [if_pos c1]
    by_cases d1 : d < 128
    · rw [if_pos d1]; exact ahead0 _ _ h (by omega)
    · rw [if_neg d1]
      by_cases d2 : d < 2048
      · rw [if_pos d2]; exact ahead0 _ _ (by omega) (by omega)
      · rw [if_neg d2]
        by_cases d3 : d < 65536
        · rw [if_pos d3]; exact ahead0 _ _ (by omega) (by omega)
        · rw [if_neg d3]; exact ahead0 _ _ (by omega) (by omega)
  · rw [if_neg c1, if_neg (show ¬ d < 128 by omega)]
    by_cases c2 : c < 2048
    · rw [if_pos c2]
      by_cases d2 : d < 2048
      · rw [if_pos d2]
        by_cases e0 : c / 64 < d / 64
        · exact ahead0 _ _ (by omega) (by omega)
        · exact ahead1 _ _ (by omega) (by omega) (by omega)
      · rw [if_neg d2]
        by_cases d3 : d < 65536
        · rw [if_pos d3]; exact ahead0 _ _ (by omega) (by omega)
        · rw [if_neg d3]; exact ahead0 _ _ (by omega) (by omega)
    · rw [if_neg c2, if_neg (show ¬ d < 2048 by omega)]
      by_cases c3 : c < 65536
      · rw [if_pos c3]
        by_cases d3 : d < 65536
        · rw [if_pos d3]
          by_cases e0 : c / 4096 < d / 4096
          · exact ahead0 _ _ (by omega) (by omega)
          · by_cases e1 : c / 64 % 64 < d / 64 % 64
            · exact ahead1 _ _ (by omega) (by omega) (by omega)
            · exact ahead2 _ _ (by omega) (by omega) (by omega) (by omega)
        · rw [if_neg d3]; exact ahead0 _ _ (by omega) (by omega)
      · rw [if_neg c3, if_neg (show ¬ d < 65536 by omega)]
        by_cases e0 : c / 262144 < d / 262144
        · exact ahead0 _ _ (by omega) (by omega)
        · by_cases e1 : c / 4096 % 64 < d / 4096 % 64
          · exact ahead1 _ _ (by omega) (by omega) (by omega)
          · by_cases e2 : c / 64 % 64 < d / 64 % 64
            · exact ahead2 _ _ (by omega) (by omega) (by omega) (by omega)
            · exact ahead3 _ _ (by omega) (by omega) (by omega) (by omega) (by omega)
def sgnR (s : ByteArray) (k : Nat) : Nat := rn s (P s k)
theorem split_at (s : ByteArray) {k m : Nat} (hk : k < m) (hm : m ≤ N s) (hok : okAt s (P s k) = true) :
    s.extract 0 (P s m) = s.extract 0 (P s k) ++ (Utf8.encode (sgnR s k : Nat) ++ s.extract (P s (k + 1)) (P s m)) := by
  have hlt := P_lt (show k < N s by omega)
  have h1 := enc_dec s (P s k) hlt hok
  have hmo := P_mono (s := s) (show k + 1 ≤ m from hk)
  have hz := (upto_of_le hm).1
  have hsu := P_succ s k
  unfold sgnR
  rw [h1, ← hsu]
  rw [← ByteArray.append_assoc, extract_two s _ _ (by omega) (by omega), extract_two s _ _ hmo hz]
/-- What above finds. -/
theorem aboveK_some {s a : ByteArray} : ∀ {m : Nat}, m ≤ N s → aboveK s m = some a → ∃ k, k < m ∧ rn s (P s k) < 1114111 ∧ a = s.extract 0 (P s k) ++ Utf8.encode (nextF (rn s (P s k)) : Nat)
  | 0, _, h => by simp [aboveK] at h
  | m + 1, hm, h => by
    rw [aboveK] at h
    by_cases hr : rn s (P s m) < 1114111
    · rw [if_pos hr] at h
      exact ⟨m, by omega, hr, (Option.some.inj h).symm⟩
    · rw [if_neg hr] at h
      obtain ⟨k, hk, h1, h2⟩ := aboveK_some (by omega) h
      exact ⟨k, by omega, h1, h2⟩
theorem nextF_gt (c : Nat) : c < nextF c := by unfold nextF; split <;> omega
theorem geq_of_split (x y r pre : ByteArray) (E E' : ByteArray) (h : Ahead E.data.toList E'.data.toList) (hy : y = pre ++ (E ++ r)) (hx : x = pre ++ E') : Op.bytesLess x.toList y.toList = false := by
  rw [Lib.toList_data, Lib.toList_data, hx, hy]
  simp only [ByteArray.data_append, Array.toList_append]
  have := h.less r.data.toList [] pre.data.toList
  simpa using this
theorem above_bound {s a : ByteArray} {m : Nat} (hm : m < N s) (hc : clean s = true) (h : aboveK s m = some a) (more : ByteArray) :
    Op.bytesLess a.toList s.toList = false ∧ Op.bytesLess a.toList (s.extract 0 (P s m) ++ more).toList = false ∧ N a ≤ m := by
  obtain ⟨k, hk, hr, rfl⟩ := aboveK_some (Nat.le_of_lt hm) h
  have hlt := P_lt (show k < N s by omega)
  have hok : okAt s (P s k) = true := by
    have := clean_le (show k + 1 ≤ N s by omega) hc
    rw [cleanK_succ, Bool.and_eq_true] at this
    exact this.2
  have ok1 : okRune (rn s (P s k)) := ⟨rn_le s _ hlt, rn_sur s _ hlt⟩
  have ok2 : okRune (nextF (rn s (P s k))) := nextF_ok _ hr ok1.2
  have hah := enc_ahead _ _ ok1 ok2 (nextF_gt _)
  refine ⟨?_, ?_, ?_⟩
  · have hsp := split_at s (show k < N s by omega) (Nat.le_refl _) hok
    rw [P_N, ByteArray.extract_zero_size] at hsp
    exact geq_of_split _ s _ _ _ _ hah hsp rfl
  · have hsp := split_at s hk (Nat.le_of_lt hm) hok
    refine geq_of_split _ _ (s.extract (P s (k + 1)) (P s m) ++ more) (s.extract 0 (P s k)) _ _ hah ?_ rfl
    rw [hsp, ByteArray.append_assoc, ByteArray.append_assoc]
    rfl
  · rw [← runes_clean (show k ≤ N s by omega) (clean_le (by omega) hc), ← runesBytes_snoc, rb_N]
    · rw [List.length_append, rsK_length]; simp; omega
    · intro c hcm
      rcases List.mem_append.1 hcm with h1 | h1
      · obtain ⟨j, hj, rfl⟩ := List.mem_map.1 h1
        simp at hj
        have := P_lt (show j < N s by omega)
        exact ⟨rn_le s _ this, rn_sur s _ this⟩
      · simp at h1; subst h1; exact ok2
end Go.Proofs.Ytkofaoaglnjkgaa
