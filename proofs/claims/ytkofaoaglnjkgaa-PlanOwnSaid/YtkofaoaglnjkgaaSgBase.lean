/- Plain: signs of a text, by the model's own decoding. Plain: where the signs of a text begin. The contracts of signs.Count, First, Clean and next. -/
import Derived.WalkKit
import Derived.Lib.DecodeN
import Derived.Lib.Hide
import Derived.Test.YtkofaoaglnjkgaaProg
import Derived.Test.YtkofaoaglnjkgaaBase
import Derived.Laws.RangeAny
import Derived.WalkSpells
import Derived.Handy
import Derived.Lib.Strings
namespace Go.Proofs.Ytkofaoaglnjkgaa
open Go.Lib (decodeN decode_at)
set_option linter.unusedVariables false
set_option linter.unusedSimpArgs false

def rn (s : ByteArray) (i : Nat) : Nat := (Utf8.decode s i).1
def wd (s : ByteArray) (i : Nat) : Nat := (Utf8.decode s i).2
def okAt (s : ByteArray) (i : Nat) : Bool := !(decide (rn s i = 65533) && decide (wd s i = 1))
def bt (s : ByteArray) (i : Nat) : Nat := (s.get! i).toNat
theorem bt_lt (s : ByteArray) (i : Nat) : bt s i < 256 := (s.get! i).toNat_lt
/-- What the reference reckons. -/
def signN (n b0 b1 b2 b3 : Nat) : Nat × Nat × Bool :=
  if b0 < 128 then (b0, 1, true)
  else if 194 ≤ b0 ∧ b0 < 224 then
    if n < 2 then (65533, 1, false) else if b1 < 128 ∨ 192 ≤ b1 then (65533, 1, false)
    else if ((b0 - 192) * 64 + (b1 - 128)) < 128 ∨ 1114111 < ((b0 - 192) * 64 + (b1 - 128)) ∨ (55296 ≤ ((b0 - 192) * 64 + (b1 - 128)) ∧ ((b0 - 192) * 64 + (b1 - 128)) < 57344) then (65533, 1, false) else (((b0 - 192) * 64 + (b1 - 128)), 2, true)
  else if 224 ≤ b0 ∧ b0 < 240 then
    if n < 3 then (65533, 1, false) else if b1 < 128 ∨ 192 ≤ b1 then (65533, 1, false) else if b2 < 128 ∨ 192 ≤ b2 then (65533, 1, false)
    else if (((b0 - 224) * 64 + (b1 - 128)) * 64 + (b2 - 128)) < 2048 ∨ 1114111 < (((b0 - 224) * 64 + (b1 - 128)) * 64 + (b2 - 128)) ∨ (55296 ≤ (((b0 - 224) * 64 + (b1 - 128)) * 64 + (b2 - 128)) ∧ (((b0 - 224) * 64 + (b1 - 128)) * 64 + (b2 - 128)) < 57344) then (65533, 1, false) else ((((b0 - 224) * 64 + (b1 - 128)) * 64 + (b2 - 128)), 3, true)
  else if 240 ≤ b0 ∧ b0 < 245 then
    if n < 4 then (65533, 1, false) else if b1 < 128 ∨ 192 ≤ b1 then (65533, 1, false) else if b2 < 128 ∨ 192 ≤ b2 then (65533, 1, false) else if b3 < 128 ∨ 192 ≤ b3 then (65533, 1, false)
    else if ((((b0 - 240) * 64 + (b1 - 128)) * 64 + (b2 - 128)) * 64 + (b3 - 128)) < 65536 ∨ 1114111 < ((((b0 - 240) * 64 + (b1 - 128)) * 64 + (b2 - 128)) * 64 + (b3 - 128)) ∨ (55296 ≤ ((((b0 - 240) * 64 + (b1 - 128)) * 64 + (b2 - 128)) * 64 + (b3 - 128)) ∧ ((((b0 - 240) * 64 + (b1 - 128)) * 64 + (b2 - 128)) * 64 + (b3 - 128)) < 57344) then (65533, 1, false) else (((((b0 - 240) * 64 + (b1 - 128)) * 64 + (b2 - 128)) * 64 + (b3 - 128)), 4, true)
  else (65533, 1, false)
def okN (p : Nat × Nat) : Nat × Nat × Bool := (p.1, p.2, !(decide (p.1 = 65533) && decide (p.2 = 1)))
set_option maxHeartbeats 4000000 in
set_option maxRecDepth 100000 in
theorem signN_eq (n b0 b1 b2 b3 : Nat) (h0 : b0 < 256) (h1 : b1 < 256) (h2 : b2 < 256) (h3 : b3 < 256) (hn : 0 < n) : signN n b0 b1 b2 b3 = okN (decodeN n b0 b1 b2 b3) := by
  unfold signN decodeN okN
  by_cases c0 : b0 < 128
  · rw [if_pos c0, if_pos c0]
    have : ¬ b0 = 65533 := by omega
    simp [this]
  · rw [if_neg c0, if_neg c0]
    by_cases c1 : 194 ≤ b0 ∧ b0 < 224
    · rw [if_pos c1]
      repeat' split
      all_goals first | rfl | (exfalso; omega) | (refine Prod.ext (by dsimp only; omega) (by simp)) | (refine Prod.ext (by dsimp only; omega) (by dsimp only; simp; omega))
    · rw [if_neg c1]
      by_cases c2 : 224 ≤ b0 ∧ b0 < 240
      · rw [if_pos c2]
        repeat' split
        all_goals first | rfl | (exfalso; omega) | (refine Prod.ext (by dsimp only; omega) (by simp)) | (refine Prod.ext (by dsimp only; omega) (by dsimp only; simp; omega))
      · rw [if_neg c2]
        by_cases c3 : 240 ≤ b0 ∧ b0 < 245
        · rw [if_pos c3]
          repeat' split
          all_goals first | rfl | (exfalso; omega) | (refine Prod.ext (by dsimp only; omega) (by simp)) | (refine Prod.ext (by dsimp only; omega) (by dsimp only; simp; omega))
        · rw [if_neg c3]
          repeat' split
          all_goals first | rfl | (exfalso; omega) | (refine Prod.ext (by dsimp only; omega) (by simp)) | (refine Prod.ext (by dsimp only; omega) (by dsimp only; simp; omega))
theorem sign_at (s : ByteArray) (i : Nat) (hi : i < s.size) : signN (s.size - i) (bt s i) (bt s (i + 1)) (bt s (i + 2)) (bt s (i + 3)) = (rn s i, wd s i, okAt s i) := by
  rw [signN_eq _ _ _ _ _ (bt_lt _ _) (bt_lt _ _) (bt_lt _ _) (bt_lt _ _) (by omega)]
  unfold okN rn wd okAt rn wd
  rw [decode_at]
  rfl
end Go.Proofs.Ytkofaoaglnjkgaa

namespace Go.Proofs.Ytkofaoaglnjkgaa
open Go.Lib (decodeN decode_at)
set_option linter.unusedVariables false
set_option linter.unusedSimpArgs false

theorem get!_extract (s : ByteArray) (i k : Nat) : (s.extract i s.size).get! k = s.get! (i + k) := by
  simp only [ByteArray.get!, ByteArray.data_extract, Array.getElem!_eq_getD, Array.getD_eq_getD_getElem?, Array.getElem?_extract]
  have h : s.size = s.data.size := rfl
  by_cases hk : k < min s.size s.data.size - i
  · rw [if_pos hk]
  · rw [if_neg hk, Array.getElem?_eq_none (by omega)]
theorem decode_tail (s : ByteArray) (i : Nat) (hi : i ≤ s.size) : Utf8.decode (s.extract i s.size) 0 = Utf8.decode s i := by
  rw [decode_at, decode_at]
  simp only [get!_extract, Nat.zero_add]
  rw [show (s.extract i s.size).size - 0 = s.size - i by rw [ByteArray.size_extract]; omega]
  rfl
theorem rn_tail (s : ByteArray) (i : Nat) (hi : i ≤ s.size) : rn (s.extract i s.size) 0 = rn s i := by unfold rn; rw [decode_tail s i hi]
theorem wd_tail (s : ByteArray) (i : Nat) (hi : i ≤ s.size) : wd (s.extract i s.size) 0 = wd s i := by unfold wd; rw [decode_tail s i hi]
theorem ok_tail (s : ByteArray) (i : Nat) (hi : i ≤ s.size) : okAt (s.extract i s.size) 0 = okAt s i := by unfold okAt; rw [rn_tail s i hi, wd_tail s i hi]
theorem decodeN_facts (n b0 b1 b2 b3 : Nat) (hn : 0 < n) : 1 ≤ (decodeN n b0 b1 b2 b3).2 ∧ (decodeN n b0 b1 b2 b3).2 ≤ n ∧ (decodeN n b0 b1 b2 b3).2 ≤ 4 ∧ (decodeN n b0 b1 b2 b3).1 ≤ 1114111 ∧ ¬ (55296 ≤ (decodeN n b0 b1 b2 b3).1 ∧ (decodeN n b0 b1 b2 b3).1 < 57344) := by
  unfold decodeN
  repeat' split
  all_goals (dsimp only; omega)
theorem wd_pos (s : ByteArray) (i : Nat) (hi : i < s.size) : 1 ≤ wd s i := by unfold wd; rw [decode_at]; exact (decodeN_facts _ _ _ _ _ (by omega)).1
theorem wd_le (s : ByteArray) (i : Nat) (hi : i < s.size) : i + wd s i ≤ s.size := by unfold wd; rw [decode_at]; have := (decodeN_facts (s.size - i) (s.get! i).toNat (s.get! (i + 1)).toNat (s.get! (i + 2)).toNat (s.get! (i + 3)).toNat (by omega)).2.1; omega
theorem wd_le4 (s : ByteArray) (i : Nat) (hi : i < s.size) : wd s i ≤ 4 := by unfold wd; rw [decode_at]; exact (decodeN_facts _ _ _ _ _ (by omega)).2.2.1
theorem rn_le (s : ByteArray) (i : Nat) (hi : i < s.size) : rn s i ≤ 1114111 := by unfold rn; rw [decode_at]; exact (decodeN_facts _ _ _ _ _ (by omega)).2.2.2.1
theorem rn_sur (s : ByteArray) (i : Nat) (hi : i < s.size) : ¬ (55296 ≤ rn s i ∧ rn s i < 57344) := by unfold rn; rw [decode_at]; exact (decodeN_facts _ _ _ _ _ (by omega)).2.2.2.2

/-- Where the k-th sign begins. -/
def P (s : ByteArray) : Nat → Nat
  | 0 => 0
  | k + 1 => P s k + wd s (P s k)
theorem P_succ (s : ByteArray) (k : Nat) : P s (k + 1) = P s k + wd s (P s k) := rfl
def Upto (s : ByteArray) (k : Nat) : Prop := P s k ≤ s.size ∧ ∀ j, j < k → P s j < s.size
theorem Upto.zero (s : ByteArray) : Upto s 0 := ⟨Nat.zero_le _, fun j h => by omega⟩
theorem Upto.step {s : ByteArray} {k : Nat} (h : Upto s k) (hl : P s k < s.size) : Upto s (k + 1) :=
  ⟨by rw [P_succ]; exact wd_le s _ hl, fun j hj => by
    by_cases hjk : j = k
    · subst hjk; exact hl
    · exact h.2 j (by omega)⟩
theorem Upto.k_le {s : ByteArray} : ∀ {k : Nat}, Upto s k → k ≤ P s k
  | 0, _ => Nat.zero_le _
  | k + 1, h => by
    have h1 : Upto s k := ⟨Nat.le_of_lt (h.2 k (by omega)), fun j hj => h.2 j (by omega)⟩
    have := h1.k_le
    have := wd_pos s _ (h.2 k (by omega))
    rw [P_succ]; omega
theorem exists_N (s : ByteArray) : ∃ n, P s n = s.size ∧ Upto s n := by
  have key : ∀ m k, s.size - P s k ≤ m → Upto s k → ∃ n, P s n = s.size ∧ Upto s n := by
    intro m
    induction m with
    | zero => intro k hk h; exact ⟨k, by have := h.1; omega, h⟩
    | succ m ih =>
      intro k hk h
      by_cases hl : P s k < s.size
      · exact ih (k + 1) (by have := wd_pos s _ hl; rw [P_succ]; omega) (h.step hl)
      · exact ⟨k, by have := h.1; omega, h⟩
  exact key s.size 0 (by omega) (Upto.zero s)
noncomputable def N (s : ByteArray) : Nat := Classical.choose (exists_N s)
theorem P_N (s : ByteArray) : P s (N s) = s.size := (Classical.choose_spec (exists_N s)).1
theorem upto_N (s : ByteArray) : Upto s (N s) := (Classical.choose_spec (exists_N s)).2
theorem Upto.le_N {s : ByteArray} {k : Nat} (h : Upto s k) : k ≤ N s := by
  rcases Nat.lt_or_ge (N s) k with h1 | h1
  · have := h.2 _ h1; rw [P_N] at this; omega
  · exact h1
theorem Upto.lt_N {s : ByteArray} {k : Nat} (h : Upto s k) (hl : P s k < s.size) : k < N s := (h.step hl).le_N
theorem Upto.done {s : ByteArray} {k : Nat} (h : Upto s k) (hl : ¬ P s k < s.size) : k = N s := by
  have h1 := h.le_N
  rcases Nat.lt_or_ge k (N s) with h2 | h2
  · exact absurd ((upto_N s).2 k h2) hl
  · omega
theorem upto_of_le {s : ByteArray} {k : Nat} (h : k ≤ N s) : Upto s k := by
  have hn := upto_N s
  refine ⟨?_, fun j hj => hn.2 j (by omega)⟩
  rcases Nat.lt_or_ge k (N s) with h2 | h2
  · exact Nat.le_of_lt (hn.2 k h2)
  · have : k = N s := by omega
    subst this; exact hn.1
theorem N_le (s : ByteArray) : N s ≤ s.size := by have := (upto_N s).k_le; rw [P_N] at this; exact this
theorem P_lt {s : ByteArray} {k : Nat} (h : k < N s) : P s k < s.size := (upto_N s).2 k h
def rsK (s : ByteArray) (k : Nat) : List Nat := (List.range k).map fun j => rn s (P s j)
def atsK (s : ByteArray) (k : Nat) : List Nat := (List.range k).map (P s)
def cleanK (s : ByteArray) (k : Nat) : Bool := (List.range k).all fun j => okAt s (P s j)
noncomputable def rs (s : ByteArray) : List Nat := rsK s (N s)
noncomputable def ats (s : ByteArray) : List Nat := atsK s (N s)
noncomputable def clean (s : ByteArray) : Bool := cleanK s (N s)
theorem rsK_succ (s : ByteArray) (k : Nat) : rsK s (k + 1) = rsK s k ++ [rn s (P s k)] := by simp [rsK, List.range_succ]
theorem atsK_succ (s : ByteArray) (k : Nat) : atsK s (k + 1) = atsK s k ++ [P s k] := by simp [atsK, List.range_succ]
theorem cleanK_succ (s : ByteArray) (k : Nat) : cleanK s (k + 1) = (cleanK s k && okAt s (P s k)) := by simp [cleanK, List.range_succ]
theorem rsK_length (s : ByteArray) (k : Nat) : (rsK s k).length = k := by simp [rsK]
theorem atsK_length (s : ByteArray) (k : Nat) : (atsK s k).length = k := by simp [atsK]
def intsV (xs : List Nat) : List Value := xs.map fun x : Nat => Value.int .i64 (x : Int)
theorem intsV_length (xs : List Nat) : (intsV xs).length = xs.length := by simp [intsV]
theorem intsV_snoc (xs : List Nat) (x : Nat) : intsV xs ++ [Value.int .i64 (x : Int)] = intsV (xs ++ [x]) := by simp [intsV]
end Go.Proofs.Ytkofaoaglnjkgaa

namespace Go.Proofs.Ytkofaoaglnjkgaa
open Go.RowKit Go.Deep
set_option linter.unusedVariables false
set_option linter.unusedSimpArgs false

theorem next_at (w : World) (s : ByteArray) (p : Nat) (h : p < s.size) (ty : TypeId) :
    (Instr.next (.pointer (some ⟨w.heap.size, 0, none⟩)) true ty).run Try.prog (w.iter s p) = .ok (.tuple #[.bool true, .int .i64 (p : Int), .int .i32 (rn s p : Nat)]) (w.iter s (p + wd s p)) :=
  run_next_any w s p ty h
theorem below_iter (w : World) (s : ByteArray) (p : Nat) : Below w.heap.size w (w.iter s p) := (Below.refl _ _).alloc (Nat.le_refl _) _

def CountPost (s : ByteArray) (w : World) (e : Ending) (w' : World) : Prop := e = .returned (.int .i64 (N s : Nat)) ∧ Below w.heap.size w w'
set_option maxRecDepth 100000 in
set_option maxHeartbeats 1000000 in
theorem count_calls (s : ByteArray) (w : World) (hm : s.size ≤ 1000000) : Calls Try.prog 75 #[.string s] w (CountPost s w) := by
  go_enter Try.func75, Try.ntmps75
  go_wp2_with fail
  go_loopw [3] (fun c wr => ∃ k : Nat, Upto s k ∧ c = .int .i64 (k : Int) ∧ wr = w.iter s (P s k)) (fun _ wr => s.size - wr.iterPos w.heap.size)
  case atStart => exact ⟨0, Upto.zero s, rfl, rfl⟩
  case round =>
    obtain ⟨k, hk, rfl, rfl⟩ := hrel
    have HK := Lib.hid hk
    have hkp := hk.k_le
    have hps := hk.1
    by_cases hlt : P s k < s.size
    · have HS := Lib.hid (hk.step hlt)
      have hnx := next_at w s (P s k) hlt
      have hwp := wd_pos s _ hlt
      have hsu := P_succ s k
      have HSU := Lib.hid hsu
      clear hk hsu
      generalize hp : P s k = p at *
      generalize hd : wd s p = d at *
      clear hp hd
      go_wp2
      go_roundw
      case rel => exact ⟨k + 1, HS.out, by go_num, by rw [HSU.out]⟩
      case measure => simp <;> omega
    · have hnx := fun ty => run_next_end (P := Try.prog) w s (P s k) ty hlt
      have hkn := hk.done hlt
      subst hkn
      clear hk HK
      go_wp2
      go_ret
      exact ⟨rfl, below_iter w s _⟩

/-- The first n signs. -/
noncomputable def firstF (s : ByteArray) (n : Int) : ByteArray := if n < (N s : Int) then s.extract 0 (P s n.toNat) else s
def FirstPost (s : ByteArray) (n : Int) (w : World) (e : Ending) (w' : World) : Prop := e = .returned (.string (firstF s n)) ∧ Below w.heap.size w w'
/-- The next sign. -/
def nextF (c : Nat) : Nat := if c = 55295 then 57344 else c + 1
def NextPost (c : Nat) (w : World) (e : Ending) (w' : World) : Prop := e = .returned (.tuple #[.int .i32 (nextF c : Nat), .bool (decide (c < 1114111))]) ∧ w' = w
/-- What a sign of the number 65533 is told by. -/
theorem bad_iff (s : ByteArray) (p : Nat) (h : p < s.size) (hr : rn s p = 65533) : (wd s p = 3 ∧ p + 3 ≤ s.size ∧ bt s p = 239 ∧ bt s (p + 1) = 191 ∧ bt s (p + 2) = 189) ∨ (wd s p = 1 ∧ ¬ (p + 3 ≤ s.size ∧ bt s p = 239 ∧ bt s (p + 1) = 191 ∧ bt s (p + 2) = 189)) := by
  have h1 := bt_lt s p
  have h2 := bt_lt s (p + 1)
  have h3 := bt_lt s (p + 2)
  have h4 := bt_lt s (p + 3)
  have hs := sign_at s p h
  rw [hr] at hs
  generalize wd s p = d at *
  generalize okAt s p = ob at *
  generalize bt s p = b0 at *
  generalize bt s (p + 1) = b1 at *
  generalize bt s (p + 2) = b2 at *
  generalize bt s (p + 3) = b3 at *
  unfold signN at hs
  repeat' split at hs
  all_goals (simp only [Prod.mk.injEq] at hs; obtain ⟨e1, e2, e3⟩ := hs; omega)
theorem get!_data (s : ByteArray) (i : Nat) (h : i < s.size) : s.data.toList[i]? = some (s.get! i) := by
  have h' : i < s.data.size := h
  simp only [ByteArray.get!, Array.getElem!_eq_getD, Array.getD_eq_getD_getElem?]
  rw [Array.getElem?_toList, Array.getElem?_eq_getElem h']
  rfl
theorem take3 (s : ByteArray) (p : Nat) (h : p + 3 ≤ s.size) : ((s.extract p s.size).extract 0 3).toList = [s.get! p, s.get! (p + 1), s.get! (p + 2)] := by
  rw [Lib.toList_data]
  have hsz : ((s.extract p s.size).extract 0 3).size = 3 := by rw [ByteArray.size_extract, ByteArray.size_extract]; omega
  apply List.ext_getElem?
  intro i
  by_cases hi : i < 3
  · rw [get!_data _ i (by omega)]
    have e : ((s.extract p s.size).extract 0 3).get! i = s.get! (p + i) := by
      have e1 : ((s.extract p s.size).extract 0 3).get! i = (s.extract p s.size).get! i := by
        simp only [ByteArray.get!, ByteArray.data_extract, Array.getElem!_eq_getD, Array.getD_eq_getD_getElem?, Array.getElem?_extract]
        have hz : s.size = s.data.size := rfl
        rw [if_pos (by simp; omega)]
        simp
      rw [e1, get!_extract]
    rw [e]
    have : i = 0 ∨ i = 1 ∨ i = 2 := by omega
    rcases this with rfl | rfl | rfl <;> rfl
  · rw [List.getElem?_eq_none (by simp; have : ((s.extract p s.size).extract 0 3).data.size = 3 := hsz; simp at this; omega), List.getElem?_eq_none (by simp; omega)]
theorem pre_true (s : ByteArray) (p : Nat) (h : p + 3 ≤ s.size) (h0 : bt s p = 239) (h1 : bt s (p + 1) = 191) (h2 : bt s (p + 2) = 189) : (((s.extract p s.size).extract 0 3).toList == [239, 191, 189]) = true := by
  rw [take3 s p h]
  have e0 : s.get! p = 239 := UInt8.toNat_inj.1 h0
  have e1 : s.get! (p + 1) = 191 := UInt8.toNat_inj.1 h1
  have e2 : s.get! (p + 2) = 189 := UInt8.toNat_inj.1 h2
  rw [e0, e1, e2]; rfl
theorem pre_false (s : ByteArray) (p : Nat) (h : p + 3 ≤ s.size) (hn : ¬ (p + 3 ≤ s.size ∧ bt s p = 239 ∧ bt s (p + 1) = 191 ∧ bt s (p + 2) = 189)) : (((s.extract p s.size).extract 0 3).toList == [239, 191, 189]) = false := by
  rw [take3 s p h, beq_eq_false_iff_ne]
  intro hc
  simp only [List.cons.injEq, and_true] at hc
  refine hn ⟨h, ?_, ?_, ?_⟩
  · unfold bt; rw [hc.1]; rfl
  · unfold bt; rw [hc.2.1]; rfl
  · unfold bt; rw [hc.2.2]; rfl
theorem clean_bad {s : ByteArray} {k : Nat} (hk : k < N s) (h : okAt s (P s k) = false) : clean s = false := by
  unfold clean cleanK
  rw [List.all_eq_false]
  exact ⟨k, by simpa using hk, by simp [h]⟩
def CleanPost (s : ByteArray) (w : World) (e : Ending) (w' : World) : Prop := e = .returned (.bool (clean s)) ∧ Below w.heap.size w w'
end Go.Proofs.Ytkofaoaglnjkgaa
