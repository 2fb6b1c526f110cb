/- Pack and Unpack, the program's and the reference's, told by one function each. -/
import Derived.Test.YtfcejeopfodeoaaRefUnpack
namespace Go.Proofs.Ytfcejeopfodeoaa
open Go.RowKit Classical

def packOk (xs : List Nat) (wd : Int) : Bool := decide (0 ≤ wd ∧ wd ≤ 64 ∧ xs.length ≤ 256 ∧ (wide xs : Int) ≤ wd)
/-- The bytes that numbers are packed in. -/
noncomputable def packed (xs : List Nat) (d : Nat) : List Nat := Classical.epsilon fun bs => bs.length = (xs.length * d + 7) / 8 ∧ Upto xs d (xs.length * d) bs
theorem packed_eq {xs : List Nat} {d : Nat} {bs : List Nat} (hl : bs.length = (xs.length * d + 7) / 8) (hu : Upto xs d (xs.length * d) bs) : packed xs d = bs := by
  have h := Classical.epsilon_spec (p := fun bs => bs.length = (xs.length * d + 7) / 8 ∧ Upto xs d (xs.length * d) bs) ⟨bs, hl, hu⟩
  exact h.2.unique hu (h.1.trans hl.symm)
noncomputable def packedL (xs : List Nat) (wd : Int) : List Nat := if packOk xs wd then packed xs wd.toNat else []

def PackPost (w : World) (xs : List Nat) (wd : Int) (e : Ending) (w' : World) : Prop :=
  ∃ a m c, e = .returned (.tuple #[.slice a m c, .bool (packOk xs wd)]) ∧ Nums .u8 w' a m (packedL xs wd) ∧ (∀ b ∈ packedL xs wd, b < 256) ∧ Below w.heap.size w w' ∧
    (packOk xs wd = true → m = (xs.length * wd.toNat + 7) / 8 ∧ Upto xs wd.toNat (xs.length * wd.toNat) (packedL xs wd))

theorem Nums.nil_ (k : IntKind) (w : World) : Nums k w none 0 [] := ⟨rfl, fun h => absurd h (by omega)⟩
theorem pack_no_post {w w' : World} {xs : List Nat} {wd : Int} {e : Ending} (hno : packOk xs wd = false) (h : PackNo w e w') : PackPost w xs wd e w' := by
  obtain ⟨rfl, rfl⟩ := h
  have hL : packedL xs wd = [] := by simp [packedL, hno]
  refine ⟨none, 0, 0, by rw [hno], by rw [hL]; exact Nums.nil_ _ _, by rw [hL]; simp, Below.refl _ _, by rw [hno]; intro h; cases h⟩
theorem packOk_cases (xs : List Nat) (wd : Int) : packOk xs wd = true ∨ packOk xs wd = false := by cases packOk xs wd <;> simp

theorem Pack_any (a : Option Addr) (n c : Nat) (xs : List Nat) (w : World) (wd : Int) (h : Nums .u64 w a n xs) (hb : ∀ x ∈ xs, x < 2 ^ 64) (hn : n ≤ maxLen) :
    Calls Try.prog 9 #[.slice a n c, .int .i64 wd] w (PackPost w xs wd) := by
  rcases packOk_cases xs wd with hok | hok
  · have hok' := hok
    simp only [packOk, decide_eq_true_eq] at hok'
    obtain ⟨h0, h64, h256, hw⟩ := hok'
    obtain ⟨d, rfl⟩ : ∃ d : Nat, wd = (d : Int) := ⟨wd.toNat, by omega⟩
    refine (Pack_yes a n c xs w d h hb (by rw [← h.1]; exact h256) (by omega) (by omega)).mono ?_
    rintro e w' ⟨g, m, bs, rfl, hm, hup, hown, hbel⟩
    have hL : packedL xs d = bs := by simp only [packedL, hok, if_true, Int.toNat_natCast]; exact packed_eq (by rw [hown.2.2.1, hm]) hup
    exact ⟨_, m, m, by rw [hok], by rw [hL]; exact hown.nums, by rw [hL]; exact hup.1, hbel, fun _ => ⟨by simpa using hm, by rw [hL]; simpa using hup⟩⟩
  · have hok' := hok
    simp only [packOk, decide_eq_false_iff_not] at hok'
    exact (Pack_no a n c xs w wd h hb hn (by rw [← h.1]; omega)).mono fun e w' hp => pack_no_post hok hp
theorem RefPack_any (a : Option Addr) (n c : Nat) (xs : List Nat) (w : World) (wd : Int) (h : Nums .u64 w a n xs) (hb : ∀ x ∈ xs, x < 2 ^ 64) (hn : n ≤ maxLen) :
    Calls Try.prog 10 #[.slice a n c, .int .i64 wd] w (PackPost w xs wd) := by
  rcases packOk_cases xs wd with hok | hok
  · have hok' := hok
    simp only [packOk, decide_eq_true_eq] at hok'
    obtain ⟨h0, h64, h256, hw⟩ := hok'
    obtain ⟨d, rfl⟩ : ∃ d : Nat, wd = (d : Int) := ⟨wd.toNat, by omega⟩
    refine (RefPack_yes a n c xs w d h hb (by rw [← h.1]; exact h256) (by omega) (by omega)).mono ?_
    rintro e w' ⟨a', c', bs, rfl, hm, hup, hnums, hbel⟩
    have hL : packedL xs d = bs := by simp only [packedL, hok, if_true, Int.toNat_natCast]; exact packed_eq hm hup
    exact ⟨a', bs.length, c', by rw [hok], by rw [hL]; exact hnums, by rw [hL]; exact hup.1, hbel, fun _ => ⟨by simpa using hm, by rw [hL]; simpa using hup⟩⟩
  · have hok' := hok
    simp only [packOk, decide_eq_false_iff_not] at hok'
    exact (RefPack_no a n c xs w wd h hb hn (by rw [← h.1]; omega)).mono fun e w' hp => pack_no_post hok hp

noncomputable def unpErr (bs : List Nat) (n wd : Int) : Int :=
  if n < 0 ∨ 256 < n ∨ wd < 0 ∨ 64 < wd then 1 else if bs.length ≠ (n.toNat * wd.toNat + 7) / 8 ∨ Tail bs (n.toNat * wd.toNat) then 40 else 0
noncomputable def unpacked (bs : List Nat) (n d : Nat) : List Nat := Classical.epsilon fun xs => xs.length = n ∧ Unpacked bs d xs
theorem unpacked_eq {bs xs : List Nat} {n d : Nat} (hl : xs.length = n) (hu : Unpacked bs d xs) : unpacked bs n d = xs := by
  have h := Classical.epsilon_spec (p := fun xs => xs.length = n ∧ Unpacked bs d xs) ⟨xs, hl, hu⟩
  exact h.2.unique hu (h.1.trans hl.symm)
noncomputable def unpackedL (bs : List Nat) (n wd : Int) : List Nat := if unpErr bs n wd = 0 then unpacked bs n.toNat wd.toNat else []
def UnpackPost (w : World) (bs : List Nat) (n wd : Int) (e : Ending) (w' : World) : Prop :=
  ∃ a m c, e = .returned (.tuple #[.slice a m c, .int .i64 (unpErr bs n wd)]) ∧ Nums .u64 w' a m (unpackedL bs n wd) ∧ Below w.heap.size w w' ∧ m ≤ 256 ∧ (∀ x ∈ unpackedL bs n wd, x < 2 ^ 64) ∧
    (unpErr bs n wd = 0 → Unpacked bs wd.toNat (unpackedL bs n wd) ∧ (m : Int) = n)

theorem unpErr_arg {bs : List Nat} {n wd : Int} (h : n < 0 ∨ 256 < n ∨ wd < 0 ∨ 64 < wd) : unpErr bs n wd = 1 := by unfold unpErr; rw [if_pos h]
theorem unpErr_form {bs : List Nat} {n wd : Int} (h : ¬ (n < 0 ∨ 256 < n ∨ wd < 0 ∨ 64 < wd)) (h2 : bs.length ≠ (n.toNat * wd.toNat + 7) / 8 ∨ Tail bs (n.toNat * wd.toNat)) : unpErr bs n wd = 40 := by
  unfold unpErr; rw [if_neg h, if_pos h2]
theorem unpErr_ok {bs : List Nat} {n wd : Int} (h : ¬ (n < 0 ∨ 256 < n ∨ wd < 0 ∨ 64 < wd)) (h2 : ¬ (bs.length ≠ (n.toNat * wd.toNat + 7) / 8 ∨ Tail bs (n.toNat * wd.toNat))) : unpErr bs n wd = 0 := by
  unfold unpErr; rw [if_neg h, if_neg h2]
theorem unpack_no_post {w w' : World} {bs : List Nat} {n wd c : Int} {e : Ending} (hc : unpErr bs n wd = c) (h0 : c ≠ 0) (hb : Below w.heap.size w w') (he : e = .returned (.tuple #[.slice none 0 0, .int .i64 c])) : UnpackPost w bs n wd e w' := by
  have hL : unpackedL bs n wd = [] := by unfold unpackedL; rw [if_neg (by rw [hc]; exact h0)]
  exact ⟨none, 0, 0, by rw [hc]; exact he, by rw [hL]; exact Nums.nil_ _ _, hb, by omega, by rw [hL]; simp, fun h => absurd h (by rw [hc]; exact h0)⟩
theorem unpack_yes_post {w w' : World} {bs xs : List Nat} {n d : Nat} {e : Ending} {a : Option Addr} {c : Nat} (hc : unpErr bs n d = 0) (hn : n ≤ 256) (hd : d ≤ 64) (hb : Below w.heap.size w w') (he : e = .returned (.tuple #[.slice a n c, .int .i64 0]))
    (hl : xs.length = n) (hu : Unpacked bs d xs) (hx : Nums .u64 w' a n xs) : UnpackPost w bs n d e w' := by
  have hL : unpackedL bs n d = xs := by unfold unpackedL; rw [if_pos hc]; simp only [Int.toNat_natCast]; exact unpacked_eq hl hu
  exact ⟨a, n, c, by rw [hc]; exact he, by rw [hL]; exact hx, hb, hn, by rw [hL]; intro x hx; exact Nat.lt_of_lt_of_le (hu.lt x hx) (Nat.pow_le_pow_right (by decide) hd), fun _ => ⟨by rw [hL]; simpa using hu, rfl⟩⟩

theorem Unpack_any (a : Option Addr) (m c : Nat) (w : World) (n wd : Int) (bs : List Nat) (h : Nums .u8 w a m bs) (hb : ∀ b ∈ bs, b < 256) (hm : m ≤ maxLen) :
    Calls Try.prog 13 #[.slice a m c, .int .i64 n, .int .i64 wd] w (UnpackPost w bs n wd) := by
  by_cases h1 : n < 0 ∨ 256 < n ∨ wd < 0 ∨ 64 < wd
  · refine (Unpack_arg a m c w n wd h1).mono ?_
    rintro e w' ⟨rfl, rfl⟩
    exact unpack_no_post (unpErr_arg h1) (by decide) (Below.refl _ _) rfl
  · obtain ⟨n, rfl⟩ : ∃ k : Nat, n = (k : Int) := ⟨n.toNat, by omega⟩
    obtain ⟨d, rfl⟩ : ∃ k : Nat, wd = (k : Int) := ⟨wd.toNat, by omega⟩
    by_cases h2 : bs.length ≠ (n * d + 7) / 8
    · refine (Unpack_len a m c w n d hm (by omega) (by omega) (by rw [← h.1]; exact h2)).mono ?_
      rintro e w' ⟨rfl, rfl⟩
      exact unpack_no_post (unpErr_form h1 (.inl (by simpa using h2))) (by decide) (Below.refl _ _) rfl
    · by_cases h3 : Tail bs (n * d)
      · refine (Unpack_tail a m c w n d bs h hb hm (by omega) (by omega) (by rw [← h.1]; omega) h3).mono ?_
        rintro e w' ⟨rfl, rfl⟩
        exact unpack_no_post (unpErr_form h1 (.inr (by simpa using h3))) (by decide) (Below.refl _ _) rfl
      · refine (Unpack_yes a m c w n d bs h hb hm (by omega) (by omega) (by rw [← h.1]; omega) h3).mono ?_
        rintro e w' ⟨a', c', xs, rfl, hl, hu, hx, hbel⟩
        exact unpack_yes_post (unpErr_ok h1 (by simp only [Int.toNat_natCast]; exact fun hh => hh.elim h2 h3)) (by omega) (by omega) hbel rfl hl hu hx
theorem RefUnpack_any (a : Option Addr) (m c : Nat) (w : World) (n wd : Int) (bs : List Nat) (h : Nums .u8 w a m bs) (hb : ∀ b ∈ bs, b < 256) (hm : m ≤ maxLen) :
    Calls Try.prog 14 #[.slice a m c, .int .i64 n, .int .i64 wd] w (UnpackPost w bs n wd) := by
  by_cases h1 : n < 0 ∨ 256 < n ∨ wd < 0 ∨ 64 < wd
  · refine (RefUnpack_arg a m c w n wd h1).mono ?_
    rintro e w' ⟨rfl, rfl⟩
    exact unpack_no_post (unpErr_arg h1) (by decide) (Below.refl _ _) rfl
  · obtain ⟨n, rfl⟩ : ∃ k : Nat, n = (k : Int) := ⟨n.toNat, by omega⟩
    obtain ⟨d, rfl⟩ : ∃ k : Nat, wd = (k : Int) := ⟨wd.toNat, by omega⟩
    by_cases h2 : bs.length ≠ (n * d + 7) / 8
    · refine (RefUnpack_len a m c w n d hm (by omega) (by omega) (by rw [← h.1]; exact h2)).mono ?_
      rintro e w' ⟨rfl, rfl⟩
      exact unpack_no_post (unpErr_form h1 (.inl (by simpa using h2))) (by decide) (Below.refl _ _) rfl
    · refine (RefUnpack_yes a m c w n d bs h hb hm (by omega) (by omega) (by rw [← h.1]; omega)).mono ?_
      rintro e w' ⟨hbel, ⟨ht, rfl⟩ | ⟨h3, a', c', xs, rfl, hl, hu, hx⟩⟩
      · exact unpack_no_post (unpErr_form h1 (.inr (by simpa using ht))) (by decide) hbel rfl
      · exact unpack_yes_post (unpErr_ok h1 (by simp only [Int.toNat_natCast]; exact fun hh => hh.elim h2 h3)) (by omega) (by omega) hbel rfl hl hu hx
end Go.Proofs.Ytfcejeopfodeoaa
