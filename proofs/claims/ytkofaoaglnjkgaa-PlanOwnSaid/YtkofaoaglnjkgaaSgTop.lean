/- The contract of signs.Above. The contract of signs.Like. The closed probe of chapter 2 says true. Plain: what numbers are written as reads as these numbers. Plain: a sign's bytes are in order as its number; what lies above. A row of the call's own that reads as numbers. -/
import Derived.Test.YtkofaoaglnjkgaaSgAbove
import Derived.Lib.OthersKept
import Derived.Test.YtkofaoaglnjkgaaSgBase
import Derived.Test.YtkofaoaglnjkgaaBase
namespace Go.Proofs.Ytkofaoaglnjkgaa
open Go.RowKit Go.Deep
set_option linter.unusedVariables false
set_option linter.unusedSimpArgs false

def runesV (xs : List Nat) : Array Value := (xs.map fun r : Nat => Value.int .i32 (r : Int)).toArray
theorem runesV_snoc (xs : List Nat) (r : Nat) : (runesV xs).push (.int .i32 (r : Int)) = runesV (xs ++ [r]) := by simp [runesV]
theorem runesV_size (xs : List Nat) : (runesV xs).size = xs.length := by simp [runesV]
theorem runesFrom_eq (s : ByteArray) : ∀ (bound k : Nat), Upto s k → N s ≤ k + bound → Conv.runesFrom s bound (P s k) (runesV (rsK s k)) = runesV (rs s)
  | 0, k, hk, hb => by
    have := hk.le_N
    have e : k = N s := by omega
    rw [Conv.runesFrom, e]; rfl
  | b + 1, k, hk, hb => by
    unfold Conv.runesFrom
    by_cases hlt : P s k < s.size
    · rw [if_pos hlt]
      have ih := runesFrom_eq s b (k + 1) (hk.step hlt) (by omega)
      rw [P_succ, rsK_succ, ← runesV_snoc] at ih
      exact ih
    · rw [if_neg hlt, hk.done hlt]; rfl
theorem runes_all (s : ByteArray) : Conv.runesFrom s s.size 0 #[] = runesV (rs s) := runesFrom_eq s s.size 0 (Upto.zero s) (by have := N_le s; omega)
theorem rs_length (s : ByteArray) : (rs s).length = N s := rsK_length s _
def intsOf (xs : List Nat) : List Int := xs.map fun x : Nat => (x : Int)
theorem runesBytes_snoc (xs : List Nat) (r : Nat) : runesBytes (intsOf (xs ++ [r])) = runesBytes (intsOf xs) ++ Utf8.encode (r : Int) := by simp [runesBytes, intsOf, List.foldl_append]
theorem extract_two (s : ByteArray) (a b : Nat) (hab : a ≤ b) (hb : b ≤ s.size) : s.extract 0 a ++ s.extract a b = s.extract 0 b := by
  apply bytes_ext
  simp only [ByteArray.data_append, ByteArray.data_extract, Array.toList_append]
  have hz : s.size = s.data.size := rfl
  rw [← Array.toList_append, Array.extract_append_extract]
  rw [Nat.min_eq_left (Nat.zero_le _), Nat.max_eq_right hab]
theorem runes_clean {s : ByteArray} : ∀ {k : Nat}, k ≤ N s → cleanK s k = true → runesBytes (intsOf (rsK s k)) = s.extract 0 (P s k)
  | 0, _, _ => by
    rw [P]
    exact (ByteArray.size_eq_zero_iff.1 (by simp)).symm
  | k + 1, hk, hc => by
    rw [cleanK_succ, Bool.and_eq_true] at hc
    have hlt := P_lt (show k < N s by omega)
    rw [rsK_succ, runesBytes_snoc, runes_clean (by omega) hc.1, enc_dec s _ hlt hc.2, P_succ]
    exact extract_two s _ _ (by omega) (wd_le s _ hlt)
theorem clean_le {s : ByteArray} {k : Nat} (hk : k ≤ N s) (hc : clean s = true) : cleanK s k = true := by
  unfold clean cleanK at hc
  unfold cleanK
  rw [List.all_eq_true] at hc ⊢
  intro j hj
  exact hc j (by simp at hj ⊢; omega)
def lenOf : Value → Nat
  | .slice _ n _ => n
  | _ => 0

end Go.Proofs.Ytkofaoaglnjkgaa

namespace Go.Proofs.Ytkofaoaglnjkgaa
open Go.RowKit Go.Deep
set_option linter.unusedVariables false
set_option linter.unusedSimpArgs false

/-- What one more sign of the pattern makes of a row. -/
def stepF (X : Nat → Nat) (p : Nat) (f : Nat → Bool) : Nat → Bool
  | 0 => decide (p = 37) && f 0
  | i + 1 => if p = 37 then f (i + 1) || stepF X p f i else f i && (decide (p = 95) || decide (X i = p))
def fitsK (X : Nat → Nat) (Y : Nat → Nat) : Nat → Nat → Bool
  | 0 => fun i => decide (i = 0)
  | k + 1 => stepF X (Y k) (fitsK X Y k)
def sgn (s : ByteArray) (k : Nat) : Nat := rn s (P s k)
noncomputable def likeB (s t : ByteArray) : Bool := fitsK (sgn s) (sgn t) (N t) (N s)
def boolsV (f : Nat → Bool) (m : Nat) : List Value := (List.range m).map fun i => Value.bool (f i)
theorem boolsV_at {f : Nat → Bool} {m i : Nat} (h : i < m) : (boolsV f m)[i]? = some (.bool (f i)) := by simp [boolsV, h]
theorem boolsV_set (f g : Nat → Bool) (m i : Nat) (b : Bool) (hi : i < m) (h1 : ∀ j, j ≠ i → g j = f j) (h2 : g i = b) : (boolsV f m).set i (.bool b) = boolsV g m := by
  apply List.ext_getElem?
  intro j
  by_cases hj : j < m
  · rw [boolsV_at hj, List.getElem?_set]
    by_cases hij : i = j
    · subst hij; simp [boolsV, hi, h2]
    · rw [if_neg hij, boolsV_at hj, h1 j (Ne.symm hij)]
  · rw [List.getElem?_eq_none (by simp [boolsV]; omega), List.getElem?_eq_none (by simp [boolsV]; omega)]
def partF (X : Nat → Nat) (p : Nat) (f : Nat → Bool) (i j : Nat) : Bool := if j ≤ i then stepF X p f j else false
theorem part_step (X : Nat → Nat) (p : Nat) (f : Nat → Bool) (m i : Nat) (b : Bool) (hi : i + 1 < m) (hb : stepF X p f (i + 1) = b) : (boolsV (partF X p f i) m).set (i + 1) (.bool b) = boolsV (partF X p f (i + 1)) m := by
  refine boolsV_set _ _ m (i + 1) b hi (fun j hj => ?_) (by simp [partF, hb])
  unfold partF
  by_cases h : j ≤ i
  · rw [if_pos h, if_pos (by omega)]
  · rw [if_neg h, if_neg (by omega)]
theorem part_zero (X : Nat → Nat) (p : Nat) (f : Nat → Bool) (m : Nat) (b : Bool) (hm : 0 < m) (hb : stepF X p f 0 = b) : (boolsV (fun _ => false) m).set 0 (.bool b) = boolsV (partF X p f 0) m := by
  refine boolsV_set _ _ m 0 b hm (fun j hj => ?_) (by simp [partF, hb])
  unfold partF
  rw [if_neg (by omega)]
theorem part_all (X : Nat → Nat) (p : Nat) (f : Nat → Bool) (n : Nat) : boolsV (partF X p f n) (n + 1) = boolsV (stepF X p f) (n + 1) := by
  unfold boolsV
  apply List.map_congr_left
  intro j hj
  simp at hj
  unfold partF
  rw [if_pos (by omega)]
theorem made_false (m : Nat) : (madeCells #[Value.bool false] m).toList = boolsV (fun _ => false) m := by
  rw [toList_madeCells_one]
  unfold boolsV
  rw [List.map_const', List.length_range]
theorem start_row (m : Nat) (hm : 0 < m) : (boolsV (fun _ => false) m).set 0 (.bool true) = boolsV (fun i => decide (i = 0)) m :=
  boolsV_set _ _ m 0 true hm (fun j hj => by simp [hj]) (by simp)
theorem infoBool : (Try.prog.info? 4).map (fun i => (i.zero, i.size, i.bytes)) = some (some (.bool false), 1, 1) := by kernel_rfl
theorem own_made {w : World} {B e g m : Nat} (h : w.ownsRow B e 1 (.slice (some ⟨g, 0, none⟩) m m) m (madeCells (Value.bool false).cells (m * 1)).toList) : w.ownsRow B e 1 (.slice (some ⟨g, 0, none⟩) m m) m (boolsV (fun _ => false) m) := by
  rw [Nat.mul_one] at h
  have e : madeCells (Value.bool false).cells m = madeCells #[Value.bool false] m := rfl
  rw [e, made_false] at h
  exact h
theorem start_own {w : World} {B e g m : Nat} (h : w.ownsRow B e 1 (.slice (some ⟨g, 0, none⟩) (m + 1) (m + 1)) (m + 1) ((boolsV (fun _ => false) (m + 1)).set 0 (.bool true))) (X Y : Nat → Nat) : w.ownsRow B e 1 (.slice (some ⟨g, 0, none⟩) (m + 1) (m + 1)) (m + 1) (boolsV (fitsK X Y 0) (m + 1)) := by
  rw [start_row _ (by omega)] at h
  exact h
theorem below_grown_none {w w' : World} (h : w.grownBy w' none) : Below w.heap.size w w' := (Below.refl _ _).grown h (Nat.le_refl _) (fun k hk => by cases hk)
theorem own_block {w : World} {B e n c g : Nat} {xs : List Value} (h : w.ownsRow B e 1 (.slice (some ⟨g, 0, none⟩) n c) n xs) : ∃ cs t fr, w.heap[g]? = some (.cells cs t fr) := by
  rcases h.2 with ⟨h1, _⟩ | ⟨g', cap, cur, hv, _, hg, _⟩
  · cases h1
  · cases hv; exact ⟨_, _, _, hg⟩
theorem own_ne_iter {w : World} {B e n c g k : Nat} {xs : List Value} {t : ByteArray} {q : Nat} (h : w.ownsRow B e 1 (.slice (some ⟨g, 0, none⟩) n c) n xs) (hi : w.heap[k]? = some (.stringIter t q)) : g ≠ k := by
  rintro rfl
  obtain ⟨cs, ty, fr, hg⟩ := own_block h
  rw [hg] at hi; cases hi
theorem own_iterAt {w : World} {B e n c g k : Nat} {xs : List Value} (h : w.ownsRow B e 1 (.slice (some ⟨g, 0, none⟩) n c) n xs) (hk : k ≠ g) (t : ByteArray) (q : Nat) : (w.iterAt k t q).ownsRow B e 1 (.slice (some ⟨g, 0, none⟩) n c) n xs := by
  obtain ⟨h1, h2⟩ := h
  refine ⟨h1, ?_⟩
  rcases h2 with h2 | ⟨g', cap, cur, a, b, c, d⟩
  · exact .inl h2
  · cases a
    exact .inr ⟨g, _, cur, rfl, b, by rw [Lib.iterAt_other _ _ _ _ _ (Ne.symm hk)]; exact c, d⟩
theorem part_own {w : World} {B e g m : Nat} {b : Bool} (h : w.ownsRow B e 1 (.slice (some ⟨g, 0, none⟩) (m + 1) (m + 1)) (m + 1) ((boolsV (fun _ => false) (m + 1)).set 0 (.bool b))) (X : Nat → Nat) (p : Nat) (f : Nat → Bool) (hb : stepF X p f 0 = b) : w.ownsRow B e 1 (.slice (some ⟨g, 0, none⟩) (m + 1) (m + 1)) (m + 1) (boolsV (partF X p f 0) (m + 1)) := by
  rw [part_zero X p f _ b (by omega) hb] at h
  exact h
theorem iterPos_eq {w : World} {k : Nat} {s : ByteArray} {p : Nat} (h : w.heap[k]? = some (.stringIter s p)) : w.iterPos k = p := by simp [World.iterPos, h]
def LikePost (s t : ByteArray) (w : World) (e : Ending) (w' : World) : Prop := e = .returned (.bool (likeB s t)) ∧ Below w.heap.size w w'

end Go.Proofs.Ytkofaoaglnjkgaa

namespace Go.Proofs.Ytkofaoaglnjkgaa
open Go.RowKit Go.Deep
set_option linter.unusedVariables false
set_option linter.unusedSimpArgs false

def sABC : ByteArray := ⟨#[97, 98, 99]⟩
def sAXB : ByteArray := ⟨#[97, 244, 143, 191, 191, 98]⟩
theorem n_abc : N ⟨#[97, 98, 99]⟩ = 3 := N_unique (by decide +kernel) (by decide +kernel)
theorem n_axb : N ⟨#[97, 244, 143, 191, 191, 98]⟩ = 3 := N_unique (by decide +kernel) (by decide +kernel)
theorem n_ae : N ⟨#[97, 195, 169]⟩ = 2 := N_unique (by decide +kernel) (by decide +kernel)
theorem n_jp : N ⟨#[230, 151, 165, 230, 156, 172, 120]⟩ = 3 := N_unique (by decide +kernel) (by decide +kernel)
theorem n_p1 : N ⟨#[97, 37]⟩ = 2 := N_unique (by decide +kernel) (by decide +kernel)
theorem n_p2 : N ⟨#[95, 98, 95]⟩ = 3 := N_unique (by decide +kernel) (by decide +kernel)
theorem n_p3 : N ⟨#[97, 95]⟩ = 2 := N_unique (by decide +kernel) (by decide +kernel)
theorem aboveF_of {s a : ByteArray} {n m : Nat} (hN : N s = n) (hc : cleanK s n = true) (hm : ¬ (n : Int) ≤ (m : Int)) (ha : aboveK s m = some a) : aboveF s (m : Int) = (a, true) := by
  unfold aboveF
  rw [if_neg (by unfold clean; rw [hN, hc]; simp), hN, if_neg hm, Int.toNat_natCast, ha]
theorem aboveK_hit {s : ByteArray} {k : Nat} (h : rn s (P s k) < 1114111) : aboveK s (k + 1) = some (s.extract 0 (P s k) ++ Utf8.encode (nextF (rn s (P s k)) : Nat)) := by
  rw [aboveK, if_pos h]
theorem aboveK_miss {s : ByteArray} {k : Nat} (h : ¬ rn s (P s k) < 1114111) : aboveK s (k + 1) = aboveK s k := by
  rw [aboveK, if_neg h]
theorem ev_a1 : aboveF ⟨#[97, 98, 99]⟩ 2 = (⟨#[97, 99]⟩, true) := by
  refine aboveF_of (m := 2) n_abc (by decide +kernel) (by decide) ?_
  rw [aboveK_hit (by decide +kernel)]
  exact congrArg some (by decide +kernel)
theorem ev_a2 : aboveF ⟨#[97, 244, 143, 191, 191, 98]⟩ 2 = (⟨#[98]⟩, true) := by
  refine aboveF_of (m := 2) n_axb (by decide +kernel) (by decide) ?_
  rw [aboveK_miss (by decide +kernel), aboveK_hit (by decide +kernel)]
  exact congrArg some (by decide +kernel)
theorem ev_f : firstF ⟨#[230, 151, 165, 230, 156, 172, 120]⟩ 2 = ⟨#[230, 151, 165, 230, 156, 172]⟩ := by
  unfold firstF
  rw [n_jp, if_pos (by decide)]
  decide +kernel
theorem ev_l1 : likeB ⟨#[97, 98, 99]⟩ ⟨#[97, 37]⟩ = true := by unfold likeB; rw [n_abc, n_p1]; decide +kernel
theorem ev_l2 : likeB ⟨#[97, 98, 99]⟩ ⟨#[95, 98, 95]⟩ = true := by unfold likeB; rw [n_abc, n_p2]; decide +kernel
theorem ev_l3 : likeB ⟨#[97, 98, 99]⟩ ⟨#[97, 95]⟩ = false := by unfold likeB; rw [n_abc, n_p3]; decide +kernel
def TruthPost (w : World) (e : Ending) (w' : World) : Prop := e = .returned (.bool true) ∧ Below w.heap.size w w'

end Go.Proofs.Ytkofaoaglnjkgaa

namespace Go.Proofs.Ytkofaoaglnjkgaa
open Go.Lib (decodeN decode_at)
set_option linter.unusedVariables false
set_option linter.unusedSimpArgs false

def okRune (c : Nat) : Prop := c ≤ 1114111 ∧ ¬ (55296 ≤ c ∧ c < 57344)
theorem get!_app (a b : ByteArray) (i : Nat) : (a ++ b).get! (a.size + i) = b.get! i := by
  have hz : a.size = a.data.size := rfl
  simp only [ByteArray.get!, ByteArray.data_append, Array.getElem!_eq_getD, Array.getD_eq_getD_getElem?]
  rw [Array.getElem?_append_right (by omega), hz, Nat.add_sub_cancel_left]
theorem get!_left (a b : ByteArray) (i : Nat) (h : i < a.size) : (a ++ b).get! i = a.get! i := by
  have hz : a.size = a.data.size := rfl
  simp only [ByteArray.get!, ByteArray.data_append, Array.getElem!_eq_getD, Array.getD_eq_getD_getElem?]
  rw [Array.getElem?_append_left (by omega)]
theorem decode_app (a b : ByteArray) : Utf8.decode (a ++ b) a.size = Utf8.decode b 0 := by
  rw [decode_at, decode_at]
  have hz : (a ++ b).size - a.size = b.size - 0 := by rw [ByteArray.size_append]; omega
  rw [hz]
  have h0 := get!_app a b 0
  have h1 := get!_app a b 1
  have h2 := get!_app a b 2
  have h3 := get!_app a b 3
  rw [Nat.add_zero] at h0
  rw [h0, h1, h2, h3]
theorem get!_list (b : ByteArray) (l : List UInt8) (h : b.data.toList = l) (i : Nat) (x : UInt8) (hx : l[i]? = some x) : b.get! i = x := by
  subst h
  have hi : i < b.size := by
    rcases Nat.lt_or_ge i b.size with h | h
    · exact h
    · rw [List.getElem?_eq_none (by have : b.size = b.data.size := rfl; simp; omega)] at hx; cases hx
  have := get!_data b i hi
  rw [this] at hx
  exact Option.some.inj hx
theorem u8_nat (n : Nat) (h : n < 256) : (UInt8.ofNat n).toNat = n := by rw [UInt8.toNat_ofNat', Nat.mod_eq_of_lt h]
theorem size_of_list (b : ByteArray) (l : List UInt8) (h : b.data.toList = l) : b.size = l.length := by subst h; exact (Array.length_toList (xs := b.data)).symm
set_option maxHeartbeats 4000000 in
set_option maxRecDepth 100000 in
theorem decode_enc (c : Nat) (h : okRune c) (rest : ByteArray) : Utf8.decode (Utf8.encode (c : Int) ++ rest) 0 = (c, (Utf8.encode (c : Int)).size) := by
  have hl := encode_list c h.1 h.2
  generalize Utf8.encode (c : Int) = E at *
  rw [decode_at]
  have h1 := h.1
  have h2 := h.2
  by_cases c1 : c < 128
  · rw [if_pos c1] at hl
    have hz := size_of_list E _ hl
    have g0 := get!_list E _ hl 0 _ rfl
    rw [get!_left E rest 0 (by rw [hz]; simp), g0, u8_nat _ (by omega), hz]
    unfold decodeN
    rw [if_pos c1]
    rfl
  · rw [if_neg c1] at hl
    by_cases c2 : c < 2048
    · rw [if_pos c2] at hl
      have hz := size_of_list E _ hl
      have g0 := get!_list E _ hl 0 _ rfl
      have g1 := get!_list E _ hl 1 _ rfl
      rw [get!_left E rest 0 (by rw [hz]; simp), get!_left E rest (0 + 1) (by rw [hz]; simp), g0, g1, u8_nat _ (by omega), u8_nat _ (by omega), hz]
      have hs : (E ++ rest).size - 0 = 2 + rest.size := by rw [ByteArray.size_append, hz]; rfl
      rw [hs]
      unfold decodeN
      rw [if_neg (by omega), if_pos (by omega), if_pos (by omega)]
      exact Prod.ext (by dsimp only; omega) rfl
    · rw [if_neg c2] at hl
      by_cases c3 : c < 65536
      · rw [if_pos c3] at hl
        have hz := size_of_list E _ hl
        have g0 := get!_list E _ hl 0 _ rfl
        have g1 := get!_list E _ hl 1 _ rfl
        have g2 := get!_list E _ hl 2 _ rfl
        rw [get!_left E rest 0 (by rw [hz]; simp), get!_left E rest (0 + 1) (by rw [hz]; simp), get!_left E rest (0 + 2) (by rw [hz]; simp), g0, g1, g2, u8_nat _ (by omega), u8_nat _ (by omega), u8_nat _ (by omega), hz]
        have hs : (E ++ rest).size - 0 = 3 + rest.size := by rw [ByteArray.size_append, hz]; rfl
        rw [hs]
        unfold decodeN
        rw [if_neg (by omega), if_neg (by omega), if_pos (by omega), if_pos (by omega)]
        exact Prod.ext (by dsimp only; omega) rfl
      · rw [if_neg c3] at hl
        have hz := size_of_list E _ hl
        have g0 := get!_list E _ hl 0 _ rfl
        have g1 := get!_list E _ hl 1 _ rfl
        have g2 := get!_list E _ hl 2 _ rfl
        have g3 := get!_list E _ hl 3 _ rfl
        rw [get!_left E rest 0 (by rw [hz]; simp), get!_left E rest (0 + 1) (by rw [hz]; simp), get!_left E rest (0 + 2) (by rw [hz]; simp), get!_left E rest (0 + 3) (by rw [hz]; simp), g0, g1, g2, g3, u8_nat _ (by omega), u8_nat _ (by omega), u8_nat _ (by omega), u8_nat _ (by omega), hz]
        have hs : (E ++ rest).size - 0 = 4 + rest.size := by rw [ByteArray.size_append, hz]; rfl
        rw [hs]
        unfold decodeN
        rw [if_neg (by omega), if_neg (by omega), if_neg (by omega), if_pos (by omega), if_pos (by omega)]
        exact Prod.ext (by dsimp only; omega) rfl
theorem fold_app : ∀ (l : List Int) (a : ByteArray), l.foldl (fun r n => r ++ Utf8.encode n) a = a ++ l.foldl (fun r n => r ++ Utf8.encode n) ByteArray.empty
  | [], a => by rw [List.foldl_nil, List.foldl_nil, ByteArray.append_empty]
  | x :: l, a => by
    rw [List.foldl_cons, List.foldl_cons, fold_app l (a ++ Utf8.encode x), fold_app l (ByteArray.empty ++ Utf8.encode x), ByteArray.empty_append, ByteArray.append_assoc]
theorem rb_append (xs ys : List Nat) : runesBytes (intsOf (xs ++ ys)) = runesBytes (intsOf xs) ++ runesBytes (intsOf ys) := by
  unfold runesBytes intsOf
  rw [List.map_append, List.foldl_append, fold_app]
theorem rb_cons (y : Nat) (ys : List Nat) : runesBytes (intsOf (y :: ys)) = Utf8.encode (y : Int) ++ runesBytes (intsOf ys) := by
  unfold runesBytes intsOf
  rw [List.map_cons, List.foldl_cons, fold_app, ByteArray.empty_append]
theorem enc_pos (c : Nat) (h : okRune c) : 0 < (Utf8.encode (c : Int)).size := by
  rw [size_of_list _ _ (encode_list c h.1 h.2)]
  repeat' split
  all_goals simp
/-- The place of the k-th number, as written. -/
theorem rb_place (L : List Nat) (hL : ∀ c ∈ L, okRune c) (k : Nat) (hk : k < L.length) : Utf8.decode (runesBytes (intsOf L)) (runesBytes (intsOf (L.take k))).size = (L[k], (Utf8.encode (L[k] : Int)).size) := by
  have e : L = L.take k ++ (L[k] :: L.drop (k + 1)) := by rw [List.getElem_cons_drop, List.take_append_drop]
  have e2 : runesBytes (intsOf L) = runesBytes (intsOf (L.take k)) ++ (Utf8.encode (L[k] : Int) ++ runesBytes (intsOf (L.drop (k + 1)))) := by
    rw [← rb_cons, ← rb_append, ← e]
  rw [e2, decode_app, decode_enc _ (hL _ (List.getElem_mem hk))]
theorem rb_P (L : List Nat) (hL : ∀ c ∈ L, okRune c) : ∀ k, k ≤ L.length → P (runesBytes (intsOf L)) k = (runesBytes (intsOf (L.take k))).size
  | 0, _ => by rw [P]; simp [intsOf, runesBytes]
  | k + 1, h => by
    have ih := rb_P L hL k (by omega)
    have hp := rb_place L hL k (by omega)
    rw [P_succ, ih]
    unfold wd
    rw [hp]
    have : L.take (k + 1) = L.take k ++ [L[k]] := by rw [List.take_succ_eq_append_getElem]
    rw [this, runesBytes_snoc, ByteArray.size_append]
theorem rb_N (L : List Nat) (hL : ∀ c ∈ L, okRune c) : N (runesBytes (intsOf L)) = L.length := by
  refine N_unique ?_ fun k hk => ?_
  · rw [rb_P L hL _ (Nat.le_refl _), List.take_length]
  · rw [rb_P L hL k (by omega)]
    have h1 := rb_append (L.take k) (L.drop k)
    rw [List.take_append_drop] at h1
    rw [h1, ByteArray.size_append]
    have h2 : L.drop k = L[k] :: L.drop (k + 1) := (List.getElem_cons_drop hk).symm
    rw [h2, rb_cons, ByteArray.size_append]
    have := enc_pos L[k] (hL _ (List.getElem_mem hk))
    omega
theorem rb_rs (L : List Nat) (hL : ∀ c ∈ L, okRune c) : rs (runesBytes (intsOf L)) = L := by
  unfold rs
  rw [rb_N L hL]
  apply List.ext_getElem (by rw [rsK_length])
  intro k h1 h2
  simp only [rsK, List.getElem_map, List.getElem_range]
  unfold rn
  rw [rb_P L hL k (by omega), rb_place L hL k h2]
theorem rb_clean (L : List Nat) (hL : ∀ c ∈ L, okRune c) : clean (runesBytes (intsOf L)) = true := by
  unfold clean cleanK
  rw [rb_N L hL, List.all_eq_true]
  intro k hk
  simp at hk
  have hp := rb_place L hL k hk
  have hr : rn (runesBytes (intsOf L)) (P (runesBytes (intsOf L)) k) = L[k] := by unfold rn; rw [rb_P L hL k (by omega), hp]
  have hw : wd (runesBytes (intsOf L)) (P (runesBytes (intsOf L)) k) = (Utf8.encode (L[k] : Int)).size := by unfold wd; rw [rb_P L hL k (by omega), hp]
  unfold okAt
  rw [hr, hw]
  by_cases h : L[k] = 65533
  · rw [h]
    have : (Utf8.encode ((65533 : Nat) : Int)).size = 3 := by rw [size_of_list _ _ (encode_list 65533 (by omega) (by omega))]; rfl
    rw [this]; rfl
  · simp [h]
theorem rs_ok (s : ByteArray) : ∀ c ∈ rs s, okRune c := by
  intro c hc
  unfold rs rsK at hc
  obtain ⟨k, hk, rfl⟩ := List.mem_map.1 hc
  simp at hk
  exact ⟨rn_le s _ (P_lt hk), rn_sur s _ (P_lt hk)⟩
noncomputable def turnF (s : ByteArray) : ByteArray := runesBytes (intsOf (rs s).reverse)
theorem rev_ok (s : ByteArray) : ∀ c ∈ (rs s).reverse, okRune c := fun c hc => rs_ok s c (List.mem_reverse.1 hc)
theorem turn_N (s : ByteArray) : N (turnF s) = N s := by
  unfold turnF; rw [rb_N _ (rev_ok s), List.length_reverse, rs_length]
theorem turn_clean (s : ByteArray) : clean (turnF s) = true := rb_clean _ (rev_ok s)
theorem turn_turn (s : ByteArray) (h : clean s = true) : turnF (turnF s) = s := by
  have e : rs (turnF s) = (rs s).reverse := rb_rs _ (rev_ok s)
  have : turnF (turnF s) = runesBytes (intsOf (rs (turnF s)).reverse) := rfl
  rw [this, e, List.reverse_reverse]
  unfold rs
  rw [runes_clean (Nat.le_refl _) h, P_N]
  exact ByteArray.extract_zero_size
end Go.Proofs.Ytkofaoaglnjkgaa

namespace Go.Proofs.Ytkofaoaglnjkgaa
set_option linter.unusedVariables false
set_option linter.unusedSimpArgs false

/-- x is ahead of y at a place that both have. -/
def Ahead (x y : List UInt8) : Prop := ∃ (pre : List UInt8) (a b : UInt8) (x' y' : List UInt8), x = pre ++ a :: x' ∧ y = pre ++ b :: y' ∧ a < b
theorem ahead_less : ∀ (pre : List UInt8) (a b : UInt8) (x' y' : List UInt8), a < b → Op.bytesLess (pre ++ b :: y') (pre ++ a :: x') = false
  | [], a, b, x', y', h => by
    have h1 : ¬ b < a := by rw [UInt8.lt_iff_toNat_lt] at h ⊢; omega
    have h2 : ¬ b = a := by rintro rfl; rw [UInt8.lt_iff_toNat_lt] at h; omega
    simp [Op.bytesLess, h, h1, h2]
  | p :: pre, a, b, x', y', h => by
    have := ahead_less pre a b x' y' h
    simp [Op.bytesLess, this]
theorem Ahead.less {x y : List UInt8} (h : Ahead x y) (r r' : List UInt8) (pre : List UInt8) : Op.bytesLess (pre ++ (y ++ r')) (pre ++ (x ++ r)) = false := by
  obtain ⟨p, a, b, x', y', rfl, rfl, hab⟩ := h
  have := ahead_less (pre ++ p) a b (x' ++ r) (y' ++ r') hab
  simpa using this
theorem ofNat_lt {a b : Nat} (h : a < b) (hb : b < 256) : UInt8.ofNat a < UInt8.ofNat b := by
  rw [UInt8.lt_iff_toNat_lt, u8_nat a (by omega), u8_nat b hb]; exact h
theorem ahead0 {a b : Nat} (x y : List UInt8) (h : a < b) (hb : b < 256) : Ahead (UInt8.ofNat a :: x) (UInt8.ofNat b :: y) := ⟨[], _, _, x, y, rfl, rfl, ofNat_lt h hb⟩
theorem ahead1 {a b c d : Nat} (x y : List UInt8) (he : a = c) (h : b < d) (hb : d < 256) : Ahead (UInt8.ofNat a :: UInt8.ofNat b :: x) (UInt8.ofNat c :: UInt8.ofNat d :: y) := by
  subst he; exact ⟨[UInt8.ofNat a], _, _, x, y, rfl, rfl, ofNat_lt h hb⟩
theorem ahead2 {a b c d e f : Nat} (x y : List UInt8) (h1 : a = d) (h2 : b = e) (h : c < f) (hb : f < 256) : Ahead (UInt8.ofNat a :: UInt8.ofNat b :: UInt8.ofNat c :: x) (UInt8.ofNat d :: UInt8.ofNat e :: UInt8.ofNat f :: y) := by
  subst h1 h2; exact ⟨[UInt8.ofNat a, UInt8.ofNat b], _, _, x, y, rfl, rfl, ofNat_lt h hb⟩
theorem ahead3 {a b c d a' b' c' d' : Nat} (x y : List UInt8) (h1 : a = a') (h2 : b = b') (h3 : c = c') (h : d < d') (hb : d' < 256) : Ahead (UInt8.ofNat a :: UInt8.ofNat b :: UInt8.ofNat c :: UInt8.ofNat d :: x) (UInt8.ofNat a' :: UInt8.ofNat b' :: UInt8.ofNat c' :: UInt8.ofNat d' :: y) := by
  subst h1 h2 h3; exact ⟨[UInt8.ofNat a, UInt8.ofNat b, UInt8.ofNat c], _, _, x, y, rfl, rfl, ofNat_lt h hb⟩
theorem enc_ahead (c d : Nat) (hc : okRune c) (hd : okRune d) (h : c < d) : Ahead (Utf8.encode (c : Int)).data.toList (Utf8.encode (d : Int)).data.toList := by
  rw [encode_list c hc.1 hc.2, encode_list d hd.1 hd.2]
  have h1 := hd.1
  by_cases c1 : c < 128
  · rw [if_pos c1]
    by_cases d1 : d < 128
    · rw [if_pos d1]; exact ahead0 _ _ h (by omega)
    · rw [if_neg d1]
      by_cases d2 : d < 2048
      · rw [if_pos d2]; exact ahead0 _ _ (by omega) (by omega)
      · rw [if_neg d2]
        by_cases d3 : d < 65536
        · rw [if_pos d3]; exact ahead0 _ _ (by omega) (by omega)
        · rw [if_neg d3]; exact ahead0 _ _ (by omega) (by omega)
  · rw [if_neg c1, if_neg (show ¬ d < 128 by omega)]
    by_cases c2 : c < 2048
    · rw [if_pos c2]
      by_cases d2 : d < 2048
      · rw [if_pos d2]
        by_cases e0 : c / 64 < d / 64
        · exact ahead0 _ _ (by omega) (by omega)
        · exact ahead1 _ _ (by omega) (by omega) (by omega)
      · rw [if_neg d2]
        by_cases d3 : d < 65536
        · rw [if_pos d3]; exact ahead0 _ _ (by omega) (by omega)
        · rw [if_neg d3]; exact ahead0 _ _ (by omega) (by omega)
    · rw [if_neg c2, if_neg (show ¬ d < 2048 by omega)]
      by_cases c3 : c < 65536
      · rw [if_pos c3]
        by_cases d3 : d < 65536
        · rw [if_pos d3]
          by_cases e0 : c / 4096 < d / 4096
          · exact ahead0 _ _ (by omega) (by omega)
          · by_cases e1 : c / 64 % 64 < d / 64 % 64
            · exact ahead1 _ _ (by omega) (by omega) (by omega)
            · exact ahead2 _ _ (by omega) (by omega) (by omega) (by omega)
        · rw [if_neg d3]; exact ahead0 _ _ (by omega) (by omega)
      · rw [if_neg c3, if_neg (show ¬ d < 65536 by omega)]
        by_cases e0 : c / 262144 < d / 262144
        · exact ahead0 _ _ (by omega) (by omega)
        · by_cases e1 : c / 4096 % 64 < d / 4096 % 64
          · exact ahead1 _ _ (by omega) (by omega) (by omega)
          · by_cases e2 : c / 64 % 64 < d / 64 % 64
            · exact ahead2 _ _ (by omega) (by omega) (by omega) (by omega)
            · exact ahead3 _ _ (by omega) (by omega) (by omega) (by omega) (by omega)
def sgnR (s : ByteArray) (k : Nat) : Nat := rn s (P s k)
theorem split_at (s : ByteArray) {k m : Nat} (hk : k < m) (hm : m ≤ N s) (hok : okAt s (P s k) = true) :
    s.extract 0 (P s m) = s.extract 0 (P s k) ++ (Utf8.encode (sgnR s k : Nat) ++ s.extract (P s (k + 1)) (P s m)) := by
  have hlt := P_lt (show k < N s by omega)
  have h1 := enc_dec s (P s k) hlt hok
  have hmo := P_mono (s := s) (show k + 1 ≤ m from hk)
  have hz := (upto_of_le hm).1
  have hsu := P_succ s k
  unfold sgnR
  rw [h1, ← hsu]
  rw [← ByteArray.append_assoc, extract_two s _ _ (by omega) (by omega), extract_two s _ _ hmo hz]
/-- What above finds. -/
theorem aboveK_some {s a : ByteArray} : ∀ {m : Nat}, m ≤ N s → aboveK s m = some a → ∃ k, k < m ∧ rn s (P s k) < 1114111 ∧ a = s.extract 0 (P s k) ++ Utf8.encode (nextF (rn s (P s k)) : Nat)
  | 0, _, h => by simp [aboveK] at h
  | m + 1, hm, h => by
    rw [aboveK] at h
    by_cases hr : rn s (P s m) < 1114111
    · rw [if_pos hr] at h
      exact ⟨m, by omega, hr, (Option.some.inj h).symm⟩
    · rw [if_neg hr] at h
      obtain ⟨k, hk, h1, h2⟩ := aboveK_some (by omega) h
      exact ⟨k, by omega, h1, h2⟩
theorem nextF_gt (c : Nat) : c < nextF c := by unfold nextF; split <;> omega
theorem geq_of_split (x y r pre : ByteArray) (E E' : ByteArray) (h : Ahead E.data.toList E'.data.toList) (hy : y = pre ++ (E ++ r)) (hx : x = pre ++ E') : Op.bytesLess x.toList y.toList = false := by
  rw [Lib.toList_data, Lib.toList_data, hx, hy]
  simp only [ByteArray.data_append, Array.toList_append]
  have := h.less r.data.toList [] pre.data.toList
  simpa using this
theorem above_bound {s a : ByteArray} {m : Nat} (hm : m < N s) (hc : clean s = true) (h : aboveK s m = some a) (more : ByteArray) :
    Op.bytesLess a.toList s.toList = false ∧ Op.bytesLess a.toList (s.extract 0 (P s m) ++ more).toList = false ∧ N a ≤ m := by
  obtain ⟨k, hk, hr, rfl⟩ := aboveK_some (Nat.le_of_lt hm) h
  have hlt := P_lt (show k < N s by omega)
  have hok : okAt s (P s k) = true := by
    have := clean_le (show k + 1 ≤ N s by omega) hc
    rw [cleanK_succ, Bool.and_eq_true] at this
    exact this.2
  have ok1 : okRune (rn s (P s k)) := ⟨rn_le s _ hlt, rn_sur s _ hlt⟩
  have ok2 : okRune (nextF (rn s (P s k))) := nextF_ok _ hr ok1.2
  have hah := enc_ahead _ _ ok1 ok2 (nextF_gt _)
  refine ⟨?_, ?_, ?_⟩
  · have hsp := split_at s (show k < N s by omega) (Nat.le_refl _) hok
    rw [P_N, ByteArray.extract_zero_size] at hsp
    exact geq_of_split _ s _ _ _ _ hah hsp rfl
  · have hsp := split_at s hk (Nat.le_of_lt hm) hok
    refine geq_of_split _ _ (s.extract (P s (k + 1)) (P s m) ++ more) (s.extract 0 (P s k)) _ _ hah ?_ rfl
    rw [hsp, ByteArray.append_assoc, ByteArray.append_assoc]
    rfl
  · rw [← runes_clean (show k ≤ N s by omega) (clean_le (by omega) hc), ← runesBytes_snoc, rb_N]
    · rw [List.length_append, rsK_length]; simp; omega
    · intro c hcm
      rcases List.mem_append.1 hcm with h1 | h1
      · obtain ⟨j, hj, rfl⟩ := List.mem_map.1 h1
        simp at hj
        have := P_lt (show j < N s by omega)
        exact ⟨rn_le s _ this, rn_sur s _ this⟩
      · simp at h1; subst h1; exact ok2
end Go.Proofs.Ytkofaoaglnjkgaa

namespace Go.Proofs.Ytkofaoaglnjkgaa
open Go.RowKit Go.Deep
set_option linter.unusedVariables false
set_option linter.unusedSimpArgs false

theorem sl_own {w : World} {B e n c : Nat} {ad : Option Addr} {xs : List Nat} (h : w.ownsRow B e 1 (.slice ad n c) n (intsV xs)) : Sl 1 (NatR .i64) w ad n xs := by
  have hl : xs.length = n := by have := h.1; rw [intsV_length] at this; omega
  refine ⟨hl, fun hn => ?_⟩
  rcases h.2 with ⟨_, h0⟩ | ⟨g, cap, cur, hv, hb, hg, _⟩
  · omega
  · simp only [Value.slice.injEq] at hv
    obtain ⟨rfl, _, rfl⟩ := hv
    refine ⟨g, 0, rfl, ?_, fun i x hi => ⟨[.int .i64 (x : Int)], rfl, rfl, fun j v hj => ?_⟩⟩
    · rcases Nat.lt_or_ge g w.heap.size with hlt | hge
      · exact hlt
      · rw [Array.getElem?_eq_none hge] at hg; cases hg
    · have hil : i < n := by
        rcases Nat.lt_or_ge i n with h1 | h1
        · exact h1
        · rw [List.getElem?_eq_none (by omega)] at hi; cases hi
      cases j with
      | zero =>
        simp at hj; subst hj
        have := h.cellAt i (by omega)
        rw [intsV, List.getElem?_map, hi] at this
        simpa using this
      | succ j => simp at hj
end Go.Proofs.Ytkofaoaglnjkgaa
