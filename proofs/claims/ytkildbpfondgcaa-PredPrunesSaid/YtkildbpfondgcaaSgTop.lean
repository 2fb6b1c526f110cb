/- The contract of signs.Above. The contract of signs.Like. The closed probe of chapter 2 says true. Plain: what numbers are written as reads as these numbers. Plain: a sign's bytes are in order as its number; what lies above. A row of the call's own that reads as numbers. -/
import Derived.Test.YtkildbpfondgcaaSgAbove
import Derived.Lib.OthersKept
import Derived.Test.YtkildbpfondgcaaSgBase
import Derived.Test.YtkildbpfondgcaaBase
namespace Go.Proofs.Ytkildbpfondgcaa
open Go.RowKit Go.Deep
set_option linter.unusedVariables false
set_option linter.unusedSimpArgs false

def runesV (xs : List Nat) : Array Value := (xs.map fun r : Nat => Value.int .i32 (r : Int)).toArray
theorem runesV_snoc (xs : List Nat) (r : Nat) : (runesV xs).push (.int .i32 (r : Int)) = runesV (xs ++ [r]) := by simp [runesV]
theorem runesV_size (xs : List Nat) : (runesV xs).size = xs.length := by simp [runesV]
theorem runesFrom_eq (s : ByteArray) : ∀ (bound k : Nat), Upto s k → N s ≤ k + bound → Conv.runesFrom s bound (P s k) (runesV (rsK s k)) = runesV (rs s)
  | 0, k, hk, hb => by
    have := hk.le_N
    have e : k = N s := by omega
    rw [Conv.runesFrom, e]; rfl
  | b + 1, k, hk, hb => by
    unfold Conv.runesFrom
    by_cases hlt : P s k < s.size
    · rw [if_pos hlt]
      have ih := runesFrom_eq s b (k + 1) (hk.step hlt) (by omega)
      rw [P_succ, rsK_succ, ← runesV_snoc] at ih
      exact ih
    · rw [if_neg hlt, hk.done hlt]; rfl
theorem runes_all (s : ByteArray) : Conv.runesFrom s s.size 0 #[] = runesV (rs s) := runesFrom_eq s s.size 0 (Upto.zero s) (by have := N_le s; omega)
theorem rs_length (s : ByteArray) : (rs s).length = N s := rsK_length s _
def intsOf (xs : List Nat) : List Int := xs.map fun x : Nat => (x : Int)
theorem runesBytes_snoc (xs : List Nat) (r : Nat) : runesBytes (intsOf (xs ++ [r])) = runesBytes (intsOf xs) ++ Utf8.encode (r : Int) := by simp [runesBytes, intsOf, List.foldl_append]
theorem extract_two (s : ByteArray) (a b : Nat) (hab : a ≤ b) (hb : b ≤ s.size) : s.extract 0 a ++ s.extract a b = s.extract 0 b := by
  apply bytes_ext
  simp only [ByteArray.data_append, ByteArray.data_extract, Array.toList_append]
  have hz : s.size = s.data.size := rfl
  rw [← Array.toList_append, Array.extract_append_extract]
  rw [Nat.min_eq_left (Nat.zero_le _), Nat.max_eq_right hab]
theorem runes_clean {s : ByteArray} : ∀ {k : Nat}, k ≤ N s → cleanK s k = true → runesBytes (intsOf (rsK s k)) = s.extract 0 (P s k)
  | 0, _, _ => by
    rw [P]
    exact (ByteArray.size_eq_zero_iff.1 (by simp)).symm
  | k + 1, hk, hc => by
    rw [cleanK_succ, Bool.and_eq_true] at hc
    have hlt := P_lt (show k < N s by omega)
    rw [rsK_succ, runesBytes_snoc, runes_clean (by omega) hc.1, enc_dec s _ hlt hc.2, P_succ]
    exact extract_two s _ _ (by omega) (wd_le s _ hlt)
theorem clean_le {s : ByteArray} {k : Nat} (hk : k ≤ N s) (hc : clean s = true) : cleanK s k = true := by
  unfold clean cleanK at hc
  unfold cleanK
  rw [List.all_eq_true] at hc ⊢
  intro j hj
  exact hc j (by simp at hj ⊢; omega)
def lenOf : Value → Nat
  | .slice _ n _ => n
  | _ => 0

set_option maxRecDepth 100000 in
set_option maxHeartbeats 4000000 in
theorem above_calls (s : ByteArray) (n : Int) (w : World) (hm : s.size ≤ 1000000) (hn : -9223372036854775808 ≤ n ∧ n ≤ 9223372036854775807) : Calls Try.prog 25 #[.string s, .int .i64 n] w (AbovePost s n w) := by
  go_enter Try.func25, Try.ntmps25
  go_wp2_with fail
  refine (clean_calls _ _ hm).mono ?_
  rintro e w1 ⟨rfl, hb1⟩
  have HB1 := Lib.hid hb1
  clear hb1
  cases hcl : clean s with
  | false =>
    have HCL := Lib.hid hcl
    clear hcl
    go_wp2
    go_ret2
    refine ⟨?_, HB1.out⟩
    unfold aboveF
    rw [if_pos HCL.out]
    rfl
  | true =>
    have HCL := Lib.hid hcl
    clear hcl
    go_wp2_with fail
    refine (count_calls _ _ hm).mono ?_
    rintro e w2 ⟨rfl, hb2⟩
    have HB2 := Lib.hid (HB1.out.trans (hb2.mono HB1.out.size))
    clear hb2
    by_cases hnN : (N s : Int) ≤ n
    · go_wp2
      go_ret2
      refine ⟨?_, HB2.out⟩
      unfold aboveF
      rw [if_neg (by rw [HCL.out]; simp), if_pos hnN]
      rfl
    · go_wp2_with fail
      refine (first_calls _ _ _ hm hn).mono ?_
      rintro e w3 ⟨rfl, hb3⟩
      have HB3 := Lib.hid (HB2.out.trans (hb3.mono HB2.out.size))
      clear hb3
      have hmN : n.toNat ≤ N s := by omega
      generalize hmm : n.toNat = m at *
      have HAF := Lib.hid (show aboveF s n = match aboveK s m with | some a => (a, true) | none => (ByteArray.empty, false) by unfold aboveF; rw [if_neg (by rw [HCL.out]; simp), if_neg (by omega), hmm]; cases aboveK s m <;> rfl)
      have hft : firstF s n = s.extract 0 (P s m) := by unfold firstF; rw [if_pos (by omega), hmm]
      have hrt : Conv.runesFrom (s.extract 0 (P s m)) (s.extract 0 (P s m)).size 0 #[] = runesV (rsK s m) := by rw [runes_all, head_rs hmN]
      have hrz : (runesV (rsK s m)).size = m := by rw [runesV_size, rsK_length]
      rw [hft]
      have hNl := N_le s
      have hcr := run_runes_of_string (P := Try.prog) w3 9 93 21 (s.extract 0 (P s m)) Try.underlying9 Try.underlying93 Try.underlying21 (by rw [hrt, hrz]; omega)
      rw [hrt, hrz] at hcr
      have hge := grownCap_ge w3 m 0 21
      generalize grownCap w3 m 0 21 = cap at *
      have hcell : ∀ j, j < m → (w3.drew.alloc (.cells (runesV (rsK s m) ++ Array.replicate (cap - m) (.int .i32 0)) 21)).cell? ⟨w3.heap.size, j, none⟩ = some (.int .i32 (rn s (P s j) : Nat)) := fun j hj => by
        show (w3.drew.alloc _).cell? ⟨w3.drew.heap.size, j, none⟩ = _
        rw [World.cell?_alloc_new, Array.getElem?_append_left (by rw [hrz]; exact hj)]
        simp [runesV, rsK, hj]
      have hfrz : ∀ j, (w3.drew.alloc (.cells (runesV (rsK s m) ++ Array.replicate (cap - m) (.int .i32 0)) 21)).frozen? ⟨w3.heap.size, j, none⟩ = false := fun j => by
        show (w3.drew.alloc _).frozen? ⟨w3.drew.heap.size, j, none⟩ = _
        rw [World.frozen?_alloc_mark]
        simp
      have hbA : Below w.heap.size w (w3.drew.alloc (.cells (runesV (rsK s m) ++ Array.replicate (cap - m) (.int .i32 0)) 21)) := HB3.out.drew.alloc HB3.out.size _
      have HCELL := Lib.hid hcell
      have HFRZ := Lib.hid hfrz
      have HBA := Lib.hid hbA
      have hB3 : w.heap.size ≤ w3.heap.size := HB3.out.size
      clear hcell hfrz hbA hrt hrz hft
      generalize w3.drew.alloc (.cells (runesV (rsK s m) ++ Array.replicate (cap - m) (.int .i32 0)) 21) = W1 at *
      have hm46 : (m : Int) ≤ 1000000 := by omega
      go_wp2_with fail
      go_loopw [6] (fun v wr => ∃ k : Nat, k ≤ m ∧ v = .slice (some ⟨w3.heap.size, 0, none⟩) k cap ∧ wr = W1 ∧ aboveK s m = aboveK s k) (fun v _ => lenOf v)
      case atStart => exact ⟨m, Nat.le_refl _, rfl, rfl, rfl⟩
      case round =>
        obtain ⟨k, hk, rfl, rfl, hab⟩ := hrel
        have HAB := Lib.hid hab
        clear hab
        cases k with
        | zero =>
          go_wp2
          go_ret2
          refine ⟨?_, HBA.out⟩
          rw [HAF.out, HAB.out]
          rfl
        | succ j =>
          have hjN : j < N s := by omega
          have hcj := HCELL.out j (by omega)
          have hfj := HFRZ.out j
          have hpl := P_lt hjN
          have hrl := rn_le s (P s j) hpl
          have hak : aboveK s (j + 1) = if rn s (P s j) < 1114111 then some (s.extract 0 (P s j) ++ Utf8.encode (nextF (rn s (P s j)) : Nat)) else aboveK s j := rfl
          have HAK := Lib.hid hak
          have HRC := Lib.hid (runes_clean (Nat.le_of_lt hjN) (clean_le (Nat.le_of_lt hjN) HCL.out))
          clear hak
          generalize hr : rn s (P s j) = r at *
          have HRR := Lib.hid hr
          have HRL := Lib.hid hrl
          have hj0 : (0 : Int) ≤ (j : Int) := by omega
          have hjc : (j : Int) ≤ (cap : Int) := by omega
          clear hr hrl hpl hmm hn hnN
          go_wp2_with fail
          refine (next_calls r _ HRL.out).mono ?_
          rintro e w' ⟨rfl, rfl⟩
          by_cases hlt : r < 1114111
          · have HLT := Lib.hid hlt
            rw [show decide (r < 1114111) = true by simpa using hlt]
            clear hlt
            have hcv := run_convert_runes (P := Try.prog) (w'.setCell ⟨w3.heap.size, j, none⟩ (.int .i32 (nextF r : Nat))) 93 9 21 ⟨w3.heap.size, 0, none⟩ (j + 1) cap (intsOf (rsK s j ++ [nextF r])) (by simp [intsOf, rsK_length]) Try.underlying93 Try.underlying21 Try.underlying9 (fun i hi => by
              have hplain : (⟨w3.heap.size, 0, none⟩ : Addr).add i = ⟨w3.heap.size, i, none⟩ := by unfold Addr.add; split <;> simp_all
              have hi2 : i < j + 1 := by simpa [intsOf, rsK_length] using hi
              rw [hplain]
              by_cases hij : i = j
              · subst hij
                rw [World.cell?_setCell_same' _ _ _ (by rw [hcj]; rfl)]
                simp [intsOf, rsK_length, List.getD]
              · rw [World.cell?_setCell_other _ _ _ _ (by intro e; cases e; exact hij rfl), HCELL.out i (by omega)]
                have : i < j := by omega
                simp [intsOf, rsK, List.getD, List.getElem?_append_left, this])
            have htk : (intsOf (rsK s j ++ [nextF r])).take (j + 1) = intsOf (rsK s j ++ [nextF r]) := List.take_of_length_le (by simp [intsOf, rsK_length])
            rw [htk, runesBytes_snoc, HRC.out] at hcv
            clear htk
            go_wp2
            go_ret2
            refine ⟨?_, HBA.out.setCell hB3 _⟩
            rw [HAF.out, HAB.out, HAK.out, if_pos HLT.out]
            rfl
          · have HLT := Lib.hid hlt
            rw [show decide (r < 1114111) = false by simpa using hlt]
            clear hlt
            go_wp2
            go_roundw
            case rel => exact ⟨j, by omega, rfl, trivial, HAB.out.trans (HAK.out.trans (if_neg HLT.out))⟩
            case measure => simp [lenOf] <;> omega
end Go.Proofs.Ytkildbpfondgcaa

namespace Go.Proofs.Ytkildbpfondgcaa
open Go.RowKit Go.Deep
set_option linter.unusedVariables false
set_option linter.unusedSimpArgs false

/-- What one more sign of the pattern makes of a row. -/
def stepF (X : Nat → Nat) (p : Nat) (f : Nat → Bool) : Nat → Bool
  | 0 => decide (p = 37) && f 0
  | i + 1 => if p = 37 then f (i + 1) || stepF X p f i else f i && (decide (p = 95) || decide (X i = p))
def fitsK (X : Nat → Nat) (Y : Nat → Nat) : Nat → Nat → Bool
  | 0 => fun i => decide (i = 0)
  | k + 1 => stepF X (Y k) (fitsK X Y k)
def sgn (s : ByteArray) (k : Nat) : Nat := rn s (P s k)
noncomputable def likeB (s t : ByteArray) : Bool := fitsK (sgn s) (sgn t) (N t) (N s)
def boolsV (f : Nat → Bool) (m : Nat) : List Value := (List.range m).map fun i => Value.bool (f i)
theorem boolsV_at {f : Nat → Bool} {m i : Nat} (h : i < m) : (boolsV f m)[i]? = some (.bool (f i)) := by simp [boolsV, h]
theorem boolsV_set (f g : Nat → Bool) (m i : Nat) (b : Bool) (hi : i < m) (h1 : ∀ j, j ≠ i → g j = f j) (h2 : g i = b) : (boolsV f m).set i (.bool b) = boolsV g m := by
  apply List.ext_getElem?
  intro j
  by_cases hj : j < m
  · rw [boolsV_at hj, List.getElem?_set]
    by_cases hij : i = j
    · subst hij; simp [boolsV, hi, h2]
    · rw [if_neg hij, boolsV_at hj, h1 j (Ne.symm hij)]
  · rw [List.getElem?_eq_none (by simp [boolsV]; omega), List.getElem?_eq_none (by simp [boolsV]; omega)]
def partF (X : Nat → Nat) (p : Nat) (f : Nat → Bool) (i j : Nat) : Bool := if j ≤ i then stepF X p f j else false
theorem part_step (X : Nat → Nat) (p : Nat) (f : Nat → Bool) (m i : Nat) (b : Bool) (hi : i + 1 < m) (hb : stepF X p f (i + 1) = b) : (boolsV (partF X p f i) m).set (i + 1) (.bool b) = boolsV (partF X p f (i + 1)) m := by
  refine boolsV_set _ _ m (i + 1) b hi (fun j hj => ?_) (by simp [partF, hb])
  unfold partF
  by_cases h : j ≤ i
  · rw [if_pos h, if_pos (by omega)]
  · rw [if_neg h, if_neg (by omega)]
theorem part_zero (X : Nat → Nat) (p : Nat) (f : Nat → Bool) (m : Nat) (b : Bool) (hm : 0 < m) (hb : stepF X p f 0 = b) : (boolsV (fun _ => false) m).set 0 (.bool b) = boolsV (partF X p f 0) m := by
  refine boolsV_set _ _ m 0 b hm (fun j hj => ?_) (by simp [partF, hb])
  unfold partF
  rw [if_neg (by omega)]
theorem part_all (X : Nat → Nat) (p : Nat) (f : Nat → Bool) (n : Nat) : boolsV (partF X p f n) (n + 1) = boolsV (stepF X p f) (n + 1) := by
  unfold boolsV
  apply List.map_congr_left
  intro j hj
  simp at hj
  unfold partF
  rw [if_pos (by omega)]
theorem made_false (m : Nat) : (madeCells #[Value.bool false] m).toList = boolsV (fun _ => false) m := by
  rw [toList_madeCells_one]
  unfold boolsV
  rw [List.map_const', List.length_range]
theorem start_row (m : Nat) (hm : 0 < m) : (boolsV (fun _ => false) m).set 0 (.bool true) = boolsV (fun i => decide (i = 0)) m :=
  boolsV_set _ _ m 0 true hm (fun j hj => by simp [hj]) (by simp)
theorem infoBool : (Try.prog.info? 4).map (fun i => (i.zero, i.size, i.bytes)) = some (some (.bool false), 1, 1) := by kernel_rfl
theorem own_made {w : World} {B e g m : Nat} (h : w.ownsRow B e 1 (.slice (some ⟨g, 0, none⟩) m m) m (madeCells (Value.bool false).cells (m * 1)).toList) : w.ownsRow B e 1 (.slice (some ⟨g, 0, none⟩) m m) m (boolsV (fun _ => false) m) := by
  rw [Nat.mul_one] at h
  have e : madeCells (Value.bool false).cells m = madeCells #[Value.bool false] m := rfl
  rw [e, made_false] at h
  exact h
theorem start_own {w : World} {B e g m : Nat} (h : w.ownsRow B e 1 (.slice (some ⟨g, 0, none⟩) (m + 1) (m + 1)) (m + 1) ((boolsV (fun _ => false) (m + 1)).set 0 (.bool true))) (X Y : Nat → Nat) : w.ownsRow B e 1 (.slice (some ⟨g, 0, none⟩) (m + 1) (m + 1)) (m + 1) (boolsV (fitsK X Y 0) (m + 1)) := by
  rw [start_row _ (by omega)] at h
  exact h
theorem below_grown_none {w w' : World} (h : w.grownBy w' none) : Below w.heap.size w w' := (Below.refl _ _).grown h (Nat.le_refl _) (fun k hk => by cases hk)
theorem own_block {w : World} {B e n c g : Nat} {xs : List Value} (h : w.ownsRow B e 1 (.slice (some ⟨g, 0, none⟩) n c) n xs) : ∃ cs t fr, w.heap[g]? = some (.cells cs t fr) := by
  rcases h.2 with ⟨h1, _⟩ | ⟨g', cap, cur, hv, _, hg, _⟩
  · cases h1
  · cases hv; exact ⟨_, _, _, hg⟩
theorem own_ne_iter {w : World} {B e n c g k : Nat} {xs : List Value} {t : ByteArray} {q : Nat} (h : w.ownsRow B e 1 (.slice (some ⟨g, 0, none⟩) n c) n xs) (hi : w.heap[k]? = some (.stringIter t q)) : g ≠ k := by
  rintro rfl
  obtain ⟨cs, ty, fr, hg⟩ := own_block h
  rw [hg] at hi; cases hi
theorem own_iterAt {w : World} {B e n c g k : Nat} {xs : List Value} (h : w.ownsRow B e 1 (.slice (some ⟨g, 0, none⟩) n c) n xs) (hk : k ≠ g) (t : ByteArray) (q : Nat) : (w.iterAt k t q).ownsRow B e 1 (.slice (some ⟨g, 0, none⟩) n c) n xs := by
  obtain ⟨h1, h2⟩ := h
  refine ⟨h1, ?_⟩
  rcases h2 with h2 | ⟨g', cap, cur, a, b, c, d⟩
  · exact .inl h2
  · cases a
    exact .inr ⟨g, _, cur, rfl, b, by rw [Lib.iterAt_other _ _ _ _ _ (Ne.symm hk)]; exact c, d⟩
theorem part_own {w : World} {B e g m : Nat} {b : Bool} (h : w.ownsRow B e 1 (.slice (some ⟨g, 0, none⟩) (m + 1) (m + 1)) (m + 1) ((boolsV (fun _ => false) (m + 1)).set 0 (.bool b))) (X : Nat → Nat) (p : Nat) (f : Nat → Bool) (hb : stepF X p f 0 = b) : w.ownsRow B e 1 (.slice (some ⟨g, 0, none⟩) (m + 1) (m + 1)) (m + 1) (boolsV (partF X p f 0) (m + 1)) := by
  rw [part_zero X p f _ b (by omega) hb] at h
  exact h
theorem iterPos_eq {w : World} {k : Nat} {s : ByteArray} {p : Nat} (h : w.heap[k]? = some (.stringIter s p)) : w.iterPos k = p := by simp [World.iterPos, h]
def LikePost (s t : ByteArray) (w : World) (e : Ending) (w' : World) : Prop := e = .returned (.bool (likeB s t)) ∧ Below w.heap.size w w'

set_option maxRecDepth 100000 in
set_option maxHeartbeats 10000000 in
theorem like_calls (s t : ByteArray) (w : World) (hs : s.size ≤ 100000) (ht : t.size ≤ 100000) : Calls Try.prog 58 #[.string s, .string t] w (LikePost s t w) := by
  obtain ⟨i0, hi0, hz0, hz1, hz2⟩ := info_parts infoBool
  have HI := Lib.hid hi0
  have HZ0 := Lib.hid hz0
  have HZ1 := Lib.hid hz1
  have HZ2 := Lib.hid hz2
  clear hi0 hz0 hz1 hz2
  have hrt := runes_all s
  have hrz : (runesV (rs s)).size = N s := by rw [runesV_size, rs_length]
  have hNl := N_le s
  have hcr := run_runes_of_string (P := Try.prog) w 9 93 21 s Try.underlying9 Try.underlying93 Try.underlying21 (by rw [hrt, hrz]; omega)
  rw [hrt, hrz] at hcr
  have hge := grownCap_ge w (N s) 0 21
  generalize grownCap w (N s) 0 21 = cap at *
  have hcell : ∀ j, j < N s → (w.drew.alloc (.cells (runesV (rs s) ++ Array.replicate (cap - N s) (.int .i32 0)) 21)).cell? ⟨w.heap.size, j, none⟩ = some (.int .i32 (sgn s j : Nat)) := fun j hj => by
    show (w.drew.alloc _).cell? ⟨w.drew.heap.size, j, none⟩ = _
    rw [World.cell?_alloc_new, Array.getElem?_append_left (by rw [hrz]; exact hj)]
    simp [runesV, rs, rsK, hj, sgn]
  have hbA : Below w.heap.size w (w.drew.alloc (.cells (runesV (rs s) ++ Array.replicate (cap - N s) (.int .i32 0)) 21)) := (Below.refl _ _).drew.alloc (Nat.le_refl _) _
  have hzA : w.heap.size < (w.drew.alloc (.cells (runesV (rs s) ++ Array.replicate (cap - N s) (.int .i32 0)) 21)).heap.size := by
    show w.drew.heap.size < _
    simp
  have HCELL := Lib.hid hcell
  have HBA := Lib.hid hbA
  have HZA := Lib.hid hzA
  clear hcell hbA hrt hrz hzA
  generalize w.drew.alloc (.cells (runesV (rs s) ++ Array.replicate (cap - N s) (.int .i32 0)) 21) = W1 at *
  generalize hn : N s = n at *
  have HN := Lib.hid hn
  have hn5 : n ≤ 100000 := by omega
  clear hn hNl
  go_enter Try.func58, Try.ntmps58
  go_wp2_with (refine wpList_make_full _ rfl _ _ _ rfl w.heap.size 4 i0 (.bool false) 1 Try.underlying109 HI.out HZ0.out HZ1.out .i64 .i64 _ _ (n + 1) rfl rfl (by omega) (by omega) (by rw [HZ2.out]; omega) (by unfold maxLen; omega) (Nat.le_of_lt HZA.out) ?_; intro w2 hown2 hgrow2; have ho2 := own_made hown2; have HO2 := Lib.hid ho2; have HG2 := Lib.hid hgrow2; have hc2 := ho2.cellAt 0 (by omega); have hf2 := ho2.frozenAt 0; rw [boolsV_at (by omega)] at hc2; clear ho2 hown2 hgrow2)
  have HO3 := Lib.hid (start_own (HO2.out.stored 0 (.bool true)).1 (sgn s) (sgn t))
  have HB3 := Lib.hid ((below_grown_none HG2.out).setCell (p := ⟨W1.heap.size, 0, none⟩) (Nat.le_refl _) (.bool true))
  have hz3 : W1.heap.size < (w2.setCell ⟨W1.heap.size, 0, none⟩ (.bool true)).heap.size := by have := (HO2.out.lt _ rfl).2; simpa using this
  have HZ3 := Lib.hid hz3
  clear hc2 hf2
  have hszz : w2.heap.size = (w2.setCell ⟨W1.heap.size, 0, none⟩ (.bool true)).heap.size := by simp [World.setCell]
  generalize w2.setCell ⟨W1.heap.size, 0, none⟩ (.bool true) = W3 at *
  rw [hszz]
  clear hszz
  have HZ3' := Lib.hid HZ3.out
  have hzw : w.heap.size ≤ W3.heap.size := Nat.le_trans HBA.out.size HB3.out.size
  go_loopw [6] (fun v wr => ∃ (k g : Nat), Upto t k ∧ v = .slice (some ⟨g, 0, none⟩) (n + 1) (n + 1) ∧ wr.ownsRow w.heap.size 4 1 (.slice (some ⟨g, 0, none⟩) (n + 1) (n + 1)) (n + 1) (boolsV (fitsK (sgn s) (sgn t) k) (n + 1)) ∧ wr.heap[W3.heap.size]? = some (.stringIter t (P t k)) ∧ Below W3.heap.size W3 wr) (fun _ wr => t.size - wr.iterPos W3.heap.size)
  case atStart => exact ⟨0, _, Upto.zero t, rfl, HO3.out.alloc _, World.iter_heap _ _ _, below_iter _ _ _⟩
  case round =>
    obtain ⟨k, g, hk, rfl, hown, hit, hb⟩ := hrel
    have HK := Lib.hid hk
    have HO := Lib.hid hown
    have HB := Lib.hid hb
    have HIT := Lib.hid hit
    have hgi : g ≠ W3.heap.size := own_ne_iter hown hit
    have hps := hk.1
    by_cases hlt : P t k < t.size
    · have HS := Lib.hid (hk.step hlt)
      have hnx : ∀ ty, (Instr.next (.pointer (some ⟨W3.heap.size, 0, none⟩)) true ty).run Try.prog wr = .ok (.tuple #[.bool true, .int .i64 (P t k : Nat), .int .i32 (sgn t k : Nat)]) (wr.iterAt W3.heap.size t (P t (k + 1))) := fun ty => Lib.run_next_any_at wr W3.heap.size t (P t k) ty hit hlt
      have HO4 := Lib.hid (own_iterAt hown (Ne.symm hgi) t (P t (k + 1)))
      have HIT4 := Lib.hid (Lib.iterAt_heap wr W3.heap.size t (P t k) (P t (k + 1)) hit)
      have HB4 := Lib.hid (Lib.below_iterAt hb (k := W3.heap.size) (Nat.le_refl _) t (P t (k + 1)))
      have hpl := rn_le t (P t k) hlt
      have hpd : rn t (P t k) = sgn t k := rfl
      rw [hpd] at hpl
      have hfk : fitsK (sgn s) (sgn t) (k + 1) = stepF (sgn s) (sgn t k) (fitsK (sgn s) (sgn t) k) := rfl
      have HFK := Lib.hid hfk
      clear hown hit hb hk hfk hpd
      generalize wr.iterAt W3.heap.size t (P t (k + 1)) = W4 at *
      generalize hf : fitsK (sgn s) (sgn t) k = f at *
      generalize hpp : sgn t k = p at *
      clear hf hpp
      have HW4 := Lib.hid (Nat.le_trans hzw HB4.out.size)
      have HL4 := Lib.hid (Array.getElem?_eq_some_iff.1 HIT4.out).1
      have HMS := Lib.hid (show P t k < P t (k + 1) ∧ P t (k + 1) ≤ t.size by have := wd_pos t _ hlt; have := wd_le t _ hlt; rw [P_succ]; omega)
      by_cases hp37 : p = 37
      · have hq : ((p : Int) == 37) = true := by rw [beq_iff_eq]; omega
        have HP := Lib.hid hp37
        generalize hf0 : f 0 = b0
        have HF0 := Lib.hid hf0
        clear hp37
        go_wp2_with (refine wpList_make_full _ rfl _ _ _ rfl w.heap.size 4 i0 (.bool false) 1 Try.underlying109 HI.out HZ0.out HZ1.out .i64 .i64 _ _ (n + 1) rfl rfl (by omega) (by omega) (by rw [HZ2.out]; omega) (by unfold maxLen; omega) HW4.out ?_; intro w5 hown5 hgrow5; have ho5 := own_made hown5; have HO5 := Lib.hid ho5; have HOF5 := Lib.hid (HO4.out.kept hgrow5 (.inr (by simp [Value.ownBlock]))); have HIT5 := Lib.hid ((hgrow5.block _ HL4.out (by simp)).trans HIT4.out); have HB5 := Lib.hid (HB4.out.trans ((below_grown_none hgrow5).mono HB4.out.size)); have hc5 := ho5.cellAt 0 (by omega); have hf5 := ho5.frozenAt 0; rw [boolsV_at (by omega)] at hc5; have hcf := HOF5.out.cellAt 0 (by omega); rw [boolsV_at (by omega)] at hcf; clear ho5 hown5 hgrow5; rw [hf0] at hcf)
        have HO6 := Lib.hid (part_own (HO5.out.stored 0 (.bool b0)).1 (sgn s) p f (by have := HP.out; have := HF0.out; simp [stepF, *]))
        have hne : W4.heap.size ≠ g := by have := (HO4.out.lt g rfl).2; omega
        have HOF6 := Lib.hid (HOF5.out.kept (HO5.out.stored 0 (.bool b0)).2 (.inr (by intro e; simp [Value.ownBlock] at e; omega)))
        have HIT6 := Lib.hid ((heap_setCell_other w5 ⟨W4.heap.size, 0, none⟩ _ (.bool b0) (by have := HL4.out; intro e; simp at e; omega)).trans HIT5.out)
        have HB6 := Lib.hid (HB5.out.setCell (p := ⟨W4.heap.size, 0, none⟩) HB4.out.size (.bool b0))
        clear hc5 hf5 hcf
        generalize w5.setCell ⟨W4.heap.size, 0, none⟩ (.bool b0) = W6 at *
        go_loopw [40] (fun v wr => ∃ i : Nat, i ≤ n ∧ v = .int .i64 (i : Int) ∧ wr.ownsRow w.heap.size 4 1 (.slice (some ⟨W4.heap.size, 0, none⟩) (n + 1) (n + 1)) (n + 1) (boolsV (partF (sgn s) p f i) (n + 1)) ∧ wr.ownsRow w.heap.size 4 1 (.slice (some ⟨g, 0, none⟩) (n + 1) (n + 1)) (n + 1) (boolsV f (n + 1)) ∧ wr.heap[W3.heap.size]? = some (.stringIter t (P t (k + 1))) ∧ Below W3.heap.size W3 wr) (fun v _ => n - (intOf v).toNat)
        case atStart => exact ⟨0, Nat.zero_le _, rfl, HO6.out, HOF6.out, HIT6.out, HB6.out⟩
        case round =>
          obtain ⟨i, hi, rfl, hoh, hog, hit, hb⟩ := hrel
          have HOH := Lib.hid hoh
          have HOG := Lib.hid hog
          have HITI := Lib.hid hit
          have HBI := Lib.hid hb
          clear hoh hog hit hb
          by_cases hin : i < n
          · have hct := ((HB3.out.trans (HBI.out.mono (Nat.le_of_lt HZ3.out))).cell (p := ⟨w.heap.size, i, none⟩) HZA.out).trans (HCELL.out i hin)
            have hgi := HOG.out.cellAt i (by omega)
            have hgi1 := HOG.out.cellAt (i + 1) (by omega)
            have hhi := HOH.out.cellAt i (by omega)
            have hhi1 := HOH.out.cellAt (i + 1) (by omega)
            have hfi1 := HOH.out.frozenAt (i + 1)
            rw [boolsV_at (by omega)] at hgi hgi1 hhi hhi1
            rw [show partF (sgn s) p f i i = stepF (sgn s) p f i by simp [partF]] at hhi
            have hi0 : (0 : Int) ≤ (i : Int) := by omega
            have hi1 : (i : Int) < (n : Int) := by omega
            have HST := Lib.hid (rfl : stepF (sgn s) p f i = stepF (sgn s) p f i)
            generalize hsi : stepF (sgn s) p f i = si at hhi
            generalize hf1 : f (i + 1) = b1 at hgi1
            have HSI := Lib.hid hsi
            have HF1 := Lib.hid hf1
            clear hsi hf1
            cases b1
            · go_wp2
              go_roundw
              case rel =>
                refine ⟨i + 1, by omega, by go_num, ?_, ?_, ?_, ?_⟩
                · have h := (HOH.out.stored (i + 1) (.bool si)).1
                  rw [part_step (sgn s) p f (n + 1) i si (by omega) (by have h1 := HP.out; have h2 := HF1.out; have h3 := HSI.out; simp [stepF, h1, h2] at h3 ⊢; simpa [h1] using h3)] at h
                  exact h
                · exact HOG.out.kept (HOH.out.stored (i + 1) (.bool si)).2 (.inr (by intro e; simp [Value.ownBlock] at e; omega))
                · exact (heap_setCell_other wr ⟨W4.heap.size, i + 1, none⟩ _ (.bool si) (by have := HL4.out; intro e; simp at e; omega)).trans HITI.out
                · exact HBI.out.setCell (p := ⟨W4.heap.size, i + 1, none⟩) HB4.out.size (.bool si)
              case measure => simp [intOf] <;> omega
            · go_wp2
              go_roundw
              case rel =>
                refine ⟨i + 1, by omega, by go_num, ?_, ?_, ?_, ?_⟩
                · have h := (HOH.out.stored (i + 1) (.bool true)).1
                  rw [part_step (sgn s) p f (n + 1) i true (by omega) (by have h1 := HP.out; have h2 := HF1.out; simp [stepF, h1, h2])] at h
                  exact h
                · exact HOG.out.kept (HOH.out.stored (i + 1) (.bool true)).2 (.inr (by intro e; simp [Value.ownBlock] at e; omega))
                · exact (heap_setCell_other wr ⟨W4.heap.size, i + 1, none⟩ _ (.bool true) (by have := HL4.out; intro e; simp at e; omega)).trans HITI.out
                · exact HBI.out.setCell (p := ⟨W4.heap.size, i + 1, none⟩) HB4.out.size (.bool true)
              case measure => simp [intOf] <;> omega
          · obtain rfl : i = n := by omega
            go_wp2
            go_roundw
            case rel =>
              refine ⟨k + 1, W4.heap.size, HS.out, rfl, ?_, HITI.out, HBI.out⟩
              rw [HFK.out, ← part_all]
              exact HOH.out
            case measure => rw [iterPos_eq HITI.out, iterPos_eq HIT.out]; have := HMS.out; omega
      · by_cases hp95 : p = 95
        · have hq : ((p : Int) == 37) = false := by rw [beq_eq_false_iff_ne]; omega
          have hq5 : ((p : Int) == 95) = true := by rw [beq_iff_eq]; omega
          have HP := Lib.hid hp37
          have HP5 := Lib.hid hp95
          clear hp37 hp95
          go_wp2_with (refine wpList_make_full _ rfl _ _ _ rfl w.heap.size 4 i0 (.bool false) 1 Try.underlying109 HI.out HZ0.out HZ1.out .i64 .i64 _ _ (n + 1) rfl rfl (by omega) (by omega) (by rw [HZ2.out]; omega) (by unfold maxLen; omega) HW4.out ?_; intro w5 hown5 hgrow5; have ho5 := own_made hown5; have HO5 := Lib.hid ho5; have HOF5 := Lib.hid (HO4.out.kept hgrow5 (.inr (by simp [Value.ownBlock]))); have HIT5 := Lib.hid ((hgrow5.block _ HL4.out (by simp)).trans HIT4.out); have HB5 := Lib.hid (HB4.out.trans ((below_grown_none hgrow5).mono HB4.out.size)); have hc5 := ho5.cellAt 0 (by omega); have hf5 := ho5.frozenAt 0; rw [boolsV_at (by omega)] at hc5; have hcf := HOF5.out.cellAt 0 (by omega); rw [boolsV_at (by omega)] at hcf; clear ho5 hown5 hgrow5)
          have HO6 := Lib.hid (part_own (HO5.out.stored 0 (.bool false)).1 (sgn s) p f (by have := HP.out; simp [stepF, this]))
          have hne : W4.heap.size ≠ g := by have := (HO4.out.lt g rfl).2; omega
          have HOF6 := Lib.hid (HOF5.out.kept (HO5.out.stored 0 (.bool false)).2 (.inr (by intro e; simp [Value.ownBlock] at e; omega)))
          have HIT6 := Lib.hid ((heap_setCell_other w5 ⟨W4.heap.size, 0, none⟩ _ (.bool false) (by have := HL4.out; intro e; simp at e; omega)).trans HIT5.out)
          have HB6 := Lib.hid (HB5.out.setCell (p := ⟨W4.heap.size, 0, none⟩) HB4.out.size (.bool false))
          clear hc5 hf5 hcf
          generalize w5.setCell ⟨W4.heap.size, 0, none⟩ (.bool false) = W6 at *
          go_loopw [40] (fun v wr => ∃ i : Nat, i ≤ n ∧ v = .int .i64 (i : Int) ∧ wr.ownsRow w.heap.size 4 1 (.slice (some ⟨W4.heap.size, 0, none⟩) (n + 1) (n + 1)) (n + 1) (boolsV (partF (sgn s) p f i) (n + 1)) ∧ wr.ownsRow w.heap.size 4 1 (.slice (some ⟨g, 0, none⟩) (n + 1) (n + 1)) (n + 1) (boolsV f (n + 1)) ∧ wr.heap[W3.heap.size]? = some (.stringIter t (P t (k + 1))) ∧ Below W3.heap.size W3 wr) (fun v _ => n - (intOf v).toNat)
          case atStart => exact ⟨0, Nat.zero_le _, rfl, HO6.out, HOF6.out, HIT6.out, HB6.out⟩
          case round =>
            obtain ⟨i, hi, rfl, hoh, hog, hit, hb⟩ := hrel
            have HOH := Lib.hid hoh
            have HOG := Lib.hid hog
            have HITI := Lib.hid hit
            have HBI := Lib.hid hb
            clear hoh hog hit hb
            by_cases hin : i < n
            · have hct := ((HB3.out.trans (HBI.out.mono (Nat.le_of_lt HZ3.out))).cell (p := ⟨w.heap.size, i, none⟩) HZA.out).trans (HCELL.out i hin)
              have hgi := HOG.out.cellAt i (by omega)
              have hgi1 := HOG.out.cellAt (i + 1) (by omega)
              have hhi := HOH.out.cellAt i (by omega)
              have hhi1 := HOH.out.cellAt (i + 1) (by omega)
              have hfi1 := HOH.out.frozenAt (i + 1)
              rw [boolsV_at (by omega)] at hgi hgi1 hhi hhi1
              rw [show partF (sgn s) p f i i = stepF (sgn s) p f i by simp [partF]] at hhi
              have hi0 : (0 : Int) ≤ (i : Int) := by omega
              have hi1 : (i : Int) < (n : Int) := by omega
              generalize hf1 : f i = b1 at hgi
              have HF1 := Lib.hid hf1
              clear hf1
              go_wp2
              go_roundw
              case rel =>
                refine ⟨i + 1, by omega, by go_num, ?_, ?_, ?_, ?_⟩
                · have h := (HOH.out.stored (i + 1) (.bool b1)).1
                  rw [part_step (sgn s) p f (n + 1) i b1 (by omega) (by have h1 := HP.out; have h4 := HP5.out; have h2 := HF1.out; simp [stepF, h1, h4, h2])] at h
                  exact h
                · exact HOG.out.kept (HOH.out.stored (i + 1) (.bool b1)).2 (.inr (by intro e; simp [Value.ownBlock] at e; omega))
                · exact (heap_setCell_other wr ⟨W4.heap.size, i + 1, none⟩ _ (.bool b1) (by have := HL4.out; intro e; simp at e; omega)).trans HITI.out
                · exact HBI.out.setCell (p := ⟨W4.heap.size, i + 1, none⟩) HB4.out.size (.bool b1)
              case measure => simp [intOf] <;> omega
            · obtain rfl : i = n := by omega
              go_wp2
              go_roundw
              case rel =>
                refine ⟨k + 1, W4.heap.size, HS.out, rfl, ?_, HITI.out, HBI.out⟩
                rw [HFK.out, ← part_all]
                exact HOH.out
              case measure => rw [iterPos_eq HITI.out, iterPos_eq HIT.out]; have := HMS.out; omega
        · have hq : ((p : Int) == 37) = false := by rw [beq_eq_false_iff_ne]; omega
          have hq5 : ((p : Int) == 95) = false := by rw [beq_eq_false_iff_ne]; omega
          have HP := Lib.hid hp37
          have HP5 := Lib.hid hp95
          clear hp37 hp95
          go_wp2_with (refine wpList_make_full _ rfl _ _ _ rfl w.heap.size 4 i0 (.bool false) 1 Try.underlying109 HI.out HZ0.out HZ1.out .i64 .i64 _ _ (n + 1) rfl rfl (by omega) (by omega) (by rw [HZ2.out]; omega) (by unfold maxLen; omega) HW4.out ?_; intro w5 hown5 hgrow5; have ho5 := own_made hown5; have HO5 := Lib.hid ho5; have HOF5 := Lib.hid (HO4.out.kept hgrow5 (.inr (by simp [Value.ownBlock]))); have HIT5 := Lib.hid ((hgrow5.block _ HL4.out (by simp)).trans HIT4.out); have HB5 := Lib.hid (HB4.out.trans ((below_grown_none hgrow5).mono HB4.out.size)); have hc5 := ho5.cellAt 0 (by omega); have hf5 := ho5.frozenAt 0; rw [boolsV_at (by omega)] at hc5; have hcf := HOF5.out.cellAt 0 (by omega); rw [boolsV_at (by omega)] at hcf; clear ho5 hown5 hgrow5)
          have HO6 := Lib.hid (part_own (HO5.out.stored 0 (.bool false)).1 (sgn s) p f (by have := HP.out; simp [stepF, this]))
          have hne : W4.heap.size ≠ g := by have := (HO4.out.lt g rfl).2; omega
          have HOF6 := Lib.hid (HOF5.out.kept (HO5.out.stored 0 (.bool false)).2 (.inr (by intro e; simp [Value.ownBlock] at e; omega)))
          have HIT6 := Lib.hid ((heap_setCell_other w5 ⟨W4.heap.size, 0, none⟩ _ (.bool false) (by have := HL4.out; intro e; simp at e; omega)).trans HIT5.out)
          have HB6 := Lib.hid (HB5.out.setCell (p := ⟨W4.heap.size, 0, none⟩) HB4.out.size (.bool false))
          clear hc5 hf5 hcf
          generalize w5.setCell ⟨W4.heap.size, 0, none⟩ (.bool false) = W6 at *
          go_loopw [40] (fun v wr => ∃ i : Nat, i ≤ n ∧ v = .int .i64 (i : Int) ∧ wr.ownsRow w.heap.size 4 1 (.slice (some ⟨W4.heap.size, 0, none⟩) (n + 1) (n + 1)) (n + 1) (boolsV (partF (sgn s) p f i) (n + 1)) ∧ wr.ownsRow w.heap.size 4 1 (.slice (some ⟨g, 0, none⟩) (n + 1) (n + 1)) (n + 1) (boolsV f (n + 1)) ∧ wr.heap[W3.heap.size]? = some (.stringIter t (P t (k + 1))) ∧ Below W3.heap.size W3 wr) (fun v _ => n - (intOf v).toNat)
          case atStart => exact ⟨0, Nat.zero_le _, rfl, HO6.out, HOF6.out, HIT6.out, HB6.out⟩
          case round =>
            obtain ⟨i, hi, rfl, hoh, hog, hit, hb⟩ := hrel
            have HOH := Lib.hid hoh
            have HOG := Lib.hid hog
            have HITI := Lib.hid hit
            have HBI := Lib.hid hb
            clear hoh hog hit hb
            by_cases hin : i < n
            · have hct := ((HB3.out.trans (HBI.out.mono (Nat.le_of_lt HZ3.out))).cell (p := ⟨w.heap.size, i, none⟩) HZA.out).trans (HCELL.out i hin)
              have hgi := HOG.out.cellAt i (by omega)
              have hgi1 := HOG.out.cellAt (i + 1) (by omega)
              have hhi := HOH.out.cellAt i (by omega)
              have hhi1 := HOH.out.cellAt (i + 1) (by omega)
              have hfi1 := HOH.out.frozenAt (i + 1)
              rw [boolsV_at (by omega)] at hgi hgi1 hhi hhi1
              rw [show partF (sgn s) p f i i = stepF (sgn s) p f i by simp [partF]] at hhi
              have hi0 : (0 : Int) ≤ (i : Int) := by omega
              have hi1 : (i : Int) < (n : Int) := by omega
              generalize hf1 : f i = b1 at hgi
              have HF1 := Lib.hid hf1
              clear hf1
              generalize hxi : sgn s i = xi at *
              have HXI := Lib.hid hxi
              clear hxi
              cases b1
              · go_wp2
                go_roundw
                case rel =>
                  refine ⟨i + 1, by omega, by go_num, ?_, ?_, ?_, ?_⟩
                  · have h := (HOH.out.stored (i + 1) (.bool false)).1
                    rw [part_step (sgn s) p f (n + 1) i false (by omega) (by have h1 := HP.out; have h2 := HF1.out; simp [stepF, h1, h2])] at h
                    exact h
                  · exact HOG.out.kept (HOH.out.stored (i + 1) (.bool false)).2 (.inr (by intro e; simp [Value.ownBlock] at e; omega))
                  · exact (heap_setCell_other wr ⟨W4.heap.size, i + 1, none⟩ _ (.bool false) (by have := HL4.out; intro e; simp at e; omega)).trans HITI.out
                  · exact HBI.out.setCell (p := ⟨W4.heap.size, i + 1, none⟩) HB4.out.size (.bool false)
                case measure => simp [intOf] <;> omega
              · by_cases hxp : xi = p
                · have hxb : ((xi : Int) == (p : Int)) = true := by rw [beq_iff_eq]; omega
                  have HXP := Lib.hid hxp
                  clear hxp
                  go_wp2
                  go_roundw
                  case rel =>
                    refine ⟨i + 1, by omega, by go_num, ?_, ?_, ?_, ?_⟩
                    · have h := (HOH.out.stored (i + 1) (.bool true)).1
                      rw [part_step (sgn s) p f (n + 1) i true (by omega) (by have h1 := HP.out; have h4 := HP5.out; have h2 := HF1.out; have h3 := HXI.out; have h5 := HXP.out; simp [stepF, h1, h4, h2, h3, h5])] at h
                      exact h
                    · exact HOG.out.kept (HOH.out.stored (i + 1) (.bool true)).2 (.inr (by intro e; simp [Value.ownBlock] at e; omega))
                    · exact (heap_setCell_other wr ⟨W4.heap.size, i + 1, none⟩ _ (.bool true) (by have := HL4.out; intro e; simp at e; omega)).trans HITI.out
                    · exact HBI.out.setCell (p := ⟨W4.heap.size, i + 1, none⟩) HB4.out.size (.bool true)
                  case measure => simp [intOf] <;> omega
                · have hxb : ((xi : Int) == (p : Int)) = false := by rw [beq_eq_false_iff_ne]; omega
                  have HXP := Lib.hid hxp
                  clear hxp
                  go_wp2
                  go_roundw
                  case rel =>
                    refine ⟨i + 1, by omega, by go_num, ?_, ?_, ?_, ?_⟩
                    · have h := (HOH.out.stored (i + 1) (.bool false)).1
                      rw [part_step (sgn s) p f (n + 1) i false (by omega) (by have h1 := HP.out; have h4 := HP5.out; have h2 := HF1.out; have h3 := HXI.out; have h5 := HXP.out; simp [stepF, h1, h4, h2, h3, h5])] at h
                      exact h
                    · exact HOG.out.kept (HOH.out.stored (i + 1) (.bool false)).2 (.inr (by intro e; simp [Value.ownBlock] at e; omega))
                    · exact (heap_setCell_other wr ⟨W4.heap.size, i + 1, none⟩ _ (.bool false) (by have := HL4.out; intro e; simp at e; omega)).trans HITI.out
                    · exact HBI.out.setCell (p := ⟨W4.heap.size, i + 1, none⟩) HB4.out.size (.bool false)
                  case measure => simp [intOf] <;> omega
            · obtain rfl : i = n := by omega
              go_wp2
              go_roundw
              case rel =>
                refine ⟨k + 1, W4.heap.size, HS.out, rfl, ?_, HITI.out, HBI.out⟩
                rw [HFK.out, ← part_all]
                exact HOH.out
              case measure => rw [iterPos_eq HITI.out, iterPos_eq HIT.out]; have := HMS.out; omega
    · have hnx : ∀ ty, (Instr.next (.pointer (some ⟨W3.heap.size, 0, none⟩)) true ty).run Try.prog wr = _ := fun ty => Lib.run_next_end_at wr W3.heap.size t (P t k) ty hit hlt
      have hkn := hk.done hlt
      subst hkn
      have hcl := hown.cellAt n (by omega)
      rw [boolsV_at (by omega)] at hcl
      have hn0 : (0 : Int) ≤ (n : Int) := by omega
      clear hown hit hb hk
      go_wp2
      go_ret
      refine ⟨?_, HBA.out.trans ((HB3.out.trans (HB.out.mono (Nat.le_of_lt HZ3.out))).mono (Nat.le_of_lt HZA.out))⟩
      unfold likeB
      rw [HN.out]
      rfl
end Go.Proofs.Ytkildbpfondgcaa

namespace Go.Proofs.Ytkildbpfondgcaa
open Go.RowKit Go.Deep
set_option linter.unusedVariables false
set_option linter.unusedSimpArgs false

def sABC : ByteArray := ⟨#[97, 98, 99]⟩
def sAXB : ByteArray := ⟨#[97, 244, 143, 191, 191, 98]⟩
theorem n_abc : N ⟨#[97, 98, 99]⟩ = 3 := N_unique (by decide +kernel) (by decide +kernel)
theorem n_axb : N ⟨#[97, 244, 143, 191, 191, 98]⟩ = 3 := N_unique (by decide +kernel) (by decide +kernel)
theorem n_ae : N ⟨#[97, 195, 169]⟩ = 2 := N_unique (by decide +kernel) (by decide +kernel)
theorem n_jp : N ⟨#[230, 151, 165, 230, 156, 172, 120]⟩ = 3 := N_unique (by decide +kernel) (by decide +kernel)
theorem n_p1 : N ⟨#[97, 37]⟩ = 2 := N_unique (by decide +kernel) (by decide +kernel)
theorem n_p2 : N ⟨#[95, 98, 95]⟩ = 3 := N_unique (by decide +kernel) (by decide +kernel)
theorem n_p3 : N ⟨#[97, 95]⟩ = 2 := N_unique (by decide +kernel) (by decide +kernel)
theorem aboveF_of {s a : ByteArray} {n m : Nat} (hN : N s = n) (hc : cleanK s n = true) (hm : ¬ (n : Int) ≤ (m : Int)) (ha : aboveK s m = some a) : aboveF s (m : Int) = (a, true) := by
  unfold aboveF
  rw [if_neg (by unfold clean; rw [hN, hc]; simp), hN, if_neg hm, Int.toNat_natCast, ha]
theorem aboveK_hit {s : ByteArray} {k : Nat} (h : rn s (P s k) < 1114111) : aboveK s (k + 1) = some (s.extract 0 (P s k) ++ Utf8.encode (nextF (rn s (P s k)) : Nat)) := by
  rw [aboveK, if_pos h]
theorem aboveK_miss {s : ByteArray} {k : Nat} (h : ¬ rn s (P s k) < 1114111) : aboveK s (k + 1) = aboveK s k := by
  rw [aboveK, if_neg h]
theorem ev_a1 : aboveF ⟨#[97, 98, 99]⟩ 2 = (⟨#[97, 99]⟩, true) := by
  refine aboveF_of (m := 2) n_abc (by decide +kernel) (by decide) ?_
  rw [aboveK_hit (by decide +kernel)]
  exact congrArg some (by decide +kernel)
theorem ev_a2 : aboveF ⟨#[97, 244, 143, 191, 191, 98]⟩ 2 = (⟨#[98]⟩, true) := by
  refine aboveF_of (m := 2) n_axb (by decide +kernel) (by decide) ?_
  rw [aboveK_miss (by decide +kernel), aboveK_hit (by decide +kernel)]
  exact congrArg some (by decide +kernel)
theorem ev_f : firstF ⟨#[230, 151, 165, 230, 156, 172, 120]⟩ 2 = ⟨#[230, 151, 165, 230, 156, 172]⟩ := by
  unfold firstF
  rw [n_jp, if_pos (by decide)]
  decide +kernel
theorem ev_l1 : likeB ⟨#[97, 98, 99]⟩ ⟨#[97, 37]⟩ = true := by unfold likeB; rw [n_abc, n_p1]; decide +kernel
theorem ev_l2 : likeB ⟨#[97, 98, 99]⟩ ⟨#[95, 98, 95]⟩ = true := by unfold likeB; rw [n_abc, n_p2]; decide +kernel
theorem ev_l3 : likeB ⟨#[97, 98, 99]⟩ ⟨#[97, 95]⟩ = false := by unfold likeB; rw [n_abc, n_p3]; decide +kernel
def TruthPost (w : World) (e : Ending) (w' : World) : Prop := e = .returned (.bool true) ∧ Below w.heap.size w w'

end Go.Proofs.Ytkildbpfondgcaa

namespace Go.Proofs.Ytkildbpfondgcaa
open Go.Lib (decodeN decode_at)
set_option linter.unusedVariables false
set_option linter.unusedSimpArgs false

def okRune (c : Nat) : Prop := c ≤ 1114111 ∧ ¬ (55296 ≤ c ∧ c < 57344)
theorem get!_app (a b : ByteArray) (i : Nat) : (a ++ b).get! (a.size + i) = b.get! i := by
  have hz : a.size = a.data.size := rfl
  simp only [ByteArray.get!, ByteArray.data_append, Array.getElem!_eq_getD, Array.getD_eq_getD_getElem?]
  rw [Array.getElem?_append_right (by omega), hz, Nat.add_sub_cancel_left]
theorem get!_left (a b : ByteArray) (i : Nat) (h : i < a.size) : (a ++ b).get! i = a.get! i := by
  have hz : a.size = a.data.size := rfl
  simp only [ByteArray.get!, ByteArray.data_append, Array.getElem!_eq_getD, Array.getD_eq_getD_getElem?]
  rw [Array.getElem?_append_left (by omega)]
theorem decode_app (a b : ByteArray) : Utf8.decode (a ++ b) a.size = Utf8.decode b 0 := by
  rw [decode_at, decode_at]
  have hz : (a ++ b).size - a.size = b.size - 0 := by rw [ByteArray.size_append]; omega
  rw [hz]
  have h0 := get!_app a b 0
  have h1 := get!_app a b 1
  have h2 := get!_app a b 2
  have h3 := get!_app a b 3
  rw [Nat.add_zero] at h0
  rw [h0, h1, h2, h3]
theorem get!_list (b : ByteArray) (l : List UInt8) (h : b.data.toList = l) (i : Nat) (x : UInt8) (hx : l[i]? = some x) : b.get! i = x := by
  subst h
  have hi : i < b.size := by
    rcases Nat.lt_or_ge i b.size with h | h
    · exact h
    · rw [List.getElem?_eq_none (by have : b.size = b.data.size := rfl; simp; omega)] at hx; cases hx
  have := get!_data b i hi
  rw [this] at hx
  exact Option.some.inj hx
theorem u8_nat (n : Nat) (h : n < 256) : (UInt8.ofNat n).toNat = n := by rw [UInt8.toNat_ofNat', Nat.mod_eq_of_lt h]
theorem size_of_list (b : ByteArray) (l : List UInt8) (h : b.data.toList = l) : b.size = l.length := by subst h; exact (Array.length_toList (xs := b.data)).symm
set_option maxHeartbeats 4000000 in
set_option maxRecDepth 100000 in
theorem decode_enc (c : Nat) (h : okRune c) (rest : ByteArray) : Utf8.decode (Utf8.encode (c : Int) ++ rest) 0 = (c, (Utf8.encode (c : Int)).size) := by
  have hl := encode_list c h.1 h.2
  generalize Utf8.encode (c : Int) = E at *
  rw [decode_at]
  have h1 := h.1
  have h2 := h.2
  by_cases c1 : c < 128
  · rw [if_pos c1] at hl
    have hz := size_of_list E _ hl
    have g0 := get!_list E _ hl 0 _ rfl
    rw [get!_left E rest 0 (by rw [hz]; simp), g0, u8_nat _ (by omega), hz]
    unfold decodeN
    rw [if_pos c1]
    rfl
  · rw [if_neg c1] at hl
    by_cases c2 : c < 2048
    · rw [if_pos c2] at hl
      have hz := size_of_list E _ hl
      have g0 := get!_list E _ hl 0 _ rfl
      have g1 := get!_list E _ hl 1 _ rfl
      rw [get!_left E rest 0 (by rw [hz]; simp), get!_left E rest (0 + 1) (by rw [hz]; simp), g0, g1, u8_nat _ (by omega), u8_nat _ (by omega), hz]
      have hs : (E ++ rest).size - 0 = 2 + rest.size := by rw [ByteArray.size_append, hz]; rfl
      rw [hs]
      unfold decodeN
      rw [if_neg (by omega), if_pos (by omega), if_pos (by omega)]
      exact Prod.ext (by dsimp only; omega) rfl
    · rw [if_neg c2] at hl
      by_cases c3 : c < 65536
      · rw [if_pos c3] at hl
        have hz := size_of_list E _ hl
        have g0 := get!_list E _ hl 0 _ rfl
        have g1 := get!_list E _ hl 1 _ rfl
        have g2 := get!_list E _ hl 2 _ rfl
        rw [get!_left E rest 0 (by rw [hz]; simp), get!_left E rest (0 + 1) (by rw [hz]; simp), get!_left E rest (0 + 2) (by rw [hz]; simp), g0, g1, g2, u8_nat _ (by omega), u8_nat _ (by omega), u8_nat _ (by omega), hz]
        have hs : (E ++ rest).size - 0 = 3 + rest.size := by rw [ByteArray.size_append, hz]; rfl
        rw [hs]
        unfold decodeN
        rw [if_neg (by omega), if_neg (by omega), if_pos (by omega), if_pos (by omega)]
        exact Prod.ext (by dsimp only; omega) rfl
      · rw [if_neg c3] at hl
        have hz := size_of_list E _ hl
        have g0 := get!_list E _ hl 0 _ rfl
        have g1 := get!_list E _ hl 1 _ rfl
        have g2 := get!_list E _ hl 2 _ rfl
        have g3 := get!_list E _ hl 3 _ rfl
        rw [get!_left E rest 0 (by rw [hz]; simp), get!_left E rest (0 + 1) (by rw [hz]; simp), get!_left E rest (0 + 2) (by rw [hz]; simp), get!_left E rest (0 + 3) (by rw [hz]; simp), g0, g1, g2, g3, u8_nat _ (by omega), u8_nat _ (by omega), u8_nat _ (by omega), u8_nat _ (by omega), hz]
        have hs : (E ++ rest).size - 0 = 4 + rest.size := by rw [ByteArray.size_append, hz]; rfl
        rw [hs]
        unfold decodeN
        rw [if_neg (by omega), if_neg (by omega), if_neg (by omega), if_pos (by omega), if_pos (by omega)]
        exact Prod.ext (by dsimp only; omega) rfl
theorem fold_app : ∀ (l : List Int) (a : ByteArray), l.foldl (fun r n => r ++ Utf8.encode n) a = a ++ l.foldl (fun r n => r ++ Utf8.encode n) ByteArray.empty
  | [], a => by rw [List.foldl_nil, List.foldl_nil, ByteArray.append_empty]
  | x :: l, a => by
    rw [List.foldl_cons, List.foldl_cons, fold_app l (a ++ Utf8.encode x), fold_app l (ByteArray.empty ++ Utf8.encode x), ByteArray.empty_append, ByteArray.append_assoc]
theorem rb_append (xs ys : List Nat) : runesBytes (intsOf (xs ++ ys)) = runesBytes (intsOf xs) ++ runesBytes (intsOf ys) := by
  unfold runesBytes intsOf
  rw [List.map_append, List.foldl_append, fold_app]
theorem rb_cons (y : Nat) (ys : List Nat) : runesBytes (intsOf (y :: ys)) = Utf8.encode (y : Int) ++ runesBytes (intsOf ys) := by
  unfold runesBytes intsOf
  rw [List.map_cons, List.foldl_cons, fold_app, ByteArray.empty_append]
theorem enc_pos (c : Nat) (h : okRune c) : 0 < (Utf8.encode (c : Int)).size := by
  rw [size_of_list _ _ (encode_list c h.1 h.2)]
  repeat' split
  all_goals simp
/-- The place of the k-th number, as written. -/
theorem rb_place (L : List Nat) (hL : ∀ c ∈ L, okRune c) (k : Nat) (hk : k < L.length) : Utf8.decode (runesBytes (intsOf L)) (runesBytes (intsOf (L.take k))).size = (L[k], (Utf8.encode (L[k] : Int)).size) := by
  have e : L = L.take k ++ (L[k] :: L.drop (k + 1)) := by rw [List.getElem_cons_drop, List.take_append_drop]
  have e2 : runesBytes (intsOf L) = runesBytes (intsOf (L.take k)) ++ (Utf8.encode (L[k] : Int) ++ runesBytes (intsOf (L.drop (k + 1)))) := by
    rw [← rb_cons, ← rb_append, ← e]
  rw [e2, decode_app, decode_enc _ (hL _ (List.getElem_mem hk))]
theorem rb_P (L : List Nat) (hL : ∀ c ∈ L, okRune c) : ∀ k, k ≤ L.length → P (runesBytes (intsOf L)) k = (runesBytes (intsOf (L.take k))).size
  | 0, _ => by rw [P]; simp [intsOf, runesBytes]
  | k + 1, h => by
    have ih := rb_P L hL k (by omega)
    have hp := rb_place L hL k (by omega)
    rw [P_succ, ih]
    unfold wd
    rw [hp]
    have : L.take (k + 1) = L.take k ++ [L[k]] := by rw [List.take_succ_eq_append_getElem]
    rw [this, runesBytes_snoc, ByteArray.size_append]
theorem rb_N (L : List Nat) (hL : ∀ c ∈ L, okRune c) : N (runesBytes (intsOf L)) = L.length := by
  refine N_unique ?_ fun k hk => ?_
  · rw [rb_P L hL _ (Nat.le_refl _), List.take_length]
  · rw [rb_P L hL k (by omega)]
    have h1 := rb_append (L.take k) (L.drop k)
    rw [List.take_append_drop] at h1
    rw [h1, ByteArray.size_append]
    have h2 : L.drop k = L[k] :: L.drop (k + 1) := (List.getElem_cons_drop hk).symm
    rw [h2, rb_cons, ByteArray.size_append]
    have := enc_pos L[k] (hL _ (List.getElem_mem hk))
    omega
theorem rb_rs (L : List Nat) (hL : ∀ c ∈ L, okRune c) : rs (runesBytes (intsOf L)) = L := by
  unfold rs
  rw [rb_N L hL]
  apply List.ext_getElem (by rw [rsK_length])
  intro k h1 h2
  simp only [rsK, List.getElem_map, List.getElem_range]
  unfold rn
  rw [rb_P L hL k (by omega), rb_place L hL k h2]
theorem rb_clean (L : List Nat) (hL : ∀ c ∈ L, okRune c) : clean (runesBytes (intsOf L)) = true := by
  unfold clean cleanK
  rw [rb_N L hL, List.all_eq_true]
  intro k hk
  simp at hk
  have hp := rb_place L hL k hk
  have hr : rn (runesBytes (intsOf L)) (P (runesBytes (intsOf L)) k) = L[k] := by unfold rn; rw [rb_P L hL k (by omega), hp]
  have hw : wd (runesBytes (intsOf L)) (P (runesBytes (intsOf L)) k) = (Utf8.encode (L[k] : Int)).size := by unfold wd; rw [rb_P L hL k (by omega), hp]
  unfold okAt
  rw [hr, hw]
  by_cases h : L[k] = 65533
  · rw [h]
    have : (Utf8.encode ((65533 : Nat) : Int)).size = 3 := by rw [size_of_list _ _ (encode_list 65533 (by omega) (by omega))]; rfl
    rw [this]; rfl
  · simp [h]
theorem rs_ok (s : ByteArray) : ∀ c ∈ rs s, okRune c := by
  intro c hc
  unfold rs rsK at hc
  obtain ⟨k, hk, rfl⟩ := List.mem_map.1 hc
  simp at hk
  exact ⟨rn_le s _ (P_lt hk), rn_sur s _ (P_lt hk)⟩
noncomputable def turnF (s : ByteArray) : ByteArray := runesBytes (intsOf (rs s).reverse)
theorem rev_ok (s : ByteArray) : ∀ c ∈ (rs s).reverse, okRune c := fun c hc => rs_ok s c (List.mem_reverse.1 hc)
theorem turn_N (s : ByteArray) : N (turnF s) = N s := by
  unfold turnF; rw [rb_N _ (rev_ok s), List.length_reverse, rs_length]
theorem turn_clean (s : ByteArray) : clean (turnF s) = true := rb_clean _ (rev_ok s)
theorem turn_turn (s : ByteArray) (h : clean s = true) : turnF (turnF s) = s := by
  have e : rs (turnF s) = (rs s).reverse := rb_rs _ (rev_ok s)
  have : turnF (turnF s) = runesBytes (intsOf (rs (turnF s)).reverse) := rfl
  rw [this, e, List.reverse_reverse]
  unfold rs
  rw [runes_clean (Nat.le_refl _) h, P_N]
  exact ByteArray.extract_zero_size
end Go.Proofs.Ytkildbpfondgcaa

namespace Go.Proofs.Ytkildbpfondgcaa
set_option linter.unusedVariables false
set_option linter.unusedSimpArgs false

/-- x is ahead of y at a place that both have. -/
def Ahead (x y : List UInt8) : Prop := ∃ (pre : List UInt8) (a b : UInt8) (x' y' : List UInt8), x = pre ++ a :: x' ∧ y = pre ++ b :: y' ∧ a < b
theorem ahead_less : ∀ (pre : List UInt8) (a b : UInt8) (x' y' : List UInt8), a < b → Op.bytesLess (pre ++ b :: y') (pre ++ a :: x') = false
  | [], a, b, x', y', h => by
    have h1 : ¬ b < a := by rw [UInt8.lt_iff_toNat_lt] at h ⊢; omega
    have h2 : ¬ b = a := by rintro rfl; rw [UInt8.lt_iff_toNat_lt] at h; omega
    simp [Op.bytesLess, h, h1, h2]
  | p :: pre, a, b, x', y', h => by
    have := ahead_less pre a b x' y' h
    simp [Op.bytesLess, this]
theorem Ahead.less {x y : List UInt8} (h : Ahead x y) (r r' : List UInt8) (pre : List UInt8) : Op.bytesLess (pre ++ (y ++ r')) (pre ++ (x ++ r)) = false := by
  obtain ⟨p, a, b, x', y', rfl, rfl, hab⟩ := h
  have := ahead_less (pre ++ p) a b (x' ++ r) (y' ++ r') hab
  simpa using this
theorem ofNat_lt {a b : Nat} (h : a < b) (hb : b < 256) : UInt8.ofNat a < UInt8.ofNat b := by
  rw [UInt8.lt_iff_toNat_lt, u8_nat a (by omega), u8_nat b hb]; exact h
theorem ahead0 {a b : Nat} (x y : List UInt8) (h : a < b) (hb : b < 256) : Ahead (UInt8.ofNat a :: x) (UInt8.ofNat b :: y) := ⟨[], _, _, x, y, rfl, rfl, ofNat_lt h hb⟩
theorem ahead1 {a b c d : Nat} (x y : List UInt8) (he : a = c) (h : b < d) (hb : d < 256) : Ahead (UInt8.ofNat a :: UInt8.ofNat b :: x) (UInt8.ofNat c :: UInt8.ofNat d :: y) := by
  subst he; exact ⟨[UInt8.ofNat a], _, _, x, y, rfl, rfl, ofNat_lt h hb⟩
theorem ahead2 {a b c d e f : Nat} (x y : List UInt8) (h1 : a = d) (h2 : b = e) (h : c < f) (hb : f < 256) : Ahead (UInt8.ofNat a :: UInt8.ofNat b :: UInt8.ofNat c :: x) (UInt8.ofNat d :: UInt8.ofNat e :: UInt8.ofNat f :: y) := by
  subst h1 h2; exact ⟨[UInt8.ofNat a, UInt8.ofNat b], _, _, x, y, rfl, rfl, ofNat_lt h hb⟩
theorem ahead3 {a b c d a' b' c' d' : Nat} (x y : List UInt8) (h1 : a = a') (h2 : b = b') (h3 : c = c') (h : d < d') (hb : d' < 256) : Ahead (UInt8.ofNat a :: UInt8.ofNat b :: UInt8.ofNat c :: UInt8.ofNat d :: x) (UInt8.ofNat a' :: UInt8.ofNat b' :: UInt8.ofNat c' :: UInt8.ofNat d' :: y) := by
  subst h1 h2 h3; exact ⟨[UInt8.ofNat a, UInt8.ofNat b, UInt8.ofNat c], _, _, x, y, rfl, rfl, ofNat_lt h hb⟩
theorem enc_ahead (c d : Nat) (hc : okRune c) (hd : okRune d) (h : c < d) : Ahead (Utf8.encode (c : Int)).data.toList (Utf8.encode (d : Int)).data.toList := by
  rw [encode_list c hc.1 hc.2, encode_list d hd.1 hd.2]
  have h1 := hd.1
  by_cases c1 : c < 128
  · rw [if_pos c1]
    by_cases d1 : d < 128
    · rw [if_pos d1]; exact ahead0 _ _ h (by omega)
    · rw [if_neg d1]
      by_cases d2 : d < 2048
      · rw [if_pos d2]; exact ahead0 _ _ (by omega) (by omega)
      · rw [if_neg d2]
        by_cases d3 : d < 65536
        · rw [if_pos d3]; exact ahead0 _ _ (by omega) (by omega)
        · rw [if_neg d3]; exact ahead0 _ _ (by omega) (by omega)
  · rw [if_neg c1, if_neg (show ¬ d < 128 by omega)]
    by_cases c2 : c < 2048
    · rw [if_pos c2]
      by_cases d2 : d < 2048
      · rw [if_pos d2]
        by_cases e0 : c / 64 < d / 64
        · exact ahead0 _ _ (by omega) (by omega)
        · exact ahead1 _ _ (by omega) (by omega) (by omega)
      · rw [if_neg d2]
        by_cases d3 : d < 65536
        · rw [if_pos d3]; exact ahead0 _ _ (by omega) (by omega)
        · rw [if_neg d3]; exact ahead0 _ _ (by omega) (by omega)
    · rw [if_neg c2, if_neg (show ¬ d < 2048 by omega)]
      by_cases c3 : c < 65536
      · rw [if_pos c3]
        by_cases d3 : d < 65536
        · rw [if_pos d3]
          by_cases e0 : c / 4096 < d / 4096
          · exact ahead0 _ _ (by omega) (by omega)
          · by_cases e1 : c / 64 % 64 < d / 64 % 64
            · exact ahead1 _ _ (by omega) (by omega) (by omega)
            · exact ahead2 _ _ (by omega) (by omega) (by omega) (by omega)
        · rw [if_neg d3]; exact ahead0 _ _ (by omega) (by omega)
      · rw [if_neg c3, if_neg (show ¬ d < 65536 by omega)]
        by_cases e0 : c / 262144 < d / 262144
        · exact ahead0 _ _ (by omega) (by omega)
        · by_cases e1 : c / 4096 % 64 < d / 4096 % 64
          · exact ahead1 _ _ (by omega) (by omega) (by omega)
          · by_cases e2 : c / 64 % 64 < d / 64 % 64
            · exact ahead2 _ _ (by omega) (by omega) (by omega) (by omega)
            · exact ahead3 _ _ (by omega) (by omega) (by omega) (by omega) (by omega)
def sgnR (s : ByteArray) (k : Nat) : Nat := rn s (P s k)
theorem split_at (s : ByteArray) {k m : Nat} (hk : k < m) (hm : m ≤ N s) (hok : okAt s (P s k) = true) :
    s.extract 0 (P s m) = s.extract 0 (P s k) ++ (Utf8.encode (sgnR s k : Nat) ++ s.extract (P s (k + 1)) (P s m)) := by
  have hlt := P_lt (show k < N s by omega)
  have h1 := enc_dec s (P s k) hlt hok
  have hmo := P_mono (s := s) (show k + 1 ≤ m from hk)
  have hz := (upto_of_le hm).1
  have hsu := P_succ s k
  unfold sgnR
  rw [h1, ← hsu]
  rw [← ByteArray.append_assoc, extract_two s _ _ (by omega) (by omega), extract_two s _ _ hmo hz]
/-- What above finds. -/
theorem aboveK_some {s a : ByteArray} : ∀ {m : Nat}, m ≤ N s → aboveK s m = some a → ∃ k, k < m ∧ rn s (P s k) < 1114111 ∧ a = s.extract 0 (P s k) ++ Utf8.encode (nextF (rn s (P s k)) : Nat)
  | 0, _, h => by simp [aboveK] at h
  | m + 1, hm, h => by
    rw [aboveK] at h
    by_cases hr : rn s (P s m) < 1114111
    · rw [if_pos hr] at h
      exact ⟨m, by omega, hr, (Option.some.inj h).symm⟩
    · rw [if_neg hr] at h
      obtain ⟨k, hk, h1, h2⟩ := aboveK_some (by omega) h
      exact ⟨k, by omega, h1, h2⟩
theorem nextF_gt (c : Nat) : c < nextF c := by unfold nextF; split <;> omega
theorem geq_of_split (x y r pre : ByteArray) (E E' : ByteArray) (h : Ahead E.data.toList E'.data.toList) (hy : y = pre ++ (E ++ r)) (hx : x = pre ++ E') : Op.bytesLess x.toList y.toList = false := by
  rw [Lib.toList_data, Lib.toList_data, hx, hy]
  simp only [ByteArray.data_append, Array.toList_append]
  have := h.less r.data.toList [] pre.data.toList
  simpa using this
theorem above_bound {s a : ByteArray} {m : Nat} (hm : m < N s) (hc : clean s = true) (h : aboveK s m = some a) (more : ByteArray) :
    Op.bytesLess a.toList s.toList = false ∧ Op.bytesLess a.toList (s.extract 0 (P s m) ++ more).toList = false ∧ N a ≤ m := by
  obtain ⟨k, hk, hr, rfl⟩ := aboveK_some (Nat.le_of_lt hm) h
  have hlt := P_lt (show k < N s by omega)
  have hok : okAt s (P s k) = true := by
    have := clean_le (show k + 1 ≤ N s by omega) hc
    rw [cleanK_succ, Bool.and_eq_true] at this
    exact this.2
  have ok1 : okRune (rn s (P s k)) := ⟨rn_le s _ hlt, rn_sur s _ hlt⟩
  have ok2 : okRune (nextF (rn s (P s k))) := nextF_ok _ hr ok1.2
  have hah := enc_ahead _ _ ok1 ok2 (nextF_gt _)
  refine ⟨?_, ?_, ?_⟩
  · have hsp := split_at s (show k < N s by omega) (Nat.le_refl _) hok
    rw [P_N, ByteArray.extract_zero_size] at hsp
    exact geq_of_split _ s _ _ _ _ hah hsp rfl
  · have hsp := split_at s hk (Nat.le_of_lt hm) hok
    refine geq_of_split _ _ (s.extract (P s (k + 1)) (P s m) ++ more) (s.extract 0 (P s k)) _ _ hah ?_ rfl
    rw [hsp, ByteArray.append_assoc, ByteArray.append_assoc]
    rfl
  · rw [← runes_clean (show k ≤ N s by omega) (clean_le (by omega) hc), ← runesBytes_snoc, rb_N]
    · rw [List.length_append, rsK_length]; simp; omega
    · intro c hcm
      rcases List.mem_append.1 hcm with h1 | h1
      · obtain ⟨j, hj, rfl⟩ := List.mem_map.1 h1
        simp at hj
        have := P_lt (show j < N s by omega)
        exact ⟨rn_le s _ this, rn_sur s _ this⟩
      · simp at h1; subst h1; exact ok2
end Go.Proofs.Ytkildbpfondgcaa

namespace Go.Proofs.Ytkildbpfondgcaa
open Go.RowKit Go.Deep
set_option linter.unusedVariables false
set_option linter.unusedSimpArgs false

theorem sl_own {w : World} {B e n c : Nat} {ad : Option Addr} {xs : List Nat} (h : w.ownsRow B e 1 (.slice ad n c) n (intsV xs)) : Sl 1 (NatR .i64) w ad n xs := by
  have hl : xs.length = n := by have := h.1; rw [intsV_length] at this; omega
  refine ⟨hl, fun hn => ?_⟩
  rcases h.2 with ⟨_, h0⟩ | ⟨g, cap, cur, hv, hb, hg, _⟩
  · omega
  · simp only [Value.slice.injEq] at hv
    obtain ⟨rfl, _, rfl⟩ := hv
    refine ⟨g, 0, rfl, ?_, fun i x hi => ⟨[.int .i64 (x : Int)], rfl, rfl, fun j v hj => ?_⟩⟩
    · rcases Nat.lt_or_ge g w.heap.size with hlt | hge
      · exact hlt
      · rw [Array.getElem?_eq_none hge] at hg; cases hg
    · have hil : i < n := by
        rcases Nat.lt_or_ge i n with h1 | h1
        · exact h1
        · rw [List.getElem?_eq_none (by omega)] at hi; cases hi
      cases j with
      | zero =>
        simp at hj; subst hj
        have := h.cellAt i (by omega)
        rw [intsV, List.getElem?_map, hi] at this
        simpa using this
      | succ j => simp at hj
end Go.Proofs.Ytkildbpfondgcaa
