/- The contract of signs.Like. -/
import Derived.Test.YtkofaoaglnjkgaaSgAbove2
import Derived.Lib.OthersKept
namespace Go.Proofs.Ytkofaoaglnjkgaa
open Go.RowKit Go.Deep
set_option linter.unusedVariables false
set_option linter.unusedSimpArgs false

/-- What one more sign of the pattern makes of a row. -/
def stepF (X : Nat → Nat) (p : Nat) (f : Nat → Bool) : Nat → Bool
  | 0 => decide (p = 37) && f 0
  | i + 1 => if p = 37 then f (i + 1) || stepF X p f i else f i && (decide (p = 95) || decide (X i = p))
def fitsK (X : Nat → Nat) (Y : Nat → Nat) : Nat → Nat → Bool
  | 0 => fun i => decide (i = 0)
  | k + 1 => stepF X (Y k) (fitsK X Y k)
def sgn (s : ByteArray) (k : Nat) : Nat := rn s (P s k)
noncomputable def likeB (s t : ByteArray) : Bool := fitsK (sgn s) (sgn t) (N t) (N s)
def boolsV (f : Nat → Bool) (m : Nat) : List Value := (List.range m).map fun i => Value.bool (f i)
theorem boolsV_at {f : Nat → Bool} {m i : Nat} (h : i < m) : (boolsV f m)[i]? = some (.bool (f i)) := by simp [boolsV, h]
theorem boolsV_set (f g : Nat → Bool) (m i : Nat) (b : Bool) (hi : i < m) (h1 : ∀ j, j ≠ i → g j = f j) (h2 : g i = b) : (boolsV f m).set i (.bool b) = boolsV g m := by
  apply List.ext_getElem?
  intro j
  by_cases hj : j < m
  · rw [boolsV_at hj, List.getElem?_set]
    by_cases hij : i = j
    · subst hij; simp [boolsV, hi, h2]
    · rw [if_neg hij, boolsV_at hj, h1 j (Ne.symm hij)]
  · rw [List.getElem?_eq_none (by simp [boolsV]; omega), List.getElem?_eq_none (by simp [boolsV]; omega)]
def partF (X : Nat → Nat) (p : Nat) (f : Nat → Bool) (i j : Nat) : Bool := if j ≤ i then stepF X p f j else false
theorem part_step (X : Nat → Nat) (p : Nat) (f : Nat → Bool) (m i : Nat) (b : Bool) (hi : i + 1 < m) (hb : stepF X p f (i + 1) = b) : (boolsV (partF X p f i) m).set (i + 1) (.bool b) = boolsV (partF X p f (i + 1)) m := by
  refine boolsV_set _ _ m (i + 1) b hi (fun j hj => ?_) (by simp [partF, hb])
  unfold partF
  by_cases h : j ≤ i
  · rw [if_pos h, if_pos (by omega)]
  · rw [if_neg h, if_neg (by omega)]
theorem part_zero (X : Nat → Nat) (p : Nat) (f : Nat → Bool) (m : Nat) (b : Bool) (hm : 0 < m) (hb : stepF X p f 0 = b) : (boolsV (fun _ => false) m).set 0 (.bool b) = boolsV (partF X p f 0) m := by
  refine boolsV_set _ _ m 0 b hm (fun j hj => ?_) (by simp [partF, hb])
  unfold partF
  rw [if_neg (by omega)]
theorem part_all (X : Nat → Nat) (p : Nat) (f : Nat → Bool) (n : Nat) : boolsV (partF X p f n) (n + 1) = boolsV (stepF X p f) (n + 1) := by
  unfold boolsV
  apply List.map_congr_left
  intro j hj
  simp at hj
  unfold partF
  rw [if_pos (by omega)]
theorem made_false (m : Nat) : (madeCells #[Value.bool false] m).toList = boolsV (fun _ => false) m := by
  rw [toList_madeCells_one]
  unfold boolsV
  rw [List.map_const', List.length_range]
theorem start_row (m : Nat) (hm : 0 < m) : (boolsV (fun _ => false) m).set 0 (.bool true) = boolsV (fun i => decide (i = 0)) m :=
  boolsV_set _ _ m 0 true hm (fun j hj => by simp [hj]) (by simp)
theorem infoBool : (Try.prog.info? 4).map (fun i => (i.zero, i.size, i.bytes)) = some (some (.bool false), 1, 1) := by kernel_rfl
theorem own_made {w : World} {B e g m : Nat} (h : w.ownsRow B e 1 (.slice (some ⟨g, 0, none⟩) m m) m (madeCells (Value.bool false).cells (m * 1)).toList) : w.ownsRow B e 1 (.slice (some ⟨g, 0, none⟩) m m) m (boolsV (fun _ => false) m) := by
  rw [Nat.mul_one] at h
  have e : madeCells (Value.bool false).cells m = madeCells #[Value.bool false] m := rfl
  rw [e, made_false] at h
  exact h
theorem start_own {w : World} {B e g m : Nat} (h : w.ownsRow B e 1 (.slice (some ⟨g, 0, none⟩) (m + 1) (m + 1)) (m + 1) ((boolsV (fun _ => false) (m + 1)).set 0 (.bool true))) (X Y : Nat → Nat) : w.ownsRow B e 1 (.slice (some ⟨g, 0, none⟩) (m + 1) (m + 1)) (m + 1) (boolsV (fitsK X Y 0) (m + 1)) := by
  rw [start_row _ (by omega)] at h
  exact h
theorem below_grown_none {w w' : World} (h : w.grownBy w' none) : Below w.heap.size w w' := (Below.refl _ _).grown h (Nat.le_refl _) (fun k hk => by cases hk)
theorem own_block {w : World} {B e n c g : Nat} {xs : List Value} (h : w.ownsRow B e 1 (.slice (some ⟨g, 0, none⟩) n c) n xs) : ∃ cs t fr, w.heap[g]? = some (.cells cs t fr) := by
  rcases h.2 with ⟨h1, _⟩ | ⟨g', cap, cur, hv, _, hg, _⟩
  · cases h1
  · cases hv; exact ⟨_, _, _, hg⟩
theorem own_ne_iter {w : World} {B e n c g k : Nat} {xs : List Value} {t : ByteArray} {q : Nat} (h : w.ownsRow B e 1 (.slice (some ⟨g, 0, none⟩) n c) n xs) (hi : w.heap[k]? = some (.stringIter t q)) : g ≠ k := by
  rintro rfl
  obtain ⟨cs, ty, fr, hg⟩ := own_block h
  rw [hg] at hi; cases hi
theorem own_iterAt {w : World} {B e n c g k : Nat} {xs : List Value} (h : w.ownsRow B e 1 (.slice (some ⟨g, 0, none⟩) n c) n xs) (hk : k ≠ g) (t : ByteArray) (q : Nat) : (w.iterAt k t q).ownsRow B e 1 (.slice (some ⟨g, 0, none⟩) n c) n xs := by
  obtain ⟨h1, h2⟩ := h
  refine ⟨h1, ?_⟩
  rcases h2 with h2 | ⟨g', cap, cur, a, b, c, d⟩
  · exact .inl h2
  · cases a
    exact .inr ⟨g, _, cur, rfl, b, by rw [Lib.iterAt_other _ _ _ _ _ (Ne.symm hk)]; exact c, d⟩
theorem part_own {w : World} {B e g m : Nat} {b : Bool} (h : w.ownsRow B e 1 (.slice (some ⟨g, 0, none⟩) (m + 1) (m + 1)) (m + 1) ((boolsV (fun _ => false) (m + 1)).set 0 (.bool b))) (X : Nat → Nat) (p : Nat) (f : Nat → Bool) (hb : stepF X p f 0 = b) : w.ownsRow B e 1 (.slice (some ⟨g, 0, none⟩) (m + 1) (m + 1)) (m + 1) (boolsV (partF X p f 0) (m + 1)) := by
  rw [part_zero X p f _ b (by omega) hb] at h
  exact h
theorem iterPos_eq {w : World} {k : Nat} {s : ByteArray} {p : Nat} (h : w.heap[k]? = some (.stringIter s p)) : w.iterPos k = p := by simp [World.iterPos, h]
def LikePost (s t : ByteArray) (w : World) (e : Ending) (w' : World) : Prop := e = .returned (.bool (likeB s t)) ∧ Below w.heap.size w w'

end Go.Proofs.Ytkofaoaglnjkgaa
