/- The contract of signs.Like. -/
import Derived.Test.YtkildbpfondgcaaSgAbove2
import Derived.Lib.OthersKept
namespace Go.Proofs.Ytkildbpfondgcaa
open Go.RowKit Go.Deep
set_option linter.unusedVariables false

/-- What one more sign of the pattern makes of a row. -/
def stepF (X : Nat → Nat) (p : Nat) (f : Nat → Bool) : Nat → Bool
  | 0 => decide (p = 37) && f 0
  | i + 1 => if p = 37 then f (i + 1) || stepF X p f i else f i && (decide (p = 95) || decide (X i = p))
def fitsK (X : Nat → Nat) (Y : Nat → Nat) : Nat → Nat → Bool
  | 0 => fun i => decide (i = 0)
  | k + 1 => stepF X (Y k) (fitsK X Y k)
def sgn (s : ByteArray) (k : Nat) : Nat := rn s (P s k)
noncomputable def likeB (s t : ByteArray) : Bool := fitsK (sgn s) (sgn t) (N t) (N s)
def boolsV (f : Nat → Bool) (m : Nat) : List Value := (List.range m).map fun i => Value.bool (f i)
theorem boolsV_at {f : Nat → Bool} {m i : Nat} (h : i < m) : (boolsV f m)[i]? = some (.bool (f i)) := by simp [boolsV, h]
theorem boolsV_set (f g : Nat → Bool) (m i : Nat) (b : Bool) (hi : i < m) (h1 : ∀ j, j ≠ i → g j = f j) (h2 : g i = b) : (boolsV f m).set i (.bool b) = boolsV g m := by
  apply List.ext_getElem?
  intro j
  by_cases hj : j < m
  · rw [boolsV_at hj, List.getElem?_set]
    by_cases hij : i = j
    · subst hij; simp [boolsV, hi, h2]
    · rw [if_neg hij, boolsV_at hj, h1 j (Ne.symm hij)]
  · rw [List.getElem?_eq_none (by simp [boolsV]; omega), List.getElem?_eq_none (by simp [boolsV]; omega)]
def partF (X : Nat → Nat) (p : Nat) (f : Nat → Bool) (i j : Nat) : Bool := if j ≤ i then stepF X p f j else false
theorem part_step (X : Nat → Nat) (p : Nat) (f : Nat → Bool) (m i : Nat) (b : Bool) (hi : i + 1 < m) (hb : stepF X p f (i + 1) = b) : (boolsV (partF X p f i) m).set (i + 1) (.bool b) = boolsV (partF X p f (i + 1)) m := by
  refine boolsV_set _ _ m (i + 1) b hi (fun j hj => ?_) (by simp [partF, hb])
  unfold partF
  by_cases h : j ≤ i
  · rw [if_pos h, if_pos (by omega)]
  · rw [if_neg h, if_neg (by omega)]
theorem part_zero (X : Nat → Nat) (p : Nat) (f : Nat → Bool) (m : Nat) (b : Bool) (hm : 0 < m) (hb : stepF X p f 0 = b) : (boolsV (fun _ => false) m).set 0 (.bool b) = boolsV (partF X p f 0) m := by
  refine boolsV_set _ _ m 0 b hm (fun j hj => ?_) (by simp [partF, hb])
  unfold partF
  rw [if_neg (by omega)]
theorem part_all (X : Nat → Nat) (p : Nat) (f : Nat → Bool) (n : Nat) : boolsV (partF X p f n) (n + 1) = boolsV (stepF X p f) (n + 1) := by
  unfold boolsV
  apply List.map_congr_left
  intro j hj
  simp at hj
  unfold partF
  rw [if_pos (by omega)]
theorem made_false (m : Nat) : (madeCells #[Value.bool false] m).toList = boolsV (fun _ => false) m := by
  rw [toList_madeCells_one]
  unfold boolsV
  rw [List.map_const', List.length_range]
theorem start_row (m : Nat) (hm : 0 < m) : (boolsV (fun _ => false) m).set 0 (.bool true) = boolsV (fun i => decide (i = 0)) m :=
  boolsV_set _ _ m 0 true hm (fun j hj => by simp [hj]) (by simp)
theorem infoBool : (Try.prog.info? 4).map (fun i => (i.zero, i.size, i.bytes)) = some (some (.bool false), 1, 1) := by kernel_rfl
theorem own_made {w : World} {B e g m : Nat} (h : w.ownsRow B e 1 (.slice (some ⟨g, 0, none⟩) m m) m (madeCells (Value.bool false).cells (m * 1)).toList) : w.ownsRow B e 1 (.slice (some ⟨g, 0, none⟩) m m) m (boolsV (fun _ => false) m) := by
  rw [Nat.mul_one] at h
  have e : madeCells (Value.bool false).cells m = madeCells #[Value.bool false] m := rfl
  rw [e, made_false] at h
  exact h
theorem start_own {w : World} {B e g m : Nat} (h : w.ownsRow B e 1 (.slice (some ⟨g, 0, none⟩) (m + 1) (m + 1)) (m + 1) ((boolsV (fun _ => false) (m + 1)).set 0 (.bool true))) (X Y : Nat → Nat) : w.ownsRow B e 1 (.slice (some ⟨g, 0, none⟩) (m + 1) (m + 1)) (m + 1) (boolsV (fitsK X Y 0) (m + 1)) := by
  rw [start_row _ (by omega)] at h
  exact h
theorem below_grown_none {w w' : World} (h : w.grownBy w' none) : Below w.heap.size w w' := (Below.refl _ _).grown h (Nat.le_refl _) (fun k hk => by cases hk)
theorem own_block {w : World} {B e n c g : Nat} {xs : List Value} (h : w.ownsRow B e 1 (.slice (some ⟨g, 0, none⟩) n c) n xs) : ∃ cs t fr, w.heap[g]? = some (.cells cs t fr) := by
  rcases h.2 with ⟨h1, _⟩ | ⟨g', cap, cur, hv, _, hg, _⟩
  · cases h1
  · cases hv; exact ⟨_, _, _, hg⟩
theorem own_ne_iter {w : World} {B e n c g k : Nat} {xs : List Value} {t : ByteArray} {q : Nat} (h : w.ownsRow B e 1 (.slice (some ⟨g, 0, none⟩) n c) n xs) (hi : w.heap[k]? = some (.stringIter t q)) : g ≠ k := by
  rintro rfl
  obtain ⟨cs, ty, fr, hg⟩ := own_block h
  rw [hg] at hi; cases hi
theorem own_iterAt {w : World} {B e n c g k : Nat} {xs : List Value} (h : w.ownsRow B e 1 (.slice (some ⟨g, 0, none⟩) n c) n xs) (hk : k ≠ g) (t : ByteArray) (q : Nat) : (w.iterAt k t q).ownsRow B e 1 (.slice (some ⟨g, 0, none⟩) n c) n xs := by
  obtain ⟨h1, h2⟩ := h
  refine ⟨h1, ?_⟩
  rcases h2 with h2 | ⟨g', cap, cur, a, b, c, d⟩
  · exact .inl h2
  · cases a
    exact .inr ⟨g, _, cur, rfl, b, by rw [Lib.iterAt_other _ _ _ _ _ (Ne.symm hk)]; exact c, d⟩
theorem part_own {w : World} {B e g m : Nat} {b : Bool} (h : w.ownsRow B e 1 (.slice (some ⟨g, 0, none⟩) (m + 1) (m + 1)) (m + 1) ((boolsV (fun _ => false) (m + 1)).set 0 (.bool b))) (X : Nat → Nat) (p : Nat) (f : Nat → Bool) (hb : stepF X p f 0 = b) : w.ownsRow B e 1 (.slice (some ⟨g, 0, none⟩) (m + 1) (m + 1)) (m + 1) (boolsV (partF X p f 0) (m + 1)) := by
  rw [part_zero X p f _ b (by omega) hb] at h
  exact h
theorem iterPos_eq {w : World} {k : Nat} {s : ByteArray} {p : Nat} (h : w.heap[k]? = some (.stringIter s p)) : w.iterPos k = p := by simp [World.iterPos, h]
def LikePost (s t : ByteArray) (w : World) (e : Ending) (w' : World) : Prop := e = .returned (.bool (likeB s t)) ∧ Below w.heap.size w w'

set_option maxRecDepth 100000 in
set_option maxHeartbeats 10000000 in
theorem like_calls (s t : ByteArray) (w : World) (hs : s.size ≤ 100000) (ht : t.size ≤ 100000) : Calls Try.prog 58 #[.string s, .string t] w (LikePost s t w) := by
  obtain ⟨i0, hi0, hz0, hz1, hz2⟩ := info_parts infoBool
  have HI := Lib.hid hi0
  have HZ0 := Lib.hid hz0
  have HZ1 := Lib.hid hz1
  have HZ2 := Lib.hid hz2
  clear hi0 hz0 hz1 hz2
  have hrt := runes_all s
  have hrz : (runesV (rs s)).size = N s := by rw [runesV_size, rs_length]
  have hNl := N_le s
  have hcr := run_runes_of_string (P := Try.prog) w 9 93 21 s Try.underlying9 Try.underlying93 Try.underlying21 (by rw [hrt, hrz]; omega)
  rw [hrt, hrz] at hcr
  have hge := grownCap_ge w (N s) 0 21
  generalize grownCap w (N s) 0 21 = cap at *
  have hcell : ∀ j, j < N s → (w.drew.alloc (.cells (runesV (rs s) ++ Array.replicate (cap - N s) (.int .i32 0)) 21)).cell? ⟨w.heap.size, j, none⟩ = some (.int .i32 (sgn s j : Nat)) := fun j hj => by
    show (w.drew.alloc _).cell? ⟨w.drew.heap.size, j, none⟩ = _
    rw [World.cell?_alloc_new, Array.getElem?_append_left (by rw [hrz]; exact hj)]
    simp [runesV, rs, rsK, hj, sgn]
  have hbA : Below w.heap.size w (w.drew.alloc (.cells (runesV (rs s) ++ Array.replicate (cap - N s) (.int .i32 0)) 21)) := (Below.refl _ _).drew.alloc (Nat.le_refl _) _
  have hzA : w.heap.size < (w.drew.alloc (.cells (runesV (rs s) ++ Array.replicate (cap - N s) (.int .i32 0)) 21)).heap.size := by
    show w.drew.heap.size < _
    simp
  have HCELL := Lib.hid hcell
  have HBA := Lib.hid hbA
  have HZA := Lib.hid hzA
  clear hcell hbA hrt hrz hzA
  generalize w.drew.alloc (.cells (runesV (rs s) ++ Array.replicate (cap - N s) (.int .i32 0)) 21) = W1 at *
  generalize hn : N s = n at *
  have HN := Lib.hid hn
  have hn5 : n ≤ 100000 := by omega
  clear hn hNl
  go_enter Try.func58, Try.ntmps58
  go_wp2_with (refine wpList_make_full _ rfl _ _ _ rfl w.heap.size 4 i0 (.bool false) 1 Try.underlying109 HI.out HZ0.out HZ1.out .i64 .i64 _ _ (n + 1) rfl rfl (by omega) (by omega) (by rw [HZ2.out]; omega) (by unfold maxLen; omega) (Nat.le_of_lt HZA.out) ?_; intro w2 hown2 hgrow2; have ho2 := own_made hown2; have HO2 := Lib.hid ho2; have HG2 := Lib.hid hgrow2; have hc2 := ho2.cellAt 0 (by omega); have hf2 := ho2.frozenAt 0; rw [boolsV_at (by omega)] at hc2; clear ho2 hown2 hgrow2)
  have HO3 := Lib.hid (start_own (HO2.out.stored 0 (.bool true)).1 (sgn s) (sgn t))
  have HB3 := Lib.hid ((below_grown_none HG2.out).setCell (p := ⟨W1.heap.size, 0, none⟩) (Nat.le_refl _) (.bool true))
  have hz3 : W1.heap.size < (w2.setCell ⟨W1.heap.size, 0, none⟩ (.bool true)).heap.size := by have := (HO2.out.lt _ rfl).2; simpa using this
  have HZ3 := Lib.hid hz3
  clear hc2 hf2
  have hszz : w2.heap.size = (w2.setCell ⟨W1.heap.size, 0, none⟩ (.bool true)).heap.size := by simp [World.setCell]
  generalize w2.setCell ⟨W1.heap.size, 0, none⟩ (.bool true) = W3 at *
  rw [hszz]
  clear hszz
  have HZ3' := Lib.hid HZ3.out
  have hzw : w.heap.size ≤ W3.heap.size := Nat.le_trans HBA.out.size HB3.out.size
  go_loopw [6] (fun v wr => ∃ (k g : Nat), Upto t k ∧ v = .slice (some ⟨g, 0, none⟩) (n + 1) (n + 1) ∧ wr.ownsRow w.heap.size 4 1 (.slice (some ⟨g, 0, none⟩) (n + 1) (n + 1)) (n + 1) (boolsV (fitsK (sgn s) (sgn t) k) (n + 1)) ∧ wr.heap[W3.heap.size]? = some (.stringIter t (P t k)) ∧ Below W3.heap.size W3 wr) (fun _ wr => t.size - wr.iterPos W3.heap.size)
  case atStart => exact ⟨0, _, Upto.zero t, rfl, HO3.out.alloc _, World.iter_heap _ _ _, below_iter _ _ _⟩
  case round =>
    obtain ⟨k, g, hk, rfl, hown, hit, hb⟩ := hrel
    have HK := Lib.hid hk
    have HO := Lib.hid hown
    have HB := Lib.hid hb
    have HIT := Lib.hid hit
    have hgi : g ≠ W3.heap.size := own_ne_iter hown hit
    have hps := hk.1
    by_cases hlt : P t k < t.size
    · have HS := Lib.hid (hk.step hlt)
      have hnx : ∀ ty, (Instr.next (.pointer (some ⟨W3.heap.size, 0, none⟩)) true ty).run Try.prog wr = .ok (.tuple #[.bool true, .int .i64 (P t k : Nat), .int .i32 (sgn t k : Nat)]) (wr.iterAt W3.heap.size t (P t (k + 1))) := fun ty => Lib.run_next_any_at wr W3.heap.size t (P t k) ty hit hlt
      have HO4 := Lib.hid (own_iterAt hown (Ne.symm hgi) t (P t (k + 1)))
      have HIT4 := Lib.hid (Lib.iterAt_heap wr W3.heap.size t (P t k) (P t (k + 1)) hit)
      have HB4 := Lib.hid (Lib.below_iterAt hb (k := W3.heap.size) (Nat.le_refl _) t (P t (k + 1)))
      have hpl := rn_le t (P t k) hlt
      have hpd : rn t (P t k) = sgn t k := rfl
      rw [hpd] at hpl
      have hfk : fitsK (sgn s) (sgn t) (k + 1) = stepF (sgn s) (sgn t k) (fitsK (sgn s) (sgn t) k) := rfl
      have HFK := Lib.hid hfk
      clear hown hit hb hk hfk hpd
      generalize wr.iterAt W3.heap.size t (P t (k + 1)) = W4 at *
      generalize hf : fitsK (sgn s) (sgn t) k = f at *
      generalize hpp : sgn t k = p at *
      clear hf hpp
      have HW4 := Lib.hid (Nat.le_trans hzw HB4.out.size)
      have HL4 := Lib.hid (Array.getElem?_eq_some_iff.1 HIT4.out).1
      have HMS := Lib.hid (show P t k < P t (k + 1) ∧ P t (k + 1) ≤ t.size by have := wd_pos t _ hlt; have := wd_le t _ hlt; rw [P_succ]; omega)
      by_cases hp37 : p = 37
      · have hq : ((p : Int) == 37) = true := by rw [beq_iff_eq]; omega
        have HP := Lib.hid hp37
        generalize hf0 : f 0 = b0
        have HF0 := Lib.hid hf0
        clear hp37
        go_wp2_with (refine wpList_make_full _ rfl _ _ _ rfl w.heap.size 4 i0 (.bool false) 1 Try.underlying109 HI.out HZ0.out HZ1.out .i64 .i64 _ _ (n + 1) rfl rfl (by omega) (by omega) (by rw [HZ2.out]; omega) (by unfold maxLen; omega) HW4.out ?_; intro w5 hown5 hgrow5; have ho5 := own_made hown5; have HO5 := Lib.hid ho5; have HOF5 := Lib.hid (HO4.out.kept hgrow5 (.inr (by simp [Value.ownBlock]))); have HIT5 := Lib.hid ((hgrow5.block _ HL4.out (by simp)).trans HIT4.out); have HB5 := Lib.hid (HB4.out.trans ((below_grown_none hgrow5).mono HB4.out.size)); have hc5 := ho5.cellAt 0 (by omega); have hf5 := ho5.frozenAt 0; rw [boolsV_at (by omega)] at hc5; have hcf := HOF5.out.cellAt 0 (by omega); rw [boolsV_at (by omega)] at hcf; clear ho5 hown5 hgrow5; rw [hf0] at hcf)
        have HO6 := Lib.hid (part_own (HO5.out.stored 0 (.bool b0)).1 (sgn s) p f (by have := HP.out; have := HF0.out; simp [stepF, *]))
        have hne : W4.heap.size ≠ g := by have := (HO4.out.lt g rfl).2; omega
        have HOF6 := Lib.hid (HOF5.out.kept (HO5.out.stored 0 (.bool b0)).2 (.inr (by intro e; simp [Value.ownBlock] at e; omega)))
        have HIT6 := Lib.hid ((heap_setCell_other w5 ⟨W4.heap.size, 0, none⟩ _ (.bool b0) (by have := HL4.out; intro e; simp at e; omega)).trans HIT5.out)
        have HB6 := Lib.hid (HB5.out.setCell (p := ⟨W4.heap.size, 0, none⟩) HB4.out.size (.bool b0))
        clear hc5 hf5 hcf
        generalize w5.setCell ⟨W4.heap.size, 0, none⟩ (.bool b0) = W6 at *
        go_loopw [40] (fun v wr => ∃ i : Nat, i ≤ n ∧ v = .int .i64 (i : Int) ∧ wr.ownsRow w.heap.size 4 1 (.slice (some ⟨W4.heap.size, 0, none⟩) (n + 1) (n + 1)) (n + 1) (boolsV (partF (sgn s) p f i) (n + 1)) ∧ wr.ownsRow w.heap.size 4 1 (.slice (some ⟨g, 0, none⟩) (n + 1) (n + 1)) (n + 1) (boolsV f (n + 1)) ∧ wr.heap[W3.heap.size]? = some (.stringIter t (P t (k + 1))) ∧ Below W3.heap.size W3 wr) (fun v _ => n - (intOf v).toNat)
        case atStart => exact ⟨0, Nat.zero_le _, rfl, HO6.out, HOF6.out, HIT6.out, HB6.out⟩
        case round =>
          obtain ⟨i, hi, rfl, hoh, hog, hit, hb⟩ := hrel
          have HOH := Lib.hid hoh
          have HOG := Lib.hid hog
          have HITI := Lib.hid hit
          have HBI := Lib.hid hb
          clear hoh hog hit hb
          by_cases hin : i < n
          · have hct := ((HB3.out.trans (HBI.out.mono (Nat.le_of_lt HZ3.out))).cell (p := ⟨w.heap.size, i, none⟩) HZA.out).trans (HCELL.out i hin)
            have hgi := HOG.out.cellAt i (by omega)
            have hgi1 := HOG.out.cellAt (i + 1) (by omega)
            have hhi := HOH.out.cellAt i (by omega)
            have hhi1 := HOH.out.cellAt (i + 1) (by omega)
            have hfi1 := HOH.out.frozenAt (i + 1)
            rw [boolsV_at (by omega)] at hgi hgi1 hhi hhi1
            rw [show partF (sgn s) p f i i = stepF (sgn s) p f i by simp [partF]] at hhi
            have hi0 : (0 : Int) ≤ (i : Int) := by omega
            have hi1 : (i : Int) < (n : Int) := by omega
            have HST := Lib.hid (rfl : stepF (sgn s) p f i = stepF (sgn s) p f i)
            generalize hsi : stepF (sgn s) p f i = si at hhi
            generalize hf1 : f (i + 1) = b1 at hgi1
            have HSI := Lib.hid hsi
            have HF1 := Lib.hid hf1
            clear hsi hf1
            cases b1
            · go_wp2
              go_roundw
              case rel =>
                refine ⟨i + 1, by omega, by go_num, ?_, ?_, ?_, ?_⟩
                · have h := (HOH.out.stored (i + 1) (.bool si)).1
                  rw [part_step (sgn s) p f (n + 1) i si (by omega) (by have h1 := HP.out; have h2 := HF1.out; have h3 := HSI.out; simp [stepF, h1, h2] at h3 ⊢; simpa [h1] using h3)] at h
                  exact h
                · exact HOG.out.kept (HOH.out.stored (i + 1) (.bool si)).2 (.inr (by intro e; simp [Value.ownBlock] at e; omega))
                · exact (heap_setCell_other wr ⟨W4.heap.size, i + 1, none⟩ _ (.bool si) (by have := HL4.out; intro e; simp at e; omega)).trans HITI.out
                · exact HBI.out.setCell (p := ⟨W4.heap.size, i + 1, none⟩) HB4.out.size (.bool si)
              case measure => simp [intOf] <;> omega
            · go_wp2
              go_roundw
              case rel =>
                refine ⟨i + 1, by omega, by go_num, ?_, ?_, ?_, ?_⟩
                · have h := (HOH.out.stored (i + 1) (.bool true)).1
                  rw [part_step (sgn s) p f (n + 1) i true (by omega) (by have h1 := HP.out; have h2 := HF1.out; simp [stepF, h1, h2])] at h
                  exact h
                · exact HOG.out.kept (HOH.out.stored (i + 1) (.bool true)).2 (.inr (by intro e; simp [Value.ownBlock] at e; omega))
                · exact (heap_setCell_other wr ⟨W4.heap.size, i + 1, none⟩ _ (.bool true) (by have := HL4.out; intro e; simp at e; omega)).trans HITI.out
                · exact HBI.out.setCell (p := ⟨W4.heap.size, i + 1, none⟩) HB4.out.size (.bool true)
              case measure => simp [intOf] <;> omega
          · obtain rfl : i = n := by omega
            go_wp2
            go_roundw
            case rel =>
              refine ⟨k + 1, W4.heap.size, HS.out, rfl, ?_, HITI.out, HBI.out⟩
              rw [HFK.out, ← part_all]
              exact HOH.out
            case measure => rw [iterPos_eq HITI.out, iterPos_eq HIT.out]; have := HMS.out; omega
      · by_cases hp95 : p = 95
        · have hq : ((p : Int) == 37) = false := by rw [beq_eq_false_iff_ne]; omega
          have hq5 : ((p : Int) == 95) = true := by rw [beq_iff_eq]; omega
          have HP := Lib.hid hp37
          have HP5 := Lib.hid hp95
          clear hp37 hp95
          go_wp2_with (refine wpList_make_full _ rfl _ _ _ rfl w.heap.size 4 i0 (.bool false) 1 Try.underlying109 HI.out HZ0.out HZ1.out .i64 .i64 _ _ (n + 1) rfl rfl (by omega) (by omega) (by rw [HZ2.out]; omega) (by unfold maxLen; omega) HW4.out ?_; intro w5 hown5 hgrow5; have ho5 := own_made hown5; have HO5 := Lib.hid ho5; have HOF5 := Lib.hid (HO4.out.kept hgrow5 (.inr (by simp [Value.ownBlock]))); have HIT5 := Lib.hid ((hgrow5.block _ HL4.out (by simp)).trans HIT4.out); have HB5 := Lib.hid (HB4.out.trans ((below_grown_none hgrow5).mono HB4.out.size)); have hc5 := ho5.cellAt 0 (by omega); have hf5 := ho5.frozenAt 0; rw [boolsV_at (by omega)] at hc5; have hcf := HOF5.out.cellAt 0 (by omega); rw [boolsV_at (by omega)] at hcf; clear ho5 hown5 hgrow5)
          have HO6 := Lib.hid (part_own (HO5.out.stored 0 (.bool false)).1 (sgn s) p f (by have := HP.out; simp [stepF, this]))
          have hne : W4.heap.size ≠ g := by have := (HO4.out.lt g rfl).2; omega
          have HOF6 := Lib.hid (HOF5.out.kept (HO5.out.stored 0 (.bool false)).2 (.inr (by intro e; simp [Value.ownBlock] at e; omega)))
          have HIT6 := Lib.hid ((heap_setCell_other w5 ⟨W4.heap.size, 0, none⟩ _ (.bool false) (by have := HL4.out; intro e; simp at e; omega)).trans HIT5.out)
          have HB6 := Lib.hid (HB5.out.setCell (p := ⟨W4.heap.size, 0, none⟩) HB4.out.size (.bool false))
          clear hc5 hf5 hcf
          generalize w5.setCell ⟨W4.heap.size, 0, none⟩ (.bool false) = W6 at *
          go_loopw [40] (fun v wr => ∃ i : Nat, i ≤ n ∧ v = .int .i64 (i : Int) ∧ wr.ownsRow w.heap.size 4 1 (.slice (some ⟨W4.heap.size, 0, none⟩) (n + 1) (n + 1)) (n + 1) (boolsV (partF (sgn s) p f i) (n + 1)) ∧ wr.ownsRow w.heap.size 4 1 (.slice (some ⟨g, 0, none⟩) (n + 1) (n + 1)) (n + 1) (boolsV f (n + 1)) ∧ wr.heap[W3.heap.size]? = some (.stringIter t (P t (k + 1))) ∧ Below W3.heap.size W3 wr) (fun v _ => n - (intOf v).toNat)
          case atStart => exact ⟨0, Nat.zero_le _, rfl, HO6.out, HOF6.out, HIT6.out, HB6.out⟩
          case round =>
            obtain ⟨i, hi, rfl, hoh, hog, hit, hb⟩ := hrel
            have HOH := Lib.hid hoh
            have HOG := Lib.hid hog
            have HITI := Lib.hid hit
            have HBI := Lib.hid hb
            clear hoh hog hit hb
            by_cases hin : i < n
            · have hct := ((HB3.out.trans (HBI.out.mono (Nat.le_of_lt HZ3.out))).cell (p := ⟨w.heap.size, i, none⟩) HZA.out).trans (HCELL.out i hin)
              have hgi := HOG.out.cellAt i (by omega)
              have hgi1 := HOG.out.cellAt (i + 1) (by omega)
              have hhi := HOH.out.cellAt i (by omega)
              have hhi1 := HOH.out.cellAt (i + 1) (by omega)
              have hfi1 := HOH.out.frozenAt (i + 1)
              rw [boolsV_at (by omega)] at hgi hgi1 hhi hhi1
              rw [show partF (sgn s) p f i i = stepF (sgn s) p f i by simp [partF]] at hhi
              have hi0 : (0 : Int) ≤ (i : Int) := by omega
              have hi1 : (i : Int) < (n : Int) := by omega
              generalize hf1 : f i = b1 at hgi
              have HF1 := Lib.hid hf1
              clear hf1
              go_wp2
              go_roundw
              case rel =>
                refine ⟨i + 1, by omega, by go_num, ?_, ?_, ?_, ?_⟩
                · have h := (HOH.out.stored (i + 1) (.bool b1)).1
                  rw [part_step (sgn s) p f (n + 1) i b1 (by omega) (by have h1 := HP.out; have h4 := HP5.out; have h2 := HF1.out; simp [stepF, h1, h4, h2])] at h
                  exact h
                · exact HOG.out.kept (HOH.out.stored (i + 1) (.bool b1)).2 (.inr (by intro e; simp [Value.ownBlock] at e; omega))
                · exact (heap_setCell_other wr ⟨W4.heap.size, i + 1, none⟩ _ (.bool b1) (by have := HL4.out; intro e; simp at e; omega)).trans HITI.out
                · exact HBI.out.setCell (p := ⟨W4.heap.size, i + 1, none⟩) HB4.out.size (.bool b1)
              case measure => simp [intOf] <;> omega
            · obtain rfl : i = n := by omega
              go_wp2
              go_roundw
              case rel =>
                refine ⟨k + 1, W4.heap.size, HS.out, rfl, ?_, HITI.out, HBI.out⟩
                rw [HFK.out, ← part_all]
                exact HOH.out
              case measure => rw [iterPos_eq HITI.out, iterPos_eq HIT.out]; have := HMS.out; omega
        · have hq : ((p : Int) == 37) = false := by rw [beq_eq_false_iff_ne]; omega
          have hq5 : ((p : Int) == 95) = false := by rw [beq_eq_false_iff_ne]; omega
          have HP := Lib.hid hp37
          have HP5 := Lib.hid hp95
          clear hp37 hp95
          go_wp2_with (refine wpList_make_full _ rfl _ _ _ rfl w.heap.size 4 i0 (.bool false) 1 Try.underlying109 HI.out HZ0.out HZ1.out .i64 .i64 _ _ (n + 1) rfl rfl (by omega) (by omega) (by rw [HZ2.out]; omega) (by unfold maxLen; omega) HW4.out ?_; intro w5 hown5 hgrow5; have ho5 := own_made hown5; have HO5 := Lib.hid ho5; have HOF5 := Lib.hid (HO4.out.kept hgrow5 (.inr (by simp [Value.ownBlock]))); have HIT5 := Lib.hid ((hgrow5.block _ HL4.out (by simp)).trans HIT4.out); have HB5 := Lib.hid (HB4.out.trans ((below_grown_none hgrow5).mono HB4.out.size)); have hc5 := ho5.cellAt 0 (by omega); have hf5 := ho5.frozenAt 0; rw [boolsV_at (by omega)] at hc5; have hcf := HOF5.out.cellAt 0 (by omega); rw [boolsV_at (by omega)] at hcf; clear ho5 hown5 hgrow5)
          have HO6 := Lib.hid (part_own (HO5.out.stored 0 (.bool false)).1 (sgn s) p f (by have := HP.out; simp [stepF, this]))
          have hne : W4.heap.size ≠ g := by have := (HO4.out.lt g rfl).2; omega
          have HOF6 := Lib.hid (HOF5.out.kept (HO5.out.stored 0 (.bool false)).2 (.inr (by intro e; simp [Value.ownBlock] at e; omega)))
          have HIT6 := Lib.hid ((heap_setCell_other w5 ⟨W4.heap.size, 0, none⟩ _ (.bool false) (by have := HL4.out; intro e; simp at e; omega)).trans HIT5.out)
          have HB6 := Lib.hid (HB5.out.setCell (p := ⟨W4.heap.size, 0, none⟩) HB4.out.size (.bool false))
          clear hc5 hf5 hcf
          generalize w5.setCell ⟨W4.heap.size, 0, none⟩ (.bool false) = W6 at *
          go_loopw [40] (fun v wr => ∃ i : Nat, i ≤ n ∧ v = .int .i64 (i : Int) ∧ wr.ownsRow w.heap.size 4 1 (.slice (some ⟨W4.heap.size, 0, none⟩) (n + 1) (n + 1)) (n + 1) (boolsV (partF (sgn s) p f i) (n + 1)) ∧ wr.ownsRow w.heap.size 4 1 (.slice (some ⟨g, 0, none⟩) (n + 1) (n + 1)) (n + 1) (boolsV f (n + 1)) ∧ wr.heap[W3.heap.size]? = some (.stringIter t (P t (k + 1))) ∧ Below W3.heap.size W3 wr) (fun v _ => n - (intOf v).toNat)
          case atStart => exact ⟨0, Nat.zero_le _, rfl, HO6.out, HOF6.out, HIT6.out, HB6.out⟩
          case round =>
            obtain ⟨i, hi, rfl, hoh, hog, hit, hb⟩ := hrel
            have HOH := Lib.hid hoh
            have HOG := Lib.hid hog
            have HITI := Lib.hid hit
            have HBI := Lib.hid hb
            clear hoh hog hit hb
            by_cases hin : i < n
            · have hct := ((HB3.out.trans (HBI.out.mono (Nat.le_of_lt HZ3.out))).cell (p := ⟨w.heap.size, i, none⟩) HZA.out).trans (HCELL.out i hin)
              have hgi := HOG.out.cellAt i (by omega)
              have hgi1 := HOG.out.cellAt (i + 1) (by omega)
              have hhi := HOH.out.cellAt i (by omega)
              have hhi1 := HOH.out.cellAt (i + 1) (by omega)
              have hfi1 := HOH.out.frozenAt (i + 1)
              rw [boolsV_at (by omega)] at hgi hgi1 hhi hhi1
              rw [show partF (sgn s) p f i i = stepF (sgn s) p f i by simp [partF]] at hhi
              have hi0 : (0 : Int) ≤ (i : Int) := by omega
              have hi1 : (i : Int) < (n : Int) := by omega
              generalize hf1 : f i = b1 at hgi
              have HF1 := Lib.hid hf1
              clear hf1
              generalize hxi : sgn s i = xi at *
              have HXI := Lib.hid hxi
              clear hxi
              cases b1
              · go_wp2
                go_roundw
                case rel =>
                  refine ⟨i + 1, by omega, by go_num, ?_, ?_, ?_, ?_⟩
                  · have h := (HOH.out.stored (i + 1) (.bool false)).1
                    rw [part_step (sgn s) p f (n + 1) i false (by omega) (by have h1 := HP.out; have h2 := HF1.out; simp [stepF, h1, h2])] at h
                    exact h
                  · exact HOG.out.kept (HOH.out.stored (i + 1) (.bool false)).2 (.inr (by intro e; simp [Value.ownBlock] at e; omega))
                  · exact (heap_setCell_other wr ⟨W4.heap.size, i + 1, none⟩ _ (.bool false) (by have := HL4.out; intro e; simp at e; omega)).trans HITI.out
                  · exact HBI.out.setCell (p := ⟨W4.heap.size, i + 1, none⟩) HB4.out.size (.bool false)
                case measure => simp [intOf] <;> omega
              · by_cases hxp : xi = p
                · have hxb : ((xi : Int) == (p : Int)) = true := by rw [beq_iff_eq]; omega
                  have HXP := Lib.hid hxp
                  clear hxp
                  go_wp2
                  go_roundw
                  case rel =>
                    refine ⟨i + 1, by omega, by go_num, ?_, ?_, ?_, ?_⟩
                    · have h := (HOH.out.stored (i + 1) (.bool true)).1
                      rw [part_step (sgn s) p f (n + 1) i true (by omega) (by have h1 := HP.out; have h4 := HP5.out; have h2 := HF1.out; have h3 := HXI.out; have h5 := HXP.out; simp [stepF, h1, h4, h2, h3, h5])] at h
                      exact h
                    · exact HOG.out.kept (HOH.out.stored (i + 1) (.bool true)).2 (.inr (by intro e; simp [Value.ownBlock] at e; omega))
                    · exact (heap_setCell_other wr ⟨W4.heap.size, i + 1, none⟩ _ (.bool true) (by have := HL4.out; intro e; simp at e; omega)).trans HITI.out
                    · exact HBI.out.setCell (p := ⟨W4.heap.size, i + 1, none⟩) HB4.out.size (.bool true)
                  case measure => simp [intOf] <;> omega
                · have hxb : ((xi : Int) == (p : Int)) = false := by rw [beq_eq_false_iff_ne]; omega
                  have HXP := Lib.hid hxp
                  clear hxp
                  go_wp2
                  go_roundw
                  case rel =>
                    refine ⟨i + 1, by omega, by go_num, ?_, ?_, ?_, ?_⟩
                    · have h := (HOH.out.stored (i + 1) (.bool false)).1
                      rw [part_step (sgn s) p f (n + 1) i false (by omega) (by have h1 := HP.out; have h4 := HP5.out; have h2 := HF1.out; have h3 := HXI.out; have h5 := HXP.out; simp [stepF, h1, h4, h2, h3, h5])] at h
                      exact h
                    · exact HOG.out.kept (HOH.out.stored (i + 1) (.bool false)).2 (.inr (by intro e; simp [Value.ownBlock] at e; omega))
                    · exact (heap_setCell_other wr ⟨W4.heap.size, i + 1, none⟩ _ (.bool false) (by have := HL4.out; intro e; simp at e; omega)).trans HITI.out
                    · exact HBI.out.setCell (p := ⟨W4.heap.size, i + 1, none⟩) HB4.out.size (.bool false)
                  case measure => simp [intOf] <;> omega
            · obtain rfl : i = n := by omega
              go_wp2
              go_roundw
              case rel =>
                refine ⟨k + 1, W4.heap.size, HS.out, rfl, ?_, HITI.out, HBI.out⟩
                rw [HFK.out, ← part_all]
                exact HOH.out
              case measure => rw [iterPos_eq HITI.out, iterPos_eq HIT.out]; have := HMS.out; omega
    · have hnx : ∀ ty, (Instr.next (.pointer (some ⟨W3.heap.size, 0, none⟩)) true ty).run Try.prog wr = _ := fun ty => Lib.run_next_end_at wr W3.heap.size t (P t k) ty hit hlt
      have hkn := hk.done hlt
      subst hkn
      have hcl := hown.cellAt n (by omega)
      rw [boolsV_at (by omega)] at hcl
      have hn0 : (0 : Int) ≤ (n : Int) := by omega
      clear hown hit hb hk
      go_wp2
      go_ret
      refine ⟨?_, HBA.out.trans ((HB3.out.trans (HB.out.mono (Nat.le_of_lt HZ3.out))).mono (Nat.le_of_lt HZA.out))⟩
      unfold likeB
      rw [HN.out]
      rfl
end Go.Proofs.Ytkildbpfondgcaa
