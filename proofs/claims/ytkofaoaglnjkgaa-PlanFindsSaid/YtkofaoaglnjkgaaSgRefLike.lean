/- The contracts of catchmentref02.like and Like. -/
import Derived.Test.YtkofaoaglnjkgaaSgTop
import Derived.StillTailTactics
import Derived.BigRegion
namespace Go.Proofs.Ytkofaoaglnjkgaa
open Go.RowKit Go.Deep
set_option linter.unusedVariables false
set_option linter.unusedSimpArgs false

def orK (f : Nat → Bool) : Nat → Bool
  | 0 => false
  | j + 1 => orK f j || f j
theorem step37 (X : Nat → Nat) (f : Nat → Bool) : ∀ i, stepF X 37 f i = orK f (i + 1)
  | 0 => by simp [stepF, orK]
  | i + 1 => by
    have ih := step37 X f i
    simp only [stepF, if_true]
    rw [ih]
    simp only [orK]
    rw [Bool.or_comm]
def partG (X : Nat → Nat) (p : Nat) (f : Nat → Bool) (i : Nat) (b : Bool) (j : Nat) : Bool := if j < i then stepF X p f j else if j = i then b else false
theorem partG_set (X : Nat → Nat) (p : Nat) (f : Nat → Bool) (m i : Nat) (b b' : Bool) (hi : i < m) : (boolsV (partG X p f i b) m).set i (.bool b') = boolsV (partG X p f i b') m := by
  refine boolsV_set _ _ m i b' hi (fun j hj => ?_) (by simp [partG])
  unfold partG
  by_cases h : j < i
  · rw [if_pos h, if_pos h]
  · rw [if_neg h, if_neg h, if_neg hj, if_neg hj]
theorem partG_next (X : Nat → Nat) (p : Nat) (f : Nat → Bool) (i : Nat) (b : Bool) (hb : stepF X p f i = b) : partG X p f i b = partG X p f (i + 1) false := by
  funext j
  unfold partG
  by_cases h : j < i
  · rw [if_pos h, if_pos (by omega)]
  · rw [if_neg h]
    by_cases h2 : j = i
    · subst h2; rw [if_pos rfl, if_pos (by omega), hb]
    · rw [if_neg h2, if_neg (by omega)]; simp
theorem partG_zero (X : Nat → Nat) (p : Nat) (f : Nat → Bool) : (fun _ => false) = partG X p f 0 false := by
  funext j; unfold partG; simp
theorem partG_all (X : Nat → Nat) (p : Nat) (f : Nat → Bool) (n : Nat) : boolsV (partG X p f (n + 1) false) (n + 1) = boolsV (stepF X p f) (n + 1) := by
  unfold boolsV
  apply List.map_congr_left
  intro j hj
  simp at hj
  unfold partG
  rw [if_pos (by omega)]
def getN (xs : List Nat) (i : Nat) : Nat := xs[i]?.getD 0
def RefLikePost (xs ys : List Nat) (w : World) (e : Ending) (w' : World) : Prop := e = .returned (.bool (fitsK (getN xs) (getN ys) ys.length xs.length)) ∧ Below w.heap.size w w'
theorem getN_at {xs : List Nat} {i x : Nat} (h : xs[i]? = some x) : getN xs i = x := by simp [getN, h]

set_option maxRecDepth 100000 in
set_option maxHeartbeats 10000000 in
theorem reflike_calls (xs ys : List Nat) (a b : Option Addr) (n m ca cb : Nat) (w : World) (ha : Sl 1 (NatR .i64) w a n xs) (hb : Sl 1 (NatR .i64) w b m ys) (hn5 : n ≤ 100000) (hm5 : m ≤ 100000) : Calls Try.prog 64 #[.slice a n ca, .slice b m cb] w (RefLikePost xs ys w) := by
  obtain ⟨i0, hi0, hz0, hz1, hz2⟩ := info_parts infoBool
  have HI := Lib.hid hi0
  have HZ0 := Lib.hid hz0
  have HZ1 := Lib.hid hz1
  have HZ2 := Lib.hid hz2
  have HA := Lib.hid ha
  have HB := Lib.hid hb
  clear hi0 hz0 hz1 hz2 ha hb
  go_enter Try.func64, Try.ntmps64
  go_wp2_with (refine wpList_make_full _ rfl _ _ _ rfl w.heap.size 4 i0 (.bool false) 1 Try.underlying134 HI.out HZ0.out HZ1.out .i64 .i64 _ _ (n + 1) rfl rfl (by omega) (by omega) (by rw [HZ2.out]; omega) (by unfold maxLen; omega) (Nat.le_refl _) ?_; intro w2 hown2 hgrow2; have ho2 := own_made hown2; have HO2 := Lib.hid ho2; have HG2 := Lib.hid hgrow2; have hc2 := ho2.cellAt 0 (by omega); have hf2 := ho2.frozenAt 0; rw [boolsV_at (by omega)] at hc2; clear ho2 hown2 hgrow2)
  have HO3 := Lib.hid (start_own (HO2.out.stored 0 (.bool true)).1 (getN xs) (getN ys))
  have HB3 := Lib.hid ((below_grown_none HG2.out).setCell (p := ⟨w.heap.size, 0, none⟩) (Nat.le_refl _) (.bool true))
  clear hc2 hf2
  generalize w2.setCell ⟨w.heap.size, 0, none⟩ (.bool true) = W3 at *
  go_loopw [5, 6] (fun v kv wr => ∃ (k g : Nat), k ≤ m ∧ kv = .int .i64 (k : Int) ∧ v = .slice (some ⟨g, 0, none⟩) (n + 1) (n + 1) ∧ wr.ownsRow w.heap.size 4 1 (.slice (some ⟨g, 0, none⟩) (n + 1) (n + 1)) (n + 1) (boolsV (fitsK (getN xs) (getN ys) k) (n + 1)) ∧ Below w.heap.size w wr) (fun _ kv _ => m - (intOf kv).toNat)
  case atStart => exact ⟨0, _, Nat.zero_le _, rfl, rfl, HO3.out, HB3.out⟩
  case round =>
    obtain ⟨k, g, hk, rfl, rfl, hown, hb⟩ := hrel
    have HO := Lib.hid hown
    have HBW := Lib.hid hb
    clear hown hb
    by_cases hlt : k < m
    · obtain ⟨bp, op, p, vp, hbe, hbp, hp, hrp, hcp⟩ := HB.out.at1 hlt
      cases hrp
      have HPG := Lib.hid (getN_at hp)
      have hfk : fitsK (getN xs) (getN ys) (k + 1) = stepF (getN xs) (getN ys k) (fitsK (getN xs) (getN ys) k) := rfl
      rw [getN_at hp] at hfk
      have HFK := Lib.hid hfk
      have HCP := Lib.hid hcp
      have HBP := Lib.hid hbp
      have hk0 : (0 : Int) ≤ (k : Int) := by omega
      have hkm : (k : Int) < (m : Int) := by omega
      clear hfk hp hcp hbp
      generalize hf : fitsK (getN xs) (getN ys) k = f at *
      clear hf
      subst hbe
      go_wp2_with (refine wpList_make_full _ rfl _ _ _ rfl w.heap.size 4 i0 (.bool false) 1 Try.underlying134 HI.out HZ0.out HZ1.out .i64 .i64 _ _ (n + 1) rfl rfl (by omega) (by omega) (by rw [HZ2.out]; omega) (by unfold maxLen; omega) HBW.out.size ?_; intro w5 hown5 hgrow5; have ho5 := own_made hown5; have HO5 := Lib.hid ho5; have HOF5 := Lib.hid (HO.out.kept hgrow5 (.inr (by simp [Value.ownBlock]))); have HB5 := Lib.hid (HBW.out.trans ((below_grown_none hgrow5).mono HBW.out.size)); clear ho5 hown5 hgrow5)
      have hne : wr.heap.size ≠ g := by have := (HO.out.lt g rfl).2; omega
      have HL5 := Lib.hid (HBW.out.size)
      generalize hH : wr.heap.size = H at *
      clear hH
      go_loopw [8] (fun v wi => ∃ i : Nat, i ≤ n + 1 ∧ v = .int .i64 (i : Int) ∧ wi.ownsRow w.heap.size 4 1 (.slice (some ⟨H, 0, none⟩) (n + 1) (n + 1)) (n + 1) (boolsV (partG (getN xs) p f i false) (n + 1)) ∧ wi.ownsRow w.heap.size 4 1 (.slice (some ⟨g, 0, none⟩) (n + 1) (n + 1)) (n + 1) (boolsV f (n + 1)) ∧ Below w.heap.size w wi) (fun v _ => n + 1 - (intOf v).toNat)
      case atStart => exact ⟨0, Nat.zero_le _, rfl, by rw [← partG_zero]; exact HO5.out, HOF5.out, HB5.out⟩
      case round =>
        obtain ⟨i, hi, rfl, hoh, hog, hb⟩ := hrel
        have HOH := Lib.hid hoh
        have HOG := Lib.hid hog
        have HBI := Lib.hid hb
        clear hoh hog hb
        by_cases hin : i ≤ n
        · have hcp := (HBI.out.cell (p := ⟨bp, op + k, none⟩) HBP.out).trans HCP.out
          have hi0 : (0 : Int) ≤ (i : Int) := by omega
          have hi1 : (i : Int) ≤ (n : Int) := by omega
          by_cases hp37 : p = 37
          · subst hp37
            go_wp2_with fail
            go_loopw [9] (fun v wj => ∃ j : Nat, j ≤ i + 1 ∧ v = .int .i64 (j : Int) ∧ wj.ownsRow w.heap.size 4 1 (.slice (some ⟨H, 0, none⟩) (n + 1) (n + 1)) (n + 1) (boolsV (partG (getN xs) 37 f i (orK f j)) (n + 1)) ∧ wj.ownsRow w.heap.size 4 1 (.slice (some ⟨g, 0, none⟩) (n + 1) (n + 1)) (n + 1) (boolsV f (n + 1)) ∧ Below w.heap.size w wj) (fun v _ => i + 1 - (intOf v).toNat)
            case atStart => exact ⟨0, Nat.zero_le _, rfl, HOH.out, HOG.out, HBI.out⟩
            case round =>
              obtain ⟨j, hj, rfl, hoh, hog, hb⟩ := hrel
              have HJH := Lib.hid hoh
              have HJG := Lib.hid hog
              have HBJ := Lib.hid hb
              clear hoh hog hb hcp
              by_cases hji : j ≤ i
              · have hcf := HJG.out.cellAt j (by omega)
                have hch := HJH.out.cellAt i (by omega)
                have hff := HJH.out.frozenAt i
                rw [boolsV_at (by omega)] at hcf hch
                rw [show partG (getN xs) 37 f i (orK f j) i = orK f j by simp [partG]] at hch
                have HOK := Lib.hid (rfl : orK f (j + 1) = orK f (j + 1))
                have hok : orK f (j + 1) = (orK f j || f j) := rfl
                generalize orK f j = oj at *
                generalize f j = fj at *
                have HOKK := Lib.hid hok
                clear hok
                have hj0 : (0 : Int) ≤ (j : Int) := by omega
                have hj1 : (j : Int) ≤ (i : Int) := by omega
                have hj2 : (j : Int) < ((n : Int) + 1) := by omega
                have hi2 : (i : Int) < ((n : Int) + 1) := by omega
                have hst := fun bb : Bool => Lib.hid (HJH.out.stored i (.bool bb))
                have HNE := Lib.hid hne
                cases oj
                all_goals
                  go_wp2
                  go_roundw
                  case rel =>
                    refine ⟨j + 1, by omega, by go_num, ?_, ?_, ?_⟩
                    · have h := (HJH.out.stored i (.bool (orK f (j + 1)))).1
                      rw [partG_set _ _ _ _ _ _ _ (by omega)] at h
                      rw [HOKK.out] at h ⊢
                      simpa using h
                    · exact HJG.out.kept (HJH.out.stored i _).2 (.inr (by intro e; simp [Value.ownBlock] at e; omega))
                    · exact HBJ.out.setCell (p := ⟨H, i, none⟩) HL5.out _
                  case measure => simp [intOf] <;> omega
              · obtain rfl : j = i + 1 := by omega
                go_wp2
                go_roundw
                case rel =>
                  refine ⟨i + 1, by omega, by go_num, ?_, HJG.out, HBJ.out⟩
                  have h := HJH.out
                  rw [partG_next _ _ _ _ _ (step37 (getN xs) f i)] at h
                  exact h
                case measure => simp [intOf] <;> omega
          · have hq : ((p : Int) == 37) = false := by rw [beq_eq_false_iff_ne]; omega
            have HP := Lib.hid hp37
            clear hp37
            cases i with
            | zero =>
              have hgt : ¬ ((0 : Int) < 0) := by omega
              go_wp2
              go_roundw
              case rel =>
                refine ⟨1, by omega, rfl, ?_, HOG.out, HBI.out⟩
                have h := HOH.out
                rw [partG_next _ _ _ _ _ (show stepF (getN xs) p f 0 = false by have := HP.out; simp [stepF, this])] at h
                exact h
              case measure => simp [intOf] <;> omega
            | succ ii =>
              obtain ⟨bx, ox, x, vx, hae, hbx, hx, hrx, hcx⟩ := HA.out.at1 (i := ii) (by omega)
              cases hrx
              subst hae
              have HXG := Lib.hid (getN_at hx)
              have hcxx := (HBI.out.cell (p := ⟨bx, ox + ii, none⟩) hbx).trans hcx
              have hcf := HOG.out.cellAt ii (by omega)
              have hch := HOH.out.cellAt (ii + 1) (by omega)
              have hff := HOH.out.frozenAt (ii + 1)
              rw [boolsV_at (by omega)] at hcf hch
              have hii : ((ii + 1 : Nat) : Int) - 1 = (ii : Int) := by omega
              have hii0 : (0 : Int) ≤ (ii : Int) := by omega
              have hiin : (ii : Int) < (n : Int) := by omega
              have hii1 : (0 : Int) < ((ii : Int) + 1) := by omega
              have hii2 : (0 : Int) ≤ ((ii : Int) + 1) := by omega
              have hwr : IntKind.i64.wrap (ii : Int) = (ii : Int) := wrap_small _ (by omega) (by omega)
              have hii3 : (ii : Int) < ((n : Int) + 1) := by omega
              have hii4 : ((ii : Int) + 1) < ((n : Int) + 1) := by omega
              have hcpd : wr.drew.cell? ⟨bp, op + k, none⟩ = some (.int .i64 (p : Int)) := hcp
              have hcxd : wr.drew.cell? ⟨bx, ox + ii, none⟩ = some (.int .i64 (x : Int)) := hcxx
              have hchd : wr.drew.cell? ⟨H, ii + 1, none⟩ = some (.bool (partG (getN xs) p f (ii + 1) false (ii + 1))) := hch
              have hffd : wr.drew.frozen? ⟨H, ii + 1, none⟩ = false := hff
              have HDH := Lib.hid HOH.out.drew
              have HDG := Lib.hid HOG.out.drew
              have HDB := Lib.hid HBI.out.drew
              generalize hfi : f ii = fi at *
              have hcfd : wr.drew.cell? ⟨g, ii, none⟩ = some (.bool fi) := hcf
              have HFI := Lib.hid hfi
              have hbH : bp ≠ H := by have := HBP.out; have := HL5.out; omega
              have hxH : bx ≠ H := by have := HL5.out; omega
              have haft : ∀ v, (wr.drew.setCell ⟨H, ii + 1, none⟩ v).cell? ⟨g, ii, none⟩ = some (.bool fi) ∧ (wr.drew.setCell ⟨H, ii + 1, none⟩ v).cell? ⟨bp, op + k, none⟩ = some (.int .i64 (p : Int)) ∧ (wr.drew.setCell ⟨H, ii + 1, none⟩ v).cell? ⟨bx, ox + ii, none⟩ = some (.int .i64 (x : Int)) := fun v =>
                ⟨(World.cell?_setCell_far _ _ _ _ hne).trans hcfd, (World.cell?_setCell_far _ _ _ _ (Ne.symm hbH)).trans hcpd, (World.cell?_setCell_far _ _ _ _ (Ne.symm hxH)).trans hcxd⟩
              have HAFT := Lib.hid haft
              clear hx hbx hcx hfi haft hbH hxH
              cases fi
              · go_wp2_with fail
                clear hcfd hcpd hcxd hchd hffd
                go_region
                go_wp2
                go_roundw
                case rel =>
                  refine ⟨ii + 1 + 1, by omega, by go_num, ?_, ?_, ?_⟩
                  · have h := (HOH.out.stored (ii + 1) (.bool false)).1
                    rw [partG_set _ _ _ _ _ _ _ (by omega), partG_next _ _ _ _ _ (show stepF (getN xs) p f (ii + 1) = false by have h1 := HP.out; have h2 := HFI.out; simp [stepF, h1, h2])] at h
                    exact h
                  · have h := HOG.out.kept (HOH.out.stored (ii + 1) (.bool false)).2 (.inr (by intro e; simp [Value.ownBlock] at e; omega))
                    exact h
                  · first | exact (HBI.out.setCell (p := ⟨H, ii + 1, none⟩) HL5.out (.bool false)).drew | exact HBI.out.setCell (p := ⟨H, ii + 1, none⟩) HL5.out (.bool false)
                case measure => simp [intOf] <;> omega
              · by_cases hp95 : p = 95
                · have hq5 : ((p : Int) == 95) = true := by rw [beq_iff_eq]; omega
                  have HP5 := Lib.hid hp95
                  clear hp95
                  go_wp2_with fail
                  clear hcfd hcpd hcxd hchd hffd
                  go_region
                  go_wp2
                  go_roundw
                  case rel =>
                    refine ⟨ii + 1 + 1, by omega, by go_num, ?_, ?_, ?_⟩
                    · have h := (HOH.out.stored (ii + 1) (.bool true)).1
                      rw [partG_set _ _ _ _ _ _ _ (by omega), partG_next _ _ _ _ _ (show stepF (getN xs) p f (ii + 1) = true by have h1 := HP.out; have h4 := HP5.out; have h2 := HFI.out; simp [stepF, h1, h4, h2])] at h
                      exact h
                    · have h := HOG.out.kept (HOH.out.stored (ii + 1) (.bool true)).2 (.inr (by intro e; simp [Value.ownBlock] at e; omega))
                      exact h
                    · first | exact (HBI.out.setCell (p := ⟨H, ii + 1, none⟩) HL5.out (.bool true)).drew | exact HBI.out.setCell (p := ⟨H, ii + 1, none⟩) HL5.out (.bool true)
                  case measure => simp [intOf] <;> omega
                · have hq5 : ((p : Int) == 95) = false := by rw [beq_eq_false_iff_ne]; omega
                  have HP5 := Lib.hid hp95
                  clear hp95
                  by_cases hpx : p = x
                  · have hq6 : ((p : Int) == (x : Int)) = true := by rw [beq_iff_eq]; omega
                    have HPX := Lib.hid hpx
                    clear hpx
                    go_wp2_with fail
                    clear hcfd hcpd hcxd hchd hffd
                    go_region
                    go_wp2
                    go_roundw
                    case rel =>
                      refine ⟨ii + 1 + 1, by omega, by go_num, ?_, ?_, ?_⟩
                      · have h := (HOH.out.stored (ii + 1) (.bool true)).1
                        rw [partG_set _ _ _ _ _ _ _ (by omega), partG_next _ _ _ _ _ (show stepF (getN xs) p f (ii + 1) = true by have h1 := HP.out; have h4 := HP5.out; have h2 := HFI.out; have h5 := HXG.out; have h6 := HPX.out; rw [← h6] at h5; simp [stepF, h1, h4, h2, h5])] at h
                        exact h
                      · have h := HOG.out.kept (HOH.out.stored (ii + 1) (.bool true)).2 (.inr (by intro e; simp [Value.ownBlock] at e; omega))
                        exact h
                      · first | exact (HBI.out.setCell (p := ⟨H, ii + 1, none⟩) HL5.out (.bool true)).drew | exact HBI.out.setCell (p := ⟨H, ii + 1, none⟩) HL5.out (.bool true)
                    case measure => simp [intOf] <;> omega
                  · have hq6 : ((p : Int) == (x : Int)) = false := by rw [beq_eq_false_iff_ne]; omega
                    have HPX := Lib.hid (Ne.symm hpx)
                    clear hpx
                    go_wp2_with fail
                    clear hcfd hcpd hcxd hchd hffd
                    go_region
                    go_wp2
                    go_roundw
                    case rel =>
                      refine ⟨ii + 1 + 1, by omega, by go_num, ?_, ?_, ?_⟩
                      · have h := (HOH.out.stored (ii + 1) (.bool false)).1
                        rw [partG_set _ _ _ _ _ _ _ (by omega), partG_next _ _ _ _ _ (show stepF (getN xs) p f (ii + 1) = false by have h1 := HP.out; have h4 := HP5.out; have h2 := HFI.out; have h5 := HXG.out; have h6 := HPX.out; simp [stepF, h1, h4, h2, h5, h6])] at h
                        exact h
                      · have h := HOG.out.kept (HOH.out.stored (ii + 1) (.bool false)).2 (.inr (by intro e; simp [Value.ownBlock] at e; omega))
                        exact h
                      · first | exact (HBI.out.setCell (p := ⟨H, ii + 1, none⟩) HL5.out (.bool false)).drew | exact HBI.out.setCell (p := ⟨H, ii + 1, none⟩) HL5.out (.bool false)
                    case measure => simp [intOf] <;> omega
        · obtain rfl : i = n + 1 := by omega
          go_wp2
          go_roundw
          case rel =>
            refine ⟨k + 1, H, by omega, by go_num, rfl, ?_, HBI.out⟩
            rw [HFK.out, ← partG_all (getN xs) p f n]
            exact HOH.out
          case measure => simp [intOf] <;> omega
    · obtain rfl : k = m := by omega
      have hcl := HO.out.cellAt n (by omega)
      rw [boolsV_at (by omega)] at hcl
      have hn0 : (0 : Int) ≤ (n : Int) := by omega
      have hnl : (n : Int) < ((n : Int) + 1) := by omega
      have hxl := HA.out.1
      have hyl := HB.out.1
      have HXL := Lib.hid hxl
      have HYL := Lib.hid hyl
      clear hxl hyl
      go_wp2
      go_ret
      refine ⟨?_, HBW.out⟩
      rw [HXL.out, HYL.out]
      rfl

theorem fitsK_congr {X X' Y Y' : Nat → Nat} {n : Nat} (hX : ∀ i, i < n → X i = X' i) : ∀ m, (∀ k, k < m → Y k = Y' k) → ∀ i, i ≤ n → fitsK X Y m i = fitsK X' Y' m i
  | 0, _, i, _ => rfl
  | m + 1, hY, i, hi => by
    have ih := fitsK_congr hX m (fun k hk => hY k (by omega))
    have hs : ∀ i, i ≤ n → stepF X (Y m) (fitsK X Y m) i = stepF X' (Y m) (fitsK X' Y' m) i := by
      intro i
      induction i with
      | zero => intro h; simp only [stepF]; rw [ih 0 h]
      | succ i ih2 =>
        intro h
        simp only [stepF]
        rw [ih (i + 1) h, ih i (by omega), ih2 (by omega), hX i (by omega)]
    show stepF X (Y m) (fitsK X Y m) i = stepF X' (Y' m) (fitsK X' Y' m) i
    rw [hs i hi, hY m (by omega)]
theorem getN_rs {s : ByteArray} {i : Nat} (h : i < N s) : getN (rs s) i = sgn s i := by simp [getN, rs, rsK, h, sgn]
theorem like_rs (s t : ByteArray) : fitsK (getN (rs s)) (getN (rs t)) (rs t).length (rs s).length = likeB s t := by
  rw [rs_length, rs_length]
  exact fitsK_congr (n := N s) (fun i hi => getN_rs hi) _ (fun k hk => getN_rs hk) _ (Nat.le_refl _)

set_option maxRecDepth 100000 in
set_option maxHeartbeats 4000000 in
theorem refLike (s t : ByteArray) (w : World) (hs : s.size ≤ 100000) (ht : t.size ≤ 100000) : Calls Try.prog 47 #[.string s, .string t] w (LikePost s t w) := by
  go_enter Try.func47, Try.ntmps47
  go_wp2_with fail
  refine (signs_calls s _ (by omega)).mono ?_
  rintro e w1 ⟨lv, av, rfl, hol, hoa, hb1, hne⟩
  obtain ⟨al, cl, rfl, hl1, hl2, hl3⟩ := own_slice hol
  have B1 := Lib.hid hb1
  have S1 := Lib.hid (sl_own hol)
  clear hol hoa hb1 hne hl3
  go_wp2_with fail
  refine (signs_calls t _ (by omega)).mono ?_
  rintro e w2 ⟨lv2, av2, rfl, hol, hoa, hb2, hne⟩
  obtain ⟨al2, cl2, rfl, hk1, hk2, hk3⟩ := own_slice hol
  have B2 := Lib.hid (B1.out.trans (hb2.mono B1.out.size))
  have S2 := Lib.hid (sl_own hol)
  have S12 := Lib.hid (S1.out.below NatR.stable hb2)
  have hn1 := N_le s
  have hn2 := N_le t
  clear hol hoa hb2 hne hk3
  go_wp2_with fail
  refine (reflike_calls _ _ _ _ _ _ _ _ _ S12.out S2.out (by omega) (by omega)).mono ?_
  rintro e w3 ⟨rfl, hb3⟩
  rw [like_rs]
  have B3 := Lib.hid (B2.out.trans (hb3.mono B2.out.size))
  clear hb3
  go_wp2
  go_ret
  exact ⟨rfl, B3.out⟩

end Go.Proofs.Ytkofaoaglnjkgaa
