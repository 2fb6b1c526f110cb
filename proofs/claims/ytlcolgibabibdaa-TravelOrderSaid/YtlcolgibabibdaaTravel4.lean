/- The contract of catchmentref18.At. -/
import Derived.Test.YtlcolgibabibdaaTravel1
import Derived.Test.YtlcolgibabibdaaTravelPlain
namespace Go.Proofs.Ytlcolgibabibdaa
open Go.RowKit Go.Deep
set_option linter.unusedVariables false

def selB : Bool → SnapD → Nat
  | true, s => s.time
  | false, s => s.offset
def OfPost (n : Nat) (w : World) (e : Ending) (w' : World) : Prop := e = .returned (.int .u64 (n : Int)) ∧ Below w.heap.size w w'
theorem of_calls (cs : List Value) (s : SnapD) (time : Bool) (w : World) (h : SnapR w cs s) : Calls Try.prog 25 #[.agg cs.toArray, .bool time] w (OfPost (selB time s) w) := by
  obtain ⟨a, n, c, rfl, h1, h2, h3, hs, _⟩ := h
  cases time
  all_goals
    go_enter Try.func25, Try.ntmps25
    go_wp2
    go_ret
    exact ⟨rfl, (Below.refl _ _).alloc (Nat.le_refl _) _⟩

/-- Whether none of the first q ones contradicts. -/
def FineIs (fb : Bool) (q most sx : Nat) (sel : SnapD → Nat) (xs : List SnapD) : Prop := fb = true ↔ ∀ (j : Nat) (y : SnapD), j < q → xs[j]? = some y → most < sel y ∨ sel y ≤ sx
section
variable {q most sx : Nat} {sel : SnapD → Nat} {xs : List SnapD} {x : SnapD}
theorem fine_start : FineIs true 0 most sx sel xs := ⟨fun _ j y hj => absurd hj (by omega), fun _ => rfl⟩
theorem fine_step_no (h : FineIs false q most sx sel xs) : FineIs false (q + 1) most sx sel xs :=
  ⟨fun h => (by cases h), fun hh => h.2 fun j y hj hy => hh j y (by omega) hy⟩
theorem fine_step (h : FineIs true q most sx sel xs) (hx : xs[q]? = some x) (hok : most < sel x ∨ sel x ≤ sx) : FineIs true (q + 1) most sx sel xs := by
  refine ⟨fun _ j y hj hy => ?_, fun _ => rfl⟩
  by_cases hjq : j = q
  · subst hjq; rw [hx] at hy; cases hy; exact hok
  · exact h.1 rfl j y (by omega) hy
theorem fine_step_bad (hx : xs[q]? = some x) (h1 : sel x ≤ most) (h2 : sx < sel x) : FineIs false (q + 1) most sx sel xs :=
  ⟨fun h => (by cases h), fun hh => by have := hh q x (by omega) hx; omega⟩
theorem fine_false (h : FineIs false q most sx sel xs) : ¬ ∀ (j : Nat) (y : SnapD), j < q → xs[j]? = some y → most < sel y ∨ sel y ≤ sx := fun hh => by have := h.2 hh; cases this
theorem fine_true (h : FineIs true q most sx sel xs) : ∀ (j : Nat) (y : SnapD), j < q → xs[j]? = some y → most < sel y ∨ sel y ≤ sx := h.1 rfl
end

def RefAtPost (time : Bool) (most : Nat) (xs : List SnapD) (w : World) (e : Ending) (w' : World) : Prop :=
  ∃ r : Int, e = .returned (.int .i64 r) ∧ Best (selB time) most xs xs.length r ∧ Below w.heap.size w w'

set_option maxRecDepth 100000 in
set_option maxHeartbeats 2000000 in
theorem refAt (cs : List Value) (t : TableD) (most : Nat) (time : Bool) (w : World) (h : TableR w cs t) (hfine : TableFine t) :
    Calls Try.prog 13 #[.agg cs.toArray, .int .u64 (most : Int), .bool time] w (RefAtPost time most t.snaps w) := by
  obtain ⟨a', n', c', a, n, c, rfl, _, _, _, _, h4, h5, h6, hs, _⟩ := h
  have HS := Lib.hid hs
  have HLEN := Lib.hid hs.1
  have hn : n ≤ 100 := by have := hfine.2.1; have := hs.1; omega
  clear hs hfine h6
  go_enter Try.func13, Try.ntmps13
  go_wp2
  generalize hbox : Obj.cells #[Value.slice a' n' c', Value.slice a n c, Value.int IntKind.u64 t.current] 26 = box
  have hw1 : (w.alloc box).cell? ⟨w.heap.size, 1, none⟩ = some (.slice a n c) := by rw [← hbox, World.cell?_alloc_new]; rfl
  have hsz : (w.alloc box).heap.size = w.heap.size + 1 := by simp
  have W1 := Lib.hid hw1
  have WZ := Lib.hid hsz
  have hba : Below w.heap.size w (w.alloc box) := (Below.refl _ _).alloc (Nat.le_refl _) _
  have BA := Lib.hid hba
  clear hbox hw1 hsz hba
  go_loopw [7] (fun i wr => ∃ k : Nat, k ≤ n ∧ i = .int .i64 ((k : Int) - 1) ∧ Below (w.heap.size + 1) (w.alloc box) wr ∧ ∀ j y, k ≤ j → t.snaps[j]? = some y → ¬ Good (selB time) most t.snaps y) (fun i _ => (intOf i + 1).toNat)
  case atStart => exact ⟨n, Nat.le_refl _, rfl, Below.refl _ _, fun j y hj hy => by rw [List.getElem?_eq_none (by have := HLEN.out; omega)] at hy; cases hy⟩
  case round =>
    obtain ⟨k, hk, rfl, hb, hno⟩ := hrel
    have HNO := Lib.hid hno
    have HB := Lib.hid hb
    have HB0 := Lib.hid (BA.out.trans (hb.mono (Nat.le_succ _)))
    have c1 := (hb.cell (p := ⟨w.heap.size, 1, none⟩) (Nat.lt_succ_self _)).trans W1.out
    have hwz : w.heap.size + 1 ≤ wr.heap.size := by have := hb.size; rw [WZ.out] at this; exact this
    clear hno hb
    by_cases hk0 : 0 < k
    · obtain ⟨m, rfl⟩ : ∃ m, k = m + 1 := ⟨k - 1, by omega⟩
      obtain ⟨b, off, x, cs, rfl, hbl, hx, hcl, hr, hcell⟩ := HS.out.at_ (i := m) (by omega)
      obtain ⟨a2, n2, c2, rfl, hr2⟩ := hr
      have d0 := (HB0.out.cell (p := ⟨b, off + m * 7 + 0, none⟩) hbl).trans (hcell 0 _ rfl)
      have d1 := (HB0.out.cell (p := ⟨b, off + m * 7 + 1, none⟩) hbl).trans (hcell 1 _ rfl)
      have d2 := (HB0.out.cell (p := ⟨b, off + m * 7 + 2, none⟩) hbl).trans (hcell 2 _ rfl)
      have d3 := (HB0.out.cell (p := ⟨b, off + m * 7 + 3, none⟩) hbl).trans (hcell 3 _ rfl)
      have d4 := (HB0.out.cell (p := ⟨b, off + m * 7 + 4, none⟩) hbl).trans (hcell 4 _ rfl)
      have d5 := (HB0.out.cell (p := ⟨b, off + m * 7 + 5, none⟩) hbl).trans (hcell 5 _ rfl)
      have d6 := (HB0.out.cell (p := ⟨b, off + m * 7 + 6, none⟩) hbl).trans (hcell 6 _ rfl)
      rw [Nat.add_zero] at d0
      have SX0 := Lib.hid (⟨a2, n2, c2, rfl, hr2⟩ : SnapR w _ x)
      have SX := Lib.hid (SnapR.stable _ _ _ _ HB0.out SX0.out)
      have HX := Lib.hid hcell
      clear hcell hr2
      go_wp2_with fail
      refine (of_calls _ x time _ SX.out).mono ?_
      rintro e w1 ⟨rfl, hb1⟩
      have HB1 := Lib.hid (HB.out.trans (hb1.mono hwz))
      have HB2 := Lib.hid (BA.out.trans (HB1.out.mono (Nat.le_succ _)))
      have c2 := (HB1.out.cell (p := ⟨w.heap.size, 1, none⟩) (Nat.lt_succ_self _)).trans W1.out
      clear hb1 c1 d0 d1 d2 d3 d4 d5 d6
      generalize hsx : selB time x = sx
      have HSX := Lib.hid hsx
      clear hsx
      by_cases hle : sx ≤ most
      · have hdec : decide (most < sx) = false := by simp; omega
        go_wp2
        go_loopw [8, 9] (fun f i wr => ∃ (q : Nat) (fb : Bool), q ≤ n ∧ i = .int .i64 q ∧ f = .bool fb ∧ Below (w.heap.size + 1) (w.alloc box) wr ∧ FineIs fb q most sx (selB time) t.snaps) (fun _ i _ => n - (intOf i).toNat)
        case atStart => exact ⟨0, true, Nat.zero_le _, rfl, rfl, HB1.out, fine_start⟩
        case round =>
          clear HB HB0 HB1 HB2 c2 hwz SX
          obtain ⟨q, fb, hq, rfl, rfl, hb, hfb⟩ := hrel
          have HFB := Lib.hid hfb
          have HB := Lib.hid hb
          have HB0 := Lib.hid (BA.out.trans (hb.mono (Nat.le_succ _)))
          have c1 := (hb.cell (p := ⟨w.heap.size, 1, none⟩) (Nat.lt_succ_self _)).trans W1.out
          have hwz : w.heap.size + 1 ≤ wr.heap.size := by have := hb.size; rw [WZ.out] at this; exact this
          clear hfb hb
          by_cases hlt : q < n
          · obtain ⟨b', off', y, cs', he, hbl', hy, hcl', hr', hcell'⟩ := HS.out.at_ hlt
            cases he
            obtain ⟨a3, n3, c3, rfl, hr3⟩ := hr'
            have e0 := (HB0.out.cell (p := ⟨b, off + q * 7 + 0, none⟩) hbl).trans (hcell' 0 _ rfl)
            have e1 := (HB0.out.cell (p := ⟨b, off + q * 7 + 1, none⟩) hbl).trans (hcell' 1 _ rfl)
            have e2 := (HB0.out.cell (p := ⟨b, off + q * 7 + 2, none⟩) hbl).trans (hcell' 2 _ rfl)
            have e3 := (HB0.out.cell (p := ⟨b, off + q * 7 + 3, none⟩) hbl).trans (hcell' 3 _ rfl)
            have e4 := (HB0.out.cell (p := ⟨b, off + q * 7 + 4, none⟩) hbl).trans (hcell' 4 _ rfl)
            have e5 := (HB0.out.cell (p := ⟨b, off + q * 7 + 5, none⟩) hbl).trans (hcell' 5 _ rfl)
            have e6 := (HB0.out.cell (p := ⟨b, off + q * 7 + 6, none⟩) hbl).trans (hcell' 6 _ rfl)
            rw [Nat.add_zero] at e0
            have SY := Lib.hid (SnapR.stable _ _ _ _ HB0.out ⟨a3, n3, c3, rfl, hr3⟩)
            clear hcell' hr3
            go_wp2_with fail
            refine (of_calls _ y time _ SY.out).mono ?_
            rintro e w1 ⟨rfl, hb1⟩
            have HB1 := Lib.hid (HB.out.trans (hb1.mono hwz))
            have HB2 := Lib.hid (BA.out.trans (HB1.out.mono (Nat.le_succ _)))
            have c2 := (HB1.out.cell (p := ⟨w.heap.size, 1, none⟩) (Nat.lt_succ_self _)).trans W1.out
            clear hb1 c1 e0 e1 e2 e3 e4 e5 e6
            generalize hsy : selB time y = sy
            have HSY := Lib.hid hsy
            clear hsy
            cases fb
            · go_wp2
              go_roundw
              case rel => exact ⟨q + 1, false, by omega, by go_num, rfl, HB1.out, fine_step_no HFB.out⟩
              case measure => simp [intOf] <;> omega
            · by_cases hgt : most < sy
              · go_wp2
                go_roundw
                case rel => exact ⟨q + 1, true, by omega, by go_num, rfl, HB1.out, fine_step HFB.out hy (.inl (by rw [HSY.out]; exact hgt))⟩
                case measure => simp [intOf] <;> omega
              · have d0 := (HB2.out.cell (p := ⟨b, off + m * 7 + 0, none⟩) hbl).trans (HX.out 0 _ rfl)
                have d1 := (HB2.out.cell (p := ⟨b, off + m * 7 + 1, none⟩) hbl).trans (HX.out 1 _ rfl)
                have d2 := (HB2.out.cell (p := ⟨b, off + m * 7 + 2, none⟩) hbl).trans (HX.out 2 _ rfl)
                have d3 := (HB2.out.cell (p := ⟨b, off + m * 7 + 3, none⟩) hbl).trans (HX.out 3 _ rfl)
                have d4 := (HB2.out.cell (p := ⟨b, off + m * 7 + 4, none⟩) hbl).trans (HX.out 4 _ rfl)
                have d5 := (HB2.out.cell (p := ⟨b, off + m * 7 + 5, none⟩) hbl).trans (HX.out 5 _ rfl)
                have d6 := (HB2.out.cell (p := ⟨b, off + m * 7 + 6, none⟩) hbl).trans (HX.out 6 _ rfl)
                rw [Nat.add_zero] at d0
                have SX2 := Lib.hid (SnapR.stable _ _ _ _ HB2.out SX0.out)
                go_wp2_with fail
                refine (of_calls _ x time _ SX2.out).mono ?_
                rintro e w2 ⟨rfl, hb2⟩
                have HB3 := Lib.hid (HB1.out.trans (hb2.mono (by have := HB1.out.size; rw [WZ.out] at this; exact this)))
                clear hb2 d0 d1 d2 d3 d4 d5 d6 c2
                rw [HSX.out]
                by_cases hyx : sy ≤ sx
                · go_wp2
                  go_roundw
                  case rel => exact ⟨q + 1, true, by omega, by go_num, by simp [hyx], HB3.out, fine_step HFB.out hy (.inr (by rw [HSY.out]; exact hyx))⟩
                  case measure => simp [intOf] <;> omega
                · go_wp2
                  go_roundw
                  case rel => exact ⟨q + 1, false, by omega, by go_num, by simp [hyx], HB3.out, fine_step_bad hy (by rw [HSY.out]; omega) (by rw [HSY.out]; omega)⟩
                  case measure => simp [intOf] <;> omega
          · cases fb
            · go_wp2
              go_roundw
              case rel =>
                refine ⟨m, by omega, by first | rfl | (congr 1; omega), HB.out, fun j y hj hy => ?_⟩
                by_cases hjm : j = m
                · subst hjm
                  rw [hx] at hy; cases hy
                  exact fun hg => fine_false HFB.out (fun j y _ hy => by rw [← HSX.out]; exact hg.2 j y hy)
                · exact HNO.out j y (by omega) hy
              case measure => simp [intOf] <;> omega
            · go_wp2
              go_ret
              refine ⟨m, by first | rfl | (congr 2; omega), ?_, HB0.out⟩
              rw [HLEN.out]
              refine best_of_last HLEN.out hx ⟨by rw [HSX.out]; exact hle, fun j y hy => ?_⟩ (fun j y hj hy => HNO.out j y (by omega) hy)
              have hj : j < q := by
                rcases Nat.lt_or_ge j q with h | h
                · exact h
                · rw [List.getElem?_eq_none (by have := HLEN.out; omega)] at hy; cases hy
              rw [HSX.out]; exact fine_true HFB.out j y hj hy
      · go_wp2
        go_roundw
        case rel =>
          refine ⟨m, by omega, by first | rfl | (congr 1; omega), HB1.out, fun j y hj hy => ?_⟩
          by_cases hjm : j = m
          · subst hjm
            rw [hx] at hy; cases hy
            exact fun hg => by have := hg.1; rw [HSX.out] at this; omega
          · exact HNO.out j y (by omega) hy
        case measure => simp [intOf] <;> omega
    · obtain rfl : k = 0 := by omega
      go_wp2
      go_ret
      refine ⟨-1, rfl, ?_, HB0.out⟩
      rw [HLEN.out]
      exact best_of_none HLEN.out (fun j y hy => HNO.out j y (Nat.zero_le _) hy)
end Go.Proofs.Ytlcolgibabibdaa
