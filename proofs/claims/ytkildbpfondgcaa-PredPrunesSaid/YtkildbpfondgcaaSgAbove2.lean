/- The contract of signs.Above. -/
import Derived.Test.YtkildbpfondgcaaSgAbove
namespace Go.Proofs.Ytkildbpfondgcaa
open Go.RowKit Go.Deep
set_option linter.unusedVariables false

def runesV (xs : List Nat) : Array Value := (xs.map fun r : Nat => Value.int .i32 (r : Int)).toArray
theorem runesV_snoc (xs : List Nat) (r : Nat) : (runesV xs).push (.int .i32 (r : Int)) = runesV (xs ++ [r]) := by simp [runesV]
theorem runesV_size (xs : List Nat) : (runesV xs).size = xs.length := by simp [runesV]
theorem runesFrom_eq (s : ByteArray) : ∀ (bound k : Nat), Upto s k → N s ≤ k + bound → Conv.runesFrom s bound (P s k) (runesV (rsK s k)) = runesV (rs s)
  | 0, k, hk, hb => by
    have := hk.le_N
    have e : k = N s := by omega
    rw [Conv.runesFrom, e]; rfl
  | b + 1, k, hk, hb => by
    unfold Conv.runesFrom
    by_cases hlt : P s k < s.size
    · rw [if_pos hlt]
      have ih := runesFrom_eq s b (k + 1) (hk.step hlt) (by omega)
      rw [P_succ, rsK_succ, ← runesV_snoc] at ih
      exact ih
    · rw [if_neg hlt, hk.done hlt]; rfl
theorem runes_all (s : ByteArray) : Conv.runesFrom s s.size 0 #[] = runesV (rs s) := runesFrom_eq s s.size 0 (Upto.zero s) (by have := N_le s; omega)
theorem rs_length (s : ByteArray) : (rs s).length = N s := rsK_length s _
def intsOf (xs : List Nat) : List Int := xs.map fun x : Nat => (x : Int)
theorem runesBytes_snoc (xs : List Nat) (r : Nat) : runesBytes (intsOf (xs ++ [r])) = runesBytes (intsOf xs) ++ Utf8.encode (r : Int) := by simp [runesBytes, intsOf, List.foldl_append]
theorem extract_two (s : ByteArray) (a b : Nat) (hab : a ≤ b) (hb : b ≤ s.size) : s.extract 0 a ++ s.extract a b = s.extract 0 b := by
  apply bytes_ext
  simp only [ByteArray.data_append, ByteArray.data_extract, Array.toList_append]
  have hz : s.size = s.data.size := rfl
  rw [← Array.toList_append, Array.extract_append_extract]
  rw [Nat.min_eq_left (Nat.zero_le _), Nat.max_eq_right hab]
theorem runes_clean {s : ByteArray} : ∀ {k : Nat}, k ≤ N s → cleanK s k = true → runesBytes (intsOf (rsK s k)) = s.extract 0 (P s k)
  | 0, _, _ => by
    rw [P]
    exact (ByteArray.size_eq_zero_iff.1 (by simp)).symm
  | k + 1, hk, hc => by
    rw [cleanK_succ, Bool.and_eq_true] at hc
    have hlt := P_lt (show k < N s by omega)
    rw [rsK_succ, runesBytes_snoc, runes_clean (by omega) hc.1, enc_dec s _ hlt hc.2, P_succ]
    exact extract_two s _ _ (by omega) (wd_le s _ hlt)
theorem clean_le {s : ByteArray} {k : Nat} (hk : k ≤ N s) (hc : clean s = true) : cleanK s k = true := by
  unfold clean cleanK at hc
  unfold cleanK
  rw [List.all_eq_true] at hc ⊢
  intro j hj
  exact hc j (by simp at hj ⊢; omega)
def lenOf : Value → Nat
  | .slice _ n _ => n
  | _ => 0

set_option maxRecDepth 100000 in
set_option maxHeartbeats 4000000 in
theorem above_calls (s : ByteArray) (n : Int) (w : World) (hm : s.size ≤ 1000000) (hn : -9223372036854775808 ≤ n ∧ n ≤ 9223372036854775807) : Calls Try.prog 25 #[.string s, .int .i64 n] w (AbovePost s n w) := by
  go_enter Try.func25, Try.ntmps25
  go_wp2_with fail
  refine (clean_calls _ _ hm).mono ?_
  rintro e w1 ⟨rfl, hb1⟩
  have HB1 := Lib.hid hb1
  clear hb1
  cases hcl : clean s with
  | false =>
    have HCL := Lib.hid hcl
    clear hcl
    go_wp2
    go_ret2
    refine ⟨?_, HB1.out⟩
    unfold aboveF
    rw [if_pos HCL.out]
    rfl
  | true =>
    have HCL := Lib.hid hcl
    clear hcl
    go_wp2_with fail
    refine (count_calls _ _ hm).mono ?_
    rintro e w2 ⟨rfl, hb2⟩
    have HB2 := Lib.hid (HB1.out.trans (hb2.mono HB1.out.size))
    clear hb2
    by_cases hnN : (N s : Int) ≤ n
    · go_wp2
      go_ret2
      refine ⟨?_, HB2.out⟩
      unfold aboveF
      rw [if_neg (by rw [HCL.out]; simp), if_pos hnN]
      rfl
    · go_wp2_with fail
      refine (first_calls _ _ _ hm hn).mono ?_
      rintro e w3 ⟨rfl, hb3⟩
      have HB3 := Lib.hid (HB2.out.trans (hb3.mono HB2.out.size))
      clear hb3
      have hmN : n.toNat ≤ N s := by omega
      generalize hmm : n.toNat = m at *
      have HAF := Lib.hid (show aboveF s n = match aboveK s m with | some a => (a, true) | none => (ByteArray.empty, false) by unfold aboveF; rw [if_neg (by rw [HCL.out]; simp), if_neg (by omega), hmm]; cases aboveK s m <;> rfl)
      have hft : firstF s n = s.extract 0 (P s m) := by unfold firstF; rw [if_pos (by omega), hmm]
      have hrt : Conv.runesFrom (s.extract 0 (P s m)) (s.extract 0 (P s m)).size 0 #[] = runesV (rsK s m) := by rw [runes_all, head_rs hmN]
      have hrz : (runesV (rsK s m)).size = m := by rw [runesV_size, rsK_length]
      rw [hft]
      have hNl := N_le s
      have hcr := run_runes_of_string (P := Try.prog) w3 9 93 21 (s.extract 0 (P s m)) Try.underlying9 Try.underlying93 Try.underlying21 (by rw [hrt, hrz]; omega)
      rw [hrt, hrz] at hcr
      have hge := grownCap_ge w3 m 0 21
      generalize grownCap w3 m 0 21 = cap at *
      have hcell : ∀ j, j < m → (w3.drew.alloc (.cells (runesV (rsK s m) ++ Array.replicate (cap - m) (.int .i32 0)) 21)).cell? ⟨w3.heap.size, j, none⟩ = some (.int .i32 (rn s (P s j) : Nat)) := fun j hj => by
        show (w3.drew.alloc _).cell? ⟨w3.drew.heap.size, j, none⟩ = _
        rw [World.cell?_alloc_new, Array.getElem?_append_left (by rw [hrz]; exact hj)]
        simp [runesV, rsK, hj]
      have hfrz : ∀ j, (w3.drew.alloc (.cells (runesV (rsK s m) ++ Array.replicate (cap - m) (.int .i32 0)) 21)).frozen? ⟨w3.heap.size, j, none⟩ = false := fun j => by
        show (w3.drew.alloc _).frozen? ⟨w3.drew.heap.size, j, none⟩ = _
        rw [World.frozen?_alloc_mark]
        simp
      have hbA : Below w.heap.size w (w3.drew.alloc (.cells (runesV (rsK s m) ++ Array.replicate (cap - m) (.int .i32 0)) 21)) := HB3.out.drew.alloc HB3.out.size _
      have HCELL := Lib.hid hcell
      have HFRZ := Lib.hid hfrz
      have HBA := Lib.hid hbA
      have hB3 : w.heap.size ≤ w3.heap.size := HB3.out.size
      clear hcell hfrz hbA hrt hrz hft
      generalize w3.drew.alloc (.cells (runesV (rsK s m) ++ Array.replicate (cap - m) (.int .i32 0)) 21) = W1 at *
      have hm46 : (m : Int) ≤ 1000000 := by omega
      go_wp2_with fail
      go_loopw [6] (fun v wr => ∃ k : Nat, k ≤ m ∧ v = .slice (some ⟨w3.heap.size, 0, none⟩) k cap ∧ wr = W1 ∧ aboveK s m = aboveK s k) (fun v _ => lenOf v)
      case atStart => exact ⟨m, Nat.le_refl _, rfl, rfl, rfl⟩
      case round =>
        obtain ⟨k, hk, rfl, rfl, hab⟩ := hrel
        have HAB := Lib.hid hab
        clear hab
        cases k with
        | zero =>
          go_wp2
          go_ret2
          refine ⟨?_, HBA.out⟩
          rw [HAF.out, HAB.out]
          rfl
        | succ j =>
          have hjN : j < N s := by omega
          have hcj := HCELL.out j (by omega)
          have hfj := HFRZ.out j
          have hpl := P_lt hjN
          have hrl := rn_le s (P s j) hpl
          have hak : aboveK s (j + 1) = if rn s (P s j) < 1114111 then some (s.extract 0 (P s j) ++ Utf8.encode (nextF (rn s (P s j)) : Nat)) else aboveK s j := rfl
          have HAK := Lib.hid hak
          have HRC := Lib.hid (runes_clean (Nat.le_of_lt hjN) (clean_le (Nat.le_of_lt hjN) HCL.out))
          clear hak
          generalize hr : rn s (P s j) = r at *
          have HRR := Lib.hid hr
          have HRL := Lib.hid hrl
          have hj0 : (0 : Int) ≤ (j : Int) := by omega
          have hjc : (j : Int) ≤ (cap : Int) := by omega
          clear hr hrl hpl hmm hn hnN
          go_wp2_with fail
          refine (next_calls r _ HRL.out).mono ?_
          rintro e w' ⟨rfl, rfl⟩
          by_cases hlt : r < 1114111
          · have HLT := Lib.hid hlt
            rw [show decide (r < 1114111) = true by simpa using hlt]
            clear hlt
            have hcv := run_convert_runes (P := Try.prog) (w'.setCell ⟨w3.heap.size, j, none⟩ (.int .i32 (nextF r : Nat))) 93 9 21 ⟨w3.heap.size, 0, none⟩ (j + 1) cap (intsOf (rsK s j ++ [nextF r])) (by simp [intsOf, rsK_length]) Try.underlying93 Try.underlying21 Try.underlying9 (fun i hi => by
              have hplain : (⟨w3.heap.size, 0, none⟩ : Addr).add i = ⟨w3.heap.size, i, none⟩ := by unfold Addr.add; split <;> simp_all
              have hi2 : i < j + 1 := by simpa [intsOf, rsK_length] using hi
              rw [hplain]
              by_cases hij : i = j
              · subst hij
                rw [World.cell?_setCell_same' _ _ _ (by rw [hcj]; rfl)]
                simp [intsOf, rsK_length, List.getD]
              · rw [World.cell?_setCell_other _ _ _ _ (by intro e; cases e; exact hij rfl), HCELL.out i (by omega)]
                have : i < j := by omega
                simp [intsOf, rsK, List.getD, List.getElem?_append_left, this])
            have htk : (intsOf (rsK s j ++ [nextF r])).take (j + 1) = intsOf (rsK s j ++ [nextF r]) := List.take_of_length_le (by simp [intsOf, rsK_length])
            rw [htk, runesBytes_snoc, HRC.out] at hcv
            clear htk
            go_wp2
            go_ret2
            refine ⟨?_, HBA.out.setCell hB3 _⟩
            rw [HAF.out, HAB.out, HAK.out, if_pos HLT.out]
            rfl
          · have HLT := Lib.hid hlt
            rw [show decide (r < 1114111) = false by simpa using hlt]
            clear hlt
            go_wp2
            go_roundw
            case rel => exact ⟨j, by omega, rfl, trivial, HAB.out.trans (HAK.out.trans (if_neg HLT.out))⟩
            case measure => simp [lenOf] <;> omega
end Go.Proofs.Ytkildbpfondgcaa
