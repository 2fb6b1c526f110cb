/- The contract of catchmentref02.Above. -/
import Derived.Test.YtkildbpfondgcaaSgBytes
import Derived.Deep.RegionHeld3
import Derived.Laws.IdiomStrings
import Derived.StillTailTactics
namespace Go.Proofs.Ytkildbpfondgcaa
open Go.RowKit Go.Deep
set_option linter.unusedVariables false
set_option linter.unusedSimpArgs false

/-- What lies above the first k signs. -/
noncomputable def aboveK (s : ByteArray) : Nat → Option ByteArray
  | 0 => none
  | k + 1 => if rn s (P s k) < 1114111 then some (s.extract 0 (P s k) ++ Utf8.encode (nextF (rn s (P s k)) : Nat)) else aboveK s k
noncomputable def aboveF (s : ByteArray) (n : Int) : ByteArray × Bool :=
  if clean s = false then (ByteArray.empty, false) else if (N s : Int) ≤ n then (s, true)
  else match aboveK s n.toNat with
    | some a => (a, true)
    | none => (ByteArray.empty, false)
def AbovePost (s : ByteArray) (n : Int) (w : World) (e : Ending) (w' : World) : Prop := e = .returned (.tuple #[.string (aboveF s n).1, .bool (aboveF s n).2]) ∧ Below w.heap.size w w'
def bCells (b : ByteArray) : Array Value := (b.data.toList.map fun b => Value.int .u8 (b.toNat : Int)).toArray
theorem conv_b (b : ByteArray) (w : World) : (convert 100 9 (.slice (some ⟨w.heap.size, 0, none⟩) b.size b.size)).run Try.prog (w.alloc (.cells (bCells b) 5)) = .ok (.string b) (w.alloc (.cells (bCells b) 5)) := by
  have h := run_convert_bytes_back (P := Try.prog) (w.alloc (.cells (bCells b) 5)) 100 9 5 ⟨w.heap.size, 0, none⟩ b.size b.data.toList Try.underlying100 Try.underlying5 Try.underlying9 (fun j hj => by
    have hplain : (⟨w.heap.size, 0, none⟩ : Addr).add j = ⟨w.heap.size, j, none⟩ := by unfold Addr.add; split <;> simp_all
    rw [hplain, World.cell?_alloc_new, bCells, List.getElem?_toArray, List.getElem?_map, List.getElem?_eq_getElem hj]
    rfl)
  rw [← size_list] at h
  rw [h]
theorem conv_enc (c : Nat) (w : World) : (convert 100 9 (.slice (some ⟨w.heap.size, 0, none⟩) (Utf8.encode (c : Int)).size (Utf8.encode (c : Int)).size)).run Try.prog (w.alloc (.cells (encCells c) 5)) = .ok (.string (Utf8.encode (c : Int))) (w.alloc (.cells (encCells c) 5)) := conv_b _ w
theorem conv_at (E : ByteArray) (w : World) (B : Nat) (hB : B = w.heap.size) (W : World) (hW : W = w.alloc (.cells (bCells E) 5)) : (convert 100 9 (.slice (some ⟨B, 0, none⟩) E.size E.size)).run Try.prog W = .ok (.string E) W := by
  subst hB hW; exact conv_b E w
theorem conv_at2 (E : ByteArray) (w : World) : (convert 100 9 (.slice (some ⟨w.heap.size, 0, none⟩) E.size E.size)).run Try.prog (w.alloc (.cells (bCells E) 5)).drew = .ok (.string E) (w.alloc (.cells (bCells E) 5)).drew := conv_b E w.drew
def BPost (E : ByteArray) (w : World) (e : Ending) (w' : World) : Prop := e = .returned (.slice (some ⟨w.heap.size, 0, none⟩) E.size E.size) ∧ w' = w.alloc (.cells (bCells E) 5)
theorem bytes_b (c : Nat) (E : ByteArray) (hE : Utf8.encode (c : Int) = E) (x : Int) (hx : (c : Int) = x) (w : World) (hc : c ≤ 1114111) (hs : ¬ (55296 ≤ c ∧ c < 57344)) : Calls Try.prog 52 #[.int .i64 x] w (BPost E w) := by
  subst hE hx; exact bytes_calls c w hc hs
theorem step_conv {P : Program} {ops : Array Oper} {o : Oper} {a : Act} {w : World} {K : Act → World → Prop} {Q : Exit → Act → World → Prop} {E : Prop} (hgd : o.guard = none) (src dst : TypeId) (x : Operand)
    (ho : o.op = .convert src dst x) (v r : Value) (hx : a.eval x = v) (hrun : (convert src dst v).run P w = .ok r w) (h : K (a.put o.dst r) w) :
    if Region.wanted o (yielded ops a.tmps) = true then Oper.wp P o a w K Q else E := by
  have hw : Region.wanted o (yielded ops a.tmps) = true := by simp [Region.wanted, hgd]
  rw [if_pos hw]
  unfold Oper.wp execOp
  simp only [ho, Sem.run_bind, Sem.run_pure, Result.andThen_ok, hx, hrun]
  exact h
theorem nextF_ok (c : Nat) (h : c < 1114111) (hs : ¬ (55296 ≤ c ∧ c < 57344)) : nextF c ≤ 1114111 ∧ ¬ (55296 ≤ nextF c ∧ nextF c < 57344) := by
  unfold nextF; split <;> omega
theorem enc_size4 (c : Nat) : (Utf8.encode (c : Int)).size ≤ 4 := encode_size_le _

set_option maxRecDepth 100000 in
set_option maxHeartbeats 4000000 in
theorem refAbove (s : ByteArray) (n : Int) (w : World) (hm : s.size ≤ 1000000) (hn : -9223372036854775808 ≤ n ∧ n ≤ 9223372036854775807) : Calls Try.prog 30 #[.string s, .int .i64 n] w (AbovePost s n w) := by
  go_enter Try.func30, Try.ntmps30
  go_wp2_with fail
  refine (signs_calls _ _ hm).mono ?_
  rintro e w1 ⟨lv, av, rfl, hol, hoa, hb, hne⟩
  obtain ⟨ad, cp, rfl, h1, h2, h3⟩ := own_slice hoa
  obtain ⟨al, cl, rfl, hl1, hl2, hl3⟩ := own_slice hol
  have HOA := Lib.hid hoa
  have HOL := Lib.hid hol
  have HB := Lib.hid hb
  have HNL := Lib.hid (N_le s)
  clear hol hoa hb hne
  cases hcl : clean s with
  | false =>
    have HCL := Lib.hid hcl
    clear hcl
    go_wp2
    go_ret2
    refine ⟨?_, HB.out⟩
    unfold aboveF
    rw [if_pos HCL.out]
    rfl
  | true =>
    have HCL := Lib.hid hcl
    clear hcl
    by_cases hnN : (N s : Int) ≤ n
    · go_wp2
      go_ret2
      refine ⟨?_, HB.out⟩
      unfold aboveF
      rw [if_neg (by rw [HCL.out]; simp), if_pos hnN]
      rfl
    · by_cases hn1 : n < 1
      · go_wp2
        go_ret2
        refine ⟨?_, HB.out⟩
        unfold aboveF
        rw [if_neg (by rw [HCL.out]; simp), if_neg (by omega), show n.toNat = 0 by omega]
        rfl
      · obtain ⟨m, rfl⟩ : ∃ m : Nat, n = (m : Int) := ⟨n.toNat, by omega⟩
        have hmN : m < N s := by omega
        have HAF := Lib.hid (show aboveF s (m : Int) = match aboveK s m with | some a => (a, true) | none => (ByteArray.empty, false) by unfold aboveF; rw [if_neg (by rw [HCL.out]; simp), if_neg (by omega), Int.toNat_natCast])
        obtain ⟨g, cp', hge, hg1, hg2⟩ := HOA.out.form (by omega)
        cases hge
        obtain ⟨gl, cl', hgl, hgl1, hgl2⟩ := HOL.out.form (by omega)
        cases hgl
        clear h3 hl3
        go_wp2_with fail
        go_loopw [9] (fun i wr => ∃ k : Nat, k ≤ m ∧ i = .int .i64 ((k : Int) - 1) ∧ wr = w1 ∧ aboveK s m = aboveK s k) (fun i _ => (intOf i + 1).toNat)
        case atStart => exact ⟨m, Nat.le_refl _, rfl, rfl, rfl⟩
        case round =>
          obtain ⟨k, hk, rfl, rfl, hab⟩ := hrel
          have HAB := Lib.hid hab
          clear hab
          cases k with
          | zero =>
            go_wp2
            go_ret2
            refine ⟨?_, HB.out⟩
            rw [HAF.out, HAB.out]
            rfl
          | succ j =>
            have hjN : j < N s := by omega
            have hca := HOA.out.cellAt j (by omega)
            rw [ats_at hjN] at hca
            have hcr := HOL.out.cellAt j (by omega)
            rw [rs_at hjN] at hcr
            have hpl := P_lt hjN
            have HRL := Lib.hid (rn_le s (P s j) hpl)
            have HRS := Lib.hid (rn_sur s (P s j) hpl)
            have hak : aboveK s (j + 1) = if rn s (P s j) < 1114111 then some (s.extract 0 (P s j) ++ Utf8.encode (nextF (rn s (P s j)) : Nat)) else aboveK s j := rfl
            have HAK := Lib.hid hak
            clear hak
            have hj1 : ((j + 1 : Nat) : Int) - 1 = (j : Int) := by omega
            have hjn : (j : Int) < (N s : Int) := by omega
            have hj0 : (0 : Int) ≤ (j : Int) := by omega
            have hp0 : (0 : Int) ≤ (P s j : Int) := by omega
            have hp1 : (P s j : Int) ≤ (s.size : Int) := by omega
            generalize P s j = p at *
            generalize rn s p = r at *
            generalize hri : (r : Int) = ri at hcr
            have HRI := Lib.hid hri
            have hr0 : 0 ≤ ri := by omega
            rw [hj1]
            by_cases hr : r < 1114111
            · have hnx := nextF_ok r hr HRS.out
              have HNX := Lib.hid hnx
              have hrj : ri < 1114111 := by omega
              have HR := Lib.hid hr
              clear hnx hr hri
              obtain ⟨E, hE⟩ : ∃ E, Utf8.encode (nextF r : Nat) = E := ⟨_, rfl⟩
              have hE4 := enc_size4 (nextF r)
              rw [hE] at hE4
              have HE := Lib.hid hE
              have hsz : (s.extract 0 p).size + E.size ≤ 9223372036854775807 := by rw [ByteArray.size_extract]; omega
              have hsum := fun W : World => run_string_add_sum (P := Try.prog) (w := W) (s.extract 0 p) E hsz
              have HSUM := Lib.hid hsum
              clear hsz hsum hE hE4
              by_cases h5 : r = 55295
              · have hbc : ∀ W, Calls Try.prog 52 #[.int .i64 57344] W (BPost E W) := fun W => bytes_b (nextF r) E HE.out _ (by unfold nextF; rw [if_pos h5]; rfl) W HNX.out.1 HNX.out.2
                have hb5 : ((ri + 1) == 55296) = true := by rw [beq_iff_eq]; have := HRI.out; omega
                clear h5
                have HBC := Lib.hid hbc
                clear hbc
                go_wp2_with fail
                go_region_with (first
                    | (go_at_call 52; refine (HBC.out _).mono ?_; rintro e w' ⟨rfl, rfl⟩; have hcv := conv_at2 E wr; have hsm := HSUM.out))
                all_goals
                  go_wp2
                  go_ret2
                  refine ⟨?_, HB.out.trans (((Below.refl _ _).drew.alloc (Nat.le_refl _) _).mono HB.out.size)⟩
                  rw [HAF.out, HAB.out, HAK.out, if_pos HR.out, HE.out]
                  rfl
              · have hbc : ∀ W, Calls Try.prog 52 #[.int .i64 (ri + 1)] W (BPost E W) := fun W => bytes_b (nextF r) E HE.out _ (by unfold nextF; rw [if_neg h5]; have := HRI.out; omega) W HNX.out.1 HNX.out.2
                have hb5 : ((ri + 1) == 55296) = false := by rw [beq_eq_false_iff_ne]; have := HRI.out; omega
                clear h5
                have HBC := Lib.hid hbc
                clear hbc
                go_wp2_with fail
                go_region_with (first
                    | (go_at_call 52; refine (HBC.out _).mono ?_; rintro e w' ⟨rfl, rfl⟩; have hcv := conv_at2 E wr; have hsm := HSUM.out))
                all_goals
                  go_wp2
                  go_ret2
                  refine ⟨?_, HB.out.trans (((Below.refl _ _).drew.alloc (Nat.le_refl _) _).mono HB.out.size)⟩
                  rw [HAF.out, HAB.out, HAK.out, if_pos HR.out, HE.out]
                  rfl
            · have hrj : 1114111 ≤ ri := by omega
              have HR := Lib.hid hr
              clear hr hri
              go_wp2
              go_roundw
              case rel => exact ⟨j, by omega, by go_num, trivial, HAB.out.trans (HAK.out.trans (if_neg HR.out))⟩
              case measure => simp [intOf] <;> omega
end Go.Proofs.Ytkildbpfondgcaa
