/- The contract of catchmentref02.Signs. -/
import Derived.Test.YtkofaoaglnjkgaaSgSign
import Derived.Test.YtkofaoaglnjkgaaSgBase
import Derived.Test.YtkofaoaglnjkgaaBase
import Derived.Deep.AppendLies
namespace Go.Proofs.Ytkofaoaglnjkgaa
open Go.RowKit Go.Deep
set_option linter.unusedVariables false
set_option linter.unusedSimpArgs false

theorem infoInt : (Try.prog.info? 3).map (fun i => (i.zero, i.size, i.bytes)) = some (some (.int .i64 0), 1, 8) := by kernel_rfl
theorem sg_ne {a b : Option Nat} (h : a = none ∨ a ≠ b) : b = none ∨ b ≠ a := by
  rcases h with h | h
  · cases b with
    | none => exact .inl rfl
    | some x => exact .inr (by rw [h]; simp)
  · exact .inr (Ne.symm h)
def SignsPost (s : ByteArray) (w : World) (e : Ending) (w' : World) : Prop :=
  ∃ lv av, e = .returned (.tuple #[lv, av, .bool (clean s)]) ∧ w'.ownsRow w.heap.size 3 1 lv (N s) (intsV (rs s)) ∧ w'.ownsRow w.heap.size 3 1 av (N s) (intsV (ats s)) ∧ Below w.heap.size w w' ∧ (lv.ownBlock = none ∨ lv.ownBlock ≠ av.ownBlock)

set_option maxRecDepth 100000 in
set_option maxHeartbeats 4000000 in
theorem signs_calls (s : ByteArray) (w : World) (hm : s.size ≤ 1000000) : Calls Try.prog 31 #[.string s] w (SignsPost s w) := by
  obtain ⟨i0, hi0, hz0, hz1, hz2⟩ := info_parts infoInt
  have HI := Lib.hid hi0
  have HZ0 := Lib.hid hz0
  have HZ1 := Lib.hid hz1
  have HZ2 := Lib.hid hz2
  clear hi0 hz0 hz1 hz2
  go_enter Try.func31, Try.ntmps31
  go_wp2_with fail
  go_loopw [5, 6, 7, 8] (fun lv av cv iv wr => ∃ k : Nat, Upto s k ∧ iv = .int .i64 (P s k : Nat) ∧ cv = .bool (cleanK s k) ∧ wr.ownsRow w.heap.size 3 1 lv k (intsV (rsK s k)) ∧ wr.ownsRow w.heap.size 3 1 av k (intsV (atsK s k)) ∧ Below w.heap.size w wr ∧ (lv.ownBlock = none ∨ lv.ownBlock ≠ av.ownBlock)) (fun _ _ _ iv _ => s.size - (intOf iv).toNat)
  case atStart => exact ⟨0, Upto.zero s, rfl, rfl, World.ownsRow_nil _ _ _ _, World.ownsRow_nil _ _ _ _, Below.refl _ _, .inl rfl⟩
  case round =>
    obtain ⟨k, hk, rfl, rfl, hol, hoa, hb, hne⟩ := hrel
    have HL := Lib.hid hol
    have HA := Lib.hid hoa
    have HB := Lib.hid hb
    have HNE := Lib.hid hne
    have HK := Lib.hid hk
    have hkp := hk.k_le
    have hps := hk.1
    by_cases hlt : P s k < s.size
    · have hw1 := wd_pos s _ hlt
      have hw2 := wd_le s _ hlt
      have ht1 : 0 < (s.extract (P s k) s.size).size := by rw [ByteArray.size_extract]; omega
      have hrt := rn_tail s (P s k) hps
      have hwt := wd_tail s (P s k) hps
      have hot := ok_tail s (P s k) hps
      have HRT := Lib.hid hrt
      have HWT := Lib.hid hwt
      have HOT := Lib.hid hot
      clear hol hoa hb hne hk hrt hwt hot
      generalize hp : P s k = p at *
      have HP := Lib.hid hp
      clear hp
      go_wp2_with fail
      refine (sign_calls _ _ ht1).mono ?_
      rintro e w' ⟨rfl, rfl⟩
      rw [HRT.out, HWT.out, HOT.out]
      generalize hr : rn s p = r at *
      generalize hd : wd s p = d at *
      generalize ho : okAt s p = ob at *
      have HR := Lib.hid hr
      have HD := Lib.hid hd
      have HOK := Lib.hid ho
      clear hr hd ho ht1
      have h63 : k + 1 ≤ maxLen := by unfold maxLen; omega
      have hby : (k + 1) * 8 ≤ 140737488355328 := by omega
      have hl1 : ∀ (W : World), W.heap.size ≤ (W.alloc (.cells #[Value.int .i64 (r : Int)] 3)).heap.size := fun W => by simp
      have HH := Lib.hid (Nat.le_trans HB.out.size (hl1 w'))
      clear hl1
      have hcu : P s (k + 1) = p + d := by rw [P_succ, HP.out, HD.out]
      have hru := rsK_succ s k
      have hau := atsK_succ s k
      have hku := cleanK_succ s k
      rw [HP.out] at hru hau hku
      rw [HR.out] at hru
      rw [HOK.out] at hku
      have HCU := Lib.hid hcu
      have HRU := Lib.hid hru
      have HAU := Lib.hid hau
      have HKU := Lib.hid hku
      have HST := Lib.hid (HK.out.step (by rw [HP.out]; exact hlt))
      clear hcu hru hau hku
      generalize hcl : cleanK s k = cb at *
      cases cb
      all_goals
        go_wp2_with (first
          | (at_builtin; refine wpList_append_lies _ rfl _ _ _ rfl w.heap.size 3 i0 (.int .i64 0) 1 8 Try.underlying77 HI.out HZ0.out HZ1.out HZ2.out rfl (by decide) _ _ _ rfl (HL.out.alloc _) ⟨w'.heap.size, 0, none⟩ 1 1 [.int .i64 (r : Int)] rfl rfl (by have := cell_one_new w' (.int .i64 (r : Int)) 3; simpa using this) (by simp [Value.oneCell']) (by decide) h63 hby HH.out _ rfl ?_; intro g cap w1 hown1 hgrow hat hglt; have hb1 := Lib.hid (below_append HL.out HB.out hgrow); have ho1 := Lib.hid hown1; have HG := Lib.hid hgrow; have HAT := Lib.hid hat; have HGL := Lib.hid hglt; clear hown1 hgrow hat hglt)
          | (at_builtin; refine wpList_append_lies _ rfl _ _ _ rfl w.heap.size 3 i0 (.int .i64 0) 1 8 Try.underlying77 HI.out HZ0.out HZ1.out HZ2.out rfl (by decide) _ _ _ rfl (((HA.out.alloc _).kept HG.out (sg_ne HNE.out)).alloc _) ⟨w1.heap.size, 0, none⟩ 1 1 [.int .i64 (p : Int)] rfl rfl (by have := cell_one_new w1 (.int .i64 (p : Int)) 3; simpa using this) (by simp [Value.oneCell']) (by decide) h63 hby (by simp; exact Nat.le_succ_of_le hb1.out.size) _ rfl ?_; intro g2 cap2 w2 hown2 hgrow2 hat2 hglt2; have HG2 := Lib.hid hgrow2; have ho2 := Lib.hid hown2; have ho1' := Lib.hid ((HA.out.alloc _).kept HG.out (sg_ne HNE.out)); have HAT2 := Lib.hid hat2; clear hown2 hgrow2 hat2 hglt2))
        go_roundw
        case rel =>
          refine ⟨k + 1, HST.out, by rw [HCU.out]; go_num, ?_, ?_, ?_, ?_, ?_⟩
          · rw [HKU.out]; simp
          · rw [HRU.out, ← intsV_snoc]
            exact (ho1.out.alloc _).kept HG2.out (by
              refine .inr ?_
              show some g ≠ u6.ownBlock
              rcases HAT.out with h | h
              · have h : u5.ownBlock = some g := h
                rcases HNE.out with h2 | h2
                · rw [h] at h2; cases h2
                · rw [h] at h2; exact h2
              · intro e
                have := (HA.out.lt g e.symm).2
                simp at h; omega)
          · rw [HAU.out, ← intsV_snoc]
            exact ho2.out
          · exact below_append ho1'.out hb1.out HG2.out
          · refine .inr ?_
            intro e
            have e : g = g2 := by simpa [Value.ownBlock] using e
            subst e
            rcases HAT2.out with h | h
            · have h : u6.ownBlock = some g := h
              rcases HAT.out with h3 | h3
              · have h3 : u5.ownBlock = some g := h3
                rcases HNE.out with h2 | h2
                · rw [h3] at h2; cases h2
                · rw [h3, h] at h2; exact h2 rfl
              · have := (HA.out.lt g h).2
                simp at h3; omega
            · simp at h; have := HGL.out; omega
        case measure => simp [intOf] <;> omega
    · have hkn := hk.done hlt
      subst hkn
      go_wp2
      go_ret3
      exact ⟨_, _, rfl, HL.out, HA.out, HB.out, HNE.out⟩
end Go.Proofs.Ytkofaoaglnjkgaa
