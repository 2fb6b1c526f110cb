/- The contract of catchmentref09.Eval. -/
import Derived.Test.YtkofaoaglnjkgaaPrPrPm
import Derived.Test.YtkofaoaglnjkgaaPrStats
import Derived.Test.YtkofaoaglnjkgaaSgRefLike
import Derived.Test.YtkofaoaglnjkgaaVlCmpm
import Derived.Deep.RegionHeld3
import Derived.Deep.DeepCutAuto
import Derived.IntWalk
namespace Go.Proofs.Ytkofaoaglnjkgaa
open Go.RowKit Go.Deep
set_option linter.unusedVariables false
set_option linter.unusedSimpArgs false

theorem is9_true (w : World) : Calls Try.prog 46 #[.bool true] w (fun e w' => e = .returned (.int .i64 2) ∧ w = w') := by
  go_enter Try.func46, Try.ntmps46
  go_wp2
  go_ret
  exact ⟨rfl, rfl⟩
theorem is9_false (w : World) : Calls Try.prog 46 #[.bool false] w (fun e w' => e = .returned (.int .i64 0) ∧ w = w') := by
  go_enter Try.func46, Try.ntmps46
  go_wp2
  go_ret
  exact ⟨rfl, rfl⟩
theorem bytes_ne9 {x y : ByteArray} (h : x ≠ y) : (x.toList == y.toList) = false := by
  rw [beq_eq_false_iff_ne, Lib.toList_data, Lib.toList_data]
  intro hc
  exact h (ByteArray.ext (Array.toList_inj.1 hc))
def EvalHyp (d : Nat) : Prop := ∀ (p : PredD) (cs : List Value) (s : SchemaD) (scs : List Value) (a : Option Addr) (n c : Nat) (xs : List CellD) (w : World), PredR d w cs p → SchemaR w scs s → s.fields.length ≤ 1000 → Sl 3 CellR w a n xs → n ≤ 1000 → (∀ x ∈ xs, x.s.size ≤ 100000) →
    Calls Try.prog 20 #[.agg cs.toArray, .agg scs.toArray, .slice a n c] w (ValIs (.int .i64 (evalN s.fields xs d p : Nat)) w)
set_option maxRecDepth 100000 in
set_option maxHeartbeats 16000000 in
theorem eval_and (d : Nat) (ih : EvalHyp d) (p : PredD) (cs : List Value) (s : SchemaD) (scs : List Value) (a : Option Addr) (n c : Nat) (xs : List CellD) (w : World) (hp : PredR (d + 1) w cs p) (hs : SchemaR w scs s) (hfl : s.fields.length ≤ 1000) (hst : Sl 3 CellR w a n xs) (hn : n ≤ 1000) (hsz : ∀ x ∈ xs, x.s.size ≤ 100000) (ho : p.op = 6) :
    Calls Try.prog 20 #[.agg cs.toArray, .agg scs.toArray, .slice a n c] w (ValIs (.int .i64 (evalN s.fields xs (d + 1) p : Nat)) w) := by
  have HSC := Lib.hid hs
  obtain ⟨ka, kn, kc, rfl, hk1, hk2, hk3, hkids, hpo, hpf, hpv⟩ := hp
  obtain ⟨fa, fnn, fc, rfl, hs1, hs2, hs3, hfs, hs4⟩ := hs
  have HK := Lib.hid hkids
  have HKL := Lib.hid hkids.1
  have HFL := Lib.hid hfl
  have HST := Lib.hid hst
  have HSTL := Lib.hid hst.1
  have HSIZE := Lib.hid hsz
  have HIH := Lib.hid ih
  have HPV := Lib.hid hpv
  have hkn : kn ≤ 9223372036854775807 := by unfold maxLen at hk2; omega
  clear ih hkids hfs hst hs3 hs4 hk3 hfl hpf hpv hk2 hs2 hsz
  have hoi : (p.op : Int) = 6 := by omega
  obtain ⟨R, hR⟩ : ∃ R, evalN s.fields xs (d + 1) p = R := ⟨_, rfl⟩
  rw [hR]
  unfold evalN at hR
  rw [if_pos ho] at hR
  have hR2 : accE min s.fields xs d 2 p.kids = R := hR
  have HR := Lib.hid hR2
  have hle := accE_le (g := min) (fs := s.fields) (row := xs) (d := d) (fun a b h1 h2 => by omega) (evalN_le s.fields xs d)
  have HLE := Lib.hid (fun k => hle (p.kids.take k) 2 (by omega))
  have HEL := Lib.hid (evalN_le s.fields xs d)
  rw [hoi]
  clear hR hR2 hle ho hoi
  go_enter Try.func20, Try.ntmps20
  go_wp2
  obtain ⟨W0, hWW⟩ : ∃ W0 : World, W0 = ((w.alloc (.cells #[.int .u8 6, .int .u32 (p.field : Int), .int .u8 p.value.kind, .int .i64 p.value.n, .string p.value.s, .slice ka kn kc] 42)).alloc (.cells #[.int .u32 (s.id : Int), .slice fa fnn fc] 37)) := ⟨_, rfl⟩
  have hm : Mem w.heap.size [#[.int .u8 6, .int .u32 (p.field : Int), .int .u8 p.value.kind, .int .i64 p.value.n, .string p.value.s, .slice ka kn kc], #[.int .u32 (s.id : Int), .slice fa fnn fc]] w W0 := by rw [hWW]; exact (((Mem.nil w).push (by simp) #[.int .u8 6, .int .u32 (p.field : Int), .int .u8 p.value.kind, .int .i64 p.value.n, .string p.value.s, .slice ka kn kc] 42).push (by simp) #[.int .u32 (s.id : Int), .slice fa fnn fc] 37)
  rw [← hWW]
  clear hWW
  have M0 := Lib.hid hm
  clear hm
  go_loopw [7, 8] (fun c i wr => ∃ (k m : Nat), k ≤ kn ∧ m ≤ 2 ∧ m = accE min s.fields xs d 2 (p.kids.take k) ∧ c = .int .i64 (m : Int) ∧ i = .int .i64 (k : Int) ∧ Mem w.heap.size [#[.int .u8 6, .int .u32 (p.field : Int), .int .u8 p.value.kind, .int .i64 p.value.n, .string p.value.s, .slice ka kn kc], #[.int .u32 (s.id : Int), .slice fa fnn fc]] w wr) (fun _ i _ => kn - (intOf i).toNat)
  case atStart => exact ⟨0, 2, Nat.zero_le _, by omega, rfl, rfl, rfl, M0.out⟩
  case round =>
    obtain ⟨k, m, hk, hm2, hmv, rfl, rfl, hm⟩ := hrel
    have M1 := Lib.hid hm
    have HMV := Lib.hid hmv
    have hk0 : (0 : Int) ≤ (k : Int) := by omega
    clear hm hmv
    have q0_5 : wr.cell? ⟨w.heap.size, 5, none⟩ = some (.slice ka kn kc) := M1.out.cell 0 5 rfl rfl
    by_cases hlt : k < kn
    · have hkn' : (k : Int) < (kn : Int) := by omega
      obtain ⟨b, off, x, kcs, rfl, hbl, hx, hcl, hxr, hcell⟩ := HK.out.at_ hlt
      have HXR := Lib.hid hxr
      obtain ⟨xa, xn, xc, hkcs⟩ := hxr.shape
      subst hkcs
      have HX := Lib.hid (show m = accE min s.fields xs d 2 (p.kids.take k) → min m (evalN s.fields xs d x) = accE min s.fields xs d 2 (p.kids.take (k + 1)) from fun h => by rw [accE_succ hx, ← h])
      have hxle := HEL.out x
      have hcm : ∀ G : Kept wr, Calls Try.prog 20 #[.agg #[.int .u8 (x.op : Int), .int .u32 (x.field : Int), .int .u8 x.value.kind, .int .i64 x.value.n, .string x.value.s, .slice xa xn xc], .agg #[.int .u32 (s.id : Int), .slice fa fnn fc], .slice a n c] G.W (ValIs (.int .i64 (evalN s.fields xs d x : Nat)) G.W) := fun G => by
        have hbw := (M1.out.call G.h).below
        exact HIH.out x _ s _ a n c xs G.W ((PredR.stable d) _ _ _ _ hbw HXR.out) (SchemaR.stable _ _ _ _ hbw HSC.out) HFL.out (HST.out.below CellR.stable hbw) hn HSIZE.out
      generalize evalN s.fields xs d x = ex at *
      have HCM := Lib.hid hcm
      have e0 := M1.out.old (p := ⟨b, off + k * 6 + 0, none⟩) hbl (hcell 0 _ rfl)
      have e1 := M1.out.old (p := ⟨b, off + k * 6 + 1, none⟩) hbl (hcell 1 _ rfl)
      have e2 := M1.out.old (p := ⟨b, off + k * 6 + 2, none⟩) hbl (hcell 2 _ rfl)
      have e3 := M1.out.old (p := ⟨b, off + k * 6 + 3, none⟩) hbl (hcell 3 _ rfl)
      have e4 := M1.out.old (p := ⟨b, off + k * 6 + 4, none⟩) hbl (hcell 4 _ rfl)
      have e5 := M1.out.old (p := ⟨b, off + k * 6 + 5, none⟩) hbl (hcell 5 _ rfl)
      rw [Nat.add_zero] at e0
      have q1_0 : wr.cell? ⟨w.heap.size + 1, 0, none⟩ = some (.int .u32 (s.id : Int)) := M1.out.cell 1 0 rfl rfl
      have q1_1 : wr.cell? ⟨w.heap.size + 1, 1, none⟩ = some (.slice fa fnn fc) := M1.out.cell 1 1 rfl rfl
      have ke0 := kept_cell e0
      have ke1 := kept_cell e1
      have ke2 := kept_cell e2
      have ke3 := kept_cell e3
      have ke4 := kept_cell e4
      have ke5 := kept_cell e5
      have kq5 := kept_cell q0_5
      have ky0 := kept_cell q1_0
      have ky1 := kept_cell q1_1
      have hmm : min (m : Int) (ex : Int) = ((min m ex : Nat) : Int) := by omega
      have HMM := Lib.hid hmm
      clear hcell hx hxr hcl hcm hmm
      go_upto_region 7 with fail
      refine wp_region_kept (by kernel_rfl) (by kernel_rfl) ?_
      repeat (go_big_quiet_step (first | (go_at_call 20; with_reducible exact kept_call (HCM.out _))))
      refine wpQuiet_nil ?_
      intro W2 hb2
      have M2 := Lib.hid (M1.out.call hb2)
      clear hb2 q0_5 kq5 q1_0 ky0 q1_1 ky1 e0 e1 e2 e3 e4 e5 ke0 ke1 ke2 ke3 ke4 ke5
      go_wp2
      go_roundw
      case rel =>
        refine ⟨k + 1, min m ex, by omega, by omega, HX.out HMV.out, ?_, by go_num, M2.out⟩
        first | rfl | (simp; done) | (rw [← HMM.out]; done) | (rw [← HMM.out]; rfl) | (congr 1; omega)
      case measure => simp [intOf] <;> omega
    · obtain rfl : k = kn := by omega
      have hall : p.kids.take k = p.kids := List.take_of_length_le (by have := HKL.out; omega)
      have HALL := Lib.hid hall
      clear hall
      go_wp2
      go_ret
      exact ⟨by rw [HMV.out, HALL.out, HR.out]; rfl, M1.out.below⟩
set_option maxRecDepth 100000 in
set_option maxHeartbeats 16000000 in
theorem eval_or (d : Nat) (ih : EvalHyp d) (p : PredD) (cs : List Value) (s : SchemaD) (scs : List Value) (a : Option Addr) (n c : Nat) (xs : List CellD) (w : World) (hp : PredR (d + 1) w cs p) (hs : SchemaR w scs s) (hfl : s.fields.length ≤ 1000) (hst : Sl 3 CellR w a n xs) (hn : n ≤ 1000) (hsz : ∀ x ∈ xs, x.s.size ≤ 100000) (ho : p.op = 7) :
    Calls Try.prog 20 #[.agg cs.toArray, .agg scs.toArray, .slice a n c] w (ValIs (.int .i64 (evalN s.fields xs (d + 1) p : Nat)) w) := by
  have HSC := Lib.hid hs
  obtain ⟨ka, kn, kc, rfl, hk1, hk2, hk3, hkids, hpo, hpf, hpv⟩ := hp
  obtain ⟨fa, fnn, fc, rfl, hs1, hs2, hs3, hfs, hs4⟩ := hs
  have HK := Lib.hid hkids
  have HKL := Lib.hid hkids.1
  have HFL := Lib.hid hfl
  have HST := Lib.hid hst
  have HSTL := Lib.hid hst.1
  have HSIZE := Lib.hid hsz
  have HIH := Lib.hid ih
  have HPV := Lib.hid hpv
  have hkn : kn ≤ 9223372036854775807 := by unfold maxLen at hk2; omega
  clear ih hkids hfs hst hs3 hs4 hk3 hfl hpf hpv hk2 hs2 hsz
  have hoi : (p.op : Int) = 7 := by omega
  obtain ⟨R, hR⟩ : ∃ R, evalN s.fields xs (d + 1) p = R := ⟨_, rfl⟩
  rw [hR]
  unfold evalN at hR
  rw [if_neg (by omega), if_pos ho] at hR
  have hR2 : accE max s.fields xs d 0 p.kids = R := hR
  have HR := Lib.hid hR2
  have hle := accE_le (g := max) (fs := s.fields) (row := xs) (d := d) (fun a b h1 h2 => by omega) (evalN_le s.fields xs d)
  have HLE := Lib.hid (fun k => hle (p.kids.take k) 0 (by omega))
  have HEL := Lib.hid (evalN_le s.fields xs d)
  rw [hoi]
  clear hR hR2 hle ho hoi
  go_enter Try.func20, Try.ntmps20
  go_wp2
  obtain ⟨W0, hWW⟩ : ∃ W0 : World, W0 = ((w.alloc (.cells #[.int .u8 7, .int .u32 (p.field : Int), .int .u8 p.value.kind, .int .i64 p.value.n, .string p.value.s, .slice ka kn kc] 42)).alloc (.cells #[.int .u32 (s.id : Int), .slice fa fnn fc] 37)) := ⟨_, rfl⟩
  have hm : Mem w.heap.size [#[.int .u8 7, .int .u32 (p.field : Int), .int .u8 p.value.kind, .int .i64 p.value.n, .string p.value.s, .slice ka kn kc], #[.int .u32 (s.id : Int), .slice fa fnn fc]] w W0 := by rw [hWW]; exact (((Mem.nil w).push (by simp) #[.int .u8 7, .int .u32 (p.field : Int), .int .u8 p.value.kind, .int .i64 p.value.n, .string p.value.s, .slice ka kn kc] 42).push (by simp) #[.int .u32 (s.id : Int), .slice fa fnn fc] 37)
  rw [← hWW]
  clear hWW
  have M0 := Lib.hid hm
  clear hm
  go_loopw [9, 10] (fun c i wr => ∃ (k m : Nat), k ≤ kn ∧ m ≤ 2 ∧ m = accE max s.fields xs d 0 (p.kids.take k) ∧ c = .int .i64 (m : Int) ∧ i = .int .i64 (k : Int) ∧ Mem w.heap.size [#[.int .u8 7, .int .u32 (p.field : Int), .int .u8 p.value.kind, .int .i64 p.value.n, .string p.value.s, .slice ka kn kc], #[.int .u32 (s.id : Int), .slice fa fnn fc]] w wr) (fun _ i _ => kn - (intOf i).toNat)
  case atStart => exact ⟨0, 0, Nat.zero_le _, by omega, rfl, rfl, rfl, M0.out⟩
  case round =>
    obtain ⟨k, m, hk, hm2, hmv, rfl, rfl, hm⟩ := hrel
    have M1 := Lib.hid hm
    have HMV := Lib.hid hmv
    have hk0 : (0 : Int) ≤ (k : Int) := by omega
    clear hm hmv
    have q0_5 : wr.cell? ⟨w.heap.size, 5, none⟩ = some (.slice ka kn kc) := M1.out.cell 0 5 rfl rfl
    by_cases hlt : k < kn
    · have hkn' : (k : Int) < (kn : Int) := by omega
      obtain ⟨b, off, x, kcs, rfl, hbl, hx, hcl, hxr, hcell⟩ := HK.out.at_ hlt
      have HXR := Lib.hid hxr
      obtain ⟨xa, xn, xc, hkcs⟩ := hxr.shape
      subst hkcs
      have HX := Lib.hid (show m = accE max s.fields xs d 0 (p.kids.take k) → max m (evalN s.fields xs d x) = accE max s.fields xs d 0 (p.kids.take (k + 1)) from fun h => by rw [accE_succ hx, ← h])
      have hxle := HEL.out x
      have hcm : ∀ G : Kept wr, Calls Try.prog 20 #[.agg #[.int .u8 (x.op : Int), .int .u32 (x.field : Int), .int .u8 x.value.kind, .int .i64 x.value.n, .string x.value.s, .slice xa xn xc], .agg #[.int .u32 (s.id : Int), .slice fa fnn fc], .slice a n c] G.W (ValIs (.int .i64 (evalN s.fields xs d x : Nat)) G.W) := fun G => by
        have hbw := (M1.out.call G.h).below
        exact HIH.out x _ s _ a n c xs G.W ((PredR.stable d) _ _ _ _ hbw HXR.out) (SchemaR.stable _ _ _ _ hbw HSC.out) HFL.out (HST.out.below CellR.stable hbw) hn HSIZE.out
      generalize evalN s.fields xs d x = ex at *
      have HCM := Lib.hid hcm
      have e0 := M1.out.old (p := ⟨b, off + k * 6 + 0, none⟩) hbl (hcell 0 _ rfl)
      have e1 := M1.out.old (p := ⟨b, off + k * 6 + 1, none⟩) hbl (hcell 1 _ rfl)
      have e2 := M1.out.old (p := ⟨b, off + k * 6 + 2, none⟩) hbl (hcell 2 _ rfl)
      have e3 := M1.out.old (p := ⟨b, off + k * 6 + 3, none⟩) hbl (hcell 3 _ rfl)
      have e4 := M1.out.old (p := ⟨b, off + k * 6 + 4, none⟩) hbl (hcell 4 _ rfl)
      have e5 := M1.out.old (p := ⟨b, off + k * 6 + 5, none⟩) hbl (hcell 5 _ rfl)
      rw [Nat.add_zero] at e0
      have q1_0 : wr.cell? ⟨w.heap.size + 1, 0, none⟩ = some (.int .u32 (s.id : Int)) := M1.out.cell 1 0 rfl rfl
      have q1_1 : wr.cell? ⟨w.heap.size + 1, 1, none⟩ = some (.slice fa fnn fc) := M1.out.cell 1 1 rfl rfl
      have ke0 := kept_cell e0
      have ke1 := kept_cell e1
      have ke2 := kept_cell e2
      have ke3 := kept_cell e3
      have ke4 := kept_cell e4
      have ke5 := kept_cell e5
      have kq5 := kept_cell q0_5
      have ky0 := kept_cell q1_0
      have ky1 := kept_cell q1_1
      have hmm : max (m : Int) (ex : Int) = ((max m ex : Nat) : Int) := by omega
      have HMM := Lib.hid hmm
      clear hcell hx hxr hcl hcm hmm
      go_upto_region 14 with fail
      refine wp_region_kept (by kernel_rfl) (by kernel_rfl) ?_
      repeat (go_big_quiet_step (first | (go_at_call 20; with_reducible exact kept_call (HCM.out _))))
      refine wpQuiet_nil ?_
      intro W2 hb2
      have M2 := Lib.hid (M1.out.call hb2)
      clear hb2 q0_5 kq5 q1_0 ky0 q1_1 ky1 e0 e1 e2 e3 e4 e5 ke0 ke1 ke2 ke3 ke4 ke5
      go_wp2
      go_roundw
      case rel =>
        refine ⟨k + 1, max m ex, by omega, by omega, HX.out HMV.out, ?_, by go_num, M2.out⟩
        first | rfl | (simp; done) | (rw [← HMM.out]; done) | (rw [← HMM.out]; rfl) | (congr 1; omega)
      case measure => simp [intOf] <;> omega
    · obtain rfl : k = kn := by omega
      have hall : p.kids.take k = p.kids := List.take_of_length_le (by have := HKL.out; omega)
      have HALL := Lib.hid hall
      clear hall
      go_wp2
      go_ret
      exact ⟨by rw [HMV.out, HALL.out, HR.out]; rfl, M1.out.below⟩
set_option maxRecDepth 100000 in
set_option maxHeartbeats 16000000 in
theorem eval_not (d : Nat) (ih : EvalHyp d) (p : PredD) (cs : List Value) (s : SchemaD) (scs : List Value) (a : Option Addr) (n c : Nat) (xs : List CellD) (w : World) (hp : PredR (d + 1) w cs p) (hs : SchemaR w scs s) (hfl : s.fields.length ≤ 1000) (hst : Sl 3 CellR w a n xs) (hn : n ≤ 1000) (hsz : ∀ x ∈ xs, x.s.size ≤ 100000) (ho : p.op = 8) :
    Calls Try.prog 20 #[.agg cs.toArray, .agg scs.toArray, .slice a n c] w (ValIs (.int .i64 (evalN s.fields xs (d + 1) p : Nat)) w) := by
  have HSC := Lib.hid hs
  obtain ⟨ka, kn, kc, rfl, hk1, hk2, hk3, hkids, hpo, hpf, hpv⟩ := hp
  obtain ⟨fa, fnn, fc, rfl, hs1, hs2, hs3, hfs, hs4⟩ := hs
  have HK := Lib.hid hkids
  have HKL := Lib.hid hkids.1
  have HFL := Lib.hid hfl
  have HST := Lib.hid hst
  have HSTL := Lib.hid hst.1
  have HSIZE := Lib.hid hsz
  have HIH := Lib.hid ih
  have HPV := Lib.hid hpv
  have hkn : kn ≤ 9223372036854775807 := by unfold maxLen at hk2; omega
  clear ih hkids hfs hst hs3 hs4 hk3 hfl hpf hpv hk2 hs2 hsz
  have hoi : (p.op : Int) = 8 := by omega
  obtain ⟨R, hR⟩ : ∃ R, evalN s.fields xs (d + 1) p = R := ⟨_, rfl⟩
  rw [hR]
  unfold evalN at hR
  rw [if_neg (by omega), if_neg (by omega), if_pos ho] at hR
  rw [hoi]
  by_cases hk0 : kn = 0
  · subst hk0
    have hnil : p.kids = [] := List.eq_nil_of_length_eq_zero HKL.out
    rw [hnil] at hR
    have HR := Lib.hid hR
    clear hR hnil ho hoi
    go_enter Try.func20, Try.ntmps20
    go_wp2
    go_ret
    refine ⟨by rw [← HR.out]; rfl, ?_⟩
    repeat (first | exact Below.refl _ _ | refine Below.setCell ?_ (by simp <;> omega) _ | refine Below.alloc ?_ (by simp <;> omega) _)
  · obtain ⟨b, off, x, kcs, rfl, hbl, hx, hcl, hr, hcell⟩ := HK.out.at_ (i := 0) (by omega)
    obtain ⟨ys, hkx⟩ : ∃ xs, p.kids = x :: xs := by
      cases hq : p.kids with
      | nil => rw [hq] at hx; cases hx
      | cons y ys => rw [hq] at hx; simp at hx; subst hx; exact ⟨ys, rfl⟩
    rw [hkx] at hR
    obtain ⟨E0, hE0⟩ : ∃ M0, evalN s.fields xs d x = M0 := ⟨_, rfl⟩
    have hml := evalN_le s.fields xs d x
    simp only [hE0] at hR
    rw [hE0] at hml
    have HR := Lib.hid hR
    obtain ⟨xa, xn, xc, hkcs⟩ := hr.shape
    subst hkcs
    have HKR := Lib.hid hr
    have HCELL := Lib.hid hcell
    have hk0i : ((kn : Int) == 0) = false := by rw [beq_eq_false_iff_ne]; omega
    have hk0j : (0 : Int) < (kn : Int) := by omega
    clear hR hkx hr hcell hx hcl ho hoi hk0
    go_enter Try.func20, Try.ntmps20
    go_wp2_with fail
    obtain ⟨W0, hWW⟩ : ∃ W0 : World, W0 = ((w.alloc (.cells #[.int .u8 8, .int .u32 (p.field : Int), .int .u8 p.value.kind, .int .i64 p.value.n, .string p.value.s, .slice (some ⟨b, off, none⟩) kn kc] 42)).alloc (.cells #[.int .u32 (s.id : Int), .slice fa fnn fc] 37)) := ⟨_, rfl⟩
    have hm : Mem w.heap.size [#[.int .u8 8, .int .u32 (p.field : Int), .int .u8 p.value.kind, .int .i64 p.value.n, .string p.value.s, .slice (some ⟨b, off, none⟩) kn kc], #[.int .u32 (s.id : Int), .slice fa fnn fc]] w W0 := by rw [hWW]; exact (((Mem.nil w).push (by simp) #[.int .u8 8, .int .u32 (p.field : Int), .int .u8 p.value.kind, .int .i64 p.value.n, .string p.value.s, .slice (some ⟨b, off, none⟩) kn kc] 42).push (by simp) #[.int .u32 (s.id : Int), .slice fa fnn fc] 37)
    rw [← hWW]
    clear hWW
    have M0 := Lib.hid hm
    clear hm
    have hcm : ∀ G : Kept W0, Calls Try.prog 20 #[.agg #[.int .u8 (x.op : Int), .int .u32 (x.field : Int), .int .u8 x.value.kind, .int .i64 x.value.n, .string x.value.s, .slice xa xn xc], .agg #[.int .u32 (s.id : Int), .slice fa fnn fc], .slice a n c] G.W (ValIs (.int .i64 (E0 : Int)) G.W) := fun G => by
      have hbw := (M0.out.call G.h).below
      rw [← hE0]
      exact HIH.out x _ s _ a n c xs G.W ((PredR.stable d) _ _ _ _ hbw HKR.out) (SchemaR.stable _ _ _ _ hbw HSC.out) HFL.out (HST.out.below CellR.stable hbw) hn HSIZE.out
    have HCM := Lib.hid hcm
    have e0 := M0.out.old (p := ⟨b, off + 0 * 6 + 0, none⟩) hbl (HCELL.out 0 _ rfl)
    have e1 := M0.out.old (p := ⟨b, off + 0 * 6 + 1, none⟩) hbl (HCELL.out 1 _ rfl)
    have e2 := M0.out.old (p := ⟨b, off + 0 * 6 + 2, none⟩) hbl (HCELL.out 2 _ rfl)
    have e3 := M0.out.old (p := ⟨b, off + 0 * 6 + 3, none⟩) hbl (HCELL.out 3 _ rfl)
    have e4 := M0.out.old (p := ⟨b, off + 0 * 6 + 4, none⟩) hbl (HCELL.out 4 _ rfl)
    have e5 := M0.out.old (p := ⟨b, off + 0 * 6 + 5, none⟩) hbl (HCELL.out 5 _ rfl)
    simp only [Nat.zero_mul, Nat.add_zero] at e0 e1 e2 e3 e4 e5
    have p5 : W0.cell? ⟨w.heap.size, 5, none⟩ = some (.slice (some ⟨b, off, none⟩) kn kc) := M0.out.cell 0 5 rfl rfl
    have q1_0 : W0.cell? ⟨w.heap.size + 1, 0, none⟩ = some (.int .u32 (s.id : Int)) := M0.out.cell 1 0 rfl rfl
    have q1_1 : W0.cell? ⟨w.heap.size + 1, 1, none⟩ = some (.slice fa fnn fc) := M0.out.cell 1 1 rfl rfl
    have kx0 := kept_cell e0
    have kx1 := kept_cell e1
    have kx2 := kept_cell e2
    have kx3 := kept_cell e3
    have kx4 := kept_cell e4
    have kx5 := kept_cell e5
    have kp5 := kept_cell p5
    have ky0 := kept_cell q1_0
    have ky1 := kept_cell q1_1
    have hsub : IntKind.i64.wrap (2 - (E0 : Int)) = 2 - (E0 : Int) := IntWalk.i64_in _ (by omega)
    clear hcm hE0
    go_upto_region 19 with fail
    refine wp_region_kept (by kernel_rfl) (by kernel_rfl) ?_
    repeat (go_big_quiet_step (first | (go_at_call 20; with_reducible exact kept_call (HCM.out _))))
    refine wpQuiet_nil ?_
    intro W2 hb2
    have HB2 := Lib.hid ((M0.out.call hb2).below)
    clear hb2 e0 kx0 e1 kx1 e2 kx2 e3 kx3 e4 kx4 e5 kx5 p5 kp5 q1_0 ky0 q1_1 ky1
    go_wp2
    go_ret
    refine ⟨?_, HB2.out⟩
    rw [← HR.out]
    have he : ((2 - E0 : Nat) : Int) = 2 - (E0 : Int) := by omega
    rw [he]
    rfl
set_option maxRecDepth 100000 in
set_option maxHeartbeats 16000000 in
theorem eval_leaf (d : Nat) (ih : EvalHyp d) (p : PredD) (cs : List Value) (s : SchemaD) (scs : List Value) (a : Option Addr) (n c : Nat) (xs : List CellD) (w : World) (hp : PredR (d + 1) w cs p) (hs : SchemaR w scs s) (hfl : s.fields.length ≤ 1000) (hst : Sl 3 CellR w a n xs) (hn : n ≤ 1000) (hsz : ∀ x ∈ xs, x.s.size ≤ 100000) (h6 : p.op ≠ 6) (h7 : p.op ≠ 7) (h8 : p.op ≠ 8) :
    Calls Try.prog 20 #[.agg cs.toArray, .agg scs.toArray, .slice a n c] w (ValIs (.int .i64 (evalN s.fields xs (d + 1) p : Nat)) w) := by
  have HSC := Lib.hid hs
  obtain ⟨ka, kn, kc, rfl, hk1, hk2, hk3, hkids, hpo, hpf, hpv⟩ := hp
  obtain ⟨fa, fnn, fc, rfl, hs1, hs2, hs3, hfs, hs4⟩ := hs
  have HK := Lib.hid hkids
  have HKL := Lib.hid hkids.1
  have HFL := Lib.hid hfl
  have HST := Lib.hid hst
  have HSTL := Lib.hid hst.1
  have HSIZE := Lib.hid hsz
  have HIH := Lib.hid ih
  have HPV := Lib.hid hpv
  have hkn : kn ≤ 9223372036854775807 := by unfold maxLen at hk2; omega
  clear ih hkids hfs hst hs3 hs4 hk3 hfl hpf hpv hk2 hs2 hsz
  have h6i : ((p.op : Int) == 6) = false := by rw [beq_eq_false_iff_ne]; omega
  have h7i : ((p.op : Int) == 7) = false := by rw [beq_eq_false_iff_ne]; omega
  have h8i : ((p.op : Int) == 8) = false := by rw [beq_eq_false_iff_ne]; omega
  obtain ⟨R, hR⟩ : ∃ R, evalN s.fields xs (d + 1) p = R := ⟨_, rfl⟩
  rw [hR]
  unfold evalN at hR
  rw [if_neg h6, if_neg h7, if_neg h8] at hR
  unfold leafF at hR
  have hpl := fun (W : World) (h : SchemaR W [.int .u32 (s.id : Int), .slice fa fnn fc] s) => refplace_calls _ s p.field W h HFL.out
  have hran := idxF_lt (hasId p.field) s.fields
  have hrn : placeI s.fields p.field = idxF (hasId p.field) s.fields := rfl
  rw [← hrn] at hran
  clear hrn h6 h7 h8 HK HKL HIH
  generalize placeI s.fields p.field = i at *
  have HPL := Lib.hid hpl
  clear hpl
  unfold IntBelow at HPL
  by_cases hi : i < 0
  · rw [if_pos hi] at hR
    have HR := Lib.hid hR
    clear hR
    go_enter Try.func20, Try.ntmps20
    go_wp2_with fail
    obtain ⟨W0, hWW⟩ : ∃ W0 : World, W0 = ((w.alloc (.cells #[.int .u8 (p.op : Int), .int .u32 (p.field : Int), .int .u8 p.value.kind, .int .i64 p.value.n, .string p.value.s, .slice ka kn kc] 42)).alloc (.cells #[.int .u32 (s.id : Int), .slice fa fnn fc] 37)) := ⟨_, rfl⟩
    have hm : Mem w.heap.size [#[.int .u8 (p.op : Int), .int .u32 (p.field : Int), .int .u8 p.value.kind, .int .i64 p.value.n, .string p.value.s, .slice ka kn kc], #[.int .u32 (s.id : Int), .slice fa fnn fc]] w W0 := by rw [hWW]; exact (((Mem.nil w).push (by simp) #[.int .u8 (p.op : Int), .int .u32 (p.field : Int), .int .u8 p.value.kind, .int .i64 p.value.n, .string p.value.s, .slice ka kn kc] 42).push (by simp) #[.int .u32 (s.id : Int), .slice fa fnn fc] 37)
    rw [← hWW]
    clear hWW
    have M0 := Lib.hid hm
    clear hm
    refine (HPL.out _ (SchemaR.stable _ _ _ _ M0.out.below HSC.out)).mono ?_
    rintro e w1 ⟨rfl, hb⟩
    have M1 := Lib.hid (M0.out.call hb)
    clear hb
    go_wp2
    go_ret
    exact ⟨by rw [← HR.out]; rfl, M1.out.below⟩
  · rw [if_neg hi] at hR
    obtain ⟨m, rfl⟩ : ∃ m : Nat, i = (m : Int) := ⟨i.toNat, by omega⟩
    rw [Int.toNat_natCast] at hR
    have him : (0 : Int) ≤ (m : Int) := by omega
    clear hi
    by_cases hmn : m < n
    · obtain ⟨b, off, st, scs, rfl, hbl, hx, hcl, hr, hcell⟩ := HST.out.at_ hmn
      obtain ⟨rfl, _⟩ := hr
      rw [hx] at hR
      obtain ⟨_, ⟨hk3, _⟩, _⟩ := HPV.out
      have hmni : (m : Int) < (n : Int) := by omega
      have HXS := Lib.hid (HSIZE.out st (List.mem_of_getElem? hx))
      obtain ⟨xk, xn, xt⟩ := st
      have HCELL := Lib.hid hcell
      have HR0 := Lib.hid (show fitsF p.op (fix p.value) ⟨xk, xn, xt⟩ = R from hR)
      have hless := refLess
      unfold CellD.cells at hless
      have HLESS := Lib.hid hless
      clear hR hcell hx hcl hless
      go_enter Try.func20, Try.ntmps20
      go_wp2_with fail
      obtain ⟨W0, hWW⟩ : ∃ W0 : World, W0 = ((w.alloc (.cells #[.int .u8 (p.op : Int), .int .u32 (p.field : Int), .int .u8 p.value.kind, .int .i64 p.value.n, .string p.value.s, .slice ka kn kc] 42)).alloc (.cells #[.int .u32 (s.id : Int), .slice fa fnn fc] 37)) := ⟨_, rfl⟩
      have hm : Mem w.heap.size [#[.int .u8 (p.op : Int), .int .u32 (p.field : Int), .int .u8 p.value.kind, .int .i64 p.value.n, .string p.value.s, .slice ka kn kc], #[.int .u32 (s.id : Int), .slice fa fnn fc]] w W0 := by rw [hWW]; exact (((Mem.nil w).push (by simp) #[.int .u8 (p.op : Int), .int .u32 (p.field : Int), .int .u8 p.value.kind, .int .i64 p.value.n, .string p.value.s, .slice ka kn kc] 42).push (by simp) #[.int .u32 (s.id : Int), .slice fa fnn fc] 37)
      rw [← hWW]
      clear hWW
      have M0 := Lib.hid hm
      clear hm
      refine (HPL.out _ (SchemaR.stable _ _ _ _ M0.out.below HSC.out)).mono ?_
      rintro e w1 ⟨rfl, hb⟩
      have M1 := Lib.hid (M0.out.call hb)
      clear hb
      have d0 := M1.out.old (p := ⟨b, off + m * 3 + 0, none⟩) hbl (HCELL.out 0 _ rfl)
      have d1 := M1.out.old (p := ⟨b, off + m * 3 + 1, none⟩) hbl (HCELL.out 1 _ rfl)
      have d2 := M1.out.old (p := ⟨b, off + m * 3 + 2, none⟩) hbl (HCELL.out 2 _ rfl)
      rw [Nat.add_zero] at d0
      go_upto_region 24 with fail
      obtain ⟨W2, hWW⟩ : ∃ W : World, W = w1.alloc (.cells #[.int .u8 xk, .int .i64 xn, .string xt] 26) := ⟨_, rfl⟩
      have hm2 := M1.out.alloc (.cells #[.int .u8 xk, .int .i64 xn, .string xt] 26)
      have hx2 : Box W2 w1.heap.size #[.int .u8 xk, .int .i64 xn, .string xt] := by rw [hWW]; exact Box.new _ _ _
      rw [← hWW] at hm2 ⊢
      clear hWW
      have M2 := Lib.hid hm2
      have X2 := Lib.hid hx2
      clear hm2 hx2 d0 d1 d2
      have q0 : W2.cell? ⟨w.heap.size, 0, none⟩ = some (.int .u8 (p.op : Int)) := M2.out.cell 0 0 rfl rfl
      have x0 : W2.cell? ⟨w1.heap.size, 0, none⟩ = some (.int .u8 xk) := X2.out.cell 0 rfl
      by_cases h5 : p.op = 5
      · have hoi : (p.op : Int) = 5 := by omega
        rw [hoi] at q0
        have hR3 : fitsF p.op (fix p.value) ⟨xk, xn, xt⟩ = R := HR0.out
        unfold fitsF at hR3
        rw [if_pos h5] at hR3
        by_cases hx0 : xk = 0
        · rw [if_pos hx0] at hR3
          have HR := Lib.hid hR3
          subst hx0
          clear hR3 hoi
          go_wp2_with fail
          refine (is9_true _).mono ?_
          rintro e w6 ⟨rfl, rfl⟩
          go_wp2
          go_ret
          exact ⟨by rw [← HR.out]; rfl, M2.out.below⟩
        · rw [if_neg hx0] at hR3
          have HR := Lib.hid hR3
          have hxb : (xk == 0) = false := by rw [beq_eq_false_iff_ne]; exact hx0
          clear hR3 hoi
          go_wp2_with fail
          refine (is9_false _).mono ?_
          rintro e w6 ⟨rfl, rfl⟩
          go_wp2
          go_ret
          exact ⟨by rw [← HR.out]; rfl, M2.out.below⟩
      · have o5 : ((p.op : Int) == 5) = false := by rw [beq_eq_false_iff_ne]; omega
        by_cases hx0 : xk = 0
        · have hR3 : fitsF p.op (fix p.value) ⟨xk, xn, xt⟩ = R := HR0.out
          unfold fitsF at hR3
          rw [if_neg h5, if_pos hx0] at hR3
          have HR := Lib.hid hR3
          subst hx0
          clear hR3
          go_wp2
          go_ret
          exact ⟨by rw [← HR.out]; rfl, M2.out.below⟩
        · have hxb : (xk == 0) = false := by rw [beq_eq_false_iff_ne]; exact hx0
          have q2 : W2.cell? ⟨w.heap.size, 2, none⟩ = some (.int .u8 p.value.kind) := M2.out.cell 0 2 rfl rfl
          have q3 : W2.cell? ⟨w.heap.size, 3, none⟩ = some (.int .i64 p.value.n) := M2.out.cell 0 3 rfl rfl
          have q4 : W2.cell? ⟨w.heap.size, 4, none⟩ = some (.string p.value.s) := M2.out.cell 0 4 rfl rfl
          have HVS := Lib.hid (fix_size p.value)
          have hfx := fix_calls p.value hk3
          unfold CellD.cells at hfx
          have HFX := Lib.hid hfx
          clear hfx
          generalize fix p.value = fv at *
          obtain ⟨vk, vn, vs⟩ := fv
          go_wp2_with fail
          refine (HFX.out _).mono ?_
          rintro e w3 ⟨rfl, hb3⟩
          have M3 := Lib.hid (M2.out.call hb3)
          have X3 := Lib.hid (X2.out.call hb3)
          clear hb3 q0 x0 q2 q3 q4
          go_upto_region 29 with fail
          obtain ⟨W4, hWW⟩ : ∃ W : World, W = w3.alloc (.cells #[.int .u8 vk, .int .i64 vn, .string vs] 26) := ⟨_, rfl⟩
          have hm4 := M3.out.alloc (.cells #[.int .u8 vk, .int .i64 vn, .string vs] 26)
          have hx4 := X3.out.alloc (.cells #[.int .u8 vk, .int .i64 vn, .string vs] 26)
          have hv4 : Box W4 w3.heap.size #[.int .u8 vk, .int .i64 vn, .string vs] := by rw [hWW]; exact Box.new _ _ _
          rw [← hWW] at hm4 hx4 ⊢
          clear hWW
          have M4 := Lib.hid hm4
          have X4 := Lib.hid hx4
          have V4 := Lib.hid hv4
          clear hm4 hx4 hv4
          have q0 : W4.cell? ⟨w.heap.size, 0, none⟩ = some (.int .u8 (p.op : Int)) := M4.out.cell 0 0 rfl rfl
          have x0 : W4.cell? ⟨w1.heap.size, 0, none⟩ = some (.int .u8 xk) := X4.out.cell 0 rfl
          have x1 : W4.cell? ⟨w1.heap.size, 1, none⟩ = some (.int .i64 xn) := X4.out.cell 1 rfl
          have x2 : W4.cell? ⟨w1.heap.size, 2, none⟩ = some (.string xt) := X4.out.cell 2 rfl
          have v0 : W4.cell? ⟨w3.heap.size, 0, none⟩ = some (.int .u8 vk) := V4.out.cell 0 rfl
          have v1 : W4.cell? ⟨w3.heap.size, 1, none⟩ = some (.int .i64 vn) := V4.out.cell 1 rfl
          have v2 : W4.cell? ⟨w3.heap.size, 2, none⟩ = some (.string vs) := V4.out.cell 2 rfl
          have hR3 : fitsF p.op ⟨vk, vn, vs⟩ ⟨xk, xn, xt⟩ = R := HR0.out
          unfold fitsF at hR3
          simp only [] at hR3
          rw [if_neg h5, if_neg hx0] at hR3
          clear HR0 hx0
          by_cases h1 : p.op = 1
          · rw [if_pos h1] at hR3
            have hoi : (p.op : Int) = 1 := by omega
            rw [hoi] at q0
            by_cases hq : (⟨xk, xn, xt⟩ : CellD) = ⟨vk, vn, vs⟩
            · have hc := (cmpC_zero _ _).2 hq
              rw [if_pos hc] at hR3
              have HR := Lib.hid hR3
              simp only [CellD.mk.injEq] at hq
              obtain ⟨rfl, rfl, rfl⟩ := hq
              clear hR3 hc hoi h1
              go_wp2_with fail
              refine (is9_true _).mono ?_
              rintro e w6 ⟨rfl, rfl⟩
              go_wp2
              go_ret
              exact ⟨by rw [← HR.out]; rfl, M4.out.below⟩
            · have hc : ¬ cmpC ⟨xk, xn, xt⟩ ⟨vk, vn, vs⟩ = 0 := fun h => hq ((cmpC_zero _ _).1 h)
              rw [if_neg hc] at hR3
              have HR := Lib.hid hR3
              clear hR3 hc hoi h1
              by_cases a1 : xk = vk
              · subst a1
                by_cases a2 : xn = vn
                · subst a2
                  have a3 : xt ≠ vs := fun e => hq (by rw [e])
                  have a3b := bytes_ne9 a3
                  clear hq
                  go_wp2_with fail
                  refine (is9_false _).mono ?_
                  rintro e w6 ⟨rfl, rfl⟩
                  go_wp2
                  go_ret
                  exact ⟨by rw [← HR.out]; rfl, M4.out.below⟩
                · have a2b : (xn == vn) = false := by rw [beq_eq_false_iff_ne]; exact a2
                  clear hq
                  go_wp2_with fail
                  refine (is9_false _).mono ?_
                  rintro e w6 ⟨rfl, rfl⟩
                  go_wp2
                  go_ret
                  exact ⟨by rw [← HR.out]; rfl, M4.out.below⟩
              · have a1b : (xk == vk) = false := by rw [beq_eq_false_iff_ne]; exact a1
                clear hq
                go_wp2_with fail
                refine (is9_false _).mono ?_
                rintro e w6 ⟨rfl, rfl⟩
                go_wp2
                go_ret
                exact ⟨by rw [← HR.out]; rfl, M4.out.below⟩
          · rw [if_neg h1] at hR3
            by_cases h2 : p.op = 2
            · rw [if_pos h2] at hR3
              have hoi : (p.op : Int) = 2 := by omega
              rw [hoi] at q0
              have hl := HLESS.out ⟨xk, xn, xt⟩ ⟨vk, vn, vs⟩
              by_cases hlt : LessC ⟨xk, xn, xt⟩ ⟨vk, vn, vs⟩
              · rw [if_pos hlt] at hR3
                rw [decide_eq_true hlt] at hl
                have HR := Lib.hid hR3
                have HL := Lib.hid hl
                clear hR3 hl hoi hlt
                go_wp2_with fail
                refine (HL.out _).mono ?_
                rintro e w5 ⟨rfl, hb5⟩
                have HB5 := Lib.hid ((M4.out.call hb5).below)
                clear hb5
                go_wp2_with fail
                refine (is9_true _).mono ?_
                rintro e w6 ⟨rfl, rfl⟩
                go_wp2
                go_ret
                exact ⟨by rw [← HR.out]; rfl, HB5.out⟩
              · rw [if_neg hlt] at hR3
                rw [decide_eq_false hlt] at hl
                have HR := Lib.hid hR3
                have HL := Lib.hid hl
                clear hR3 hl hoi hlt
                go_wp2_with fail
                refine (HL.out _).mono ?_
                rintro e w5 ⟨rfl, hb5⟩
                have HB5 := Lib.hid ((M4.out.call hb5).below)
                clear hb5
                go_wp2_with fail
                refine (is9_false _).mono ?_
                rintro e w6 ⟨rfl, rfl⟩
                go_wp2
                go_ret
                exact ⟨by rw [← HR.out]; rfl, HB5.out⟩
            · rw [if_neg h2] at hR3
              by_cases h3 : p.op = 3
              · rw [if_pos h3] at hR3
                have hoi : (p.op : Int) = 3 := by omega
                rw [hoi] at q0
                have hl := HLESS.out ⟨vk, vn, vs⟩ ⟨xk, xn, xt⟩
                by_cases hlt : LessC ⟨vk, vn, vs⟩ ⟨xk, xn, xt⟩
                · rw [if_pos hlt] at hR3
                  rw [decide_eq_true hlt] at hl
                  have HR := Lib.hid hR3
                  have HL := Lib.hid hl
                  clear hR3 hl hoi hlt
                  go_wp2_with fail
                  refine (HL.out _).mono ?_
                  rintro e w5 ⟨rfl, hb5⟩
                  have HB5 := Lib.hid ((M4.out.call hb5).below)
                  clear hb5
                  go_wp2_with fail
                  refine (is9_false _).mono ?_
                  rintro e w6 ⟨rfl, rfl⟩
                  go_wp2
                  go_ret
                  exact ⟨by rw [← HR.out]; rfl, HB5.out⟩
                · rw [if_neg hlt] at hR3
                  rw [decide_eq_false hlt] at hl
                  have HR := Lib.hid hR3
                  have HL := Lib.hid hl
                  clear hR3 hl hoi hlt
                  go_wp2_with fail
                  refine (HL.out _).mono ?_
                  rintro e w5 ⟨rfl, hb5⟩
                  have HB5 := Lib.hid ((M4.out.call hb5).below)
                  clear hb5
                  go_wp2_with fail
                  refine (is9_true _).mono ?_
                  rintro e w6 ⟨rfl, rfl⟩
                  go_wp2
                  go_ret
                  exact ⟨by rw [← HR.out]; rfl, HB5.out⟩
              · rw [if_neg h3] at hR3
                by_cases h4 : p.op = 4
                · rw [if_pos h4] at hR3
                  have hoi : (p.op : Int) = 4 := by omega
                  rw [hoi] at q0
                  by_cases a1 : xk = 3
                  · by_cases a2 : vk = 3
                    · subst a1
                      subst a2
                      have hlk := refLike xt vs
                      have hszv : vs.size ≤ 100000 := by have := HVS.out; omega
                      have hlk2 := fun W => hlk W HXS.out hszv
                      unfold LikePost at hlk2
                      obtain ⟨lb, hlb⟩ : ∃ b, likeB xt vs = b := ⟨_, rfl⟩
                      rw [hlb] at hlk2
                      have HLK := Lib.hid hlk2
                      cases lb
                      · rw [if_neg (by simp [hlb])] at hR3
                        have HR := Lib.hid hR3
                        clear hR3 hlk hlk2 hlb hoi
                        go_wp2_with fail
                        refine (HLK.out _).mono ?_
                        rintro e w5 ⟨rfl, hb5⟩
                        have HB5 := Lib.hid ((M4.out.call hb5).below)
                        clear hb5
                        go_wp2_with fail
                        refine (is9_false _).mono ?_
                        rintro e w6 ⟨rfl, rfl⟩
                        go_wp2
                        go_ret
                        exact ⟨by rw [← HR.out]; rfl, HB5.out⟩
                      · rw [if_pos ⟨rfl, rfl, hlb⟩] at hR3
                        have HR := Lib.hid hR3
                        clear hR3 hlk hlk2 hlb hoi
                        go_wp2_with fail
                        refine (HLK.out _).mono ?_
                        rintro e w5 ⟨rfl, hb5⟩
                        have HB5 := Lib.hid ((M4.out.call hb5).below)
                        clear hb5
                        go_wp2_with fail
                        refine (is9_true _).mono ?_
                        rintro e w6 ⟨rfl, rfl⟩
                        go_wp2
                        go_ret
                        exact ⟨by rw [← HR.out]; rfl, HB5.out⟩
                    · rw [if_neg (fun h => a2 h.2.1)] at hR3
                      have HR := Lib.hid hR3
                      have a2b : (vk == 3) = false := by rw [beq_eq_false_iff_ne]; exact a2
                      subst a1
                      clear hR3 hoi
                      go_wp2_with fail
                      refine (is9_false _).mono ?_
                      rintro e w6 ⟨rfl, rfl⟩
                      go_wp2
                      go_ret
                      exact ⟨by rw [← HR.out]; rfl, M4.out.below⟩
                  · rw [if_neg (fun h => a1 h.1)] at hR3
                    have HR := Lib.hid hR3
                    have a1b : (xk == 3) = false := by rw [beq_eq_false_iff_ne]; exact a1
                    clear hR3 hoi
                    go_wp2_with fail
                    refine (is9_false _).mono ?_
                    rintro e w6 ⟨rfl, rfl⟩
                    go_wp2
                    go_ret
                    exact ⟨by rw [← HR.out]; rfl, M4.out.below⟩
                · rw [if_neg h4] at hR3
                  have HR := Lib.hid hR3
                  have o1 : ((p.op : Int) == 1) = false := by rw [beq_eq_false_iff_ne]; omega
                  have o2 : ((p.op : Int) == 2) = false := by rw [beq_eq_false_iff_ne]; omega
                  have o3 : ((p.op : Int) == 3) = false := by rw [beq_eq_false_iff_ne]; omega
                  have o4 : ((p.op : Int) == 4) = false := by rw [beq_eq_false_iff_ne]; omega
                  clear hR3
                  go_wp2
                  go_ret
                  exact ⟨by rw [← HR.out]; rfl, M4.out.below⟩
    · have hx : xs[m]? = none := List.getElem?_eq_none (by have := HSTL.out; omega)
      rw [hx] at hR
      have HR := Lib.hid hR
      have hmni : (n : Int) ≤ (m : Int) := by omega
      clear hR hx
      go_enter Try.func20, Try.ntmps20
      go_wp2_with fail
      obtain ⟨W0, hWW⟩ : ∃ W0 : World, W0 = ((w.alloc (.cells #[.int .u8 (p.op : Int), .int .u32 (p.field : Int), .int .u8 p.value.kind, .int .i64 p.value.n, .string p.value.s, .slice ka kn kc] 42)).alloc (.cells #[.int .u32 (s.id : Int), .slice fa fnn fc] 37)) := ⟨_, rfl⟩
      have hm : Mem w.heap.size [#[.int .u8 (p.op : Int), .int .u32 (p.field : Int), .int .u8 p.value.kind, .int .i64 p.value.n, .string p.value.s, .slice ka kn kc], #[.int .u32 (s.id : Int), .slice fa fnn fc]] w W0 := by rw [hWW]; exact (((Mem.nil w).push (by simp) #[.int .u8 (p.op : Int), .int .u32 (p.field : Int), .int .u8 p.value.kind, .int .i64 p.value.n, .string p.value.s, .slice ka kn kc] 42).push (by simp) #[.int .u32 (s.id : Int), .slice fa fnn fc] 37)
      rw [← hWW]
      clear hWW
      have M0 := Lib.hid hm
      clear hm
      refine (HPL.out _ (SchemaR.stable _ _ _ _ M0.out.below HSC.out)).mono ?_
      rintro e w1 ⟨rfl, hb⟩
      have M1 := Lib.hid (M0.out.call hb)
      clear hb
      go_wp2
      go_ret
      exact ⟨by rw [← HR.out]; rfl, M1.out.below⟩
/-- **catchmentref09.Eval, of any predicate.** -/
theorem eval_all : ∀ d, EvalHyp d
  | 0 => fun p cs s scs a n c vs w hp => hp.elim
  | d + 1 => fun p cs s scs a n c vs w hp hs hfl hst hn hsz => by
    have ih := eval_all d
    by_cases h6 : p.op = 6
    · exact eval_and d ih p cs s scs a n c vs w hp hs hfl hst hn hsz h6
    · by_cases h7 : p.op = 7
      · exact eval_or d ih p cs s scs a n c vs w hp hs hfl hst hn hsz h7
      · by_cases h8 : p.op = 8
        · exact eval_not d ih p cs s scs a n c vs w hp hs hfl hst hn hsz h8
        · exact eval_leaf d ih p cs s scs a n c vs w hp hs hfl hst hn hsz h6 h7 h8
end Go.Proofs.Ytkofaoaglnjkgaa
