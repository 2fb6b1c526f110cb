/- The contract of pred.Eval. -/
import Derived.Test.YtkildbpfondgcaaPrHolds
import Derived.Test.YtkildbpfondgcaaPrPrPm
import Derived.Test.YtkildbpfondgcaaPrGreat
import Derived.Test.YtkildbpfondgcaaBase
import Derived.Test.YtkildbpfondgcaaPrStats
import Derived.Deep.RegionHeld3
namespace Go.Proofs.Ytkildbpfondgcaa
open Go.RowKit Go.Deep
set_option linter.unusedVariables false
set_option linter.unusedSimpArgs false

def EvalHyp (d : Nat) : Prop := ∀ (p : PredD) (cs : List Value) (s : SchemaD) (scs : List Value) (a : Option Addr) (n c : Nat) (vs : List ValD) (w : World), PredR d w cs p → SchemaR w scs s → s.fields.length ≤ 1000 → Sl 1 ValR w a n vs → n ≤ 1000 → (∀ v ∈ vs, v.cell.s.size ≤ 100000) →
    Calls Try.prog 18 #[.agg cs.toArray, .agg scs.toArray, .slice a n c] w (ValIs (.int .u8 (evalN s.fields (vs.map ValD.cell) d p : Nat)) w)
theorem th_le {n : Nat} (h : n ≤ 2) : th (n : Int) = (n : Int) := by unfold th; rw [if_neg (by omega)]
set_option maxRecDepth 100000 in
set_option maxHeartbeats 16000000 in
theorem eval_and (d : Nat) (ih : EvalHyp d) (p : PredD) (cs : List Value) (s : SchemaD) (scs : List Value) (a : Option Addr) (n c : Nat) (vs : List ValD) (w : World) (hp : PredR (d + 1) w cs p) (hs : SchemaR w scs s) (hfl : s.fields.length ≤ 1000) (hst : Sl 1 ValR w a n vs) (hn : n ≤ 1000) (hsz : ∀ v ∈ vs, v.cell.s.size ≤ 100000) (ho : p.op = 6) :
    Calls Try.prog 18 #[.agg cs.toArray, .agg scs.toArray, .slice a n c] w (ValIs (.int .u8 (evalN s.fields (vs.map ValD.cell) (d + 1) p : Nat)) w) := by
  have HSC := Lib.hid hs
  obtain ⟨ka, kn, kc, rfl, hk1, hk2, hk3, hkids, hpo, hpf, hpv⟩ := hp
  obtain ⟨fa, fnn, fc, rfl, hs1, hs2, hs3, hfs, hs4⟩ := hs
  have HK := Lib.hid hkids
  have HKL := Lib.hid hkids.1
  have HFL := Lib.hid hfl
  have HST := Lib.hid hst
  have HSTL := Lib.hid hst.1
  have HSIZE := Lib.hid hsz
  have HIH := Lib.hid ih
  have HPV := Lib.hid hpv
  have hkn : kn ≤ 9223372036854775807 := by unfold maxLen at hk2; omega
  clear ih hkids hfs hst hs3 hs4 hk3 hfl hpf hpv hk2 hs2 hsz
  have hoi : (p.op : Int) = 6 := by omega
  obtain ⟨R, hR⟩ : ∃ R, evalN s.fields (vs.map ValD.cell) (d + 1) p = R := ⟨_, rfl⟩
  rw [hR]
  unfold evalN at hR
  rw [if_pos ho] at hR
  have hR2 : accE min s.fields (vs.map ValD.cell) d 2 p.kids = R := hR
  have HR := Lib.hid hR2
  have hle := accE_le (g := min) (fs := s.fields) (row := vs.map ValD.cell) (d := d) (fun a b h1 h2 => by omega) (evalN_le s.fields (vs.map ValD.cell) d)
  have HLE := Lib.hid (fun k => hle (p.kids.take k) 2 (by omega))
  have HEL := Lib.hid (evalN_le s.fields (vs.map ValD.cell) d)
  have HAND := Lib.hid and_calls
  unfold IntIs at HAND
  rw [hoi]
  clear hR hR2 hle ho hoi
  go_enter Try.func18, Try.ntmps18
  go_wp2
  obtain ⟨W0, hWW⟩ : ∃ W0 : World, W0 = ((w.alloc (.cells #[.int .u8 6, .int .u32 (p.field : Int), .int .u8 p.value.kind, .int .i64 p.value.n, .string p.value.s, .slice ka kn kc] 39)).alloc (.cells #[.int .u32 (s.id : Int), .slice fa fnn fc] 42)) := ⟨_, rfl⟩
  have hm : Mem w.heap.size [#[.int .u8 6, .int .u32 (p.field : Int), .int .u8 p.value.kind, .int .i64 p.value.n, .string p.value.s, .slice ka kn kc], #[.int .u32 (s.id : Int), .slice fa fnn fc]] w W0 := by rw [hWW]; exact (((Mem.nil w).push (by simp) #[.int .u8 6, .int .u32 (p.field : Int), .int .u8 p.value.kind, .int .i64 p.value.n, .string p.value.s, .slice ka kn kc] 39).push (by simp) #[.int .u32 (s.id : Int), .slice fa fnn fc] 42)
  have HSZW := Lib.hid (show W0.heap.size = w.heap.size + 2 by rw [hWW]; simp)
  rw [← hWW]
  clear hWW
  have M0 := Lib.hid hm
  clear hm
  go_loopw [7, 22] (fun c i wr => ∃ k : Nat, k ≤ kn ∧ c = .int .u8 ((accE min s.fields (vs.map ValD.cell) d 2 (p.kids.take k) : Nat) : Int) ∧ i = .int .i64 (k : Int) ∧ Mem w.heap.size [#[.int .u8 6, .int .u32 (p.field : Int), .int .u8 p.value.kind, .int .i64 p.value.n, .string p.value.s, .slice ka kn kc], #[.int .u32 (s.id : Int), .slice fa fnn fc]] w wr) (fun _ i _ => kn - (intOf i).toNat)
  case atStart => exact ⟨0, Nat.zero_le _, rfl, rfl, M0.out⟩
  case round =>
    obtain ⟨k, hk, rfl, rfl, hm⟩ := hrel
    have M1 := Lib.hid hm
    have hk0 : (0 : Int) ≤ (k : Int) := by omega
    clear hm
    by_cases hlt : k < kn
    · have hkn' : (k : Int) < (kn : Int) := by omega
      obtain ⟨b, off, x, kcs, rfl, hbl, hx, hcl, hxr, hcell⟩ := HK.out.at_ hlt
      have HXR := Lib.hid hxr
      obtain ⟨xa, xn, xc, hkcs⟩ := hxr.shape
      subst hkcs
      have HX := Lib.hid hx
      have e0 := M1.out.old (p := ⟨b, off + k * 6 + 0, none⟩) hbl (hcell 0 _ rfl)
      have e1 := M1.out.old (p := ⟨b, off + k * 6 + 1, none⟩) hbl (hcell 1 _ rfl)
      have e2 := M1.out.old (p := ⟨b, off + k * 6 + 2, none⟩) hbl (hcell 2 _ rfl)
      have e3 := M1.out.old (p := ⟨b, off + k * 6 + 3, none⟩) hbl (hcell 3 _ rfl)
      have e4 := M1.out.old (p := ⟨b, off + k * 6 + 4, none⟩) hbl (hcell 4 _ rfl)
      have e5 := M1.out.old (p := ⟨b, off + k * 6 + 5, none⟩) hbl (hcell 5 _ rfl)
      rw [Nat.add_zero] at e0
      clear hcell hx hxr hcl
      have q1_0 : wr.cell? ⟨w.heap.size + 1, 0, none⟩ = some (.int .u32 (s.id : Int)) := M1.out.cell 1 0 rfl rfl
      have q1_1 : wr.cell? ⟨w.heap.size + 1, 1, none⟩ = some (.slice fa fnn fc) := M1.out.cell 1 1 rfl rfl
      have z1 : w.heap.size + 1 < wr.heap.size := M1.out.lt 1 (by simp)
      go_wp2_with fail
      have hbb : Below w.heap.size w (wr.alloc (.cells #[.int .u8 (x.op : Int), .int .u32 (x.field : Int), .int .u8 x.value.kind, .int .i64 x.value.n, .string x.value.s, .slice xa xn xc] 39)) := (M1.out.alloc _).below
      refine (HIH.out x _ s _ a n c vs _ (PredR.stable d _ _ _ _ hbb HXR.out) (SchemaR.stable _ _ _ _ hbb HSC.out) HFL.out (HST.out.below ValR.stable hbb) hn HSIZE.out).mono ?_
      rintro e w1 ⟨rfl, hb⟩
      have HB1 := Lib.hid ((M1.out.alloc _).call hb)
      clear hbb hb e0 e1 e2 e3 e4 e5 q1_0 q1_1 z1
      go_wp2_with fail
      refine (HAND.out _ _ _ _ _ _ (th_le (HLE.out k)) (th_le (HEL.out x)) rfl).mono ?_
      rintro e w2 ⟨rfl, rfl⟩
      go_wp2
      go_roundw
      case rel =>
        refine ⟨k + 1, by omega, ?_, by go_num, HB1.out⟩
        rw [accE_succ HX.out]
        first | rfl | (simp; done) | (congr 1; omega)
      case measure => simp [intOf] <;> omega
    · obtain rfl : k = kn := by omega
      have hall : p.kids.take k = p.kids := List.take_of_length_le (by have := HKL.out; omega)
      have HALL := Lib.hid hall
      clear hall
      go_wp2
      go_ret
      exact ⟨by rw [HALL.out, HR.out]; rfl, M1.out.below⟩
set_option maxRecDepth 100000 in
set_option maxHeartbeats 16000000 in
theorem eval_or (d : Nat) (ih : EvalHyp d) (p : PredD) (cs : List Value) (s : SchemaD) (scs : List Value) (a : Option Addr) (n c : Nat) (vs : List ValD) (w : World) (hp : PredR (d + 1) w cs p) (hs : SchemaR w scs s) (hfl : s.fields.length ≤ 1000) (hst : Sl 1 ValR w a n vs) (hn : n ≤ 1000) (hsz : ∀ v ∈ vs, v.cell.s.size ≤ 100000) (ho : p.op = 7) :
    Calls Try.prog 18 #[.agg cs.toArray, .agg scs.toArray, .slice a n c] w (ValIs (.int .u8 (evalN s.fields (vs.map ValD.cell) (d + 1) p : Nat)) w) := by
  have HSC := Lib.hid hs
  obtain ⟨ka, kn, kc, rfl, hk1, hk2, hk3, hkids, hpo, hpf, hpv⟩ := hp
  obtain ⟨fa, fnn, fc, rfl, hs1, hs2, hs3, hfs, hs4⟩ := hs
  have HK := Lib.hid hkids
  have HKL := Lib.hid hkids.1
  have HFL := Lib.hid hfl
  have HST := Lib.hid hst
  have HSTL := Lib.hid hst.1
  have HSIZE := Lib.hid hsz
  have HIH := Lib.hid ih
  have HPV := Lib.hid hpv
  have hkn : kn ≤ 9223372036854775807 := by unfold maxLen at hk2; omega
  clear ih hkids hfs hst hs3 hs4 hk3 hfl hpf hpv hk2 hs2 hsz
  have hoi : (p.op : Int) = 7 := by omega
  obtain ⟨R, hR⟩ : ∃ R, evalN s.fields (vs.map ValD.cell) (d + 1) p = R := ⟨_, rfl⟩
  rw [hR]
  unfold evalN at hR
  rw [if_neg (by omega), if_pos ho] at hR
  have hR2 : accE max s.fields (vs.map ValD.cell) d 0 p.kids = R := hR
  have HR := Lib.hid hR2
  have hle := accE_le (g := max) (fs := s.fields) (row := vs.map ValD.cell) (d := d) (fun a b h1 h2 => by omega) (evalN_le s.fields (vs.map ValD.cell) d)
  have HLE := Lib.hid (fun k => hle (p.kids.take k) 0 (by omega))
  have HEL := Lib.hid (evalN_le s.fields (vs.map ValD.cell) d)
  have HAND := Lib.hid or_calls
  unfold IntIs at HAND
  rw [hoi]
  clear hR hR2 hle ho hoi
  go_enter Try.func18, Try.ntmps18
  go_wp2
  obtain ⟨W0, hWW⟩ : ∃ W0 : World, W0 = ((w.alloc (.cells #[.int .u8 7, .int .u32 (p.field : Int), .int .u8 p.value.kind, .int .i64 p.value.n, .string p.value.s, .slice ka kn kc] 39)).alloc (.cells #[.int .u32 (s.id : Int), .slice fa fnn fc] 42)) := ⟨_, rfl⟩
  have hm : Mem w.heap.size [#[.int .u8 7, .int .u32 (p.field : Int), .int .u8 p.value.kind, .int .i64 p.value.n, .string p.value.s, .slice ka kn kc], #[.int .u32 (s.id : Int), .slice fa fnn fc]] w W0 := by rw [hWW]; exact (((Mem.nil w).push (by simp) #[.int .u8 7, .int .u32 (p.field : Int), .int .u8 p.value.kind, .int .i64 p.value.n, .string p.value.s, .slice ka kn kc] 39).push (by simp) #[.int .u32 (s.id : Int), .slice fa fnn fc] 42)
  have HSZW := Lib.hid (show W0.heap.size = w.heap.size + 2 by rw [hWW]; simp)
  rw [← hWW]
  clear hWW
  have M0 := Lib.hid hm
  clear hm
  go_loopw [10, 39] (fun c i wr => ∃ k : Nat, k ≤ kn ∧ c = .int .u8 ((accE max s.fields (vs.map ValD.cell) d 0 (p.kids.take k) : Nat) : Int) ∧ i = .int .i64 (k : Int) ∧ Mem w.heap.size [#[.int .u8 7, .int .u32 (p.field : Int), .int .u8 p.value.kind, .int .i64 p.value.n, .string p.value.s, .slice ka kn kc], #[.int .u32 (s.id : Int), .slice fa fnn fc]] w wr) (fun _ i _ => kn - (intOf i).toNat)
  case atStart => exact ⟨0, Nat.zero_le _, rfl, rfl, M0.out⟩
  case round =>
    obtain ⟨k, hk, rfl, rfl, hm⟩ := hrel
    have M1 := Lib.hid hm
    have hk0 : (0 : Int) ≤ (k : Int) := by omega
    clear hm
    by_cases hlt : k < kn
    · have hkn' : (k : Int) < (kn : Int) := by omega
      obtain ⟨b, off, x, kcs, rfl, hbl, hx, hcl, hxr, hcell⟩ := HK.out.at_ hlt
      have HXR := Lib.hid hxr
      obtain ⟨xa, xn, xc, hkcs⟩ := hxr.shape
      subst hkcs
      have HX := Lib.hid hx
      have e0 := M1.out.old (p := ⟨b, off + k * 6 + 0, none⟩) hbl (hcell 0 _ rfl)
      have e1 := M1.out.old (p := ⟨b, off + k * 6 + 1, none⟩) hbl (hcell 1 _ rfl)
      have e2 := M1.out.old (p := ⟨b, off + k * 6 + 2, none⟩) hbl (hcell 2 _ rfl)
      have e3 := M1.out.old (p := ⟨b, off + k * 6 + 3, none⟩) hbl (hcell 3 _ rfl)
      have e4 := M1.out.old (p := ⟨b, off + k * 6 + 4, none⟩) hbl (hcell 4 _ rfl)
      have e5 := M1.out.old (p := ⟨b, off + k * 6 + 5, none⟩) hbl (hcell 5 _ rfl)
      rw [Nat.add_zero] at e0
      clear hcell hx hxr hcl
      have q1_0 : wr.cell? ⟨w.heap.size + 1, 0, none⟩ = some (.int .u32 (s.id : Int)) := M1.out.cell 1 0 rfl rfl
      have q1_1 : wr.cell? ⟨w.heap.size + 1, 1, none⟩ = some (.slice fa fnn fc) := M1.out.cell 1 1 rfl rfl
      have z1 : w.heap.size + 1 < wr.heap.size := M1.out.lt 1 (by simp)
      go_wp2_with fail
      have hbb : Below w.heap.size w (wr.alloc (.cells #[.int .u8 (x.op : Int), .int .u32 (x.field : Int), .int .u8 x.value.kind, .int .i64 x.value.n, .string x.value.s, .slice xa xn xc] 39)) := (M1.out.alloc _).below
      refine (HIH.out x _ s _ a n c vs _ (PredR.stable d _ _ _ _ hbb HXR.out) (SchemaR.stable _ _ _ _ hbb HSC.out) HFL.out (HST.out.below ValR.stable hbb) hn HSIZE.out).mono ?_
      rintro e w1 ⟨rfl, hb⟩
      have HB1 := Lib.hid ((M1.out.alloc _).call hb)
      clear hbb hb e0 e1 e2 e3 e4 e5 q1_0 q1_1 z1
      go_wp2_with fail
      refine (HAND.out _ _ _ _ _ _ (th_le (HLE.out k)) (th_le (HEL.out x)) rfl).mono ?_
      rintro e w2 ⟨rfl, rfl⟩
      go_wp2
      go_roundw
      case rel =>
        refine ⟨k + 1, by omega, ?_, by go_num, HB1.out⟩
        rw [accE_succ HX.out]
        first | rfl | (simp; done) | (congr 1; omega)
      case measure => simp [intOf] <;> omega
    · obtain rfl : k = kn := by omega
      have hall : p.kids.take k = p.kids := List.take_of_length_le (by have := HKL.out; omega)
      have HALL := Lib.hid hall
      clear hall
      go_wp2
      go_ret
      exact ⟨by rw [HALL.out, HR.out]; rfl, M1.out.below⟩
set_option maxRecDepth 100000 in
set_option maxHeartbeats 16000000 in
theorem eval_not (d : Nat) (ih : EvalHyp d) (p : PredD) (cs : List Value) (s : SchemaD) (scs : List Value) (a : Option Addr) (n c : Nat) (vs : List ValD) (w : World) (hp : PredR (d + 1) w cs p) (hs : SchemaR w scs s) (hfl : s.fields.length ≤ 1000) (hst : Sl 1 ValR w a n vs) (hn : n ≤ 1000) (hsz : ∀ v ∈ vs, v.cell.s.size ≤ 100000) (ho : p.op = 8) :
    Calls Try.prog 18 #[.agg cs.toArray, .agg scs.toArray, .slice a n c] w (ValIs (.int .u8 (evalN s.fields (vs.map ValD.cell) (d + 1) p : Nat)) w) := by
  have HSC := Lib.hid hs
  obtain ⟨ka, kn, kc, rfl, hk1, hk2, hk3, hkids, hpo, hpf, hpv⟩ := hp
  obtain ⟨fa, fnn, fc, rfl, hs1, hs2, hs3, hfs, hs4⟩ := hs
  have HK := Lib.hid hkids
  have HKL := Lib.hid hkids.1
  have HFL := Lib.hid hfl
  have HST := Lib.hid hst
  have HSTL := Lib.hid hst.1
  have HSIZE := Lib.hid hsz
  have HIH := Lib.hid ih
  have HPV := Lib.hid hpv
  have hkn : kn ≤ 9223372036854775807 := by unfold maxLen at hk2; omega
  clear ih hkids hfs hst hs3 hs4 hk3 hfl hpf hpv hk2 hs2 hsz
  have hoi : (p.op : Int) = 8 := by omega
  obtain ⟨R, hR⟩ : ∃ R, evalN s.fields (vs.map ValD.cell) (d + 1) p = R := ⟨_, rfl⟩
  rw [hR]
  unfold evalN at hR
  rw [if_neg (by omega), if_neg (by omega), if_pos ho] at hR
  rw [hoi]
  have HNOT := Lib.hid not_calls
  unfold IntIs at HNOT
  by_cases hk0 : kn = 0
  · subst hk0
    have hnil : p.kids = [] := List.eq_nil_of_length_eq_zero HKL.out
    rw [hnil] at hR
    have HR := Lib.hid hR
    clear hR hnil ho hoi
    go_enter Try.func18, Try.ntmps18
    go_wp2
    go_ret
    refine ⟨by rw [← HR.out]; rfl, ?_⟩
    repeat (first | exact Below.refl _ _ | refine Below.setCell ?_ (by simp <;> omega) _ | refine Below.alloc ?_ (by simp <;> omega) _)
  · obtain ⟨b, off, x, kcs, rfl, hbl, hx, hcl, hr, hcell⟩ := HK.out.at_ (i := 0) (by omega)
    obtain ⟨xs, hkx⟩ : ∃ xs, p.kids = x :: xs := by
      cases hq : p.kids with
      | nil => rw [hq] at hx; cases hx
      | cons y ys => rw [hq] at hx; simp at hx; subst hx; exact ⟨ys, rfl⟩
    rw [hkx] at hR
    obtain ⟨M0, hM0⟩ : ∃ M0, evalN s.fields (vs.map ValD.cell) d x = M0 := ⟨_, rfl⟩
    have hml := evalN_le s.fields (vs.map ValD.cell) d x
    simp only [hM0] at hR
    rw [hM0] at hml
    have HR := Lib.hid hR
    obtain ⟨xa, xn, xc, hkcs⟩ := hr.shape
    subst hkcs
    have HKR := Lib.hid hr
    have HCELL := Lib.hid hcell
    have HML := Lib.hid hml
    have hk0i : (0 : Int) < (kn : Int) := by omega
    clear hR hkx hr hcell hx hcl ho hoi hk0 hml
    go_enter Try.func18, Try.ntmps18
    go_wp2_with fail
    obtain ⟨W0, hWW⟩ : ∃ W0 : World, W0 = ((w.alloc (.cells #[.int .u8 8, .int .u32 (p.field : Int), .int .u8 p.value.kind, .int .i64 p.value.n, .string p.value.s, .slice (some ⟨b, off, none⟩) kn kc] 39)).alloc (.cells #[.int .u32 (s.id : Int), .slice fa fnn fc] 42)) := ⟨_, rfl⟩
    have hm : Mem w.heap.size [#[.int .u8 8, .int .u32 (p.field : Int), .int .u8 p.value.kind, .int .i64 p.value.n, .string p.value.s, .slice (some ⟨b, off, none⟩) kn kc], #[.int .u32 (s.id : Int), .slice fa fnn fc]] w W0 := by rw [hWW]; exact (((Mem.nil w).push (by simp) #[.int .u8 8, .int .u32 (p.field : Int), .int .u8 p.value.kind, .int .i64 p.value.n, .string p.value.s, .slice (some ⟨b, off, none⟩) kn kc] 39).push (by simp) #[.int .u32 (s.id : Int), .slice fa fnn fc] 42)
    have HSZW := Lib.hid (show W0.heap.size = w.heap.size + 2 by rw [hWW]; simp)
    rw [← hWW]
    clear hWW
    have M0' := Lib.hid hm
    clear hm
    have hcm : ∀ G : Kept W0, Calls Try.prog 18 #[.agg #[.int .u8 (x.op : Int), .int .u32 (x.field : Int), .int .u8 x.value.kind, .int .i64 x.value.n, .string x.value.s, .slice xa xn xc], .agg #[.int .u32 (s.id : Int), .slice fa fnn fc], .slice a n c] G.W (ValIs (.int .u8 (M0 : Int)) G.W) := fun G => by
      have hbw := (M0'.out.call G.h).below
      rw [← hM0]
      exact HIH.out x _ s _ a n c vs G.W ((PredR.stable d) _ _ _ _ hbw HKR.out) (SchemaR.stable _ _ _ _ hbw HSC.out) HFL.out (HST.out.below ValR.stable hbw) hn HSIZE.out
    have HCM := Lib.hid hcm
    have hcn : ∀ G : Kept W0, Calls Try.prog 39 #[.int .u8 (M0 : Int)] G.W (ValIs (.int .u8 (2 - (M0 : Int))) G.W) := fun G => by
      refine (HNOT.out (M0 : Int) (M0 : Int) _ G.W (by omega) (th_le HML.out) rfl).mono ?_
      rintro e w' ⟨rfl, rfl⟩
      exact ⟨rfl, Below.refl _ _⟩
    have HCN := Lib.hid hcn
    have e0 := M0'.out.old (p := ⟨b, off + 0 * 6 + 0, none⟩) hbl (HCELL.out 0 _ rfl)
    have e1 := M0'.out.old (p := ⟨b, off + 0 * 6 + 1, none⟩) hbl (HCELL.out 1 _ rfl)
    have e2 := M0'.out.old (p := ⟨b, off + 0 * 6 + 2, none⟩) hbl (HCELL.out 2 _ rfl)
    have e3 := M0'.out.old (p := ⟨b, off + 0 * 6 + 3, none⟩) hbl (HCELL.out 3 _ rfl)
    have e4 := M0'.out.old (p := ⟨b, off + 0 * 6 + 4, none⟩) hbl (HCELL.out 4 _ rfl)
    have e5 := M0'.out.old (p := ⟨b, off + 0 * 6 + 5, none⟩) hbl (HCELL.out 5 _ rfl)
    simp only [Nat.zero_mul, Nat.add_zero] at e0 e1 e2 e3 e4 e5
    have p5 : W0.cell? ⟨w.heap.size, 5, none⟩ = some (.slice (some ⟨b, off, none⟩) kn kc) := M0'.out.cell 0 5 rfl rfl
    have q1_0 : W0.cell? ⟨w.heap.size + 1, 0, none⟩ = some (.int .u32 (s.id : Int)) := M0'.out.cell 1 0 rfl rfl
    have q1_1 : W0.cell? ⟨w.heap.size + 1, 1, none⟩ = some (.slice fa fnn fc) := M0'.out.cell 1 1 rfl rfl
    have kx0 := kept_cell e0
    have kx1 := kept_cell e1
    have kx2 := kept_cell e2
    have kx3 := kept_cell e3
    have kx4 := kept_cell e4
    have kx5 := kept_cell e5
    have kp5 := kept_cell p5
    have ky0 := kept_cell q1_0
    have ky1 := kept_cell q1_1
    clear hcm hcn
    refine wp_region_kept (by kernel_rfl) (by kernel_rfl) ?_
    repeat (go_big_quiet_step (first | (go_at_call 18; with_reducible exact kept_call (HCM.out _)) | (go_at_call 39; with_reducible exact kept_call (HCN.out _))))
    refine wpQuiet_nil ?_
    intro W2 hb2
    have HB2 := Lib.hid ((M0'.out.call hb2).below)
    clear hb2 e0 kx0 e1 kx1 e2 kx2 e3 kx3 e4 kx4 e5 kx5 p5 kp5 q1_0 ky0 q1_1 ky1
    go_wp2
    go_ret
    refine ⟨by rw [← HR.out]; have := HML.out; simp; omega, HB2.out⟩
set_option maxRecDepth 100000 in
set_option maxHeartbeats 16000000 in
theorem eval_leaf (d : Nat) (ih : EvalHyp d) (p : PredD) (cs : List Value) (s : SchemaD) (scs : List Value) (a : Option Addr) (n c : Nat) (vs : List ValD) (w : World) (hp : PredR (d + 1) w cs p) (hs : SchemaR w scs s) (hfl : s.fields.length ≤ 1000) (hst : Sl 1 ValR w a n vs) (hn : n ≤ 1000) (hsz : ∀ v ∈ vs, v.cell.s.size ≤ 100000) (h6 : p.op ≠ 6) (h7 : p.op ≠ 7) (h8 : p.op ≠ 8) :
    Calls Try.prog 18 #[.agg cs.toArray, .agg scs.toArray, .slice a n c] w (ValIs (.int .u8 (evalN s.fields (vs.map ValD.cell) (d + 1) p : Nat)) w) := by
  have HSC := Lib.hid hs
  obtain ⟨ka, kn, kc, rfl, hk1, hk2, hk3, hkids, hpo, hpf, hpv⟩ := hp
  obtain ⟨fa, fnn, fc, rfl, hs1, hs2, hs3, hfs, hs4⟩ := hs
  have HK := Lib.hid hkids
  have HKL := Lib.hid hkids.1
  have HFL := Lib.hid hfl
  have HST := Lib.hid hst
  have HSTL := Lib.hid hst.1
  have HSIZE := Lib.hid hsz
  have HIH := Lib.hid ih
  have HPV := Lib.hid hpv
  have hkn : kn ≤ 9223372036854775807 := by unfold maxLen at hk2; omega
  clear ih hkids hfs hst hs3 hs4 hk3 hfl hpf hpv hk2 hs2 hsz
  have h6i : ((p.op : Int) == 6) = false := by rw [beq_eq_false_iff_ne]; omega
  have h7i : ((p.op : Int) == 7) = false := by rw [beq_eq_false_iff_ne]; omega
  have h8i : ((p.op : Int) == 8) = false := by rw [beq_eq_false_iff_ne]; omega
  obtain ⟨R, hR⟩ : ∃ R, evalN s.fields (vs.map ValD.cell) (d + 1) p = R := ⟨_, rfl⟩
  rw [hR]
  unfold evalN at hR
  rw [if_neg h6, if_neg h7, if_neg h8] at hR
  unfold leafF at hR
  have hpl := fun (W : World) (h : SchemaR W [.int .u32 (s.id : Int), .slice fa fnn fc] s) => place_calls _ s p.field W h HFL.out
  have hran := idxF_lt (hasId p.field) s.fields
  have hrn : placeI s.fields p.field = idxF (hasId p.field) s.fields := rfl
  rw [← hrn] at hran
  clear hrn h6 h7 h8 HK HKL HIH
  generalize placeI s.fields p.field = i at *
  have HPL := Lib.hid hpl
  clear hpl
  unfold PlacePost at HPL
  by_cases hi : i < 0
  · rw [if_pos hi] at hR
    rw [if_pos hi] at HPL
    have hd : decide (0 ≤ i) = false := by rw [decide_eq_false_iff_not]; omega
    rw [hd] at HPL
    have HR := Lib.hid hR
    clear hR hd
    go_enter Try.func18, Try.ntmps18
    go_wp2_with fail
    obtain ⟨W0, hWW⟩ : ∃ W0 : World, W0 = ((w.alloc (.cells #[.int .u8 (p.op : Int), .int .u32 (p.field : Int), .int .u8 p.value.kind, .int .i64 p.value.n, .string p.value.s, .slice ka kn kc] 39)).alloc (.cells #[.int .u32 (s.id : Int), .slice fa fnn fc] 42)) := ⟨_, rfl⟩
    have hm : Mem w.heap.size [#[.int .u8 (p.op : Int), .int .u32 (p.field : Int), .int .u8 p.value.kind, .int .i64 p.value.n, .string p.value.s, .slice ka kn kc], #[.int .u32 (s.id : Int), .slice fa fnn fc]] w W0 := by rw [hWW]; exact (((Mem.nil w).push (by simp) #[.int .u8 (p.op : Int), .int .u32 (p.field : Int), .int .u8 p.value.kind, .int .i64 p.value.n, .string p.value.s, .slice ka kn kc] 39).push (by simp) #[.int .u32 (s.id : Int), .slice fa fnn fc] 42)
    have HSZW := Lib.hid (show W0.heap.size = w.heap.size + 2 by rw [hWW]; simp)
    rw [← hWW]
    clear hWW
    have M0 := Lib.hid hm
    clear hm
    refine (HPL.out _ (SchemaR.stable _ _ _ _ M0.out.below HSC.out)).mono ?_
    rintro e w1 ⟨rfl, hb⟩
    have M1 := Lib.hid (M0.out.call hb)
    clear hb
    go_wp2
    go_ret
    exact ⟨by rw [← HR.out]; rfl, M1.out.below⟩
  · rw [if_neg hi] at hR
    rw [if_neg hi] at HPL
    obtain ⟨m, rfl⟩ : ∃ m : Nat, i = (m : Int) := ⟨i.toNat, by omega⟩
    have hd : decide ((0 : Int) ≤ (m : Int)) = true := by rw [decide_eq_true_iff]; omega
    rw [hd] at HPL
    rw [Int.toNat_natCast] at hR
    clear hd hi
    by_cases hmn : m < n
    · obtain ⟨b, off, st, scs, rfl, hbl, hx, hcl, hr, hcell⟩ := HST.out.at_ hmn
      obtain rfl : scs = [st.val] := hr
      have hxc : (vs.map ValD.cell)[m]? = some st.cell := by rw [List.getElem?_map, hx]; rfl
      rw [hxc] at hR
      obtain ⟨_, ⟨hk3, _⟩, _⟩ := HPV.out
      have hm0 : (0 : Int) ≤ (m : Int) := by omega
      have hmni : (m : Int) < (n : Int) := by omega
      have HCELL := Lib.hid hcell
      have HMAY := Lib.hid (fun W => holds_calls p.op p.field p.value (.slice ka kn kc) st W hk3 (HSIZE.out st (List.mem_of_getElem? hx)))
      have hR3 : fitsF p.op (fix p.value) st.cell = R := hR
      rw [hR3] at HMAY
      clear hR hR3 hcell hx hcl hxc
      go_enter Try.func18, Try.ntmps18
      go_wp2_with fail
      obtain ⟨W0, hWW⟩ : ∃ W0 : World, W0 = ((w.alloc (.cells #[.int .u8 (p.op : Int), .int .u32 (p.field : Int), .int .u8 p.value.kind, .int .i64 p.value.n, .string p.value.s, .slice ka kn kc] 39)).alloc (.cells #[.int .u32 (s.id : Int), .slice fa fnn fc] 42)) := ⟨_, rfl⟩
      have hm : Mem w.heap.size [#[.int .u8 (p.op : Int), .int .u32 (p.field : Int), .int .u8 p.value.kind, .int .i64 p.value.n, .string p.value.s, .slice ka kn kc], #[.int .u32 (s.id : Int), .slice fa fnn fc]] w W0 := by rw [hWW]; exact (((Mem.nil w).push (by simp) #[.int .u8 (p.op : Int), .int .u32 (p.field : Int), .int .u8 p.value.kind, .int .i64 p.value.n, .string p.value.s, .slice ka kn kc] 39).push (by simp) #[.int .u32 (s.id : Int), .slice fa fnn fc] 42)
      have HSZW := Lib.hid (show W0.heap.size = w.heap.size + 2 by rw [hWW]; simp)
      rw [← hWW]
      clear hWW
      have M0 := Lib.hid hm
      clear hm
      refine (HPL.out _ (SchemaR.stable _ _ _ _ M0.out.below HSC.out)).mono ?_
      rintro e w1 ⟨rfl, hb⟩
      have M1 := Lib.hid (M0.out.call hb)
      clear hb
      have d0 := M1.out.old (p := ⟨b, off + m * 1 + 0, none⟩) hbl (HCELL.out 0 _ rfl)
      rw [Nat.add_zero, Nat.mul_one] at d0
      have x0 : w1.cell? ⟨w.heap.size, 0, none⟩ = some (.int .u8 (p.op : Int)) := M1.out.cell 0 0 rfl rfl
      have x1 : w1.cell? ⟨w.heap.size, 1, none⟩ = some (.int .u32 (p.field : Int)) := M1.out.cell 0 1 rfl rfl
      have x2 : w1.cell? ⟨w.heap.size, 2, none⟩ = some (.int .u8 p.value.kind) := M1.out.cell 0 2 rfl rfl
      have x3 : w1.cell? ⟨w.heap.size, 3, none⟩ = some (.int .i64 p.value.n) := M1.out.cell 0 3 rfl rfl
      have x4 : w1.cell? ⟨w.heap.size, 4, none⟩ = some (.string p.value.s) := M1.out.cell 0 4 rfl rfl
      have x5 : w1.cell? ⟨w.heap.size, 5, none⟩ = some (.slice ka kn kc) := M1.out.cell 0 5 rfl rfl
      go_wp2_with fail
      have kx0 := kept_cell x0
      have kx1 := kept_cell x1
      have kx2 := kept_cell x2
      have kx3 := kept_cell x3
      have kx4 := kept_cell x4
      have kx5 := kept_cell x5
      have kd0 := kept_cell d0
      refine wp_region_kept (by kernel_rfl) (by kernel_rfl) ?_
      repeat (go_big_quiet_step (first | (go_at_call 40; with_reducible exact kept_call (HMAY.out _))))
      refine wpQuiet_nil ?_
      intro W2 hb2
      have HB2 := Lib.hid ((M1.out.call hb2).below)
      clear hb2 d0 kd0 x0 kx0 x1 kx1 x2 kx2 x3 kx3 x4 kx4 x5 kx5
      go_wp2
      go_ret
      exact ⟨rfl, HB2.out⟩
    · have hx : (vs.map ValD.cell)[m]? = none := List.getElem?_eq_none (by have := HSTL.out; rw [List.length_map]; omega)
      rw [hx] at hR
      have HR := Lib.hid hR
      have hmni : (n : Int) ≤ (m : Int) := by omega
      clear hR hx
      go_enter Try.func18, Try.ntmps18
      go_wp2_with fail
      obtain ⟨W0, hWW⟩ : ∃ W0 : World, W0 = ((w.alloc (.cells #[.int .u8 (p.op : Int), .int .u32 (p.field : Int), .int .u8 p.value.kind, .int .i64 p.value.n, .string p.value.s, .slice ka kn kc] 39)).alloc (.cells #[.int .u32 (s.id : Int), .slice fa fnn fc] 42)) := ⟨_, rfl⟩
      have hm : Mem w.heap.size [#[.int .u8 (p.op : Int), .int .u32 (p.field : Int), .int .u8 p.value.kind, .int .i64 p.value.n, .string p.value.s, .slice ka kn kc], #[.int .u32 (s.id : Int), .slice fa fnn fc]] w W0 := by rw [hWW]; exact (((Mem.nil w).push (by simp) #[.int .u8 (p.op : Int), .int .u32 (p.field : Int), .int .u8 p.value.kind, .int .i64 p.value.n, .string p.value.s, .slice ka kn kc] 39).push (by simp) #[.int .u32 (s.id : Int), .slice fa fnn fc] 42)
      have HSZW := Lib.hid (show W0.heap.size = w.heap.size + 2 by rw [hWW]; simp)
      rw [← hWW]
      clear hWW
      have M0 := Lib.hid hm
      clear hm
      refine (HPL.out _ (SchemaR.stable _ _ _ _ M0.out.below HSC.out)).mono ?_
      rintro e w1 ⟨rfl, hb⟩
      have M1 := Lib.hid (M0.out.call hb)
      clear hb
      go_wp2
      go_ret
      exact ⟨by rw [← HR.out]; rfl, M1.out.below⟩
/-- **pred.Eval, of any predicate.** -/
theorem eval_all : ∀ d, EvalHyp d
  | 0 => fun p cs s scs a n c vs w hp => hp.elim
  | d + 1 => fun p cs s scs a n c vs w hp hs hfl hst hn hsz => by
    have ih := eval_all d
    by_cases h6 : p.op = 6
    · exact eval_and d ih p cs s scs a n c vs w hp hs hfl hst hn hsz h6
    · by_cases h7 : p.op = 7
      · exact eval_or d ih p cs s scs a n c vs w hp hs hfl hst hn hsz h7
      · by_cases h8 : p.op = 8
        · exact eval_not d ih p cs s scs a n c vs w hp hs hfl hst hn hsz h8
        · exact eval_leaf d ih p cs s scs a n c vs w hp hs hfl hst hn hsz h6 h7 h8
end Go.Proofs.Ytkildbpfondgcaa
