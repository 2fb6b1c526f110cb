/- The contract of pred.May. -/
import Derived.Test.YtkofaoaglnjkgaaPrMay1
import Derived.Test.YtkofaoaglnjkgaaPrBoth
import Derived.Test.YtkofaoaglnjkgaaCellRowm
import Derived.Deep.RegionHeld3
namespace Go.Proofs.Ytkofaoaglnjkgaa
open Go.RowKit Go.Deep
set_option linter.unusedVariables false
set_option linter.unusedSimpArgs false

noncomputable def accM (g : Nat → Nat → Nat) (fs : List FieldD) (sts : List StatD) (d : Nat) (b : B3) (l : List PredD) : B3 := l.foldl (fun n k => bothB g n (mayN fs sts d k)) b
theorem accM_succ {g : Nat → Nat → Nat} {fs : List FieldD} {sts : List StatD} {d : Nat} {b : B3} {l : List PredD} {k : Nat} {x : PredD} (h : l[k]? = some x) : accM g fs sts d b (l.take (k + 1)) = bothB g (accM g fs sts d b (l.take k)) (mayN fs sts d x) := by
  unfold accM; rw [List.take_add_one, h, List.foldl_append]; rfl
def MayHyp (d : Nat) : Prop := ∀ (p : PredD) (cs : List Value) (s : SchemaD) (scs : List Value) (a : Option Addr) (n c : Nat) (sts : List StatD) (w : World), PredR d w cs p → SchemaR w scs s → s.fields.length ≤ 1000 → Sl 10 StatR w a n sts → n ≤ 1000 →
    Calls Try.prog 42 #[.agg cs.toArray, .agg scs.toArray, .slice a n c] w (ValIs (.agg (mayN s.fields sts d p).cells) w)
set_option maxRecDepth 100000 in
set_option maxHeartbeats 16000000 in
theorem may_and (d : Nat) (ih : MayHyp d) (p : PredD) (cs : List Value) (s : SchemaD) (scs : List Value) (a : Option Addr) (n c : Nat) (sts : List StatD) (w : World) (hp : PredR (d + 1) w cs p) (hs : SchemaR w scs s) (hfl : s.fields.length ≤ 1000) (hst : Sl 10 StatR w a n sts) (hn : n ≤ 1000) (ho : p.op = 6) :
    Calls Try.prog 42 #[.agg cs.toArray, .agg scs.toArray, .slice a n c] w (ValIs (.agg (mayN s.fields sts (d + 1) p).cells) w) := by
  have HSC := Lib.hid hs
  obtain ⟨ka, kn, kc, rfl, hk1, hk2, hk3, hkids, hpo, hpf, hpv⟩ := hp
  obtain ⟨fa, fnn, fc, rfl, hs1, hs2, hs3, hfs, hs4⟩ := hs
  have HK := Lib.hid hkids
  have HKL := Lib.hid hkids.1
  have HFL := Lib.hid hfl
  have HST := Lib.hid hst
  have HSTL := Lib.hid hst.1
  have HIH := Lib.hid ih
  have HPV := Lib.hid hpv
  have hkn : kn ≤ 9223372036854775807 := by unfold maxLen at hk2; omega
  clear ih hkids hfs hst hs3 hs4 hk3 hfl hpf hpv hk2 hs2
  obtain ⟨R, hR⟩ : ∃ R, mayN s.fields sts (d + 1) p = R := ⟨_, rfl⟩
  rw [hR]
  unfold mayN at hR
  rw [if_pos ho] at hR
  have hR2 : accM min s.fields sts d ⟨false, false, true⟩ p.kids = R := hR
  have HR := Lib.hid hR2
  clear hR hR2
  have hoi : (p.op : Int) = 6 := by omega
  rw [hoi]
  have HB_ := Lib.hid both_and
  go_enter Try.func42, Try.ntmps42
  go_wp2
  obtain ⟨W0, hWW⟩ : ∃ W0 : World, W0 = ((((w.alloc (.cells #[.int .u8 6, .int .u32 (p.field : Int), .int .u8 p.value.kind, .int .i64 p.value.n, .string p.value.s, .slice ka kn kc] 42)).alloc (.cells #[.int .u32 (s.id : Int), .slice fa fnn fc] 37)).alloc (.cells #[.bool false, .bool false, .bool false] 92)).alloc (.cells #[.bool false, .bool false, .bool true] 92)) := ⟨_, rfl⟩
  have hb0 : Below w.heap.size w W0 := by rw [hWW]; exact ((((Below.refl _ _).alloc (by first | exact Nat.le_refl _ | (simp; done) | (simp; omega)) _).alloc (by first | exact Nat.le_refl _ | (simp; done) | (simp; omega)) _).alloc (by first | exact Nat.le_refl _ | (simp; done) | (simp; omega)) _).alloc (by first | exact Nat.le_refl _ | (simp; done) | (simp; omega)) _
  have hsz : W0.heap.size = w.heap.size + 4 := by rw [hWW]; simp
  have hx0 : CellsAt W0 (w.heap.size) #[.int .u8 6, .int .u32 (p.field : Int), .int .u8 p.value.kind, .int .i64 p.value.n, .string p.value.s, .slice ka kn kc] := by rw [hWW]; exact (((CellsAt.alloc_at _ _ _ _ (by simp)).alloc (by first | (simp; done) | (simp; omega)) _).alloc (by first | (simp; done) | (simp; omega)) _).alloc (by first | (simp; done) | (simp; omega)) _
  have hf0 : Soft W0 (w.heap.size) := by rw [hWW]; exact (((Soft.alloc_at _ _ _ _ (by simp)).alloc (by first | (simp; done) | (simp; omega)) _).alloc (by first | (simp; done) | (simp; omega)) _).alloc (by first | (simp; done) | (simp; omega)) _
  have hx1 : CellsAt W0 (w.heap.size + 1) #[.int .u32 (s.id : Int), .slice fa fnn fc] := by rw [hWW]; exact ((CellsAt.alloc_at _ _ _ _ (by simp)).alloc (by first | (simp; done) | (simp; omega)) _).alloc (by first | (simp; done) | (simp; omega)) _
  have hf1 : Soft W0 (w.heap.size + 1) := by rw [hWW]; exact ((Soft.alloc_at _ _ _ _ (by simp)).alloc (by first | (simp; done) | (simp; omega)) _).alloc (by first | (simp; done) | (simp; omega)) _
  have hx2 : CellsAt W0 (w.heap.size + 1 + 1) #[.bool false, .bool false, .bool false] := by rw [hWW]; exact (CellsAt.alloc_at _ _ _ _ (by simp)).alloc (by first | (simp; done) | (simp; omega)) _
  have hf2 : Soft W0 (w.heap.size + 1 + 1) := by rw [hWW]; exact (Soft.alloc_at _ _ _ _ (by simp)).alloc (by first | (simp; done) | (simp; omega)) _
  have hx3 : CellsAt W0 (w.heap.size + 1 + 1 + 1) #[.bool false, .bool false, .bool true] := by rw [hWW]; exact CellsAt.alloc_at _ _ _ _ (by simp)
  have hf3 : Soft W0 (w.heap.size + 1 + 1 + 1) := by rw [hWW]; exact Soft.alloc_at _ _ _ _ (by simp)
  rw [← hWW]
  clear hWW
  have Hx0 := Lib.hid hx0
  have Fx0 := Lib.hid hf0
  have Hx1 := Lib.hid hx1
  have Fx1 := Lib.hid hf1
  have Hx2 := Lib.hid hx2
  have Fx2 := Lib.hid hf2
  have Hx3 := Lib.hid hx3
  have Fx3 := Lib.hid hf3
  have HBX := Lib.hid hb0
  have HSZ := Lib.hid hsz
  clear hb0 hx0 hf0 hx1 hf1 hx2 hf2 hx3 hf3
  go_loopw [28] (fun i wr => ∃ k : Nat, k ≤ kn ∧ i = .int .i64 (k : Int) ∧ CellsAt wr (w.heap.size + 1 + 1 + 1) (accM min s.fields sts d ⟨false, false, true⟩ (p.kids.take k)).cells ∧ Soft wr (w.heap.size + 1 + 1 + 1) ∧ Below (w.heap.size + 1 + 1 + 1) W0 wr ∧ w.heap.size + 1 + 1 + 1 < wr.heap.size) (fun i _ => kn - (intOf i).toNat)
  case atStart => exact ⟨0, Nat.zero_le _, rfl, Hx3.out, Fx3.out, Below.refl _ _, by omega⟩
  case round =>
    obtain ⟨k, hk, rfl, hc, hf, hb, hz⟩ := hrel
    have HC := Lib.hid hc
    have HF := Lib.hid hf
    have HB := Lib.hid hb
    have HBW := Lib.hid (HBX.out.trans (hb.mono (by omega)))
    clear hc hf hb
    by_cases hlt : k < kn
    · obtain ⟨b, off, x, kcs, rfl, hbl, hx, hcl, hr, hcell⟩ := HK.out.at_ hlt
      have HX := Lib.hid hx
      have HACC := Lib.hid (accM_succ (g := min) (fs := s.fields) (sts := sts) (d := d) (b := ⟨false, false, true⟩) hx)
      obtain ⟨xa, xn, xc, hkcs⟩ := hr.shape
      subst hkcs
      have d0 := (HBW.out.cell (p := ⟨b, off + k * 6 + 0, none⟩) hbl).trans (hcell 0 _ rfl)
      have d1 := (HBW.out.cell (p := ⟨b, off + k * 6 + 1, none⟩) hbl).trans (hcell 1 _ rfl)
      have d2 := (HBW.out.cell (p := ⟨b, off + k * 6 + 2, none⟩) hbl).trans (hcell 2 _ rfl)
      have d3 := (HBW.out.cell (p := ⟨b, off + k * 6 + 3, none⟩) hbl).trans (hcell 3 _ rfl)
      have d4 := (HBW.out.cell (p := ⟨b, off + k * 6 + 4, none⟩) hbl).trans (hcell 4 _ rfl)
      have d5 := (HBW.out.cell (p := ⟨b, off + k * 6 + 5, none⟩) hbl).trans (hcell 5 _ rfl)
      rw [Nat.add_zero] at d0
      have HKR := Lib.hid hr
      clear hcell hr hx
      go_wp2_with fail
      obtain ⟨W1, hW1⟩ : ∃ W1 : World, W1 = wr.alloc (.cells #[.int .u8 (x.op : Int), .int .u32 (x.field : Int), .int .u8 x.value.kind, .int .i64 x.value.n, .string x.value.s, .slice xa xn xc] 42) := ⟨_, rfl⟩
      have hb1 : Below wr.heap.size wr W1 := by rw [hW1]; exact (Below.refl _ _).alloc (Nat.le_refl _) _
      have hx1 : CellsAt W1 wr.heap.size #[.int .u8 (x.op : Int), .int .u32 (x.field : Int), .int .u8 x.value.kind, .int .i64 x.value.n, .string x.value.s, .slice xa xn xc] := by rw [hW1]; exact CellsAt.alloc_new _ _ _
      have hz1 : wr.heap.size < W1.heap.size := by rw [hW1]; simp
      rw [← hW1]
      clear hW1 d0 d1 d2 d3 d4 d5
      have HB1 := Lib.hid hb1
      have HC1 := Lib.hid (HC.out.below hb1 hz)
      have HF1 := Lib.hid (HF.out.below hb1 hz)
      have HBW1 := Lib.hid (HBW.out.trans (hb1.mono HBW.out.size))
      have HBT := Lib.hid (HB.out.trans (hb1.mono (by omega)))
      have hs1 := Hx1.out.below HBT.out (by omega)
      have x0 : W1.cell? ⟨wr.heap.size, 0, none⟩ = some (.int .u8 (x.op : Int)) := hx1 0 _ rfl
      have x1 : W1.cell? ⟨wr.heap.size, 1, none⟩ = some (.int .u32 (x.field : Int)) := hx1 1 _ rfl
      have x2 : W1.cell? ⟨wr.heap.size, 2, none⟩ = some (.int .u8 x.value.kind) := hx1 2 _ rfl
      have x3 : W1.cell? ⟨wr.heap.size, 3, none⟩ = some (.int .i64 x.value.n) := hx1 3 _ rfl
      have x4 : W1.cell? ⟨wr.heap.size, 4, none⟩ = some (.string x.value.s) := hx1 4 _ rfl
      have x5 : W1.cell? ⟨wr.heap.size, 5, none⟩ = some (.slice xa xn xc) := hx1 5 _ rfl
      have y0 : W1.cell? ⟨w.heap.size + 1, 0, none⟩ = some (.int .u32 (s.id : Int)) := hs1 0 _ rfl
      have y1 : W1.cell? ⟨w.heap.size + 1, 1, none⟩ = some (.slice fa fnn fc) := hs1 1 _ rfl
      obtain ⟨A0, hA0⟩ : ∃ A0, accM min s.fields sts d ⟨false, false, true⟩ (p.kids.take k) = A0 := ⟨_, rfl⟩
      rw [hA0] at HC1 HACC
      obtain ⟨M0, hM0⟩ : ∃ M0, mayN s.fields sts d x = M0 := ⟨_, rfl⟩
      have hcm : ∀ G : Kept W1, Calls Try.prog 42 #[.agg #[.int .u8 (x.op : Int), .int .u32 (x.field : Int), .int .u8 x.value.kind, .int .i64 x.value.n, .string x.value.s, .slice xa xn xc], .agg #[.int .u32 (s.id : Int), .slice fa fnn fc], .slice a n c] G.W (ValIs (.agg M0.cells) G.W) := fun G => by
        rw [← hM0]
        exact HIH.out x _ s _ a n c sts G.W ((PredR.stable d) _ _ _ _ (HBW1.out.trans (G.h.mono HBW1.out.size)) HKR.out) (SchemaR.stable _ _ _ _ (HBW1.out.trans (G.h.mono HBW1.out.size)) HSC.out) HFL.out (HST.out.below StatR.stable (HBW1.out.trans (G.h.mono HBW1.out.size))) hn
      rw [hM0] at HACC
      have HCM := Lib.hid hcm
      have HBOTH := Lib.hid (fun G : Kept W1 => HB_.out A0 M0 G.W)
      clear hcm hM0 hA0 hx1 hs1 hb1
      obtain ⟨A0a, A0b, A0c⟩ := A0
      obtain ⟨M0a, M0b, M0c⟩ := M0
      have c0 : W1.cell? ⟨w.heap.size + 1 + 1 + 1, 0, none⟩ = some (.bool A0a) := HC1.out 0 _ rfl
      have c1 : W1.cell? ⟨w.heap.size + 1 + 1 + 1, 1, none⟩ = some (.bool A0b) := HC1.out 1 _ rfl
      have c2 : W1.cell? ⟨w.heap.size + 1 + 1 + 1, 2, none⟩ = some (.bool A0c) := HC1.out 2 _ rfl
      obtain ⟨⟨N0, N1, N2⟩, hN⟩ : ∃ N0 : B3, bothB min ⟨A0a, A0b, A0c⟩ ⟨M0a, M0b, M0c⟩ = N0 := ⟨_, rfl⟩
      rw [hN] at HACC HBOTH
      simp only [B3.cells] at HBOTH HCM
      clear hN
      have kc0 := kept_cell c0
      have kc1 := kept_cell c1
      have kc2 := kept_cell c2
      have kx0 := kept_cell x0
      have kx1 := kept_cell x1
      have kx2 := kept_cell x2
      have kx3 := kept_cell x3
      have kx4 := kept_cell x4
      have kx5 := kept_cell x5
      have ky0 := kept_cell y0
      have ky1 := kept_cell y1
      refine wp_region_kept_tail 7 (by kernel_rfl) (by kernel_rfl) ?_
      simp only [List.take_succ_cons, List.take_zero, List.drop_succ_cons, List.drop_zero]
      repeat (go_big_quiet_step (first | (go_at_call 42; with_reducible exact kept_call (HCM.out _)) | (go_at_call 61; with_reducible exact kept_call (HBOTH.out _))))
      refine wpQuiet_nil ?_
      intro W2 hb2
      have e0 := (hb2.cell (p := ⟨w.heap.size + 1 + 1 + 1, 0, none⟩) (show w.heap.size + 1 + 1 + 1 < W1.heap.size by omega)).trans c0
      have e1 := (hb2.cell (p := ⟨w.heap.size + 1 + 1 + 1, 1, none⟩) (show w.heap.size + 1 + 1 + 1 < W1.heap.size by omega)).trans c1
      have e2 := (hb2.cell (p := ⟨w.heap.size + 1 + 1 + 1, 2, none⟩) (show w.heap.size + 1 + 1 + 1 < W1.heap.size by omega)).trans c2
      have hf2 := HF1.out.below hb2 (by omega)
      have gf := hf2
      unfold Soft at gf
      have HF2 := Lib.hid hf2
      have HC2 := Lib.hid (HC1.out.below hb2 (by omega))
      have HB2 := Lib.hid (HBT.out.trans (hb2.mono (by omega)))
      have hz2 : w.heap.size + 1 + 1 + 1 < W2.heap.size := by have := hb2.size; omega
      clear hb2 hf2 c0 c1 c2 x0 x1 x2 x3 x4 x5 y0 y1 kc0 kc1 kc2 kx0 kx1 kx2 kx3 kx4 kx5 ky0 ky1
      go_wp2
      go_roundw
      case rel =>
        refine ⟨k + 1, by omega, by go_num, ?_, ((HF2.out.set _ _).set _ _).set _ _, ((HB2.out.setCell (Nat.le_refl _) _).setCell (Nat.le_refl _) _).setCell (Nat.le_refl _) _, by simpa using hz2⟩
        rw [HACC.out]
        have := ((HC2.out.set (j := 0) (by simp [B3.cells]) (.bool N0)).set (j := 1) (by simp [B3.cells]) (.bool N1)).set (j := 2) (by simp [B3.cells]) (.bool N2)
        simpa [B3.cells] using this
      case measure => simp [intOf] <;> omega
    · have hall : p.kids.take k = p.kids := List.take_of_length_le (by have := HKL.out; omega)
      rw [hall, HR.out] at HC
      obtain ⟨r0, r1, r2⟩ := R
      have hc := HC.out
      have hx := Hx2.out.below HB.out (by omega)
      have qf := HF.out
      have qg := Fx2.out.below HB.out (by omega)
      unfold Soft at qf qg
      have o0 : wr.cell? ⟨w.heap.size + 1 + 1 + 1, 0, none⟩ = some (.bool r0) := hc 0 _ rfl
      have o1 : wr.cell? ⟨w.heap.size + 1 + 1 + 1, 1, none⟩ = some (.bool r1) := hc 1 _ rfl
      have o2 : wr.cell? ⟨w.heap.size + 1 + 1 + 1, 2, none⟩ = some (.bool r2) := hc 2 _ rfl
      have e0 : wr.cell? ⟨w.heap.size + 1 + 1, 0, none⟩ = some (.bool false) := hx 0 _ rfl
      have e1 : wr.cell? ⟨w.heap.size + 1 + 1, 1, none⟩ = some (.bool false) := hx 1 _ rfl
      have e2 : wr.cell? ⟨w.heap.size + 1 + 1, 2, none⟩ = some (.bool false) := hx 2 _ rfl
      clear hc hx hall HR
      go_wp2
      refine bodyPost_ret (v := .agg #[.bool r0, .bool r1, .bool r2]) (by simp [results, Try.results42, go_sem, e0, e1, e2]) rfl ?_
      refine ⟨rfl, ?_⟩
      repeat (with_reducible refine Below.setCell ?_ (by first | exact Nat.le_refl _ | (simp; done) | (simp; omega)) _)
      exact HBW.out
set_option maxRecDepth 100000 in
set_option maxHeartbeats 16000000 in
theorem may_or (d : Nat) (ih : MayHyp d) (p : PredD) (cs : List Value) (s : SchemaD) (scs : List Value) (a : Option Addr) (n c : Nat) (sts : List StatD) (w : World) (hp : PredR (d + 1) w cs p) (hs : SchemaR w scs s) (hfl : s.fields.length ≤ 1000) (hst : Sl 10 StatR w a n sts) (hn : n ≤ 1000) (ho : p.op = 7) :
    Calls Try.prog 42 #[.agg cs.toArray, .agg scs.toArray, .slice a n c] w (ValIs (.agg (mayN s.fields sts (d + 1) p).cells) w) := by
  have HSC := Lib.hid hs
  obtain ⟨ka, kn, kc, rfl, hk1, hk2, hk3, hkids, hpo, hpf, hpv⟩ := hp
  obtain ⟨fa, fnn, fc, rfl, hs1, hs2, hs3, hfs, hs4⟩ := hs
  have HK := Lib.hid hkids
  have HKL := Lib.hid hkids.1
  have HFL := Lib.hid hfl
  have HST := Lib.hid hst
  have HSTL := Lib.hid hst.1
  have HIH := Lib.hid ih
  have HPV := Lib.hid hpv
  have hkn : kn ≤ 9223372036854775807 := by unfold maxLen at hk2; omega
  clear ih hkids hfs hst hs3 hs4 hk3 hfl hpf hpv hk2 hs2
  obtain ⟨R, hR⟩ : ∃ R, mayN s.fields sts (d + 1) p = R := ⟨_, rfl⟩
  rw [hR]
  unfold mayN at hR
  rw [if_neg (by omega), if_pos ho] at hR
  have hR2 : accM max s.fields sts d ⟨true, false, false⟩ p.kids = R := hR
  have HR := Lib.hid hR2
  clear hR hR2
  have hoi : (p.op : Int) = 7 := by omega
  rw [hoi]
  have HB_ := Lib.hid both_or
  go_enter Try.func42, Try.ntmps42
  go_wp2
  obtain ⟨W0, hWW⟩ : ∃ W0 : World, W0 = ((((w.alloc (.cells #[.int .u8 7, .int .u32 (p.field : Int), .int .u8 p.value.kind, .int .i64 p.value.n, .string p.value.s, .slice ka kn kc] 42)).alloc (.cells #[.int .u32 (s.id : Int), .slice fa fnn fc] 37)).alloc (.cells #[.bool false, .bool false, .bool false] 92)).alloc (.cells #[.bool true, .bool false, .bool false] 92)) := ⟨_, rfl⟩
  have hb0 : Below w.heap.size w W0 := by rw [hWW]; exact ((((Below.refl _ _).alloc (by first | exact Nat.le_refl _ | (simp; done) | (simp; omega)) _).alloc (by first | exact Nat.le_refl _ | (simp; done) | (simp; omega)) _).alloc (by first | exact Nat.le_refl _ | (simp; done) | (simp; omega)) _).alloc (by first | exact Nat.le_refl _ | (simp; done) | (simp; omega)) _
  have hsz : W0.heap.size = w.heap.size + 4 := by rw [hWW]; simp
  have hx0 : CellsAt W0 (w.heap.size) #[.int .u8 7, .int .u32 (p.field : Int), .int .u8 p.value.kind, .int .i64 p.value.n, .string p.value.s, .slice ka kn kc] := by rw [hWW]; exact (((CellsAt.alloc_at _ _ _ _ (by simp)).alloc (by first | (simp; done) | (simp; omega)) _).alloc (by first | (simp; done) | (simp; omega)) _).alloc (by first | (simp; done) | (simp; omega)) _
  have hf0 : Soft W0 (w.heap.size) := by rw [hWW]; exact (((Soft.alloc_at _ _ _ _ (by simp)).alloc (by first | (simp; done) | (simp; omega)) _).alloc (by first | (simp; done) | (simp; omega)) _).alloc (by first | (simp; done) | (simp; omega)) _
  have hx1 : CellsAt W0 (w.heap.size + 1) #[.int .u32 (s.id : Int), .slice fa fnn fc] := by rw [hWW]; exact ((CellsAt.alloc_at _ _ _ _ (by simp)).alloc (by first | (simp; done) | (simp; omega)) _).alloc (by first | (simp; done) | (simp; omega)) _
  have hf1 : Soft W0 (w.heap.size + 1) := by rw [hWW]; exact ((Soft.alloc_at _ _ _ _ (by simp)).alloc (by first | (simp; done) | (simp; omega)) _).alloc (by first | (simp; done) | (simp; omega)) _
  have hx2 : CellsAt W0 (w.heap.size + 1 + 1) #[.bool false, .bool false, .bool false] := by rw [hWW]; exact (CellsAt.alloc_at _ _ _ _ (by simp)).alloc (by first | (simp; done) | (simp; omega)) _
  have hf2 : Soft W0 (w.heap.size + 1 + 1) := by rw [hWW]; exact (Soft.alloc_at _ _ _ _ (by simp)).alloc (by first | (simp; done) | (simp; omega)) _
  have hx3 : CellsAt W0 (w.heap.size + 1 + 1 + 1) #[.bool true, .bool false, .bool false] := by rw [hWW]; exact CellsAt.alloc_at _ _ _ _ (by simp)
  have hf3 : Soft W0 (w.heap.size + 1 + 1 + 1) := by rw [hWW]; exact Soft.alloc_at _ _ _ _ (by simp)
  rw [← hWW]
  clear hWW
  have Hx0 := Lib.hid hx0
  have Fx0 := Lib.hid hf0
  have Hx1 := Lib.hid hx1
  have Fx1 := Lib.hid hf1
  have Hx2 := Lib.hid hx2
  have Fx2 := Lib.hid hf2
  have Hx3 := Lib.hid hx3
  have Fx3 := Lib.hid hf3
  have HBX := Lib.hid hb0
  have HSZ := Lib.hid hsz
  clear hb0 hx0 hf0 hx1 hf1 hx2 hf2 hx3 hf3
  go_loopw [28] (fun i wr => ∃ k : Nat, k ≤ kn ∧ i = .int .i64 (k : Int) ∧ CellsAt wr (w.heap.size + 1 + 1 + 1) (accM max s.fields sts d ⟨true, false, false⟩ (p.kids.take k)).cells ∧ Soft wr (w.heap.size + 1 + 1 + 1) ∧ Below (w.heap.size + 1 + 1 + 1) W0 wr ∧ w.heap.size + 1 + 1 + 1 < wr.heap.size) (fun i _ => kn - (intOf i).toNat)
  case atStart => exact ⟨0, Nat.zero_le _, rfl, Hx3.out, Fx3.out, Below.refl _ _, by omega⟩
  case round =>
    obtain ⟨k, hk, rfl, hc, hf, hb, hz⟩ := hrel
    have HC := Lib.hid hc
    have HF := Lib.hid hf
    have HB := Lib.hid hb
    have HBW := Lib.hid (HBX.out.trans (hb.mono (by omega)))
    clear hc hf hb
    by_cases hlt : k < kn
    · obtain ⟨b, off, x, kcs, rfl, hbl, hx, hcl, hr, hcell⟩ := HK.out.at_ hlt
      have HX := Lib.hid hx
      have HACC := Lib.hid (accM_succ (g := max) (fs := s.fields) (sts := sts) (d := d) (b := ⟨true, false, false⟩) hx)
      obtain ⟨xa, xn, xc, hkcs⟩ := hr.shape
      subst hkcs
      have d0 := (HBW.out.cell (p := ⟨b, off + k * 6 + 0, none⟩) hbl).trans (hcell 0 _ rfl)
      have d1 := (HBW.out.cell (p := ⟨b, off + k * 6 + 1, none⟩) hbl).trans (hcell 1 _ rfl)
      have d2 := (HBW.out.cell (p := ⟨b, off + k * 6 + 2, none⟩) hbl).trans (hcell 2 _ rfl)
      have d3 := (HBW.out.cell (p := ⟨b, off + k * 6 + 3, none⟩) hbl).trans (hcell 3 _ rfl)
      have d4 := (HBW.out.cell (p := ⟨b, off + k * 6 + 4, none⟩) hbl).trans (hcell 4 _ rfl)
      have d5 := (HBW.out.cell (p := ⟨b, off + k * 6 + 5, none⟩) hbl).trans (hcell 5 _ rfl)
      rw [Nat.add_zero] at d0
      have HKR := Lib.hid hr
      clear hcell hr hx
      go_wp2_with fail
      obtain ⟨W1, hW1⟩ : ∃ W1 : World, W1 = wr.alloc (.cells #[.int .u8 (x.op : Int), .int .u32 (x.field : Int), .int .u8 x.value.kind, .int .i64 x.value.n, .string x.value.s, .slice xa xn xc] 42) := ⟨_, rfl⟩
      have hb1 : Below wr.heap.size wr W1 := by rw [hW1]; exact (Below.refl _ _).alloc (Nat.le_refl _) _
      have hx1 : CellsAt W1 wr.heap.size #[.int .u8 (x.op : Int), .int .u32 (x.field : Int), .int .u8 x.value.kind, .int .i64 x.value.n, .string x.value.s, .slice xa xn xc] := by rw [hW1]; exact CellsAt.alloc_new _ _ _
      have hz1 : wr.heap.size < W1.heap.size := by rw [hW1]; simp
      rw [← hW1]
      clear hW1 d0 d1 d2 d3 d4 d5
      have HB1 := Lib.hid hb1
      have HC1 := Lib.hid (HC.out.below hb1 hz)
      have HF1 := Lib.hid (HF.out.below hb1 hz)
      have HBW1 := Lib.hid (HBW.out.trans (hb1.mono HBW.out.size))
      have HBT := Lib.hid (HB.out.trans (hb1.mono (by omega)))
      have hs1 := Hx1.out.below HBT.out (by omega)
      have x0 : W1.cell? ⟨wr.heap.size, 0, none⟩ = some (.int .u8 (x.op : Int)) := hx1 0 _ rfl
      have x1 : W1.cell? ⟨wr.heap.size, 1, none⟩ = some (.int .u32 (x.field : Int)) := hx1 1 _ rfl
      have x2 : W1.cell? ⟨wr.heap.size, 2, none⟩ = some (.int .u8 x.value.kind) := hx1 2 _ rfl
      have x3 : W1.cell? ⟨wr.heap.size, 3, none⟩ = some (.int .i64 x.value.n) := hx1 3 _ rfl
      have x4 : W1.cell? ⟨wr.heap.size, 4, none⟩ = some (.string x.value.s) := hx1 4 _ rfl
      have x5 : W1.cell? ⟨wr.heap.size, 5, none⟩ = some (.slice xa xn xc) := hx1 5 _ rfl
      have y0 : W1.cell? ⟨w.heap.size + 1, 0, none⟩ = some (.int .u32 (s.id : Int)) := hs1 0 _ rfl
      have y1 : W1.cell? ⟨w.heap.size + 1, 1, none⟩ = some (.slice fa fnn fc) := hs1 1 _ rfl
      obtain ⟨A0, hA0⟩ : ∃ A0, accM max s.fields sts d ⟨true, false, false⟩ (p.kids.take k) = A0 := ⟨_, rfl⟩
      rw [hA0] at HC1 HACC
      obtain ⟨M0, hM0⟩ : ∃ M0, mayN s.fields sts d x = M0 := ⟨_, rfl⟩
      have hcm : ∀ G : Kept W1, Calls Try.prog 42 #[.agg #[.int .u8 (x.op : Int), .int .u32 (x.field : Int), .int .u8 x.value.kind, .int .i64 x.value.n, .string x.value.s, .slice xa xn xc], .agg #[.int .u32 (s.id : Int), .slice fa fnn fc], .slice a n c] G.W (ValIs (.agg M0.cells) G.W) := fun G => by
        rw [← hM0]
        exact HIH.out x _ s _ a n c sts G.W ((PredR.stable d) _ _ _ _ (HBW1.out.trans (G.h.mono HBW1.out.size)) HKR.out) (SchemaR.stable _ _ _ _ (HBW1.out.trans (G.h.mono HBW1.out.size)) HSC.out) HFL.out (HST.out.below StatR.stable (HBW1.out.trans (G.h.mono HBW1.out.size))) hn
      rw [hM0] at HACC
      have HCM := Lib.hid hcm
      have HBOTH := Lib.hid (fun G : Kept W1 => HB_.out A0 M0 G.W)
      clear hcm hM0 hA0 hx1 hs1 hb1
      obtain ⟨A0a, A0b, A0c⟩ := A0
      obtain ⟨M0a, M0b, M0c⟩ := M0
      have c0 : W1.cell? ⟨w.heap.size + 1 + 1 + 1, 0, none⟩ = some (.bool A0a) := HC1.out 0 _ rfl
      have c1 : W1.cell? ⟨w.heap.size + 1 + 1 + 1, 1, none⟩ = some (.bool A0b) := HC1.out 1 _ rfl
      have c2 : W1.cell? ⟨w.heap.size + 1 + 1 + 1, 2, none⟩ = some (.bool A0c) := HC1.out 2 _ rfl
      obtain ⟨⟨N0, N1, N2⟩, hN⟩ : ∃ N0 : B3, bothB max ⟨A0a, A0b, A0c⟩ ⟨M0a, M0b, M0c⟩ = N0 := ⟨_, rfl⟩
      rw [hN] at HACC HBOTH
      simp only [B3.cells] at HBOTH HCM
      clear hN
      have kc0 := kept_cell c0
      have kc1 := kept_cell c1
      have kc2 := kept_cell c2
      have kx0 := kept_cell x0
      have kx1 := kept_cell x1
      have kx2 := kept_cell x2
      have kx3 := kept_cell x3
      have kx4 := kept_cell x4
      have kx5 := kept_cell x5
      have ky0 := kept_cell y0
      have ky1 := kept_cell y1
      refine wp_region_kept_tail 7 (by kernel_rfl) (by kernel_rfl) ?_
      simp only [List.take_succ_cons, List.take_zero, List.drop_succ_cons, List.drop_zero]
      repeat (go_big_quiet_step (first | (go_at_call 42; with_reducible exact kept_call (HCM.out _)) | (go_at_call 61; with_reducible exact kept_call (HBOTH.out _))))
      refine wpQuiet_nil ?_
      intro W2 hb2
      have e0 := (hb2.cell (p := ⟨w.heap.size + 1 + 1 + 1, 0, none⟩) (show w.heap.size + 1 + 1 + 1 < W1.heap.size by omega)).trans c0
      have e1 := (hb2.cell (p := ⟨w.heap.size + 1 + 1 + 1, 1, none⟩) (show w.heap.size + 1 + 1 + 1 < W1.heap.size by omega)).trans c1
      have e2 := (hb2.cell (p := ⟨w.heap.size + 1 + 1 + 1, 2, none⟩) (show w.heap.size + 1 + 1 + 1 < W1.heap.size by omega)).trans c2
      have hf2 := HF1.out.below hb2 (by omega)
      have gf := hf2
      unfold Soft at gf
      have HF2 := Lib.hid hf2
      have HC2 := Lib.hid (HC1.out.below hb2 (by omega))
      have HB2 := Lib.hid (HBT.out.trans (hb2.mono (by omega)))
      have hz2 : w.heap.size + 1 + 1 + 1 < W2.heap.size := by have := hb2.size; omega
      clear hb2 hf2 c0 c1 c2 x0 x1 x2 x3 x4 x5 y0 y1 kc0 kc1 kc2 kx0 kx1 kx2 kx3 kx4 kx5 ky0 ky1
      go_wp2
      go_roundw
      case rel =>
        refine ⟨k + 1, by omega, by go_num, ?_, ((HF2.out.set _ _).set _ _).set _ _, ((HB2.out.setCell (Nat.le_refl _) _).setCell (Nat.le_refl _) _).setCell (Nat.le_refl _) _, by simpa using hz2⟩
        rw [HACC.out]
        have := ((HC2.out.set (j := 0) (by simp [B3.cells]) (.bool N0)).set (j := 1) (by simp [B3.cells]) (.bool N1)).set (j := 2) (by simp [B3.cells]) (.bool N2)
        simpa [B3.cells] using this
      case measure => simp [intOf] <;> omega
    · have hall : p.kids.take k = p.kids := List.take_of_length_le (by have := HKL.out; omega)
      rw [hall, HR.out] at HC
      obtain ⟨r0, r1, r2⟩ := R
      have hc := HC.out
      have hx := Hx2.out.below HB.out (by omega)
      have qf := HF.out
      have qg := Fx2.out.below HB.out (by omega)
      unfold Soft at qf qg
      have o0 : wr.cell? ⟨w.heap.size + 1 + 1 + 1, 0, none⟩ = some (.bool r0) := hc 0 _ rfl
      have o1 : wr.cell? ⟨w.heap.size + 1 + 1 + 1, 1, none⟩ = some (.bool r1) := hc 1 _ rfl
      have o2 : wr.cell? ⟨w.heap.size + 1 + 1 + 1, 2, none⟩ = some (.bool r2) := hc 2 _ rfl
      have e0 : wr.cell? ⟨w.heap.size + 1 + 1, 0, none⟩ = some (.bool false) := hx 0 _ rfl
      have e1 : wr.cell? ⟨w.heap.size + 1 + 1, 1, none⟩ = some (.bool false) := hx 1 _ rfl
      have e2 : wr.cell? ⟨w.heap.size + 1 + 1, 2, none⟩ = some (.bool false) := hx 2 _ rfl
      clear hc hx hall HR
      go_wp2
      refine bodyPost_ret (v := .agg #[.bool r0, .bool r1, .bool r2]) (by simp [results, Try.results42, go_sem, e0, e1, e2]) rfl ?_
      refine ⟨rfl, ?_⟩
      repeat (with_reducible refine Below.setCell ?_ (by first | exact Nat.le_refl _ | (simp; done) | (simp; omega)) _)
      exact HBW.out
end Go.Proofs.Ytkofaoaglnjkgaa
