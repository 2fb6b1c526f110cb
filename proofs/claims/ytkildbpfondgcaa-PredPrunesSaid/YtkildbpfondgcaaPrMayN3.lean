/- The contract of pred.May: a node with a field; not; any. The contract of pred.May: a node with a field; not; any. -/
import Derived.Test.YtkildbpfondgcaaPrMayN
namespace Go.Proofs.Ytkildbpfondgcaa
open Go.RowKit Go.Deep
set_option linter.unusedVariables false
set_option linter.unusedSimpArgs false

set_option maxRecDepth 100000 in
set_option maxHeartbeats 16000000 in
theorem may_leaf (d : Nat) (ih : MayHyp d) (p : PredD) (cs : List Value) (s : SchemaD) (scs : List Value) (a : Option Addr) (n c : Nat) (sts : List StatD) (w : World) (hp : PredR (d + 1) w cs p) (hs : SchemaR w scs s) (hfl : s.fields.length ≤ 1000) (hst : Sl 10 StatR w a n sts) (hn : n ≤ 1000) (h6 : p.op ≠ 6) (h7 : p.op ≠ 7) (h8 : p.op ≠ 8) :
    Calls Try.prog 17 #[.agg cs.toArray, .agg scs.toArray, .slice a n c] w (ValIs (.agg (mayN s.fields sts (d + 1) p).cells) w) := by
  have HSC := Lib.hid hs
  obtain ⟨ka, kn, kc, rfl, hk1, hk2, hk3, hkids, hpo, hpf, hpv⟩ := hp
  obtain ⟨fa, fnn, fc, rfl, hs1, hs2, hs3, hfs, hs4⟩ := hs
  have HK := Lib.hid hkids
  have HKL := Lib.hid hkids.1
  have HFL := Lib.hid hfl
  have HST := Lib.hid hst
  have HSTL := Lib.hid hst.1
  have HIH := Lib.hid ih
  have HPV := Lib.hid hpv
  have hkn : kn ≤ 9223372036854775807 := by unfold maxLen at hk2; omega
  clear ih hkids hfs hst hs3 hs4 hk3 hfl hpf hpv hk2 hs2
  have h6i : ((p.op : Int) == 6) = false := by rw [beq_eq_false_iff_ne]; omega
  have h7i : ((p.op : Int) == 7) = false := by rw [beq_eq_false_iff_ne]; omega
  have h8i : ((p.op : Int) == 8) = false := by rw [beq_eq_false_iff_ne]; omega
  obtain ⟨R, hR⟩ : ∃ R, mayN s.fields sts (d + 1) p = R := ⟨_, rfl⟩
  rw [hR]
  unfold mayN at hR
  rw [if_neg h6, if_neg h7, if_neg h8] at hR
  unfold mleafF at hR
  have hpl := fun (W : World) (h : SchemaR W [.int .u32 (s.id : Int), .slice fa fnn fc] s) => place_calls _ s p.field W h HFL.out
  have hran := idxF_lt (hasId p.field) s.fields
  have hrn : placeI s.fields p.field = idxF (hasId p.field) s.fields := rfl
  rw [← hrn] at hran
  clear hrn h6 h7 h8 HK HKL HIH
  generalize placeI s.fields p.field = i at *
  have HPL := Lib.hid hpl
  clear hpl
  unfold PlacePost at HPL
  by_cases hi : i < 0
  · rw [if_pos hi] at hR
    rw [if_pos hi] at HPL
    have hd : decide (0 ≤ i) = false := by rw [decide_eq_false_iff_not]; omega
    rw [hd] at HPL
    have HR := Lib.hid hR
    clear hR hd
    go_enter Try.func17, Try.ntmps17
    go_wp2_with fail
    obtain ⟨W0, hWW⟩ : ∃ W0 : World, W0 = (((w.alloc (.cells #[.int .u8 (p.op : Int), .int .u32 (p.field : Int), .int .u8 p.value.kind, .int .i64 p.value.n, .string p.value.s, .slice ka kn kc] 39)).alloc (.cells #[.int .u32 (s.id : Int), .slice fa fnn fc] 42)).alloc (.cells #[.bool false, .bool false, .bool false] 51)) := ⟨_, rfl⟩
    have hb0 : Below w.heap.size w W0 := by rw [hWW]; exact (((Below.refl _ _).alloc (by first | exact Nat.le_refl _ | (simp; done) | (simp; omega)) _).alloc (by first | exact Nat.le_refl _ | (simp; done) | (simp; omega)) _).alloc (by first | exact Nat.le_refl _ | (simp; done) | (simp; omega)) _
    have hsz : W0.heap.size = w.heap.size + 3 := by rw [hWW]; simp
    have hx0 : CellsAt W0 (w.heap.size) #[.int .u8 (p.op : Int), .int .u32 (p.field : Int), .int .u8 p.value.kind, .int .i64 p.value.n, .string p.value.s, .slice ka kn kc] := by rw [hWW]; exact ((CellsAt.alloc_at _ _ _ _ (by simp)).alloc (by first | (simp; done) | (simp; omega)) _).alloc (by first | (simp; done) | (simp; omega)) _
    have hf0 : Soft W0 (w.heap.size) := by rw [hWW]; exact ((Soft.alloc_at _ _ _ _ (by simp)).alloc (by first | (simp; done) | (simp; omega)) _).alloc (by first | (simp; done) | (simp; omega)) _
    have hx1 : CellsAt W0 (w.heap.size + 1) #[.int .u32 (s.id : Int), .slice fa fnn fc] := by rw [hWW]; exact (CellsAt.alloc_at _ _ _ _ (by simp)).alloc (by first | (simp; done) | (simp; omega)) _
    have hf1 : Soft W0 (w.heap.size + 1) := by rw [hWW]; exact (Soft.alloc_at _ _ _ _ (by simp)).alloc (by first | (simp; done) | (simp; omega)) _
    have hx2 : CellsAt W0 (w.heap.size + 1 + 1) #[.bool false, .bool false, .bool false] := by rw [hWW]; exact CellsAt.alloc_at _ _ _ _ (by simp)
    have hf2 : Soft W0 (w.heap.size + 1 + 1) := by rw [hWW]; exact Soft.alloc_at _ _ _ _ (by simp)
    rw [← hWW]
    clear hWW
    have Hx0 := Lib.hid hx0
    have Fx0 := Lib.hid hf0
    have Hx1 := Lib.hid hx1
    have Fx1 := Lib.hid hf1
    have Hx2 := Lib.hid hx2
    have Fx2 := Lib.hid hf2
    have HBX := Lib.hid hb0
    have HSZ := Lib.hid hsz
    clear hb0 hx0 hf0 hx1 hf1 hx2 hf2
    refine (HPL.out _ (SchemaR.stable _ _ _ _ HBX.out HSC.out)).mono ?_
    rintro e w1 ⟨rfl, hb⟩
    have hp1 := Hx0.out.below hb (by omega)
    have hs1 := Hx1.out.below hb (by omega)
    have hr1 := Hx2.out.below hb (by omega)
    have gr := Fx2.out.below hb (by omega)
    unfold Soft at gr
    have hz1 := hb.size
    have HB1 := Lib.hid hb
    have HBW := Lib.hid (HBX.out.trans (hb.mono (by omega)))
    clear hb
    have x0 : w1.cell? ⟨w.heap.size, 0, none⟩ = some (.int .u8 (p.op : Int)) := hp1 0 _ rfl
    have x1 : w1.cell? ⟨w.heap.size, 1, none⟩ = some (.int .u32 (p.field : Int)) := hp1 1 _ rfl
    have x2 : w1.cell? ⟨w.heap.size, 2, none⟩ = some (.int .u8 p.value.kind) := hp1 2 _ rfl
    have x3 : w1.cell? ⟨w.heap.size, 3, none⟩ = some (.int .i64 p.value.n) := hp1 3 _ rfl
    have x4 : w1.cell? ⟨w.heap.size, 4, none⟩ = some (.string p.value.s) := hp1 4 _ rfl
    have x5 : w1.cell? ⟨w.heap.size, 5, none⟩ = some (.slice ka kn kc) := hp1 5 _ rfl
    have y0 : w1.cell? ⟨w.heap.size + 1, 0, none⟩ = some (.int .u32 (s.id : Int)) := hs1 0 _ rfl
    have y1 : w1.cell? ⟨w.heap.size + 1, 1, none⟩ = some (.slice fa fnn fc) := hs1 1 _ rfl
    have e0 : w1.cell? ⟨w.heap.size + 1 + 1, 0, none⟩ = some (.bool false) := hr1 0 _ rfl
    have e1 : w1.cell? ⟨w.heap.size + 1 + 1, 1, none⟩ = some (.bool false) := hr1 1 _ rfl
    have e2 : w1.cell? ⟨w.heap.size + 1 + 1, 2, none⟩ = some (.bool false) := hr1 2 _ rfl
    clear hp1 hs1 hr1
    go_wp2
    refine bodyPost_ret (v := .agg #[.bool true, .bool true, .bool true]) (by simp [results, Try.results17, go_sem, e0, e1, e2]) rfl ⟨by rw [← HR.out]; rfl, ?_⟩
    repeat (with_reducible refine Below.setCell ?_ (by first | exact Nat.le_refl _ | (simp; done) | (simp; omega)) _)
    exact HBW.out
  · rw [if_neg hi] at hR
    rw [if_neg hi] at HPL
    obtain ⟨m, rfl⟩ : ∃ m : Nat, i = (m : Int) := ⟨i.toNat, by omega⟩
    have hd : decide ((0 : Int) ≤ (m : Int)) = true := by rw [decide_eq_true_iff]; omega
    rw [hd] at HPL
    rw [Int.toNat_natCast] at hR
    clear hd hi
    by_cases hmn : m < n
    · obtain ⟨b, off, st, scs, rfl, hbl, hx, hcl, hr, hcell⟩ := HST.out.at_ hmn
      rw [hx] at hR
      obtain ⟨hcs, _, _, ⟨_, hk1, _⟩, ⟨_, hk2, _⟩⟩ := hr
      obtain ⟨_, ⟨hk3, _⟩, _⟩ := HPV.out
      have hm0 : (0 : Int) ≤ (m : Int) := by omega
      have hmni : (m : Int) < (n : Int) := by omega
      subst hcs
      have HCELL := Lib.hid hcell
      have HR := Lib.hid hR
      have HMAY := Lib.hid (fun W => may_calls p.op p.field p.value (.slice ka kn kc) st W hk3 hk1.1 hk2.1)
      clear hR hcell hx hcl
      go_enter Try.func17, Try.ntmps17
      go_wp2_with fail
      obtain ⟨W0, hWW⟩ : ∃ W0 : World, W0 = (((w.alloc (.cells #[.int .u8 (p.op : Int), .int .u32 (p.field : Int), .int .u8 p.value.kind, .int .i64 p.value.n, .string p.value.s, .slice ka kn kc] 39)).alloc (.cells #[.int .u32 (s.id : Int), .slice fa fnn fc] 42)).alloc (.cells #[.bool false, .bool false, .bool false] 51)) := ⟨_, rfl⟩
      have hb0 : Below w.heap.size w W0 := by rw [hWW]; exact (((Below.refl _ _).alloc (by first | exact Nat.le_refl _ | (simp; done) | (simp; omega)) _).alloc (by first | exact Nat.le_refl _ | (simp; done) | (simp; omega)) _).alloc (by first | exact Nat.le_refl _ | (simp; done) | (simp; omega)) _
      have hsz : W0.heap.size = w.heap.size + 3 := by rw [hWW]; simp
      have hx0 : CellsAt W0 (w.heap.size) #[.int .u8 (p.op : Int), .int .u32 (p.field : Int), .int .u8 p.value.kind, .int .i64 p.value.n, .string p.value.s, .slice ka kn kc] := by rw [hWW]; exact ((CellsAt.alloc_at _ _ _ _ (by simp)).alloc (by first | (simp; done) | (simp; omega)) _).alloc (by first | (simp; done) | (simp; omega)) _
      have hf0 : Soft W0 (w.heap.size) := by rw [hWW]; exact ((Soft.alloc_at _ _ _ _ (by simp)).alloc (by first | (simp; done) | (simp; omega)) _).alloc (by first | (simp; done) | (simp; omega)) _
      have hx1 : CellsAt W0 (w.heap.size + 1) #[.int .u32 (s.id : Int), .slice fa fnn fc] := by rw [hWW]; exact (CellsAt.alloc_at _ _ _ _ (by simp)).alloc (by first | (simp; done) | (simp; omega)) _
      have hf1 : Soft W0 (w.heap.size + 1) := by rw [hWW]; exact (Soft.alloc_at _ _ _ _ (by simp)).alloc (by first | (simp; done) | (simp; omega)) _
      have hx2 : CellsAt W0 (w.heap.size + 1 + 1) #[.bool false, .bool false, .bool false] := by rw [hWW]; exact CellsAt.alloc_at _ _ _ _ (by simp)
      have hf2 : Soft W0 (w.heap.size + 1 + 1) := by rw [hWW]; exact Soft.alloc_at _ _ _ _ (by simp)
      rw [← hWW]
      clear hWW
      have Hx0 := Lib.hid hx0
      have Fx0 := Lib.hid hf0
      have Hx1 := Lib.hid hx1
      have Fx1 := Lib.hid hf1
      have Hx2 := Lib.hid hx2
      have Fx2 := Lib.hid hf2
      have HBX := Lib.hid hb0
      have HSZ := Lib.hid hsz
      clear hb0 hx0 hf0 hx1 hf1 hx2 hf2
      refine (HPL.out _ (SchemaR.stable _ _ _ _ HBX.out HSC.out)).mono ?_
      rintro e w1 ⟨rfl, hb⟩
      have hp1 := Hx0.out.below hb (by omega)
      have hs1 := Hx1.out.below hb (by omega)
      have hr1 := Hx2.out.below hb (by omega)
      have gr := Fx2.out.below hb (by omega)
      unfold Soft at gr
      have hz1 := hb.size
      have HB1 := Lib.hid hb
      have HBW := Lib.hid (HBX.out.trans (hb.mono (by omega)))
      clear hb
      have x0 : w1.cell? ⟨w.heap.size, 0, none⟩ = some (.int .u8 (p.op : Int)) := hp1 0 _ rfl
      have x1 : w1.cell? ⟨w.heap.size, 1, none⟩ = some (.int .u32 (p.field : Int)) := hp1 1 _ rfl
      have x2 : w1.cell? ⟨w.heap.size, 2, none⟩ = some (.int .u8 p.value.kind) := hp1 2 _ rfl
      have x3 : w1.cell? ⟨w.heap.size, 3, none⟩ = some (.int .i64 p.value.n) := hp1 3 _ rfl
      have x4 : w1.cell? ⟨w.heap.size, 4, none⟩ = some (.string p.value.s) := hp1 4 _ rfl
      have x5 : w1.cell? ⟨w.heap.size, 5, none⟩ = some (.slice ka kn kc) := hp1 5 _ rfl
      have y0 : w1.cell? ⟨w.heap.size + 1, 0, none⟩ = some (.int .u32 (s.id : Int)) := hs1 0 _ rfl
      have y1 : w1.cell? ⟨w.heap.size + 1, 1, none⟩ = some (.slice fa fnn fc) := hs1 1 _ rfl
      have e0 : w1.cell? ⟨w.heap.size + 1 + 1, 0, none⟩ = some (.bool false) := hr1 0 _ rfl
      have e1 : w1.cell? ⟨w.heap.size + 1 + 1, 1, none⟩ = some (.bool false) := hr1 1 _ rfl
      have e2 : w1.cell? ⟨w.heap.size + 1 + 1, 2, none⟩ = some (.bool false) := hr1 2 _ rfl
      clear hp1 hs1 hr1
      have d0 := (HBW.out.cell (p := ⟨b, off + m * 10 + 0, none⟩) hbl).trans (HCELL.out 0 _ rfl)
      have d1 := (HBW.out.cell (p := ⟨b, off + m * 10 + 1, none⟩) hbl).trans (HCELL.out 1 _ rfl)
      have d2 := (HBW.out.cell (p := ⟨b, off + m * 10 + 2, none⟩) hbl).trans (HCELL.out 2 _ rfl)
      have d3 := (HBW.out.cell (p := ⟨b, off + m * 10 + 3, none⟩) hbl).trans (HCELL.out 3 _ rfl)
      have d4 := (HBW.out.cell (p := ⟨b, off + m * 10 + 4, none⟩) hbl).trans (HCELL.out 4 _ rfl)
      have d5 := (HBW.out.cell (p := ⟨b, off + m * 10 + 5, none⟩) hbl).trans (HCELL.out 5 _ rfl)
      have d6 := (HBW.out.cell (p := ⟨b, off + m * 10 + 6, none⟩) hbl).trans (HCELL.out 6 _ rfl)
      have d7 := (HBW.out.cell (p := ⟨b, off + m * 10 + 7, none⟩) hbl).trans (HCELL.out 7 _ rfl)
      have d8 := (HBW.out.cell (p := ⟨b, off + m * 10 + 8, none⟩) hbl).trans (HCELL.out 8 _ rfl)
      have d9 := (HBW.out.cell (p := ⟨b, off + m * 10 + 9, none⟩) hbl).trans (HCELL.out 9 _ rfl)
      rw [Nat.add_zero] at d0
      go_wp2_with fail
      rw [show mayF p.op (fix p.value) st = R from HR.out] at HMAY
      obtain ⟨r0, r1, r2⟩ := R
      simp only [B3.cells, StatD.cells] at HMAY
      have kx0 := kept_cell x0
      have kx1 := kept_cell x1
      have kx2 := kept_cell x2
      have kx3 := kept_cell x3
      have kx4 := kept_cell x4
      have kx5 := kept_cell x5
      have kd0 := kept_cell d0
      have kd1 := kept_cell d1
      have kd2 := kept_cell d2
      have kd3 := kept_cell d3
      have kd4 := kept_cell d4
      have kd5 := kept_cell d5
      have kd6 := kept_cell d6
      have kd7 := kept_cell d7
      have kd8 := kept_cell d8
      have kd9 := kept_cell d9
      refine wp_region_kept_tail 6 (by kernel_rfl) (by kernel_rfl) ?_
      simp only [List.take_succ_cons, List.take_zero, List.drop_succ_cons, List.drop_zero]
      repeat (go_big_quiet_step (first | (go_at_call 38; with_reducible exact kept_call (HMAY.out _))))
      refine wpQuiet_nil ?_
      intro W2 hb2
      have e0' := (hb2.cell (p := ⟨w.heap.size + 1 + 1, 0, none⟩) (show w.heap.size + 1 + 1 < w1.heap.size by omega)).trans e0
      have e1' := (hb2.cell (p := ⟨w.heap.size + 1 + 1, 1, none⟩) (show w.heap.size + 1 + 1 < w1.heap.size by omega)).trans e1
      have e2' := (hb2.cell (p := ⟨w.heap.size + 1 + 1, 2, none⟩) (show w.heap.size + 1 + 1 < w1.heap.size by omega)).trans e2
      have gf := Soft.below (w := w1) gr hb2 (show w.heap.size + 1 + 1 < w1.heap.size by omega)
      unfold Soft at gf
      have HBW2 := Lib.hid (HBW.out.trans (hb2.mono HBW.out.size))
      clear hb2 gr e0 e1 e2 x0 kx0 x1 kx1 x2 kx2 x3 kx3 x4 kx4 x5 kx5 d0 kd0 d1 kd1 d2 kd2 d3 kd3 d4 kd4 d5 kd5 d6 kd6 d7 kd7 d8 kd8 d9 kd9
      go_wp2
      refine bodyPost_ret (v := .agg #[.bool r0, .bool r1, .bool r2]) (by simp [results, Try.results17, go_sem, e0', e1', e2']) rfl ⟨rfl, ?_⟩
      repeat (with_reducible refine Below.setCell ?_ (by first | exact Nat.le_refl _ | (simp; done) | (simp; omega)) _)
      exact HBW2.out
    · have hx : sts[m]? = none := List.getElem?_eq_none (by have := HSTL.out; omega)
      rw [hx] at hR
      have HR := Lib.hid hR
      have hmni : (n : Int) ≤ (m : Int) := by omega
      clear hR hx
      go_enter Try.func17, Try.ntmps17
      go_wp2_with fail
      obtain ⟨W0, hWW⟩ : ∃ W0 : World, W0 = (((w.alloc (.cells #[.int .u8 (p.op : Int), .int .u32 (p.field : Int), .int .u8 p.value.kind, .int .i64 p.value.n, .string p.value.s, .slice ka kn kc] 39)).alloc (.cells #[.int .u32 (s.id : Int), .slice fa fnn fc] 42)).alloc (.cells #[.bool false, .bool false, .bool false] 51)) := ⟨_, rfl⟩
      have hb0 : Below w.heap.size w W0 := by rw [hWW]; exact (((Below.refl _ _).alloc (by first | exact Nat.le_refl _ | (simp; done) | (simp; omega)) _).alloc (by first | exact Nat.le_refl _ | (simp; done) | (simp; omega)) _).alloc (by first | exact Nat.le_refl _ | (simp; done) | (simp; omega)) _
      have hsz : W0.heap.size = w.heap.size + 3 := by rw [hWW]; simp
      have hx0 : CellsAt W0 (w.heap.size) #[.int .u8 (p.op : Int), .int .u32 (p.field : Int), .int .u8 p.value.kind, .int .i64 p.value.n, .string p.value.s, .slice ka kn kc] := by rw [hWW]; exact ((CellsAt.alloc_at _ _ _ _ (by simp)).alloc (by first | (simp; done) | (simp; omega)) _).alloc (by first | (simp; done) | (simp; omega)) _
      have hf0 : Soft W0 (w.heap.size) := by rw [hWW]; exact ((Soft.alloc_at _ _ _ _ (by simp)).alloc (by first | (simp; done) | (simp; omega)) _).alloc (by first | (simp; done) | (simp; omega)) _
      have hx1 : CellsAt W0 (w.heap.size + 1) #[.int .u32 (s.id : Int), .slice fa fnn fc] := by rw [hWW]; exact (CellsAt.alloc_at _ _ _ _ (by simp)).alloc (by first | (simp; done) | (simp; omega)) _
      have hf1 : Soft W0 (w.heap.size + 1) := by rw [hWW]; exact (Soft.alloc_at _ _ _ _ (by simp)).alloc (by first | (simp; done) | (simp; omega)) _
      have hx2 : CellsAt W0 (w.heap.size + 1 + 1) #[.bool false, .bool false, .bool false] := by rw [hWW]; exact CellsAt.alloc_at _ _ _ _ (by simp)
      have hf2 : Soft W0 (w.heap.size + 1 + 1) := by rw [hWW]; exact Soft.alloc_at _ _ _ _ (by simp)
      rw [← hWW]
      clear hWW
      have Hx0 := Lib.hid hx0
      have Fx0 := Lib.hid hf0
      have Hx1 := Lib.hid hx1
      have Fx1 := Lib.hid hf1
      have Hx2 := Lib.hid hx2
      have Fx2 := Lib.hid hf2
      have HBX := Lib.hid hb0
      have HSZ := Lib.hid hsz
      clear hb0 hx0 hf0 hx1 hf1 hx2 hf2
      refine (HPL.out _ (SchemaR.stable _ _ _ _ HBX.out HSC.out)).mono ?_
      rintro e w1 ⟨rfl, hb⟩
      have hp1 := Hx0.out.below hb (by omega)
      have hs1 := Hx1.out.below hb (by omega)
      have hr1 := Hx2.out.below hb (by omega)
      have gr := Fx2.out.below hb (by omega)
      unfold Soft at gr
      have hz1 := hb.size
      have HB1 := Lib.hid hb
      have HBW := Lib.hid (HBX.out.trans (hb.mono (by omega)))
      clear hb
      have x0 : w1.cell? ⟨w.heap.size, 0, none⟩ = some (.int .u8 (p.op : Int)) := hp1 0 _ rfl
      have x1 : w1.cell? ⟨w.heap.size, 1, none⟩ = some (.int .u32 (p.field : Int)) := hp1 1 _ rfl
      have x2 : w1.cell? ⟨w.heap.size, 2, none⟩ = some (.int .u8 p.value.kind) := hp1 2 _ rfl
      have x3 : w1.cell? ⟨w.heap.size, 3, none⟩ = some (.int .i64 p.value.n) := hp1 3 _ rfl
      have x4 : w1.cell? ⟨w.heap.size, 4, none⟩ = some (.string p.value.s) := hp1 4 _ rfl
      have x5 : w1.cell? ⟨w.heap.size, 5, none⟩ = some (.slice ka kn kc) := hp1 5 _ rfl
      have y0 : w1.cell? ⟨w.heap.size + 1, 0, none⟩ = some (.int .u32 (s.id : Int)) := hs1 0 _ rfl
      have y1 : w1.cell? ⟨w.heap.size + 1, 1, none⟩ = some (.slice fa fnn fc) := hs1 1 _ rfl
      have e0 : w1.cell? ⟨w.heap.size + 1 + 1, 0, none⟩ = some (.bool false) := hr1 0 _ rfl
      have e1 : w1.cell? ⟨w.heap.size + 1 + 1, 1, none⟩ = some (.bool false) := hr1 1 _ rfl
      have e2 : w1.cell? ⟨w.heap.size + 1 + 1, 2, none⟩ = some (.bool false) := hr1 2 _ rfl
      clear hp1 hs1 hr1
      go_wp2
      refine bodyPost_ret (v := .agg #[.bool true, .bool true, .bool true]) (by simp [results, Try.results17, go_sem, e0, e1, e2]) rfl ⟨by rw [← HR.out]; rfl, ?_⟩
      repeat (with_reducible refine Below.setCell ?_ (by first | exact Nat.le_refl _ | (simp; done) | (simp; omega)) _)
      exact HBW.out
end Go.Proofs.Ytkildbpfondgcaa

namespace Go.Proofs.Ytkildbpfondgcaa
open Go.RowKit Go.Deep
set_option linter.unusedVariables false
set_option linter.unusedSimpArgs false

set_option maxRecDepth 100000 in
set_option maxHeartbeats 16000000 in
theorem may_not (d : Nat) (ih : MayHyp d) (p : PredD) (cs : List Value) (s : SchemaD) (scs : List Value) (a : Option Addr) (n c : Nat) (sts : List StatD) (w : World) (hp : PredR (d + 1) w cs p) (hs : SchemaR w scs s) (hfl : s.fields.length ≤ 1000) (hst : Sl 10 StatR w a n sts) (hn : n ≤ 1000) (h8 : p.op = 8) :
    Calls Try.prog 17 #[.agg cs.toArray, .agg scs.toArray, .slice a n c] w (ValIs (.agg (mayN s.fields sts (d + 1) p).cells) w) := by
  have HSC := Lib.hid hs
  obtain ⟨ka, kn, kc, rfl, hk1, hk2, hk3, hkids, hpo, hpf, hpv⟩ := hp
  obtain ⟨fa, fnn, fc, rfl, hs1, hs2, hs3, hfs, hs4⟩ := hs
  have HK := Lib.hid hkids
  have HKL := Lib.hid hkids.1
  have HFL := Lib.hid hfl
  have HST := Lib.hid hst
  have HSTL := Lib.hid hst.1
  have HIH := Lib.hid ih
  have HPV := Lib.hid hpv
  have hkn : kn ≤ 9223372036854775807 := by unfold maxLen at hk2; omega
  clear ih hkids hfs hst hs3 hs4 hk3 hfl hpf hpv hk2 hs2
  have h8i : (p.op : Int) = 8 := by omega
  obtain ⟨R, hR⟩ : ∃ R, mayN s.fields sts (d + 1) p = R := ⟨_, rfl⟩
  rw [hR]
  unfold mayN at hR
  rw [if_neg (by omega), if_neg (by omega), if_pos h8] at hR
  rw [h8i]
  by_cases hk0 : kn = 0
  · subst hk0
    have hnil : p.kids = [] := List.eq_nil_of_length_eq_zero HKL.out
    rw [hnil] at hR
    have HR := Lib.hid hR
    clear hR hnil h8
    go_enter Try.func17, Try.ntmps17
    go_wp2
    refine bodyPost_ret (v := .agg #[.bool false, .bool true, .bool false]) (by simp [results, Try.results17, go_sem]) rfl ⟨by rw [← HR.out]; rfl, ?_⟩
    repeat (first | exact Below.refl _ _ | refine Below.setCell ?_ (by simp <;> omega) _ | refine Below.alloc ?_ (by simp <;> omega) _)
  · obtain ⟨b, off, x, kcs, rfl, hbl, hx, hcl, hr, hcell⟩ := HK.out.at_ (i := 0) (by omega)
    obtain ⟨xs, hkx⟩ : ∃ xs, p.kids = x :: xs := by
      cases hq : p.kids with
      | nil => rw [hq] at hx; cases hx
      | cons y ys => rw [hq] at hx; simp at hx; subst hx; exact ⟨ys, rfl⟩
    rw [hkx] at hR
    obtain ⟨M0, hM0⟩ : ∃ M0, mayN s.fields sts d x = M0 := ⟨_, rfl⟩
    simp only [hM0] at hR
    have HR := Lib.hid hR
    obtain ⟨xa, xn, xc, hkcs⟩ := hr.shape
    subst hkcs
    have HKR := Lib.hid hr
    have HCELL := Lib.hid hcell
    have hk0i : (0 : Int) < (kn : Int) := by omega
    clear hR hkx hr hcell hx hcl h8 hk0
    go_enter Try.func17, Try.ntmps17
    go_wp2_with fail
    obtain ⟨W0, hWW⟩ : ∃ W0 : World, W0 = (((w.alloc (.cells #[.int .u8 8, .int .u32 (p.field : Int), .int .u8 p.value.kind, .int .i64 p.value.n, .string p.value.s, .slice (some ⟨b, off, none⟩) kn kc] 39)).alloc (.cells #[.int .u32 (s.id : Int), .slice fa fnn fc] 42)).alloc (.cells #[.bool false, .bool false, .bool false] 51)) := ⟨_, rfl⟩
    have hb0 : Below w.heap.size w W0 := by rw [hWW]; exact (((Below.refl _ _).alloc (by first | exact Nat.le_refl _ | (simp; done) | (simp; omega)) _).alloc (by first | exact Nat.le_refl _ | (simp; done) | (simp; omega)) _).alloc (by first | exact Nat.le_refl _ | (simp; done) | (simp; omega)) _
    have hsz : W0.heap.size = w.heap.size + 3 := by rw [hWW]; simp
    have hx0 : CellsAt W0 (w.heap.size) #[.int .u8 8, .int .u32 (p.field : Int), .int .u8 p.value.kind, .int .i64 p.value.n, .string p.value.s, .slice (some ⟨b, off, none⟩) kn kc] := by rw [hWW]; exact ((CellsAt.alloc_at _ _ _ _ (by simp)).alloc (by first | (simp; done) | (simp; omega)) _).alloc (by first | (simp; done) | (simp; omega)) _
    have hf0 : Soft W0 (w.heap.size) := by rw [hWW]; exact ((Soft.alloc_at _ _ _ _ (by simp)).alloc (by first | (simp; done) | (simp; omega)) _).alloc (by first | (simp; done) | (simp; omega)) _
    have hx1 : CellsAt W0 (w.heap.size + 1) #[.int .u32 (s.id : Int), .slice fa fnn fc] := by rw [hWW]; exact (CellsAt.alloc_at _ _ _ _ (by simp)).alloc (by first | (simp; done) | (simp; omega)) _
    have hf1 : Soft W0 (w.heap.size + 1) := by rw [hWW]; exact (Soft.alloc_at _ _ _ _ (by simp)).alloc (by first | (simp; done) | (simp; omega)) _
    have hx2 : CellsAt W0 (w.heap.size + 1 + 1) #[.bool false, .bool false, .bool false] := by rw [hWW]; exact CellsAt.alloc_at _ _ _ _ (by simp)
    have hf2 : Soft W0 (w.heap.size + 1 + 1) := by rw [hWW]; exact Soft.alloc_at _ _ _ _ (by simp)
    rw [← hWW]
    clear hWW
    have Hx0 := Lib.hid hx0
    have Fx0 := Lib.hid hf0
    have Hx1 := Lib.hid hx1
    have Fx1 := Lib.hid hf1
    have Hx2 := Lib.hid hx2
    have Fx2 := Lib.hid hf2
    have HBX := Lib.hid hb0
    have HSZ := Lib.hid hsz
    clear hb0 hx0 hf0 hx1 hf1 hx2 hf2
    have hcm : ∀ W, Below W0.heap.size W0 W → Calls Try.prog 17 #[.agg #[.int .u8 (x.op : Int), .int .u32 (x.field : Int), .int .u8 x.value.kind, .int .i64 x.value.n, .string x.value.s, .slice xa xn xc], .agg #[.int .u32 (s.id : Int), .slice fa fnn fc], .slice a n c] W (ValIs (.agg M0.cells) W) := fun W hb => by
      have hbw := HBX.out.trans (hb.mono (B' := w.heap.size) (by omega))
      rw [← hM0]
      exact HIH.out x _ s _ a n c sts W ((PredR.stable d) _ _ _ _ hbw HKR.out) (SchemaR.stable _ _ _ _ hbw HSC.out) HFL.out (HST.out.below StatR.stable hbw) hn
    have HCM := Lib.hid hcm
    have hS : ∀ W, Below W0.heap.size W0 W → W.cell? ⟨w.heap.size, 5, none⟩ = some (.slice (some ⟨b, off, none⟩) kn kc) ∧ W.cell? ⟨b, off, none⟩ = some (.int .u8 (x.op : Int)) ∧ W.cell? ⟨b, off + 1, none⟩ = some (.int .u32 (x.field : Int)) ∧ W.cell? ⟨b, off + 2, none⟩ = some (.int .u8 x.value.kind) ∧ W.cell? ⟨b, off + 3, none⟩ = some (.int .i64 x.value.n) ∧ W.cell? ⟨b, off + 4, none⟩ = some (.string x.value.s) ∧ W.cell? ⟨b, off + 5, none⟩ = some (.slice xa xn xc) ∧ W.cell? ⟨w.heap.size + 1, 0, none⟩ = some (.int .u32 (s.id : Int)) ∧ W.cell? ⟨w.heap.size + 1, 1, none⟩ = some (.slice fa fnn fc) := fun W hb => by
      have hbw := HBX.out.trans (hb.mono (B' := w.heap.size) (by omega))
      have hp1 := Hx0.out.below hb (by omega)
      have hs1 := Hx1.out.below hb (by omega)
      have hc := fun j v hj => (hbw.cell (p := ⟨b, off + 0 * 6 + j, none⟩) hbl).trans (HCELL.out j v hj)
      simp only [Nat.zero_mul, Nat.add_zero] at hc
      exact ⟨hp1 5 _ rfl, hc 0 _ rfl, hc 1 _ rfl, hc 2 _ rfl, hc 3 _ rfl, hc 4 _ rfl, hc 5 _ rfl, hs1 0 _ rfl, hs1 1 _ rfl⟩
    have HSS := Lib.hid hS
    have hzf : ∀ W, Below ((W0.alloc (.cells #[.bool false, .bool false, .bool false] 51)).drew).heap.size ((W0.alloc (.cells #[.bool false, .bool false, .bool false] 51)).drew) W → CellsAt W W0.heap.size #[.bool false, .bool false, .bool false] ∧ Soft W W0.heap.size ∧ W0.heap.size < W.heap.size := fun W hb => by
      have hz : W0.heap.size < ((W0.alloc (.cells #[.bool false, .bool false, .bool false] 51)).drew).heap.size := by simp
      exact ⟨CellsAt.below (fun i v h => by rw [World.cell?_drew, World.cell?_alloc_new]; exact h) hb hz, Soft.below (fun i => by simp) hb hz, Nat.lt_of_lt_of_le hz hb.size⟩
    have HZF := Lib.hid hzf
    obtain ⟨m0, m1, m2⟩ := M0
    simp only [B3.cells] at HCM
    clear hcm hS hzf hM0 hsz
    go_region_held3 (fun W => W.cell? ⟨w.heap.size, 5, none⟩ = some (.slice (some ⟨b, off, none⟩) kn kc) ∧ W.cell? ⟨b, off, none⟩ = some (.int .u8 (x.op : Int)) ∧ W.cell? ⟨b, off + 1, none⟩ = some (.int .u32 (x.field : Int)) ∧ W.cell? ⟨b, off + 2, none⟩ = some (.int .u8 x.value.kind) ∧ W.cell? ⟨b, off + 3, none⟩ = some (.int .i64 x.value.n) ∧ W.cell? ⟨b, off + 4, none⟩ = some (.string x.value.s) ∧ W.cell? ⟨b, off + 5, none⟩ = some (.slice xa xn xc) ∧ W.cell? ⟨w.heap.size + 1, 0, none⟩ = some (.int .u32 (s.id : Int)) ∧ W.cell? ⟨w.heap.size + 1, 1, none⟩ = some (.slice fa fnn fc))
      (first | (refine HSS.out _ ?_; repeat (first | (with_reducible exact k5) | (with_reducible exact Below.refl _ _) | (with_reducible refine Below.setCell ?_ (by first | exact Nat.le_refl _ | (simp; done) | (simp; omega)) _) | (with_reducible refine Below.drew ?_) | (with_reducible refine Below.alloc ?_ (by first | exact Nat.le_refl _ | exact k5.size | (simp; done) | (simp; omega)) _))))
      (first
        | (go_at_call 17; (with_reducible refine (HCM.out _ (((Below.refl W0.heap.size W0).alloc (Nat.le_refl _) (.cells #[.bool false, .bool false, .bool false] 51)).drew)).mono ?_); rintro e w5 ⟨rfl, hp5⟩; have k5 : Below W0.heap.size W0 w5 := (((Below.refl W0.heap.size W0).alloc (Nat.le_refl _) (.cells #[.bool false, .bool false, .bool false] 51)).drew).trans (hp5.mono (by simp)); have HZ5 := Lib.hid (HZF.out _ hp5); have HK5 := Lib.hid k5; obtain ⟨z0, z1, z2⟩ : w5.cell? ⟨W0.heap.size, 0, none⟩ = some (.bool false) ∧ w5.cell? ⟨W0.heap.size, 1, none⟩ = some (.bool false) ∧ w5.cell? ⟨W0.heap.size, 2, none⟩ = some (.bool false) := ⟨HZ5.out.1 0 _ rfl, HZ5.out.1 1 _ rfl, HZ5.out.1 2 _ rfl⟩; have fz : ∀ i, w5.frozen? ⟨W0.heap.size, i, none⟩ = false := HZ5.out.2.1; have hz5 := HZ5.out.2.2; clear hp5)
        | (go_at_call 17; (with_reducible refine (HCM.out _ ((Below.refl W0.heap.size W0).drew)).mono ?_); rintro e w5 ⟨rfl, hp5⟩; have k5 : Below W0.heap.size W0 w5 := ((Below.refl W0.heap.size W0).drew).trans hp5; have HK5 := Lib.hid k5; clear hp5))
    · have hb6 : Below w5.heap.size w5 (w5.alloc (.cells #[.bool m0, .bool m1, .bool m2] 51)) := (Below.refl _ _).alloc (Nat.le_refl _) _
      have hc6 : CellsAt (w5.alloc (.cells #[.bool m0, .bool m1, .bool m2] 51)) w5.heap.size #[.bool m0, .bool m1, .bool m2] := CellsAt.alloc_new _ _ _
      generalize (w5.alloc (.cells #[.bool m0, .bool m1, .bool m2] 51)) = W6 at *
      have HK6 := Lib.hid (HK5.out.trans (hb6.mono HK5.out.size))
      have q0 : W6.cell? ⟨w5.heap.size, 0, none⟩ = some (.bool m0) := hc6 0 _ rfl
      have q1 : W6.cell? ⟨w5.heap.size, 1, none⟩ = some (.bool m1) := hc6 1 _ rfl
      have q2 : W6.cell? ⟨w5.heap.size, 2, none⟩ = some (.bool m2) := hc6 2 _ rfl
      have hr1 := Hx2.out.below HK6.out (by rw [HSZ.out]; omega)
      have gr := Fx2.out.below HK6.out (by rw [HSZ.out]; omega)
      unfold Soft at gr
      have e0 : W6.cell? ⟨w.heap.size + 1 + 1, 0, none⟩ = some (.bool false) := hr1 0 _ rfl
      have e1 : W6.cell? ⟨w.heap.size + 1 + 1, 1, none⟩ = some (.bool false) := hr1 1 _ rfl
      have e2 : W6.cell? ⟨w.heap.size + 1 + 1, 2, none⟩ = some (.bool false) := hr1 2 _ rfl
      have HBW5 := Lib.hid (HBX.out.trans (HK6.out.mono (by rw [HSZ.out]; omega)))
      have hne : ¬ w.heap.size + 1 + 1 = w5.heap.size := by have := HK5.out.size; rw [HSZ.out] at this; omega
      clear hr1 k5 hc6 hb6
      go_wp2
      refine bodyPost_ret (v := .agg #[.bool m2, .bool m1, .bool m0]) (by simp [results, Try.results17, go_sem, e0, e1, e2]) rfl ⟨by rw [← HR.out]; rfl, ?_⟩
      repeat (with_reducible refine Below.setCell ?_ (by first | exact Nat.le_refl _ | (simp; done) | omega | (simp; omega)) _)
      exact HBW5.out
    · have hc6 : CellsAt (((w5.setCell ⟨W0.heap.size, 0, none⟩ (.bool m0)).setCell ⟨W0.heap.size, 1, none⟩ (.bool m1)).setCell ⟨W0.heap.size, 2, none⟩ (.bool m2)) W0.heap.size #[.bool m0, .bool m1, .bool m2] := by have := ((HZ5.out.1.set (j := 0) (by simp) (.bool m0)).set (j := 1) (by simp) (.bool m1)).set (j := 2) (by simp) (.bool m2); simpa using this
      have hb6 : Below W0.heap.size W0 (((w5.setCell ⟨W0.heap.size, 0, none⟩ (.bool m0)).setCell ⟨W0.heap.size, 1, none⟩ (.bool m1)).setCell ⟨W0.heap.size, 2, none⟩ (.bool m2)) := ((HK5.out.setCell (Nat.le_refl _) _).setCell (Nat.le_refl _) _).setCell (Nat.le_refl _) _
      generalize (((w5.setCell ⟨W0.heap.size, 0, none⟩ (.bool m0)).setCell ⟨W0.heap.size, 1, none⟩ (.bool m1)).setCell ⟨W0.heap.size, 2, none⟩ (.bool m2)) = W6 at *
      have HK6 := Lib.hid hb6
      have q0 : W6.cell? ⟨W0.heap.size, 0, none⟩ = some (.bool m0) := hc6 0 _ rfl
      have q1 : W6.cell? ⟨W0.heap.size, 1, none⟩ = some (.bool m1) := hc6 1 _ rfl
      have q2 : W6.cell? ⟨W0.heap.size, 2, none⟩ = some (.bool m2) := hc6 2 _ rfl
      have hr1 := Hx2.out.below HK6.out (by rw [HSZ.out]; omega)
      have gr := Fx2.out.below HK6.out (by rw [HSZ.out]; omega)
      unfold Soft at gr
      have e0 : W6.cell? ⟨w.heap.size + 1 + 1, 0, none⟩ = some (.bool false) := hr1 0 _ rfl
      have e1 : W6.cell? ⟨w.heap.size + 1 + 1, 1, none⟩ = some (.bool false) := hr1 1 _ rfl
      have e2 : W6.cell? ⟨w.heap.size + 1 + 1, 2, none⟩ = some (.bool false) := hr1 2 _ rfl
      have HBW5 := Lib.hid (HBX.out.trans (HK6.out.mono (by rw [HSZ.out]; omega)))
      have hne : ¬ w.heap.size + 1 + 1 = W0.heap.size := by rw [HSZ.out]; omega
      clear hr1 k5 hc6 hb6
      go_wp2
      refine bodyPost_ret (v := .agg #[.bool m2, .bool m1, .bool m0]) (by simp [results, Try.results17, go_sem, e0, e1, e2]) rfl ⟨by rw [← HR.out]; rfl, ?_⟩
      repeat (with_reducible refine Below.setCell ?_ (by first | exact Nat.le_refl _ | (simp; done) | omega | (simp; omega)) _)
      exact HBW5.out
/-- **pred.May, of any predicate.** -/
theorem may_all : ∀ d, MayHyp d
  | 0 => fun p cs s scs a n c sts w hp => hp.elim
  | d + 1 => fun p cs s scs a n c sts w hp hs hfl hst hn => by
    have ih := may_all d
    by_cases h6 : p.op = 6
    · exact may_and d ih p cs s scs a n c sts w hp hs hfl hst hn h6
    · by_cases h7 : p.op = 7
      · exact may_or d ih p cs s scs a n c sts w hp hs hfl hst hn h7
      · by_cases h8 : p.op = 8
        · exact may_not d ih p cs s scs a n c sts w hp hs hfl hst hn h8
        · exact may_leaf d ih p cs s scs a n c sts w hp hs hfl hst hn h6 h7 h8
end Go.Proofs.Ytkildbpfondgcaa
