/- (*event.State).Do: put. -/
import Derived.Test.YtlclhinianamhaaEvD0
import Derived.Deep.RegionLaw
import Derived.Deep.RegionHeld3
import Derived.Deep.AppendLies
namespace Go.Proofs.Ytlclhinianamhaa
open Go.RowKit Go.Deep
set_option linter.unusedVariables false
set_option linter.unusedSimpArgs false

set_option maxRecDepth 100000 in
set_option maxHeartbeats 16000000 in
theorem ido_put (S : Nat → Prop) (p bm : Nat) (x : StD) (ecs : List Value) (e : EventD) (w : World) (hst : ImpSt S w p bm x) (he : EventR w ecs e) (hrl : e.row.length ≤ 1000) (hl : x.l.length ≤ 1000) (hgood : doE x e = 0) (hp : e.op = 1) :
    Calls Try.prog 17 #[.pointer (some ⟨p, 0, none⟩), .agg ecs.toArray] w (IDoPost S p bm x e w) := by
  obtain ⟨fa, fn, fc, M, hst⟩ := hst
  have HST := Lib.hid hst
  have HEV := Lib.hid he
  obtain ⟨ra, rn, rc, rfl, he1, he2, he3, hrow, ho, hop, hk, hnm, hkd⟩ := he
  have HROW := Lib.hid hrow
  have HK := Lib.hid hk
  have HNM := Lib.hid hnm
  have hrn : rn ≤ 1000 := by rw [← hrow.1]; exact hrl
  have hoff := hst.off
  obtain ⟨R, hR⟩ : ∃ R, checkE x.s e = R := ⟨_, rfl⟩
  have HCHK := Lib.hid (fun W h1 h2 => echeck_calls [.int .u32 (x.s.id : Int), .slice fa fn fc] (e.cells (.slice ra rn rc)) x.s e W h1 h2 (by omega))
  rw [hR] at HCHK
  have HR := Lib.hid hR
  have HL := Lib.hid hl
  have HGOOD := Lib.hid hgood
  have HP := Lib.hid hp
  clear hgood hp
  obtain ⟨o, op, row, key, nm, kind⟩ := e
  obtain ⟨kk, kn, ks⟩ := key
  simp only [] at ho hop hkd HNM HROW HK
  unfold EventD.cells at HEV HCHK ⊢
  try simp only [] at HCHK
  try simp only [] at HEV
  try simp only []
  have hpl : p < w.heap.size := hst.box.lt
  generalize hxo : x.off = xo at *
  have HXO := Lib.hid hxo
  have HD := Lib.hid (show doE x ⟨o, op, row, ⟨kk, kn, ks⟩, nm, kind⟩ = if xo = 18446744073709551615 ∨ o ≠ xo + 1 then 220 else R by unfold doE; rw [hxo, hR])
  clear hst hrow he1 he2 he3 hk hnm hrl hR hl hxo
  go_enter Try.func17, Try.ntmps17
  go_upto_region 1 with fail
  obtain ⟨W0, hWW⟩ : ∃ W0 : World, W0 = w.alloc (.cells #[.int .u64 (o : Int), .int .u8 (op : Int), .slice ra rn rc, .int .u8 kk, .int .i64 kn, .string ks, .string nm, .int .u8 (kind : Int)] 32) := ⟨_, rfl⟩
  have hb0 : Below w.heap.size w W0 := by rw [hWW]; exact (Below.refl _ _).alloc (Nat.le_refl _) _
  have hx0 : Box W0 w.heap.size #[.int .u64 (o : Int), .int .u8 (op : Int), .slice ra rn rc, .int .u8 kk, .int .i64 kn, .string ks, .string nm, .int .u8 (kind : Int)] := by rw [hWW]; exact Box.new _ _ _
  rw [← hWW]
  clear hWW
  have HB0 := Lib.hid hb0
  have X0 := Lib.hid hx0
  have hst0 := HST.out.call hb0
  have hpb := hst0.box
  rw [HXO.out] at hpb
  have HST0 := Lib.hid hst0
  have PB0 := Lib.hid hpb
  have hpl0 : p < W0.heap.size := hpb.lt
  have hzl0 : w.heap.size < W0.heap.size := hx0.lt
  clear hb0 hx0 hst0 hpb hpl
  have p3 : W0.cell? ⟨p, 3, none⟩ = some (.int .u64 (xo : Int)) := PB0.out.cell 3 rfl
  have e0 : W0.cell? ⟨w.heap.size, 0, none⟩ = some (.int .u64 (o : Int)) := X0.out.cell 0 rfl
  obtain ⟨hmax, hoe, hr0⟩ : xo ≠ 18446744073709551615 ∧ o = xo + 1 ∧ R = 0 := by
    have h := HGOOD.out
    rw [HD.out] at h
    split at h
    · exact absurd h (by decide)
    · rename_i h'
      exact ⟨fun e => h' (.inl e), by omega, h⟩
  subst hr0
  have hzi : ((o : Int) == 0) = false := by rw [beq_eq_false_iff_ne]; omega
  have hxw : IntKind.u64.wrap ((o : Int) - 1) = (o : Int) - 1 := IntWalk.u64_in _ (by omega)
  have hoi : ((o : Int) - 1 != (xo : Int)) = false := by simp; omega
  have HD1 := Lib.hid HGOOD.out
  have HOE := Lib.hid hoe
  clear hoe hmax
  go_quiet (fail)
  go_wp2_with fail
  generalize hW1 : W0.drewN nq = W1 at *
  have hb1 : Below W0.heap.size W0 W1 := by rw [← hW1]; exact below_drewN (Below.refl _ _) _
  have HB1 := Lib.hid (HB0.out.trans (hb1.mono HB0.out.size))
  have X1 := Lib.hid (X0.out.call hb1)
  have PB1 := Lib.hid (PB0.out.call hb1)
  have HST1 := Lib.hid (HST0.out.call hb1)
  clear hb1 hW1 p3 e0 hpl0 hzl0
  have hS : ∀ W, Below W1.heap.size W1 W → W.cell? ⟨p, 0, none⟩ = some (.int .u32 (x.s.id : Int)) ∧ W.cell? ⟨p, 1, none⟩ = some (.slice fa fn fc) ∧ W.cell? ⟨p, 2, none⟩ = some (.map (some bm)) ∧ W.cell? ⟨p, 3, none⟩ = some (.int .u64 (xo : Int)) ∧ W.cell? ⟨w.heap.size, 0, none⟩ = some (.int .u64 (o : Int)) ∧ W.cell? ⟨w.heap.size, 1, none⟩ = some (.int .u8 (op : Int)) ∧ W.cell? ⟨w.heap.size, 2, none⟩ = some (.slice ra rn rc) ∧ W.cell? ⟨w.heap.size, 3, none⟩ = some (.int .u8 kk) ∧ W.cell? ⟨w.heap.size, 4, none⟩ = some (.int .i64 kn) ∧ W.cell? ⟨w.heap.size, 5, none⟩ = some (.string ks) ∧ W.cell? ⟨w.heap.size, 6, none⟩ = some (.string nm) ∧ W.cell? ⟨w.heap.size, 7, none⟩ = some (.int .u8 (kind : Int)) := fun W h => ⟨(PB1.out.call h).cell 0 rfl, (PB1.out.call h).cell 1 rfl, (PB1.out.call h).cell 2 rfl, (PB1.out.call h).cell 3 rfl, (X1.out.call h).cell 0 rfl, (X1.out.call h).cell 1 rfl, (X1.out.call h).cell 2 rfl, (X1.out.call h).cell 3 rfl, (X1.out.call h).cell 4 rfl, (X1.out.call h).cell 5 rfl, (X1.out.call h).cell 6 rfl, (X1.out.call h).cell 7 rfl⟩
  have HSS := Lib.hid hS
  clear hS
  have HCK2 := Lib.hid (fun W (h : Below W1.heap.size W1 W) => HCHK.out W (HST1.out.call h).schema (EventR.stable _ _ _ _ (below_step HB1.out h) HEV.out))
  go_region_held3 (fun W => W.cell? ⟨p, 0, none⟩ = some (.int .u32 (x.s.id : Int)) ∧ W.cell? ⟨p, 1, none⟩ = some (.slice fa fn fc) ∧ W.cell? ⟨p, 2, none⟩ = some (.map (some bm)) ∧ W.cell? ⟨p, 3, none⟩ = some (.int .u64 (xo : Int)) ∧ W.cell? ⟨w.heap.size, 0, none⟩ = some (.int .u64 (o : Int)) ∧ W.cell? ⟨w.heap.size, 1, none⟩ = some (.int .u8 (op : Int)) ∧ W.cell? ⟨w.heap.size, 2, none⟩ = some (.slice ra rn rc) ∧ W.cell? ⟨w.heap.size, 3, none⟩ = some (.int .u8 kk) ∧ W.cell? ⟨w.heap.size, 4, none⟩ = some (.int .i64 kn) ∧ W.cell? ⟨w.heap.size, 5, none⟩ = some (.string ks) ∧ W.cell? ⟨w.heap.size, 6, none⟩ = some (.string nm) ∧ W.cell? ⟨w.heap.size, 7, none⟩ = some (.int .u8 (kind : Int)))
    (first | exact HSS.out _ K2.out | exact HSS.out _ (Below.refl _ _).drew)
    (first
      | (go_at_call 12; (with_reducible refine (HCK2.out _ (Below.drew (Below.refl _ _))).mono ?_); rintro e w2 ⟨rfl, hp2⟩; have K2 := Lib.hid (below_step (W0 := W1) (Below.drew (Below.refl _ _)) hp2); clear hp2)
      | fail)
  have hb2 := HB1.out.trans (K2.out.mono HB1.out.size)
  have HB2 := Lib.hid hb2
  have X2 := Lib.hid (X1.out.call K2.out)
  have PB2 := Lib.hid (PB1.out.call K2.out)
  have HST2 := Lib.hid (HST1.out.call K2.out)
  clear hb2 K2 HSS HCK2
  have HPX := Lib.hid (show op = 1 from HP.out)
  clear HP
  have hp1i : ((op : Int) == 1) = true := by rw [beq_iff_eq]; have := HPX.out; omega
  have hlen := (put_len HR.out HPX.out).1
  have hvs := put_vals HR.out HPX.out
  simp only [] at hlen hvs
  obtain ⟨hve, hcr⟩ := hvs
  have hrl1 : row.length = rn := HROW.out.1
  have HT0 := Lib.hid (show doS x ⟨o, op, row, ⟨kk, kn, ks⟩, nm, kind⟩ = ⟨x.s, putL (row.map fix) x.l, o⟩ by unfold doS; rw [if_neg (by rw [HD1.out]; simp), if_pos HPX.out])
  have HVAL := Lib.hid (fun (W : World) (h : Below w2.heap.size w2 W) => by
    have := values_calls x.s [.int .u32 (x.s.id : Int), .slice fa fn fc] ra rn rc row W (HST2.out.call h).schema (HROW.out.below CellR.stable (HB2.out.trans (h.mono HB2.out.size))) (by omega)
    unfold ValuesPost at this
    rw [hve] at this
    exact this)
  have HCR := Lib.hid hcr
  have hrn0 : 0 < rn := by omega
  have hrn0i : (0 : Int) < (rn : Int) := by omega
  have HRL := Lib.hid hrl1
  have e1 : w2.cell? ⟨w.heap.size, 1, none⟩ = some (.int .u8 (op : Int)) := X2.out.cell 1 rfl
  have hzl2 : w.heap.size < w2.heap.size := X2.out.lt
  have hpl2 : p < w2.heap.size := PB2.out.lt
  clear hve hcr hrl1 hlen
  go_upto_region 13 with fail
  clear e1
  have hS : ∀ W, Below w2.heap.size w2 W → W.cell? ⟨p, 0, none⟩ = some (.int .u32 (x.s.id : Int)) ∧ W.cell? ⟨p, 1, none⟩ = some (.slice fa fn fc) ∧ W.cell? ⟨w.heap.size, 2, none⟩ = some (.slice ra rn rc) := fun W h => ⟨(PB2.out.call h).cell 0 rfl, (PB2.out.call h).cell 1 rfl, (X2.out.call h).cell 2 rfl⟩
  have HSS := Lib.hid hS
  have hS1 : ∀ W, Below w2.heap.size w2 W → W.cell? ⟨p, 2, none⟩ = some (.map (some bm)) ∧ W.cell? ⟨p, 3, none⟩ = some (.int .u64 (xo : Int)) := fun W h => ⟨(PB2.out.call h).cell 2 rfl, (PB2.out.call h).cell 3 rfl⟩
  have HSS1 := Lib.hid hS1
  clear hS hS1
  go_region_held3 (fun W => W.cell? ⟨p, 0, none⟩ = some (.int .u32 (x.s.id : Int)) ∧ W.cell? ⟨p, 1, none⟩ = some (.slice fa fn fc) ∧ W.cell? ⟨w.heap.size, 2, none⟩ = some (.slice ra rn rc))
    (first | exact HSS.out _ K3.out | exact HSS.out _ (Below.refl _ _).drew)
    (first
      | (go_at_call 38; (with_reducible refine (HVAL.out _ (Below.drew (Below.refl _ _))).mono ?_); rintro e w3 ⟨v3, rfl, hown3, hp3⟩; have K3 := Lib.hid (below_step (W0 := w2) (Below.drew (Below.refl _ _)) hp3); have HO3 := Lib.hid (hown3 HCR.out); clear hp3 hown3)
      | fail)
  have hown3 : w3.ownsRow w2.heap.size 60 1 v3 rn ((row.map goodVal).map ValD.val) := by
    have := HO3.out
    rw [valsV_map, HRL.out] at this
    exact this
  obtain ⟨a3, c3, rfl, hc31, hc32, hc33⟩ := own_slice hown3
  have SLV := Lib.hid (own_vals hown3)
  have HFR := Lib.hid (VRowAt.far (S := S) hown3 (fun k hk => HST2.out.slt k hk))
  have HST3 := Lib.hid (HST2.out.call K3.out)
  have PB3 := Lib.hid (PB2.out.call K3.out)
  have X3 := Lib.hid (X2.out.call K3.out)
  have HB3 := Lib.hid (HB2.out.trans (K3.out.mono HB2.out.size))
  obtain ⟨b3, off3, d0, u0, rfl, hb3l, hx0, hr0, hcell0⟩ := SLV.out.at1 (i := 0) hrn0
  have hu0 : d0.val = u0 := by
    have : [u0] = [d0.val] := hr0
    simp at this
    exact this.symm
  have hkey : keyV (row.map goodVal, (.slice (some ⟨b3, off3, none⟩) rn c3 : Value)) = d0.cell := by
    unfold keyV
    simp only []
    rw [List.headD_eq_head?_getD, List.head?_eq_getElem?, hx0]
    rfl
  have hcb : CellB d0.cell := by
    have := List.mem_of_getElem? hx0
    obtain ⟨c0, hc0, rfl⟩ := List.mem_map.1 this
    have hb := HROW.out.cellsB c0 hc0
    rw [good_cell c0 hb.2.1.1]
    exact fix_B hb
  have hec := evcell d0
  rw [hu0] at hec
  obtain ⟨dc, hdc⟩ : ∃ dc, d0.cell = dc := ⟨_, rfl⟩
  rw [hdc] at hkey hcb hec
  obtain ⟨ck, cn, cs⟩ := dc
  unfold CellD.cells at hec
  have HEC := Lib.hid hec
  have HUP := Lib.hid (fun (W : World) (h : Below w3.heap.size w3 W) => ((HST3.out.map).call h).update hkey hcb)
  have hc0' : w3.cell? ⟨b3, off3, none⟩ = some u0 := by have := hcell0; rw [Nat.add_zero] at this; exact this
  have hS : ∀ W, Below w3.heap.size w3 W → W.cell? ⟨p, 2, none⟩ = some (.map (some bm)) ∧ W.cell? ⟨b3, off3, none⟩ = some u0 := fun W h => ⟨(PB3.out.call h).cell 2 rfl, (h.cell (p := ⟨b3, off3, none⟩) hb3l).trans hc0'⟩
  have HSS3 := Lib.hid hS
  have hbne : b3 ≠ bm := by
    have h1 := ownF_above hown3 b3 off3 rfl
    have h2 := HST2.out.map.lt
    omega
  have hpn := HST.out.ne
  have hzn : w.heap.size ≠ bm := by have h1 := HST.out.map.lt; omega
  have HBM := Lib.hid hpn
  have HBN := Lib.hid hbne
  clear hown3 HO3 HVAL HSS hec hkey hcb hdc hu0 hr0 hx0 hcell0 hc0' hS hpn hbne
  go_wp2_with fail
  go_region_held3 (fun W => W.cell? ⟨p, 2, none⟩ = some (.map (some bm)) ∧ W.cell? ⟨b3, off3, none⟩ = some u0)
    (first | exact HS6.out | exact HSS3.out _ K5.out | exact HSS3.out _ (Below.refl _ _).drew)
    (first
      | (go_at_call 48; (with_reducible refine (HEC.out _).mono ?_); rintro e w5 ⟨rfl, hp5⟩; have K5 := Lib.hid (below_step (W0 := w3) (Below.drew (Below.refl _ _)) hp5); obtain ⟨w6, M', hrun6, hm6, hpm6, hbu6⟩ := HUP.out _ K5.out; have HM6 := Lib.hid hm6; have HPM := Lib.hid hpm6; have BU6 := Lib.hid hbu6; have hpb6 := Box.but (PB3.out.call K5.out) hbu6 (PB3.out.call K5.out).lt HBM.out.symm; have HS6 := Lib.hid (And.intro (Box.cell hpb6 2 rfl) ((But.cell hbu6 (b := b3) (off := off3) (Nat.lt_of_lt_of_le hb3l K5.out.size) HBN.out).trans (HSS3.out _ K5.out).2)); clear hp5 hm6 hpm6 hbu6 hpb6)
      | fail)
  have hgc : cellsOfV (row.map goodVal, (.slice (some ⟨b3, off3, none⟩) rn c3 : Value)) = row.map fix := good_cells HROW.out.cellsOK
  have hperm := put_rows HST3.out.rows HPM.out
  rw [hgc] at hperm
  have HFQ := Lib.hid (show Far S w6 fun W => ∀ q ∈ M', VRowAt W q from fun W hW q hq => by
    have h1 := (HFR.out.call K5.out).step (BU6.out.s HST3.out.sb) W hW
    have h2 := ((HST3.out.far.call K5.out).step (BU6.out.s HST3.out.sb) W hW).2
    rcases List.mem_cons.1 (HPM.out.mem_iff.1 hq) with rfl | h
    · exact h1
    · exact h2 q (List.mem_filter.1 h).1)
  have HIB := Lib.hid ((((HST3.out.call K5.out).remap BU6.out HM6.out hperm HFQ.out)).reoff ho)
  have PD := Lib.hid (Box.but (PB3.out.call K5.out) BU6.out (PB3.out.call K5.out).lt HBM.out.symm)
  have XD := Lib.hid (Box.but (X3.out.call K5.out) BU6.out (X3.out.call K5.out).lt hzn)
  have p3 : w6.cell? ⟨p, 3, none⟩ = some (.int .u64 (xo : Int)) := PD.out.cell 3 rfl
  have e0 : w6.cell? ⟨w.heap.size, 0, none⟩ = some (.int .u64 (o : Int)) := XD.out.cell 0 rfl
  have pf : ∀ j, w6.frozen? ⟨p, j, none⟩ = false := PD.out.soft
  have hpl6 := PD.out.lt
  have hzl6 := XD.out.lt
  clear hgc hperm
  go_wp2
  go_ret
  refine ⟨by rw [HD1.out]; rfl, ?_, (((ButS.refl (Nat.le_refl _)).call (HB3.out.trans (K5.out.mono HB3.out.size))).step BU6.out.two (Nat.le_trans HB3.out.size K5.out.size)).step (((But.refl (Nat.le_refl _)).set 3 _).two') (Nat.le_trans (Nat.le_trans HB3.out.size K5.out.size) BU6.out.size)⟩
  rw [HT0.out]
  exact ⟨_, _, _, _, HIB.out⟩
end Go.Proofs.Ytlclhinianamhaa
