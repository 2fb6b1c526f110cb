/- (*event.State).Do: remove. -/
import Derived.Test.YtlclhinianamhaaEvD0
import Derived.Deep.RegionLaw
import Derived.Deep.RegionHeld3
import Derived.Deep.AppendLies
namespace Go.Proofs.Ytlclhinianamhaa
open Go.RowKit Go.Deep
set_option linter.unusedVariables false
set_option linter.unusedSimpArgs false

set_option maxRecDepth 100000 in
set_option maxHeartbeats 16000000 in
theorem ido_del (S : Nat → Prop) (p bm : Nat) (x : StD) (ecs : List Value) (e : EventD) (w : World) (hst : ImpSt S w p bm x) (he : EventR w ecs e) (hrl : e.row.length ≤ 1000) (hl : x.l.length ≤ 1000) (hgood : doE x e = 0) (hp : e.op = 2) :
    Calls Try.prog 17 #[.pointer (some ⟨p, 0, none⟩), .agg ecs.toArray] w (IDoPost S p bm x e w) := by
  obtain ⟨fa, fn, fc, M, hst⟩ := hst
  have HST := Lib.hid hst
  have HEV := Lib.hid he
  obtain ⟨ra, rn, rc, rfl, he1, he2, he3, hrow, ho, hop, hk, hnm, hkd⟩ := he
  have HROW := Lib.hid hrow
  have HK := Lib.hid hk
  have HNM := Lib.hid hnm
  have hrn : rn ≤ 1000 := by rw [← hrow.1]; exact hrl
  have hoff := hst.off
  obtain ⟨R, hR⟩ : ∃ R, checkE x.s e = R := ⟨_, rfl⟩
  have HCHK := Lib.hid (fun W h1 h2 => echeck_calls [.int .u32 (x.s.id : Int), .slice fa fn fc] (e.cells (.slice ra rn rc)) x.s e W h1 h2 (by omega))
  rw [hR] at HCHK
  have HR := Lib.hid hR
  have HL := Lib.hid hl
  have HGOOD := Lib.hid hgood
  have HP := Lib.hid hp
  clear hgood hp
  obtain ⟨o, op, row, key, nm, kind⟩ := e
  obtain ⟨kk, kn, ks⟩ := key
  simp only [] at ho hop hkd HNM HROW HK
  unfold EventD.cells at HEV HCHK ⊢
  try simp only [] at HCHK
  try simp only [] at HEV
  try simp only []
  have hpl : p < w.heap.size := hst.box.lt
  generalize hxo : x.off = xo at *
  have HXO := Lib.hid hxo
  have HD := Lib.hid (show doE x ⟨o, op, row, ⟨kk, kn, ks⟩, nm, kind⟩ = if xo = 18446744073709551615 ∨ o ≠ xo + 1 then 220 else R by unfold doE; rw [hxo, hR])
  clear hst hrow he1 he2 he3 hk hnm hrl hR hl hxo
  go_enter Try.func17, Try.ntmps17
  go_upto_region 1 with fail
  obtain ⟨W0, hWW⟩ : ∃ W0 : World, W0 = w.alloc (.cells #[.int .u64 (o : Int), .int .u8 (op : Int), .slice ra rn rc, .int .u8 kk, .int .i64 kn, .string ks, .string nm, .int .u8 (kind : Int)] 32) := ⟨_, rfl⟩
  have hb0 : Below w.heap.size w W0 := by rw [hWW]; exact (Below.refl _ _).alloc (Nat.le_refl _) _
  have hx0 : Box W0 w.heap.size #[.int .u64 (o : Int), .int .u8 (op : Int), .slice ra rn rc, .int .u8 kk, .int .i64 kn, .string ks, .string nm, .int .u8 (kind : Int)] := by rw [hWW]; exact Box.new _ _ _
  rw [← hWW]
  clear hWW
  have HB0 := Lib.hid hb0
  have X0 := Lib.hid hx0
  have hst0 := HST.out.call hb0
  have hpb := hst0.box
  rw [HXO.out] at hpb
  have HST0 := Lib.hid hst0
  have PB0 := Lib.hid hpb
  have hpl0 : p < W0.heap.size := hpb.lt
  have hzl0 : w.heap.size < W0.heap.size := hx0.lt
  clear hb0 hx0 hst0 hpb hpl
  have p3 : W0.cell? ⟨p, 3, none⟩ = some (.int .u64 (xo : Int)) := PB0.out.cell 3 rfl
  have e0 : W0.cell? ⟨w.heap.size, 0, none⟩ = some (.int .u64 (o : Int)) := X0.out.cell 0 rfl
  obtain ⟨hmax, hoe, hr0⟩ : xo ≠ 18446744073709551615 ∧ o = xo + 1 ∧ R = 0 := by
    have h := HGOOD.out
    rw [HD.out] at h
    split at h
    · exact absurd h (by decide)
    · rename_i h'
      exact ⟨fun e => h' (.inl e), by omega, h⟩
  subst hr0
  have hzi : ((o : Int) == 0) = false := by rw [beq_eq_false_iff_ne]; omega
  have hxw : IntKind.u64.wrap ((o : Int) - 1) = (o : Int) - 1 := IntWalk.u64_in _ (by omega)
  have hoi : ((o : Int) - 1 != (xo : Int)) = false := by simp; omega
  have HD1 := Lib.hid HGOOD.out
  have HOE := Lib.hid hoe
  clear hoe hmax
  go_quiet (fail)
  go_wp2_with fail
  generalize hW1 : W0.drewN nq = W1 at *
  have hb1 : Below W0.heap.size W0 W1 := by rw [← hW1]; exact below_drewN (Below.refl _ _) _
  have HB1 := Lib.hid (HB0.out.trans (hb1.mono HB0.out.size))
  have X1 := Lib.hid (X0.out.call hb1)
  have PB1 := Lib.hid (PB0.out.call hb1)
  have HST1 := Lib.hid (HST0.out.call hb1)
  clear hb1 hW1 p3 e0 hpl0 hzl0
  have hS : ∀ W, Below W1.heap.size W1 W → W.cell? ⟨p, 0, none⟩ = some (.int .u32 (x.s.id : Int)) ∧ W.cell? ⟨p, 1, none⟩ = some (.slice fa fn fc) ∧ W.cell? ⟨p, 2, none⟩ = some (.map (some bm)) ∧ W.cell? ⟨p, 3, none⟩ = some (.int .u64 (xo : Int)) ∧ W.cell? ⟨w.heap.size, 0, none⟩ = some (.int .u64 (o : Int)) ∧ W.cell? ⟨w.heap.size, 1, none⟩ = some (.int .u8 (op : Int)) ∧ W.cell? ⟨w.heap.size, 2, none⟩ = some (.slice ra rn rc) ∧ W.cell? ⟨w.heap.size, 3, none⟩ = some (.int .u8 kk) ∧ W.cell? ⟨w.heap.size, 4, none⟩ = some (.int .i64 kn) ∧ W.cell? ⟨w.heap.size, 5, none⟩ = some (.string ks) ∧ W.cell? ⟨w.heap.size, 6, none⟩ = some (.string nm) ∧ W.cell? ⟨w.heap.size, 7, none⟩ = some (.int .u8 (kind : Int)) := fun W h => ⟨(PB1.out.call h).cell 0 rfl, (PB1.out.call h).cell 1 rfl, (PB1.out.call h).cell 2 rfl, (PB1.out.call h).cell 3 rfl, (X1.out.call h).cell 0 rfl, (X1.out.call h).cell 1 rfl, (X1.out.call h).cell 2 rfl, (X1.out.call h).cell 3 rfl, (X1.out.call h).cell 4 rfl, (X1.out.call h).cell 5 rfl, (X1.out.call h).cell 6 rfl, (X1.out.call h).cell 7 rfl⟩
  have HSS := Lib.hid hS
  clear hS
  have HCK2 := Lib.hid (fun W (h : Below W1.heap.size W1 W) => HCHK.out W (HST1.out.call h).schema (EventR.stable _ _ _ _ (below_step HB1.out h) HEV.out))
  go_region_held3 (fun W => W.cell? ⟨p, 0, none⟩ = some (.int .u32 (x.s.id : Int)) ∧ W.cell? ⟨p, 1, none⟩ = some (.slice fa fn fc) ∧ W.cell? ⟨p, 2, none⟩ = some (.map (some bm)) ∧ W.cell? ⟨p, 3, none⟩ = some (.int .u64 (xo : Int)) ∧ W.cell? ⟨w.heap.size, 0, none⟩ = some (.int .u64 (o : Int)) ∧ W.cell? ⟨w.heap.size, 1, none⟩ = some (.int .u8 (op : Int)) ∧ W.cell? ⟨w.heap.size, 2, none⟩ = some (.slice ra rn rc) ∧ W.cell? ⟨w.heap.size, 3, none⟩ = some (.int .u8 kk) ∧ W.cell? ⟨w.heap.size, 4, none⟩ = some (.int .i64 kn) ∧ W.cell? ⟨w.heap.size, 5, none⟩ = some (.string ks) ∧ W.cell? ⟨w.heap.size, 6, none⟩ = some (.string nm) ∧ W.cell? ⟨w.heap.size, 7, none⟩ = some (.int .u8 (kind : Int)))
    (first | exact HSS.out _ K2.out | exact HSS.out _ (Below.refl _ _).drew)
    (first
      | (go_at_call 12; (with_reducible refine (HCK2.out _ (Below.drew (Below.refl _ _))).mono ?_); rintro e w2 ⟨rfl, hp2⟩; have K2 := Lib.hid (below_step (W0 := W1) (Below.drew (Below.refl _ _)) hp2); clear hp2)
      | fail)
  have hb2 := HB1.out.trans (K2.out.mono HB1.out.size)
  have HB2 := Lib.hid hb2
  have X2 := Lib.hid (X1.out.call K2.out)
  have PB2 := Lib.hid (PB1.out.call K2.out)
  have HST2 := Lib.hid (HST1.out.call K2.out)
  clear hb2 K2 HSS HCK2
  have HPX := Lib.hid (show op = 2 from HP.out)
  clear HP
  have hp1i : ((op : Int) == 1) = false := by rw [beq_eq_false_iff_ne]; have := HPX.out; omega
  have hp2i : ((op : Int) == 2) = true := by rw [beq_iff_eq]; have := HPX.out; omega
  have HFX := Lib.hid (del_key HR.out HPX.out)
  have HT0 := Lib.hid (show doS x ⟨o, op, row, ⟨kk, kn, ks⟩, nm, kind⟩ = ⟨x.s, delL ⟨kk, kn, ks⟩ x.l, o⟩ by unfold doS; rw [if_neg (by rw [HD1.out]; simp), if_neg (by have := HPX.out; simp; omega), if_pos HPX.out]; simp only []; rw [show fix ⟨kk, kn, ks⟩ = ⟨kk, kn, ks⟩ from HFX.out])
  have e1 : w2.cell? ⟨w.heap.size, 1, none⟩ = some (.int .u8 (op : Int)) := X2.out.cell 1 rfl
  have hzl2 : w.heap.size < w2.heap.size := X2.out.lt
  have hpl2 : p < w2.heap.size := PB2.out.lt
  go_upto_region 16 with fail
  clear e1
  obtain ⟨w6, hrun6, hm6, hbu6⟩ := (HST2.out.map.call (Below.refl _ _).drew).drop HK.out
  have hne : w.heap.size ≠ bm := by
    have h1 := HST.out.map.lt
    omega
  have hpn := HST.out.ne
  have XD := Lib.hid (X2.out.drew.but hbu6 X2.out.drew.lt hne)
  have PD := Lib.hid (PB2.out.drew.but hbu6 PB2.out.drew.lt hpn.symm)
  have HM6 := Lib.hid hm6
  have BU6 := Lib.hid hbu6
  have HRUN := Lib.hid hrun6
  have HS2 := Lib.hid (show w2.drew.cell? ⟨p, 2, none⟩ = some (.map (some bm)) ∧ w2.drew.cell? ⟨w.heap.size, 3, none⟩ = some (.int .u8 kk) ∧ w2.drew.cell? ⟨w.heap.size, 4, none⟩ = some (.int .i64 kn) ∧ w2.drew.cell? ⟨w.heap.size, 5, none⟩ = some (.string ks) from ⟨PB2.out.drew.cell 2 rfl, X2.out.drew.cell 3 rfl, X2.out.drew.cell 4 rfl, X2.out.drew.cell 5 rfl⟩)
  have HS6 := Lib.hid (show w6.cell? ⟨p, 2, none⟩ = some (.map (some bm)) ∧ w6.cell? ⟨w.heap.size, 3, none⟩ = some (.int .u8 kk) ∧ w6.cell? ⟨w.heap.size, 4, none⟩ = some (.int .i64 kn) ∧ w6.cell? ⟨w.heap.size, 5, none⟩ = some (.string ks) from ⟨PD.out.cell 2 rfl, XD.out.cell 3 rfl, XD.out.cell 4 rfl, XD.out.cell 5 rfl⟩)
  clear hm6 hbu6 hrun6
  go_region_held3 (fun W => W.cell? ⟨p, 2, none⟩ = some (.map (some bm)) ∧ W.cell? ⟨w.heap.size, 3, none⟩ = some (.int .u8 kk) ∧ W.cell? ⟨w.heap.size, 4, none⟩ = some (.int .i64 kn) ∧ W.cell? ⟨w.heap.size, 5, none⟩ = some (.string ks))
    (first | exact HS6.out | exact HS2.out)
    (first
      | (refine step_deleteM (by rfl) _ _ (by rfl) bm _ w6 (by rfl) (by rfl) HRUN.out ?_)
      | fail)
  have HIB := Lib.hid ((((HST2.out.call (Below.refl _ _).drew).remap BU6.out HM6.out (del_rows (HST2.out.rows)) (((HST2.out.far.call (Below.refl _ _).drew).step (BU6.out.s HST2.out.sb)).imp (fun W h q hq => h.2 q (List.mem_filter.1 hq).1))).reoff ho))
  have p3 : w6.cell? ⟨p, 3, none⟩ = some (.int .u64 (xo : Int)) := PD.out.cell 3 rfl
  have e0 : w6.cell? ⟨w.heap.size, 0, none⟩ = some (.int .u64 (o : Int)) := XD.out.cell 0 rfl
  have pf : ∀ j, w6.frozen? ⟨p, j, none⟩ = false := PD.out.soft
  have hpl6 := PD.out.lt
  go_wp2
  go_ret
  refine ⟨by rw [HD1.out]; rfl, ?_, (((ButS.refl (Nat.le_refl _)).call HB2.out.drew).step BU6.out.two HB2.out.size).step (((But.refl (Nat.le_refl _)).set 3 _).two') (Nat.le_trans HB2.out.size BU6.out.size)⟩
  rw [HT0.out]
  exact ⟨_, _, _, _, HIB.out⟩
end Go.Proofs.Ytlclhinianamhaa
