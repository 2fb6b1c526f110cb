/- catchmentref22.Behind: the state behind events that are all well made. -/
import Derived.Test.YtlclhinianamhaaEvRun
namespace Go.Proofs.Ytlclhinianamhaa
open Go.RowKit Go.Deep
set_option linter.unusedVariables false
set_option linter.unusedSimpArgs false

theorem setOff_same {x : StD} {e : EventD} (h : doE x e = 0) : setOff e (x.off + 1) = e := by
  have := (doE_ok h).2.1
  unfold setOff
  rw [← this]
def BehindPost (X : StD) (w : World) (e : Ending) (w' : World) : Prop := ∃ p, e = .returned (.pointer (some ⟨p, 0, none⟩)) ∧ w.heap.size ≤ p ∧ RefSt (One p) w' p X ∧ Below w.heap.size w w'
set_option maxRecDepth 100000 in
set_option maxHeartbeats 8000000 in
theorem behind_calls (scs : List Value) (s : SchemaD) (a : Option Addr) (n c : Nat) (LP : List EvPair) (X : StD) (w0 w : World) (hB0 : Below w0.heap.size w0 w) (hs : SchemaR w scs s) (hsl : Sl 8 EvC w a n LP) (hev : EvsOK w0 LP) (hm : n ≤ 60) (hok : StOK ⟨s, [], 0⟩) (hall : AllOK ⟨s, [], 0⟩ (LP.map Prod.fst)) (hrun : runS ⟨s, [], 0⟩ (LP.map Prod.fst) = X) :
    Calls Try.prog 26 #[.agg scs.toArray, .slice a n c, .int .u64 (n : Int)] w (BehindPost X w) := by
  have HB0 := Lib.hid hB0
  have HALL := Lib.hid hall
  have HRUN := Lib.hid hrun
  clear hB0 hall hrun
  have HS := Lib.hid hs
  obtain ⟨fa, fn, fc, rfl, hsr⟩ := hs
  clear hsr
  have HSL := Lib.hid hsl
  have HEV := Lib.hid hev
  have HM := Lib.hid hm
  have HOK := Lib.hid hok
  clear hsl hev hm hok
  go_enter Try.func26, Try.ntmps26
  go_upto_region 2 with fail
  obtain ⟨W1, hWW⟩ : ∃ W1 : World, W1 = (w.alloc (.cells #[.int .u32 (s.id : Int), .slice fa fn fc] 25)).alloc (.cells #[.int .u32 (s.id : Int), .slice fa fn fc, .slice none 0 0, .int .u64 0] 65) := ⟨_, rfl⟩
  have hb1 : Below w.heap.size w W1 := by rw [hWW]; exact ((Below.refl _ _).alloc (Nat.le_refl _) _).alloc (by simp) _
  have hx1 : Box W1 (w.heap.size + 1) #[.int .u32 (s.id : Int), .slice fa fn fc, .slice none 0 0, .int .u64 0] := by rw [hWW]; exact Box.at_ _ _ _ _ (by simp)
  rw [← hWW]
  clear hWW
  have HB1 := Lib.hid hb1
  have HST1 := Lib.hid (RefSt.start (S := One (w.heap.size + 1)) HS.out hb1 hx1 rfl (fun k hk => by have := hx1.lt; unfold One at hk; omega))
  generalize hp : w.heap.size + 1 = p at *
  have HP := Lib.hid hp
  have HPL := Lib.hid hx1.lt
  clear hb1 hx1 hp
  have HLN := Lib.hid HSL.out.1
  go_wp2_with fail
  go_loopw [8, 9] (fun i d wr => ∃ (k : Nat) (x : StD), k ≤ n ∧ i = .int .i64 k ∧ x.off = k ∧ AllOK x ((LP.map Prod.fst).drop k) ∧ runS x ((LP.map Prod.fst).drop k) = X ∧ StOK x ∧ RefSt (One p) wr p x ∧ Below w.heap.size w wr) (fun i _ _ => n - (intOf i).toNat)
  case atStart => exact ⟨0, ⟨s, [], 0⟩, Nat.zero_le _, rfl, rfl, HALL.out, HRUN.out, HOK.out, HST1.out, HB1.out⟩
  case round =>
    obtain ⟨k, x, hkn, rfl, hoff, hall, hrun, hxo, hst, hb⟩ := hrel
    have HOFF := Lib.hid hoff
    have HAK := Lib.hid hall
    have HRN := Lib.hid hrun
    have HXO := Lib.hid hxo
    have HST := Lib.hid hst
    have HB := Lib.hid hb
    have hki : (0 : Int) ≤ (k : Int) := by omega
    obtain ⟨u1, u2, hpb⟩ := hst.box
    rw [hoff] at hpb
    have PB := Lib.hid hpb
    have p3 : wr.cell? ⟨p, 3, none⟩ = some (.int .u64 (k : Int)) := hpb.cell 3 rfl
    have hpl : p < wr.heap.size := hpb.lt
    clear hoff hall hrun hxo hst hb hpb
    by_cases hlt : k < n
    · have hkni : (k : Int) < (n : Int) := by omega
      have HW := Lib.hid (w64E hlt (show n ≤ maxLen by have := HM.out; unfold maxLen; omega))
      obtain ⟨b, off, q, u, rfl, hbl, hx, hcl, hr, hcell⟩ := (HSL.out.below EvC.stable HB.out).at_ hlt
      have hr' : u = evV q := hr
      subst hr'
      have HQ := Lib.hid (HEV.out q (List.mem_of_getElem? hx))
      have HDR := Lib.hid (drop_ev hx)
      obtain ⟨ra, rn, rc, hqv⟩ := ev_slice HQ.out.1
      obtain ⟨⟨o, op, row, ⟨kk, kn, ks⟩, nm, kind⟩, qv⟩ := q
      obtain rfl : qv = .slice ra rn rc := hqv
      have c0 := hcell 0 _ rfl
      have c1 := hcell 1 _ rfl
      have c2 := hcell 2 _ rfl
      have c3 := hcell 3 _ rfl
      have c4 := hcell 4 _ rfl
      have c5 := hcell 5 _ rfl
      have c6 := hcell 6 _ rfl
      have c7 := hcell 7 _ rfl
      simp only [Nat.add_zero] at c0
      simp only [] at HDR
      have hal := HAK.out
      rw [HDR.out] at hal
      obtain ⟨E, hE⟩ : ∃ E : EventD, E = ⟨o, op, row, ⟨kk, kn, ks⟩, nm, kind⟩ := ⟨_, rfl⟩
      have hoo : o = k + 1 := by have h := (doE_ok hal.1).2.1; rw [HOFF.out] at h; exact h
      have HER := Lib.hid (show EventR w0 [.int .u64 (o : Int), .int .u8 (op : Int), .slice ra rn rc, .int .u8 kk, .int .i64 kn, .string ks, .string nm, .int .u8 (kind : Int)] E ∧ E.row.length ≤ 1000 by rw [hE]; exact HQ.out)
      rw [← hE] at HDR hal
      have HDO := Lib.hid hal
      have hrn := HRN.out
      rw [HDR.out] at hrn
      have HRN1 := Lib.hid (show runS (doS x E) ((LP.map Prod.fst).drop (k + 1)) = X from hrn)
      have hxw : IntKind.u64.wrap ((k : Int) + 1) = (o : Int) := by rw [IntWalk.u64_in _ (by have := HM.out; omega), hoo]; rfl
      clear hcell hr hcl hx hal hrn hE hoo
      go_upto_region 6 with fail
      obtain ⟨W2, hWW⟩ : ∃ W2 : World, W2 = wr.alloc (.cells #[.int .u64 (o : Int), .int .u8 (op : Int), .slice ra rn rc, .int .u8 kk, .int .i64 kn, .string ks, .string nm, .int .u8 (kind : Int)] 32) := ⟨_, rfl⟩
      have hb2 : Below wr.heap.size wr W2 := by rw [hWW]; exact (Below.refl _ _).alloc (Nat.le_refl _) _
      have hx2 : Box W2 wr.heap.size #[.int .u64 (o : Int), .int .u8 (op : Int), .slice ra rn rc, .int .u8 kk, .int .i64 kn, .string ks, .string nm, .int .u8 (kind : Int)] := by rw [hWW]; exact Box.new _ _ _
      rw [← hWW]
      clear hWW p3 hpl
      have hpb := PB.out.call hb2
      have p3 : W2.cell? ⟨p, 3, none⟩ = some (.int .u64 (k : Int)) := hpb.cell 3 rfl
      have e0 : W2.cell? ⟨wr.heap.size, 0, none⟩ = some (.int .u64 (o : Int)) := hx2.cell 0 rfl
      have ef : ∀ j, W2.frozen? ⟨wr.heap.size, j, none⟩ = false := hx2.soft
      have hpl2 : p < W2.heap.size := hpb.lt
      have hzl2 : wr.heap.size < W2.heap.size := hx2.lt
      have HX2 := Lib.hid hx2
      have HB2 := Lib.hid hb2
      clear hpb hx2 hb2 c0 c1 c2 c3 c4 c5 c6 c7
      go_upto_region 7 with fail
      obtain ⟨W3, hWW⟩ : ∃ W3 : World, W3 = W2.setCell ⟨wr.heap.size, 0, none⟩ (.int .u64 (o : Int)) := ⟨_, rfl⟩
      have hb3 : Below wr.heap.size wr W3 := by rw [hWW]; exact HB2.out.setCell (Nat.le_refl _) _
      have hx3 : Box W3 wr.heap.size #[.int .u64 (o : Int), .int .u8 (op : Int), .slice ra rn rc, .int .u8 kk, .int .i64 kn, .string ks, .string nm, .int .u8 (kind : Int)] := by rw [hWW]; exact HX2.out.set (j := 0) (by simp) _
      rw [← hWW]
      clear hWW p3 e0 ef hpl2 hzl2 HX2
      have HB3 := Lib.hid (HB.out.trans (hb3.mono HB.out.size))
      have HST3 := Lib.hid (HST.out.call hb3)
      have HX3 := Lib.hid hx3
      have hzl3 : wr.heap.size < W3.heap.size := hx3.lt
      clear hx3 hb3 hxw
      have d0 : W3.cell? ⟨wr.heap.size, 0, none⟩ = some (.int .u64 (o : Int)) := HX3.out.cell 0 rfl
      have d1 : W3.cell? ⟨wr.heap.size, 1, none⟩ = some (.int .u8 (op : Int)) := HX3.out.cell 1 rfl
      have d2 : W3.cell? ⟨wr.heap.size, 2, none⟩ = some (.slice ra rn rc) := HX3.out.cell 2 rfl
      have d3 : W3.cell? ⟨wr.heap.size, 3, none⟩ = some (.int .u8 kk) := HX3.out.cell 3 rfl
      have d4 : W3.cell? ⟨wr.heap.size, 4, none⟩ = some (.int .i64 kn) := HX3.out.cell 4 rfl
      have d5 : W3.cell? ⟨wr.heap.size, 5, none⟩ = some (.string ks) := HX3.out.cell 5 rfl
      have d6 : W3.cell? ⟨wr.heap.size, 6, none⟩ = some (.string nm) := HX3.out.cell 6 rfl
      have d7 : W3.cell? ⟨wr.heap.size, 7, none⟩ = some (.int .u8 (kind : Int)) := HX3.out.cell 7 rfl
      go_wp2_with fail
      refine (refdo_calls (One p) p x [.int .u64 (o : Int), .int .u8 (op : Int), .slice ra rn rc, .int .u8 kk, .int .i64 kn, .string ks, .string nm, .int .u8 (kind : Int)] E _ HST3.out (EventR.stable _ _ _ _ (HB0.out.trans (HB3.out.mono HB0.out.size)) HER.out.1) (by have := HER.out.2; omega) (by have := HXO.out.few; have := HOFF.out; have := HM.out; omega) HXO.out.lens).mono ?_
      rintro e w5 ⟨rfl, hst5, hbu5⟩
      have HST5 := Lib.hid hst5
      have HB5 := Lib.hid (HB3.out.trans (hbu5.below_base HB3.out.size (by have := HP.out; omega)))
      have HDA := Lib.hid (doS_ok HXO.out HER.out.1.ok HDO.out.1)
      clear hst5 hbu5 d0 d1 d2 d3 d4 d5 d6 d7 hzl3
      go_wp2
      go_roundw
      case rel => exact ⟨k + 1, doS x E, hlt, by first | exact numE HW.out | exact numE1, HDA.out.2.trans (congrArg (· + 1) HOFF.out), HDO.out.2, HRN1.out, HDA.out.1, HST5.out, HB5.out⟩
      case measure =>
        try rw [HW.out]
        exact measE1 hlt
    · obtain rfl : k = n := by omega
      have hxx := HRN.out
      rw [List.drop_of_length_le (by rw [List.length_map]; have := HLN.out; omega)] at hxx
      have hxx' : x = X := hxx
      subst hxx'
      go_wp2
      go_ret
      exact ⟨p, rfl, by have := HP.out; omega, HST.out, HB.out⟩
end Go.Proofs.Ytlclhinianamhaa
