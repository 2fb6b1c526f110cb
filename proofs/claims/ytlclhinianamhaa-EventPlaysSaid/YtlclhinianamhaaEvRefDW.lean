/- (*catchmentref22.State).Do: widen. -/
import Derived.Test.YtlclhinianamhaaEvImm
namespace Go.Proofs.Ytlclhinianamhaa
open Go.RowKit Go.Deep
set_option linter.unusedVariables false
set_option linter.unusedSimpArgs false

set_option maxRecDepth 100000 in
set_option maxHeartbeats 16000000 in
theorem refdo_wide (S : Nat → Prop) (p : Nat) (x : StD) (ecs : List Value) (e : EventD) (w : World) (hst : RefSt S w p x) (he : EventR w ecs e) (hrl : e.row.length ≤ 100000) (hl : x.l.length ≤ 1000) (hne : ∀ r ∈ x.l, 1 ≤ r.length) (hgood : doE x e = 0) (hp : e.op = 3) (hwid : ∀ r ∈ x.l, r.length ≤ 1000) :
    Calls Try.prog 29 #[.pointer (some ⟨p, 0, none⟩), .agg ecs.toArray] w (DoPost S p x e w) := by
  obtain ⟨fa, fn, fc, la, ln, lc, P, hst⟩ := hst
  have HST := Lib.hid hst
  have HEV := Lib.hid he
  obtain ⟨ra, rn, rc, rfl, he1, he2, he3, hrow, ho, hop, hk, hnm, hkd⟩ := he
  have HROW := Lib.hid hrow
  have HK := Lib.hid hk
  have HNM := Lib.hid hnm
  have hrn : rn ≤ 100000 := by rw [← hrow.1]; exact hrl
  have hoff := hst.off
  obtain ⟨i0, hi0, hz0, hz1, hz2⟩ := info_parts infoRowE
  have HI := Lib.hid hi0
  have HZ0 := Lib.hid hz0
  have HZ1 := Lib.hid hz1
  have HZ2 := Lib.hid hz2
  clear hi0 hz0 hz1 hz2
  obtain ⟨R, hR⟩ : ∃ R, checkE x.s e = R := ⟨_, rfl⟩
  have HCHK := Lib.hid (fun W h1 h2 => refchk_calls [.int .u32 (x.s.id : Int), .slice fa fn fc] (e.cells (.slice ra rn rc)) x.s e W h1 h2 hrl)
  rw [hR] at HCHK
  have HR := Lib.hid hR
  have HNE := Lib.hid hne
  have HL := Lib.hid hl
  have HGOOD := Lib.hid hgood
  have HP := Lib.hid hp
  clear hgood hp
  have HWID := Lib.hid hwid
  clear hwid
  obtain ⟨o, op, row, key, nm, kind⟩ := e
  obtain ⟨kk, kn, ks⟩ := key
  simp only [] at ho hop hkd HNM HROW HK
  unfold EventD.cells at HEV HCHK ⊢
  try simp only [] at HCHK
  try simp only [] at HEV
  try simp only []
  have hpl : p < w.heap.size := hst.box.lt
  generalize hxo : x.off = xo at *
  have HXO := Lib.hid hxo
  have HD := Lib.hid (show doE x ⟨o, op, row, ⟨kk, kn, ks⟩, nm, kind⟩ = if xo = 18446744073709551615 ∨ o ≠ xo + 1 then 220 else R by unfold doE; rw [hxo, hR])
  clear hst hrow he1 he2 he3 hk hnm hrl hR hne hl hxo
  go_enter Try.func29, Try.ntmps29
  go_upto_region 1 with fail
  obtain ⟨W0, hWW⟩ : ∃ W0 : World, W0 = w.alloc (.cells #[.int .u64 (o : Int), .int .u8 (op : Int), .slice ra rn rc, .int .u8 kk, .int .i64 kn, .string ks, .string nm, .int .u8 (kind : Int)] 32) := ⟨_, rfl⟩
  have hb0 : Below w.heap.size w W0 := by rw [hWW]; exact (Below.refl _ _).alloc (Nat.le_refl _) _
  have hx0 : Box W0 w.heap.size #[.int .u64 (o : Int), .int .u8 (op : Int), .slice ra rn rc, .int .u8 kk, .int .i64 kn, .string ks, .string nm, .int .u8 (kind : Int)] := by rw [hWW]; exact Box.new _ _ _
  rw [← hWW]
  clear hWW
  have HB0 := Lib.hid hb0
  have X0 := Lib.hid hx0
  have hst0 := HST.out.call hb0
  have hpb := hst0.box
  rw [HXO.out] at hpb
  have HST0 := Lib.hid hst0
  have PB0 := Lib.hid hpb
  have hpl0 : p < W0.heap.size := hpb.lt
  have hzl0 : w.heap.size < W0.heap.size := hx0.lt
  clear hb0 hx0 hst0 hpb hpl
  have p3 : W0.cell? ⟨p, 3, none⟩ = some (.int .u64 (xo : Int)) := PB0.out.cell 3 rfl
  have e0 : W0.cell? ⟨w.heap.size, 0, none⟩ = some (.int .u64 (o : Int)) := X0.out.cell 0 rfl
  obtain ⟨hmax, hoe, hr0⟩ : xo ≠ 18446744073709551615 ∧ o = xo + 1 ∧ R = 0 := by
    have h := HGOOD.out
    rw [HD.out] at h
    split at h
    · exact absurd h (by decide)
    · rename_i h'
      exact ⟨fun e => h' (.inl e), by omega, h⟩
  subst hr0
  have hmi : ((xo : Int) == 18446744073709551615) = false := by rw [beq_eq_false_iff_ne]; omega
  have hxw : IntKind.u64.wrap ((xo : Int) + 1) = (xo : Int) + 1 := IntWalk.u64_in _ (by omega)
  have hoi : ((o : Int) != (xo : Int) + 1) = false := by simp; omega
  have HD1 := Lib.hid HGOOD.out
  have HOE := Lib.hid hoe
  clear hoe hmax
  go_quiet (fail)
  go_wp2_with fail
  generalize hW1 : W0.drewN nq = W1 at *
  have hb1 : Below W0.heap.size W0 W1 := by rw [← hW1]; exact below_drewN (Below.refl _ _) _
  have HB1 := Lib.hid (HB0.out.trans (hb1.mono HB0.out.size))
  have X1 := Lib.hid (X0.out.call hb1)
  have PB1 := Lib.hid (PB0.out.call hb1)
  have HST1 := Lib.hid (HST0.out.call hb1)
  clear hb1 hW1 p3 e0 hpl0 hzl0
  have hS : ∀ W, Below W1.heap.size W1 W → W.cell? ⟨p, 0, none⟩ = some (.int .u32 (x.s.id : Int)) ∧ W.cell? ⟨p, 1, none⟩ = some (.slice fa fn fc) ∧ W.cell? ⟨w.heap.size, 0, none⟩ = some (.int .u64 (o : Int)) ∧ W.cell? ⟨w.heap.size, 1, none⟩ = some (.int .u8 (op : Int)) ∧ W.cell? ⟨w.heap.size, 2, none⟩ = some (.slice ra rn rc) ∧ W.cell? ⟨w.heap.size, 3, none⟩ = some (.int .u8 kk) ∧ W.cell? ⟨w.heap.size, 4, none⟩ = some (.int .i64 kn) ∧ W.cell? ⟨w.heap.size, 5, none⟩ = some (.string ks) ∧ W.cell? ⟨w.heap.size, 6, none⟩ = some (.string nm) ∧ W.cell? ⟨w.heap.size, 7, none⟩ = some (.int .u8 (kind : Int)) := fun W h => ⟨(PB1.out.call h).cell 0 rfl, (PB1.out.call h).cell 1 rfl, (X1.out.call h).cell 0 rfl, (X1.out.call h).cell 1 rfl, (X1.out.call h).cell 2 rfl, (X1.out.call h).cell 3 rfl, (X1.out.call h).cell 4 rfl, (X1.out.call h).cell 5 rfl, (X1.out.call h).cell 6 rfl, (X1.out.call h).cell 7 rfl⟩
  have HSS := Lib.hid hS
  clear hS
  have HCK2 := Lib.hid (fun W (h : Below W1.heap.size W1 W) => HCHK.out W (HST1.out.call h).schema (EventR.stable _ _ _ _ (below_step HB1.out h) HEV.out))
  go_region_held3 (fun W => W.cell? ⟨p, 0, none⟩ = some (.int .u32 (x.s.id : Int)) ∧ W.cell? ⟨p, 1, none⟩ = some (.slice fa fn fc) ∧ W.cell? ⟨w.heap.size, 0, none⟩ = some (.int .u64 (o : Int)) ∧ W.cell? ⟨w.heap.size, 1, none⟩ = some (.int .u8 (op : Int)) ∧ W.cell? ⟨w.heap.size, 2, none⟩ = some (.slice ra rn rc) ∧ W.cell? ⟨w.heap.size, 3, none⟩ = some (.int .u8 kk) ∧ W.cell? ⟨w.heap.size, 4, none⟩ = some (.int .i64 kn) ∧ W.cell? ⟨w.heap.size, 5, none⟩ = some (.string ks) ∧ W.cell? ⟨w.heap.size, 6, none⟩ = some (.string nm) ∧ W.cell? ⟨w.heap.size, 7, none⟩ = some (.int .u8 (kind : Int)))
    (first | exact HSS.out _ K2.out | exact HSS.out _ (Below.refl _ _).drew)
    (first
      | (go_at_call 13; (with_reducible refine (HCK2.out _ (Below.drew (Below.refl _ _))).mono ?_); rintro e w2 ⟨rfl, hp2⟩; have K2 := Lib.hid (below_step (W0 := W1) (Below.drew (Below.refl _ _)) hp2); clear hp2)
      | fail)
  have hb2 := HB1.out.trans (K2.out.mono HB1.out.size)
  have HB2 := Lib.hid hb2
  have X2 := Lib.hid (X1.out.call K2.out)
  have PB2 := Lib.hid (PB1.out.call K2.out)
  have HST2 := Lib.hid (HST1.out.call K2.out)
  clear hb2 K2 HSS HCK2
  have HP3 := Lib.hid (show op = 3 from HP.out)
  have HP1 := Lib.hid (show ¬ op = 1 by have := HP3.out; omega)
  have HP2 := Lib.hid (show ¬ op = 2 by have := HP3.out; omega)
  have hp1i : ((op : Int) == 1) = false := by rw [beq_eq_false_iff_ne]; have := HP3.out; omega
  have hp2i : ((op : Int) == 2) = false := by rw [beq_eq_false_iff_ne]; have := HP3.out; omega
  have hae := wide_ok HR.out HP3.out
  simp only [] at hae
  obtain ⟨s2, hs2⟩ : ∃ s2, addS x.s nm (kind : Int) = s2 := ⟨_, rfl⟩
  have HT0 := Lib.hid (show doS x ⟨o, op, row, ⟨kk, kn, ks⟩, nm, kind⟩ = ⟨s2, wideL x.l, o⟩ by unfold doS; rw [if_neg (by rw [HD1.out]; simp), if_neg HP1.out, if_neg HP2.out, ← hs2])
  have hadd := fun (W : World) (h : Below w2.heap.size w2 W) => add08 [.int .u32 (x.s.id : Int), .slice fa fn fc] x.s nm (kind : Int) W (HST2.out.call h).schema HNM.out (by omega)
  rw [hs2, hae] at hadd
  unfold AddPost at hadd
  have HADD := Lib.hid hadd
  have hkw : IntKind.i64.wrap (kind : Int) = (kind : Int) := IntWalk.i64_in _ (by omega)
  have HLN := Lib.hid (show ln ≤ 1000 by have h1 := HST2.out.far.now.2.1.1; have h2 := HST2.out.rows; have h3 : x.l.length = P.length := (by rw [← h2, List.length_map]); have h4 := HL.out; omega)
  have hS : ∀ W, Below w2.heap.size w2 W → W.cell? ⟨p, 0, none⟩ = some (.int .u32 (x.s.id : Int)) ∧ W.cell? ⟨p, 1, none⟩ = some (.slice fa fn fc) ∧ W.cell? ⟨w.heap.size, 6, none⟩ = some (.string nm) ∧ W.cell? ⟨w.heap.size, 7, none⟩ = some (.int .u8 (kind : Int)) := fun W h => ⟨(PB2.out.call h).cell 0 rfl, (PB2.out.call h).cell 1 rfl, (X2.out.call h).cell 6 rfl, (X2.out.call h).cell 7 rfl⟩
  have HSS := Lib.hid hS
  have e1 : w2.cell? ⟨w.heap.size, 1, none⟩ = some (.int .u8 (op : Int)) := X2.out.cell 1 rfl
  have hpl2 : p < w2.heap.size := PB2.out.lt
  clear hS hadd hs2 hae
  go_upto_region 8 with fail
  clear e1
  go_cut [12, 13] (fun v u wx => ∃ (b5 : Nat) (a7 : Option Addr) (n7 c7 : Nat), v = .pointer (some ⟨b5, 0, none⟩) ∧ u = .int .i64 0 ∧ Below w2.heap.size w2 wx ∧ Box wx b5 #[.int .u32 (s2.id : Int), .slice a7 n7 c7] ∧ SchemaR wx [.int .u32 (s2.id : Int), .slice a7 n7 c7] s2 ∧ (∀ b off, a7 = some ⟨b, off, none⟩ → w2.heap.size ≤ b) ∧ w2.heap.size ≤ b5)
  case first =>
    go_region_held3 (fun W => W.cell? ⟨p, 0, none⟩ = some (.int .u32 (x.s.id : Int)) ∧ W.cell? ⟨p, 1, none⟩ = some (.slice fa fn fc) ∧ W.cell? ⟨w.heap.size, 6, none⟩ = some (.string nm) ∧ W.cell? ⟨w.heap.size, 7, none⟩ = some (.int .u8 (kind : Int)))
      (first | (refine HSS.out _ ?_; exact (by repeat (first | exact Below.refl _ _ | (with_reducible refine Below.drew ?_) | (with_reducible refine Below.alloc ?_ (by first | exact Nat.le_refl _ | exact K7.out.size | (simp; done) | (have := K7.out.size; simp; omega) | (simp; omega)) _) | (with_reducible refine Below.setCell ?_ (by first | exact Nat.le_refl _ | exact K7.out.size | (simp; done) | (have := K7.out.size; simp; omega) | (simp; omega)) _) | (with_reducible exact K7.out)))))
      (first
        | (go_at_call 44; (with_reducible refine (HADD.out _ (by repeat (first | exact Below.refl _ _ | (with_reducible refine Below.drew ?_) | (with_reducible refine Below.alloc ?_ (by first | exact Nat.le_refl _ | exact K7.out.size | (simp; done) | (have := K7.out.size; simp; omega) | (simp; omega)) _) | (with_reducible refine Below.setCell ?_ (by first | exact Nat.le_refl _ | exact K7.out.size | (simp; done) | (have := K7.out.size; simp; omega) | (simp; omega)) _) | (with_reducible exact K7.out)))).mono ?_); rintro e w7 ⟨a7, n7, c7, rfl, hs7, hn7, hc7, hz7, hi7, hab7, hp7⟩; have k7 := below_step (W0 := w2) (by repeat (first | exact Below.refl _ _ | (with_reducible refine Below.drew ?_) | (with_reducible refine Below.alloc ?_ (by first | exact Nat.le_refl _ | (simp; done) | (simp; omega)) _))) hp7; have K7 := Lib.hid k7; have HS7 := Lib.hid hs7; have HN7 := Lib.hid (And.intro hn7 (And.intro hc7 (And.intro hz7 hi7))); have hab7' : ∀ b off, a7 = some ⟨b, off, none⟩ → w2.heap.size ≤ b := (fun b off h => by have := hab7 b off h; simp at this; omega); have HAB7 := Lib.hid hab7'; have HABS7 := Lib.hid hab7; (first | (have hz := Box.call (b := w2.heap.size) (cs := #[.int .u32 0, .slice none 0 0]) (by (repeat (first | (with_reducible exact Box.at_ _ _ _ _ (by first | rfl | (simp; done) | fail)) | (with_reducible refine Box.drew ?_) | (with_reducible refine Box.alloc ?_ _))); first | done | fail) hp7; have HZ7 := Lib.hid hz; have zz0 : w7.cell? ⟨w2.heap.size, 0, none⟩ = some (.int .u32 0) := hz.cell 0 rfl; have zz1 : w7.cell? ⟨w2.heap.size, 1, none⟩ = some (.slice none 0 0) := hz.cell 1 rfl; have zzs : ∀ j, w7.frozen? ⟨w2.heap.size, j, none⟩ = false := hz.soft; have zzl : w2.heap.size < w7.heap.size := hz.lt; clear hz) | skip); clear hp7 k7 hs7 hab7 hab7' hn7 hc7 hz7 hi7)
        | fail)
    all_goals go_wp2_with fail
    all_goals go_meet
    all_goals first
      | exact ⟨w2.heap.size, a7, n7, c7, rfl, rfl, (by first | exact (K7.out.setCell (Nat.le_refl _) _).setCell (Nat.le_refl _) _ | exact ((K7.out.setCell (Nat.le_refl _) _).setCell (Nat.le_refl _) _).drew), (by have := (HZ7.out.set (j := 0) (by simp) (.int .u32 (s2.id : Int))).set (j := 1) (by simp) (.slice a7 n7 c7); simpa using this), ⟨a7, n7, c7, rfl, HN7.out.1, HN7.out.2.1, HN7.out.2.2.1, (HS7.out.setFarF (fun _ _ _ _ h => h) (fun b off e => by have := HABS7.out b off e; simp at this; simp; omega) _).setFarF (fun _ _ _ _ h => h) (fun b off e => by have := HABS7.out b off e; simp at this; simp; omega) _, HN7.out.2.2.2⟩, HAB7.out, Nat.le_refl _⟩
      | exact ⟨w7.heap.size, a7, n7, c7, rfl, rfl, K7.out.alloc K7.out.size _, Box.at_ _ _ _ _ rfl, ⟨a7, n7, c7, rfl, HN7.out.1, HN7.out.2.1, HN7.out.2.2.1, HS7.out.alloc FieldR.stable _, HN7.out.2.2.2⟩, HAB7.out, K7.out.size⟩
      | fail
  case rest =>
    obtain ⟨w3, rfl⟩ : ∃ W : World, W = wc := ⟨_, rfl⟩
    obtain ⟨b5, a7, n7, c7, rfl, rfl, hb7, hx7, hs7, hab7, hb57⟩ := hcut
    have HB3 := Lib.hid (HB2.out.trans (hb7.mono HB2.out.size))
    have HW := Lib.hid (RefBox.widened HST2.out hb7 hs7 hab7)
    have X3 := Lib.hid (X2.out.call hb7)
    have y0 : w3.cell? ⟨b5, 0, none⟩ = some (.int .u32 (s2.id : Int)) := hx7.cell 0 rfl
    have y1 : w3.cell? ⟨b5, 1, none⟩ = some (.slice a7 n7 c7) := hx7.cell 1 rfl
    have PB3 := Lib.hid (PB2.out.call hb7)
    have q0 : w3.cell? ⟨p, 0, none⟩ = some (.int .u32 (x.s.id : Int)) := PB3.out.cell 0 rfl
    have q1 : w3.cell? ⟨p, 1, none⟩ = some (.slice fa fn fc) := PB3.out.cell 1 rfl
    have pf : ∀ j, w3.frozen? ⟨p, j, none⟩ = false := PB3.out.soft
    have hpl3 : p < w3.heap.size := PB3.out.lt
    clear hb7 hx7 hs7 hab7 hb57
    have hne : p ≠ w.heap.size := by have := HST.out.box.lt; omega
    have hne' : w.heap.size ≠ p := fun h => hne h.symm
    obtain ⟨j0, hj0, hy0, hy1, hy2⟩ := info_parts infoCell
    have HJ := Lib.hid hj0
    have HJ0 := Lib.hid hy0
    have HJ1 := Lib.hid hy1
    have HJ2 := Lib.hid hy2
    clear hj0 hy0 hy1 hy2
    go_wp2_with fail
    have hx4 := (X3.out.setFar (p := ⟨p, 0, none⟩) hne (.int .u32 (s2.id : Int))).setFar (p := ⟨p, 1, none⟩) hne (.slice a7 n7 c7)
    obtain ⟨hw4, hbu4⟩ := HW.out
    clear HW HADD HSS PB3 PB2 y0 y1 q0 q1 pf
    generalize (w3.setCell ⟨p, 0, none⟩ (.int .u32 (s2.id : Int))).setCell ⟨p, 1, none⟩ (.slice a7 n7 c7) = w4 at *
    have HW4 := Lib.hid hw4
    have BU4 := Lib.hid hbu4
    have X4 := Lib.hid hx4
    clear hw4 hbu4 hx4
    have HXL := Lib.hid (show P.length = ln from HW4.out.far.now.2.1.1)
    go_loopw [6, 14, 15] (fun v i r wr => ∃ (k : Nat) (acc : List Pair), k ≤ ln ∧ i = .int .i64 k ∧ wr.ownsRow w4.heap.size 27 1 v k (acc.map Prod.snd) ∧ acc.map Prod.fst = (P.take k).map (fun q => q.1 ++ [zeroCell]) ∧ Far (OwnS S v) wr (fun W => ∀ q ∈ acc, RowAt W q) ∧ Below w4.heap.size w4 wr) (fun _ i _ _ => ln - (intOf i).toNat)
    case atStart => exact ⟨0, [], Nat.zero_le _, rfl, World.ownsRow_nil _ _ _ _, rfl, (fun _ _ q hq => by cases hq), Below.refl _ _⟩
    case round =>
      obtain ⟨k, acc, hk, rfl, hown, hacc, hfar, hb⟩ := hrel
      have HO := Lib.hid hown
      have HAC := Lib.hid hacc
      have HFA := Lib.hid hfar
      have HB := Lib.hid hb
      have HWR := Lib.hid (HW4.out.call hb)
      have XR := Lib.hid (X4.out.call hb)
      clear hown hacc hfar hb
      have hki : (0 : Int) ≤ (k : Int) := by omega
      have hln : ln ≤ 1000 := HLN.out
      have p2 : wr.cell? ⟨p, 2, none⟩ = some (.slice la ln lc) := HWR.out.box.cell 2 rfl
      have hpl : p < wr.heap.size := HWR.out.box.lt
      by_cases hlt : k < ln
      · have hkn : (k : Int) < (ln : Int) := by omega
        obtain ⟨b, off, q, u, rfl, hbl, hx, hr, hcell⟩ := (HWR.out.far.now.2.1).at1 hlt
        cases hr
        obtain ⟨qa, qn, qc, hqv, hqs⟩ := HWR.out.far.now.2.2 _ (List.mem_of_getElem? hx)
        have hq1 : 1 ≤ qn := by rw [← hqs.1]; exact HNE.out q.1 (by have := HWR.out.rows; simp only [] at this; rw [← this]; exact List.mem_map.2 ⟨_, List.mem_of_getElem? hx, rfl⟩)
        have hq2 : qn ≤ 1000 := by rw [← hqs.1]; exact HWID.out q.1 (by have := HWR.out.rows; simp only [] at this; rw [← this]; exact List.mem_map.2 ⟨_, List.mem_of_getElem? hx, rfl⟩)
        have RM := Lib.hid (row_room hq2)
        have WM := Lib.hid (wide_room hln hlt)
        rw [hqv] at hcell
        have hqnil : qa = none → qc = 0 := fun h => by
          obtain ⟨_, _, e, _⟩ := hqs.2 (by omega)
          rw [e] at h; cases h
        have HQN := Lib.hid hqnil
        have HQS := Lib.hid hqs
        have HQV := Lib.hid hqv
        have HX := Lib.hid hx
        have HAC1 := Lib.hid (show (acc ++ [(q.1 ++ [zeroCell], (.nilIface : Value))]).map Prod.fst = (P.take (k + 1)).map (fun q => q.1 ++ [zeroCell]) by rw [take_snocE hx, List.map_append, HAC.out]; rfl)
        have HLQ := Lib.hid (show Lies (wr.alloc (.cells #[] 30)) qa qn 3 (q.1.flatMap cellV) from (hqs.alloc CellR.stable _).liesF (by decide) cellV_len (fun _ _ hr => hr.1))
        clear hqnil hqs hqv hx hq1 hq2
        go_wp2_with (at_builtin; refine wpList_append_vals _ rfl _ _ _ rfl wr.heap.size 30 j0 (.agg #[.int .u8 0, .int .i64 0, .string ByteArray.empty]) 3 32 Try.underlying27 HJ.out HJ0.out HJ1.out HJ2.out rfl (by decide) _ _ [] rfl (World.ownsRow_lit wr #[] 0 (Nat.le_refl _) (by decide) rfl) _ _ _ (q.1.flatMap cellV) rfl HLQ.out (cells_oneE q.1) RM.out.1 RM.out.2.1 (by simp) HQN.out ?_; intro v5 w5 hown5 hgrow5 hnn5; refine Hold.out ?_)
        unfold Hold
        rw [Nat.zero_add] at hown5
        obtain ⟨a5, c5, rfl, hc5⟩ := own_slice hown5
        have K5 := Lib.hid (below_lit hgrow5)
        have HV5 := Lib.hid hown5
        have HCL6 := Lib.hid (cells_newE w5 [.int .u8 0, .int .i64 0, .string ⟨#[]⟩] 30)
        have HBASE6 := Lib.hid (show wr.heap.size ≤ (w5.alloc (.cells #[.int .u8 0, .int .i64 0, .string ⟨#[]⟩] 30)).heap.size by have := K5.out.size; simp; omega)
        clear hown5 hgrow5 hnn5 hc5
        go_wp2_with (at_builtin; refine wpList_append_lies _ rfl _ _ _ rfl wr.heap.size 30 j0 (.agg #[.int .u8 0, .int .i64 0, .string ByteArray.empty]) 3 32 Try.underlying27 HJ.out HJ0.out HJ1.out HJ2.out rfl (by decide) _ _ _ rfl (HV5.out.alloc _) ⟨w5.heap.size, 0, none⟩ 1 1 [.int .u8 0, .int .i64 0, .string ⟨#[]⟩] rfl rfl HCL6.out (by simp [Value.oneCell']) (by decide) RM.out.2.2.1 RM.out.2.2.2 HBASE6.out _ rfl ?_; intro g6 cap6 w6 hown6 hgrow6 hat6 hglt6; refine Hold.out ?_)
        unfold Hold
        have K6 := Lib.hid (below_append HV5.out K5.out hgrow6)
        have HO6 := Lib.hid (own_below HO.out K6.out)
        have hown6' : w6.ownsRow wr.heap.size 30 3 (.slice (some ⟨g6, 0, none⟩) (qn + 1) cap6) (qn + 1) ((q.1 ++ [zeroCell]).flatMap cellV) := by
          rw [List.flatMap_append]
          exact hown6
        have HRN := Lib.hid (RowAt.far (S := OwnS S u6) hown6' (own_lt HO.out HWR.out.slt) (fun y hy => by
          rcases List.mem_append.1 hy with hy | hy
          · exact ⟨rfl, HQS.out.cellsB y hy⟩
          · simp at hy
            subst hy
            exact ⟨rfl, by show (0 : Nat) ≤ maxLen; omega, by simp [zeroCell], by simp [zeroCell]⟩))
        have HF6 := Lib.hid (HFA.out.call K6.out)
        have HCL7 := Lib.hid (cell_one_new w6 (.slice (some ⟨g6, 0, none⟩) (qn + 1) cap6) 27)
        have HBASE7 := Lib.hid (show w4.heap.size ≤ (w6.alloc (.cells #[.slice (some ⟨g6, 0, none⟩) (qn + 1) cap6] 27)).heap.size by have := K6.out.size; have := HB.out.size; simp; omega)
        clear hown6 hown6' hgrow6 hat6 hglt6
        go_wp2_with (at_builtin; refine wpList_append_lies _ rfl _ _ _ rfl w4.heap.size 27 i0 (.slice none 0 0) 1 24 Try.underlying52 HI.out HZ0.out HZ1.out HZ2.out rfl (by decide) _ _ _ rfl (HO6.out.alloc _) ⟨w6.heap.size, 0, none⟩ 1 1 [.slice (some ⟨g6, 0, none⟩) (qn + 1) cap6] rfl rfl HCL7.out (by simp [Value.oneCell']) (by decide) WM.out.1 WM.out.2 HBASE7.out _ rfl ?_; intro g7 cap7 w7 hown7 hgrow7 hat7 hglt7; refine Hold.out ?_)
        unfold Hold
        have HB7 := Lib.hid (below_append HO6.out (HB.out.trans (K6.out.mono HB.out.size)) hgrow7)
        have HO7 := Lib.hid hown7
        have HF7 := Lib.hid (Far.grow (v' := .slice (some ⟨g7, 0, none⟩) (k + 1) cap7) (HF6.out.and HRN.out) ((Below.refl _ _).alloc (Nat.le_refl _) _) hgrow7 (fun j e => by
          simp [Value.ownBlock] at e
          subst e
          rcases hat7 with h | h
          · exact .inl h
          · exact .inr (by rw [h]; simp)))
        have HAC2 := Lib.hid (show (acc ++ [((q.1 ++ [zeroCell], .slice (some ⟨g6, 0, none⟩) (qn + 1) cap6) : Pair)]).map Prod.fst = (P.take (k + 1)).map (fun q => q.1 ++ [zeroCell]) by rw [← HAC1.out, List.map_append, List.map_append]; rfl)
        clear hown7 hgrow7 hat7 hglt7
        go_wp2
        go_roundw
        case rel =>
          refine ⟨k + 1, acc ++ [((q.1 ++ [zeroCell], .slice (some ⟨g6, 0, none⟩) (qn + 1) cap6) : Pair)], by omega, by go_num, by have := HO7.out; simpa using this, HAC2.out, HF7.out.imp (fun W h y hy => ?_), HB7.out⟩
          rcases List.mem_append.1 hy with hy | hy
          · exact h.1 y hy
          · simp at hy
            subst hy
            exact h.2
        case measure => simp [intOf] <;> omega
      · obtain rfl : k = ln := by omega
        have HAL := Lib.hid (show acc.map Prod.fst = wideL x.l by rw [HAC.out, List.take_of_length_le (by rw [HXL.out]; exact Nat.le_refl _)]; have := HWR.out.rows; simp only [] at this; rw [← this]; unfold wideL; rw [List.map_map]; rfl)
        have hlen : acc.length = k := by have h1 := congrArg List.length HAC.out; rw [List.length_map, List.length_map, List.length_take, HXL.out] at h1; omega
        obtain ⟨a5, c5, rfl, _⟩ := own_slice HO.out
        have e0 : wr.cell? ⟨w.heap.size, 0, none⟩ = some (.int .u64 (o : Int)) := XR.out.cell 0 rfl
        have p3 : wr.cell? ⟨p, 3, none⟩ = some (.int .u64 (x.off : Int)) := HWR.out.box.cell 3 rfl
        have pf : ∀ j, wr.frozen? ⟨p, j, none⟩ = false := HWR.out.box.soft
        have hzl : w.heap.size < wr.heap.size := XR.out.lt
        have HFIN := Lib.hid (RefBox.stored (o := o) (P' := acc) HW4.out HB.out (by rw [hlen]; exact HO.out) (Nat.le_refl _) ho (HFA.out.mono (fun k hk => .inl hk)))
        go_wp2
        go_ret
        refine ⟨by rw [HD1.out]; rfl, ?_, (((But.refl (Nat.le_refl _)).call HB2.out).step BU4.out HB2.out.size).step HFIN.out.2 (Nat.le_trans HB2.out.size BU4.out.size)⟩
        rw [HT0.out, ← HAL.out]
        exact HFIN.out.1
end Go.Proofs.Ytlclhinianamhaa
