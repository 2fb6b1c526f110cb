/- (*event.State).Do: widen. -/
import Derived.Test.YtlclhinianamhaaEvD0
import Derived.Deep.RegionLaw
import Derived.Deep.RegionHeld3
import Derived.Deep.AppendLies
namespace Go.Proofs.Ytlclhinianamhaa
open Go.RowKit Go.Deep
set_option linter.unusedVariables false
set_option linter.unusedSimpArgs false

set_option maxRecDepth 100000 in
set_option maxHeartbeats 16000000 in
theorem ido_wide (S : Nat → Prop) (p bm : Nat) (x : StD) (ecs : List Value) (e : EventD) (w : World) (hst : ImpSt S w p bm x) (he : EventR w ecs e) (hrl : e.row.length ≤ 1000) (hl : x.l.length ≤ 1000) (hgood : doE x e = 0) (hp : e.op = 3) (hwid : ∀ r ∈ x.l, 1 ≤ r.length ∧ r.length ≤ 1000) :
    Calls Try.prog 17 #[.pointer (some ⟨p, 0, none⟩), .agg ecs.toArray] w (IDoPost S p bm x e w) := by
  obtain ⟨fa, fn, fc, M, hst⟩ := hst
  have HST := Lib.hid hst
  have HEV := Lib.hid he
  obtain ⟨ra, rn, rc, rfl, he1, he2, he3, hrow, ho, hop, hk, hnm, hkd⟩ := he
  have HROW := Lib.hid hrow
  have HK := Lib.hid hk
  have HNM := Lib.hid hnm
  have hrn : rn ≤ 1000 := by rw [← hrow.1]; exact hrl
  have hoff := hst.off
  obtain ⟨R, hR⟩ : ∃ R, checkE x.s e = R := ⟨_, rfl⟩
  have HCHK := Lib.hid (fun W h1 h2 => echeck_calls [.int .u32 (x.s.id : Int), .slice fa fn fc] (e.cells (.slice ra rn rc)) x.s e W h1 h2 (by omega))
  rw [hR] at HCHK
  have HR := Lib.hid hR
  have HL := Lib.hid hl
  have HGOOD := Lib.hid hgood
  have HP := Lib.hid hp
  clear hgood hp
  have HWID := Lib.hid hwid
  clear hwid
  obtain ⟨o, op, row, key, nm, kind⟩ := e
  obtain ⟨kk, kn, ks⟩ := key
  simp only [] at ho hop hkd HNM HROW HK
  unfold EventD.cells at HEV HCHK ⊢
  try simp only [] at HCHK
  try simp only [] at HEV
  try simp only []
  have hpl : p < w.heap.size := hst.box.lt
  generalize hxo : x.off = xo at *
  have HXO := Lib.hid hxo
  have HD := Lib.hid (show doE x ⟨o, op, row, ⟨kk, kn, ks⟩, nm, kind⟩ = if xo = 18446744073709551615 ∨ o ≠ xo + 1 then 220 else R by unfold doE; rw [hxo, hR])
  clear hst hrow he1 he2 he3 hk hnm hrl hR hl hxo
  go_enter Try.func17, Try.ntmps17
  go_upto_region 1 with fail
  obtain ⟨W0, hWW⟩ : ∃ W0 : World, W0 = w.alloc (.cells #[.int .u64 (o : Int), .int .u8 (op : Int), .slice ra rn rc, .int .u8 kk, .int .i64 kn, .string ks, .string nm, .int .u8 (kind : Int)] 32) := ⟨_, rfl⟩
  have hb0 : Below w.heap.size w W0 := by rw [hWW]; exact (Below.refl _ _).alloc (Nat.le_refl _) _
  have hx0 : Box W0 w.heap.size #[.int .u64 (o : Int), .int .u8 (op : Int), .slice ra rn rc, .int .u8 kk, .int .i64 kn, .string ks, .string nm, .int .u8 (kind : Int)] := by rw [hWW]; exact Box.new _ _ _
  rw [← hWW]
  clear hWW
  have HB0 := Lib.hid hb0
  have X0 := Lib.hid hx0
  have hst0 := HST.out.call hb0
  have hpb := hst0.box
  rw [HXO.out] at hpb
  have HST0 := Lib.hid hst0
  have PB0 := Lib.hid hpb
  have hpl0 : p < W0.heap.size := hpb.lt
  have hzl0 : w.heap.size < W0.heap.size := hx0.lt
  clear hb0 hx0 hst0 hpb hpl
  have p3 : W0.cell? ⟨p, 3, none⟩ = some (.int .u64 (xo : Int)) := PB0.out.cell 3 rfl
  have e0 : W0.cell? ⟨w.heap.size, 0, none⟩ = some (.int .u64 (o : Int)) := X0.out.cell 0 rfl
  obtain ⟨hmax, hoe, hr0⟩ : xo ≠ 18446744073709551615 ∧ o = xo + 1 ∧ R = 0 := by
    have h := HGOOD.out
    rw [HD.out] at h
    split at h
    · exact absurd h (by decide)
    · rename_i h'
      exact ⟨fun e => h' (.inl e), by omega, h⟩
  subst hr0
  have hzi : ((o : Int) == 0) = false := by rw [beq_eq_false_iff_ne]; omega
  have hxw : IntKind.u64.wrap ((o : Int) - 1) = (o : Int) - 1 := IntWalk.u64_in _ (by omega)
  have hoi : ((o : Int) - 1 != (xo : Int)) = false := by simp; omega
  have HD1 := Lib.hid HGOOD.out
  have HOE := Lib.hid hoe
  clear hoe hmax
  go_quiet (fail)
  go_wp2_with fail
  generalize hW1 : W0.drewN nq = W1 at *
  have hb1 : Below W0.heap.size W0 W1 := by rw [← hW1]; exact below_drewN (Below.refl _ _) _
  have HB1 := Lib.hid (HB0.out.trans (hb1.mono HB0.out.size))
  have X1 := Lib.hid (X0.out.call hb1)
  have PB1 := Lib.hid (PB0.out.call hb1)
  have HST1 := Lib.hid (HST0.out.call hb1)
  clear hb1 hW1 p3 e0 hpl0 hzl0
  have hS : ∀ W, Below W1.heap.size W1 W → W.cell? ⟨p, 0, none⟩ = some (.int .u32 (x.s.id : Int)) ∧ W.cell? ⟨p, 1, none⟩ = some (.slice fa fn fc) ∧ W.cell? ⟨p, 2, none⟩ = some (.map (some bm)) ∧ W.cell? ⟨p, 3, none⟩ = some (.int .u64 (xo : Int)) ∧ W.cell? ⟨w.heap.size, 0, none⟩ = some (.int .u64 (o : Int)) ∧ W.cell? ⟨w.heap.size, 1, none⟩ = some (.int .u8 (op : Int)) ∧ W.cell? ⟨w.heap.size, 2, none⟩ = some (.slice ra rn rc) ∧ W.cell? ⟨w.heap.size, 3, none⟩ = some (.int .u8 kk) ∧ W.cell? ⟨w.heap.size, 4, none⟩ = some (.int .i64 kn) ∧ W.cell? ⟨w.heap.size, 5, none⟩ = some (.string ks) ∧ W.cell? ⟨w.heap.size, 6, none⟩ = some (.string nm) ∧ W.cell? ⟨w.heap.size, 7, none⟩ = some (.int .u8 (kind : Int)) := fun W h => ⟨(PB1.out.call h).cell 0 rfl, (PB1.out.call h).cell 1 rfl, (PB1.out.call h).cell 2 rfl, (PB1.out.call h).cell 3 rfl, (X1.out.call h).cell 0 rfl, (X1.out.call h).cell 1 rfl, (X1.out.call h).cell 2 rfl, (X1.out.call h).cell 3 rfl, (X1.out.call h).cell 4 rfl, (X1.out.call h).cell 5 rfl, (X1.out.call h).cell 6 rfl, (X1.out.call h).cell 7 rfl⟩
  have HSS := Lib.hid hS
  clear hS
  have HCK2 := Lib.hid (fun W (h : Below W1.heap.size W1 W) => HCHK.out W (HST1.out.call h).schema (EventR.stable _ _ _ _ (below_step HB1.out h) HEV.out))
  go_region_held3 (fun W => W.cell? ⟨p, 0, none⟩ = some (.int .u32 (x.s.id : Int)) ∧ W.cell? ⟨p, 1, none⟩ = some (.slice fa fn fc) ∧ W.cell? ⟨p, 2, none⟩ = some (.map (some bm)) ∧ W.cell? ⟨p, 3, none⟩ = some (.int .u64 (xo : Int)) ∧ W.cell? ⟨w.heap.size, 0, none⟩ = some (.int .u64 (o : Int)) ∧ W.cell? ⟨w.heap.size, 1, none⟩ = some (.int .u8 (op : Int)) ∧ W.cell? ⟨w.heap.size, 2, none⟩ = some (.slice ra rn rc) ∧ W.cell? ⟨w.heap.size, 3, none⟩ = some (.int .u8 kk) ∧ W.cell? ⟨w.heap.size, 4, none⟩ = some (.int .i64 kn) ∧ W.cell? ⟨w.heap.size, 5, none⟩ = some (.string ks) ∧ W.cell? ⟨w.heap.size, 6, none⟩ = some (.string nm) ∧ W.cell? ⟨w.heap.size, 7, none⟩ = some (.int .u8 (kind : Int)))
    (first | exact HSS.out _ K2.out | exact HSS.out _ (Below.refl _ _).drew)
    (first
      | (go_at_call 12; (with_reducible refine (HCK2.out _ (Below.drew (Below.refl _ _))).mono ?_); rintro e w2 ⟨rfl, hp2⟩; have K2 := Lib.hid (below_step (W0 := W1) (Below.drew (Below.refl _ _)) hp2); clear hp2)
      | fail)
  have hb2 := HB1.out.trans (K2.out.mono HB1.out.size)
  have HB2 := Lib.hid hb2
  have X2 := Lib.hid (X1.out.call K2.out)
  have PB2 := Lib.hid (PB1.out.call K2.out)
  have HST2 := Lib.hid (HST1.out.call K2.out)
  clear hb2 K2 HSS HCK2
  have HPX := Lib.hid (show op = 3 from HP.out)
  clear HP
  have hp1i : ((op : Int) == 1) = false := by rw [beq_eq_false_iff_ne]; have := HPX.out; omega
  have hp2i : ((op : Int) == 2) = false := by rw [beq_eq_false_iff_ne]; have := HPX.out; omega
  have hae := wide_ok HR.out HPX.out
  simp only [] at hae
  obtain ⟨s2, hs2⟩ : ∃ s2, addS x.s nm (kind : Int) = s2 := ⟨_, rfl⟩
  have HT0 := Lib.hid (show doS x ⟨o, op, row, ⟨kk, kn, ks⟩, nm, kind⟩ = ⟨s2, wideL x.l, o⟩ by unfold doS; rw [if_neg (by rw [HD1.out]; simp), if_neg (by have := HPX.out; simp; omega), if_neg (by have := HPX.out; simp; omega), ← hs2])
  have hadd := fun (W : World) (h : Below w2.heap.size w2 W) => add_calls [.int .u32 (x.s.id : Int), .slice fa fn fc] x.s nm kind W (HST2.out.call h).schema HNM.out hkd
  rw [hs2, hae] at hadd
  unfold AddPost at hadd
  have HADD := Lib.hid hadd
  have e1 : w2.cell? ⟨w.heap.size, 1, none⟩ = some (.int .u8 (op : Int)) := X2.out.cell 1 rfl
  have hzl2 : w.heap.size < w2.heap.size := X2.out.lt
  have hpl2 : p < w2.heap.size := PB2.out.lt
  have hzn : w.heap.size ≠ p := by have := HST.out.box.lt; omega
  clear hadd hs2 hae
  go_upto_region 7 with fail
  have p0 : w2.cell? ⟨p, 0, none⟩ = some (.int .u32 (x.s.id : Int)) := PB2.out.cell 0 rfl
  have p1 : w2.cell? ⟨p, 1, none⟩ = some (.slice fa fn fc) := PB2.out.cell 1 rfl
  have e6 : w2.cell? ⟨w.heap.size, 6, none⟩ = some (.string nm) := X2.out.cell 6 rfl
  have e7 : w2.cell? ⟨w.heap.size, 7, none⟩ = some (.int .u8 (kind : Int)) := X2.out.cell 7 rfl
  clear e1
  go_cut [] (fun wx => ∃ (a7 : Option Addr) (n7 c7 : Nat), ImpBox S wx p bm ⟨s2, x.l, x.off⟩ a7 n7 c7 M ∧ ButS (Two p bm) w2.heap.size w2 wx ∧ Box wx w.heap.size #[.int .u64 (o : Int), .int .u8 (op : Int), .slice ra rn rc, .int .u8 kk, .int .i64 kn, .string ks, .string nm, .int .u8 (kind : Int)])
  case first =>
    go_region_with (first
      | (go_at_call 41; (with_reducible refine (HADD.out _ (Below.refl _ _).drew).mono ?_); rintro e w7 ⟨a7, n7, c7, rfl, hs7, hn7, hc7, hz7, hi7, hab7, hp7⟩; have K7 := Lib.hid (below_step (W0 := w2) (Below.refl _ _).drew hp7); have HS7 := Lib.hid (show SchemaR w7 [.int .u32 (s2.id : Int), .slice a7 n7 c7] s2 from ⟨a7, n7, c7, rfl, hn7, hc7, hz7, hs7, hi7⟩); have HAB7 := Lib.hid hab7; have q0 : w7.cell? ⟨p, 0, none⟩ = some (.int .u32 (x.s.id : Int)) := (PB2.out.call K7.out).cell 0 rfl; have q1 : w7.cell? ⟨p, 1, none⟩ = some (.slice fa fn fc) := (PB2.out.call K7.out).cell 1 rfl; have pf7 : ∀ j, w7.frozen? ⟨p, j, none⟩ = false := (PB2.out.call K7.out).soft; have hpl7 : p < w7.heap.size := (PB2.out.call K7.out).lt; clear hp7 hs7 hab7 hn7 hc7 hz7 hi7)
      | fail)
    all_goals go_wp2_with fail
    all_goals go_meet
    all_goals exact ⟨a7, n7, c7, (HST2.out.call K7.out).widened (w0 := w2) HST2.out.slt HS7.out HAB7.out, ((ButS.refl (Nat.le_refl _)).call K7.out).step ((((But.refl (Nat.le_refl _)).set 0 _).set 1 _).two') K7.out.size, ((X2.out.call K7.out).setFar (p := ⟨p, 0, none⟩) hzn.symm _).setFar (p := ⟨p, 1, none⟩) hzn.symm _⟩
  case rest =>
    obtain ⟨w3, rfl⟩ : ∃ W : World, W = wc := ⟨_, rfl⟩
    obtain ⟨a7, n7, c7, hib, hbu, hx3⟩ := hcut
    have HIB := Lib.hid hib
    have BU3 := Lib.hid hbu
    have X3 := Lib.hid hx3
    have HMP := Lib.hid hib.map
    have p2 : w3.cell? ⟨p, 2, none⟩ = some (.map (some bm)) := HIB.out.box.cell 2 rfl
    have hbz : bm < w3.heap.size := hib.map.lt
    clear hib hbu hx3 p0 p1 e6 e7
    go_wp2_with (first
      | (at_range; refine wpList_rangeM _ rfl _ rfl bm M rfl HMP.out ?_; intro w4 hit4 hb4 hs4)
      | go_in)
    go_frame
    have HB4 := Lib.hid hb4
    have hrz : bm < w4.heap.size := Nat.lt_of_lt_of_le hbz hb4.size
    have HIB4 := Lib.hid (HIB.out.call hb4)
    obtain ⟨i0, hi0, hz0, hz1, hz2⟩ := info_parts infoVal
    have HI := Lib.hid hi0
    have HZ0 := Lib.hid hz0
    have HZ1 := Lib.hid hz1
    have HZ2 := Lib.hid hz2
    have HPN := Lib.hid HIB.out.ne
    clear hi0 hz0 hz1 hz2 hb4 p2 HADD
    go_loopw [8, 9] (fun k8 r9 wr => ∃ (cur : List VPair) (vis : List Nat), IterAt wr bm w3.heap.size cur vis ∧ Grown1 M cur vis ∧ Far (AndS S w3.heap.size) wr (fun W => ∀ q ∈ cur, VRowAt W q) ∧ But w3.heap.size bm w3 wr) (fun _ _ wr => wr.rangeLeft bm w3.heap.size)
    case atStart => exact ⟨M, [], hit4, Grown1.start M, (HIB.out.far.plus HB4.out (Nat.le_refl _)).imp (fun W h => h.2), (But.refl (Nat.le_refl _)).call HB4.out⟩
    case round =>
      obtain ⟨cur, vis, hit, hgr, hfar, hbu⟩ := hrel
      have HIT := Lib.hid hit
      have HGR := Lib.hid hgr
      have HFA := Lib.hid hfar
      have BUR := Lib.hid hbu
      clear hit hgr hfar hbu
      go_wp2_with (first
        | (at_next; refine wpList_nextM _ rfl _ rfl bm w3.heap.size _ _ rfl HIT.out ?_ ?_)
        | go_in)
      · intro hall
        have HW := Lib.hid (HGR.out.end_ hall)
        have HIE := Lib.hid (((HIB.out.remap BUR.out HIT.out.map (wide_rows HIB.out.rows HW.out) (HFA.out.mono fun k hk => .inl hk))).reoff ho)
        have PR := Lib.hid (Box.but HIB.out.box BUR.out HIB.out.box.lt HPN.out.symm)
        have XR := Lib.hid (Box.but X3.out BUR.out X3.out.lt (by have h1 := HST.out.map.lt; omega))
        have p3 : wr.cell? ⟨p, 3, none⟩ = some (.int .u64 (x.off : Int)) := PR.out.cell 3 rfl
        have e0 : wr.cell? ⟨w.heap.size, 0, none⟩ = some (.int .u64 (o : Int)) := XR.out.cell 0 rfl
        have pf : ∀ j, wr.frozen? ⟨p, j, none⟩ = false := PR.out.soft
        have hplr := PR.out.lt
        have hzlr := XR.out.lt
        go_wp2
        go_ret
        refine ⟨by rw [HD1.out]; rfl, ?_, ((((ButS.refl (Nat.le_refl _)).call HB2.out).step BU3.out HB2.out.size).step BUR.out.two (Nat.le_trans HB2.out.size BU3.out.size)).step (((But.refl (Nat.le_refl _)).set 3 _).two') (Nat.le_trans (Nat.le_trans HB2.out.size BU3.out.size) BUR.out.size)⟩
        rw [HT0.out]
        exact ⟨_, _, _, _, HIE.out⟩
      · intro j row1 v1 ck cn cs w1 hq hjv hkv hit1 hlf1 hg1 hs1 hen
        have HQC := Lib.hid hq
        have HKV := Lib.hid hkv
        have HIT1a := Lib.hid hit1
        have HLF1 := Lib.hid hlf1
        have hq0 : M[j]? = some (row1, v1) := by
          have hjl : j < M.length := by rw [← HGR.out.1]; exact (List.getElem?_eq_some_iff.1 hq).1
          have h1 := (HGR.out.2 j _ (List.getElem?_eq_getElem hjl)).2 hjv
          rw [hq] at h1
          rw [List.getElem?_eq_getElem hjl, ← h1]
        have HQ0 := Lib.hid hq0
        have hrow1 : 1 ≤ row1.length ∧ row1.length ≤ 1000 := by
          have h1 := HWID.out (cellsOfV (row1, v1)) (HST2.out.rows.mem_iff.1 (List.mem_map.2 ⟨_, List.mem_of_getElem? hq0, rfl⟩))
          unfold cellsOfV at h1
          rw [List.length_map] at h1
          exact h1
        have HKW := Lib.hid (fun v' => wide_keyV (v := v') (v' := v1) hrow1.1)
        have BU1 := Lib.hid (show But w3.heap.size bm w3 w1 from BUR.out.grown hg1 (fun b e => by cases e; exact Nat.le_refl _))
        have HFA1 := Lib.hid (HFA.out.step (ButS.plus hg1))
        clear hq hkv hit1 hlf1 hg1 hjv hq0
        go_wp2_with fail
        obtain ⟨W1, hW1⟩ : ∃ W1 : World, W1 = w1.alloc (.cells #[.int .u8 ck, .int .i64 cn, .string cs] 30) := ⟨_, rfl⟩
        have hb1 : Below w1.heap.size w1 W1 := by rw [hW1]; exact (Below.refl _ _).alloc (Nat.le_refl _) _
        have hx1 : Box W1 wr.heap.size #[.int .u8 ck, .int .i64 cn, .string cs] := by rw [hW1]; exact Box.at_ _ _ _ _ hs1.symm
        rw [← hW1]
        clear hW1
        have BU2 := Lib.hid (BU1.out.call hb1)
        have HIT1 := Lib.hid (HIT1a.out.call hb1)
        have HLF2 := Lib.hid (show W1.rangeLeft bm w3.heap.size < wr.rangeLeft bm w3.heap.size by rw [HIT1a.out.left_call hb1]; exact HLF1.out)
        have HFA2 := Lib.hid (HFA1.out.call hb1)
        have PB1 := Lib.hid (Box.but HIB.out.box BU2.out HIB.out.box.lt HPN.out.symm)
        have KB1 := Lib.hid hx1
        obtain ⟨qa, qn, qc, rfl, hqnil, hqs⟩ := HFA2.out.now (row1, v1) (List.mem_of_getElem? HQC.out)
        have hqn : row1.length = qn := hqs.1
        have HQN := Lib.hid hqnil
        have HQS := Lib.hid hqs
        have hbmw : bm ≠ wr.heap.size := by have h1 := HIT.out.ltm; omega
        have RM := Lib.hid (show qn + 1 ≤ maxLen ∧ (qn + 1) * 16 ≤ 140737488355328 from wide_room16 (by omega))
        have HCLN := Lib.hid (fun (W : World) (h : Below W1.heap.size W1 W) => clone_vals qa qn qc row1 W (hqs.below ValRE.stable h) (by omega) hqnil)
        have hSM : ∀ w6 w7, Below W1.heap.size W1 w6 → But w6.heap.size bm w6 w7 → w7.cell? ⟨p, 2, none⟩ = some (.map (some bm)) ∧ w7.cell? ⟨wr.heap.size, 0, none⟩ = some (.int .u8 ck) ∧ w7.cell? ⟨wr.heap.size, 1, none⟩ = some (.int .i64 cn) ∧ w7.cell? ⟨wr.heap.size, 2, none⟩ = some (.string cs) := fun w6 w7 h1 h2 => ⟨((PB1.out.call h1).but h2 (PB1.out.call h1).lt HPN.out.symm).cell 2 rfl, ((KB1.out.call h1).but h2 (KB1.out.call h1).lt hbmw.symm).cell 0 rfl, ((KB1.out.call h1).but h2 (KB1.out.call h1).lt hbmw.symm).cell 1 rfl, ((KB1.out.call h1).but h2 (KB1.out.call h1).lt hbmw.symm).cell 2 rfl⟩
        have HSM := Lib.hid hSM
        have hS : ∀ W, Below W1.heap.size W1 W → W.cell? ⟨p, 2, none⟩ = some (.map (some bm)) ∧ W.cell? ⟨wr.heap.size, 0, none⟩ = some (.int .u8 ck) ∧ W.cell? ⟨wr.heap.size, 1, none⟩ = some (.int .i64 cn) ∧ W.cell? ⟨wr.heap.size, 2, none⟩ = some (.string cs) := fun W h => ⟨(PB1.out.call h).cell 2 rfl, (KB1.out.call h).cell 0 rfl, (KB1.out.call h).cell 1 rfl, (KB1.out.call h).cell 2 rfl⟩
        have HSS := Lib.hid hS
        clear hb1 hx1 hqnil hqs hSM hS
        go_region_held3 (fun W => W.cell? ⟨p, 2, none⟩ = some (.map (some bm)) ∧ W.cell? ⟨wr.heap.size, 0, none⟩ = some (.int .u8 ck) ∧ W.cell? ⟨wr.heap.size, 1, none⟩ = some (.int .i64 cn) ∧ W.cell? ⟨wr.heap.size, 2, none⟩ = some (.string cs))
          (first | exact HS7.out | exact HSS.out _ K6.out | (refine HSS.out _ ?_; exact (by repeat (first | exact Below.refl _ _ | (with_reducible refine Below.drew ?_) | (with_reducible refine Below.alloc ?_ (by first | exact Nat.le_refl _ | exact K5.out.size | (simp; done) | (have := K5.out.size; simp; omega) | (simp; omega)) _) | (with_reducible exact K5.out)))))
          (first
            | (go_at_call 49; (with_reducible refine (HCLN.out _ (by repeat (first | exact Below.refl _ _ | (with_reducible refine Below.drew ?_) | (with_reducible refine Below.alloc ?_ (by first | exact Nat.le_refl _ | exact K5.out.size | (simp; done) | (have := K5.out.size; simp; omega) | (simp; omega)) _) | (with_reducible exact K5.out)))).mono ?_); rintro e w5 ⟨v5, rfl, hown5, hp5⟩; have k5 := below_step (W0 := W1) (by repeat (first | exact Below.refl _ _ | (with_reducible refine Below.drew ?_) | (with_reducible refine Below.alloc ?_ (by first | exact Nat.le_refl _ | (simp; done) | (simp; omega)) _))) hp5; have K5 := Lib.hid k5; obtain ⟨a5, c5, rfl, hc5⟩ := own_slice hown5; have HO5 := Lib.hid (ownF_le (base' := W1.heap.size) hown5 (by first | exact Nat.le_refl _ | (simp; done) | (simp; omega))); (first | (have hz := Box.call (b := W1.heap.size) (cs := #[.nilIface]) (by (repeat (first | (with_reducible exact Box.at_ _ _ _ _ (by first | rfl | (simp; done) | fail)) | (with_reducible refine Box.drew ?_) | (with_reducible refine Box.alloc ?_ _))); first | done | fail) hp5; have HZ5 := Lib.hid hz; clear hz) | skip); clear hp5 k5 hown5 hc5)
            | (have HOA := HO5.out; have KA := K5.out; have hbaseA := KA.size; have hcA := one_of_box HZ5.out; refine step_append_lies _ (by rfl) _ _ _ (by rfl) W1.heap.size 60 i0 .nilIface 1 16 Try.underlying61 HI.out HZ0.out HZ1.out HZ2.out rfl (by decide) _ _ _ (by rfl) HOA ⟨W1.heap.size, 0, none⟩ 1 1 [.nilIface] (by rfl) (by rfl) hcA (by simp [Value.oneCell']) (by decide) RM.out.1 RM.out.2 hbaseA _ (by rfl) ?_; intro g6 cap6 w6 hown6 hgrow6 hat6 hglt6; have K6 := Lib.hid (below_grown_own KA HOA hgrow6); have hown6' : w6.ownsRow W1.heap.size 60 1 (.slice (some ⟨g6, 0, none⟩) (qn + 1) cap6) (qn + 1) ((row1 ++ [ValD.nil]).map ValD.val) := (by rw [List.map_append]; exact hown6); have HO6 := Lib.hid hown6'; obtain ⟨w7, hrun7, hit7, hlf7, hbu7⟩ := (HIT1.out.call K6.out).store2 (v' := .slice (some ⟨g6, 0, none⟩) (qn + 1) cap6) HQC.out HKW.out HKV.out; have HIT7 := Lib.hid hit7; have HLF7 := Lib.hid hlf7; have BU7 := Lib.hid hbu7; have HS7 := Lib.hid (HSM.out w6 w7 K6.out hbu7); clear HOA KA hbaseA hcA hown6 hgrow6 hat6 hglt6 hown6' hit7 hlf7 hbu7)
            | (have HOA := HO5.out.alloc (.cells #[.nilIface] 60); have KA := K5.out.alloc K5.out.size (.cells #[.nilIface] 60); have hbaseA := KA.size; have hcA := cell_one_new w5 .nilIface 60; refine step_append_lies _ (by rfl) _ _ _ (by rfl) W1.heap.size 60 i0 .nilIface 1 16 Try.underlying61 HI.out HZ0.out HZ1.out HZ2.out rfl (by decide) _ _ _ (by rfl) HOA ⟨w5.heap.size, 0, none⟩ 1 1 [.nilIface] (by rfl) (by rfl) hcA (by simp [Value.oneCell']) (by decide) RM.out.1 RM.out.2 hbaseA _ (by rfl) ?_; intro g6 cap6 w6 hown6 hgrow6 hat6 hglt6; have K6 := Lib.hid (below_grown_own KA HOA hgrow6); have hown6' : w6.ownsRow W1.heap.size 60 1 (.slice (some ⟨g6, 0, none⟩) (qn + 1) cap6) (qn + 1) ((row1 ++ [ValD.nil]).map ValD.val) := (by rw [List.map_append]; exact hown6); have HO6 := Lib.hid hown6'; obtain ⟨w7, hrun7, hit7, hlf7, hbu7⟩ := (HIT1.out.call K6.out).store2 (v' := .slice (some ⟨g6, 0, none⟩) (qn + 1) cap6) HQC.out HKW.out HKV.out; have HIT7 := Lib.hid hit7; have HLF7 := Lib.hid hlf7; have BU7 := Lib.hid hbu7; have HS7 := Lib.hid (HSM.out w6 w7 K6.out hbu7); clear HOA KA hbaseA hcA hown6 hgrow6 hat6 hglt6 hown6' hit7 hlf7 hbu7)
            | fail)
        all_goals go_wp2_with fail
        all_goals go_roundw
        all_goals first
          | (rw [HLF7.out, HIT1.out.left_call K6.out]; exact HLF2.out)
          | (refine ⟨_, _, HIT7.out, HGR.out.next HQ0.out _, fun W hW q hq => ?_, (BU2.out.call K6.out).step BU7.out (Nat.le_trans BU2.out.size K6.out.size)⟩
             have hF := (HFA2.out.call K6.out).step (BU7.out.s (.inl HST.out.sb)) W hW
             have hN := ((VRowAt.far (S := AndS S w3.heap.size) HO6.out (fun k hk => (by
               rcases hk with hk | hk
               · exact Nat.lt_of_lt_of_le (HIB.out.slt k hk) BU2.out.size
               · rw [hk]; exact HIT1.out.ltr))).step (BU7.out.s (.inl HST.out.sb))) W hW
             rcases List.mem_or_eq_of_mem_set hq with h | rfl
             · exact hF q h
             · exact hN)
          | fail
end Go.Proofs.Ytlclhinianamhaa
