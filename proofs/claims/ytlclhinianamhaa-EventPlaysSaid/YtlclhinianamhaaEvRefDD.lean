/- (*catchmentref22.State).Do: remove. -/
import Derived.Test.YtlclhinianamhaaEvRefD0
namespace Go.Proofs.Ytlclhinianamhaa
open Go.RowKit Go.Deep
set_option linter.unusedVariables false
set_option linter.unusedSimpArgs false

set_option maxRecDepth 100000 in
set_option maxHeartbeats 16000000 in
theorem refdo_del (S : Nat → Prop) (p : Nat) (x : StD) (ecs : List Value) (e : EventD) (w : World) (hst : RefSt S w p x) (he : EventR w ecs e) (hrl : e.row.length ≤ 100000) (hl : x.l.length ≤ 1000) (hne : ∀ r ∈ x.l, 1 ≤ r.length) (hgood : doE x e = 0) (hp : e.op = 2) :
    Calls Try.prog 29 #[.pointer (some ⟨p, 0, none⟩), .agg ecs.toArray] w (DoPost S p x e w) := by
  obtain ⟨fa, fn, fc, la, ln, lc, P, hst⟩ := hst
  have HST := Lib.hid hst
  have HEV := Lib.hid he
  obtain ⟨ra, rn, rc, rfl, he1, he2, he3, hrow, ho, hop, hk, hnm, hkd⟩ := he
  have HROW := Lib.hid hrow
  have HK := Lib.hid hk
  have HNM := Lib.hid hnm
  have hrn : rn ≤ 100000 := by rw [← hrow.1]; exact hrl
  have hoff := hst.off
  obtain ⟨i0, hi0, hz0, hz1, hz2⟩ := info_parts infoRowE
  have HI := Lib.hid hi0
  have HZ0 := Lib.hid hz0
  have HZ1 := Lib.hid hz1
  have HZ2 := Lib.hid hz2
  clear hi0 hz0 hz1 hz2
  obtain ⟨R, hR⟩ : ∃ R, checkE x.s e = R := ⟨_, rfl⟩
  have HCHK := Lib.hid (fun W h1 h2 => refchk_calls [.int .u32 (x.s.id : Int), .slice fa fn fc] (e.cells (.slice ra rn rc)) x.s e W h1 h2 hrl)
  rw [hR] at HCHK
  have HR := Lib.hid hR
  have HNE := Lib.hid hne
  have HL := Lib.hid hl
  have HGOOD := Lib.hid hgood
  have HP := Lib.hid hp
  clear hgood hp
  obtain ⟨o, op, row, key, nm, kind⟩ := e
  obtain ⟨kk, kn, ks⟩ := key
  simp only [] at ho hop hkd HNM HROW HK
  unfold EventD.cells at HEV HCHK ⊢
  try simp only [] at HCHK
  try simp only [] at HEV
  try simp only []
  have hpl : p < w.heap.size := hst.box.lt
  generalize hxo : x.off = xo at *
  have HXO := Lib.hid hxo
  have HD := Lib.hid (show doE x ⟨o, op, row, ⟨kk, kn, ks⟩, nm, kind⟩ = if xo = 18446744073709551615 ∨ o ≠ xo + 1 then 220 else R by unfold doE; rw [hxo, hR])
  clear hst hrow he1 he2 he3 hk hnm hrl hR hne hl hxo
  go_enter Try.func29, Try.ntmps29
  go_upto_region 1 with fail
  obtain ⟨W0, hWW⟩ : ∃ W0 : World, W0 = w.alloc (.cells #[.int .u64 (o : Int), .int .u8 (op : Int), .slice ra rn rc, .int .u8 kk, .int .i64 kn, .string ks, .string nm, .int .u8 (kind : Int)] 32) := ⟨_, rfl⟩
  have hb0 : Below w.heap.size w W0 := by rw [hWW]; exact (Below.refl _ _).alloc (Nat.le_refl _) _
  have hx0 : Box W0 w.heap.size #[.int .u64 (o : Int), .int .u8 (op : Int), .slice ra rn rc, .int .u8 kk, .int .i64 kn, .string ks, .string nm, .int .u8 (kind : Int)] := by rw [hWW]; exact Box.new _ _ _
  rw [← hWW]
  clear hWW
  have HB0 := Lib.hid hb0
  have X0 := Lib.hid hx0
  have hst0 := HST.out.call hb0
  have hpb := hst0.box
  rw [HXO.out] at hpb
  have HST0 := Lib.hid hst0
  have PB0 := Lib.hid hpb
  have hpl0 : p < W0.heap.size := hpb.lt
  have hzl0 : w.heap.size < W0.heap.size := hx0.lt
  clear hb0 hx0 hst0 hpb hpl
  have p3 : W0.cell? ⟨p, 3, none⟩ = some (.int .u64 (xo : Int)) := PB0.out.cell 3 rfl
  have e0 : W0.cell? ⟨w.heap.size, 0, none⟩ = some (.int .u64 (o : Int)) := X0.out.cell 0 rfl
  obtain ⟨hmax, hoe, hr0⟩ : xo ≠ 18446744073709551615 ∧ o = xo + 1 ∧ R = 0 := by
    have h := HGOOD.out
    rw [HD.out] at h
    split at h
    · exact absurd h (by decide)
    · rename_i h'
      exact ⟨fun e => h' (.inl e), by omega, h⟩
  subst hr0
  have hmi : ((xo : Int) == 18446744073709551615) = false := by rw [beq_eq_false_iff_ne]; omega
  have hxw : IntKind.u64.wrap ((xo : Int) + 1) = (xo : Int) + 1 := IntWalk.u64_in _ (by omega)
  have hoi : ((o : Int) != (xo : Int) + 1) = false := by simp; omega
  have HD1 := Lib.hid HGOOD.out
  have HOE := Lib.hid hoe
  clear hoe hmax
  go_quiet (fail)
  go_wp2_with fail
  generalize hW1 : W0.drewN nq = W1 at *
  have hb1 : Below W0.heap.size W0 W1 := by rw [← hW1]; exact below_drewN (Below.refl _ _) _
  have HB1 := Lib.hid (HB0.out.trans (hb1.mono HB0.out.size))
  have X1 := Lib.hid (X0.out.call hb1)
  have PB1 := Lib.hid (PB0.out.call hb1)
  have HST1 := Lib.hid (HST0.out.call hb1)
  clear hb1 hW1 p3 e0 hpl0 hzl0
  have hS : ∀ W, Below W1.heap.size W1 W → W.cell? ⟨p, 0, none⟩ = some (.int .u32 (x.s.id : Int)) ∧ W.cell? ⟨p, 1, none⟩ = some (.slice fa fn fc) ∧ W.cell? ⟨w.heap.size, 0, none⟩ = some (.int .u64 (o : Int)) ∧ W.cell? ⟨w.heap.size, 1, none⟩ = some (.int .u8 (op : Int)) ∧ W.cell? ⟨w.heap.size, 2, none⟩ = some (.slice ra rn rc) ∧ W.cell? ⟨w.heap.size, 3, none⟩ = some (.int .u8 kk) ∧ W.cell? ⟨w.heap.size, 4, none⟩ = some (.int .i64 kn) ∧ W.cell? ⟨w.heap.size, 5, none⟩ = some (.string ks) ∧ W.cell? ⟨w.heap.size, 6, none⟩ = some (.string nm) ∧ W.cell? ⟨w.heap.size, 7, none⟩ = some (.int .u8 (kind : Int)) := fun W h => ⟨(PB1.out.call h).cell 0 rfl, (PB1.out.call h).cell 1 rfl, (X1.out.call h).cell 0 rfl, (X1.out.call h).cell 1 rfl, (X1.out.call h).cell 2 rfl, (X1.out.call h).cell 3 rfl, (X1.out.call h).cell 4 rfl, (X1.out.call h).cell 5 rfl, (X1.out.call h).cell 6 rfl, (X1.out.call h).cell 7 rfl⟩
  have HSS := Lib.hid hS
  clear hS
  have HCK2 := Lib.hid (fun W (h : Below W1.heap.size W1 W) => HCHK.out W (HST1.out.call h).schema (EventR.stable _ _ _ _ (below_step HB1.out h) HEV.out))
  go_region_held3 (fun W => W.cell? ⟨p, 0, none⟩ = some (.int .u32 (x.s.id : Int)) ∧ W.cell? ⟨p, 1, none⟩ = some (.slice fa fn fc) ∧ W.cell? ⟨w.heap.size, 0, none⟩ = some (.int .u64 (o : Int)) ∧ W.cell? ⟨w.heap.size, 1, none⟩ = some (.int .u8 (op : Int)) ∧ W.cell? ⟨w.heap.size, 2, none⟩ = some (.slice ra rn rc) ∧ W.cell? ⟨w.heap.size, 3, none⟩ = some (.int .u8 kk) ∧ W.cell? ⟨w.heap.size, 4, none⟩ = some (.int .i64 kn) ∧ W.cell? ⟨w.heap.size, 5, none⟩ = some (.string ks) ∧ W.cell? ⟨w.heap.size, 6, none⟩ = some (.string nm) ∧ W.cell? ⟨w.heap.size, 7, none⟩ = some (.int .u8 (kind : Int)))
    (first | exact HSS.out _ K2.out | exact HSS.out _ (Below.refl _ _).drew)
    (first
      | (go_at_call 13; (with_reducible refine (HCK2.out _ (Below.drew (Below.refl _ _))).mono ?_); rintro e w2 ⟨rfl, hp2⟩; have K2 := Lib.hid (below_step (W0 := W1) (Below.drew (Below.refl _ _)) hp2); clear hp2)
      | fail)
  have hb2 := HB1.out.trans (K2.out.mono HB1.out.size)
  have HB2 := Lib.hid hb2
  have X2 := Lib.hid (X1.out.call K2.out)
  have PB2 := Lib.hid (PB1.out.call K2.out)
  have HST2 := Lib.hid (HST1.out.call K2.out)
  clear hb2 K2 HSS HCK2
  have HP2 := Lib.hid (show op = 2 from HP.out)
  have HP1 := Lib.hid (show ¬ op = 1 by have := HP2.out; omega)
  have hp1i : ((op : Int) == 1) = false := by rw [beq_eq_false_iff_ne]; have := HP2.out; omega
  have hp2i : ((op : Int) == 2) = true := by rw [beq_iff_eq]; have := HP2.out; omega
  have HT0 := Lib.hid (show doS x ⟨o, op, row, ⟨kk, kn, ks⟩, nm, kind⟩ = ⟨x.s, delL (fix ⟨kk, kn, ks⟩) x.l, o⟩ by unfold doS; rw [if_neg (by rw [HD1.out]; simp), if_neg HP1.out, if_pos HP2.out])
  have hfxc := fun W => fix_calls ⟨kk, kn, ks⟩ HK.out.2.1.1 W
  generalize hfk : fix ⟨kk, kn, ks⟩ = fkc at *
  clear hfk
  obtain ⟨zk, zn, zs⟩ := fkc
  unfold CellD.cells at hfxc
  have HFX := Lib.hid hfxc
  clear hfxc
  obtain ⟨TOT, hT⟩ : ∃ TOT, P.filter (fun q : Pair => decide (cmpC (keyOf q.1) ⟨zk, zn, zs⟩ ≠ 0)) = TOT := ⟨_, rfl⟩
  have HT := Lib.hid hT
  clear hT
  have HLN := Lib.hid (show ln ≤ 1000 by have h1 := HST2.out.far.now.2.1.1; have h2 := HST2.out.rows; have h3 : x.l.length = P.length := (by rw [← h2, List.length_map]); have h4 := HL.out; omega)
  go_wp2_with fail
  go_loopw [6, 11] (fun v i wr => ∃ (k : Nat) (acc : List Pair), k ≤ ln ∧ i = .int .i64 k ∧ wr.ownsRow w2.heap.size 27 1 v acc.length (acc.map Prod.snd) ∧ acc ++ (P.drop k).filter (fun q : Pair => decide (cmpC (keyOf q.1) ⟨zk, zn, zs⟩ ≠ 0)) = TOT ∧ acc.length ≤ k ∧ Below w2.heap.size w2 wr) (fun _ i _ => ln - (intOf i).toNat)
  case atStart => exact ⟨0, [], Nat.zero_le _, rfl, World.ownsRow_nil _ _ _ _, by rw [← HT.out]; rfl, Nat.le_refl _, Below.refl _ _⟩
  case round =>
    obtain ⟨k, acc, hk, rfl, hown, htot, hacc, hb⟩ := hrel
    have HO := Lib.hid hown
    have HTOT := Lib.hid htot
    have HAC := Lib.hid hacc
    have HB := Lib.hid hb
    have HSTR := Lib.hid (HST2.out.call hb)
    have PBR := Lib.hid (PB2.out.call hb)
    have XR := Lib.hid (X2.out.call hb)
    clear hown htot hacc hb
    have hki : (0 : Int) ≤ (k : Int) := by omega
    have hln : ln ≤ 1000 := HLN.out
    have hpl : p < wr.heap.size := PBR.out.lt
    have p2 : wr.cell? ⟨p, 2, none⟩ = some (.slice la ln lc) := PBR.out.cell 2 rfl
    by_cases hlt : k < ln
    · have hkn : (k : Int) < (ln : Int) := by omega
      obtain ⟨b, off, q, u, rfl, hbl, hx, hr, hcell⟩ := (HSTR.out.far.now.2.1).at1 hlt
      cases hr
      obtain ⟨qa, qn, qc, hqv, hqs⟩ := HSTR.out.far.now.2.2 _ (List.mem_of_getElem? hx)
      have hq1 : 1 ≤ q.1.length := HNE.out q.1 (by rw [← HSTR.out.rows]; exact List.mem_map.2 ⟨_, List.mem_of_getElem? hx, rfl⟩)
      obtain ⟨qb, qoff, qy, qcs, rfl, hqbl, hqx, hqcl, hqr, hqcell⟩ := hqs.at_ (i := 0) (by have := hqs.1; omega)
      obtain ⟨rfl, _⟩ := hqr
      rw [hqv] at hcell
      have hkey : keyOf q.1 = qy := by unfold keyOf; rw [List.headD_eq_head?_getD, List.head?_eq_getElem?, hqx]; rfl
      have hqn : (0 : Int) < (qn : Int) := by have := hqs.1; omega
      have hqn' : 0 < qn := by omega
      obtain ⟨yk, yn, ys⟩ := qy
      have d0 := hqcell 0 _ rfl
      have d1 := hqcell 1 _ rfl
      have d2 := hqcell 2 _ rfl
      simp only [Nat.zero_mul, Nat.add_zero] at d0 d1 d2
      have hq := fun W => cellneq yk yn ys zk zn zs W
      rw [cell_ne_bool ⟨yk, yn, ys⟩ ⟨zk, zn, zs⟩] at hq
      have hdrop : P.drop k = q :: P.drop (k + 1) := by
        rw [List.drop_eq_getElem_cons (List.getElem?_eq_some_iff.1 hx).1]
        rw [(List.getElem?_eq_some_iff.1 hx).2]
      have HTK := Lib.hid (show acc ++ ((if decide (cmpC (⟨yk, yn, ys⟩ : CellD) ⟨zk, zn, zs⟩ ≠ 0) = true then [q] else []) ++ (P.drop (k + 1)).filter (fun q : Pair => decide (cmpC (keyOf q.1) ⟨zk, zn, zs⟩ ≠ 0))) = TOT by rw [← HTOT.out, hdrop, List.filter_cons, hkey]; split <;> rfl)
      generalize decide (cmpC (⟨yk, yn, ys⟩ : CellD) ⟨zk, zn, zs⟩ ≠ 0) = bq at *
      have HQV := Lib.hid hqv
      clear hdrop hkey hqx hqs hqcell hq1 hqcl hqv
      have hS : ∀ W, Below wr.heap.size wr W → W.cell? ⟨p, 2, none⟩ = some (.slice (some ⟨b, off, none⟩) ln lc) ∧ W.cell? ⟨b, off + k, none⟩ = some (.slice (some ⟨qb, qoff, none⟩) qn qc) ∧ W.cell? ⟨qb, qoff, none⟩ = some (.int .u8 yk) ∧ W.cell? ⟨qb, qoff + 1, none⟩ = some (.int .i64 yn) ∧ W.cell? ⟨qb, qoff + 2, none⟩ = some (.string ys) ∧ W.cell? ⟨w.heap.size, 3, none⟩ = some (.int .u8 kk) ∧ W.cell? ⟨w.heap.size, 4, none⟩ = some (.int .i64 kn) ∧ W.cell? ⟨w.heap.size, 5, none⟩ = some (.string ks) := fun W h => ⟨(PBR.out.call h).cell 2 rfl, (h.cell (p := ⟨b, off + k, none⟩) hbl).trans hcell, (h.cell (p := ⟨qb, qoff, none⟩) hqbl).trans d0, (h.cell (p := ⟨qb, qoff + 1, none⟩) hqbl).trans d1, (h.cell (p := ⟨qb, qoff + 2, none⟩) hqbl).trans d2, (XR.out.call h).cell 3 rfl, (XR.out.call h).cell 4 rfl, (XR.out.call h).cell 5 rfl⟩
      have HSS := Lib.hid hS
      clear hS d0 d1 d2
      go_upto_region 33 with fail
      go_region_held3 (fun W => W.cell? ⟨p, 2, none⟩ = some (.slice (some ⟨b, off, none⟩) ln lc) ∧ W.cell? ⟨b, off + k, none⟩ = some (.slice (some ⟨qb, qoff, none⟩) qn qc) ∧ W.cell? ⟨qb, qoff, none⟩ = some (.int .u8 yk) ∧ W.cell? ⟨qb, qoff + 1, none⟩ = some (.int .i64 yn) ∧ W.cell? ⟨qb, qoff + 2, none⟩ = some (.string ys) ∧ W.cell? ⟨w.heap.size, 3, none⟩ = some (.int .u8 kk) ∧ W.cell? ⟨w.heap.size, 4, none⟩ = some (.int .i64 kn) ∧ W.cell? ⟨w.heap.size, 5, none⟩ = some (.string ks))
        (first | exact HSS.out _ K5.out | exact HSS.out _ (Below.refl _ _).drew)
        (first
          | (go_at_call 28; (with_reducible refine (HFX.out _).mono ?_); rintro e w5 ⟨rfl, hp5⟩; have K5 := Lib.hid (below_step (W0 := wr) (Below.drew (Below.refl _ _)) hp5); clear hp5)
          | fail)
      obtain ⟨g1, g2, -⟩ := HSS.out _ K5.out
      have HO5 := Lib.hid (own_below HO.out K5.out)
      have HB5 := Lib.hid (below_step HB.out K5.out)
      clear p2 HSS hcell
      cases bq
      · have HTK1 := Lib.hid (show acc ++ (P.drop (k + 1)).filter (fun q : Pair => decide (cmpC (keyOf q.1) ⟨zk, zn, zs⟩ ≠ 0)) = TOT by rw [← HTK.out]; rfl)
        have hac1 : acc.length ≤ k + 1 := by have := HAC.out; omega
        go_wp2
        go_roundw
        case rel => exact ⟨k + 1, acc, by omega, by go_num, HO5.out, HTK1.out, hac1, HB5.out⟩
        case measure => simp [intOf] <;> omega
      · have HTK1 := Lib.hid (show (acc ++ [q]) ++ (P.drop (k + 1)).filter (fun q : Pair => decide (cmpC (keyOf q.1) ⟨zk, zn, zs⟩ ≠ 0)) = TOT by rw [← HTK.out, List.append_assoc]; rfl)
        have hac1 : acc.length + 1 ≤ k + 1 := by have := HAC.out; omega
        have h63 : acc.length + 1 ≤ maxLen := by have := HLN.out; unfold maxLen; omega
        have hby : (acc.length + 1) * 24 ≤ 140737488355328 := by have := HLN.out; omega
        have HBASE := Lib.hid (show w2.heap.size ≤ (w5.alloc (.cells #[.slice (some ⟨qb, qoff, none⟩) qn qc] 27)).heap.size by have := HB5.out.size; simp; omega)
        have HCL := Lib.hid (show ∀ j u, [(.slice (some ⟨qb, qoff, none⟩) qn qc : Value)][j]? = some u → (w5.alloc (.cells #[.slice (some ⟨qb, qoff, none⟩) qn qc] 27)).cell? ((⟨w5.heap.size, 0, none⟩ : Addr).add j) = some u from cell_one_new w5 _ 27)
        have hbl5 : b < w5.heap.size := Nat.lt_of_lt_of_le hbl K5.out.size
        have hpl5 : p < w5.heap.size := Nat.lt_of_lt_of_le hpl K5.out.size
        go_wp2_with (at_builtin; refine wpList_append_lies _ rfl _ _ _ rfl w2.heap.size 27 i0 (.slice none 0 0) 1 24 Try.underlying52 HI.out HZ0.out HZ1.out HZ2.out rfl (by decide) _ _ _ rfl (HO5.out.alloc _) ⟨w5.heap.size, 0, none⟩ 1 1 [.slice (some ⟨qb, qoff, none⟩) qn qc] rfl rfl HCL.out (by simp [Value.oneCell']) (by decide) h63 hby HBASE.out _ rfl ?_; intro g cap w7 hown7 hgrow7 hat7 hglt7)
        have hb7 := below_append HO5.out HB5.out hgrow7
        clear hgrow7 hat7
        go_roundw
        case rel =>
          refine ⟨k + 1, acc ++ [q], by omega, by go_num, ?_, HTK1.out, by rw [List.length_append]; exact hac1, hb7⟩
          rw [List.length_append, List.map_append, List.map_singleton, HQV.out]
          exact hown7
        case measure => simp [intOf] <;> omega
    · obtain rfl : k = ln := by omega
      have hTA : acc = TOT := by rw [← HTOT.out, List.drop_of_length_le (by have := HST2.out.far.now.2.1.1; omega)]; simp
      have HTA := Lib.hid hTA
      obtain ⟨a5, c5, rfl, _⟩ := own_slice HO.out
      have e0 : wr.cell? ⟨w.heap.size, 0, none⟩ = some (.int .u64 (o : Int)) := XR.out.cell 0 rfl
      have p3 : wr.cell? ⟨p, 3, none⟩ = some (.int .u64 (xo : Int)) := PBR.out.cell 3 rfl
      have pf : ∀ j, wr.frozen? ⟨p, j, none⟩ = false := PBR.out.soft
      have hne : p ≠ w.heap.size := by have := HST.out.box.lt; omega
      have hne' : w.heap.size ≠ p := fun h => hne h.symm
      have hzl : w.heap.size < wr.heap.size := XR.out.lt
      have HFIN := Lib.hid (RefBox.stored (o := o) HST2.out HB.out HO.out (Nat.le_refl _) ho (Far.rows_of ((HSTR.out.far).imp fun W h => h.2.2) (fun q hq => by rw [hTA, ← HT.out] at hq; exact (List.mem_filter.1 hq).1)))
      clear hTA
      go_wp2
      go_ret
      refine ⟨by rw [HD1.out]; rfl, ?_, ((But.refl (Nat.le_refl _)).call HB2.out).step HFIN.out.2 HB2.out.size⟩
      rw [HT0.out, show delL ⟨zk, zn, zs⟩ x.l = acc.map Prod.fst by rw [← HST2.out.rows, HTA.out, ← HT.out]; unfold delL; rw [List.filter_map]; rfl]
      exact HFIN.out.1
end Go.Proofs.Ytlclhinianamhaa
