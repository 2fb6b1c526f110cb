/- (*catchmentref22.State).Do: put. -/
import Derived.Test.YtlclhinianamhaaEvRefD0
namespace Go.Proofs.Ytlclhinianamhaa
open Go.RowKit Go.Deep
set_option linter.unusedVariables false
set_option linter.unusedSimpArgs false

set_option maxRecDepth 100000 in
set_option maxHeartbeats 16000000 in
theorem refdo_put (S : Nat → Prop) (p : Nat) (x : StD) (ecs : List Value) (e : EventD) (w : World) (hst : RefSt S w p x) (he : EventR w ecs e) (hrl : e.row.length ≤ 100000) (hl : x.l.length ≤ 1000) (hne : ∀ r ∈ x.l, 1 ≤ r.length) (hgood : doE x e = 0) (hp : e.op = 1) :
    Calls Try.prog 29 #[.pointer (some ⟨p, 0, none⟩), .agg ecs.toArray] w (DoPost S p x e w) := by
  obtain ⟨fa, fn, fc, la, ln, lc, P, hst⟩ := hst
  have HST := Lib.hid hst
  have HEV := Lib.hid he
  obtain ⟨ra, rn, rc, rfl, he1, he2, he3, hrow, ho, hop, hk, hnm, hkd⟩ := he
  have HROW := Lib.hid hrow
  have HK := Lib.hid hk
  have HNM := Lib.hid hnm
  have hrn : rn ≤ 100000 := by rw [← hrow.1]; exact hrl
  have hoff := hst.off
  obtain ⟨i0, hi0, hz0, hz1, hz2⟩ := info_parts infoRowE
  have HI := Lib.hid hi0
  have HZ0 := Lib.hid hz0
  have HZ1 := Lib.hid hz1
  have HZ2 := Lib.hid hz2
  clear hi0 hz0 hz1 hz2
  obtain ⟨R, hR⟩ : ∃ R, checkE x.s e = R := ⟨_, rfl⟩
  have HCHK := Lib.hid (fun W h1 h2 => refchk_calls [.int .u32 (x.s.id : Int), .slice fa fn fc] (e.cells (.slice ra rn rc)) x.s e W h1 h2 hrl)
  rw [hR] at HCHK
  have HR := Lib.hid hR
  have HNE := Lib.hid hne
  have HL := Lib.hid hl
  have HGOOD := Lib.hid hgood
  have HP := Lib.hid hp
  clear hgood hp
  obtain ⟨o, op, row, key, nm, kind⟩ := e
  obtain ⟨kk, kn, ks⟩ := key
  simp only [] at ho hop hkd HNM HROW HK
  unfold EventD.cells at HEV HCHK ⊢
  try simp only [] at HCHK
  try simp only [] at HEV
  try simp only []
  have hpl : p < w.heap.size := hst.box.lt
  generalize hxo : x.off = xo at *
  have HXO := Lib.hid hxo
  have HD := Lib.hid (show doE x ⟨o, op, row, ⟨kk, kn, ks⟩, nm, kind⟩ = if xo = 18446744073709551615 ∨ o ≠ xo + 1 then 220 else R by unfold doE; rw [hxo, hR])
  clear hst hrow he1 he2 he3 hk hnm hrl hR hne hl hxo
  go_enter Try.func29, Try.ntmps29
  go_upto_region 1 with fail
  obtain ⟨W0, hWW⟩ : ∃ W0 : World, W0 = w.alloc (.cells #[.int .u64 (o : Int), .int .u8 (op : Int), .slice ra rn rc, .int .u8 kk, .int .i64 kn, .string ks, .string nm, .int .u8 (kind : Int)] 32) := ⟨_, rfl⟩
  have hb0 : Below w.heap.size w W0 := by rw [hWW]; exact (Below.refl _ _).alloc (Nat.le_refl _) _
  have hx0 : Box W0 w.heap.size #[.int .u64 (o : Int), .int .u8 (op : Int), .slice ra rn rc, .int .u8 kk, .int .i64 kn, .string ks, .string nm, .int .u8 (kind : Int)] := by rw [hWW]; exact Box.new _ _ _
  rw [← hWW]
  clear hWW
  have HB0 := Lib.hid hb0
  have X0 := Lib.hid hx0
  have hst0 := HST.out.call hb0
  have hpb := hst0.box
  rw [HXO.out] at hpb
  have HST0 := Lib.hid hst0
  have PB0 := Lib.hid hpb
  have hpl0 : p < W0.heap.size := hpb.lt
  have hzl0 : w.heap.size < W0.heap.size := hx0.lt
  clear hb0 hx0 hst0 hpb hpl
  have p3 : W0.cell? ⟨p, 3, none⟩ = some (.int .u64 (xo : Int)) := PB0.out.cell 3 rfl
  have e0 : W0.cell? ⟨w.heap.size, 0, none⟩ = some (.int .u64 (o : Int)) := X0.out.cell 0 rfl
  obtain ⟨hmax, hoe, hr0⟩ : xo ≠ 18446744073709551615 ∧ o = xo + 1 ∧ R = 0 := by
    have h := HGOOD.out
    rw [HD.out] at h
    split at h
    · exact absurd h (by decide)
    · rename_i h'
      exact ⟨fun e => h' (.inl e), by omega, h⟩
  subst hr0
  have hmi : ((xo : Int) == 18446744073709551615) = false := by rw [beq_eq_false_iff_ne]; omega
  have hxw : IntKind.u64.wrap ((xo : Int) + 1) = (xo : Int) + 1 := IntWalk.u64_in _ (by omega)
  have hoi : ((o : Int) != (xo : Int) + 1) = false := by simp; omega
  have HD1 := Lib.hid HGOOD.out
  have HOE := Lib.hid hoe
  clear hoe hmax
  go_quiet (fail)
  go_wp2_with fail
  generalize hW1 : W0.drewN nq = W1 at *
  have hb1 : Below W0.heap.size W0 W1 := by rw [← hW1]; exact below_drewN (Below.refl _ _) _
  have HB1 := Lib.hid (HB0.out.trans (hb1.mono HB0.out.size))
  have X1 := Lib.hid (X0.out.call hb1)
  have PB1 := Lib.hid (PB0.out.call hb1)
  have HST1 := Lib.hid (HST0.out.call hb1)
  clear hb1 hW1 p3 e0 hpl0 hzl0
  have hS : ∀ W, Below W1.heap.size W1 W → W.cell? ⟨p, 0, none⟩ = some (.int .u32 (x.s.id : Int)) ∧ W.cell? ⟨p, 1, none⟩ = some (.slice fa fn fc) ∧ W.cell? ⟨w.heap.size, 0, none⟩ = some (.int .u64 (o : Int)) ∧ W.cell? ⟨w.heap.size, 1, none⟩ = some (.int .u8 (op : Int)) ∧ W.cell? ⟨w.heap.size, 2, none⟩ = some (.slice ra rn rc) ∧ W.cell? ⟨w.heap.size, 3, none⟩ = some (.int .u8 kk) ∧ W.cell? ⟨w.heap.size, 4, none⟩ = some (.int .i64 kn) ∧ W.cell? ⟨w.heap.size, 5, none⟩ = some (.string ks) ∧ W.cell? ⟨w.heap.size, 6, none⟩ = some (.string nm) ∧ W.cell? ⟨w.heap.size, 7, none⟩ = some (.int .u8 (kind : Int)) := fun W h => ⟨(PB1.out.call h).cell 0 rfl, (PB1.out.call h).cell 1 rfl, (X1.out.call h).cell 0 rfl, (X1.out.call h).cell 1 rfl, (X1.out.call h).cell 2 rfl, (X1.out.call h).cell 3 rfl, (X1.out.call h).cell 4 rfl, (X1.out.call h).cell 5 rfl, (X1.out.call h).cell 6 rfl, (X1.out.call h).cell 7 rfl⟩
  have HSS := Lib.hid hS
  clear hS
  have HCK2 := Lib.hid (fun W (h : Below W1.heap.size W1 W) => HCHK.out W (HST1.out.call h).schema (EventR.stable _ _ _ _ (below_step HB1.out h) HEV.out))
  go_region_held3 (fun W => W.cell? ⟨p, 0, none⟩ = some (.int .u32 (x.s.id : Int)) ∧ W.cell? ⟨p, 1, none⟩ = some (.slice fa fn fc) ∧ W.cell? ⟨w.heap.size, 0, none⟩ = some (.int .u64 (o : Int)) ∧ W.cell? ⟨w.heap.size, 1, none⟩ = some (.int .u8 (op : Int)) ∧ W.cell? ⟨w.heap.size, 2, none⟩ = some (.slice ra rn rc) ∧ W.cell? ⟨w.heap.size, 3, none⟩ = some (.int .u8 kk) ∧ W.cell? ⟨w.heap.size, 4, none⟩ = some (.int .i64 kn) ∧ W.cell? ⟨w.heap.size, 5, none⟩ = some (.string ks) ∧ W.cell? ⟨w.heap.size, 6, none⟩ = some (.string nm) ∧ W.cell? ⟨w.heap.size, 7, none⟩ = some (.int .u8 (kind : Int)))
    (first | exact HSS.out _ K2.out | exact HSS.out _ (Below.refl _ _).drew)
    (first
      | (go_at_call 13; (with_reducible refine (HCK2.out _ (Below.drew (Below.refl _ _))).mono ?_); rintro e w2 ⟨rfl, hp2⟩; have K2 := Lib.hid (below_step (W0 := W1) (Below.drew (Below.refl _ _)) hp2); clear hp2)
      | fail)
  have hb2 := HB1.out.trans (K2.out.mono HB1.out.size)
  have HB2 := Lib.hid hb2
  have X2 := Lib.hid (X1.out.call K2.out)
  have PB2 := Lib.hid (PB1.out.call K2.out)
  have HST2 := Lib.hid (HST1.out.call K2.out)
  clear hb2 K2 HSS HCK2
  have hp1 : op = 1 := HP.out
  clear HP
  have HT0 := Lib.hid (show doS x ⟨o, op, row, ⟨kk, kn, ks⟩, nm, kind⟩ = ⟨x.s, putL (row.map fix) x.l, o⟩ by unfold doS; rw [if_neg (by rw [HD1.out]; simp), if_pos hp1])
  have hlen := (put_len HR.out hp1)
  simp only [] at hlen
  have HFXR := Lib.hid (fun W h => fixrow_callsE ra rn rc row W h hrn)
  have HP1 := Lib.hid hp1
  have e2 : w2.cell? ⟨w.heap.size, 2, none⟩ = some (.slice ra rn rc) := X2.out.cell 2 rfl
  have hp1i : ((op : Int) == 1) = true := by rw [beq_iff_eq]; omega
  clear hp1
  go_wp2_with fail
  refine (HFXR.out _ (HROW.out.below CellR.stable HB2.out)).mono ?_
  rintro e w3 ⟨v3, rfl, hown3, hb3⟩
  obtain ⟨a3, c3, rfl, hc31, hc32, hc33⟩ := own_slice hown3
  have SL3 := Lib.hid (fixed_sl HROW.out hown3)
  have HST3 := Lib.hid (HST2.out.call hb3)
  have PB3 := Lib.hid (PB2.out.call hb3)
  have X3 := Lib.hid (X2.out.call hb3)
  have HB3 := Lib.hid (HB2.out.trans (hb3.mono HB2.out.size))
  have HFR := Lib.hid (RowAt.far (S := S) hown3 (fun k hk => HST2.out.slt k hk) (fun y hy => by
    obtain ⟨c, hc, rfl⟩ := List.mem_map.1 hy
    exact ⟨rfl, fix_B (HROW.out.cellsB c hc)⟩))
  have hrlen : rn = row.length := HROW.out.1.symm
  obtain ⟨b3, off3, r0, r0cs, rfl, hb3l, hr0x, hr0l, hr0, hr0cell⟩ := SL3.out.at_ (i := 0) (by omega)
  obtain ⟨rfl, _⟩ := hr0
  have HKR := Lib.hid (show keyOf (row.map fix) = r0 by unfold keyOf; rw [List.headD_eq_head?_getD, List.head?_eq_getElem?, hr0x]; rfl)
  obtain ⟨rk, rr, rs⟩ := r0
  have r0c0 := hr0cell 0 _ rfl
  have r0c1 := hr0cell 1 _ rfl
  have r0c2 := hr0cell 2 _ rfl
  simp only [Nat.zero_mul, Nat.add_zero] at r0c0 r0c1 r0c2
  have hrn0 : 0 < rn := by omega
  have hrn0i : (0 : Int) < (rn : Int) := by omega
  clear hrlen
  have hpl3 : p < w3.heap.size := PB3.out.lt
  obtain ⟨rP, hrP⟩ : ∃ rP : Pair, rP = (row.map fix, .slice (some ⟨b3, off3, none⟩) rn c3) := ⟨_, rfl⟩
  have HRP := Lib.hid (show rP.2 = .slice (some ⟨b3, off3, none⟩) rn c3 by rw [hrP])
  have HRP0 := Lib.hid hrP
  obtain ⟨TOT, hT⟩ : ∃ TOT, putAux ⟨rk, rr, rs⟩ (fun q : Pair => keyOf q.1) rP false P = TOT := ⟨_, rfl⟩
  have HT := Lib.hid hT
  have HLN := Lib.hid (show ln ≤ 1000 by have h1 := HST2.out.far.now.2.1.1; have h2 := HST2.out.rows; have h3 : x.l.length = P.length := (by rw [← h2, List.length_map]); have h4 := HL.out; omega)
  clear hT hrP hb3 hown3 hr0cell hr0l hr0x e2 hlen
  go_wp2_with fail
  go_loopw [6, 8, 9, 10] (fun v d i n wr => ∃ (k : Nat) (acc : List Pair) (done : Bool), k ≤ ln ∧ i = .int .i64 k ∧ d = .bool done ∧ wr.ownsRow w3.heap.size 27 1 v acc.length (acc.map Prod.snd) ∧ acc ++ putAux ⟨rk, rr, rs⟩ (fun q : Pair => keyOf q.1) rP done (P.drop k) = TOT ∧ acc.length ≤ k + done.toNat ∧ Below w3.heap.size w3 wr) (fun _ _ i _ _ => ln - (intOf i).toNat)
  case atStart => exact ⟨0, [], false, Nat.zero_le _, rfl, rfl, World.ownsRow_nil _ _ _ _, by rw [← HT.out]; rfl, by simp, Below.refl _ _⟩
  case round =>
    obtain ⟨k, acc, done, hk, rfl, rfl, hown, htot, hacc, hb⟩ := hrel
    have HO := Lib.hid hown
    have HTOT := Lib.hid htot
    have HAD := Lib.hid hacc
    have HAC := Lib.hid (show acc.length ≤ k + 1 by cases done <;> simp at hacc <;> omega)
    have HB := Lib.hid hb
    have hpl : p < wr.heap.size := Nat.lt_of_lt_of_le hpl3 hb.size
    have p2 : wr.cell? ⟨p, 2, none⟩ = some (.slice la ln lc) := (PB3.out.call hb).cell 2 rfl
    clear hown htot hacc hb
    have hki : (0 : Int) ≤ (k : Int) := by omega
    have hln : ln ≤ 1000 := HLN.out
    by_cases hlt : k < ln
    · have hkn : (k : Int) < (ln : Int) := by omega
      obtain ⟨b, off, q, u, rfl, hbl, hx, hr, hcell⟩ := (HST3.out.far.now.2.1).at1 hlt
      cases hr
      obtain ⟨qa, qn, qc, hqv, hqs⟩ := HST3.out.far.now.2.2 _ (List.mem_of_getElem? hx)
      have hq1 : 1 ≤ q.1.length := HNE.out q.1 (by rw [← HST3.out.rows]; exact List.mem_map.2 ⟨_, List.mem_of_getElem? hx, rfl⟩)
      obtain ⟨qb, qoff, qy, qcs, rfl, hqbl, hqx, hqcl, hqr, hqcell⟩ := hqs.at_ (i := 0) (by have := hqs.1; omega)
      obtain ⟨rfl, _⟩ := hqr
      rw [hqv] at hcell
      have hkey : keyOf q.1 = qy := by unfold keyOf; rw [List.headD_eq_head?_getD, List.head?_eq_getElem?, hqx]; rfl
      have hqn : (0 : Int) < (qn : Int) := by have := hqs.1; omega
      have hqn' : 0 < qn := by omega
      obtain ⟨yk, yn, ys⟩ := qy
      have d0 := hqcell 0 _ rfl
      have d1 := hqcell 1 _ rfl
      have d2 := hqcell 2 _ rfl
      simp only [Nat.zero_mul, Nat.add_zero] at d0 d1 d2
      have hcmp := fun W => refCompare ⟨rk, rr, rs⟩ ⟨yk, yn, ys⟩ W
      have hdrop : P.drop k = q :: P.drop (k + 1) := by
        rw [List.drop_eq_getElem_cons (List.getElem?_eq_some_iff.1 hx).1]
        rw [(List.getElem?_eq_some_iff.1 hx).2]
      have htk := HTOT.out
      rw [hdrop, putAux, hkey] at htk
      generalize cmpC (⟨rk, rr, rs⟩ : CellD) ⟨yk, yn, ys⟩ = cc at *
      unfold CellD.cells at hcmp
      have HCMP := Lib.hid hcmp
      have HTK := Lib.hid htk
      have HQV := Lib.hid hqv
      clear hdrop hkey hqx hqs hqcell hq1 hqcl hqv hcmp htk
      have hS : ∀ W, Below w3.heap.size w3 W → W.cell? ⟨p, 2, none⟩ = some (.slice (some ⟨b, off, none⟩) ln lc) ∧ W.cell? ⟨b, off + k, none⟩ = some (.slice (some ⟨qb, qoff, none⟩) qn qc) ∧ W.cell? ⟨qb, qoff, none⟩ = some (.int .u8 yk) ∧ W.cell? ⟨qb, qoff + 1, none⟩ = some (.int .i64 yn) ∧ W.cell? ⟨qb, qoff + 2, none⟩ = some (.string ys) ∧ W.cell? ⟨b3, off3, none⟩ = some (.int .u8 rk) ∧ W.cell? ⟨b3, off3 + 1, none⟩ = some (.int .i64 rr) ∧ W.cell? ⟨b3, off3 + 2, none⟩ = some (.string rs) := fun W h => ⟨(PB3.out.call h).cell 2 rfl, (h.cell (p := ⟨b, off + k, none⟩) hbl).trans hcell, (h.cell (p := ⟨qb, qoff, none⟩) hqbl).trans d0, (h.cell (p := ⟨qb, qoff + 1, none⟩) hqbl).trans d1, (h.cell (p := ⟨qb, qoff + 2, none⟩) hqbl).trans d2, (h.cell (p := ⟨b3, off3, none⟩) hb3l).trans r0c0, (h.cell (p := ⟨b3, off3 + 1, none⟩) hb3l).trans r0c1, (h.cell (p := ⟨b3, off3 + 2, none⟩) hb3l).trans r0c2⟩
      have HSS := Lib.hid hS
      clear hS d0 d1 d2 hcell
      go_upto_region 21 with fail
      go_region_held3 (fun W => W.cell? ⟨p, 2, none⟩ = some (.slice (some ⟨b, off, none⟩) ln lc) ∧ W.cell? ⟨b, off + k, none⟩ = some (.slice (some ⟨qb, qoff, none⟩) qn qc) ∧ W.cell? ⟨qb, qoff, none⟩ = some (.int .u8 yk) ∧ W.cell? ⟨qb, qoff + 1, none⟩ = some (.int .i64 yn) ∧ W.cell? ⟨qb, qoff + 2, none⟩ = some (.string ys) ∧ W.cell? ⟨b3, off3, none⟩ = some (.int .u8 rk) ∧ W.cell? ⟨b3, off3 + 1, none⟩ = some (.int .i64 rr) ∧ W.cell? ⟨b3, off3 + 2, none⟩ = some (.string rs))
        (first | exact HSS.out _ HB5.out | exact HSS.out _ (Below.drew HB.out))
        (first
          | (go_at_call 25; (with_reducible refine (HCMP.out _).mono ?_); rintro e w5 ⟨rfl, hp5⟩; have K5 := Lib.hid (below_step (W0 := wr) (Below.drew (Below.refl _ _)) hp5); have HB5 := Lib.hid (below_step HB.out K5.out); clear hp5)
          | fail)
      have HO5 := Lib.hid (own_below HO.out K5.out)
      clear p2
      cases done
      · rcases Int.lt_trichotomy cc 0 with hc0 | hc0 | hc0
        · have hle : cc ≤ 0 := by omega
          have hz : (cc == 0) = false := by rw [beq_eq_false_iff_ne]; omega
          have hz0 : cc ≠ 0 := by omega
          obtain ⟨g1, g2, -⟩ := HSS.out w5 HB5.out
          have hbl5 : b < w5.heap.size := Nat.lt_of_lt_of_le hbl HB5.out.size
          have hpl5 : p < w5.heap.size := Nat.lt_of_lt_of_le hpl3 HB5.out.size
          have h637 : (acc.length) + 1 ≤ maxLen := (room1 HLN.out HAC.out hk).1
          have hby7 : ((acc.length) + 1) * 24 ≤ 140737488355328 := (room1 HLN.out HAC.out hk).2
          have HBASE7 := Lib.hid (show w3.heap.size ≤ (w5.alloc (.cells #[.slice (some ⟨b3, off3, none⟩) rn c3] 27)).heap.size by have := HB5.out.size; simp; omega)
          have HCL7 := Lib.hid (show ∀ j u, [(.slice (some ⟨b3, off3, none⟩) rn c3 : Value)][j]? = some u → (w5.alloc (.cells #[.slice (some ⟨b3, off3, none⟩) rn c3] 27)).cell? ((⟨w5.heap.size, 0, none⟩ : Addr).add j) = some u from cell_one_new w5 _ 27)
          go_wp2_with (at_builtin; refine wpList_append_lies _ rfl _ _ _ rfl w3.heap.size 27 i0 (.slice none 0 0) 1 24 Try.underlying52 HI.out HZ0.out HZ1.out HZ2.out rfl (by decide) _ _ _ rfl (HO5.out.alloc _) ⟨w5.heap.size, 0, none⟩ 1 1 [.slice (some ⟨b3, off3, none⟩) rn c3] rfl rfl HCL7.out (by simp [Value.oneCell']) (by decide) h637 hby7 HBASE7.out _ rfl ?_; intro g7 cap7 w7 hown7 hgrow7 hat7 hglt7; refine Hold.out ?_)
          unfold Hold
          have HB7 := Lib.hid (below_append HO5.out HB5.out hgrow7)
          have HO7 := Lib.hid hown7
          clear hgrow7 hat7 hglt7 hown7
          clear g1 g2 hbl5 hpl5
          obtain ⟨g1, g2, -⟩ := HSS.out w7 HB7.out
          have hbl5 : b < w7.heap.size := Nat.lt_of_lt_of_le hbl HB7.out.size
          have hpl5 : p < w7.heap.size := Nat.lt_of_lt_of_le hpl3 HB7.out.size
          have h638 : (acc.length + 1) + 1 ≤ maxLen := (room2 HLN.out HAC.out hk).1
          have hby8 : ((acc.length + 1) + 1) * 24 ≤ 140737488355328 := (room2 HLN.out HAC.out hk).2
          have HBASE8 := Lib.hid (show w3.heap.size ≤ (w7.alloc (.cells #[.slice (some ⟨qb, qoff, none⟩) qn qc] 27)).heap.size by have := HB7.out.size; simp; omega)
          have HCL8 := Lib.hid (show ∀ j u, [(.slice (some ⟨qb, qoff, none⟩) qn qc : Value)][j]? = some u → (w7.alloc (.cells #[.slice (some ⟨qb, qoff, none⟩) qn qc] 27)).cell? ((⟨w7.heap.size, 0, none⟩ : Addr).add j) = some u from cell_one_new w7 _ 27)
          go_wp2_with (at_builtin; refine wpList_append_lies _ rfl _ _ _ rfl w3.heap.size 27 i0 (.slice none 0 0) 1 24 Try.underlying52 HI.out HZ0.out HZ1.out HZ2.out rfl (by decide) _ _ _ rfl (HO7.out.alloc _) ⟨w7.heap.size, 0, none⟩ 1 1 [.slice (some ⟨qb, qoff, none⟩) qn qc] rfl rfl HCL8.out (by simp [Value.oneCell']) (by decide) h638 hby8 HBASE8.out _ rfl ?_; intro g8 cap8 w8 hown8 hgrow8 hat8 hglt8; refine Hold.out ?_)
          unfold Hold
          have HB8 := Lib.hid (below_append HO7.out HB7.out hgrow8)
          have HO8 := Lib.hid hown8
          clear hgrow8 hat8 hglt8 hown8
          have HTK1 := Lib.hid (show ((acc ++ [rP]) ++ [q]) ++ putAux ⟨rk, rr, rs⟩ (fun q : Pair => keyOf q.1) rP true (P.drop (k + 1)) = TOT by rw [← HTK.out]; simp [hle, hz0])
          go_wp2
          go_roundw
          case rel => exact ⟨k + 1, (acc ++ [rP]) ++ [q], true, by omega, by go_num, rfl, by simpa [HQV.out, HRP.out] using HO8.out, HTK1.out, by have := HAD.out; simp at this ⊢; omega, HB8.out⟩
          case measure => simp [intOf] <;> omega
        · have hle : cc ≤ 0 := by omega
          have hz : (cc == 0) = true := by rw [beq_iff_eq]; omega
          have hz0 : cc = 0 := by omega
          obtain ⟨g1, g2, -⟩ := HSS.out w5 HB5.out
          have hbl5 : b < w5.heap.size := Nat.lt_of_lt_of_le hbl HB5.out.size
          have hpl5 : p < w5.heap.size := Nat.lt_of_lt_of_le hpl3 HB5.out.size
          have h637 : (acc.length) + 1 ≤ maxLen := (room1 HLN.out HAC.out hk).1
          have hby7 : ((acc.length) + 1) * 24 ≤ 140737488355328 := (room1 HLN.out HAC.out hk).2
          have HBASE7 := Lib.hid (show w3.heap.size ≤ (w5.alloc (.cells #[.slice (some ⟨b3, off3, none⟩) rn c3] 27)).heap.size by have := HB5.out.size; simp; omega)
          have HCL7 := Lib.hid (show ∀ j u, [(.slice (some ⟨b3, off3, none⟩) rn c3 : Value)][j]? = some u → (w5.alloc (.cells #[.slice (some ⟨b3, off3, none⟩) rn c3] 27)).cell? ((⟨w5.heap.size, 0, none⟩ : Addr).add j) = some u from cell_one_new w5 _ 27)
          go_wp2_with (at_builtin; refine wpList_append_lies _ rfl _ _ _ rfl w3.heap.size 27 i0 (.slice none 0 0) 1 24 Try.underlying52 HI.out HZ0.out HZ1.out HZ2.out rfl (by decide) _ _ _ rfl (HO5.out.alloc _) ⟨w5.heap.size, 0, none⟩ 1 1 [.slice (some ⟨b3, off3, none⟩) rn c3] rfl rfl HCL7.out (by simp [Value.oneCell']) (by decide) h637 hby7 HBASE7.out _ rfl ?_; intro g7 cap7 w7 hown7 hgrow7 hat7 hglt7; refine Hold.out ?_)
          unfold Hold
          have HB7 := Lib.hid (below_append HO5.out HB5.out hgrow7)
          have HO7 := Lib.hid hown7
          clear hgrow7 hat7 hglt7 hown7
          have HTK1 := Lib.hid (show (acc ++ [rP]) ++ putAux ⟨rk, rr, rs⟩ (fun q : Pair => keyOf q.1) rP true (P.drop (k + 1)) = TOT by rw [← HTK.out]; simp [hle, hz0])
          go_wp2
          go_roundw
          case rel => exact ⟨k + 1, acc ++ [rP], true, by omega, by go_num, rfl, by simpa [HQV.out, HRP.out] using HO7.out, HTK1.out, by have := HAD.out; simp at this ⊢; omega, HB7.out⟩
          case measure => simp [intOf] <;> omega
        · have hle : (0 : Int) < cc := by omega
          have hz : (cc == 0) = false := by rw [beq_eq_false_iff_ne]; omega
          have hz0 : cc ≠ 0 := by omega
          obtain ⟨g1, g2, -⟩ := HSS.out w5 HB5.out
          have hbl5 : b < w5.heap.size := Nat.lt_of_lt_of_le hbl HB5.out.size
          have hpl5 : p < w5.heap.size := Nat.lt_of_lt_of_le hpl3 HB5.out.size
          have h637 : (acc.length) + 1 ≤ maxLen := (room1 HLN.out HAC.out hk).1
          have hby7 : ((acc.length) + 1) * 24 ≤ 140737488355328 := (room1 HLN.out HAC.out hk).2
          have HBASE7 := Lib.hid (show w3.heap.size ≤ (w5.alloc (.cells #[.slice (some ⟨qb, qoff, none⟩) qn qc] 27)).heap.size by have := HB5.out.size; simp; omega)
          have HCL7 := Lib.hid (show ∀ j u, [(.slice (some ⟨qb, qoff, none⟩) qn qc : Value)][j]? = some u → (w5.alloc (.cells #[.slice (some ⟨qb, qoff, none⟩) qn qc] 27)).cell? ((⟨w5.heap.size, 0, none⟩ : Addr).add j) = some u from cell_one_new w5 _ 27)
          go_wp2_with (at_builtin; refine wpList_append_lies _ rfl _ _ _ rfl w3.heap.size 27 i0 (.slice none 0 0) 1 24 Try.underlying52 HI.out HZ0.out HZ1.out HZ2.out rfl (by decide) _ _ _ rfl (HO5.out.alloc _) ⟨w5.heap.size, 0, none⟩ 1 1 [.slice (some ⟨qb, qoff, none⟩) qn qc] rfl rfl HCL7.out (by simp [Value.oneCell']) (by decide) h637 hby7 HBASE7.out _ rfl ?_; intro g7 cap7 w7 hown7 hgrow7 hat7 hglt7; refine Hold.out ?_)
          unfold Hold
          have HB7 := Lib.hid (below_append HO5.out HB5.out hgrow7)
          have HO7 := Lib.hid hown7
          clear hgrow7 hat7 hglt7 hown7
          have HTK1 := Lib.hid (show (acc ++ [q]) ++ putAux ⟨rk, rr, rs⟩ (fun q : Pair => keyOf q.1) rP false (P.drop (k + 1)) = TOT by rw [← HTK.out]; simp [if_neg (Int.not_le.2 hle), decide_eq_false (Int.not_le.2 hle), hz0])
          go_wp2
          go_roundw
          case rel => exact ⟨k + 1, acc ++ [q], false, by omega, by go_num, rfl, by simpa [HQV.out, HRP.out] using HO7.out, HTK1.out, by have := HAD.out; simp at this ⊢; omega, HB7.out⟩
          case measure => simp [intOf] <;> omega
      · rcases Int.lt_trichotomy cc 0 with hc0 | hc0 | hc0
        · have hle : cc ≤ 0 := by omega
          have hz : (cc == 0) = false := by rw [beq_eq_false_iff_ne]; omega
          have hz0 : cc ≠ 0 := by omega
          obtain ⟨g1, g2, -⟩ := HSS.out w5 HB5.out
          have hbl5 : b < w5.heap.size := Nat.lt_of_lt_of_le hbl HB5.out.size
          have hpl5 : p < w5.heap.size := Nat.lt_of_lt_of_le hpl3 HB5.out.size
          have h637 : (acc.length) + 1 ≤ maxLen := (room1 HLN.out HAC.out hk).1
          have hby7 : ((acc.length) + 1) * 24 ≤ 140737488355328 := (room1 HLN.out HAC.out hk).2
          have HBASE7 := Lib.hid (show w3.heap.size ≤ (w5.alloc (.cells #[.slice (some ⟨qb, qoff, none⟩) qn qc] 27)).heap.size by have := HB5.out.size; simp; omega)
          have HCL7 := Lib.hid (show ∀ j u, [(.slice (some ⟨qb, qoff, none⟩) qn qc : Value)][j]? = some u → (w5.alloc (.cells #[.slice (some ⟨qb, qoff, none⟩) qn qc] 27)).cell? ((⟨w5.heap.size, 0, none⟩ : Addr).add j) = some u from cell_one_new w5 _ 27)
          go_wp2_with (at_builtin; refine wpList_append_lies _ rfl _ _ _ rfl w3.heap.size 27 i0 (.slice none 0 0) 1 24 Try.underlying52 HI.out HZ0.out HZ1.out HZ2.out rfl (by decide) _ _ _ rfl (HO5.out.alloc _) ⟨w5.heap.size, 0, none⟩ 1 1 [.slice (some ⟨qb, qoff, none⟩) qn qc] rfl rfl HCL7.out (by simp [Value.oneCell']) (by decide) h637 hby7 HBASE7.out _ rfl ?_; intro g7 cap7 w7 hown7 hgrow7 hat7 hglt7; refine Hold.out ?_)
          unfold Hold
          have HB7 := Lib.hid (below_append HO5.out HB5.out hgrow7)
          have HO7 := Lib.hid hown7
          clear hgrow7 hat7 hglt7 hown7
          have HTK1 := Lib.hid (show (acc ++ [q]) ++ putAux ⟨rk, rr, rs⟩ (fun q : Pair => keyOf q.1) rP true (P.drop (k + 1)) = TOT by rw [← HTK.out]; simp [hle, hz0])
          go_wp2
          go_roundw
          case rel => exact ⟨k + 1, acc ++ [q], true, by omega, by go_num, rfl, by simpa [HQV.out, HRP.out] using HO7.out, HTK1.out, by have := HAD.out; simp at this ⊢; omega, HB7.out⟩
          case measure => simp [intOf] <;> omega
        · have hle : cc ≤ 0 := by omega
          have hz : (cc == 0) = true := by rw [beq_iff_eq]; omega
          have hz0 : cc = 0 := by omega
          have HTK1 := Lib.hid (show (acc) ++ putAux ⟨rk, rr, rs⟩ (fun q : Pair => keyOf q.1) rP true (P.drop (k + 1)) = TOT by rw [← HTK.out]; simp [hle, hz0])
          go_wp2
          go_roundw
          case rel => exact ⟨k + 1, acc, true, by omega, by go_num, rfl, by simpa [HQV.out, HRP.out] using HO5.out, HTK1.out, by have := HAD.out; simp at this ⊢; omega, HB5.out⟩
          case measure => simp [intOf] <;> omega
        · have hle : (0 : Int) < cc := by omega
          have hz : (cc == 0) = false := by rw [beq_eq_false_iff_ne]; omega
          have hz0 : cc ≠ 0 := by omega
          obtain ⟨g1, g2, -⟩ := HSS.out w5 HB5.out
          have hbl5 : b < w5.heap.size := Nat.lt_of_lt_of_le hbl HB5.out.size
          have hpl5 : p < w5.heap.size := Nat.lt_of_lt_of_le hpl3 HB5.out.size
          have h637 : (acc.length) + 1 ≤ maxLen := (room1 HLN.out HAC.out hk).1
          have hby7 : ((acc.length) + 1) * 24 ≤ 140737488355328 := (room1 HLN.out HAC.out hk).2
          have HBASE7 := Lib.hid (show w3.heap.size ≤ (w5.alloc (.cells #[.slice (some ⟨qb, qoff, none⟩) qn qc] 27)).heap.size by have := HB5.out.size; simp; omega)
          have HCL7 := Lib.hid (show ∀ j u, [(.slice (some ⟨qb, qoff, none⟩) qn qc : Value)][j]? = some u → (w5.alloc (.cells #[.slice (some ⟨qb, qoff, none⟩) qn qc] 27)).cell? ((⟨w5.heap.size, 0, none⟩ : Addr).add j) = some u from cell_one_new w5 _ 27)
          go_wp2_with (at_builtin; refine wpList_append_lies _ rfl _ _ _ rfl w3.heap.size 27 i0 (.slice none 0 0) 1 24 Try.underlying52 HI.out HZ0.out HZ1.out HZ2.out rfl (by decide) _ _ _ rfl (HO5.out.alloc _) ⟨w5.heap.size, 0, none⟩ 1 1 [.slice (some ⟨qb, qoff, none⟩) qn qc] rfl rfl HCL7.out (by simp [Value.oneCell']) (by decide) h637 hby7 HBASE7.out _ rfl ?_; intro g7 cap7 w7 hown7 hgrow7 hat7 hglt7; refine Hold.out ?_)
          unfold Hold
          have HB7 := Lib.hid (below_append HO5.out HB5.out hgrow7)
          have HO7 := Lib.hid hown7
          clear hgrow7 hat7 hglt7 hown7
          have HTK1 := Lib.hid (show (acc ++ [q]) ++ putAux ⟨rk, rr, rs⟩ (fun q : Pair => keyOf q.1) rP true (P.drop (k + 1)) = TOT by rw [← HTK.out]; simp [if_neg (Int.not_le.2 hle), decide_eq_false (Int.not_le.2 hle), hz0])
          go_wp2
          go_roundw
          case rel => exact ⟨k + 1, acc ++ [q], true, by omega, by go_num, rfl, by simpa [HQV.out, HRP.out] using HO7.out, HTK1.out, by have := HAD.out; simp at this ⊢; omega, HB7.out⟩
          case measure => simp [intOf] <;> omega
    · obtain rfl : k = ln := by omega
      have HTE := Lib.hid (show acc ++ (if done = true then [] else [rP]) = TOT by rw [← HTOT.out, List.drop_of_length_le (by have := HST3.out.far.now.2.1.1; omega)]; rfl)
      have HTOTL := Lib.hid (show putL (row.map fix) x.l = TOT.map Prod.fst by rw [← HT.out, putAux_map Prod.fst _ _ keyOf (fun _ => rfl), HST3.out.rows, ← HKR.out, HRP0.out]; rfl)
      have HRF := Lib.hid (show Far S w3 fun W => ∀ q ∈ TOT, RowAt W q from fun W hW q hq => by
        rw [← HT.out] at hq
        rcases putAux_mem hq with rfl | h
        · rw [HRP0.out]; exact HFR.out W hW
        · exact (HST3.out.far W hW).2.2 q h)
      have PBR := Lib.hid (PB3.out.call HB.out)
      have XR := Lib.hid (X3.out.call HB.out)
      have hne : p ≠ w.heap.size := by have := HST.out.box.lt; omega
      have hne' : w.heap.size ≠ p := fun h => hne h.symm
      cases done
      · have HTA := Lib.hid (show acc ++ [rP] = TOT from HTE.out)
        have hzl : w.heap.size < wr.heap.size := XR.out.lt
        have h637 : (acc.length) + 1 ≤ maxLen := (room1 HLN.out HAC.out hk).1
        have hby7 : ((acc.length) + 1) * 24 ≤ 140737488355328 := (room1 HLN.out HAC.out hk).2
        have HBASE7 := Lib.hid (show w3.heap.size ≤ (wr.alloc (.cells #[.slice (some ⟨b3, off3, none⟩) rn c3] 27)).heap.size by have := HB.out.size; simp; omega)
        have HCL7 := Lib.hid (show ∀ j u, [(.slice (some ⟨b3, off3, none⟩) rn c3 : Value)][j]? = some u → (wr.alloc (.cells #[.slice (some ⟨b3, off3, none⟩) rn c3] 27)).cell? ((⟨wr.heap.size, 0, none⟩ : Addr).add j) = some u from cell_one_new wr _ 27)
        go_wp2_with (at_builtin; refine wpList_append_lies _ rfl _ _ _ rfl w3.heap.size 27 i0 (.slice none 0 0) 1 24 Try.underlying52 HI.out HZ0.out HZ1.out HZ2.out rfl (by decide) _ _ _ rfl (HO.out.alloc _) ⟨wr.heap.size, 0, none⟩ 1 1 [.slice (some ⟨b3, off3, none⟩) rn c3] rfl rfl HCL7.out (by simp [Value.oneCell']) (by decide) h637 hby7 HBASE7.out _ rfl ?_; intro g7 cap7 w7 hown7 hgrow7 hat7 hglt7; refine Hold.out ?_)
        unfold Hold
        have HB7 := Lib.hid (below_append HO.out HB.out hgrow7)
        have HO7 := Lib.hid hown7
        clear hgrow7 hat7 hglt7 hown7
        have HBX := Lib.hid HB7.out
        have p3 : w7.cell? ⟨p, 3, none⟩ = some (.int .u64 (xo : Int)) := (PB3.out.call HBX.out).cell 3 rfl
        have p2 : w7.cell? ⟨p, 2, none⟩ = some (.slice la k lc) := (PB3.out.call HBX.out).cell 2 rfl
        have e0 : w7.cell? ⟨w.heap.size, 0, none⟩ = some (.int .u64 (o : Int)) := (X3.out.call HBX.out).cell 0 rfl
        have pf : ∀ j, w7.frozen? ⟨p, j, none⟩ = false := (PB3.out.call HBX.out).soft
        have hzl7 : w.heap.size < w7.heap.size := (X3.out.call HBX.out).lt
        have hpl7 : p < w7.heap.size := (PB3.out.call HBX.out).lt
        have HO8 := Lib.hid (show w7.ownsRow w3.heap.size 27 1 (.slice (some ⟨g7, 0, none⟩) (acc.length + 1) cap7) (acc ++ [rP]).length ((acc ++ [rP]).map Prod.snd) by simpa [HRP.out] using HO7.out)
        have HFIN := Lib.hid (RefBox.stored (o := o) HST3.out HBX.out HO8.out (Nat.le_refl _) ho (by rw [HTA.out]; exact HRF.out.call HBX.out))
        go_wp2
        go_ret
        refine ⟨by rw [HD1.out]; rfl, ?_, ((But.refl (Nat.le_refl _)).call HB3.out).step HFIN.out.2 HB3.out.size⟩
        rw [HT0.out, HTOTL.out, ← HTA.out]
        exact HFIN.out.1
      · have HTA := Lib.hid (show acc = TOT by rw [← HTE.out]; simp)
        obtain ⟨a5, c5, rfl, _⟩ := own_slice HO.out
        have p3 : wr.cell? ⟨p, 3, none⟩ = some (.int .u64 (xo : Int)) := PBR.out.cell 3 rfl
        have e0 : wr.cell? ⟨w.heap.size, 0, none⟩ = some (.int .u64 (o : Int)) := XR.out.cell 0 rfl
        have p2 : wr.cell? ⟨p, 2, none⟩ = some (.slice la k lc) := PBR.out.cell 2 rfl
        have pf : ∀ j, wr.frozen? ⟨p, j, none⟩ = false := PBR.out.soft
        have hzl : w.heap.size < wr.heap.size := XR.out.lt
        have HFIN := Lib.hid (RefBox.stored (o := o) HST3.out HB.out HO.out (Nat.le_refl _) ho (by rw [HTA.out]; exact HRF.out.call HB.out))
        go_wp2
        go_ret
        refine ⟨by rw [HD1.out]; rfl, ?_, ((But.refl (Nat.le_refl _)).call HB3.out).step HFIN.out.2 HB3.out.size⟩
        rw [HT0.out, HTOTL.out, ← HTA.out]
        exact HFIN.out.1
end Go.Proofs.Ytlclhinianamhaa
