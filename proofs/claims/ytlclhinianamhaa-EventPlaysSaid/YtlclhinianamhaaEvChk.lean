/- event.Check. -/
import Derived.Test.YtlclhinianamhaaEvOnly
import Derived.Test.YtlclhinianamhaaEvAdd
namespace Go.Proofs.Ytlclhinianamhaa
open Go.RowKit Go.Deep
set_option linter.unusedVariables false
set_option linter.unusedSimpArgs false

def kind0 (s : SchemaD) : Int := ((s.fields[0]?).map fun f : FieldD => (f.kind : Int)).getD 0
def keyE (s : SchemaD) (c : CellD) : Int := if chk c ≠ 0 then chk c else if c.kind = 0 then 82 else if ¬ c.kind = kind0 s then 10 else 0
noncomputable def checkE (s : SchemaD) (e : EventD) : Int :=
  if schemaChk s ≠ 0 then schemaChk s else if e.op < 1 then 221 else if 3 < e.op then 221 else if onlyB e = false then 1
  else if e.op = 1 then valuesE s e.row else if e.op = 2 then keyE s e.key else addE s e.name (e.kind : Int)
theorem EventR.agg {w : World} {cs : List Value} {e : EventD} (h : EventR w cs e) : ∃ v, cs = e.cells v := by
  obtain ⟨a, n, c, rfl, _⟩ := h
  exact ⟨_, rfl⟩
theorem good_key {c : CellD} (h0 : 0 ≤ c.kind) (h : chk c = 0) : (goodVal c).cell = c := by rw [good_cell c h0]; unfold fix; rw [if_pos h]
set_option maxRecDepth 100000 in
set_option maxHeartbeats 8000000 in
theorem echeck_calls (scs ecs : List Value) (s : SchemaD) (e : EventD) (w : World) (hs : SchemaR w scs s) (he : EventR w ecs e) (hrl : e.row.length ≤ 100000) :
    Calls Try.prog 12 #[.agg scs.toArray, .agg ecs.toArray] w (ValIs (.int .i64 (checkE s e)) w) := by
  have HSC := Lib.hid hs
  have HEV := Lib.hid he
  obtain ⟨fa, fn, fc, rfl, hs1, hs2, hs3, hfs, hs4⟩ := hs
  have HFS := Lib.hid hfs
  obtain ⟨ra, rn, rc, rfl, he1, he2, he3, hrow, ho, hop, hk, hnm, hkd⟩ := he
  have HROW := Lib.hid hrow
  have HK := Lib.hid hk
  have HNM := Lib.hid hnm
  have HRL := Lib.hid (show rn ≤ 100000 by rw [← hrow.1]; exact hrl)
  obtain ⟨R, hR⟩ : ∃ R, checkE s e = R := ⟨_, rfl⟩
  rw [hR]
  unfold checkE at hR
  have HCHK := Lib.hid (fun W h => check_calls [.int .u32 (s.id : Int), .slice fa fn fc] s W h)
  have HONLY := Lib.hid (fun W h => only_calls (e.cells (.slice ra rn rc)) e W h)
  have HVAL := Lib.hid (fun W h1 h2 => values_calls s [.int .u32 (s.id : Int), .slice fa fn fc] ra rn rc e.row W h1 h2 HRL.out)
  have HADD := Lib.hid (fun W h => add_calls [.int .u32 (s.id : Int), .slice fa fn fc] s e.name e.kind W h HNM.out hkd)
  unfold ValuesPost at HVAL
  unfold AddPost at HADD
  have hfl := schemaChk_len (s := s)
  have HOF := Lib.hid (fun W => (both e.key HK.out.2.1.1 W).2)
  have HKO := Lib.hid kindOf_same
  obtain ⟨o, op, row, key, nm, kind⟩ := e
  obtain ⟨kk, kn, ks⟩ := key
  simp only [] at hop hkd HOF HNM HROW HADD HVAL
  unfold CellD.cells at HOF
  unfold EventD.cells at HONLY HEV ⊢
  generalize schemaChk s = ce at *
  generalize valuesE s row = ve at *
  generalize addE s nm (kind : Int) = ae at *
  clear hs1 hs2 hs3 hfs he1 he2 he3 hrow ho hk hnm hrl
  go_enter Try.func12, Try.ntmps12
  go_wp2_with fail
  obtain ⟨W0, hWW⟩ : ∃ W0 : World, W0 = ((w.alloc (.cells #[.int .u32 (s.id : Int), .slice fa fn fc] 25)).alloc (.cells #[.int .u64 (o : Int), .int .u8 (op : Int), .slice ra rn rc, .int .u8 kk, .int .i64 kn, .string ks, .string nm, .int .u8 (kind : Int)] 32)) := ⟨_, rfl⟩
  have hm : Mem w.heap.size [#[.int .u32 (s.id : Int), .slice fa fn fc], #[.int .u64 (o : Int), .int .u8 (op : Int), .slice ra rn rc, .int .u8 kk, .int .i64 kn, .string ks, .string nm, .int .u8 (kind : Int)]] w W0 := by rw [hWW]; exact (((Mem.nil w).push (by simp) #[.int .u32 (s.id : Int), .slice fa fn fc] 25).push (by simp) #[.int .u64 (o : Int), .int .u8 (op : Int), .slice ra rn rc, .int .u8 kk, .int .i64 kn, .string ks, .string nm, .int .u8 (kind : Int)] 32)
  rw [← hWW]
  clear hWW
  have M0 := Lib.hid hm
  clear hm
  refine (HCHK.out _ (SchemaR.stable _ _ _ _ M0.out.below HSC.out)).mono ?_
  rintro e w1 ⟨rfl, hb⟩
  have M1 := Lib.hid (M0.out.call hb)
  clear hb
  have q0_0 : w1.cell? ⟨w.heap.size, 0, none⟩ = some (.int .u32 (s.id : Int)) := M1.out.cell 0 0 rfl rfl
  have q0_1 : w1.cell? ⟨w.heap.size, 1, none⟩ = some (.slice fa fn fc) := M1.out.cell 0 1 rfl rfl
  have q1_0 : w1.cell? ⟨w.heap.size + 1, 0, none⟩ = some (.int .u64 (o : Int)) := M1.out.cell 1 0 rfl rfl
  have q1_1 : w1.cell? ⟨w.heap.size + 1, 1, none⟩ = some (.int .u8 (op : Int)) := M1.out.cell 1 1 rfl rfl
  have q1_2 : w1.cell? ⟨w.heap.size + 1, 2, none⟩ = some (.slice ra rn rc) := M1.out.cell 1 2 rfl rfl
  have q1_3 : w1.cell? ⟨w.heap.size + 1, 3, none⟩ = some (.int .u8 kk) := M1.out.cell 1 3 rfl rfl
  have q1_4 : w1.cell? ⟨w.heap.size + 1, 4, none⟩ = some (.int .i64 kn) := M1.out.cell 1 4 rfl rfl
  have q1_5 : w1.cell? ⟨w.heap.size + 1, 5, none⟩ = some (.string ks) := M1.out.cell 1 5 rfl rfl
  have q1_6 : w1.cell? ⟨w.heap.size + 1, 6, none⟩ = some (.string nm) := M1.out.cell 1 6 rfl rfl
  have q1_7 : w1.cell? ⟨w.heap.size + 1, 7, none⟩ = some (.int .u8 (kind : Int)) := M1.out.cell 1 7 rfl rfl
  by_cases hce : ce = 0
  · subst hce
    obtain ⟨hf1, hf8⟩ := hfl rfl
    have hfn : s.fields.length = fn := HFS.out.1
    rw [hfn] at hf1 hf8
    rw [if_neg (by simp)] at hR
    clear hfl hfn
    by_cases ho1 : op < 1
    · obtain rfl : R = 221 := by rw [← hR, if_pos ho1]
      have hoi : (op : Int) < 1 := by omega
      clear hR ho1
      go_wp2
      go_ret
      exact ⟨rfl, M1.out.below⟩
    · rw [if_neg ho1] at hR
      have hoi : (1 : Int) ≤ (op : Int) := by omega
      by_cases ho3 : 3 < op
      · obtain rfl : R = 221 := by rw [← hR, if_pos ho3]
        have hoj : (3 : Int) < (op : Int) := by omega
        clear hR ho1 ho3
        go_wp2
        go_ret
        exact ⟨rfl, M1.out.below⟩
      · rw [if_neg ho3] at hR
        have hoj : (op : Int) ≤ 3 := by omega
        go_wp2_with fail
        refine (HONLY.out _ (EventR.stable _ _ _ _ M1.out.below HEV.out)).mono ?_
        rintro e w2 ⟨rfl, hb⟩
        have M2 := Lib.hid (M1.out.call hb)
        clear hb q0_0 q0_1 q1_0 q1_1 q1_2 q1_3 q1_4 q1_5 q1_6 q1_7
        have q0_0 : w2.cell? ⟨w.heap.size, 0, none⟩ = some (.int .u32 (s.id : Int)) := M2.out.cell 0 0 rfl rfl
        have q0_1 : w2.cell? ⟨w.heap.size, 1, none⟩ = some (.slice fa fn fc) := M2.out.cell 0 1 rfl rfl
        have q1_0 : w2.cell? ⟨w.heap.size + 1, 0, none⟩ = some (.int .u64 (o : Int)) := M2.out.cell 1 0 rfl rfl
        have q1_1 : w2.cell? ⟨w.heap.size + 1, 1, none⟩ = some (.int .u8 (op : Int)) := M2.out.cell 1 1 rfl rfl
        have q1_2 : w2.cell? ⟨w.heap.size + 1, 2, none⟩ = some (.slice ra rn rc) := M2.out.cell 1 2 rfl rfl
        have q1_3 : w2.cell? ⟨w.heap.size + 1, 3, none⟩ = some (.int .u8 kk) := M2.out.cell 1 3 rfl rfl
        have q1_4 : w2.cell? ⟨w.heap.size + 1, 4, none⟩ = some (.int .i64 kn) := M2.out.cell 1 4 rfl rfl
        have q1_5 : w2.cell? ⟨w.heap.size + 1, 5, none⟩ = some (.string ks) := M2.out.cell 1 5 rfl rfl
        have q1_6 : w2.cell? ⟨w.heap.size + 1, 6, none⟩ = some (.string nm) := M2.out.cell 1 6 rfl rfl
        have q1_7 : w2.cell? ⟨w.heap.size + 1, 7, none⟩ = some (.int .u8 (kind : Int)) := M2.out.cell 1 7 rfl rfl
        cases hob : onlyB ⟨o, op, row, ⟨kk, kn, ks⟩, nm, kind⟩
        · obtain rfl : R = 1 := by rw [← hR, if_pos hob]
          clear hR
          go_wp2
          go_ret
          exact ⟨rfl, M2.out.below⟩
        · rw [if_neg (by rw [hob]; simp)] at hR
          by_cases hp1 : op = 1
          · subst hp1
            rw [if_pos rfl] at hR
            subst hR
            go_wp2_with fail
            refine (HVAL.out _ (SchemaR.stable _ _ _ _ M2.out.below HSC.out) (HROW.out.below CellR.stable M2.out.below)).mono ?_
            rintro e w3 ⟨v, rfl, -, hb⟩
            have M3 := Lib.hid (M2.out.call hb)
            clear hb q0_0 q0_1 q1_0 q1_1 q1_2 q1_3 q1_4 q1_5 q1_6 q1_7
            go_wp2
            go_ret
            exact ⟨rfl, M3.out.below⟩
          · rw [if_neg hp1] at hR
            have hp1i : ((op : Int) == 1) = false := by rw [beq_eq_false_iff_ne]; omega
            by_cases hp2 : op = 2
            · have hp2i : ((op : Int) == 2) = true := by rw [beq_iff_eq]; omega
              rw [if_pos hp2] at hR
              unfold keyE at hR
              simp only [] at hR
              have HGK := Lib.hid (fun h => good_key (c := ⟨kk, kn, ks⟩) HK.out.2.1.1 h)
              have HIF := Lib.hid (iface_ofE (x := goodVal ⟨kk, kn, ks⟩))
              have HCN := Lib.hid (cell_nilE (x := goodVal ⟨kk, kn, ks⟩))
              have hko := fun W => HKO.out (goodVal ⟨kk, kn, ks⟩) W
              have HKOD := Lib.hid hko
              clear hko
              generalize chk ⟨kk, kn, ks⟩ = kc at *
              generalize hgv : goodVal ⟨kk, kn, ks⟩ = gv at *
              clear hgv
              go_wp2_with fail
              refine (HOF.out _).mono ?_
              rintro e w3 ⟨rfl, hb⟩
              have M3 := Lib.hid (M2.out.call hb)
              clear hb q0_0 q0_1 q1_0 q1_1 q1_2 q1_3 q1_4 q1_5 q1_6 q1_7
              have q0_0 : w3.cell? ⟨w.heap.size, 0, none⟩ = some (.int .u32 (s.id : Int)) := M3.out.cell 0 0 rfl rfl
              have q0_1 : w3.cell? ⟨w.heap.size, 1, none⟩ = some (.slice fa fn fc) := M3.out.cell 0 1 rfl rfl
              have q1_0 : w3.cell? ⟨w.heap.size + 1, 0, none⟩ = some (.int .u64 (o : Int)) := M3.out.cell 1 0 rfl rfl
              have q1_1 : w3.cell? ⟨w.heap.size + 1, 1, none⟩ = some (.int .u8 (op : Int)) := M3.out.cell 1 1 rfl rfl
              have q1_2 : w3.cell? ⟨w.heap.size + 1, 2, none⟩ = some (.slice ra rn rc) := M3.out.cell 1 2 rfl rfl
              have q1_3 : w3.cell? ⟨w.heap.size + 1, 3, none⟩ = some (.int .u8 kk) := M3.out.cell 1 3 rfl rfl
              have q1_4 : w3.cell? ⟨w.heap.size + 1, 4, none⟩ = some (.int .i64 kn) := M3.out.cell 1 4 rfl rfl
              have q1_5 : w3.cell? ⟨w.heap.size + 1, 5, none⟩ = some (.string ks) := M3.out.cell 1 5 rfl rfl
              have q1_6 : w3.cell? ⟨w.heap.size + 1, 6, none⟩ = some (.string nm) := M3.out.cell 1 6 rfl rfl
              have q1_7 : w3.cell? ⟨w.heap.size + 1, 7, none⟩ = some (.int .u8 (kind : Int)) := M3.out.cell 1 7 rfl rfl
              by_cases hkc : kc = 0
              · subst hkc
                rw [if_neg (by simp)] at hR
                have hgk := HGK.out rfl
                by_cases hnil : gv = .nil
                · subst hnil
                  have hz : kk = 0 := by have := congrArg CellD.kind hgk; exact this.symm
                  obtain rfl : R = 82 := by rw [← hR, if_pos hz]
                  rw [show (ValD.nil).val = Value.nilIface from rfl]
                  clear hR
                  go_wp2
                  go_ret
                  exact ⟨rfl, M3.out.below⟩
                · have hz : kk ≠ 0 := by have := HCN.out hnil; rw [hgk] at this; exact this
                  rw [if_neg hz] at hR
                  obtain ⟨xt, xu, hxv⟩ := HIF.out hnil
                  rw [hxv]
                  have hko : ∀ W, Calls Try.prog 40 #[.iface xt xu] W (fun e w' => e = .returned (.int .u8 kk) ∧ w' = W) := fun W => by have := HKOD.out W; rw [hxv, hgk] at this; exact this
                  have HKO2 := Lib.hid hko
                  obtain ⟨b, off, y, yv, rfl, hbl, hy, hcl, hr, hcell⟩ := HFS.out.at_ (i := 0) (by omega)
                  obtain ⟨rfl, _⟩ := hr
                  have e2 := M3.out.old (p := ⟨b, off + 0 * 4 + 2, none⟩) hbl (hcell 2 _ rfl)
                  rw [show off + 0 * 4 + 2 = off + 2 by omega] at e2
                  have hk0 : kind0 s = (y.kind : Int) := by unfold kind0; rw [hy]; rfl
                  rw [hk0] at hR
                  have hf1i : (0 : Int) < (fn : Int) := by omega
                  clear hcell hcl hy hko hk0
                  by_cases hke : kk = (y.kind : Int)
                  · obtain rfl : R = 0 := by rw [← hR, if_neg (fun h => h hke)]
                    have hkq : (kk != (y.kind : Int)) = false := by simp [hke]
                    clear hR
                    go_wp2_with (first | go_quiet (first | (go_at_call 40; exact Calls.quiet_of_same (HKO2.out _))) | fail)
                    go_ret
                    exact ⟨rfl, below_drewN M3.out.below _⟩
                  · obtain rfl : R = 10 := by rw [← hR, if_pos hke]
                    have hkq : (kk != (y.kind : Int)) = true := by simp [hke]
                    clear hR
                    go_wp2_with (first | go_quiet (first | (go_at_call 40; exact Calls.quiet_of_same (HKO2.out _))) | fail)
                    go_ret
                    exact ⟨rfl, below_drewN M3.out.below _⟩
              · rw [if_pos hkc] at hR
                subst hR
                have hkb : (kc == 0) = false := by rw [beq_eq_false_iff_ne]; exact hkc
                go_wp2
                go_ret
                exact ⟨rfl, M3.out.below⟩
            · rw [if_neg hp2] at hR
              subst hR
              have hp2i : ((op : Int) == 2) = false := by rw [beq_eq_false_iff_ne]; omega
              go_wp2_with fail
              refine (HADD.out _ (SchemaR.stable _ _ _ _ M2.out.below HSC.out)).mono ?_
              rintro e w3 ⟨a5, n5, c5, rfl, -, -, -, -, -, -, hb⟩
              have M3 := Lib.hid (M2.out.call hb)
              clear hb q0_0 q0_1 q1_0 q1_1 q1_2 q1_3 q1_4 q1_5 q1_6 q1_7
              go_wp2
              go_ret
              exact ⟨rfl, M3.out.below.alloc M3.out.below.size _⟩
  · rw [if_pos hce] at hR
    subst hR
    have hcb : (ce == 0) = false := by rw [beq_eq_false_iff_ne]; exact hce
    go_wp2
    go_ret
    exact ⟨rfl, M1.out.below⟩
end Go.Proofs.Ytlclhinianamhaa
