/- catchmentref22.Great, catchmentref22.Check. -/
import Derived.Test.YtlclhinianamhaaEvChk
namespace Go.Proofs.Ytlclhinianamhaa
open Go.RowKit Go.Deep
set_option linter.unusedVariables false
set_option linter.unusedSimpArgs false

theorem cellneq (k n : Int) (s : ByteArray) (k' n' : Int) (s' : ByteArray) (W : World) : (binOp .neq 30 (.agg #[.int .u8 k, .int .i64 n, .string s]) (.agg #[.int .u8 k', .int .i64 n', .string s'])).run Try.prog W = .ok (.bool (!(k == k' && n == n' && s.toList == s'.toList))) W := by
  cases h1 : (k == k') <;> cases h2 : (n == n') <;> cases h3 : (s.toList == s'.toList)
  · go_simp
  · go_simp
  · go_simp
  · go_simp
  · go_simp
  · go_simp
  · go_simp
  · go_simp
theorem fix_B {c : CellD} (h : CellB c) : CellB (fix c) := by
  unfold fix
  split
  · exact h
  · exact ⟨by show (0 : Nat) ≤ maxLen; omega, by simp [zeroCell], by simp [zeroCell]⟩
theorem Sl.cellsB {w : World} {a : Option Addr} {n : Nat} {xs : List CellD} (h : Sl 3 CellR w a n xs) : ∀ c ∈ xs, CellB c := by
  intro c hc
  obtain ⟨i, hi, rfl⟩ := List.getElem_of_mem hc
  obtain ⟨_, _, x, cs, _, _, hx, _, ⟨_, h0⟩, _⟩ := h.at_ (i := i) (by have := h.1; omega)
  rw [List.getElem?_eq_getElem hi] at hx
  cases hx
  exact h0
theorem fixed_sl {w0 w : World} {a a5 : Option Addr} {n c5 B : Nat} {xs : List CellD} (h : Sl 3 CellR w0 a n xs) (ho : w.ownsRow B 30 3 (.slice a5 n c5) n ((xs.map fix).flatMap cellV)) : Sl 3 CellR w a5 n (xs.map fix) :=
  own_sl (R := CellR) (by decide) cellV_len (fun x hx => by
    obtain ⟨c, hc, rfl⟩ := List.mem_map.1 hx
    exact ⟨rfl, fix_B (h.cellsB c hc)⟩) ho
def longAt (xs : List CellD) (k : Nat) : Bool := match xs[k]? with | some c => decide (500 < c.s.size) | none => false
def greatE (e : EventD) : Bool := decide (50 < e.row.length) || decide (500 < e.key.s.size) || decide (500 < e.name.size) || (List.range e.row.length).any (longAt e.row)
theorem greatE_row {e : EventD} (h : greatE e = false) : e.row.length ≤ 50 := by
  unfold greatE at h
  simp only [Bool.or_eq_false_iff, decide_eq_false_iff_not] at h
  omega
set_option maxRecDepth 100000 in
set_option maxHeartbeats 8000000 in
theorem greatE_calls (ecs : List Value) (e : EventD) (w : World) (he : EventR w ecs e) : Calls Try.prog 11 #[.agg ecs.toArray] w (BoolIs (greatE e) w) := by
  obtain ⟨ra, rn, rc, rfl, he1, he2, he3, hrow, ho, hop, hk, hnm, hkd⟩ := he
  have HROW := Lib.hid hrow
  have hlen := hrow.1
  have hks : e.key.s.size ≤ 9223372036854775807 := by have := hk.1; unfold maxLen at this; omega
  have hns : e.name.size ≤ 9223372036854775807 := by unfold maxLen at hnm; omega
  have hrs : rn ≤ 9223372036854775807 := by unfold maxLen at he2; omega
  obtain ⟨o, op, row, key, nm, kind⟩ := e
  obtain ⟨kk, kn, ks⟩ := key
  unfold EventD.cells greatE
  simp only [] at hlen hks hns ⊢
  rw [hlen]
  clear hrow he1 he2 he3 ho hop hk hnm hkd hlen
  go_enter Try.func11, Try.ntmps11
  by_cases h50 : 50 < rn
  · have h1 : (50 : Int) < (rn : Int) := by omega
    rw [decide_eq_true h50]
    simp only [Bool.true_or]
    go_wp2
    go_ret
    exact ⟨rfl, (Below.refl _ _).alloc (Nat.le_refl _) _⟩
  · have h1 : (rn : Int) ≤ 50 := by omega
    rw [decide_eq_false h50]
    by_cases hk5 : 500 < ks.size
    · have h2 : (500 : Int) < (ks.size : Int) := by omega
      rw [decide_eq_true hk5]
      simp only [Bool.true_or, Bool.or_true]
      go_wp2
      go_ret
      exact ⟨rfl, (Below.refl _ _).alloc (Nat.le_refl _) _⟩
    · have h2 : (ks.size : Int) ≤ 500 := by omega
      rw [decide_eq_false hk5]
      by_cases hn5 : 500 < nm.size
      · have h3 : (500 : Int) < (nm.size : Int) := by omega
        rw [decide_eq_true hn5]
        simp only [Bool.true_or, Bool.or_true]
        go_wp2
        go_ret
        exact ⟨rfl, (Below.refl _ _).alloc (Nat.le_refl _) _⟩
      · have h3 : (nm.size : Int) ≤ 500 := by omega
        rw [decide_eq_false hn5]
        simp only [Bool.false_or]
        go_wp2
        have hbx : Below w.heap.size w (w.alloc (.cells #[.int .u64 (o : Int), .int .u8 (op : Int), .slice ra rn rc, .int .u8 kk, .int .i64 kn, .string ks, .string nm, .int .u8 (kind : Int)] 32)) := (Below.refl _ _).alloc (Nat.le_refl _) _
        have hx0 : Box (w.alloc (.cells #[.int .u64 (o : Int), .int .u8 (op : Int), .slice ra rn rc, .int .u8 kk, .int .i64 kn, .string ks, .string nm, .int .u8 (kind : Int)] 32)) w.heap.size #[.int .u64 (o : Int), .int .u8 (op : Int), .slice ra rn rc, .int .u8 kk, .int .i64 kn, .string ks, .string nm, .int .u8 (kind : Int)] := Box.new _ _ _
        generalize w.alloc (.cells #[.int .u64 (o : Int), .int .u8 (op : Int), .slice ra rn rc, .int .u8 kk, .int .i64 kn, .string ks, .string nm, .int .u8 (kind : Int)] 32) = W0 at *
        have x2 : W0.cell? ⟨w.heap.size, 2, none⟩ = some (.slice ra rn rc) := hx0.cell 2 rfl
        have HBX := Lib.hid hbx
        clear hbx hx0
        go_loopw [3] (fun i wr => ∃ k : Nat, k ≤ rn ∧ i = .int .i64 k ∧ (List.range k).any (longAt row) = false ∧ wr = W0) (fun i _ => rn - (intOf i).toNat)
        case atStart => exact ⟨0, Nat.zero_le _, rfl, rfl, rfl⟩
        case round =>
          obtain ⟨k, hk, rfl, hno, rfl⟩ := hrel
          have HNO := Lib.hid hno
          clear hno
          have hki : (0 : Int) ≤ (k : Int) := by omega
          by_cases hlt : k < rn
          · have hkn : (k : Int) < (rn : Int) := by omega
            obtain ⟨b, off, ce, cs, rfl, hbl, hx, hcl, hr, hcell⟩ := HROW.out.at_ hlt
            obtain ⟨rfl, hsz, _⟩ := hr
            have d2 := (HBX.out.cell (p := ⟨b, off + k * 3 + 2, none⟩) hbl).trans (hcell 2 _ rfl)
            have hl : longAt row k = decide (500 < ce.s.size) := by unfold longAt; rw [hx]
            have HL := Lib.hid hl
            have hs64 : ce.s.size ≤ 9223372036854775807 := by unfold maxLen at hsz; omega
            clear hcell hx hcl hsz hl
            by_cases hc5 : 500 < ce.s.size
            · have h4 : (500 : Int) < (ce.s.size : Int) := by omega
              have HT := Lib.hid (show (List.range rn).any (longAt row) = true from List.any_eq_true.2 ⟨k, by simpa using hlt, by rw [HL.out]; simpa using hc5⟩)
              go_wp2
              go_ret
              exact ⟨by rw [HT.out]; rfl, HBX.out⟩
            · have h4 : (ce.s.size : Int) ≤ 500 := by omega
              have HT := Lib.hid (show (List.range (k + 1)).any (longAt row) = false by rw [List.range_succ, List.any_append, HNO.out]; simp [HL.out, hc5])
              go_wp2
              go_roundw
              case rel => exact ⟨k + 1, by omega, by go_num, HT.out, trivial⟩
              case measure => simp [intOf] <;> omega
          · obtain rfl : k = rn := by omega
            go_wp2
            go_ret
            exact ⟨by rw [HNO.out]; rfl, HBX.out⟩
def keyZ (kk kn : Int) (ks : ByteArray) : Bool := decide (kk = 0) && decide (kn = 0) && decide (ks.size = 0)
theorem key_fact {kk kn : Int} {ks : ByteArray} : (kk == 0 && kn == 0 && ks.toList == (⟨#[]⟩ : ByteArray).toList) = keyZ kk kn ks := by
  unfold keyZ
  have h3 : (ks.toList == (⟨#[]⟩ : ByteArray).toList) = decide (ks.size = 0) := by
    by_cases hz : ks.size = 0
    · rw [empty_of hz]; decide +kernel
    · rw [show (⟨#[]⟩ : ByteArray).toList = [] by decide +kernel, list_empty hz]; simp [hz]
  rw [h3]
  simp only [Bool.beq_eq_decide_eq]
theorem onlyB_is (o op : Nat) (row : List CellD) (kk kn : Int) (ks nm : ByteArray) (kind : Nat) : onlyB ⟨o, op, row, ⟨kk, kn, ks⟩, nm, kind⟩ =
    if op = 1 then keyZ kk kn ks && (decide (nm.size = 0) && decide (kind = 0)) else if op = 2 then decide (row.length = 0) && (decide (nm.size = 0) && decide (kind = 0)) else decide (row.length = 0) && keyZ kk kn ks := rfl
theorem name_fact (nm : ByteArray) : (nm.toList == ([] : List UInt8)) = decide (nm.size = 0) := by
  by_cases h1 : nm.size = 0
  · obtain rfl := empty_of h1
    rw [list_empty']; simp
  · rw [list_empty h1]; simp [h1]
set_option maxRecDepth 100000 in
set_option maxHeartbeats 16000000 in
theorem refchk_calls (scs ecs : List Value) (s : SchemaD) (e : EventD) (w : World) (hs : SchemaR w scs s) (he : EventR w ecs e) (hrl : e.row.length ≤ 100000) :
    Calls Try.prog 13 #[.agg scs.toArray, .agg ecs.toArray] w (ValIs (.int .i64 (checkE s e)) w) := by
  have HSC := Lib.hid hs
  have HEV := Lib.hid he
  obtain ⟨fa, fn, fc, rfl, hs1, hs2, hs3, hfs, hs4⟩ := hs
  have HFS := Lib.hid hfs
  obtain ⟨ra, rn, rc, rfl, he1, he2, he3, hrow, ho, hop, hk, hnm, hkd⟩ := he
  have HROW := Lib.hid hrow
  have HK := Lib.hid hk
  have HNM := Lib.hid hnm
  have hrn : rn ≤ 100000 := by rw [← hrow.1]; exact hrl
  have HRLEN := Lib.hid hrow.1
  obtain ⟨R, hR⟩ : ∃ R, checkE s e = R := ⟨_, rfl⟩
  rw [hR]
  unfold checkE at hR
  have HCHK := Lib.hid (fun W h => check08 [.int .u32 (s.id : Int), .slice fa fn fc] s W h)
  have HADD := Lib.hid (fun W h => add08 [.int .u32 (s.id : Int), .slice fa fn fc] s e.name (e.kind : Int) W h HNM.out (by omega))
  unfold AddPost at HADD
  have hfl := schemaChk_len (s := s)
  have HCK := Lib.hid (fun c h0 W => (both c h0 W).1)
  obtain ⟨o, op, row, key, nm, kind⟩ := e
  obtain ⟨kk, kn, ks⟩ := key
  simp only [] at hop hkd HNM HROW HADD HRLEN
  unfold EventD.cells at HEV ⊢
  have HOB := Lib.hid (onlyB_is o op row kk kn ks nm kind)
  generalize schemaChk s = ce at *
  generalize hae : addE s nm (kind : Int) = ae at *
  clear hs1 hs2 hs3 hfs he1 he2 he3 hrow ho hk hnm hrl hae
  go_enter Try.func13, Try.ntmps13
  go_wp2_with fail
  obtain ⟨W0, hWW⟩ : ∃ W0 : World, W0 = ((w.alloc (.cells #[.int .u32 (s.id : Int), .slice fa fn fc] 25)).alloc (.cells #[.int .u64 (o : Int), .int .u8 (op : Int), .slice ra rn rc, .int .u8 kk, .int .i64 kn, .string ks, .string nm, .int .u8 (kind : Int)] 32)) := ⟨_, rfl⟩
  have hm : Mem w.heap.size [#[.int .u32 (s.id : Int), .slice fa fn fc], #[.int .u64 (o : Int), .int .u8 (op : Int), .slice ra rn rc, .int .u8 kk, .int .i64 kn, .string ks, .string nm, .int .u8 (kind : Int)]] w W0 := by rw [hWW]; exact (((Mem.nil w).push (by simp) #[.int .u32 (s.id : Int), .slice fa fn fc] 25).push (by simp) #[.int .u64 (o : Int), .int .u8 (op : Int), .slice ra rn rc, .int .u8 kk, .int .i64 kn, .string ks, .string nm, .int .u8 (kind : Int)] 32)
  rw [← hWW]
  clear hWW
  have M0 := Lib.hid hm
  clear hm
  refine (HCHK.out _ (SchemaR.stable _ _ _ _ M0.out.below HSC.out)).mono ?_
  rintro e w1 ⟨rfl, hb⟩
  have M1 := Lib.hid (M0.out.call hb)
  clear hb
  have q0_0 : w1.cell? ⟨w.heap.size, 0, none⟩ = some (.int .u32 (s.id : Int)) := M1.out.cell 0 0 rfl rfl
  have q0_1 : w1.cell? ⟨w.heap.size, 1, none⟩ = some (.slice fa fn fc) := M1.out.cell 0 1 rfl rfl
  have q1_0 : w1.cell? ⟨w.heap.size + 1, 0, none⟩ = some (.int .u64 (o : Int)) := M1.out.cell 1 0 rfl rfl
  have q1_1 : w1.cell? ⟨w.heap.size + 1, 1, none⟩ = some (.int .u8 (op : Int)) := M1.out.cell 1 1 rfl rfl
  have q1_2 : w1.cell? ⟨w.heap.size + 1, 2, none⟩ = some (.slice ra rn rc) := M1.out.cell 1 2 rfl rfl
  have q1_3 : w1.cell? ⟨w.heap.size + 1, 3, none⟩ = some (.int .u8 kk) := M1.out.cell 1 3 rfl rfl
  have q1_4 : w1.cell? ⟨w.heap.size + 1, 4, none⟩ = some (.int .i64 kn) := M1.out.cell 1 4 rfl rfl
  have q1_5 : w1.cell? ⟨w.heap.size + 1, 5, none⟩ = some (.string ks) := M1.out.cell 1 5 rfl rfl
  have q1_6 : w1.cell? ⟨w.heap.size + 1, 6, none⟩ = some (.string nm) := M1.out.cell 1 6 rfl rfl
  have q1_7 : w1.cell? ⟨w.heap.size + 1, 7, none⟩ = some (.int .u8 (kind : Int)) := M1.out.cell 1 7 rfl rfl
  by_cases hce : ce = 0
  · subst hce
    obtain ⟨hf1, hf8⟩ := hfl rfl
    have hfn : s.fields.length = fn := HFS.out.1
    rw [hfn] at hf1 hf8
    rw [if_neg (by simp)] at hR
    clear hfl hfn
    by_cases ho1 : op < 1
    · obtain rfl : R = 221 := by rw [← hR, if_pos ho1]
      have hoi : (op : Int) < 1 := by omega
      clear hR ho1
      go_wp2
      go_ret
      exact ⟨rfl, M1.out.below⟩
    · rw [if_neg ho1] at hR
      have hoi : (1 : Int) ≤ (op : Int) := by omega
      by_cases ho3 : 3 < op
      · obtain rfl : R = 221 := by rw [← hR, if_pos ho3]
        have hoj : (3 : Int) < (op : Int) := by omega
        clear hR ho1 ho3
        go_wp2
        go_ret
        exact ⟨rfl, M1.out.below⟩
      · rw [if_neg ho3] at hR
        have hoj : (op : Int) ≤ 3 := by omega
        go_upto_region 7 with fail
        obtain ⟨W2, hWW⟩ : ∃ W : World, W = w1.alloc (.cells #[.int .u8 0, .int .i64 0, .string ⟨#[]⟩] 30) := ⟨_, rfl⟩
        have hx2 : Box W2 w1.heap.size #[.int .u8 0, .int .i64 0, .string ⟨#[]⟩] := by rw [hWW]; exact Box.new _ _ _
        have hm2 := M1.out.alloc (.cells #[.int .u8 0, .int .i64 0, .string ⟨#[]⟩] 30)
        rw [← hWW] at hm2 ⊢
        clear hWW
        have M2 := Lib.hid hm2
        have n0 : W2.cell? ⟨w1.heap.size, 0, none⟩ = some (.int .u8 0) := hx2.cell 0 rfl
        have n1 : W2.cell? ⟨w1.heap.size, 1, none⟩ = some (.int .i64 0) := hx2.cell 1 rfl
        have n2 : W2.cell? ⟨w1.heap.size, 2, none⟩ = some (.string ⟨#[]⟩) := hx2.cell 2 rfl
        clear hm2 hx2 q0_0 q0_1 q1_0 q1_1 q1_2 q1_3 q1_4 q1_5 q1_6 q1_7
        have q0_0 : W2.cell? ⟨w.heap.size, 0, none⟩ = some (.int .u32 (s.id : Int)) := M2.out.cell 0 0 rfl rfl
        have q0_1 : W2.cell? ⟨w.heap.size, 1, none⟩ = some (.slice fa fn fc) := M2.out.cell 0 1 rfl rfl
        have q1_0 : W2.cell? ⟨w.heap.size + 1, 0, none⟩ = some (.int .u64 (o : Int)) := M2.out.cell 1 0 rfl rfl
        have q1_1 : W2.cell? ⟨w.heap.size + 1, 1, none⟩ = some (.int .u8 (op : Int)) := M2.out.cell 1 1 rfl rfl
        have q1_2 : W2.cell? ⟨w.heap.size + 1, 2, none⟩ = some (.slice ra rn rc) := M2.out.cell 1 2 rfl rfl
        have q1_3 : W2.cell? ⟨w.heap.size + 1, 3, none⟩ = some (.int .u8 kk) := M2.out.cell 1 3 rfl rfl
        have q1_4 : W2.cell? ⟨w.heap.size + 1, 4, none⟩ = some (.int .i64 kn) := M2.out.cell 1 4 rfl rfl
        have q1_5 : W2.cell? ⟨w.heap.size + 1, 5, none⟩ = some (.string ks) := M2.out.cell 1 5 rfl rfl
        have q1_6 : W2.cell? ⟨w.heap.size + 1, 6, none⟩ = some (.string nm) := M2.out.cell 1 6 rfl rfl
        have q1_7 : W2.cell? ⟨w.heap.size + 1, 7, none⟩ = some (.int .u8 (kind : Int)) := M2.out.cell 1 7 rfl rfl
        have hq := fun W => cellneq kk kn ks 0 0 ⟨#[]⟩ W
        rw [key_fact] at hq
        have hnx := name_fact nm
        rw [HRLEN.out] at HOB
        generalize keyZ kk kn ks = kb at *
        by_cases hp1 : op = 1
        · have hp1i : ((op : Int) == 1) = true := by rw [beq_iff_eq]; omega
          have hp2i : ((op : Int) == 2) = false := by rw [beq_eq_false_iff_ne]; omega
          have hp3i : ((op : Int) == 3) = false := by rw [beq_eq_false_iff_ne]; omega
          cases kb
          · have hob : onlyB ⟨o, op, row, ⟨kk, kn, ks⟩, nm, kind⟩ = false := by rw [HOB.out]; simp [hp1]
            obtain rfl : R = 1 := by rw [← hR, if_pos hob]
            clear hR hob
            go_wp2
            go_ret
            exact ⟨rfl, M2.out.below⟩
          · by_cases hne : nm.size = 0
            · have hnz : (nm.toList == ([] : List UInt8)) = true := by rw [hnx]; simpa using hne
              by_cases hkd0 : kind = 0
              · have hkz : ((kind : Int) == 0) = true := by rw [beq_iff_eq]; omega
                have hob : onlyB ⟨o, op, row, ⟨kk, kn, ks⟩, nm, kind⟩ = true := by rw [HOB.out]; simp [hp1, hne, hkd0]
                rw [if_neg (by rw [hob]; simp), if_pos hp1] at hR
                have HR := Lib.hid hR
                clear hR hob
                clear hne hnx hp1i hp2i hp3i hkz
                subst hp1
                subst hkd0
                obtain ⟨G, hG⟩ : ∃ G, chkAt row = G := ⟨_, rfl⟩
                have HG := Lib.hid hG
                have HE := Lib.hid (show chkRow row = firstBad G rn by unfold chkRow; rw [hG, HRLEN.out])
                clear hG
                go_wp2_with fail
                clear hq q0_0 q0_1 q1_0 q1_1 q1_2 q1_3 q1_4 q1_5 q1_6 q1_7 n0 n1 n2
                go_loopw [5, 7] (fun y i wr => ∃ k : Nat, k ≤ rn ∧ i = .int .i64 k ∧ firstBad G k = 0 ∧ Below W2.heap.size W2 wr) (fun _ i _ => rn - (intOf i).toNat)
                case atStart => exact ⟨0, Nat.zero_le _, rfl, rfl, Below.refl _ _⟩
                case round =>
                  obtain ⟨k, hk, rfl, hfb, hb⟩ := hrel
                  have HFB := Lib.hid hfb
                  have HB3 := Lib.hid hb
                  have M3 := Lib.hid (M2.out.call hb)
                  clear hb hfb
                  have hki : (0 : Int) ≤ (k : Int) := by omega
                  have q1_2 : wr.cell? ⟨w.heap.size + 1, 2, none⟩ = some (.slice ra rn rc) := M3.out.cell 1 2 rfl rfl
                  by_cases hlt : k < rn
                  · have hkn : (k : Int) < (rn : Int) := by omega
                    obtain ⟨b, off, ce, cs, rfl, hbl, hx, hcl, hr, hcell⟩ := HROW.out.at_ hlt
                    obtain ⟨rfl, hsz, ⟨hk0, _⟩, _⟩ := hr
                    have d0 := M3.out.old (p := ⟨b, off + k * 3 + 0, none⟩) hbl (hcell 0 _ rfl)
                    have d1 := M3.out.old (p := ⟨b, off + k * 3 + 1, none⟩) hbl (hcell 1 _ rfl)
                    have d2 := M3.out.old (p := ⟨b, off + k * 3 + 2, none⟩) hbl (hcell 2 _ rfl)
                    rw [Nat.add_zero] at d0
                    have HGK := Lib.hid (show G k = chk ce by rw [← HG.out]; unfold chkAt; rw [hx])
                    have hv := HCK.out ce hk0
                    unfold CellD.cells at hv
                    have HVC := Lib.hid hv
                    clear hcell hx hsz hk0 hcl hv
                    generalize chk ce = r at *
                    go_wp2_with fail
                    refine (HVC.out _).mono ?_
                    rintro e w4 ⟨rfl, hb4⟩
                    have HB4 := Lib.hid (HB3.out.trans (hb4.mono HB3.out.size))
                    have M4 := Lib.hid (M3.out.call hb4)
                    clear hb4 q1_2 d0 d1 d2
                    by_cases hr0 : r = 0
                    · subst hr0
                      have HFB1 := Lib.hid (firstBad_next HFB.out HGK.out)
                      go_wp2
                      go_roundw
                      case rel => exact ⟨k + 1, by omega, by go_num, HFB1.out, HB4.out⟩
                      case measure => simp [intOf] <;> omega
                    · have hrb : (r == 0) = false := by rw [beq_eq_false_iff_ne]; exact hr0
                      have HBD := Lib.hid (show R = r by rw [← HR.out]; unfold valuesE; rw [HE.out, firstBad_at HFB.out (by rw [HGK.out]; exact hr0) hlt, HGK.out, if_pos hr0])
                      clear hr0
                      go_wp2
                      go_ret
                      exact ⟨by rw [HBD.out]; rfl, M4.out.below⟩
                  · obtain rfl : k = rn := by omega
                    have HBD := Lib.hid (show R = fitE s (row.map fix) by rw [← HR.out]; unfold valuesE; rw [HE.out, HFB.out, if_neg (fun h => h rfl)])
                    have HFX := Lib.hid (fun W h => fixrow_callsE ra k rc row W h hrn)
                    have HFIT := Lib.hid (fun W a5 c5 (h1 : Below wr.heap.size wr W) h2 => rfit_calls s [.int .u32 (s.id : Int), .slice fa fn fc] a5 k c5 (row.map fix) W (SchemaR.stable _ _ _ _ (M3.out.call h1).below HSC.out) h2 hrn)
                    go_upto_region 16 with fail
                    have hS : ∀ W, Below wr.heap.size wr W → W.cell? ⟨w.heap.size, 0, none⟩ = some (.int .u32 (s.id : Int)) ∧ W.cell? ⟨w.heap.size, 1, none⟩ = some (.slice fa fn fc) ∧ W.cell? ⟨w.heap.size + 1, 2, none⟩ = some (.slice ra k rc) := fun W h => ⟨(M3.out.call h).cell 0 0 rfl rfl, (M3.out.call h).cell 0 1 rfl rfl, (M3.out.call h).cell 1 2 rfl rfl⟩
                    have HSS := Lib.hid hS
                    clear hS q1_2
                    go_region_held3 (fun W => W.cell? ⟨w.heap.size, 0, none⟩ = some (.int .u32 (s.id : Int)) ∧ W.cell? ⟨w.heap.size, 1, none⟩ = some (.slice fa fn fc) ∧ W.cell? ⟨w.heap.size + 1, 2, none⟩ = some (.slice ra k rc))
                      (first | exact HSS.out _ K6.out | exact HSS.out _ K5.out | exact HSS.out _ (Below.refl _ _).drew)
                      (first
                        | (go_at_call 43; (with_reducible refine (HFX.out _ (HROW.out.below CellR.stable (Mem.below (Mem.call M3.out (Below.drew (Below.refl _ _)))))).mono ?_); rintro e w5 ⟨v5, rfl, hown5, hp5⟩; have k5 := below_step (W0 := wr) (Below.drew (Below.refl _ _)) hp5; have K5 := Lib.hid k5; obtain ⟨a5, c5, rfl, hc5⟩ := own_slice hown5; have SL5 := Lib.hid (fixed_sl HROW.out hown5); clear hp5 k5 hown5 hc5)
                        | (go_at_call 23; (with_reducible refine (HFIT.out _ a5 c5 K5.out SL5.out).mono ?_); rintro e w6 ⟨rfl, hp6⟩; have K6 := Lib.hid (below_step (W0 := wr) K5.out hp6); clear hp6)
                        | fail)
                    go_wp2
                    go_ret
                    exact ⟨by rw [HBD.out]; rfl, (M3.out.call K6.out).below⟩
              · have hkz : ((kind : Int) == 0) = false := by rw [beq_eq_false_iff_ne]; omega
                have hob : onlyB ⟨o, op, row, ⟨kk, kn, ks⟩, nm, kind⟩ = false := by rw [HOB.out]; simp [hp1, hkd0]
                obtain rfl : R = 1 := by rw [← hR, if_pos hob]
                clear hR hob
                go_wp2
                go_ret
                exact ⟨rfl, M2.out.below⟩
            · have hnz : (nm.toList == ([] : List UInt8)) = false := by rw [hnx]; simpa using hne
              have hob : onlyB ⟨o, op, row, ⟨kk, kn, ks⟩, nm, kind⟩ = false := by rw [HOB.out]; simp [hp1, hne]
              obtain rfl : R = 1 := by rw [← hR, if_pos hob]
              clear hR hob
              go_wp2
              go_ret
              exact ⟨rfl, M2.out.below⟩
        · have hp1i : ((op : Int) == 1) = false := by rw [beq_eq_false_iff_ne]; omega
          by_cases hr0 : rn = 0
          · have hri : (rn : Int) ≤ 0 := by omega
            by_cases hp2 : op = 2
            · have hp2i : ((op : Int) == 2) = true := by rw [beq_iff_eq]; omega
              have hp3i : ((op : Int) == 3) = false := by rw [beq_eq_false_iff_ne]; omega
              by_cases hne : nm.size = 0
              · have hnz : (nm.toList == ([] : List UInt8)) = true := by rw [hnx]; simpa using hne
                by_cases hkd0 : kind = 0
                · have hkz : ((kind : Int) == 0) = true := by rw [beq_iff_eq]; omega
                  have hob : onlyB ⟨o, op, row, ⟨kk, kn, ks⟩, nm, kind⟩ = true := by rw [HOB.out]; simp [hp2, hne, hkd0, hr0]
                  rw [if_neg (by rw [hob]; simp), if_neg hp1, if_pos hp2] at hR
                  have HR := Lib.hid hR
                  clear hR hob
                  have hR := HR.out
                  unfold keyE at hR
                  simp only [] at hR
                  have hck := fun W => HCK.out ⟨kk, kn, ks⟩ HK.out.2.1.1 W
                  unfold CellD.cells at hck
                  have HCKD := Lib.hid hck
                  clear hck
                  generalize chk ⟨kk, kn, ks⟩ = kc at *
                  go_wp2_with fail
                  refine (HCKD.out _).mono ?_
                  rintro e w3 ⟨rfl, hb⟩
                  have M3 := Lib.hid (M2.out.call hb)
                  clear hb q0_0 q0_1 q1_0 q1_1 q1_2 q1_3 q1_4 q1_5 q1_6 q1_7 n0 n1 n2 hq hnx
                  have q0_0 : w3.cell? ⟨w.heap.size, 0, none⟩ = some (.int .u32 (s.id : Int)) := M3.out.cell 0 0 rfl rfl
                  have q0_1 : w3.cell? ⟨w.heap.size, 1, none⟩ = some (.slice fa fn fc) := M3.out.cell 0 1 rfl rfl
                  have q1_0 : w3.cell? ⟨w.heap.size + 1, 0, none⟩ = some (.int .u64 (o : Int)) := M3.out.cell 1 0 rfl rfl
                  have q1_1 : w3.cell? ⟨w.heap.size + 1, 1, none⟩ = some (.int .u8 (op : Int)) := M3.out.cell 1 1 rfl rfl
                  have q1_2 : w3.cell? ⟨w.heap.size + 1, 2, none⟩ = some (.slice ra rn rc) := M3.out.cell 1 2 rfl rfl
                  have q1_3 : w3.cell? ⟨w.heap.size + 1, 3, none⟩ = some (.int .u8 kk) := M3.out.cell 1 3 rfl rfl
                  have q1_4 : w3.cell? ⟨w.heap.size + 1, 4, none⟩ = some (.int .i64 kn) := M3.out.cell 1 4 rfl rfl
                  have q1_5 : w3.cell? ⟨w.heap.size + 1, 5, none⟩ = some (.string ks) := M3.out.cell 1 5 rfl rfl
                  have q1_6 : w3.cell? ⟨w.heap.size + 1, 6, none⟩ = some (.string nm) := M3.out.cell 1 6 rfl rfl
                  have q1_7 : w3.cell? ⟨w.heap.size + 1, 7, none⟩ = some (.int .u8 (kind : Int)) := M3.out.cell 1 7 rfl rfl
                  by_cases hkc : kc = 0
                  · subst hkc
                    rw [if_neg (by simp)] at hR
                    by_cases hz : kk = 0
                    · obtain rfl : R = 82 := by rw [← hR, if_pos hz]
                      have hzi : (kk == 0) = true := by rw [hz]; rfl
                      clear hR
                      go_wp2
                      go_ret
                      exact ⟨rfl, M3.out.below⟩
                    · have hzi : (kk == 0) = false := by rw [beq_eq_false_iff_ne]; exact hz
                      rw [if_neg hz] at hR
                      obtain ⟨b, off, y, yv, rfl, hbl, hy, hcl, hr, hcell⟩ := HFS.out.at_ (i := 0) (by omega)
                      obtain ⟨rfl, _⟩ := hr
                      have e2 := M3.out.old (p := ⟨b, off + 0 * 4 + 2, none⟩) hbl (hcell 2 _ rfl)
                      rw [show off + 0 * 4 + 2 = off + 2 by omega] at e2
                      have hk0 : kind0 s = (y.kind : Int) := by unfold kind0; rw [hy]; rfl
                      rw [hk0] at hR
                      have hf1i : (0 : Int) < (fn : Int) := by omega
                      clear hcell hcl hy hk0
                      by_cases hke : kk = (y.kind : Int)
                      · obtain rfl : R = 0 := by rw [← hR, if_neg (fun h => h hke)]
                        have hkq : (kk != (y.kind : Int)) = false := by simp [hke]
                        clear hR
                        go_wp2_with (first | go_quiet (fail) | fail)
                        go_ret
                        exact ⟨rfl, below_drewN M3.out.below _⟩
                      · obtain rfl : R = 10 := by rw [← hR, if_pos hke]
                        have hkq : (kk != (y.kind : Int)) = true := by simp [hke]
                        clear hR
                        go_wp2_with (first | go_quiet (fail) | fail)
                        go_ret
                        exact ⟨rfl, below_drewN M3.out.below _⟩
                  · rw [if_pos hkc] at hR
                    subst hR
                    have hkb : (kc == 0) = false := by rw [beq_eq_false_iff_ne]; exact hkc
                    go_wp2_with (first | go_quiet (fail) | fail)
                    go_ret
                    exact ⟨rfl, below_drewN M3.out.below _⟩
                · have hkz : ((kind : Int) == 0) = false := by rw [beq_eq_false_iff_ne]; omega
                  have hob : onlyB ⟨o, op, row, ⟨kk, kn, ks⟩, nm, kind⟩ = false := by rw [HOB.out]; simp [hp2, hkd0]
                  obtain rfl : R = 1 := by rw [← hR, if_pos hob]
                  clear hR hob
                  go_wp2
                  go_ret
                  exact ⟨rfl, M2.out.below⟩
              · have hnz : (nm.toList == ([] : List UInt8)) = false := by rw [hnx]; simpa using hne
                have hob : onlyB ⟨o, op, row, ⟨kk, kn, ks⟩, nm, kind⟩ = false := by rw [HOB.out]; simp [hp2, hne]
                obtain rfl : R = 1 := by rw [← hR, if_pos hob]
                clear hR hob
                go_wp2
                go_ret
                exact ⟨rfl, M2.out.below⟩
            · have hp2i : ((op : Int) == 2) = false := by rw [beq_eq_false_iff_ne]; omega
              have hp3i : ((op : Int) == 3) = true := by rw [beq_iff_eq]; omega
              cases kb
              · have hob : onlyB ⟨o, op, row, ⟨kk, kn, ks⟩, nm, kind⟩ = false := by rw [HOB.out]; simp [hp1, hp2]
                obtain rfl : R = 1 := by rw [← hR, if_pos hob]
                clear hR hob
                go_wp2
                go_ret
                exact ⟨rfl, M2.out.below⟩
              · have hob : onlyB ⟨o, op, row, ⟨kk, kn, ks⟩, nm, kind⟩ = true := by rw [HOB.out]; simp [hp1, hp2, hr0]
                rw [if_neg (by rw [hob]; simp), if_neg hp1, if_neg hp2] at hR
                have HR := Lib.hid hR
                clear hR hob
                go_wp2_with fail
                refine (HADD.out _ (SchemaR.stable _ _ _ _ M2.out.below HSC.out)).mono ?_
                rintro e w3 ⟨a5, n5, c5, rfl, -, -, -, -, -, -, hb⟩
                have M3 := Lib.hid (M2.out.call hb)
                clear hb q0_0 q0_1 q1_0 q1_1 q1_2 q1_3 q1_4 q1_5 q1_6 q1_7 n0 n1 n2
                go_wp2
                go_ret
                exact ⟨by rw [HR.out]; rfl, M3.out.below⟩
          · have hri : (0 : Int) < (rn : Int) := by omega
            have hob : onlyB ⟨o, op, row, ⟨kk, kn, ks⟩, nm, kind⟩ = false := by rw [HOB.out]; simp [hp1, hr0]
            obtain rfl : R = 1 := by rw [← hR, if_pos hob]
            clear hR hob
            go_wp2
            go_ret
            exact ⟨rfl, M2.out.below⟩
  · rw [if_pos hce] at hR
    subst hR
    have hcb : (ce == 0) = false := by rw [beq_eq_false_iff_ne]; exact hce
    go_wp2
    go_ret
    exact ⟨rfl, M1.out.below⟩
end Go.Proofs.Ytlclhinianamhaa
