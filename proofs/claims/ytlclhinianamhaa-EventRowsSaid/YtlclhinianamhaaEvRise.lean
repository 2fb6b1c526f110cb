/- The law EventRows. -/
import Derived.Test.YtlclhinianamhaaEvRun
namespace Go.Proofs.Ytlclhinianamhaa
open Go.RowKit Go.Deep
set_option linter.unusedVariables false
set_option linter.unusedSimpArgs false

set_option maxRecDepth 100000 in
set_option maxHeartbeats 8000000 in
theorem eventRows (scs : List Value) (s : SchemaD) (a : Option Addr) (n c : Nat) (l : List EventD) (w : World) (hs : SchemaR w scs s) (hl : Sl 8 EventR w a n l) : Calls Try.prog 5 #[.agg scs.toArray, .slice a n c] w (TruthPost w) := by
  have HSC := Lib.hid hs
  have HAL := Lib.hid alive_callsE
  obtain ⟨LP, hLP, hsl, hle⟩ := events_pairs hl
  have HSL := Lib.hid hsl
  have HLE := Lib.hid hle
  clear hLP hsl hle hl
  have hid : s.id < 2 ^ 32 := by obtain ⟨_, _, _, _, _, _, _, _, h⟩ := hs; exact h
  have HID := Lib.hid hid
  clear hid
  obtain ⟨fa, fn, fc, rfl, hsr⟩ := hs
  clear hsr
  have HG8 := Lib.hid (fun W h => great08 [.int .u32 (s.id : Int), .slice fa fn fc] s W h)
  have HC8 := Lib.hid (fun W h => check08 [.int .u32 (s.id : Int), .slice fa fn fc] s W h)
  have HNW := Lib.hid (fun W h => inewAny [.int .u32 (s.id : Int), .slice fa fn fc] s W h)
  have HWL := Lib.hid (fun W h0 h1 h2 h4 => well_calls [.int .u32 (s.id : Int), .slice fa fn fc] s a n c LP 60 w W h0 h1 h2 HLE.out (by decide) h4)
  obtain ⟨R, hR⟩ : ∃ R, schemaChk s = R := ⟨_, rfl⟩
  rw [hR] at HC8 HNW
  have HOK := Lib.hid (show R = 0 → StOK ⟨s, [], 0⟩ from fun h => StOK.start (hR.trans h) HID.out)
  clear hR
  go_enter Try.func5, Try.ntmps5
  go_wp2_with fail
  obtain ⟨W0, hWW⟩ : ∃ W0 : World, W0 = w.alloc (.cells #[.int .u32 (s.id : Int), .slice fa fn fc] 25) := ⟨_, rfl⟩
  have hm : Mem w.heap.size [#[.int .u32 (s.id : Int), .slice fa fn fc]] w W0 := by rw [hWW]; exact (Mem.nil w).push (by simp) _ _
  rw [← hWW]
  clear hWW
  have M0 := Lib.hid hm
  clear hm
  refine (HAL.out _).mono ?_
  rintro e w1 ⟨rfl, hb1⟩
  have M1 := Lib.hid (M0.out.call hb1)
  clear hb1
  have s0 : w1.cell? ⟨w.heap.size, 0, none⟩ = some (.int .u32 (s.id : Int)) := M1.out.cell 0 0 rfl rfl
  have s1 : w1.cell? ⟨w.heap.size, 1, none⟩ = some (.slice fa fn fc) := M1.out.cell 0 1 rfl rfl
  go_wp2_with fail
  refine (HG8.out _ (SchemaR.stable _ _ _ _ M1.out.below HSC.out)).mono ?_
  rintro e w2 ⟨b8, rfl, hb2, _⟩
  have M2 := Lib.hid (M1.out.call hb2)
  clear s0 s1 hb2
  cases b8
  rotate_left
  · go_wp2
    go_ret
    exact ⟨rfl, M2.out.below⟩
  have s0 : w2.cell? ⟨w.heap.size, 0, none⟩ = some (.int .u32 (s.id : Int)) := M2.out.cell 0 0 rfl rfl
  have s1 : w2.cell? ⟨w.heap.size, 1, none⟩ = some (.slice fa fn fc) := M2.out.cell 0 1 rfl rfl
  go_wp2_with fail
  refine (HC8.out _ (SchemaR.stable _ _ _ _ M2.out.below HSC.out)).mono ?_
  rintro e w3 ⟨rfl, hb3⟩
  have M3 := Lib.hid (M2.out.call hb3)
  clear s0 s1 hb3
  by_cases hr0 : R = 0
  rotate_left
  · have hrb : (R != 0) = true := by simp [hr0]
    go_wp2
    go_ret
    exact ⟨rfl, M3.out.below⟩
  subst hr0
  have s0 : w3.cell? ⟨w.heap.size, 0, none⟩ = some (.int .u32 (s.id : Int)) := M3.out.cell 0 0 rfl rfl
  have s1 : w3.cell? ⟨w.heap.size, 1, none⟩ = some (.slice fa fn fc) := M3.out.cell 0 1 rfl rfl
  go_wp2_with fail
  refine (HNW.out _ (SchemaR.stable _ _ _ _ M3.out.below HSC.out)).mono ?_
  rintro e w4 ⟨hb4, hnew⟩
  rcases hnew with ⟨h, _⟩ | ⟨_, b, bm, rfl, hbl, hbml, hst⟩
  · exact absurd rfl h
  have M4 := Lib.hid (M3.out.call hb4)
  have HBL := Lib.hid (show w.heap.size + 1 ≤ b from Nat.le_trans M3.out.room hbl)
  have HBM := Lib.hid (show w.heap.size + 1 ≤ bm from Nat.le_trans M3.out.room hbml)
  have HX4 := Lib.hid (hst (Two b bm) (.inl rfl) (.inr rfl) (fun k hk => .inr hk))
  clear s0 s1 hb4 hst hbl hbml
  have s0 : w4.cell? ⟨w.heap.size, 0, none⟩ = some (.int .u32 (s.id : Int)) := M4.out.cell 0 0 rfl rfl
  have s1 : w4.cell? ⟨w.heap.size, 1, none⟩ = some (.slice fa fn fc) := M4.out.cell 0 1 rfl rfl
  go_wp2_with fail
  refine (HNW.out _ (SchemaR.stable _ _ _ _ M4.out.below HSC.out)).mono ?_
  rintro e w5 ⟨hb5, hnew⟩
  rcases hnew with ⟨h, _⟩ | ⟨_, b2, bm2, rfl, hbl, hbml, hst⟩
  · exact absurd rfl h
  have M5 := Lib.hid (M4.out.call hb5)
  have HBL2 := Lib.hid (show w.heap.size + 1 ≤ b2 from Nat.le_trans M4.out.room hbl)
  have HBM2 := Lib.hid (show w.heap.size + 1 ≤ bm2 from Nat.le_trans M4.out.room hbml)
  have HT4 := Lib.hid (show ∀ k, Two b bm k → k < w4.heap.size from two_lt HX4.out)
  have HY5 := Lib.hid (hst (Four b bm b2 bm2) (.inr (.inl rfl)) (.inr (.inr rfl)) (fun k hk => by
    rcases hk with hk | hk
    · exact .inl (HT4.out k hk)
    · exact .inr hk))
  have HX5 := Lib.hid (HX4.out.plus hb5 (S' := Four b bm b2 bm2) (fun k hk => by
    rcases hk with hk | rfl | rfl
    · exact .inl hk
    · exact .inr hbl
    · exact .inr hbml) (fun k hk => .inl hk) HY5.out.slt)
  have HN1 := Lib.hid (show ¬ Two b bm b2 ∧ ¬ Two b bm bm2 from ⟨fun h => by have := HT4.out _ h; omega, fun h => by have := HT4.out _ h; omega⟩)
  have HN2 := Lib.hid (show ¬ Two b2 bm2 b ∧ ¬ Two b2 bm2 bm from ⟨fun h => by have := HT4.out b (.inl rfl); rcases h with h | h <;> omega, fun h => by have := HT4.out bm (.inr rfl); rcases h with h | h <;> omega⟩)
  clear s0 s1 hb5 hst hbl hbml HX4
  have s0 : w5.cell? ⟨w.heap.size, 0, none⟩ = some (.int .u32 (s.id : Int)) := M5.out.cell 0 0 rfl rfl
  have s1 : w5.cell? ⟨w.heap.size, 1, none⟩ = some (.slice fa fn fc) := M5.out.cell 0 1 rfl rfl
  go_wp2_with fail
  refine (HWL.out _ M5.out.below (SchemaR.stable _ _ _ _ M5.out.below HSC.out) (HSL.out.below EvC.stable M5.out.below) (HOK.out trivial)).mono ?_
  rintro e w6 ⟨v6, WP, rfl, hown6, hwf, hwr, hwl, hb6⟩
  obtain ⟨a6, c6, rfl, hc61, hc62, hc63⟩ := own_slice hown6
  have M6 := Lib.hid (M5.out.call hb6)
  have HX6 := Lib.hid (HX5.out.call hb6)
  have HY6 := Lib.hid (HY5.out.call hb6)
  have HTW := Lib.hid (show ∀ k, Four b bm b2 bm2 k → k < w5.heap.size from HY5.out.slt)
  have HO6 := Lib.hid hown6
  have HEO := Lib.hid (show EvsOK w WP from WellPost.evs hwf hwr)
  have HWLN := Lib.hid hwl
  have HALL := Lib.hid (show AllOK ⟨s, [], 0⟩ (WP.map Prod.fst) by rw [hwf]; exact wellF_all _ _)
  obtain ⟨X, hX⟩ : ∃ X, runS ⟨s, [], 0⟩ (WP.map Prod.fst) = X := ⟨_, rfl⟩
  have HX := Lib.hid hX
  clear s0 s1 hb6 hown6 hwf hwr hwl hc61 hc62 hc63 HX5 HY5 hX
  have HTB := Lib.hid (show ∀ k, Four b bm b2 bm2 k → w.heap.size + 1 ≤ k from fun k hk => by rcases hk with (rfl | rfl) | (rfl | rfl); exact HBL.out; exact HBM.out; exact HBL2.out; exact HBM2.out)
  go_wp2_with fail
  go_loopw [10] (fun i wr => ∃ (k : Nat) (x : StD), k ≤ WP.length ∧ i = .int .i64 k ∧ x.off = k ∧ AllOK x ((WP.map Prod.fst).drop k) ∧ runS x ((WP.map Prod.fst).drop k) = X ∧ StOK x ∧ ImpSt (Four b bm b2 bm2) wr b bm x ∧ ImpSt (Four b bm b2 bm2) wr b2 bm2 ⟨s, [], 0⟩ ∧ ButS (Four b bm b2 bm2) w6.heap.size w6 wr) (fun i _ => WP.length - (intOf i).toNat)
  case atStart => exact ⟨0, ⟨s, [], 0⟩, Nat.zero_le _, rfl, rfl, HALL.out, HX.out, HOK.out trivial, HX6.out, HY6.out, ButS.refl (Nat.le_refl _)⟩
  case round =>
    obtain ⟨k, x, hk, rfl, hoff, hall, hrun, hok, hst, hsy, hbu⟩ := hrel
    have HOFF := Lib.hid hoff
    have HAK := Lib.hid hall
    have HRN := Lib.hid hrun
    have HXO := Lib.hid hok
    have HST := Lib.hid hst
    have HSY := Lib.hid hsy
    have HBU := Lib.hid hbu
    have hki : (0 : Int) ≤ (k : Int) := by omega
    clear hoff hall hrun hok hst hsy hbu
    by_cases hlt : k < WP.length
    · skip
      have hkn : (k : Int) < (WP.length : Int) := by omega
      have HW := Lib.hid (w64E hlt (show WP.length ≤ maxLen by have := HWLN.out; unfold maxLen; omega))
      obtain ⟨qb, qoff, q, u, rfl, hbl, hx, hcl, hr, hcell⟩ := (own_evs (own_butS HO6.out HBU.out HTW.out)).at_ hlt
      have hr' : u = evV q := hr
      subst hr'
      have HQM := Lib.hid (List.mem_of_getElem? hx)
      have HDR := Lib.hid (drop_ev hx)
      have hq := HEO.out q HQM.out
      obtain ⟨qa, qn, qc, hqv⟩ := ev_slice hq.1
      obtain ⟨⟨qo, qop, qrow, ⟨qkk, qkn, qks⟩, qnm, qkind⟩, qv⟩ := q
      obtain rfl : qv = .slice qa qn qc := hqv
      have c0 := hcell 0 _ rfl
      have c1 := hcell 1 _ rfl
      have c2 := hcell 2 _ rfl
      have c3 := hcell 3 _ rfl
      have c4 := hcell 4 _ rfl
      have c5 := hcell 5 _ rfl
      have c6 := hcell 6 _ rfl
      have c7 := hcell 7 _ rfl
      simp only [Nat.add_zero] at c0
      simp only [] at HDR
      obtain ⟨QE, hQE⟩ : ∃ QE : EventD, QE = ⟨qo, qop, qrow, ⟨qkk, qkn, qks⟩, qnm, qkind⟩ := ⟨_, rfl⟩
      have HQR := Lib.hid (show EventR wr [.int .u64 (qo : Int), .int .u8 (qop : Int), .slice qa qn qc, .int .u8 qkk, .int .i64 qkn, .string qks, .string qnm, .int .u8 (qkind : Int)] QE ∧ QE.row.length ≤ 1000 by rw [hQE]; exact HEO.out.at_ (M6.out.butS HBU.out HTB.out).below HQM.out)
      rw [← hQE] at HDR
      clear hcell hr hcl hx hq hQE
      go_wp2_with fail
      have hal := HAK.out
      rw [HDR.out] at hal
      have HDO := Lib.hid hal
      have hrn := HRN.out
      rw [HDR.out] at hrn
      have HRN1 := Lib.hid (show runS (doS x QE) ((WP.map Prod.fst).drop (k + 1)) = X from hrn)
      clear hal hrn
      refine (ido_calls (Four b bm b2 bm2) b bm x [.int .u64 (qo : Int), .int .u8 (qop : Int), .slice qa qn qc, .int .u8 qkk, .int .i64 qkn, .string qks, .string qnm, .int .u8 (qkind : Int)] QE _ HST.out HQR.out.1 HQR.out.2 (by have := HXO.out.few; have := HOFF.out; have := HWLN.out; omega) HXO.out.lens).mono ?_
      rintro e w7 ⟨he7, hst7, hbu7⟩
      rw [HDO.out.1] at he7
      subst he7
      have HST7 := Lib.hid hst7
      have HSY7 := Lib.hid (HSY.out.other hbu7 (fun k hk => .inl hk) HN1.out.1 HN1.out.2)
      have HBU7 := Lib.hid (HBU.out.step (hbu7.mono (fun k _ hk => .inl hk)) HBU.out.size)
      have HDA := Lib.hid (doS_ok HXO.out HQR.out.1.ok HDO.out.1)
      clear hst7 hbu7 c0 c1 c2 c3 c4 c5 c6 c7
      go_wp2
      go_roundw
      case rel => exact ⟨k + 1, doS x QE, hlt, by first | exact numE HW.out | exact numE1, HDA.out.2.trans (congrArg (· + 1) HOFF.out), HDO.out.2, HRN1.out, HDA.out.1, HST7.out, HSY7.out, HBU7.out⟩
      case measure =>
        try rw [HW.out]
        exact measE1 hlt
    · obtain rfl : k = WP.length := by omega
      have hxx := HRN.out
      rw [drop_end] at hxx
      have hxx' : x = X := hxx
      subst hxx'
      have HBU1 := Lib.hid HBU.out
      clear hxx HAK HRN HX6 HY6 HBU
      go_wp2_with fail
      go_loopw [11] (fun i wr2 => ∃ (k : Nat) (y : StD), k ≤ WP.length ∧ i = .int .i64 k ∧ y.off ≤ k ∧ runS y ((WP.map Prod.fst).drop k) = x ∧ StOK y ∧ ImpSt (Four b bm b2 bm2) wr2 b2 bm2 y ∧ ImpSt (Four b bm b2 bm2) wr2 b bm x ∧ ButS (Four b bm b2 bm2) w6.heap.size w6 wr2) (fun i _ => WP.length - (intOf i).toNat)
      case atStart => exact ⟨0, ⟨s, [], 0⟩, Nat.zero_le _, rfl, Nat.le_refl _, HX.out, HOK.out trivial, HSY.out, HST.out, HBU1.out⟩
      case round =>
        obtain ⟨k, y, hk, rfl, hoff, hrun, hok, hst, hsx, hbu⟩ := hrel
        have HOF2 := Lib.hid hoff
        have HRN := Lib.hid hrun
        have HYO := Lib.hid hok
        have HSY2 := Lib.hid hst
        have HSX2 := Lib.hid hsx
        have HBU := Lib.hid hbu
        have hki : (0 : Int) ≤ (k : Int) := by omega
        clear hoff hrun hok hst hsx hbu
        by_cases hlt : k < WP.length
        · skip
          have hkn : (k : Int) < (WP.length : Int) := by omega
          have HW := Lib.hid (w64E hlt (show WP.length ≤ maxLen by have := HWLN.out; unfold maxLen; omega))
          obtain ⟨qb, qoff, q, u, rfl, hbl, hx, hcl, hr, hcell⟩ := (own_evs (own_butS HO6.out HBU.out HTW.out)).at_ hlt
          have hr' : u = evV q := hr
          subst hr'
          have HQM := Lib.hid (List.mem_of_getElem? hx)
          have HDR := Lib.hid (drop_ev hx)
          have hq := HEO.out q HQM.out
          obtain ⟨qa, qn, qc, hqv⟩ := ev_slice hq.1
          obtain ⟨⟨qo, qop, qrow, ⟨qkk, qkn, qks⟩, qnm, qkind⟩, qv⟩ := q
          obtain rfl : qv = .slice qa qn qc := hqv
          have c0 := hcell 0 _ rfl
          have c1 := hcell 1 _ rfl
          have c2 := hcell 2 _ rfl
          have c3 := hcell 3 _ rfl
          have c4 := hcell 4 _ rfl
          have c5 := hcell 5 _ rfl
          have c6 := hcell 6 _ rfl
          have c7 := hcell 7 _ rfl
          simp only [Nat.add_zero] at c0
          simp only [] at HDR
          obtain ⟨QE, hQE⟩ : ∃ QE : EventD, QE = ⟨qo, qop, qrow, ⟨qkk, qkn, qks⟩, qnm, qkind⟩ := ⟨_, rfl⟩
          have HQR := Lib.hid (show EventR wr [.int .u64 (qo : Int), .int .u8 (qop : Int), .slice qa qn qc, .int .u8 qkk, .int .i64 qkn, .string qks, .string qnm, .int .u8 (qkind : Int)] QE ∧ QE.row.length ≤ 1000 by rw [hQE]; exact HEO.out.at_ (M6.out.butS HBU.out HTB.out).below HQM.out)
          rw [← hQE] at HDR
          clear hcell hr hcl hx hq hQE
          go_wp2_with fail
          have hrn := HRN.out
          rw [HDR.out] at hrn
          have HRN1 := Lib.hid (show runS (doS y QE) ((WP.map Prod.fst).drop (k + 1)) = x from hrn)
          clear hrn
          refine (ido_calls (Four b bm b2 bm2) b2 bm2 y [.int .u64 (qo : Int), .int .u8 (qop : Int), .slice qa qn qc, .int .u8 qkk, .int .i64 qkn, .string qks, .string qnm, .int .u8 (qkind : Int)] QE _ HSY2.out HQR.out.1 HQR.out.2 (by have := HYO.out.few; have := HOF2.out; have := HWLN.out; omega) HYO.out.lens).mono ?_
          rintro e w7 ⟨rfl, hst7, hbu7⟩
          have HST7 := Lib.hid hst7
          have HSX7 := Lib.hid (HSX2.out.other hbu7 (fun k hk => .inr hk) HN2.out.1 HN2.out.2)
          have HBU7 := Lib.hid (HBU.out.step (hbu7.mono (fun k _ hk => .inr hk)) HBU.out.size)
          have HDA := Lib.hid (doS_any HYO.out HQR.out.1.ok)
          clear hst7 hbu7 c0 c1 c2 c3 c4 c5 c6 c7
          go_wp2
          go_roundw
          case rel => exact ⟨k + 1, doS y QE, hlt, by first | exact numE HW.out | exact numE1, by have := HDA.out.2; have := HOF2.out; omega, HRN1.out, HDA.out.1, HST7.out, HSX7.out, HBU7.out⟩
          case measure =>
            try rw [HW.out]
            exact measE1 hlt
        · obtain rfl : k = WP.length := by omega
          have hyy := HRN.out
          rw [drop_end] at hyy
          have hyy' : y = x := hyy
          subst hyy'
          clear hyy HRN HX HYO
          go_wp2_with fail
          have HLL := Lib.hid (show y.l.length ≤ 1000 by have := HXO.out.few; have := HOFF.out; have := HWLN.out; omega)
          have MR := Lib.hid (M6.out.butS HBU.out HTB.out)
          clear HO6 HEO HSL HLE HG8 HC8 HNW HWL HALL M6 HSY HST HBU1 HBU
          refine (irows (Four b bm b2 bm2) b bm y _ HSX2.out HLL.out HXO.out.lens HXO.out.rises).mono ?_
          rintro e w8 ⟨v8, L8, rfl, hown8, hL8, hrv8, hb8⟩
          obtain ⟨a8, c8, rfl, hc8⟩ := own_slice hown8
          have HL8L := Lib.hid (show L8.length ≤ 1000 by have h := congrArg List.length hL8; rw [List.length_map] at h; have := HLL.out; omega)
          have M8 := Lib.hid (MR.out.call hb8)
          have HX8 := Lib.hid (HSX2.out.call hb8)
          have HY8 := Lib.hid (HSY2.out.call hb8)
          have HAP := Lib.hid (lawAll a8 L8.length c8 L8 _ (own_vpairs hown8) hrv8.reads (HXO.out.good hL8) HL8L.out)
          have HL8 := Lib.hid hL8
          clear hown8 hL8 hrv8 hb8 hc8 HSX2 HSY2 MR
          go_wp2_with fail
          refine HAP.out.mono ?_
          rintro e w9 ⟨v9, P9, rfl, hown9, hP9, hr9, hb9⟩
          obtain ⟨a9, c9, rfl, hc91, hc92, hc93⟩ := own_slice hown9
          have M9 := Lib.hid (M8.out.call hb9)
          have HX9 := Lib.hid (HX8.out.call hb9)
          have HY9 := Lib.hid (HY8.out.call hb9)
          have HO9 := Lib.hid hown9
          have HP9 := Lib.hid (hP9.trans HL8.out)
          have HR9 := Lib.hid hr9
          clear hown9 hP9 hr9 hb9 hc91 hc92 hc93 HX8 HY8 M8 HAP
          go_wp2_with fail
          go_loopw [13] (fun i wr3 => ∃ k : Nat, k ≤ L8.length ∧ i = .int .i64 k ∧ Below w9.heap.size w9 wr3) (fun i _ => L8.length - (intOf i).toNat)
          case atStart => exact ⟨0, Nat.zero_le _, rfl, Below.refl _ _⟩
          case round =>
            obtain ⟨k, hk, rfl, hbb⟩ := hrel
            have HBB := Lib.hid hbb
            have hki : (0 : Int) ≤ (k : Int) := by omega
            clear hbb
            by_cases hlt : k < L8.length
            rotate_left
            · have hkn : ¬ (k : Int) < (L8.length : Int) := by omega
              have M12 := Lib.hid (M9.out.call HBB.out)
              have HX12 := Lib.hid (HX9.out.call HBB.out)
              have HY12 := Lib.hid (HY9.out.call HBB.out)
              have HO12 := Lib.hid (own_below HO9.out HBB.out)
              have HR12 := Lib.hid (fun q hq => (HR9.out q hq).below HBB.out)
              clear HX9 HY9 HO9 HR9 M9
              go_wp2_with fail
              refine (irows (Four b bm b2 bm2) b2 bm2 y _ HY12.out HLL.out HXO.out.lens HXO.out.rises).mono ?_
              rintro e w13 ⟨v13, L13, rfl, hown13, hL13, hrv13, hb13⟩
              obtain ⟨a13, c13, rfl, hc13⟩ := own_slice hown13
              have HIS := Lib.hid (is_rows HXO.out HLL.out w13 hown13 hrv13 hL13 (own_below HO12.out hb13) HP9.out (fun q hq => (HR12.out q hq).below hb13))
              have M13 := Lib.hid (M12.out.call hb13)
              have HX13 := Lib.hid (HX12.out.call hb13)
              clear hown13 hL13 hrv13 hb13 hc13
              go_wp2_with fail
              refine HIS.out.mono ?_
              rintro e w14 ⟨rfl, hb14⟩
              have M14 := Lib.hid (M13.out.call hb14)
              have HX14 := Lib.hid (HX13.out.call hb14)
              clear hb14
              go_wp2_with fail
              refine (ioffset (Four b bm b2 bm2) b bm y _ HX14.out).mono ?_
              rintro e w15 ⟨rfl, rfl⟩
              rw [HOFF.out]
              have hwu : IntKind.u64.wrap (WP.length : Int) = (WP.length : Int) := IntWalk.u64_in _ (by have := HWLN.out; omega)
              go_wp2
              go_ret
              exact ⟨rfl, M14.out.below⟩
            have hkn : (k : Int) < (L8.length : Int) := by omega
            have HW := Lib.hid (w64E hlt (show L8.length ≤ maxLen by have := HL8L.out; unfold maxLen; omega))
            obtain ⟨pb, poff, q, u, rfl, hpl, hx, hru, hcell⟩ := (own_pairs HO9.out).at1 hlt
            cases hru
            have hql : q.1 ∈ y.l := by rw [← HP9.out]; exact List.mem_map.2 ⟨q, List.mem_of_getElem? hx, rfl⟩
            have HXQ := Lib.hid (show y.l[k]? = some q.1 by rw [← HP9.out, List.getElem?_map, hx]; rfl)
            obtain ⟨qa, qn, qc, hqv, hqs⟩ := HR9.out q (List.mem_of_getElem? hx)
            have hlen := HXO.out.lens q.1 hql
            have HFIT := Lib.hid (fun W scs (h : Below w9.heap.size w9 W) (hs : SchemaR W scs y.s) => fit_zero hs (hqs.below CellR.stable h) (show qn ≤ 100000 by have := hqs.1; omega) (HXO.out.rows q.1 hql).fit (c := qc))
            have HSCH := Lib.hid (fun W (h : Below w9.heap.size w9 W) => ischema (Four b bm b2 bm2) b bm y W (HX9.out.call h) (by have := HXO.out.fields; omega))
            obtain ⟨qb, qoff, qy, qcs, rfl, hqbl, hqx, hqcl, hqr, hqcell⟩ := hqs.at_ (i := 0) (by have := hqs.1; omega)
            obtain ⟨rfl, _⟩ := hqr
            rw [hqv] at hcell
            have hkey : keyOf q.1 = qy := by unfold keyOf; rw [List.headD_eq_head?_getD, List.head?_eq_getElem?, hqx]; rfl
            obtain ⟨yk, yn, ys⟩ := qy
            have HKY := Lib.hid hkey
            have hqn0 : 0 < qn := by have := hqs.1; omega
            have hqn : (0 : Int) < (qn : Int) := by omega
            have d0 := hqcell 0 _ rfl
            have d1 := hqcell 1 _ rfl
            have d2 := hqcell 2 _ rfl
            simp only [Nat.zero_mul, Nat.add_zero] at d0 d1 d2
            clear hkey hqs hqcell hqx hqcl hqv hlen hql
            rcases Nat.eq_zero_or_pos k with hk0 | hk0
            · have hg : decide ((0 : Int) < (k : Int)) = false := by rw [hk0]; rfl
              have hg2 : decide (0 < k) = false := by rw [hk0]; rfl
              have HSS := Lib.hid (show ∀ W, Below w9.heap.size w9 W → W.cell? ⟨pb, poff + k, none⟩ = some (.slice (some ⟨qb, qoff, none⟩) qn qc) ∧ W.cell? ⟨qb, qoff, none⟩ = some (.int .u8 yk) ∧ W.cell? ⟨qb, qoff + 1, none⟩ = some (.int .i64 yn) ∧ W.cell? ⟨qb, qoff + 2, none⟩ = some (.string ys) from fun W h => ⟨(h.cell (p := ⟨pb, poff + k, none⟩) hpl).trans hcell, (h.cell (p := ⟨qb, qoff, none⟩) hqbl).trans d0, (h.cell (p := ⟨qb, qoff + 1, none⟩) hqbl).trans d1, (h.cell (p := ⟨qb, qoff + 2, none⟩) hqbl).trans d2⟩)
              clear hk0 hcell d0 d1 d2
              go_upto_region 21 with fail
              refine wp_region_held_drew (S := fun W => W.cell? ⟨pb, poff + k, none⟩ = some (.slice (some ⟨qb, qoff, none⟩) qn qc) ∧ W.cell? ⟨qb, qoff, none⟩ = some (.int .u8 yk) ∧ W.cell? ⟨qb, qoff + 1, none⟩ = some (.int .i64 yn) ∧ W.cell? ⟨qb, qoff + 2, none⟩ = some (.string ys)) (by kernel_rfl) (HSS.out _ (Below.drew HBB.out)) (fun hHeld => ?_)
              refine wpAnyH_take (i := 0) (v := ?_) (by (simp only [List.getElem?_toArray, List.getElem?_cons_zero, List.getElem?_cons_succ]) <;> exact rfl) (by kernel_rfl) (by kernel_rfl) (by kernel_rfl) (by intro _ _ _ h; exact h) (Or.inl ⟨by rfl, ?_⟩) (by assumption) ?_
              rotate_left
              · intro w hSw
                try dsimp only at hSw
                go_simp
                try with_reducible rfl
              try simp only [Act.put, List.setIfInBounds_toArray, List.set_cons_zero, List.set_cons_succ]
              refine wpAnyH_take (i := 2) (v := ?_) (by (simp only [List.getElem?_toArray, List.getElem?_cons_zero, List.getElem?_cons_succ]) <;> exact rfl) (by kernel_rfl) (by kernel_rfl) (by kernel_rfl) (by intro _ _ _ h; exact h) (Or.inl ⟨by rfl, ?_⟩) (by assumption) ?_
              rotate_left
              · intro w hSw
                try dsimp only at hSw
                go_simp
                try with_reducible rfl
              try simp only [Act.put, List.setIfInBounds_toArray, List.set_cons_zero, List.set_cons_succ]
              refine wpAnyH_take (i := 3) (v := ?_) (by (simp only [List.getElem?_toArray, List.getElem?_cons_zero, List.getElem?_cons_succ]) <;> exact rfl) (by kernel_rfl) (by kernel_rfl) (by kernel_rfl) (by intro _ _ _ h; exact h) (Or.inl ⟨by rfl, ?_⟩) (by assumption) ?_
              rotate_left
              · intro w hSw
                try dsimp only at hSw
                go_simp
                try with_reducible rfl
              try simp only [Act.put, List.setIfInBounds_toArray, List.set_cons_zero, List.set_cons_succ]
              refine wpAnyH_take (i := 4) (v := ?_) (by (simp only [List.getElem?_toArray, List.getElem?_cons_zero, List.getElem?_cons_succ]) <;> exact rfl) (by kernel_rfl) (by kernel_rfl) (by kernel_rfl) (by intro _ _ _ h; exact h) (Or.inl ⟨by rfl, ?_⟩) (by assumption) ?_
              rotate_left
              · intro w hSw
                try dsimp only at hSw
                go_simp
                try with_reducible rfl
              try simp only [Act.put, List.setIfInBounds_toArray, List.set_cons_zero, List.set_cons_succ]
              refine wpAnyH_take (i := 5) (v := ?_) (by (simp only [List.getElem?_toArray, List.getElem?_cons_zero, List.getElem?_cons_succ]) <;> exact rfl) (by kernel_rfl) (by kernel_rfl) (by kernel_rfl) (by intro _ _ _ h; exact h) (Or.inl ⟨by rfl, ?_⟩) (by assumption) ?_
              rotate_left
              · intro w hSw
                try dsimp only at hSw
                go_simp
                try with_reducible rfl
              try simp only [Act.put, List.setIfInBounds_toArray, List.set_cons_zero, List.set_cons_succ]
              refine wpAnyH_ready (rs := [1]) (by kernel_rfl) (by simp) ?_
              refine AllReadyH.cons (by (simp only [List.getElem?_toArray, List.getElem?_cons_zero, List.getElem?_cons_succ]) <;> exact rfl) (fun K hK => ?_) ?_
              rotate_left
              exact AllReadyH.nil
              go_simp
              refine (HSCH.out _ (Below.drew HBB.out)).mono ?_
              rintro e w10 ⟨a10, n10, c10, rfl, ho10, hf10, hi10, hb10⟩
              have K10 := Lib.hid (below_step (W0 := w9) (Below.drew HBB.out) hb10)
              have S10 := Lib.hid (SchemaPost.reads ho10 hf10 hi10)
              clear ho10 hf10 hi10 hb10
              try dsimp only
              refine hK.out _ _ (HSS.out _ K10.out) (fun hHeld => ?_)
              clear hK K
              try simp only [Act.put, List.setIfInBounds_toArray, List.set_cons_zero, List.set_cons_succ]
              refine wpAnyH_ready (rs := [6]) (by kernel_rfl) (by simp) ?_
              refine AllReadyH.cons (by (simp only [List.getElem?_toArray, List.getElem?_cons_zero, List.getElem?_cons_succ]) <;> exact rfl) (fun K hK => ?_) ?_
              rotate_left
              exact AllReadyH.nil
              go_simp
              refine (HFIT.out _ [.int .u32 (y.s.id : Int), .slice a10 n10 c10] K10.out S10.out).mono ?_
              rintro e w11 ⟨rfl, hb11⟩
              have K11 := Lib.hid (below_step (W0 := w9) K10.out hb11)
              clear hb11
              try dsimp only
              refine hK.out _ _ (HSS.out _ K11.out) (fun hHeld => ?_)
              clear hK K
              try simp only [Act.put, List.setIfInBounds_toArray, List.set_cons_zero, List.set_cons_succ]
              refine wpAnyH_take (i := 7) (v := ?_) (by (simp only [List.getElem?_toArray, List.getElem?_cons_zero, List.getElem?_cons_succ]) <;> exact rfl) (by kernel_rfl) (by kernel_rfl) (by kernel_rfl) (by intro _ _ _ h; exact h) (Or.inl ⟨by rfl, ?_⟩) (by assumption) ?_
              rotate_left
              · intro w hSw
                try dsimp only at hSw
                go_simp
                try with_reducible rfl
              try simp only [Act.put, List.setIfInBounds_toArray, List.set_cons_zero, List.set_cons_succ]
              refine wpAnyH_take (i := 8) (v := ?_) (by (simp only [List.getElem?_toArray, List.getElem?_cons_zero, List.getElem?_cons_succ]) <;> exact rfl) (by kernel_rfl) (by kernel_rfl) (by kernel_rfl) (by intro _ _ _ h; exact h) (Or.inl ⟨by rfl, ?_⟩) (by assumption) ?_
              rotate_left
              · intro w hSw
                try dsimp only at hSw
                go_simp
                try with_reducible rfl
              try simp only [Act.put, List.setIfInBounds_toArray, List.set_cons_zero, List.set_cons_succ]
              refine wpAnyH_take (i := 9) (v := ?_) (by (simp only [List.getElem?_toArray, List.getElem?_cons_zero, List.getElem?_cons_succ]) <;> exact rfl) (by kernel_rfl) (by kernel_rfl) (by kernel_rfl) (by intro _ _ _ h; exact h) (Or.inl ⟨by rfl, ?_⟩) (by assumption) ?_
              rotate_left
              · intro w hSw
                try dsimp only at hSw
                go_simp
                try with_reducible rfl
              try simp only [Act.put, List.setIfInBounds_toArray, List.set_cons_zero, List.set_cons_succ]
              refine wpAnyH_take (i := 10) (v := ?_) (by (simp only [List.getElem?_toArray, List.getElem?_cons_zero, List.getElem?_cons_succ]) <;> exact rfl) (by kernel_rfl) (by kernel_rfl) (by kernel_rfl) (by intro _ _ _ h; exact h) (Or.inl ⟨by rfl, ?_⟩) (by assumption) ?_
              rotate_left
              · intro w hSw
                try dsimp only at hSw
                go_simp
                try with_reducible rfl
              try simp only [Act.put, List.setIfInBounds_toArray, List.set_cons_zero, List.set_cons_succ]
              refine wpAnyH_take (i := 11) (v := ?_) (by (simp only [List.getElem?_toArray, List.getElem?_cons_zero, List.getElem?_cons_succ]) <;> exact rfl) (by kernel_rfl) (by kernel_rfl) (by kernel_rfl) (by intro _ _ _ h; exact h) (Or.inl ⟨by rfl, ?_⟩) (by assumption) ?_
              rotate_left
              · intro w hSw
                try dsimp only at hSw
                go_simp
                try with_reducible rfl
              try simp only [Act.put, List.setIfInBounds_toArray, List.set_cons_zero, List.set_cons_succ]
              refine wpAnyH_take (i := 12) (v := undef) (by (simp only [List.getElem?_toArray, List.getElem?_cons_zero, List.getElem?_cons_succ]) <;> exact rfl) (by kernel_rfl) (by kernel_rfl) (by kernel_rfl) (by intro _ _ _ h; exact h) (Or.inr ⟨by rfl, rfl⟩) (by assumption) ?_
              try simp only [Act.put, List.setIfInBounds_toArray, List.set_cons_zero, List.set_cons_succ]
              refine wpAnyH_take (i := 13) (v := undef) (by (simp only [List.getElem?_toArray, List.getElem?_cons_zero, List.getElem?_cons_succ]) <;> exact rfl) (by kernel_rfl) (by kernel_rfl) (by kernel_rfl) (by intro _ _ _ h; exact h) (Or.inr ⟨by rfl, rfl⟩) (by assumption) ?_
              try simp only [Act.put, List.setIfInBounds_toArray, List.set_cons_zero, List.set_cons_succ]
              refine wpAnyH_take (i := 14) (v := undef) (by (simp only [List.getElem?_toArray, List.getElem?_cons_zero, List.getElem?_cons_succ]) <;> exact rfl) (by kernel_rfl) (by kernel_rfl) (by kernel_rfl) (by intro _ _ _ h; exact h) (Or.inr ⟨by rfl, rfl⟩) (by assumption) ?_
              try simp only [Act.put, List.setIfInBounds_toArray, List.set_cons_zero, List.set_cons_succ]
              refine wpAnyH_take (i := 15) (v := undef) (by (simp only [List.getElem?_toArray, List.getElem?_cons_zero, List.getElem?_cons_succ]) <;> exact rfl) (by kernel_rfl) (by kernel_rfl) (by kernel_rfl) (by intro _ _ _ h; exact h) (Or.inr ⟨by rfl, rfl⟩) (by assumption) ?_
              try simp only [Act.put, List.setIfInBounds_toArray, List.set_cons_zero, List.set_cons_succ]
              refine wpAnyH_take (i := 16) (v := undef) (by (simp only [List.getElem?_toArray, List.getElem?_cons_zero, List.getElem?_cons_succ]) <;> exact rfl) (by kernel_rfl) (by kernel_rfl) (by kernel_rfl) (by intro _ _ _ h; exact h) (Or.inr ⟨by rfl, rfl⟩) (by assumption) ?_
              try simp only [Act.put, List.setIfInBounds_toArray, List.set_cons_zero, List.set_cons_succ]
              refine wpAnyH_take (i := 17) (v := undef) (by (simp only [List.getElem?_toArray, List.getElem?_cons_zero, List.getElem?_cons_succ]) <;> exact rfl) (by kernel_rfl) (by kernel_rfl) (by kernel_rfl) (by intro _ _ _ h; exact h) (Or.inr ⟨by rfl, rfl⟩) (by assumption) ?_
              try simp only [Act.put, List.setIfInBounds_toArray, List.set_cons_zero, List.set_cons_succ]
              refine wpAnyH_take (i := 18) (v := undef) (by (simp only [List.getElem?_toArray, List.getElem?_cons_zero, List.getElem?_cons_succ]) <;> exact rfl) (by kernel_rfl) (by kernel_rfl) (by kernel_rfl) (by intro _ _ _ h; exact h) (Or.inr ⟨by rfl, rfl⟩) (by assumption) ?_
              try simp only [Act.put, List.setIfInBounds_toArray, List.set_cons_zero, List.set_cons_succ]
              refine wpAnyH_take (i := 19) (v := undef) (by (simp only [List.getElem?_toArray, List.getElem?_cons_zero, List.getElem?_cons_succ]) <;> exact rfl) (by kernel_rfl) (by kernel_rfl) (by kernel_rfl) (by intro _ _ _ h; exact h) (Or.inr ⟨by rfl, rfl⟩) (by assumption) ?_
              try simp only [Act.put, List.setIfInBounds_toArray, List.set_cons_zero, List.set_cons_succ]
              refine wpAnyH_take (i := 20) (v := undef) (by (simp only [List.getElem?_toArray, List.getElem?_cons_zero, List.getElem?_cons_succ]) <;> exact rfl) (by kernel_rfl) (by kernel_rfl) (by kernel_rfl) (by intro _ _ _ h; exact h) (Or.inr ⟨by rfl, rfl⟩) (by assumption) ?_
              try simp only [Act.put, List.setIfInBounds_toArray, List.set_cons_zero, List.set_cons_succ]
              refine wpAnyH_take (i := 21) (v := undef) (by (simp only [List.getElem?_toArray, List.getElem?_cons_zero, List.getElem?_cons_succ]) <;> exact rfl) (by kernel_rfl) (by kernel_rfl) (by kernel_rfl) (by intro _ _ _ h; exact h) (Or.inr ⟨by rfl, rfl⟩) (by assumption) ?_
              try simp only [Act.put, List.setIfInBounds_toArray, List.set_cons_zero, List.set_cons_succ]
              refine wpAnyH_take (i := 22) (v := undef) (by (simp only [List.getElem?_toArray, List.getElem?_cons_zero, List.getElem?_cons_succ]) <;> exact rfl) (by kernel_rfl) (by kernel_rfl) (by kernel_rfl) (by intro _ _ _ h; exact h) (Or.inr ⟨by rfl, rfl⟩) (by assumption) ?_
              try simp only [Act.put, List.setIfInBounds_toArray, List.set_cons_zero, List.set_cons_succ]
              refine wpAnyH_take (i := 23) (v := undef) (by (simp only [List.getElem?_toArray, List.getElem?_cons_zero, List.getElem?_cons_succ]) <;> exact rfl) (by kernel_rfl) (by kernel_rfl) (by kernel_rfl) (by intro _ _ _ h; exact h) (Or.inr ⟨by rfl, rfl⟩) (by assumption) ?_
              try simp only [Act.put, List.setIfInBounds_toArray, List.set_cons_zero, List.set_cons_succ]
              refine wpAnyH_take (i := 24) (v := undef) (by (simp only [List.getElem?_toArray, List.getElem?_cons_zero, List.getElem?_cons_succ]) <;> exact rfl) (by kernel_rfl) (by kernel_rfl) (by kernel_rfl) (by intro _ _ _ h; exact h) (Or.inr ⟨by rfl, rfl⟩) (by assumption) ?_
              try simp only [Act.put, List.setIfInBounds_toArray, List.set_cons_zero, List.set_cons_succ]
              refine wpAnyH_take (i := 25) (v := undef) (by (simp only [List.getElem?_toArray, List.getElem?_cons_zero, List.getElem?_cons_succ]) <;> exact rfl) (by kernel_rfl) (by kernel_rfl) (by kernel_rfl) (by intro _ _ _ h; exact h) (Or.inr ⟨by rfl, rfl⟩) (by assumption) ?_
              try simp only [Act.put, List.setIfInBounds_toArray, List.set_cons_zero, List.set_cons_succ]
              refine wpAnyH_take (i := 26) (v := undef) (by (simp only [List.getElem?_toArray, List.getElem?_cons_zero, List.getElem?_cons_succ]) <;> exact rfl) (by kernel_rfl) (by kernel_rfl) (by kernel_rfl) (by intro _ _ _ h; exact h) (Or.inr ⟨by rfl, rfl⟩) (by assumption) ?_
              try simp only [Act.put, List.setIfInBounds_toArray, List.set_cons_zero, List.set_cons_succ]
              refine wpAnyH_take (i := 27) (v := ?_) (by (simp only [List.getElem?_toArray, List.getElem?_cons_zero, List.getElem?_cons_succ]) <;> exact rfl) (by kernel_rfl) (by kernel_rfl) (by kernel_rfl) (by intro _ _ _ h; exact h) (Or.inl ⟨by rfl, ?_⟩) (by assumption) ?_
              rotate_left
              · intro w hSw
                try dsimp only at hSw
                go_simp
                try with_reducible rfl
              try simp only [Act.put, List.setIfInBounds_toArray, List.set_cons_zero, List.set_cons_succ]
              refine wpAnyH_take (i := 28) (v := ?_) (by (simp only [List.getElem?_toArray, List.getElem?_cons_zero, List.getElem?_cons_succ]) <;> exact rfl) (by kernel_rfl) (by kernel_rfl) (by kernel_rfl) (by intro _ _ _ h; exact h) (Or.inl ⟨by rfl, ?_⟩) (by assumption) ?_
              rotate_left
              · intro w hSw
                try dsimp only at hSw
                go_simp
                try with_reducible rfl
              try simp only [Act.put, List.setIfInBounds_toArray, List.set_cons_zero, List.set_cons_succ]
              refine wpAnyH_done (by kernel_rfl) ?_ _
              go_wp2_with fail
              go_roundw
              case rel => exact ⟨k + 1, hlt, by first | exact numE HW.out | exact numE1, K11.out⟩
              case measure =>
                try rw [HW.out]
                exact measE1 hlt
            · obtain ⟨km, hkm⟩ : ∃ km, k = km + 1 := ⟨k - 1, by omega⟩
              have hg : decide ((0 : Int) < (k : Int)) = true := by rw [decide_eq_true_iff]; omega
              have hg2 : decide (0 < k) = true := by rw [decide_eq_true_iff]; omega
              obtain ⟨_, _, p, u, hpe, _, hpx, hpu, hcell'⟩ := (own_pairs HO9.out).at1 (show km < L8.length by omega)
              cases hpe
              cases hpu
              have hol : p.1 ∈ y.l := by rw [← HP9.out]; exact List.mem_map.2 ⟨p, List.mem_of_getElem? hpx, rfl⟩
              have hxp : y.l[km]? = some p.1 := by rw [← HP9.out, List.getElem?_map, hpx]; rfl
              obtain ⟨oa, on, oc, hov, hos⟩ := HR9.out p (List.mem_of_getElem? hpx)
              have hlen := HXO.out.lens p.1 hol
              obtain ⟨ob, ooff, oy, ocs, rfl, hobl, hox, hocl, hor, hocell⟩ := hos.at_ (i := 0) (by have := hos.1; omega)
              obtain ⟨rfl, _⟩ := hor
              rw [hov] at hcell'
              have hkey' : keyOf p.1 = oy := by unfold keyOf; rw [List.headD_eq_head?_getD, List.head?_eq_getElem?, hox]; rfl
              obtain ⟨zk, zn, zs⟩ := oy
              have hlc := rises_at HXO.out.rises hxp (show y.l[km + 1]? = some q.1 by rw [← hkm]; exact HXQ.out)
              rw [hkey', HKY.out] at hlc
              have HCMP := Lib.hid (fun W => cmp_less (W := W) hlc)
              have hon0 : 0 < on := by have := hos.1; omega
              have hon : (0 : Int) < (on : Int) := by omega
              have f0 := hocell 0 _ rfl
              have f1 := hocell 1 _ rfl
              have f2 := hocell 2 _ rfl
              simp only [Nat.zero_mul, Nat.add_zero] at f0 f1 f2
              have HSS := Lib.hid (show ∀ W, Below w9.heap.size w9 W → W.cell? ⟨pb, poff + k, none⟩ = some (.slice (some ⟨qb, qoff, none⟩) qn qc) ∧ W.cell? ⟨qb, qoff, none⟩ = some (.int .u8 yk) ∧ W.cell? ⟨qb, qoff + 1, none⟩ = some (.int .i64 yn) ∧ W.cell? ⟨qb, qoff + 2, none⟩ = some (.string ys) ∧ W.cell? ⟨pb, poff + km, none⟩ = some (.slice (some ⟨ob, ooff, none⟩) on oc) ∧ W.cell? ⟨ob, ooff, none⟩ = some (.int .u8 zk) ∧ W.cell? ⟨ob, ooff + 1, none⟩ = some (.int .i64 zn) ∧ W.cell? ⟨ob, ooff + 2, none⟩ = some (.string zs) from fun W h => ⟨(h.cell (p := ⟨pb, poff + k, none⟩) hpl).trans hcell, (h.cell (p := ⟨qb, qoff, none⟩) hqbl).trans d0, (h.cell (p := ⟨qb, qoff + 1, none⟩) hqbl).trans d1, (h.cell (p := ⟨qb, qoff + 2, none⟩) hqbl).trans d2, (h.cell (p := ⟨pb, poff + km, none⟩) hpl).trans hcell', (h.cell (p := ⟨ob, ooff, none⟩) hobl).trans f0, (h.cell (p := ⟨ob, ooff + 1, none⟩) hobl).trans f1, (h.cell (p := ⟨ob, ooff + 2, none⟩) hobl).trans f2⟩)
              have hkm0 : (0 : Int) ≤ (km : Int) := by omega
              have hkml : (km : Int) < (L8.length : Int) := by omega
              have hkmn : km < L8.length := by omega
              have hk1 : k ≤ 1000 := by have := HL8L.out; omega
              have hkm1 : km ≤ 1000 := by omega
              have hs2 : (k : Int) - 1 = (km : Int) := by omega
              have hsub : RowKit.wrap64 ((k : Int) - 1) = (km : Int) := wrap_pred hkm hk1
              have hs1 : IntKind.i64.wrap ((k : Int) - 1) = (km : Int) := wrap_pred1 hkm hk1
              have hs3 : RowKit.wrap64 (km : Int) = (km : Int) := (wrap_pred2 hkm1).1
              have hs4 : IntKind.i64.wrap (km : Int) = (km : Int) := (wrap_pred2 hkm1).2
              clear hk0 hcell d0 d1 d2 hcell' f0 f1 f2 hkm hkey' hos hocell hox hocl hov hlen hol hxp hlc
              go_upto_region 21 with fail
              go_region_held3 (fun W => W.cell? ⟨pb, poff + k, none⟩ = some (.slice (some ⟨qb, qoff, none⟩) qn qc) ∧ W.cell? ⟨qb, qoff, none⟩ = some (.int .u8 yk) ∧ W.cell? ⟨qb, qoff + 1, none⟩ = some (.int .i64 yn) ∧ W.cell? ⟨qb, qoff + 2, none⟩ = some (.string ys) ∧ W.cell? ⟨pb, poff + km, none⟩ = some (.slice (some ⟨ob, ooff, none⟩) on oc) ∧ W.cell? ⟨ob, ooff, none⟩ = some (.int .u8 zk) ∧ W.cell? ⟨ob, ooff + 1, none⟩ = some (.int .i64 zn) ∧ W.cell? ⟨ob, ooff + 2, none⟩ = some (.string zs))
                (first | exact HSS.out _ K12.out | exact HSS.out _ K11.out | exact HSS.out _ K10.out | exact HSS.out _ (Below.drew HBB.out))
                (first
                  | (go_at_call 24; (with_reducible refine (HSCH.out _ (Below.drew HBB.out)).mono ?_); rintro e w10 ⟨a10, n10, c10, rfl, ho10, hf10, hi10, hb10⟩; have K10 := Lib.hid (below_step (W0 := w9) (Below.drew HBB.out) hb10); have S10 := Lib.hid (SchemaPost.reads ho10 hf10 hi10); clear ho10 hf10 hi10 hb10)
                  | (go_at_call 23; (with_reducible refine (HFIT.out _ [.int .u32 (y.s.id : Int), .slice a10 n10 c10] K10.out S10.out).mono ?_); rintro e w11 ⟨rfl, hb11⟩; have K11 := Lib.hid (below_step (W0 := w9) K10.out hb11); clear hb11)
                  | (go_at_call 25; (with_reducible refine (HCMP.out _).mono ?_); rintro e w12 ⟨rfl, hb12⟩; have K12 := Lib.hid (below_step (W0 := w9) K11.out hb12); clear hb12)
                  | fail)
              all_goals go_wp2_with fail
              all_goals go_roundw
              case rel => exact ⟨k + 1, hlt, by first | exact numE HW.out | exact numE1, K12.out⟩
              case measure =>
                try rw [HW.out]
                exact measE1 hlt
end Go.Proofs.Ytlclhinianamhaa
