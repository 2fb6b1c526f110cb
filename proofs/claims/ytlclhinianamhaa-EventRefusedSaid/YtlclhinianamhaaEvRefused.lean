/- The law EventRefused. -/
import Derived.Test.YtlclhinianamhaaEvSame
namespace Go.Proofs.Ytlclhinianamhaa
open Go.RowKit Go.Deep
set_option linter.unusedVariables false
set_option linter.unusedSimpArgs false

set_option maxRecDepth 100000 in
set_option maxHeartbeats 1000000 in
theorem eventRefused (scs : List Value) (s : SchemaD) (a : Option Addr) (n c : Nat) (l : List EventD) (ecs : List Value) (e : EventD) (w : World) (hs : SchemaR w scs s) (hl : Sl 8 EventR w a n l) (he : EventR w ecs e) : Calls Try.prog 7 #[.agg scs.toArray, .slice a n c, .agg ecs.toArray] w (TruthPost w) := by
  have HSC := Lib.hid hs
  have HEV := Lib.hid he
  have HAL := Lib.hid alive_callsE
  obtain ⟨LP, hLP, hsl, hle⟩ := events_pairs hl
  have HSL := Lib.hid hsl
  have HLE := Lib.hid hle
  clear hLP hsl hle hl
  have hid : s.id < 2 ^ 32 := by obtain ⟨_, _, _, _, _, _, _, _, h⟩ := hs; exact h
  have HID := Lib.hid hid
  clear hid
  obtain ⟨fa, fn, fc, rfl, _⟩ := hs
  obtain ⟨ra, rn, rc, rfl, _⟩ := he
  have HG8 := Lib.hid (fun W h => great08 [.int .u32 (s.id : Int), .slice fa fn fc] s W h)
  have HC8 := Lib.hid (fun W h => check08 [.int .u32 (s.id : Int), .slice fa fn fc] s W h)
  have HNW := Lib.hid (fun W h => inew [.int .u32 (s.id : Int), .slice fa fn fc] s W h)
  have HWL := Lib.hid (fun W h0 h1 h2 h4 => well_calls [.int .u32 (s.id : Int), .slice fa fn fc] s a n c LP 30 w W h0 h1 h2 HLE.out (by decide) h4)
  obtain ⟨o, op, row, ⟨kk, kn, ks⟩, nm, kind⟩ := e
  have hev := HEV.out
  unfold EventD.cells at hev ⊢
  simp only [] at hev
  try simp only []
  obtain ⟨E, hE⟩ : ∃ E : EventD, E = ⟨o, op, row, ⟨kk, kn, ks⟩, nm, kind⟩ := ⟨_, rfl⟩
  rw [← hE] at hev
  clear HEV
  have HEV := Lib.hid hev
  have HOF := Lib.hid (show E.offset = o by rw [hE])
  clear hE hev
  have HGE := Lib.hid (fun W h => greatE_calls [.int .u64 (o : Int), .int .u8 (op : Int), .slice ra rn rc, .int .u8 kk, .int .i64 kn, .string ks, .string nm, .int .u8 (kind : Int)] E W h)
  have HROW := Lib.hid (fun (h : greatE E = false) => greatE_row h)
  obtain ⟨G, hG⟩ : ∃ G, greatE E = G := ⟨_, rfl⟩
  rw [hG] at HGE HROW
  obtain ⟨R, hR⟩ : ∃ R, schemaChk s = R := ⟨_, rfl⟩
  rw [hR] at HC8 HNW
  have HOK := Lib.hid (show R = 0 → StOK ⟨s, [], 0⟩ from fun h => StOK.start (hR.trans h) HID.out)
  clear hG hR
  go_enter Try.func7, Try.ntmps7
  go_wp2_with fail
  obtain ⟨W0, hWW⟩ : ∃ W0 : World, W0 = ((w.alloc (.cells #[.int .u32 (s.id : Int), .slice fa fn fc] 25)).alloc (.cells #[.int .u64 (o : Int), .int .u8 (op : Int), .slice ra rn rc, .int .u8 kk, .int .i64 kn, .string ks, .string nm, .int .u8 (kind : Int)] 32)) := ⟨_, rfl⟩
  have hm : Mem w.heap.size [#[.int .u32 (s.id : Int), .slice fa fn fc], #[.int .u64 (o : Int), .int .u8 (op : Int), .slice ra rn rc, .int .u8 kk, .int .i64 kn, .string ks, .string nm, .int .u8 (kind : Int)]] w W0 := by rw [hWW]; exact ((Mem.nil w).push (by simp) _ _).push (by simp) _ _
  rw [← hWW]
  clear hWW
  have M0 := Lib.hid hm
  clear hm
  refine (HAL.out _).mono ?_
  rintro e w1 ⟨rfl, hb1⟩
  have M1 := Lib.hid (M0.out.call hb1)
  clear hb1
  have s0 : w1.cell? ⟨w.heap.size, 0, none⟩ = some (.int .u32 (s.id : Int)) := M1.out.cell 0 0 rfl rfl
  have s1 : w1.cell? ⟨w.heap.size, 1, none⟩ = some (.slice fa fn fc) := M1.out.cell 0 1 rfl rfl
  have e0 : w1.cell? ⟨w.heap.size + 1, 0, none⟩ = some (.int .u64 (o : Int)) := M1.out.cell 1 0 rfl rfl
  have e1 : w1.cell? ⟨w.heap.size + 1, 1, none⟩ = some (.int .u8 (op : Int)) := M1.out.cell 1 1 rfl rfl
  have e2 : w1.cell? ⟨w.heap.size + 1, 2, none⟩ = some (.slice ra rn rc) := M1.out.cell 1 2 rfl rfl
  have e3 : w1.cell? ⟨w.heap.size + 1, 3, none⟩ = some (.int .u8 kk) := M1.out.cell 1 3 rfl rfl
  have e4 : w1.cell? ⟨w.heap.size + 1, 4, none⟩ = some (.int .i64 kn) := M1.out.cell 1 4 rfl rfl
  have e5 : w1.cell? ⟨w.heap.size + 1, 5, none⟩ = some (.string ks) := M1.out.cell 1 5 rfl rfl
  have e6 : w1.cell? ⟨w.heap.size + 1, 6, none⟩ = some (.string nm) := M1.out.cell 1 6 rfl rfl
  have e7 : w1.cell? ⟨w.heap.size + 1, 7, none⟩ = some (.int .u8 (kind : Int)) := M1.out.cell 1 7 rfl rfl
  go_wp2_with fail
  refine (HG8.out _ (SchemaR.stable _ _ _ _ M1.out.below HSC.out)).mono ?_
  rintro e w2 ⟨b8, rfl, hb2, _⟩
  have M2 := Lib.hid (M1.out.call hb2)
  clear s0 s1 e0 e1 e2 e3 e4 e5 e6 e7 hb2
  cases b8
  rotate_left
  · go_wp2
    go_ret
    exact ⟨rfl, M2.out.below⟩
  have s0 : w2.cell? ⟨w.heap.size, 0, none⟩ = some (.int .u32 (s.id : Int)) := M2.out.cell 0 0 rfl rfl
  have s1 : w2.cell? ⟨w.heap.size, 1, none⟩ = some (.slice fa fn fc) := M2.out.cell 0 1 rfl rfl
  have e0 : w2.cell? ⟨w.heap.size + 1, 0, none⟩ = some (.int .u64 (o : Int)) := M2.out.cell 1 0 rfl rfl
  have e1 : w2.cell? ⟨w.heap.size + 1, 1, none⟩ = some (.int .u8 (op : Int)) := M2.out.cell 1 1 rfl rfl
  have e2 : w2.cell? ⟨w.heap.size + 1, 2, none⟩ = some (.slice ra rn rc) := M2.out.cell 1 2 rfl rfl
  have e3 : w2.cell? ⟨w.heap.size + 1, 3, none⟩ = some (.int .u8 kk) := M2.out.cell 1 3 rfl rfl
  have e4 : w2.cell? ⟨w.heap.size + 1, 4, none⟩ = some (.int .i64 kn) := M2.out.cell 1 4 rfl rfl
  have e5 : w2.cell? ⟨w.heap.size + 1, 5, none⟩ = some (.string ks) := M2.out.cell 1 5 rfl rfl
  have e6 : w2.cell? ⟨w.heap.size + 1, 6, none⟩ = some (.string nm) := M2.out.cell 1 6 rfl rfl
  have e7 : w2.cell? ⟨w.heap.size + 1, 7, none⟩ = some (.int .u8 (kind : Int)) := M2.out.cell 1 7 rfl rfl
  go_wp2_with fail
  refine (HC8.out _ (SchemaR.stable _ _ _ _ M2.out.below HSC.out)).mono ?_
  rintro e w3 ⟨rfl, hb3⟩
  have M3 := Lib.hid (M2.out.call hb3)
  clear s0 s1 e0 e1 e2 e3 e4 e5 e6 e7 hb3
  by_cases hr0 : R = 0
  rotate_left
  · have hrb : (R != 0) = true := by simp [hr0]
    go_wp2
    go_ret
    exact ⟨rfl, M3.out.below⟩
  subst hr0
  have s0 : w3.cell? ⟨w.heap.size, 0, none⟩ = some (.int .u32 (s.id : Int)) := M3.out.cell 0 0 rfl rfl
  have s1 : w3.cell? ⟨w.heap.size, 1, none⟩ = some (.slice fa fn fc) := M3.out.cell 0 1 rfl rfl
  have e0 : w3.cell? ⟨w.heap.size + 1, 0, none⟩ = some (.int .u64 (o : Int)) := M3.out.cell 1 0 rfl rfl
  have e1 : w3.cell? ⟨w.heap.size + 1, 1, none⟩ = some (.int .u8 (op : Int)) := M3.out.cell 1 1 rfl rfl
  have e2 : w3.cell? ⟨w.heap.size + 1, 2, none⟩ = some (.slice ra rn rc) := M3.out.cell 1 2 rfl rfl
  have e3 : w3.cell? ⟨w.heap.size + 1, 3, none⟩ = some (.int .u8 kk) := M3.out.cell 1 3 rfl rfl
  have e4 : w3.cell? ⟨w.heap.size + 1, 4, none⟩ = some (.int .i64 kn) := M3.out.cell 1 4 rfl rfl
  have e5 : w3.cell? ⟨w.heap.size + 1, 5, none⟩ = some (.string ks) := M3.out.cell 1 5 rfl rfl
  have e6 : w3.cell? ⟨w.heap.size + 1, 6, none⟩ = some (.string nm) := M3.out.cell 1 6 rfl rfl
  have e7 : w3.cell? ⟨w.heap.size + 1, 7, none⟩ = some (.int .u8 (kind : Int)) := M3.out.cell 1 7 rfl rfl
  go_wp2_with fail
  refine (HGE.out _ (EventR.stable _ _ _ _ M3.out.below HEV.out)).mono ?_
  rintro e w4 ⟨rfl, hb4⟩
  have M4 := Lib.hid (M3.out.call hb4)
  clear s0 s1 e0 e1 e2 e3 e4 e5 e6 e7 hb4
  cases G
  rotate_left
  · go_wp2
    go_ret
    exact ⟨rfl, M4.out.below⟩
  have s0 : w4.cell? ⟨w.heap.size, 0, none⟩ = some (.int .u32 (s.id : Int)) := M4.out.cell 0 0 rfl rfl
  have s1 : w4.cell? ⟨w.heap.size, 1, none⟩ = some (.slice fa fn fc) := M4.out.cell 0 1 rfl rfl
  have e0 : w4.cell? ⟨w.heap.size + 1, 0, none⟩ = some (.int .u64 (o : Int)) := M4.out.cell 1 0 rfl rfl
  have e1 : w4.cell? ⟨w.heap.size + 1, 1, none⟩ = some (.int .u8 (op : Int)) := M4.out.cell 1 1 rfl rfl
  have e2 : w4.cell? ⟨w.heap.size + 1, 2, none⟩ = some (.slice ra rn rc) := M4.out.cell 1 2 rfl rfl
  have e3 : w4.cell? ⟨w.heap.size + 1, 3, none⟩ = some (.int .u8 kk) := M4.out.cell 1 3 rfl rfl
  have e4 : w4.cell? ⟨w.heap.size + 1, 4, none⟩ = some (.int .i64 kn) := M4.out.cell 1 4 rfl rfl
  have e5 : w4.cell? ⟨w.heap.size + 1, 5, none⟩ = some (.string ks) := M4.out.cell 1 5 rfl rfl
  have e6 : w4.cell? ⟨w.heap.size + 1, 6, none⟩ = some (.string nm) := M4.out.cell 1 6 rfl rfl
  have e7 : w4.cell? ⟨w.heap.size + 1, 7, none⟩ = some (.int .u8 (kind : Int)) := M4.out.cell 1 7 rfl rfl
  go_wp2_with fail
  refine (HNW.out _ (SchemaR.stable _ _ _ _ M4.out.below HSC.out)).mono ?_
  rintro e w5 ⟨hb5, hnew⟩
  rcases hnew with ⟨h, _⟩ | ⟨_, b, bm, rfl, hbl, hbml, hst⟩
  · exact absurd rfl h
  have M5 := Lib.hid (M4.out.call hb5)
  have HBL := Lib.hid (show w.heap.size + 2 ≤ b from Nat.le_trans M4.out.room hbl)
  have HBM := Lib.hid (show w.heap.size + 2 ≤ bm from Nat.le_trans M4.out.room hbml)
  have HST5 := Lib.hid hst
  clear s0 s1 e0 e1 e2 e3 e4 e5 e6 e7 hb5 hst hbl hbml
  have s0 : w5.cell? ⟨w.heap.size, 0, none⟩ = some (.int .u32 (s.id : Int)) := M5.out.cell 0 0 rfl rfl
  have s1 : w5.cell? ⟨w.heap.size, 1, none⟩ = some (.slice fa fn fc) := M5.out.cell 0 1 rfl rfl
  have e0 : w5.cell? ⟨w.heap.size + 1, 0, none⟩ = some (.int .u64 (o : Int)) := M5.out.cell 1 0 rfl rfl
  have e1 : w5.cell? ⟨w.heap.size + 1, 1, none⟩ = some (.int .u8 (op : Int)) := M5.out.cell 1 1 rfl rfl
  have e2 : w5.cell? ⟨w.heap.size + 1, 2, none⟩ = some (.slice ra rn rc) := M5.out.cell 1 2 rfl rfl
  have e3 : w5.cell? ⟨w.heap.size + 1, 3, none⟩ = some (.int .u8 kk) := M5.out.cell 1 3 rfl rfl
  have e4 : w5.cell? ⟨w.heap.size + 1, 4, none⟩ = some (.int .i64 kn) := M5.out.cell 1 4 rfl rfl
  have e5 : w5.cell? ⟨w.heap.size + 1, 5, none⟩ = some (.string ks) := M5.out.cell 1 5 rfl rfl
  have e6 : w5.cell? ⟨w.heap.size + 1, 6, none⟩ = some (.string nm) := M5.out.cell 1 6 rfl rfl
  have e7 : w5.cell? ⟨w.heap.size + 1, 7, none⟩ = some (.int .u8 (kind : Int)) := M5.out.cell 1 7 rfl rfl
  go_wp2_with fail
  refine (HWL.out _ M5.out.below (SchemaR.stable _ _ _ _ M5.out.below HSC.out) (HSL.out.below EvC.stable M5.out.below) (HOK.out trivial)).mono ?_
  rintro e w6 ⟨v6, WP, rfl, hown6, hwf, hwr, hwl, hb6⟩
  obtain ⟨a6, c6, rfl, hc61, hc62, hc63⟩ := own_slice hown6
  have M6 := Lib.hid (M5.out.call hb6)
  have HST6 := Lib.hid (HST5.out.call hb6)
  have HTW := Lib.hid (show ∀ k, Two b bm k → k < w5.heap.size from two_lt HST5.out)
  have HO6 := Lib.hid hown6
  have HEO := Lib.hid (show EvsOK w WP from WellPost.evs hwf hwr)
  have HWLN := Lib.hid hwl
  clear s0 s1 e0 e1 e2 e3 e4 e5 e6 e7 hb6 hown6 hwf hwr hwl hc61 hc62 hc63
  have HTB := Lib.hid (show ∀ k, Two b bm k → w.heap.size + 2 ≤ k from fun k hk => by rcases hk with rfl | rfl; exact HBL.out; exact HBM.out)
  go_wp2_with fail
  go_loopw [10] (fun i wr => ∃ (k : Nat) (x : StD), k ≤ WP.length ∧ i = .int .i64 k ∧ x.off ≤ k ∧ StOK x ∧ ImpSt (Two b bm) wr b bm x ∧ ButS (Two b bm) w6.heap.size w6 wr) (fun i _ => WP.length - (intOf i).toNat)
  case atStart => exact ⟨0, ⟨s, [], 0⟩, Nat.zero_le _, rfl, Nat.le_refl _, HOK.out trivial, HST6.out, ButS.refl (Nat.le_refl _)⟩
  case round =>
    obtain ⟨k, x, hk, rfl, hoff, hok, hst, hbu⟩ := hrel
    have HOFF := Lib.hid hoff
    have HXO := Lib.hid hok
    have HST := Lib.hid hst
    have HBU := Lib.hid hbu
    have hki : (0 : Int) ≤ (k : Int) := by omega
    clear hoff hok hst hbu
    by_cases hlt : k < WP.length
    · have hkn : (k : Int) < (WP.length : Int) := by omega
      have HW := Lib.hid (w64E hlt (show WP.length ≤ maxLen by have := HWLN.out; unfold maxLen; omega))
      obtain ⟨qb, qoff, q, u, rfl, hbl, hx, hcl, hr, hcell⟩ := (own_evs (own_butS HO6.out HBU.out HTW.out)).at_ hlt
      have hr' : u = evV q := hr
      subst hr'
      have HQM := Lib.hid (List.mem_of_getElem? hx)
      have hq := HEO.out q HQM.out
      obtain ⟨qa, qn, qc, hqv⟩ := ev_slice hq.1
      obtain ⟨⟨qo, qop, qrow, ⟨qkk, qkn, qks⟩, qnm, qkind⟩, qv⟩ := q
      obtain rfl : qv = .slice qa qn qc := hqv
      have HQ := Lib.hid hq
      have c0 := hcell 0 _ rfl
      have c1 := hcell 1 _ rfl
      have c2 := hcell 2 _ rfl
      have c3 := hcell 3 _ rfl
      have c4 := hcell 4 _ rfl
      have c5 := hcell 5 _ rfl
      have c6 := hcell 6 _ rfl
      have c7 := hcell 7 _ rfl
      simp only [Nat.add_zero] at c0
      obtain ⟨QE, hQE⟩ : ∃ QE : EventD, QE = ⟨qo, qop, qrow, ⟨qkk, qkn, qks⟩, qnm, qkind⟩ := ⟨_, rfl⟩
      have HQR := Lib.hid (show EventR wr [.int .u64 (qo : Int), .int .u8 (qop : Int), .slice qa qn qc, .int .u8 qkk, .int .i64 qkn, .string qks, .string qnm, .int .u8 (qkind : Int)] QE ∧ QE.row.length ≤ 1000 by rw [hQE]; exact HEO.out.at_ (M6.out.butS HBU.out HTB.out).below HQM.out)
      clear hcell hr hcl hx hq hQE
      go_wp2_with fail
      refine (ido_calls (Two b bm) b bm x [.int .u64 (qo : Int), .int .u8 (qop : Int), .slice qa qn qc, .int .u8 qkk, .int .i64 qkn, .string qks, .string qnm, .int .u8 (qkind : Int)] QE _ HST.out HQR.out.1 HQR.out.2 (by have := HXO.out.few; have := HOFF.out; have := HWLN.out; omega) HXO.out.lens).mono ?_
      rintro e w7 ⟨rfl, hst7, hbu7⟩
      have HST7 := Lib.hid hst7
      have HBU7 := Lib.hid (HBU.out.step hbu7 HBU.out.size)
      have HDA := Lib.hid (doS_any HXO.out HQR.out.1.ok)
      clear hst7 hbu7 c0 c1 c2 c3 c4 c5 c6 c7
      go_wp2
      go_roundw
      case rel => exact ⟨k + 1, doS x QE, hlt, by first | exact numE HW.out | exact numE1, by have := HDA.out.2; have := HOFF.out; omega, HDA.out.1, HST7.out, HBU7.out⟩
      case measure =>
        try rw [HW.out]
        exact measE1 hlt
    · have HOFK := Lib.hid (show x.off ≤ 30 by have := HOFF.out; have := HWLN.out; omega)
      have hkn : ¬ (k : Int) < (WP.length : Int) := by omega
      have MR := Lib.hid (M6.out.butS HBU.out HTB.out)
      clear HO6 HEO HST6 M6 HSL HLE HG8 HC8 HNW HWL HGE HST5
      go_wp2_with fail
      refine (irows (Two b bm) b bm x _ HST.out (by have := HXO.out.few; have := HOFK.out; omega) HXO.out.lens HXO.out.rises).mono ?_
      rintro e w8 ⟨v8, L8, rfl, hown8, hL8, hrv8, hb8⟩
      obtain ⟨a8, c8, rfl, hc81, hc82, hc83⟩ := own_slice hown8
      have M8 := Lib.hid (MR.out.call hb8)
      have HST8 := Lib.hid (HST.out.call hb8)
      have HO8 := Lib.hid hown8
      have HV8 := Lib.hid hrv8
      have HL8 := Lib.hid hL8
      have HTR := Lib.hid (show ∀ k, Two b bm k → k < wr.heap.size from two_lt HST.out)
      clear hown8 hrv8 hb8 hc81 hc82 hc83 hL8
      go_wp2_with fail
      refine (ioffset (Two b bm) b bm x _ HST8.out).mono ?_
      rintro e w8' ⟨rfl, rfl⟩
      go_wp2_with fail
      refine (ischema (Two b bm) b bm x _ HST8.out (by have := HXO.out.fields; omega)).mono ?_
      rintro e w9 ⟨a9, n9, c9, rfl, hown9, hf9, hi9, hb9⟩
      have M9 := Lib.hid (M8.out.call hb9)
      have HST9 := Lib.hid (HST8.out.call hb9)
      have HO9 := Lib.hid (own_below HO8.out hb9)
      have HV9 := Lib.hid (HV8.out.below hb9)
      have HS9 := Lib.hid hown9
      have HF9 := Lib.hid hf9
      have HTS := Lib.hid (show ∀ k, Two b bm k → k < w8'.heap.size from two_lt HST8.out)
      clear hown9 hf9 hb9 HO8 HV8 HST8 M8 HST MR
      go_upto_region 12 with fail
      obtain ⟨W10, hWW⟩ : ∃ W10 : World, W10 = w9.alloc (.cells #[.int .u32 (x.s.id : Int), .slice a9 n9 c9] 25) := ⟨_, rfl⟩
      have hb10 : Below w9.heap.size w9 W10 := by rw [hWW]; exact (Below.refl _ _).alloc (Nat.le_refl _) _
      have hx10 : Box W10 w9.heap.size #[.int .u32 (x.s.id : Int), .slice a9 n9 c9] := by rw [hWW]; exact Box.new _ _ _
      rw [← hWW]
      clear hWW
      have M10 := Lib.hid (M9.out.call hb10)
      have HST10 := Lib.hid (HST9.out.call hb10)
      have HO10 := Lib.hid (own_below HO9.out hb10)
      have HV10 := Lib.hid (HV9.out.below hb10)
      have HS10 := Lib.hid (own_below HS9.out hb10)
      have HX10 := Lib.hid hx10
      have HTN := Lib.hid (show ∀ k, Two b bm k → k < w9.heap.size from two_lt HST9.out)
      clear hb10 hx10 M9 HST9 HO9 HV9 HS9
      have s0 : W10.cell? ⟨w.heap.size, 0, none⟩ = some (.int .u32 (s.id : Int)) := M10.out.cell 0 0 rfl rfl
      have s1 : W10.cell? ⟨w.heap.size, 1, none⟩ = some (.slice fa fn fc) := M10.out.cell 0 1 rfl rfl
      have e0 : W10.cell? ⟨w.heap.size + 1, 0, none⟩ = some (.int .u64 (o : Int)) := M10.out.cell 1 0 rfl rfl
      have e1 : W10.cell? ⟨w.heap.size + 1, 1, none⟩ = some (.int .u8 (op : Int)) := M10.out.cell 1 1 rfl rfl
      have e2 : W10.cell? ⟨w.heap.size + 1, 2, none⟩ = some (.slice ra rn rc) := M10.out.cell 1 2 rfl rfl
      have e3 : W10.cell? ⟨w.heap.size + 1, 3, none⟩ = some (.int .u8 kk) := M10.out.cell 1 3 rfl rfl
      have e4 : W10.cell? ⟨w.heap.size + 1, 4, none⟩ = some (.int .i64 kn) := M10.out.cell 1 4 rfl rfl
      have e5 : W10.cell? ⟨w.heap.size + 1, 5, none⟩ = some (.string ks) := M10.out.cell 1 5 rfl rfl
      have e6 : W10.cell? ⟨w.heap.size + 1, 6, none⟩ = some (.string nm) := M10.out.cell 1 6 rfl rfl
      have e7 : W10.cell? ⟨w.heap.size + 1, 7, none⟩ = some (.int .u8 (kind : Int)) := M10.out.cell 1 7 rfl rfl
      have HE10 := Lib.hid (EventR.stable _ _ _ _ M10.out.below HEV.out)
      go_wp2_with fail
      refine (ido_calls (Two b bm) b bm x [.int .u64 (o : Int), .int .u8 (op : Int), .slice ra rn rc, .int .u8 kk, .int .i64 kn, .string ks, .string nm, .int .u8 (kind : Int)] E _ HST10.out HE10.out (by have := HROW.out trivial; omega) (by have := HXO.out.few; have := HOFK.out; omega) HXO.out.lens).mono ?_
      rintro e w11 ⟨rfl, hst11, hbu11⟩
      have M11 := Lib.hid (M10.out.butS hbu11 HTB.out)
      have HST11 := Lib.hid hst11
      have HO11 := Lib.hid (own_butS HO10.out hbu11 HTR.out)
      have HV11 := Lib.hid (HV10.out.butS hbu11 HTR.out)
      have HS11 := Lib.hid (own_butS HS10.out hbu11 HTS.out)
      have HX11 := Lib.hid (HX10.out.butS hbu11 HX10.out.lt (fun h => by have := HTN.out _ h; omega))
      clear s0 s1 e0 e1 e2 e3 e4 e5 e6 e7 hst11 hbu11 HST10 HO10 HV10 HS10 HX10 M10
      by_cases hd : doE x E = 0
      · have hdi : (doE x E == 0) = true := by rw [beq_iff_eq]; exact hd
        have hok := doE_ok hd
        have hos := (doS_ok HXO.out HE10.out.ok hd).2
        have hoo : o = x.off + 1 := by rw [← HOF.out]; exact hok.2.1
        have hwr : IntKind.u64.wrap ((x.off : Int) + 1) = (o : Int) := by rw [IntWalk.u64_in _ (by have := HOFK.out; omega), hoo]; rfl
        have hoi : ((o : Int) == (o : Int)) = true := by simp
        have e0 : w11.cell? ⟨w.heap.size + 1, 0, none⟩ = some (.int .u64 (o : Int)) := M11.out.cell 1 0 rfl rfl
        have hos' : (doS x E).off = o := hos.trans hoo.symm
        have HOS := Lib.hid hos'
        clear hos hos' hoo hok
        go_wp2_with fail
        refine (ioffset (Two b bm) b bm (doS x E) _ HST11.out).mono ?_
        rintro e w12 ⟨rfl, rfl⟩
        rw [HOS.out]
        go_wp2
        go_ret
        exact ⟨rfl, M11.out.below⟩
      · have hdi : (doE x E == 0) = false := by rw [beq_eq_false_iff_ne]; exact hd
        have HSX := Lib.hid (show ImpSt (Two b bm) w11 b bm x by rw [← doS_refused hd]; exact HST11.out)
        have hxx : ((x.off : Int) == (x.off : Int)) = true := by simp
        have HLL := Lib.hid (show x.l.length ≤ 1000 by have := HXO.out.few; have := HOFK.out; omega)
        have HL8L := Lib.hid (show L8.length ≤ 1000 by have h := congrArg List.length HL8.out; rw [List.length_map] at h; have := HLL.out; omega)
        have HOFS := Lib.hid (fun W (h : Below w11.heap.size w11 W) => ioffset (Two b bm) b bm x W (HSX.out.call h))
        have HRW := Lib.hid (fun W (h : Below w11.heap.size w11 W) => irows (Two b bm) b bm x W (HSX.out.call h) HLL.out HXO.out.lens HXO.out.rises)
        have HALL := Lib.hid (fun W (h : Below w11.heap.size w11 W) => lawAll a8 L8.length c8 L8 W (own_vpairs (own_below HO11.out h)) (HV11.out.below h).reads (HXO.out.good HL8.out) HL8L.out)
        have HSCH := Lib.hid (fun W (h : Below w11.heap.size w11 W) => ischema (Two b bm) b bm x W (HSX.out.call h) (by have := HXO.out.fields; omega))
        have HSHP := Lib.hid (fun W (h : Below w11.heap.size w11 W) => (SchemaPost.reads (own_below HS11.out h) (fun f hf => HF9.out f hf) hi9 : SchemaR W [.int .u32 (x.s.id : Int), .slice a9 n9 c9] x.s))
        have hS : ∀ W, Below w11.heap.size w11 W → W.cell? ⟨w9.heap.size, 0, none⟩ = some (.int .u32 (x.s.id : Int)) ∧ W.cell? ⟨w9.heap.size, 1, none⟩ = some (.slice a9 n9 c9) := fun W h => ⟨(HX11.out.call h).cell 0 rfl, (HX11.out.call h).cell 1 rfl⟩
        have HSS := Lib.hid hS
        clear hS hd
        go_upto_region 15 with fail
        go_region_held3 (fun W => W.cell? ⟨w9.heap.size, 0, none⟩ = some (.int .u32 (x.s.id : Int)) ∧ W.cell? ⟨w9.heap.size, 1, none⟩ = some (.slice a9 n9 c9))
          (first | exact HSS.out _ K16.out | exact HSS.out _ K15.out | exact HSS.out _ K14.out | exact HSS.out _ K13.out | exact HSS.out _ K12.out | exact HSS.out _ (Below.refl _ _).drew)
          (first
            | (go_at_call 19; (with_reducible refine (HOFS.out _ (Below.refl _ _).drew).mono ?_); rintro e w11' ⟨rfl, rfl⟩)
            | (go_at_call 21; (with_reducible refine (HRW.out _ (by first | exact K13.out | exact (Below.refl _ _).drew)).mono ?_); rintro e w12 ⟨v12, L12, rfl, hown12, hL12, hrv12, hb12⟩; obtain ⟨a12, c12, rfl, hc12⟩ := own_slice hown12; have K12 := Lib.hid (below_step (W0 := w11) (by first | exact K13.out | exact (Below.refl _ _).drew) hb12); have O12 := Lib.hid hown12; have V12 := Lib.hid hrv12; have HL12 := Lib.hid hL12; have B12 := Lib.hid hb12; clear hown12 hL12 hrv12 hb12 hc12)
            | (go_at_call 22; (with_reducible refine (HALL.out _ (by first | exact K12.out | exact (Below.refl _ _).drew)).mono ?_); rintro e w13 ⟨v13, P13, rfl, hown13, hP13, hr13, hb13⟩; obtain ⟨a13, c13, rfl, hc13⟩ := own_slice hown13; have K13 := Lib.hid (below_step (W0 := w11) (by first | exact K12.out | exact (Below.refl _ _).drew) hb13); have O13 := Lib.hid hown13; have R13 := Lib.hid hr13; have HP13 := Lib.hid (hP13.trans HL8.out); have B13 := Lib.hid hb13; clear hown13 hP13 hr13 hb13 hc13)
            | (go_at_call 20; (with_reducible refine (is_rows HXO.out HLL.out _ (own_below O12.out B13.out) (V12.out.below B13.out) HL12.out O13.out HP13.out R13.out).mono ?_); rintro e w14 ⟨rfl, hb14⟩; have K14 := Lib.hid (below_step (W0 := w11) K13.out hb14); clear hb14)
            | (go_at_call 20; (with_reducible refine (is_rows HXO.out HLL.out _ O12.out V12.out HL12.out (own_below O13.out B12.out) HP13.out (fun q hq => (R13.out q hq).below B12.out)).mono ?_); rintro e w14 ⟨rfl, hb14⟩; have K14 := Lib.hid (below_step (W0 := w11) K12.out hb14); clear hb14)
            | (go_at_call 24; (with_reducible refine (HSCH.out _ K14.out).mono ?_); rintro e w15 ⟨a15, n15, c15, rfl, ho15, hf15, hi15, hb15⟩; have K15 := Lib.hid (below_step (W0 := w11) K14.out hb15); have S15 := Lib.hid (SchemaPost.reads ho15 hf15 hi15); clear ho15 hf15 hi15 hb15)
            | (go_at_call 27; (with_reducible refine (same_calls [.int .u32 (x.s.id : Int), .slice a15 n15 c15] [.int .u32 (x.s.id : Int), .slice a9 n9 c9] x.s _ S15.out (HSHP.out _ K15.out)).mono ?_); rintro e w16 ⟨rfl, hb16⟩; have K16 := Lib.hid (below_step (W0 := w11) K15.out hb16); clear hb16)
            | fail)
        all_goals go_wp2_with fail
        all_goals go_ret
        all_goals exact ⟨rfl, (M11.out.call K16.out).below⟩
end Go.Proofs.Ytlclhinianamhaa
