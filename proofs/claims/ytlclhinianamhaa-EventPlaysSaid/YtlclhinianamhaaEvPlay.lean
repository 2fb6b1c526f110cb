/- The law EventPlays. -/
import Derived.Test.YtlclhinianamhaaEvPlayP
namespace Go.Proofs.Ytlclhinianamhaa
open Go.RowKit Go.Deep
set_option linter.unusedVariables false
set_option linter.unusedSimpArgs false

set_option maxRecDepth 100000 in
set_option maxHeartbeats 8000000 in
theorem eventPlays (scs : List Value) (s : SchemaD) (a : Option Addr) (n c : Nat) (l : List EventD) (kcs : List Value) (ask : CellD) (w : World) (hs : SchemaR w scs s) (hl : Sl 8 EventR w a n l) (hk : CellR w kcs ask) : Calls Try.prog 8 #[.agg scs.toArray, .slice a n c, .agg kcs.toArray] w (TruthPost w) := by
  have HSC := Lib.hid hs
  have HAL := Lib.hid alive_callsE
  obtain ⟨LP, hLP, hsl, hle⟩ := events_pairs hl
  have HSL := Lib.hid hsl
  have HLE := Lib.hid hle
  clear hLP hsl hle hl
  have hid : s.id < 2 ^ 32 := by obtain ⟨_, _, _, _, _, _, _, _, h⟩ := hs; exact h
  have HID := Lib.hid hid
  clear hid
  obtain ⟨fa, fn, fc, rfl, hsr⟩ := hs
  clear hsr
  obtain ⟨rfl, hkB⟩ := hk
  have hkB' : CellB ask := hkB
  obtain ⟨FC, hFC⟩ : ∃ FC, fix ask = FC := ⟨_, rfl⟩
  have HFB := Lib.hid (show CellB FC by rw [← hFC]; exact fix_B hkB')
  have HFF := Lib.hid (show fix FC = FC by rw [← hFC]; exact fix_fix ask)
  have hfx := fun W => fix_calls ask hkB.2.1.1 W
  obtain ⟨ak, an, as_⟩ := ask
  have hvl := fun W => lawValue FC HFB.out.2.1.1 W
  obtain ⟨DV, hDV⟩ : ∃ DV, goodVal FC = DV := ⟨_, rfl⟩
  have HDC := Lib.hid (show DV.cell = FC by rw [← hDV, good_cell FC HFB.out.2.1.1, HFF.out])
  obtain ⟨fk, fnn, fs⟩ := FC
  simp only [hFC, CellD.cells] at hfx
  simp only [hDV, CellD.cells] at hvl
  have HFX := Lib.hid hfx
  have HVL := Lib.hid hvl
  clear hfx hvl hFC hDV hkB hkB'
  obtain ⟨FC, hFCE⟩ : ∃ FC : CellD, FC = ⟨fk, fnn, fs⟩ := ⟨_, rfl⟩
  rw [← hFCE] at HFB HFF HDC
  have HFE := Lib.hid hFCE
  clear hFCE
  have HG8 := Lib.hid (fun W h => great08 [.int .u32 (s.id : Int), .slice fa fn fc] s W h)
  have HC8 := Lib.hid (fun W h => check08 [.int .u32 (s.id : Int), .slice fa fn fc] s W h)
  have HNW := Lib.hid (fun W h => inewAny [.int .u32 (s.id : Int), .slice fa fn fc] s W h)
  obtain ⟨R, hR⟩ : ∃ R, schemaChk s = R := ⟨_, rfl⟩
  rw [hR] at HC8 HNW
  have HOK := Lib.hid (show R = 0 → StOK ⟨s, [], 0⟩ from fun h => StOK.start (hR.trans h) HID.out)
  clear hR
  go_enter Try.func8, Try.ntmps8
  go_wp2_with fail
  obtain ⟨W0, hWW⟩ : ∃ W0 : World, W0 = ((w.alloc (.cells #[.int .u32 (s.id : Int), .slice fa fn fc] 25)).alloc (.cells #[.int .u8 ak, .int .i64 an, .string as_] 30)) := ⟨_, rfl⟩
  have hm : Mem w.heap.size [#[.int .u32 (s.id : Int), .slice fa fn fc], #[.int .u8 ak, .int .i64 an, .string as_]] w W0 := by rw [hWW]; exact ((Mem.nil w).push (by simp) _ _).push (by simp) _ _
  rw [← hWW]
  clear hWW
  have M0 := Lib.hid hm
  clear hm
  refine (HAL.out _).mono ?_
  rintro e w1 ⟨rfl, hb1⟩
  have M1 := Lib.hid (M0.out.call hb1)
  clear hb1
  have s0 : w1.cell? ⟨w.heap.size, 0, none⟩ = some (.int .u32 (s.id : Int)) := M1.out.cell 0 0 rfl rfl
  have s1 : w1.cell? ⟨w.heap.size, 1, none⟩ = some (.slice fa fn fc) := M1.out.cell 0 1 rfl rfl
  have a0 : w1.cell? ⟨w.heap.size + 1, 0, none⟩ = some (.int .u8 ak) := M1.out.cell 1 0 rfl rfl
  have a1 : w1.cell? ⟨w.heap.size + 1, 1, none⟩ = some (.int .i64 an) := M1.out.cell 1 1 rfl rfl
  have a2 : w1.cell? ⟨w.heap.size + 1, 2, none⟩ = some (.string as_) := M1.out.cell 1 2 rfl rfl
  go_wp2_with fail
  refine (HG8.out _ (SchemaR.stable _ _ _ _ M1.out.below HSC.out)).mono ?_
  rintro e w2 ⟨b8, rfl, hb2, _⟩
  have M2 := Lib.hid (M1.out.call hb2)
  clear s0 s1 a0 a1 a2
  clear hb2
  cases b8
  rotate_left
  · go_wp2
    go_ret
    exact ⟨rfl, M2.out.below⟩
  have s0 : w2.cell? ⟨w.heap.size, 0, none⟩ = some (.int .u32 (s.id : Int)) := M2.out.cell 0 0 rfl rfl
  have s1 : w2.cell? ⟨w.heap.size, 1, none⟩ = some (.slice fa fn fc) := M2.out.cell 0 1 rfl rfl
  have a0 : w2.cell? ⟨w.heap.size + 1, 0, none⟩ = some (.int .u8 ak) := M2.out.cell 1 0 rfl rfl
  have a1 : w2.cell? ⟨w.heap.size + 1, 1, none⟩ = some (.int .i64 an) := M2.out.cell 1 1 rfl rfl
  have a2 : w2.cell? ⟨w.heap.size + 1, 2, none⟩ = some (.string as_) := M2.out.cell 1 2 rfl rfl
  go_wp2_with fail
  refine (HNW.out _ (SchemaR.stable _ _ _ _ M2.out.below HSC.out)).mono ?_
  rintro e w3 ⟨hb3, hnew⟩
  have M3 := Lib.hid (M2.out.call hb3)
  clear s0 s1 a0 a1 a2
  have hRR : (R != R) = false := by simp
  rcases hnew with ⟨hr0, rfl⟩ | ⟨rfl, b, bm, rfl, hbl, hbml, hst⟩
  · have hrn : (R != 0) = true := by simp [hr0]
    clear hr0 hb3
    have s0 : w3.cell? ⟨w.heap.size, 0, none⟩ = some (.int .u32 (s.id : Int)) := M3.out.cell 0 0 rfl rfl
    have s1 : w3.cell? ⟨w.heap.size, 1, none⟩ = some (.slice fa fn fc) := M3.out.cell 0 1 rfl rfl
    have a0 : w3.cell? ⟨w.heap.size + 1, 0, none⟩ = some (.int .u8 ak) := M3.out.cell 1 0 rfl rfl
    have a1 : w3.cell? ⟨w.heap.size + 1, 1, none⟩ = some (.int .i64 an) := M3.out.cell 1 1 rfl rfl
    have a2 : w3.cell? ⟨w.heap.size + 1, 2, none⟩ = some (.string as_) := M3.out.cell 1 2 rfl rfl
    go_wp2_with fail
    refine (HC8.out _ (SchemaR.stable _ _ _ _ M3.out.below HSC.out)).mono ?_
    rintro e w4 ⟨rfl, hb4⟩
    have M4 := Lib.hid (M3.out.call hb4)
    clear s0 s1 a0 a1 a2
    clear hb4
    go_wp2
    go_ret
    exact ⟨rfl, M4.out.below⟩
  have HBL := Lib.hid (show w.heap.size + 2 ≤ b from Nat.le_trans M2.out.room hbl)
  have HBM := Lib.hid (show w.heap.size + 2 ≤ bm from Nat.le_trans M2.out.room hbml)
  have HX3 := Lib.hid (hst (Two b bm) (.inl rfl) (.inr rfl) (fun k hk => .inr hk))
  have HB23 := Lib.hid hb3
  have HS3 := Lib.hid (show w2.heap.size ≤ b ∧ w2.heap.size ≤ bm from ⟨hbl, hbml⟩)
  clear hb3 hst hbl hbml hRR
  have s0 : w3.cell? ⟨w.heap.size, 0, none⟩ = some (.int .u32 (s.id : Int)) := M3.out.cell 0 0 rfl rfl
  have s1 : w3.cell? ⟨w.heap.size, 1, none⟩ = some (.slice fa fn fc) := M3.out.cell 0 1 rfl rfl
  have a0 : w3.cell? ⟨w.heap.size + 1, 0, none⟩ = some (.int .u8 ak) := M3.out.cell 1 0 rfl rfl
  have a1 : w3.cell? ⟨w.heap.size + 1, 1, none⟩ = some (.int .i64 an) := M3.out.cell 1 1 rfl rfl
  have a2 : w3.cell? ⟨w.heap.size + 1, 2, none⟩ = some (.string as_) := M3.out.cell 1 2 rfl rfl
  go_wp2_with fail
  refine (HC8.out _ (SchemaR.stable _ _ _ _ M3.out.below HSC.out)).mono ?_
  rintro e w4 ⟨rfl, hb4⟩
  have M4 := Lib.hid (M3.out.call hb4)
  have HX4 := Lib.hid (HX3.out.call hb4)
  have HB24 := Lib.hid (below_step HB23.out hb4)
  clear s0 s1 a0 a1 a2
  clear hb4 HX3
  have s0 : w4.cell? ⟨w.heap.size, 0, none⟩ = some (.int .u32 (s.id : Int)) := M4.out.cell 0 0 rfl rfl
  have s1 : w4.cell? ⟨w.heap.size, 1, none⟩ = some (.slice fa fn fc) := M4.out.cell 0 1 rfl rfl
  have a0 : w4.cell? ⟨w.heap.size + 1, 0, none⟩ = some (.int .u8 ak) := M4.out.cell 1 0 rfl rfl
  have a1 : w4.cell? ⟨w.heap.size + 1, 1, none⟩ = some (.int .i64 an) := M4.out.cell 1 1 rfl rfl
  have a2 : w4.cell? ⟨w.heap.size + 1, 2, none⟩ = some (.string as_) := M4.out.cell 1 2 rfl rfl
  go_upto_region 11 with fail
  obtain ⟨W5, hWW⟩ : ∃ W5 : World, W5 = w4.alloc (.cells #[.int .u32 (s.id : Int), .slice fa fn fc, .slice none 0 0, .int .u64 0] 65) := ⟨_, rfl⟩
  have hb5 : Below w4.heap.size w4 W5 := by rw [hWW]; exact (Below.refl _ _).alloc (Nat.le_refl _) _
  have hx5 : Box W5 w4.heap.size #[.int .u32 (s.id : Int), .slice fa fn fc, .slice none 0 0, .int .u64 0] := by rw [hWW]; exact Box.new _ _ _
  rw [← hWW]
  clear hWW
  have HTL := Lib.hid (show ∀ k, Two b bm k → k < w4.heap.size from two_lt HX4.out)
  have HTG := Lib.hid (show ∀ k, Two b bm k → w2.heap.size ≤ k from fun k hk => by rcases hk with rfl | rfl; exact HS3.out.1; exact HS3.out.2)
  generalize hp : w4.heap.size = p at *
  have HNP := Lib.hid (show ¬ Two b bm p from fun h => by have := HTL.out p h; omega)
  have HRS5 := Lib.hid (RefSt.start (S := Tri p b bm) (w := W5) (w0 := w2) (SchemaR.stable _ _ _ _ M2.out.below HSC.out) (below_step HB24.out (hp ▸ hb5)) hx5 (.inl rfl) (fun k hk => by
    have h5 := hx5.lt
    have h24 := (hp ▸ HB24.out.size : w2.heap.size ≤ p)
    rcases hk with rfl | hk
    · exact ⟨by omega, h5⟩
    · exact ⟨HTG.out k hk, by have := HTL.out k hk; omega⟩))
  have HX5 := Lib.hid (HX4.out.plus (S' := Tri p b bm) (hp ▸ hb5) (fun k hk => by
    rcases hk with rfl | hk
    · exact .inr (by omega)
    · exact .inl hk) (fun k hk => .inr hk) (fun k hk => by
    have h5 := hx5.lt
    rcases hk with rfl | hk
    · exact h5
    · have := HTL.out k hk; omega))
  have M5 := Lib.hid (M4.out.call (hp ▸ hb5))
  have HPB := Lib.hid (show w.heap.size + 2 ≤ p from hp ▸ M4.out.room)
  have HTB := Lib.hid (show ∀ k, Tri p b bm k → w.heap.size + 2 ≤ k from fun k hk => by rcases hk with rfl | (rfl | rfl); exact HPB.out; exact HBL.out; exact HBM.out)
  clear s0 s1 a0 a1 a2
  clear hb5 hx5 hp HX4
  have s0 : W5.cell? ⟨w.heap.size, 0, none⟩ = some (.int .u32 (s.id : Int)) := M5.out.cell 0 0 rfl rfl
  have s1 : W5.cell? ⟨w.heap.size, 1, none⟩ = some (.slice fa fn fc) := M5.out.cell 0 1 rfl rfl
  have a0 : W5.cell? ⟨w.heap.size + 1, 0, none⟩ = some (.int .u8 ak) := M5.out.cell 1 0 rfl rfl
  have a1 : W5.cell? ⟨w.heap.size + 1, 1, none⟩ = some (.int .i64 an) := M5.out.cell 1 1 rfl rfl
  have a2 : W5.cell? ⟨w.heap.size + 1, 2, none⟩ = some (.string as_) := M5.out.cell 1 2 rfl rfl
  go_wp2_with fail
  refine (HFX.out _).mono ?_
  rintro e w6 ⟨rfl, hb6⟩
  have M6 := Lib.hid (M5.out.call hb6)
  have HX6 := Lib.hid (HX5.out.call hb6)
  have HRS6 := Lib.hid (HRS5.out.call hb6)
  clear s0 s1 a0 a1 a2
  clear hb6 HX5 HRS5
  go_upto_region 12 with fail
  obtain ⟨W7, hWW⟩ : ∃ W7 : World, W7 = w6.alloc (.cells #[.int .u8 fk, .int .i64 fnn, .string fs] 30) := ⟨_, rfl⟩
  have hb7 : Below w6.heap.size w6 W7 := by rw [hWW]; exact (Below.refl _ _).alloc (Nat.le_refl _) _
  have hx7 : Box W7 w6.heap.size #[.int .u8 fk, .int .i64 fnn, .string fs] := by rw [hWW]; exact Box.new _ _ _
  rw [← hWW]
  clear hWW
  have HSA := Lib.hid (show ∀ k, Tri p b bm k → k < w6.heap.size from HX6.out.slt)
  generalize ha : w6.heap.size = ha7 at *
  have M7 := Lib.hid (M6.out.call (ha ▸ hb7))
  have HX7 := Lib.hid (HX6.out.call (ha ▸ hb7))
  have HRS7 := Lib.hid (HRS6.out.call (ha ▸ hb7))
  have HA7 := Lib.hid hx7
  have HNA := Lib.hid (show ¬ Tri p b bm ha7 from fun h => by have := HSA.out _ h; omega)
  clear hb7 hx7 ha HX6 HRS6
  have HLN := Lib.hid HSL.out.1
  go_wp2_with fail
  go_loopw [11, 12, 13, 14, 15, 16] (fun i v12 v13 v14 v15 v16 wr => ∃ (k : Nat) (x : StD), k ≤ n ∧ k ≤ 60 ∧ i = .int .i64 k ∧ x.off ≤ k ∧ StOK x ∧ ImpSt (Tri p b bm) wr b bm x ∧ RefSt (Tri p b bm) wr p x ∧ ButS (Tri p b bm) W7.heap.size W7 wr) (fun i _ _ _ _ _ _ => n - (intOf i).toNat)
  case atStart => exact ⟨0, ⟨s, [], 0⟩, Nat.zero_le _, Nat.zero_le _, rfl, Nat.le_refl _, HOK.out trivial, HX7.out, HRS7.out, ButS.refl (Nat.le_refl _)⟩
  case round =>
    obtain ⟨k, x, hk, hk60, rfl, hoff, hok, hst, hrs, hbu⟩ := hrel
    have HOFF := Lib.hid hoff
    have HXO := Lib.hid hok
    have HST := Lib.hid hst
    have HRS := Lib.hid hrs
    have HBU := Lib.hid hbu
    have MR := Lib.hid (M7.out.butS hbu HTB.out)
    have hki : (0 : Int) ≤ (k : Int) := by omega
    clear hoff hok hst hrs hbu
    by_cases hlt : k < n
    rotate_left
    · have hkn : ¬ (k : Int) < (n : Int) := by omega
      go_wp2
      go_ret
      exact ⟨rfl, MR.out.below⟩
    have hkn : (k : Int) < (n : Int) := by omega
    by_cases h60 : k < 60
    rotate_left
    · have hk6 : ¬ (k : Int) < 60 := by omega
      go_wp2
      go_ret
      exact ⟨rfl, MR.out.below⟩
    have hk6 : (k : Int) < 60 := by omega
    have hw1 : RowKit.wrap64 ((k : Int) + 1) = (k : Int) + 1 := by unfold RowKit.wrap64; omega
    have HW := Lib.hid hw1
    clear hw1
    obtain ⟨qb, qoff, q, u, rfl, hbl, hx, hcl, hr, hcell⟩ := (HSL.out.below EvC.stable MR.out.below).at_ hlt
    have hr' : u = evV q := hr
    subst hr'
    have hq := HLE.out q (List.mem_of_getElem? hx)
    obtain ⟨qa, qn, qc, hqv⟩ := ev_slice hq
    obtain ⟨⟨qo, qop, qrow, ⟨qkk, qkn, qks⟩, qnm, qkind⟩, qv⟩ := q
    obtain rfl : qv = .slice qa qn qc := hqv
    have qc0 := hcell 0 _ rfl
    have qc1 := hcell 1 _ rfl
    have qc2 := hcell 2 _ rfl
    have qc3 := hcell 3 _ rfl
    have qc4 := hcell 4 _ rfl
    have qc5 := hcell 5 _ rfl
    have qc6 := hcell 6 _ rfl
    have qc7 := hcell 7 _ rfl
    simp only [Nat.add_zero] at qc0
    have HEV := Lib.hid (show EventR w [.int .u64 (qo : Int), .int .u8 (qop : Int), .slice qa qn qc, .int .u8 qkk, .int .i64 qkn, .string qks, .string qnm, .int .u8 (qkind : Int)] ⟨qo, qop, qrow, ⟨qkk, qkn, qks⟩, qnm, qkind⟩ from hq)
    have HGE := Lib.hid (fun W h => greatE_calls [.int .u64 (qo : Int), .int .u8 (qop : Int), .slice qa qn qc, .int .u8 qkk, .int .i64 qkn, .string qks, .string qnm, .int .u8 (qkind : Int)] ⟨qo, qop, qrow, ⟨qkk, qkn, qks⟩, qnm, qkind⟩ W h)
    have HROW := Lib.hid (fun (h : greatE ⟨qo, qop, qrow, ⟨qkk, qkn, qks⟩, qnm, qkind⟩ = false) => greatE_row h)
    obtain ⟨G, hG⟩ : ∃ G, greatE ⟨qo, qop, qrow, ⟨qkk, qkn, qks⟩, qnm, qkind⟩ = G := ⟨_, rfl⟩
    rw [hG] at HGE HROW
    clear hcell hr hcl hx hq hG
    go_wp2_with fail
    refine (HGE.out _ (EventR.stable _ _ _ _ MR.out.below HEV.out)).mono ?_
    rintro e w8 ⟨rfl, hb8⟩
    have M8 := Lib.hid (MR.out.call hb8)
    have HB8 := Lib.hid hb8
    cases G
    rotate_left
    · clear qc0 qc1 qc2 qc3 qc4 qc5 qc6 qc7
      go_wp2
      go_ret
      exact ⟨rfl, M8.out.below⟩
    have HRL := Lib.hid (show qrow.length ≤ 50 from HROW.out rfl)
    have HST8 := Lib.hid (HST.out.call hb8)
    have HRS8 := Lib.hid (HRS.out.call hb8)
    have HBU8 := Lib.hid (HBU.out.call hb8)
    have kc := fun (j : Nat) => hb8.cell (p := ⟨qb, qoff + k * 8 + j, none⟩) hbl
    replace qc0 := (hb8.cell (p := ⟨qb, qoff + k * 8, none⟩) hbl).trans qc0
    replace qc1 := (hb8.cell (p := ⟨qb, qoff + k * 8 + 1, none⟩) hbl).trans qc1
    replace qc2 := (hb8.cell (p := ⟨qb, qoff + k * 8 + 2, none⟩) hbl).trans qc2
    replace qc3 := (hb8.cell (p := ⟨qb, qoff + k * 8 + 3, none⟩) hbl).trans qc3
    replace qc4 := (hb8.cell (p := ⟨qb, qoff + k * 8 + 4, none⟩) hbl).trans qc4
    replace qc5 := (hb8.cell (p := ⟨qb, qoff + k * 8 + 5, none⟩) hbl).trans qc5
    replace qc6 := (hb8.cell (p := ⟨qb, qoff + k * 8 + 6, none⟩) hbl).trans qc6
    replace qc7 := (hb8.cell (p := ⟨qb, qoff + k * 8 + 7, none⟩) hbl).trans qc7
    have hbl8 : qb < w8.heap.size := Nat.lt_of_lt_of_le hbl hb8.size
    clear hb8 hbl kc HST HRS HBU HGE HROW
    go_upto_region 18 with fail
    obtain ⟨W9, hWW⟩ : ∃ W9 : World, W9 = w8.alloc (.cells #[.int .u64 (qo : Int), .int .u8 (qop : Int), .slice qa qn qc, .int .u8 qkk, .int .i64 qkn, .string qks, .string qnm, .int .u8 (qkind : Int)] 32) := ⟨_, rfl⟩
    have hb9 : Below w8.heap.size w8 W9 := by rw [hWW]; exact (Below.refl _ _).alloc (Nat.le_refl _) _
    have hx9 : Box W9 w8.heap.size #[.int .u64 (qo : Int), .int .u8 (qop : Int), .slice qa qn qc, .int .u8 qkk, .int .i64 qkn, .string qks, .string qnm, .int .u8 (qkind : Int)] := by rw [hWW]; exact Box.new _ _ _
    rw [← hWW]
    clear hWW qc0 qc1 qc2 qc3 qc4 qc5 qc6 qc7 hbl8
    have HQO := Lib.hid (show qo < 2 ^ 64 from HEV.out.ok.off)
    have HB9 := Lib.hid hb9
    have HX9 := Lib.hid hx9
    have HRS9 := Lib.hid (HRS8.out.call hb9)
    have e0 : W9.cell? ⟨w8.heap.size, 0, none⟩ = some (.int .u64 (qo : Int)) := hx9.cell 0 rfl
    have ef : ∀ j, W9.frozen? ⟨w8.heap.size, j, none⟩ = false := hx9.soft
    have hzl9 : w8.heap.size < W9.heap.size := hx9.lt
    have hqo0 : (0 : Int) ≤ (qo : Int) := by omega
    clear hb9 hx9
    go_upto_if 64 with fail
    go_cut [] (fun wx => ∃ o1 : Nat, o1 < 2 ^ 64 ∧ Box wx w8.heap.size #[.int .u64 (o1 : Int), .int .u8 (qop : Int), .slice qa qn qc, .int .u8 qkk, .int .i64 qkn, .string qks, .string qnm, .int .u8 (qkind : Int)] ∧ Below w8.heap.size w8 wx)
    case first =>
      by_cases ho : qo < 1000
      · have hoi : decide ((qo : Int) < 1000) = true := by rw [decide_eq_true_iff]; omega
        have hoj : (qo : Int) < 1000 := by omega
        obtain ⟨u1, u2, hpb⟩ := HRS9.out.box
        have p3 : W9.cell? ⟨p, 3, none⟩ = some (.int .u64 (x.off : Int)) := hpb.cell 3 rfl
        have hpl : p < W9.heap.size := hpb.lt
        obtain ⟨o1, ho1⟩ : ∃ o1, qo + x.off = o1 := ⟨_, rfl⟩
        have hwz : IntKind.u64.wrap ((qo : Int) + (x.off : Int)) = (o1 : Int) := by rw [IntWalk.u64_in _ (by have := HOFF.out; omega), ← ho1]; rfl
        have HO1 := Lib.hid (show o1 < 2 ^ 64 by have := HOFF.out; omega)
        clear ho ho1 hpb
        go_upto_region 19 with fail
        go_region
        all_goals go_wp2_with fail
        all_goals go_meet
        all_goals exact ⟨o1, HO1.out, (HX9.out.set (j := 0) (by simp) _).drew, (HB9.out.setCell (p := ⟨w8.heap.size, 0, none⟩) (Nat.le_refl _) _).drew⟩
      · have hoi : decide ((qo : Int) < 1000) = false := by rw [decide_eq_false_iff_not]; omega
        have hoj : (1000 : Int) ≤ (qo : Int) := by omega
        clear ho
        go_wp2
        go_meet
        case rel => exact ⟨qo, HQO.out, HX9.out, HB9.out⟩
    case rest =>
      obtain ⟨w10, rfl⟩ : ∃ W : World, W = wc := ⟨_, rfl⟩
      obtain ⟨o1, ho1, hx10, hb10⟩ := hcut
      have HX10 := Lib.hid hx10
      have M10 := Lib.hid (M8.out.call hb10)
      have HST10 := Lib.hid (HST8.out.call hb10)
      have HRS10 := Lib.hid (HRS8.out.call hb10)
      have HBU10 := Lib.hid (HBU8.out.call hb10)
      have HER0' := evSet HEV.out ho1
      have HRE := Lib.hid (show (setOff ⟨qo, qop, qrow, ⟨qkk, qkn, qks⟩, qnm, qkind⟩ o1).row.length ≤ 50 from HRL.out)
      have HNZ := Lib.hid (show ¬ Tri p b bm w8.heap.size from fun h => by have h1 := HX7.out.slt _ h; have h2 := HBU8.out.size; omega)
      obtain ⟨E, hE⟩ : ∃ E, setOff ⟨qo, qop, qrow, ⟨qkk, qkn, qks⟩, qnm, qkind⟩ o1 = E := ⟨_, rfl⟩
      rw [hE] at HER0' HRE
      have HER0 := Lib.hid HER0'
      have HXY := doS_any HXO.out HER0'.ok
      obtain ⟨X, hX⟩ : ∃ X, doS x E = X := ⟨_, rfl⟩
      rw [hX] at HXY
      obtain ⟨r, hr⟩ : ∃ r, doE x E = r := ⟨_, rfl⟩
      have HX := Lib.hid hX
      have HR := Lib.hid hr
      have HXA := Lib.hid HXY
      have hrr : (r != r) = false := by simp
      have hoo : ((X.off : Int) != (X.off : Int)) = false := by simp
      have HLL := Lib.hid (show x.l.length ≤ 1000 by have := HXO.out.few; have := HOFF.out; omega)
      have HLX := Lib.hid (show X.l.length ≤ 1000 by have := HXY.1.few; have := HXY.2; have := HOFF.out; omega)
      have HIP := Lib.hid (show ¬ Two b bm p ∧ ¬ One p b ∧ ¬ One p bm from ⟨HNP.out, fun h => HNP.out (.inl h.symm), fun h => HNP.out (.inr h.symm)⟩)
      have HSZ := Lib.hid (fun W (h : ButS (Tri p b bm) w10.heap.size w10 W) => (⟨(HX10.out.butS h HX10.out.lt HNZ.out).cell 0 rfl, (HX10.out.butS h HX10.out.lt HNZ.out).cell 1 rfl, (HX10.out.butS h HX10.out.lt HNZ.out).cell 2 rfl, (HX10.out.butS h HX10.out.lt HNZ.out).cell 3 rfl, (HX10.out.butS h HX10.out.lt HNZ.out).cell 4 rfl, (HX10.out.butS h HX10.out.lt HNZ.out).cell 5 rfl, (HX10.out.butS h HX10.out.lt HNZ.out).cell 6 rfl, (HX10.out.butS h HX10.out.lt HNZ.out).cell 7 rfl⟩ : W.cell? ⟨w8.heap.size, 0, none⟩ = some (.int .u64 (o1 : Int)) ∧ W.cell? ⟨w8.heap.size, 1, none⟩ = some (.int .u8 (qop : Int)) ∧ W.cell? ⟨w8.heap.size, 2, none⟩ = some (.slice qa qn qc) ∧ W.cell? ⟨w8.heap.size, 3, none⟩ = some (.int .u8 qkk) ∧ W.cell? ⟨w8.heap.size, 4, none⟩ = some (.int .i64 qkn) ∧ W.cell? ⟨w8.heap.size, 5, none⟩ = some (.string qks) ∧ W.cell? ⟨w8.heap.size, 6, none⟩ = some (.string qnm) ∧ W.cell? ⟨w8.heap.size, 7, none⟩ = some (.int .u8 (qkind : Int))))
      have HDX := Lib.hid (fun W (h : ButS (Tri p b bm) w10.heap.size w10 W) (hst : ImpSt (Tri p b bm) W b bm x) => ido_calls (Tri p b bm) b bm x [.int .u64 (o1 : Int), .int .u8 (qop : Int), .slice qa qn qc, .int .u8 qkk, .int .i64 qkn, .string qks, .string qnm, .int .u8 (qkind : Int)] E W hst (EventR.stable _ _ _ _ (M10.out.butS h HTB.out).below HER0.out) (by have := HRE.out; omega) HLL.out HXO.out.lens)
      have HDY := Lib.hid (fun W (h : ButS (Tri p b bm) w10.heap.size w10 W) (hst : RefSt (Tri p b bm) W p x) => refdo_calls (Tri p b bm) p x [.int .u64 (o1 : Int), .int .u8 (qop : Int), .slice qa qn qc, .int .u8 qkk, .int .i64 qkn, .string qks, .string qnm, .int .u8 (qkind : Int)] E W hst (EventR.stable _ _ _ _ (M10.out.butS h HTB.out).below HER0.out) (by have := HRE.out; omega) HLL.out HXO.out.lens)
      have HDR := Lib.hid (show ButS (Tri p b bm) w10.heap.size w10 w10.drew from (ButS.refl (Nat.le_refl _)).call (Below.refl _ _).drew)
      have HSTD := Lib.hid (HST10.out.call (Below.refl _ _).drew)
      have HRSD := Lib.hid (HRS10.out.call (Below.refl _ _).drew)
      clear hx10 hb10 HER0' hE hX hr HXY ho1 e0 ef hzl9 HX9 HB9 HRS9
      go_upto_region 20 with fail
      refine wp_region_held_drew (S := fun W => W.cell? ⟨w8.heap.size, 0, none⟩ = some (.int .u64 (o1 : Int)) ∧ W.cell? ⟨w8.heap.size, 1, none⟩ = some (.int .u8 (qop : Int)) ∧ W.cell? ⟨w8.heap.size, 2, none⟩ = some (.slice qa qn qc) ∧ W.cell? ⟨w8.heap.size, 3, none⟩ = some (.int .u8 qkk) ∧ W.cell? ⟨w8.heap.size, 4, none⟩ = some (.int .i64 qkn) ∧ W.cell? ⟨w8.heap.size, 5, none⟩ = some (.string qks) ∧ W.cell? ⟨w8.heap.size, 6, none⟩ = some (.string qnm) ∧ W.cell? ⟨w8.heap.size, 7, none⟩ = some (.int .u8 (qkind : Int))) (by kernel_rfl) (HSZ.out _ HDR.out) (fun hHeld => ?_)
      refine wpAnyH_take (i := 0) (v := ?_) (by (simp only [List.getElem?_toArray, List.getElem?_cons_zero, List.getElem?_cons_succ]) <;> exact rfl) (by kernel_rfl) (by kernel_rfl) (by kernel_rfl) (by intro _ _ _ h; exact h) (Or.inl ⟨by rfl, ?_⟩) (by assumption) ?_
      rotate_left
      · intro w hSw
        try dsimp only at hSw
        go_simp
        try with_reducible rfl
      try simp only [Act.put, List.setIfInBounds_toArray, List.set_cons_zero, List.set_cons_succ]
      refine wpAnyH_take (i := 1) (v := ?_) (by (simp only [List.getElem?_toArray, List.getElem?_cons_zero, List.getElem?_cons_succ]) <;> exact rfl) (by kernel_rfl) (by kernel_rfl) (by kernel_rfl) (by intro _ _ _ h; exact h) (Or.inl ⟨by rfl, ?_⟩) (by assumption) ?_
      rotate_left
      · intro w hSw
        try dsimp only at hSw
        go_simp
        try with_reducible rfl
      try simp only [Act.put, List.setIfInBounds_toArray, List.set_cons_zero, List.set_cons_succ]
      refine wpAnyH_take (i := 3) (v := ?_) (by (simp only [List.getElem?_toArray, List.getElem?_cons_zero, List.getElem?_cons_succ]) <;> exact rfl) (by kernel_rfl) (by kernel_rfl) (by kernel_rfl) (by intro _ _ _ h; exact h) (Or.inl ⟨by rfl, ?_⟩) (by assumption) ?_
      rotate_left
      · intro w hSw
        try dsimp only at hSw
        go_simp
        try with_reducible rfl
      try simp only [Act.put, List.setIfInBounds_toArray, List.set_cons_zero, List.set_cons_succ]
      refine wpAnyH_take (i := 4) (v := ?_) (by (simp only [List.getElem?_toArray, List.getElem?_cons_zero, List.getElem?_cons_succ]) <;> exact rfl) (by kernel_rfl) (by kernel_rfl) (by kernel_rfl) (by intro _ _ _ h; exact h) (Or.inl ⟨by rfl, ?_⟩) (by assumption) ?_
      rotate_left
      · intro w hSw
        try dsimp only at hSw
        go_simp
        try with_reducible rfl
      try simp only [Act.put, List.setIfInBounds_toArray, List.set_cons_zero, List.set_cons_succ]
      refine wpAnyH_ready (rs := [2]) (by kernel_rfl) (by simp) ?_
      refine AllReadyH.cons (by (simp only [List.getElem?_toArray, List.getElem?_cons_zero, List.getElem?_cons_succ]) <;> exact rfl) (fun K hK => ?_) ?_
      rotate_left
      exact AllReadyH.nil
      go_simp
      refine (HDX.out _ HDR.out HSTD.out).mono ?_
      rintro e w11 ⟨he11, hst11, hbu11⟩
      rw [HR.out] at he11
      subst he11
      rw [HX.out] at hst11
      have K11 := Lib.hid (show ButS (Tri p b bm) w10.heap.size w10 w11 from HDR.out.step (hbu11.mono (fun k _ hk => .inr hk)) HDR.out.size)
      have HST11 := Lib.hid hst11
      have HRS11 := Lib.hid (HRSD.out.other hbu11 (fun k hk => .inr hk) HIP.out.1)
      clear hst11 hbu11
      try dsimp only
      refine hK.out _ _ (HSZ.out _ K11.out) (fun hHeld => ?_)
      clear hK K
      try simp only [Act.put, List.setIfInBounds_toArray, List.set_cons_zero, List.set_cons_succ]
      refine wpAnyH_ready (rs := [5]) (by kernel_rfl) (by simp) ?_
      refine AllReadyH.cons (by (simp only [List.getElem?_toArray, List.getElem?_cons_zero, List.getElem?_cons_succ]) <;> exact rfl) (fun K hK => ?_) ?_
      rotate_left
      exact AllReadyH.nil
      go_simp
      refine (HDY.out _ K11.out HRS11.out).mono ?_
      rintro e w12 ⟨he12, hrs12, hbu12⟩
      rw [HR.out] at he12
      subst he12
      rw [HX.out] at hrs12
      have K12 := Lib.hid (show ButS (Tri p b bm) w10.heap.size w10 w12 from K11.out.step (hbu12.s (.inl rfl)) K11.out.size)
      have HST12 := Lib.hid (HST11.out.other (hbu12.s (S := One p) rfl) (fun k hk => .inl hk) HIP.out.2.1 HIP.out.2.2)
      have HRS12 := Lib.hid hrs12
      clear hrs12 hbu12 HST11 HRS11 K11
      try dsimp only
      refine hK.out _ _ (HSZ.out _ K12.out) (fun hHeld => ?_)
      clear hK K
      try simp only [Act.put, List.setIfInBounds_toArray, List.set_cons_zero, List.set_cons_succ]
      obtain ⟨ra, rn, rc, la, ln, lc, P, hrb⟩ := HRS12.out
      have HRB := Lib.hid hrb
      have HSS := Lib.hid (fun W (h : Below w12.heap.size w12 W) => (⟨HSZ.out _ (K12.out.call h), (HRB.out.box.call h).cell 0 rfl, (HRB.out.box.call h).cell 1 rfl, (HRB.out.box.call h).cell 2 rfl, (HRB.out.box.call h).cell 3 rfl⟩ : (W.cell? ⟨w8.heap.size, 0, none⟩ = some (.int .u64 (o1 : Int)) ∧ W.cell? ⟨w8.heap.size, 1, none⟩ = some (.int .u8 (qop : Int)) ∧ W.cell? ⟨w8.heap.size, 2, none⟩ = some (.slice qa qn qc) ∧ W.cell? ⟨w8.heap.size, 3, none⟩ = some (.int .u8 qkk) ∧ W.cell? ⟨w8.heap.size, 4, none⟩ = some (.int .i64 qkn) ∧ W.cell? ⟨w8.heap.size, 5, none⟩ = some (.string qks) ∧ W.cell? ⟨w8.heap.size, 6, none⟩ = some (.string qnm) ∧ W.cell? ⟨w8.heap.size, 7, none⟩ = some (.int .u8 (qkind : Int))) ∧ W.cell? ⟨p, 0, none⟩ = some (.int .u32 (X.s.id : Int)) ∧ W.cell? ⟨p, 1, none⟩ = some (.slice ra rn rc) ∧ W.cell? ⟨p, 2, none⟩ = some (.slice la ln lc) ∧ W.cell? ⟨p, 3, none⟩ = some (.int .u64 (X.off : Int))))
      have HRW := Lib.hid (fun W (h : Below w12.heap.size w12 W) => irows (Tri p b bm) b bm X W (HST12.out.call h) HLX.out HXA.out.1.lens HXA.out.1.rises)
      have HSCH := Lib.hid (fun W (h : Below w12.heap.size w12 W) => ischema (Tri p b bm) b bm X W (HST12.out.call h) (by have := HXA.out.1.fields; omega))
      have hHeld2 := HSS.out _ (Below.refl _ _)
      refine wpAnyH_mono (S' := fun W => (W.cell? ⟨w8.heap.size, 0, none⟩ = some (.int .u64 (o1 : Int)) ∧ W.cell? ⟨w8.heap.size, 1, none⟩ = some (.int .u8 (qop : Int)) ∧ W.cell? ⟨w8.heap.size, 2, none⟩ = some (.slice qa qn qc) ∧ W.cell? ⟨w8.heap.size, 3, none⟩ = some (.int .u8 qkk) ∧ W.cell? ⟨w8.heap.size, 4, none⟩ = some (.int .i64 qkn) ∧ W.cell? ⟨w8.heap.size, 5, none⟩ = some (.string qks) ∧ W.cell? ⟨w8.heap.size, 6, none⟩ = some (.string qnm) ∧ W.cell? ⟨w8.heap.size, 7, none⟩ = some (.int .u8 (qkind : Int))) ∧ W.cell? ⟨p, 0, none⟩ = some (.int .u32 (X.s.id : Int)) ∧ W.cell? ⟨p, 1, none⟩ = some (.slice ra rn rc) ∧ W.cell? ⟨p, 2, none⟩ = some (.slice la ln lc) ∧ W.cell? ⟨p, 3, none⟩ = some (.int .u64 (X.off : Int))) (fun W h => h.1) _ _ _ _ ?_
      clear hrb
      refine wpAnyH_take (i := 6) (v := ?_) (by (simp only [List.getElem?_toArray, List.getElem?_cons_zero, List.getElem?_cons_succ]) <;> exact rfl) (by kernel_rfl) (by kernel_rfl) (by kernel_rfl) (by intro _ _ _ h; exact h) (Or.inl ⟨by rfl, ?_⟩) (by assumption) ?_
      rotate_left
      · intro w hSw
        try dsimp only at hSw
        go_simp
        try with_reducible rfl
      try simp only [Act.put, List.setIfInBounds_toArray, List.set_cons_zero, List.set_cons_succ]
      refine wpAnyH_take (i := 7) (v := ?_) (by (simp only [List.getElem?_toArray, List.getElem?_cons_zero, List.getElem?_cons_succ]) <;> exact rfl) (by kernel_rfl) (by kernel_rfl) (by kernel_rfl) (by intro _ _ _ h; exact h) (Or.inl ⟨by rfl, ?_⟩) (by assumption) ?_
      rotate_left
      · intro w hSw
        try dsimp only at hSw
        go_simp
        try with_reducible rfl
      try simp only [Act.put, List.setIfInBounds_toArray, List.set_cons_zero, List.set_cons_succ]
      refine wpAnyH_take (i := 8) (v := ?_) (by (simp only [List.getElem?_toArray, List.getElem?_cons_zero, List.getElem?_cons_succ]) <;> exact rfl) (by kernel_rfl) (by kernel_rfl) (by kernel_rfl) (by intro _ _ _ h; exact h) (Or.inl ⟨by rfl, ?_⟩) (by assumption) ?_
      rotate_left
      · intro w hSw
        try dsimp only at hSw
        go_simp
        try with_reducible rfl
      try simp only [Act.put, List.setIfInBounds_toArray, List.set_cons_zero, List.set_cons_succ]
      refine wpAnyH_take (i := 10) (v := ?_) (by (simp only [List.getElem?_toArray, List.getElem?_cons_zero, List.getElem?_cons_succ]) <;> exact rfl) (by kernel_rfl) (by kernel_rfl) (by kernel_rfl) (by intro _ _ _ h; exact h) (Or.inl ⟨by rfl, ?_⟩) (by assumption) ?_
      rotate_left
      · intro w hSw
        try dsimp only at hSw
        go_simp
        try with_reducible rfl
      try simp only [Act.put, List.setIfInBounds_toArray, List.set_cons_zero, List.set_cons_succ]
      refine wpAnyH_take (i := 11) (v := ?_) (by (simp only [List.getElem?_toArray, List.getElem?_cons_zero, List.getElem?_cons_succ]) <;> exact rfl) (by kernel_rfl) (by kernel_rfl) (by kernel_rfl) (by intro _ _ _ h; exact h) (Or.inl ⟨by rfl, ?_⟩) (by assumption) ?_
      rotate_left
      · intro w hSw
        try dsimp only at hSw
        go_simp
        try with_reducible rfl
      try simp only [Act.put, List.setIfInBounds_toArray, List.set_cons_zero, List.set_cons_succ]
      refine wpAnyH_take (i := 12) (v := ?_) (by (simp only [List.getElem?_toArray, List.getElem?_cons_zero, List.getElem?_cons_succ]) <;> exact rfl) (by kernel_rfl) (by kernel_rfl) (by kernel_rfl) (by intro _ _ _ h; exact h) (Or.inl ⟨by rfl, ?_⟩) (by assumption) ?_
      rotate_left
      · intro w hSw
        try dsimp only at hSw
        go_simp
        try with_reducible rfl
      try simp only [Act.put, List.setIfInBounds_toArray, List.set_cons_zero, List.set_cons_succ]
      refine wpAnyH_take (i := 13) (v := ?_) (by (simp only [List.getElem?_toArray, List.getElem?_cons_zero, List.getElem?_cons_succ]) <;> exact rfl) (by kernel_rfl) (by kernel_rfl) (by kernel_rfl) (by intro _ _ _ h; exact h) (Or.inl ⟨by rfl, ?_⟩) (by assumption) ?_
      rotate_left
      · intro w hSw
        try dsimp only at hSw
        go_simp
        try with_reducible rfl
      try simp only [Act.put, List.setIfInBounds_toArray, List.set_cons_zero, List.set_cons_succ]
      refine wpAnyH_ready (rs := [9]) (by kernel_rfl) (by simp) ?_
      refine AllReadyH.cons (by (simp only [List.getElem?_toArray, List.getElem?_cons_zero, List.getElem?_cons_succ]) <;> exact rfl) (fun K hK => ?_) ?_
      rotate_left
      exact AllReadyH.nil
      go_simp
      refine (ioffset (Tri p b bm) b bm X _ HST12.out).mono ?_
      rintro e w13 ⟨rfl, hw13⟩
      have hw13' := hw13.symm
      subst hw13'
      try dsimp only
      refine hK.out _ _ (HSS.out _ (Below.refl _ _)) (fun hHeld => ?_)
      clear hK K
      try simp only [Act.put, List.setIfInBounds_toArray, List.set_cons_zero, List.set_cons_succ]
      refine wpAnyH_take (i := 14) (v := ?_) (by (simp only [List.getElem?_toArray, List.getElem?_cons_zero, List.getElem?_cons_succ]) <;> exact rfl) (by kernel_rfl) (by kernel_rfl) (by kernel_rfl) (by intro _ _ _ h; exact h) (Or.inl ⟨by rfl, ?_⟩) (by assumption) ?_
      rotate_left
      · intro w hSw
        try dsimp only at hSw
        go_simp
        try with_reducible rfl
      try simp only [Act.put, List.setIfInBounds_toArray, List.set_cons_zero, List.set_cons_succ]
      refine wpAnyH_take (i := 15) (v := ?_) (by (simp only [List.getElem?_toArray, List.getElem?_cons_zero, List.getElem?_cons_succ]) <;> exact rfl) (by kernel_rfl) (by kernel_rfl) (by kernel_rfl) (by intro _ _ _ h; exact h) (Or.inl ⟨by rfl, ?_⟩) (by assumption) ?_
      rotate_left
      · intro w hSw
        try dsimp only at hSw
        go_simp
        try with_reducible rfl
      try simp only [Act.put, List.setIfInBounds_toArray, List.set_cons_zero, List.set_cons_succ]
      refine wpAnyH_take (i := 16) (v := ?_) (by (simp only [List.getElem?_toArray, List.getElem?_cons_zero, List.getElem?_cons_succ]) <;> exact rfl) (by kernel_rfl) (by kernel_rfl) (by kernel_rfl) (by intro _ _ _ h; exact h) (Or.inl ⟨by rfl, ?_⟩) (by assumption) ?_
      rotate_left
      · intro w hSw
        try dsimp only at hSw
        go_simp
        try with_reducible rfl
      try simp only [Act.put, List.setIfInBounds_toArray, List.set_cons_zero, List.set_cons_succ]
      refine wpAnyH_take (i := 17) (v := ?_) (by (simp only [List.getElem?_toArray, List.getElem?_cons_zero, List.getElem?_cons_succ]) <;> exact rfl) (by kernel_rfl) (by kernel_rfl) (by kernel_rfl) (by intro _ _ _ h; exact h) (Or.inl ⟨by rfl, ?_⟩) (by assumption) ?_
      rotate_left
      · intro w hSw
        try dsimp only at hSw
        go_simp
        try with_reducible rfl
      try simp only [Act.put, List.setIfInBounds_toArray, List.set_cons_zero, List.set_cons_succ]
      refine wpAnyH_take (i := 19) (v := ?_) (by (simp only [List.getElem?_toArray, List.getElem?_cons_zero, List.getElem?_cons_succ]) <;> exact rfl) (by kernel_rfl) (by kernel_rfl) (by kernel_rfl) (by intro _ _ _ h; exact h) (Or.inl ⟨by rfl, ?_⟩) (by assumption) ?_
      rotate_left
      · intro w hSw
        try dsimp only at hSw
        go_simp
        try with_reducible rfl
      try simp only [Act.put, List.setIfInBounds_toArray, List.set_cons_zero, List.set_cons_succ]
      refine wpAnyH_take (i := 20) (v := ?_) (by (simp only [List.getElem?_toArray, List.getElem?_cons_zero, List.getElem?_cons_succ]) <;> exact rfl) (by kernel_rfl) (by kernel_rfl) (by kernel_rfl) (by intro _ _ _ h; exact h) (Or.inl ⟨by rfl, ?_⟩) (by assumption) ?_
      rotate_left
      · intro w hSw
        try dsimp only at hSw
        go_simp
        try with_reducible rfl
      try simp only [Act.put, List.setIfInBounds_toArray, List.set_cons_zero, List.set_cons_succ]
      refine wpAnyH_take (i := 21) (v := ?_) (by (simp only [List.getElem?_toArray, List.getElem?_cons_zero, List.getElem?_cons_succ]) <;> exact rfl) (by kernel_rfl) (by kernel_rfl) (by kernel_rfl) (by intro _ _ _ h; exact h) (Or.inl ⟨by rfl, ?_⟩) (by assumption) ?_
      rotate_left
      · intro w hSw
        try dsimp only at hSw
        go_simp
        try with_reducible rfl
      try simp only [Act.put, List.setIfInBounds_toArray, List.set_cons_zero, List.set_cons_succ]
      refine wpAnyH_take (i := 22) (v := ?_) (by (simp only [List.getElem?_toArray, List.getElem?_cons_zero, List.getElem?_cons_succ]) <;> exact rfl) (by kernel_rfl) (by kernel_rfl) (by kernel_rfl) (by intro _ _ _ h; exact h) (Or.inl ⟨by rfl, ?_⟩) (by assumption) ?_
      rotate_left
      · intro w hSw
        try dsimp only at hSw
        go_simp
        try with_reducible rfl
      try simp only [Act.put, List.setIfInBounds_toArray, List.set_cons_zero, List.set_cons_succ]
      refine wpAnyH_ready (rs := [18]) (by kernel_rfl) (by simp) ?_
      refine AllReadyH.cons (by (simp only [List.getElem?_toArray, List.getElem?_cons_zero, List.getElem?_cons_succ]) <;> exact rfl) (fun K hK => ?_) ?_
      rotate_left
      exact AllReadyH.nil
      go_simp
      refine (HSCH.out _ (Below.refl _ _)).mono ?_
      rintro e w15 ⟨a15, n15, c15, rfl, ho15, hf15, hi15, hb15⟩
      have K15 := Lib.hid hb15
      have S15 := Lib.hid (SchemaPost.reads ho15 hf15 hi15)
      clear ho15 hf15 hi15 hb15
      try dsimp only
      refine hK.out _ _ (HSS.out _ K15.out) (fun hHeld => ?_)
      clear hK K
      try simp only [Act.put, List.setIfInBounds_toArray, List.set_cons_zero, List.set_cons_succ]
      refine wpAnyH_ready (rs := [23]) (by kernel_rfl) (by simp) ?_
      refine AllReadyH.cons (by (simp only [List.getElem?_toArray, List.getElem?_cons_zero, List.getElem?_cons_succ]) <;> exact rfl) (fun K hK => ?_) ?_
      rotate_left
      exact AllReadyH.nil
      go_simp
      refine (same_calls [.int .u32 (X.s.id : Int), .slice a15 n15 c15] [.int .u32 (X.s.id : Int), .slice ra rn rc] X.s _ S15.out (HRB.out.call K15.out).schema).mono ?_
      rintro e w16 ⟨rfl, hb16⟩
      have K16 := Lib.hid (below_step (W0 := w12) K15.out hb16)
      clear hb16
      try dsimp only
      refine hK.out _ _ (HSS.out _ K16.out) (fun hHeld => ?_)
      clear hK K
      try simp only [Act.put, List.setIfInBounds_toArray, List.set_cons_zero, List.set_cons_succ]
      refine wpAnyH_take (i := 24) (v := ?_) (by (simp only [List.getElem?_toArray, List.getElem?_cons_zero, List.getElem?_cons_succ]) <;> exact rfl) (by kernel_rfl) (by kernel_rfl) (by kernel_rfl) (by intro _ _ _ h; exact h) (Or.inl ⟨by rfl, ?_⟩) (by assumption) ?_
      rotate_left
      · intro w hSw
        try dsimp only at hSw
        go_simp
        try with_reducible rfl
      try simp only [Act.put, List.setIfInBounds_toArray, List.set_cons_zero, List.set_cons_succ]
      refine wpAnyH_take (i := 25) (v := ?_) (by (simp only [List.getElem?_toArray, List.getElem?_cons_zero, List.getElem?_cons_succ]) <;> exact rfl) (by kernel_rfl) (by kernel_rfl) (by kernel_rfl) (by intro _ _ _ h; exact h) (Or.inl ⟨by rfl, ?_⟩) (by assumption) ?_
      rotate_left
      · intro w hSw
        try dsimp only at hSw
        go_simp
        try with_reducible rfl
      try simp only [Act.put, List.setIfInBounds_toArray, List.set_cons_zero, List.set_cons_succ]
      refine wpAnyH_take (i := 26) (v := ?_) (by (simp only [List.getElem?_toArray, List.getElem?_cons_zero, List.getElem?_cons_succ]) <;> exact rfl) (by kernel_rfl) (by kernel_rfl) (by kernel_rfl) (by intro _ _ _ h; exact h) (Or.inl ⟨by rfl, ?_⟩) (by assumption) ?_
      rotate_left
      · intro w hSw
        try dsimp only at hSw
        go_simp
        try with_reducible rfl
      try simp only [Act.put, List.setIfInBounds_toArray, List.set_cons_zero, List.set_cons_succ]
      refine wpAnyH_take (i := 27) (v := ?_) (by (simp only [List.getElem?_toArray, List.getElem?_cons_zero, List.getElem?_cons_succ]) <;> exact rfl) (by kernel_rfl) (by kernel_rfl) (by kernel_rfl) (by intro _ _ _ h; exact h) (Or.inl ⟨by rfl, ?_⟩) (by assumption) ?_
      rotate_left
      · intro w hSw
        try dsimp only at hSw
        go_simp
        try with_reducible rfl
      try simp only [Act.put, List.setIfInBounds_toArray, List.set_cons_zero, List.set_cons_succ]
      refine wpAnyH_take (i := 29) (v := ?_) (by (simp only [List.getElem?_toArray, List.getElem?_cons_zero, List.getElem?_cons_succ]) <;> exact rfl) (by kernel_rfl) (by kernel_rfl) (by kernel_rfl) (by intro _ _ _ h; exact h) (Or.inl ⟨by rfl, ?_⟩) (by assumption) ?_
      rotate_left
      · intro w hSw
        try dsimp only at hSw
        go_simp
        try with_reducible rfl
      try simp only [Act.put, List.setIfInBounds_toArray, List.set_cons_zero, List.set_cons_succ]
      refine wpAnyH_take (i := 30) (v := ?_) (by (simp only [List.getElem?_toArray, List.getElem?_cons_zero, List.getElem?_cons_succ]) <;> exact rfl) (by kernel_rfl) (by kernel_rfl) (by kernel_rfl) (by intro _ _ _ h; exact h) (Or.inl ⟨by rfl, ?_⟩) (by assumption) ?_
      rotate_left
      · intro w hSw
        try dsimp only at hSw
        go_simp
        try with_reducible rfl
      try simp only [Act.put, List.setIfInBounds_toArray, List.set_cons_zero, List.set_cons_succ]
      refine wpAnyH_take (i := 31) (v := ?_) (by (simp only [List.getElem?_toArray, List.getElem?_cons_zero, List.getElem?_cons_succ]) <;> exact rfl) (by kernel_rfl) (by kernel_rfl) (by kernel_rfl) (by intro _ _ _ h; exact h) (Or.inl ⟨by rfl, ?_⟩) (by assumption) ?_
      rotate_left
      · intro w hSw
        try dsimp only at hSw
        go_simp
        try with_reducible rfl
      try simp only [Act.put, List.setIfInBounds_toArray, List.set_cons_zero, List.set_cons_succ]
      refine wpAnyH_take (i := 32) (v := ?_) (by (simp only [List.getElem?_toArray, List.getElem?_cons_zero, List.getElem?_cons_succ]) <;> exact rfl) (by kernel_rfl) (by kernel_rfl) (by kernel_rfl) (by intro _ _ _ h; exact h) (Or.inl ⟨by rfl, ?_⟩) (by assumption) ?_
      rotate_left
      · intro w hSw
        try dsimp only at hSw
        go_simp
        try with_reducible rfl
      try simp only [Act.put, List.setIfInBounds_toArray, List.set_cons_zero, List.set_cons_succ]
      refine wpAnyH_ready (rs := [28]) (by kernel_rfl) (by simp) ?_
      refine AllReadyH.cons (by (simp only [List.getElem?_toArray, List.getElem?_cons_zero, List.getElem?_cons_succ]) <;> exact rfl) (fun K hK => ?_) ?_
      rotate_left
      exact AllReadyH.nil
      go_simp
      refine (HRW.out _ K16.out).mono ?_
      rintro e w17 ⟨v17, L17, rfl, hown17, hL17, hrv17, hb17⟩
      obtain ⟨a17, c17, rfl, hc17⟩ := own_slice hown17
      have K17 := Lib.hid (below_step (W0 := w12) K16.out hb17)
      have O17 := Lib.hid hown17
      have V17 := Lib.hid hrv17
      have HL17 := Lib.hid hL17
      clear hown17 hL17 hrv17 hb17 hc17
      try dsimp only
      refine hK.out _ _ (HSS.out _ K17.out) (fun hHeld => ?_)
      clear hK K
      try simp only [Act.put, List.setIfInBounds_toArray, List.set_cons_zero, List.set_cons_succ]
      refine wpAnyH_ready (rs := [33]) (by kernel_rfl) (by simp) ?_
      refine AllReadyH.cons (by (simp only [List.getElem?_toArray, List.getElem?_cons_zero, List.getElem?_cons_succ]) <;> exact rfl) (fun K hK => ?_) ?_
      rotate_left
      exact AllReadyH.nil
      go_simp
      refine (is_ref HXA.out.1 HLX.out _ O17.out V17.out HL17.out HRB.out.rows (HRB.out.call K17.out).far.now.2.1 (HRB.out.call K17.out).far.now.2.2).mono ?_
      rintro e w18 ⟨rfl, hb18⟩
      have K18 := Lib.hid (below_step (W0 := w12) K17.out hb18)
      clear hb18
      try dsimp only
      refine hK.out _ _ (HSS.out _ K18.out) (fun hHeld => ?_)
      clear hK K
      try simp only [Act.put, List.setIfInBounds_toArray, List.set_cons_zero, List.set_cons_succ]
      refine wpAnyH_take (i := 34) (v := ?_) (by (simp only [List.getElem?_toArray, List.getElem?_cons_zero, List.getElem?_cons_succ]) <;> exact rfl) (by kernel_rfl) (by kernel_rfl) (by kernel_rfl) (by intro _ _ _ h; exact h) (Or.inl ⟨by rfl, ?_⟩) (by assumption) ?_
      rotate_left
      · intro w hSw
        try dsimp only at hSw
        go_simp
        try with_reducible rfl
      try simp only [Act.put, List.setIfInBounds_toArray, List.set_cons_zero, List.set_cons_succ]
      refine wpAnyH_take (i := 35) (v := ?_) (by (simp only [List.getElem?_toArray, List.getElem?_cons_zero, List.getElem?_cons_succ]) <;> exact rfl) (by kernel_rfl) (by kernel_rfl) (by kernel_rfl) (by intro _ _ _ h; exact h) (Or.inl ⟨by rfl, ?_⟩) (by assumption) ?_
      rotate_left
      · intro w hSw
        try dsimp only at hSw
        go_simp
        try with_reducible rfl
      try simp only [Act.put, List.setIfInBounds_toArray, List.set_cons_zero, List.set_cons_succ]
      refine wpAnyH_done (by kernel_rfl) ?_ _
      clear O17 V17 HL17 S15 K15 K16 K17 HRW HSCH hHeld hHeld2
      have HA18 := Lib.hid ((HA7.out.butS (HBU10.out.step K12.out HBU10.out.size) HA7.out.lt HNA.out).call K18.out)
      have HBU18 := Lib.hid ((HBU10.out.step K12.out HBU10.out.size).call K18.out)
      have M18 := Lib.hid ((M10.out.butS K12.out HTB.out).call K18.out)
      have HST18 := Lib.hid (HST12.out.call K18.out)
      have HRB18a := Lib.hid (HRB.out.call K18.out)
      have f0 : w18.cell? ⟨ha7, 0, none⟩ = some (.int .u8 fk) := HA18.out.cell 0 rfl
      have f1 : w18.cell? ⟨ha7, 1, none⟩ = some (.int .i64 fnn) := HA18.out.cell 1 rfl
      have f2 : w18.cell? ⟨ha7, 2, none⟩ = some (.string fs) := HA18.out.cell 2 rfl
      clear HST12 HRS12 HRB HSS K12 K18 HSZ HDX HDY HDR HSTD HRSD HX10 HER0 HST10 HRS10 HBU10 M10 HRE hrr hoo
      go_wp2_with fail
      refine (HVL.out _).mono ?_
      rintro e w19 ⟨rfl, hb19⟩
      have HST19 := Lib.hid (HST18.out.call hb19)
      have K19 := Lib.hid hb19
      clear f0 f1 f2 hb19
      go_wp2_with fail
      refine (irow (Tri p b bm) b bm X DV _ HST19.out (by rw [HDC.out]; exact HFB.out) (fun r hr => (HXA.out.1.lens r hr).2)).mono ?_
      rintro e w20 ⟨hb20, hrow⟩
      rw [HDC.out] at hrow
      have K20 := Lib.hid (below_step (W0 := w18) K19.out hb20)
      have HRB18 := Lib.hid (HRB18a.out.call K20.out)
      have HA20 := Lib.hid (HA18.out.call K20.out)
      have HST20 := Lib.hid (HST18.out.call K20.out)
      have HBU20 := Lib.hid (HBU18.out.call K20.out)
      have M20 := Lib.hid (M18.out.call K20.out)
      clear HA18
      have HA18 := Lib.hid HA20.out
      clear HA20 HST19 HST18 K19 K20 HBU18 M18 HRB18a hb20
      have HLN9 := Lib.hid (show ln ≤ 1000 by have h := congrArg List.length HRB18.out.rows; rw [List.length_map] at h; have h2 := HRB18.out.far.now.2.1.1; have h3 := HLX.out; omega)
      have HLE := Lib.hid (show X.l.length = ln by have h := congrArg List.length HRB18.out.rows; rw [List.length_map] at h; have h2 := HRB18.out.far.now.2.1.1; omega)
      rcases hrow with ⟨rfl, hnone⟩ | ⟨rr, rv, rfl, hmem, hkey, hown⟩
      · skip
        have HNO := Lib.hid hnone
        clear hnone
        go_wp2_with fail
        go_loopw [15, 16] (fun f i wr => ∃ j : Nat, j ≤ ln ∧ i = .int .i64 j ∧ f = .bool false ∧ Below w20.heap.size w20 wr) (fun _ i _ => ln - (intOf i).toNat)
        case atStart => exact ⟨0, Nat.zero_le _, rfl, rfl, Below.refl _ _⟩
        case round =>
          obtain ⟨j, hj, rfl, rfl, hbw⟩ := hrel
          have HBW := Lib.hid hbw
          have hji : (0 : Int) ≤ (j : Int) := by omega
          clear hbw
          by_cases hjl : j < ln
          · skip
            have hjn : (j : Int) < (ln : Int) := by omega
            have HWJ := Lib.hid (w64E hjl (show ln ≤ maxLen by have := HLN9.out; unfold maxLen; omega))
            obtain ⟨pb, poff, q, u, hla, hpl, hx, hru, hcell⟩ := (HRB18.out.call HBW.out).far.now.2.1.at1 hjl
            subst hla
            cases hru
            have hql : q.1 ∈ X.l := by rw [← HRB18.out.rows]; exact List.mem_map.2 ⟨q, List.mem_of_getElem? hx, rfl⟩
            have HXQ := Lib.hid (show X.l[j]? = some q.1 by rw [← HRB18.out.rows, List.getElem?_map, hx]; rfl)
            obtain ⟨qa1, qn1, qc1, hqv, hqs⟩ := (HRB18.out.call HBW.out).far.now.2.2 q (List.mem_of_getElem? hx)
            have hlen := HXA.out.1.lens q.1 hql
            obtain ⟨ob, ooff, oy, ocs, rfl, hobl, hox, hocl, hor, hocell⟩ := hqs.at_ (i := 0) (by have := hqs.1; omega)
            obtain ⟨rfl, _⟩ := hor
            rw [hqv] at hcell
            have hkey : keyOf q.1 = oy := by unfold keyOf; rw [List.headD_eq_head?_getD, List.head?_eq_getElem?, hox]; rfl
            obtain ⟨yk, yn, ys⟩ := oy
            have hon0 : 0 < qn1 := by have := hqs.1; omega
            have hon : (0 : Int) < (qn1 : Int) := by omega
            have d0 := hocell 0 _ rfl
            have d1 := hocell 1 _ rfl
            have d2 := hocell 2 _ rfl
            simp only [Nat.zero_mul, Nat.add_zero] at d0 d1 d2
            have p2 : wr.cell? ⟨p, 2, none⟩ = some (.slice (some ⟨pb, poff, none⟩) ln lc) := (HRB18.out.box.call HBW.out).cell 2 rfl
            have hpl2 : p < wr.heap.size := (HRB18.out.box.call HBW.out).lt
            have f0 : wr.cell? ⟨ha7, 0, none⟩ = some (.int .u8 fk) := (HA18.out.call HBW.out).cell 0 rfl
            have f1 : wr.cell? ⟨ha7, 1, none⟩ = some (.int .i64 fnn) := (HA18.out.call HBW.out).cell 1 rfl
            have f2 : wr.cell? ⟨ha7, 2, none⟩ = some (.string fs) := (HA18.out.call HBW.out).cell 2 rfl
            have hEQ := fun W => celleq yk yn ys fk fnn fs W
            have HKY := Lib.hid hkey
            have HKK := Lib.hid (HNO.out q.1 hql)
            rw [show (yk == fk && yn == fnn && ys.toList == fs.toList) = false from (cell_eq_dec ⟨yk, yn, ys⟩ ⟨fk, fnn, fs⟩).trans (decide_eq_false (fun h => HKK.out (by rw [HKY.out, HFE.out]; exact h)))] at hEQ
            clear hocell hox hocl hqs hqv hlen hx hkey hql
            go_wp2_with fail
            go_upto_region 27 with fail
            go_quiet (fail)
            all_goals go_wp2_with fail
            all_goals go_roundw
            case rel => exact ⟨j + 1, hjl, by first | exact numE HWJ.out | exact numE1, rfl, below_drewN HBW.out _⟩
            case measure =>
              try rw [HWJ.out]
              exact measE1 hjl
          · skip
            obtain rfl : j = ln := by omega
            have p2 : wr.cell? ⟨p, 2, none⟩ = some (.slice la j lc) := (HRB18.out.box.call HBW.out).cell 2 rfl
            have hpl2 : p < wr.heap.size := (HRB18.out.box.call HBW.out).lt
            go_wp2_with fail
            go_roundw
            case rel => exact ⟨k + 1, X, hlt, h60, by first | exact numE HW.out | exact numE1, by have := HXA.out.2; have := HOFF.out; omega, HXA.out.1, HST20.out.call HBW.out, ⟨_, _, _, _, _, _, _, HRB18.out.call HBW.out⟩, HBU20.out.call HBW.out⟩
            case measure =>
              try rw [HW.out]
              exact measE1 hlt
      · skip
        obtain ⟨va, vc, rfl, hvc1, hvc2, hvc3⟩ := own_slice hown
        have HMEM := Lib.hid hmem
        have HKEY := Lib.hid (show keyOf (cellsOfV (rr, (Value.slice va rr.length vc))) = FC by rw [← keyV_of]; exact hkey)
        have HVS := Lib.hid (own_vals hown)
        have HRR := Lib.hid (show rr.length ≤ 1000 by have h := (HXA.out.1.lens _ hmem).2; unfold cellsOfV at h; rw [List.length_map] at h; exact h)
        clear hmem hkey hown hvc1 hvc2 hvc3
        go_wp2_with fail
        go_loopw [15, 16] (fun f i wr => ∃ (j : Nat) (F : Bool), j ≤ ln ∧ i = .int .i64 j ∧ f = .bool F ∧ FoundR X.l FC j F ∧ Below w20.heap.size w20 wr) (fun _ i _ => ln - (intOf i).toNat)
        case atStart => exact ⟨0, false, Nat.zero_le _, rfl, rfl, FoundR.start _ _, Below.refl _ _⟩
        case round =>
          obtain ⟨j, F, hj, rfl, rfl, hfr, hbw⟩ := hrel
          have HBW := Lib.hid hbw
          have HFR := Lib.hid hfr
          clear hfr
          have hji : (0 : Int) ≤ (j : Int) := by omega
          clear hbw
          by_cases hjl : j < ln
          · skip
            have hjn : (j : Int) < (ln : Int) := by omega
            have HWJ := Lib.hid (w64E hjl (show ln ≤ maxLen by have := HLN9.out; unfold maxLen; omega))
            obtain ⟨pb, poff, q, u, hla, hpl, hx, hru, hcell⟩ := (HRB18.out.call HBW.out).far.now.2.1.at1 hjl
            subst hla
            cases hru
            have hql : q.1 ∈ X.l := by rw [← HRB18.out.rows]; exact List.mem_map.2 ⟨q, List.mem_of_getElem? hx, rfl⟩
            have HXQ := Lib.hid (show X.l[j]? = some q.1 by rw [← HRB18.out.rows, List.getElem?_map, hx]; rfl)
            obtain ⟨qa1, qn1, qc1, hqv, hqs⟩ := (HRB18.out.call HBW.out).far.now.2.2 q (List.mem_of_getElem? hx)
            have hlen := HXA.out.1.lens q.1 hql
            obtain ⟨ob, ooff, oy, ocs, rfl, hobl, hox, hocl, hor, hocell⟩ := hqs.at_ (i := 0) (by have := hqs.1; omega)
            obtain ⟨rfl, _⟩ := hor
            rw [hqv] at hcell
            have hkey : keyOf q.1 = oy := by unfold keyOf; rw [List.headD_eq_head?_getD, List.head?_eq_getElem?, hox]; rfl
            obtain ⟨yk, yn, ys⟩ := oy
            have hon0 : 0 < qn1 := by have := hqs.1; omega
            have hon : (0 : Int) < (qn1 : Int) := by omega
            have d0 := hocell 0 _ rfl
            have d1 := hocell 1 _ rfl
            have d2 := hocell 2 _ rfl
            simp only [Nat.zero_mul, Nat.add_zero] at d0 d1 d2
            have p2 : wr.cell? ⟨p, 2, none⟩ = some (.slice (some ⟨pb, poff, none⟩) ln lc) := (HRB18.out.box.call HBW.out).cell 2 rfl
            have hpl2 : p < wr.heap.size := (HRB18.out.box.call HBW.out).lt
            have f0 : wr.cell? ⟨ha7, 0, none⟩ = some (.int .u8 fk) := (HA18.out.call HBW.out).cell 0 rfl
            have f1 : wr.cell? ⟨ha7, 1, none⟩ = some (.int .i64 fnn) := (HA18.out.call HBW.out).cell 1 rfl
            have f2 : wr.cell? ⟨ha7, 2, none⟩ = some (.string fs) := (HA18.out.call HBW.out).cell 2 rfl
            have hEQ := fun W => celleq yk yn ys fk fnn fs W
            have HKY := Lib.hid hkey
            by_cases hkk : keyOf q.1 = FC
            · skip
              have HKK := Lib.hid hkk
              rw [show (yk == fk && yn == fnn && ys.toList == fs.toList) = true from (cell_eq_dec ⟨yk, yn, ys⟩ ⟨fk, fnn, fs⟩).trans (decide_eq_true (by rw [← HKY.out, ← HFE.out]; exact HKK.out))] at hEQ
              have HQE := Lib.hid (rises_one HXA.out.1.rises hql HMEM.out (hkk.trans HKEY.out.symm))
              have HQS := Lib.hid hqs
              have HQL := Lib.hid (show qn1 ≤ 1000 by have := hqs.1; omega)
              have hS : ∀ W, Below wr.heap.size wr W → W.cell? ⟨p, 2, none⟩ = some (.slice (some ⟨pb, poff, none⟩) ln lc) ∧ W.cell? ⟨pb, poff + j, none⟩ = some (.slice (some ⟨ob, ooff, none⟩) qn1 qc1) := fun W h => ⟨(h.cell (p := ⟨p, 2, none⟩) hpl2).trans p2, (h.cell (p := ⟨pb, poff + j, none⟩) hpl).trans hcell⟩
              have HCB := Lib.hid (show ∀ y ∈ rr.map ValD.cell, CellB y from fun y hy => ((HXA.out.1.rows q.1 hql).good y (by rw [HQE.out]; exact hy)).1)
              have HOC := Lib.hid (fun (W : World) (B : Nat) (a c : _) (h : W.ownsRow B 30 3 (.slice a rr.length c) rr.length ((rr.map ValD.cell).flatMap cellV)) => (own_sl (R := CellR) (by decide) cellV_len (fun y hy => ⟨rfl, HCB.out y hy⟩) h : Sl 3 CellR W a rr.length (rr.map ValD.cell)))
              have HCEL := Lib.hid (fun W (h : Below wr.heap.size wr W) => lawCells va rr.length vc rr W (HVS.out.below ValRE.stable (below_step HBW.out h)) HRR.out)
              have HSR := Lib.hid (fun (W : World) (a : Option Addr) (c : Nat) (h : Below wr.heap.size wr W) (hs : Sl 3 CellR W a rr.length (rr.map ValD.cell)) => (show Calls Try.prog 32 #[.slice a rr.length c, .slice (some ⟨ob, ooff, none⟩) qn1 qc1] W (BoolIs true W) from by have h1 := sameRow a (some ⟨ob, ooff, none⟩) rr.length c qn1 qc1 (rr.map ValD.cell) q.1 W hs (HQS.out.below CellR.stable h) (by have := HRR.out; omega) (by have := HQL.out; omega); rw [show decide (rr.map ValD.cell = q.1) = true from decide_eq_true HQE.out.symm] at h1; exact h1))
              have HSS := Lib.hid hS
              clear hocell hox hocl hqs hqv hlen hx hkey hql hkk hS
              go_wp2_with fail
              go_upto_region 27 with fail
              go_quiet (fail)
              go_upto_region 29 with fail
              go_region_held3 (fun W => W.cell? ⟨p, 2, none⟩ = some (.slice (some ⟨pb, poff, none⟩) ln lc) ∧ W.cell? ⟨pb, poff + j, none⟩ = some (.slice (some ⟨ob, ooff, none⟩) qn1 qc1))
                (first | exact HSS.out _ K23.out | exact HSS.out _ K22.out | exact HSS.out _ (by first | exact (Below.refl _ _).drew.drew | exact (below_drewN (Below.refl _ _) _).drew | exact below_drewN (Below.refl _ _) _))
                (first
                  | (go_at_call 33; (with_reducible refine (HCEL.out _ (by first | exact (Below.refl _ _).drew.drew | exact (below_drewN (Below.refl _ _) _).drew | exact below_drewN (Below.refl _ _) _)).mono ?_); rintro e w22 ⟨v22, rfl, hown22, hb22⟩; obtain ⟨a22, c22, rfl, hc22⟩ := own_slice hown22; have K22 := Lib.hid (below_step (W0 := wr) (by first | exact (Below.refl _ _).drew.drew | exact (below_drewN (Below.refl _ _) _).drew | exact below_drewN (Below.refl _ _) _) hb22); have O22 := Lib.hid hown22; clear hown22 hb22 hc22)
                  | (go_at_call 32; (with_reducible refine (HSR.out _ a22 c22 K22.out (HOC.out _ _ _ _ O22.out)).mono ?_); rintro e w23 ⟨rfl, hb23⟩; have K23 := Lib.hid (below_step (W0 := wr) K22.out hb23); clear hb23)
                  | fail)
              all_goals go_wp2_with fail
              all_goals go_roundw
              case rel => exact ⟨j + 1, true, hjl, by first | exact numE HWJ.out | exact numE1, rfl, FoundR.hit HXQ.out HKK.out, below_step HBW.out K23.out⟩
              case measure =>
                try rw [HWJ.out]
                exact measE1 hjl
            · skip
              have HKK := Lib.hid hkk
              rw [show (yk == fk && yn == fnn && ys.toList == fs.toList) = false from (cell_eq_dec ⟨yk, yn, ys⟩ ⟨fk, fnn, fs⟩).trans (decide_eq_false (fun h => HKK.out (by rw [HKY.out, HFE.out]; exact h)))] at hEQ
              clear hocell hox hocl hqs hqv hlen hx hkey hql hkk
              go_wp2_with fail
              go_upto_region 27 with fail
              go_quiet (fail)
              all_goals go_wp2_with fail
              all_goals go_roundw
              case rel => exact ⟨j + 1, F, hjl, by first | exact numE HWJ.out | exact numE1, rfl, HFR.out.miss HXQ.out HKK.out, below_drewN HBW.out _⟩
              case measure =>
                try rw [HWJ.out]
                exact measE1 hjl
          · skip
            obtain rfl : j = ln := by omega
            have p2 : wr.cell? ⟨p, 2, none⟩ = some (.slice la j lc) := (HRB18.out.box.call HBW.out).cell 2 rfl
            have hpl2 : p < wr.heap.size := (HRB18.out.box.call HBW.out).lt
            obtain rfl : F = true := FoundR.ends (show FoundR X.l FC X.l.length F by rw [HLE.out]; exact HFR.out) HMEM.out HKEY.out
            go_wp2_with fail
            go_roundw
            case rel => exact ⟨k + 1, X, hlt, h60, by first | exact numE HW.out | exact numE1, by have := HXA.out.2; have := HOFF.out; omega, HXA.out.1, HST20.out.call HBW.out, ⟨_, _, _, _, _, _, _, HRB18.out.call HBW.out⟩, HBU20.out.call HBW.out⟩
            case measure =>
              try rw [HW.out]
              exact measE1 hlt
end Go.Proofs.Ytlclhinianamhaa
