/- value: ValueOrder. -/
import Derived.Test.YtmdgljbgjhpmcaaVlRefCmp
import Derived.Test.YtmdgljbgjhpmcaaVlBase
import Derived.Test.YtmdgljbgjhpmcaaVlFns
namespace Go.Proofs.Ytmdgljbgjhpmcaa
open Go.RowKit Go.Deep
set_option linter.unusedVariables false
set_option linter.unusedSimpArgs false

theorem cmpC_cases (a b : CellD) : (cmpC a b = 0 ∧ a = b) ∨ ((cmpC a b = -1 ∨ cmpC a b = 1) ∧ ((a.kind == b.kind) = false ∨ (a.kind = b.kind ∧ (a.n == b.n) = false) ∨ (a.kind = b.kind ∧ a.n = b.n ∧ (a.s.toList == b.s.toList) = false))) := by
  by_cases h : a = b
  · exact .inl ⟨(cmpC_zero _ _).2 h, h⟩
  · refine .inr ⟨?_, ?_⟩
    · by_cases h1 : LessC a b
      · exact .inl (cmpC_less h1)
      · by_cases h2 : LessC b a
        · exact .inr (cmpC_more h2)
        · exact absurd (LessC.tri h1 h2) h
    · by_cases hk : a.kind = b.kind
      · by_cases hn : a.n = b.n
        · exact .inr (.inr ⟨hk, hn, by rw [beq_eq_false_iff_ne]; intro hs; exact h (CellD.ext' hk hn (vbytes_ext hs))⟩)
        · exact .inr (.inl ⟨hk, by simp [hn]⟩)
      · exact .inl (by simp [hk])
set_option maxRecDepth 100000 in
set_option maxHeartbeats 8000000 in
theorem valueOrder (cs0 : List Value) (c0 : CellD) (cs1 : List Value) (c1 : CellD) (cs2 : List Value) (c2 : CellD) (w : World) (h0 : CellR w cs0 c0) (h1 : CellR w cs1 c1) (h2 : CellR w cs2 c2) :
    Calls Try.prog 4 #[.agg cs0.toArray, .agg cs1.toArray, .agg cs2.toArray] w (TruthPost w) := by
  obtain ⟨rfl, _, ⟨g0, _⟩, _⟩ := h0
  obtain ⟨rfl, _, ⟨g1, _⟩, _⟩ := h1
  obtain ⟨rfl, _, ⟨g2, _⟩, _⟩ := h2
  have V0 := lawValue c0 g0
  have V1 := lawValue c1 g1
  have V2 := lawValue c2 g2
  have P01 := compare_calls (goodVal c0) (goodVal c1)
  have P10 := compare_calls (goodVal c1) (goodVal c0)
  have P12 := compare_calls (goodVal c1) (goodVal c2)
  have P02 := compare_calls (goodVal c0) (goodVal c2)
  have L0 := lawCell (goodVal c0)
  have L1 := lawCell (goodVal c1)
  have R01 := refCompare (goodVal c0).cell (goodVal c1).cell
  have hneg := cmpC_neg (goodVal c0).cell (goodVal c1).cell
  have htr := @cmpC_trans (goodVal c0).cell (goodVal c1).cell (goodVal c2).cell
  have hcs := cmpC_cases (goodVal c0).cell (goodVal c1).cell
  rw [hneg] at P10
  generalize (goodVal c0).val = x0 at *
  generalize (goodVal c1).val = x1 at *
  generalize (goodVal c2).val = x2 at *
  generalize cmpC (goodVal c0).cell (goodVal c1).cell = n01 at *
  generalize cmpC (goodVal c1).cell (goodVal c2).cell = n12 at *
  generalize cmpC (goodVal c0).cell (goodVal c2).cell = n02 at *
  generalize (goodVal c0).cell = d0 at *
  generalize (goodVal c1).cell = d1 at *
  clear hneg
  obtain ⟨k0, m0, s0⟩ := d0
  obtain ⟨k1, m1, s1⟩ := d1
  obtain ⟨ka, na, sa⟩ := c0
  obtain ⟨kb, nb, sb⟩ := c1
  obtain ⟨kc, nc, sc⟩ := c2
  simp only [CellD.cells] at *
  have HV0 := Lib.hid V0
  have HV1 := Lib.hid V1
  have HV2 := Lib.hid V2
  have HP01 := Lib.hid P01
  have HP10 := Lib.hid P10
  have HP12 := Lib.hid P12
  have HP02 := Lib.hid P02
  have HL0 := Lib.hid L0
  have HL1 := Lib.hid L1
  have HR := Lib.hid R01
  have HTR := Lib.hid htr
  have HCS := Lib.hid hcs
  clear V0 V1 V2 P01 P10 P12 P02 L0 L1 R01 htr hcs g0 g1 g2
  go_enter Try.func4, Try.ntmps4
  go_wp2_with fail
  refine (alive_calls _).mono ?_
  rintro e w1 ⟨rfl, hb1⟩
  have xx0 : ∀ i v, (#[Value.int IntKind.u8 ka, Value.int IntKind.i64 na, Value.string sa] : Array Value)[i]? = some v → w1.cell? ⟨w.heap.size, i, none⟩ = some v := fun i v hv =>
    (hb1.cell (p := ⟨w.heap.size, i, none⟩) (by simp <;> omega)).trans (by rw [World.cell?_alloc_lt _ _ _ (by simp <;> omega), World.cell?_alloc_lt _ _ _ (by simp <;> omega), World.cell?_alloc_new]; exact hv)
  have xx1 : ∀ i v, (#[Value.int IntKind.u8 kb, Value.int IntKind.i64 nb, Value.string sb] : Array Value)[i]? = some v → w1.cell? ⟨w.heap.size + 1, i, none⟩ = some v := fun i v hv =>
    (hb1.cell (p := ⟨w.heap.size + 1, i, none⟩) (by simp <;> omega)).trans (by rw [World.cell?_alloc_lt _ _ _ (by simp <;> omega), World.cell?_alloc_at _ _ _ _ (by simp)]; exact hv)
  have xx2 : ∀ i v, (#[Value.int IntKind.u8 kc, Value.int IntKind.i64 nc, Value.string sc] : Array Value)[i]? = some v → w1.cell? ⟨w.heap.size + 2, i, none⟩ = some v := fun i v hv =>
    (hb1.cell (p := ⟨w.heap.size + 2, i, none⟩) (by simp <;> omega)).trans (by rw [World.cell?_alloc_at _ _ _ _ (by simp)]; exact hv)
  have a0 := xx0 0 _ rfl
  have a1 := xx0 1 _ rfl
  have a2 := xx0 2 _ rfl
  have b0 := xx1 0 _ rfl
  have b1 := xx1 1 _ rfl
  have b2 := xx1 2 _ rfl
  have e0 := xx2 0 _ rfl
  have e1 := xx2 1 _ rfl
  have e2 := xx2 2 _ rfl
  have hz1 : w.heap.size ≤ w1.heap.size := by have := hb1.size; simp at this; omega
  have B1 := Lib.hid (((((Below.refl w.heap.size w).alloc (Nat.le_refl _) _).alloc (by simp) _).alloc (by simp <;> omega) _).trans (hb1.mono (by simp <;> omega)))
  clear hb1 xx0 xx1 xx2
  go_wp2_with fail
  have A0 := kept_cell (w0 := w1) a0
  have A1 := kept_cell (w0 := w1) a1
  have A2 := kept_cell (w0 := w1) a2
  have B0 := kept_cell (w0 := w1) b0
  have B1' := kept_cell (w0 := w1) b1
  have B2 := kept_cell (w0 := w1) b2
  have E0 := kept_cell (w0 := w1) e0
  have E1 := kept_cell (w0 := w1) e1
  have E2 := kept_cell (w0 := w1) e2
  clear a0 a1 a2 b0 b1 b2 e0 e1 e2
  refine wp_region_kept (by kernel_rfl) (by kernel_rfl) ?_
  repeat (go_big_quiet_step (first | (go_at_call 16; first | with_reducible exact kept_call (HV0.out _) | with_reducible exact kept_call (HV1.out _) | with_reducible exact kept_call (HV2.out _))))
  refine wpQuiet_nil ?_
  intro w2 hb2
  have K2 := Lib.hid (B1.out.trans (hb2.mono hz1))
  clear hb2 A0 A1 A2 B0 B1' B2 E0 E1 E2 B1 hz1
  go_wp2_with fail
  refine (HP01.out _).mono ?_
  rintro e w3 ⟨rfl, q3, rfl⟩
  rcases HCS.out with ⟨rfl, hd⟩ | ⟨rfl | rfl, hk | ⟨hk, hn⟩ | ⟨hk, hn, hs⟩⟩
  · cases hd
    have hk : (k0 == k0) = true := by simp
    have hn : (m0 == m0) = true := by simp
    have hs : (s0.toList == s0.toList) = true := by simp
    go_wp2_with fail
    refine (HL0.out _).mono ?_
    rintro e w4 ⟨rfl, hb4⟩
    have B4 := hb4.mono (B' := w2.heap.size) (Nat.le_refl _)
    go_wp2_with fail
    refine (HL1.out _).mono ?_
    rintro e w5 ⟨rfl, hb5⟩
    have B5 := B4.trans (hb5.mono B4.size)
    go_wp2_with fail
    refine (HR.out _).mono ?_
    rintro e w6 ⟨rfl, hb6⟩
    have B6 := Lib.hid (B5.trans (hb6.mono B5.size))
    clear hb4 hb5 hb6 B4 B5
    go_wp2_with fail
    refine (HP10.out _).mono ?_
    rintro e w7 ⟨rfl, q7, rfl⟩
    go_wp2_with fail
    refine (HL0.out _).mono ?_
    rintro e w8 ⟨rfl, hb8⟩
    have B8 := (below_drewN B6.out q7).trans (hb8.mono B6.out.size)
    go_wp2_with fail
    refine (HL1.out _).mono ?_
    rintro e w9 ⟨rfl, hb9⟩
    have B9 := Lib.hid (B8.trans (hb9.mono B8.size))
    clear hb8 hb9 B8 B6
    by_cases h12 : 0 < n12
    · go_wp2_with fail
      refine (HP12.out _).mono ?_
      rintro e w10 ⟨rfl, q10, rfl⟩
      go_wp2
      go_ret
      exact ⟨rfl, (below_drewN K2.out q3).trans (below_drewN (B9.out.mono K2.out.size) _)⟩
    · have h02 := HTR.out (by omega) (by omega)
      have h02' : n02 ≤ 0 := by omega
      go_wp2_with fail
      refine (HP12.out _).mono ?_
      rintro e w10 ⟨rfl, q10, rfl⟩
      go_wp2_with fail
      refine (HP02.out _).mono ?_
      rintro e w11 ⟨rfl, q11, rfl⟩
      go_wp2
      go_ret
      exact ⟨rfl, (below_drewN K2.out q3).trans (below_drewN (B9.out.mono K2.out.size) _)⟩
  · have hk' : (k0 == k1) = false := hk
    clear hk
    go_wp2_with fail
    refine (HL0.out _).mono ?_
    rintro e w4 ⟨rfl, hb4⟩
    have B4 := hb4.mono (B' := w2.heap.size) (Nat.le_refl _)
    go_wp2_with fail
    refine (HL1.out _).mono ?_
    rintro e w5 ⟨rfl, hb5⟩
    have B5 := B4.trans (hb5.mono B4.size)
    go_wp2_with fail
    refine (HR.out _).mono ?_
    rintro e w6 ⟨rfl, hb6⟩
    have B6 := Lib.hid (B5.trans (hb6.mono B5.size))
    clear hb4 hb5 hb6 B4 B5
    go_wp2_with fail
    refine (HP10.out _).mono ?_
    rintro e w7 ⟨rfl, q7, rfl⟩
    go_wp2_with fail
    refine (HL0.out _).mono ?_
    rintro e w8 ⟨rfl, hb8⟩
    have B8 := (below_drewN B6.out q7).trans (hb8.mono B6.out.size)
    go_wp2_with fail
    refine (HL1.out _).mono ?_
    rintro e w9 ⟨rfl, hb9⟩
    have B9 := Lib.hid (B8.trans (hb9.mono B8.size))
    clear hb8 hb9 B8 B6
    by_cases h12 : 0 < n12
    · go_wp2_with fail
      refine (HP12.out _).mono ?_
      rintro e w10 ⟨rfl, q10, rfl⟩
      go_wp2
      go_ret
      exact ⟨rfl, (below_drewN K2.out q3).trans (below_drewN (B9.out.mono K2.out.size) _)⟩
    · have h02 := HTR.out (by omega) (by omega)
      have h02' : n02 ≤ 0 := by omega
      go_wp2_with fail
      refine (HP12.out _).mono ?_
      rintro e w10 ⟨rfl, q10, rfl⟩
      go_wp2_with fail
      refine (HP02.out _).mono ?_
      rintro e w11 ⟨rfl, q11, rfl⟩
      go_wp2
      go_ret
      exact ⟨rfl, (below_drewN K2.out q3).trans (below_drewN (B9.out.mono K2.out.size) _)⟩
  · obtain rfl : k0 = k1 := hk
    have hk' : (k0 == k0) = true := by simp
    have hn' : (m0 == m1) = false := hn
    clear hn
    go_wp2_with fail
    refine (HL0.out _).mono ?_
    rintro e w4 ⟨rfl, hb4⟩
    have B4 := hb4.mono (B' := w2.heap.size) (Nat.le_refl _)
    go_wp2_with fail
    refine (HL1.out _).mono ?_
    rintro e w5 ⟨rfl, hb5⟩
    have B5 := B4.trans (hb5.mono B4.size)
    go_wp2_with fail
    refine (HR.out _).mono ?_
    rintro e w6 ⟨rfl, hb6⟩
    have B6 := Lib.hid (B5.trans (hb6.mono B5.size))
    clear hb4 hb5 hb6 B4 B5
    go_wp2_with fail
    refine (HP10.out _).mono ?_
    rintro e w7 ⟨rfl, q7, rfl⟩
    go_wp2_with fail
    refine (HL0.out _).mono ?_
    rintro e w8 ⟨rfl, hb8⟩
    have B8 := (below_drewN B6.out q7).trans (hb8.mono B6.out.size)
    go_wp2_with fail
    refine (HL1.out _).mono ?_
    rintro e w9 ⟨rfl, hb9⟩
    have B9 := Lib.hid (B8.trans (hb9.mono B8.size))
    clear hb8 hb9 B8 B6
    by_cases h12 : 0 < n12
    · go_wp2_with fail
      refine (HP12.out _).mono ?_
      rintro e w10 ⟨rfl, q10, rfl⟩
      go_wp2
      go_ret
      exact ⟨rfl, (below_drewN K2.out q3).trans (below_drewN (B9.out.mono K2.out.size) _)⟩
    · have h02 := HTR.out (by omega) (by omega)
      have h02' : n02 ≤ 0 := by omega
      go_wp2_with fail
      refine (HP12.out _).mono ?_
      rintro e w10 ⟨rfl, q10, rfl⟩
      go_wp2_with fail
      refine (HP02.out _).mono ?_
      rintro e w11 ⟨rfl, q11, rfl⟩
      go_wp2
      go_ret
      exact ⟨rfl, (below_drewN K2.out q3).trans (below_drewN (B9.out.mono K2.out.size) _)⟩
  · obtain rfl : k0 = k1 := hk
    obtain rfl : m0 = m1 := hn
    have hk' : (k0 == k0) = true := by simp
    have hn' : (m0 == m0) = true := by simp
    have hs' : (s0.toList == s1.toList) = false := hs
    clear hs
    go_wp2_with fail
    refine (HL0.out _).mono ?_
    rintro e w4 ⟨rfl, hb4⟩
    have B4 := hb4.mono (B' := w2.heap.size) (Nat.le_refl _)
    go_wp2_with fail
    refine (HL1.out _).mono ?_
    rintro e w5 ⟨rfl, hb5⟩
    have B5 := B4.trans (hb5.mono B4.size)
    go_wp2_with fail
    refine (HR.out _).mono ?_
    rintro e w6 ⟨rfl, hb6⟩
    have B6 := Lib.hid (B5.trans (hb6.mono B5.size))
    clear hb4 hb5 hb6 B4 B5
    go_wp2_with fail
    refine (HP10.out _).mono ?_
    rintro e w7 ⟨rfl, q7, rfl⟩
    go_wp2_with fail
    refine (HL0.out _).mono ?_
    rintro e w8 ⟨rfl, hb8⟩
    have B8 := (below_drewN B6.out q7).trans (hb8.mono B6.out.size)
    go_wp2_with fail
    refine (HL1.out _).mono ?_
    rintro e w9 ⟨rfl, hb9⟩
    have B9 := Lib.hid (B8.trans (hb9.mono B8.size))
    clear hb8 hb9 B8 B6
    by_cases h12 : 0 < n12
    · go_wp2_with fail
      refine (HP12.out _).mono ?_
      rintro e w10 ⟨rfl, q10, rfl⟩
      go_wp2
      go_ret
      exact ⟨rfl, (below_drewN K2.out q3).trans (below_drewN (B9.out.mono K2.out.size) _)⟩
    · have h02 := HTR.out (by omega) (by omega)
      have h02' : n02 ≤ 0 := by omega
      go_wp2_with fail
      refine (HP12.out _).mono ?_
      rintro e w10 ⟨rfl, q10, rfl⟩
      go_wp2_with fail
      refine (HP02.out _).mono ?_
      rintro e w11 ⟨rfl, q11, rfl⟩
      go_wp2
      go_ret
      exact ⟨rfl, (below_drewN K2.out q3).trans (below_drewN (B9.out.mono K2.out.size) _)⟩
  · have hk' : (k0 == k1) = false := hk
    clear hk
    go_wp2_with fail
    refine (HL0.out _).mono ?_
    rintro e w4 ⟨rfl, hb4⟩
    have B4 := hb4.mono (B' := w2.heap.size) (Nat.le_refl _)
    go_wp2_with fail
    refine (HL1.out _).mono ?_
    rintro e w5 ⟨rfl, hb5⟩
    have B5 := B4.trans (hb5.mono B4.size)
    go_wp2_with fail
    refine (HR.out _).mono ?_
    rintro e w6 ⟨rfl, hb6⟩
    have B6 := Lib.hid (B5.trans (hb6.mono B5.size))
    clear hb4 hb5 hb6 B4 B5
    go_wp2_with fail
    refine (HP10.out _).mono ?_
    rintro e w7 ⟨rfl, q7, rfl⟩
    go_wp2_with fail
    refine (HL0.out _).mono ?_
    rintro e w8 ⟨rfl, hb8⟩
    have B8 := (below_drewN B6.out q7).trans (hb8.mono B6.out.size)
    go_wp2_with fail
    refine (HL1.out _).mono ?_
    rintro e w9 ⟨rfl, hb9⟩
    have B9 := Lib.hid (B8.trans (hb9.mono B8.size))
    clear hb8 hb9 B8 B6
    go_wp2
    go_ret
    exact ⟨rfl, (below_drewN K2.out q3).trans (B9.out.mono K2.out.size)⟩
  · obtain rfl : k0 = k1 := hk
    have hk' : (k0 == k0) = true := by simp
    have hn' : (m0 == m1) = false := hn
    clear hn
    go_wp2_with fail
    refine (HL0.out _).mono ?_
    rintro e w4 ⟨rfl, hb4⟩
    have B4 := hb4.mono (B' := w2.heap.size) (Nat.le_refl _)
    go_wp2_with fail
    refine (HL1.out _).mono ?_
    rintro e w5 ⟨rfl, hb5⟩
    have B5 := B4.trans (hb5.mono B4.size)
    go_wp2_with fail
    refine (HR.out _).mono ?_
    rintro e w6 ⟨rfl, hb6⟩
    have B6 := Lib.hid (B5.trans (hb6.mono B5.size))
    clear hb4 hb5 hb6 B4 B5
    go_wp2_with fail
    refine (HP10.out _).mono ?_
    rintro e w7 ⟨rfl, q7, rfl⟩
    go_wp2_with fail
    refine (HL0.out _).mono ?_
    rintro e w8 ⟨rfl, hb8⟩
    have B8 := (below_drewN B6.out q7).trans (hb8.mono B6.out.size)
    go_wp2_with fail
    refine (HL1.out _).mono ?_
    rintro e w9 ⟨rfl, hb9⟩
    have B9 := Lib.hid (B8.trans (hb9.mono B8.size))
    clear hb8 hb9 B8 B6
    go_wp2
    go_ret
    exact ⟨rfl, (below_drewN K2.out q3).trans (B9.out.mono K2.out.size)⟩
  · obtain rfl : k0 = k1 := hk
    obtain rfl : m0 = m1 := hn
    have hk' : (k0 == k0) = true := by simp
    have hn' : (m0 == m0) = true := by simp
    have hs' : (s0.toList == s1.toList) = false := hs
    clear hs
    go_wp2_with fail
    refine (HL0.out _).mono ?_
    rintro e w4 ⟨rfl, hb4⟩
    have B4 := hb4.mono (B' := w2.heap.size) (Nat.le_refl _)
    go_wp2_with fail
    refine (HL1.out _).mono ?_
    rintro e w5 ⟨rfl, hb5⟩
    have B5 := B4.trans (hb5.mono B4.size)
    go_wp2_with fail
    refine (HR.out _).mono ?_
    rintro e w6 ⟨rfl, hb6⟩
    have B6 := Lib.hid (B5.trans (hb6.mono B5.size))
    clear hb4 hb5 hb6 B4 B5
    go_wp2_with fail
    refine (HP10.out _).mono ?_
    rintro e w7 ⟨rfl, q7, rfl⟩
    go_wp2_with fail
    refine (HL0.out _).mono ?_
    rintro e w8 ⟨rfl, hb8⟩
    have B8 := (below_drewN B6.out q7).trans (hb8.mono B6.out.size)
    go_wp2_with fail
    refine (HL1.out _).mono ?_
    rintro e w9 ⟨rfl, hb9⟩
    have B9 := Lib.hid (B8.trans (hb9.mono B8.size))
    clear hb8 hb9 B8 B6
    go_wp2
    go_ret
    exact ⟨rfl, (below_drewN K2.out q3).trans (B9.out.mono K2.out.size)⟩
end Go.Proofs.Ytmdgljbgjhpmcaa
