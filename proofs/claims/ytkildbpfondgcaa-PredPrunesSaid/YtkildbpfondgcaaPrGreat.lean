/- catchmentref09.Great: what it bounds. -/
import Derived.Test.YtkildbpfondgcaaBase
import Derived.Handy
namespace Go.Proofs.Ytkildbpfondgcaa
open Go.RowKit Go.Deep
set_option linter.unusedVariables false
set_option linter.unusedSimpArgs false

/-- All values of a predicate are small, so deep. -/
def SmallP : Nat → PredD → Prop
  | 0, _ => True
  | d + 1, p => p.value.s.size ≤ 300 ∧ p.kids.length ≤ 200 ∧ ∀ k ∈ p.kids, SmallP d k
def NodesPost (d : Nat) (p : PredD) (w : World) (e : Ending) (w' : World) : Prop := ∃ r : Int, 1 ≤ r ∧ r ≤ 200 ∧ (r < 200 → SmallP d p) ∧ e = .returned (.int .i64 r) ∧ Below w.heap.size w w'
def NodesHyp (d : Nat) : Prop := ∀ (p : PredD) (cs : List Value) (z : Int) (w : World), PredR d w cs p → 1 ≤ z → z ≤ 21 → Calls Try.prog 31 #[.agg cs.toArray, .int .i64 z] w (NodesPost d p w)
set_option maxRecDepth 100000 in
set_option maxHeartbeats 4000000 in
theorem nodes_all : ∀ d, NodesHyp d
  | 0 => fun p cs z w hp => hp.elim
  | d + 1 => fun p cs z w hp hz1 hz2 => by
    have ih := nodes_all d
    obtain ⟨ka, kn, kc, rfl, hk1, hk2, hk3, hkids, hpo, hpf, hpv⟩ := hp
    have HK := Lib.hid hkids
    have HKL := Lib.hid hkids.1
    have HIH := Lib.hid ih
    have hkn : kn ≤ 9223372036854775807 := by unfold maxLen at hk2; omega
    have hvs : p.value.s.size ≤ 9223372036854775807 := by have := hpv.1; unfold maxLen at this; omega
    clear ih hkids hk2 hk3 hpv
    unfold NodesPost at *
    by_cases hz : z = 21
    · subst hz
      go_enter Try.func31, Try.ntmps31
      go_wp2
      go_ret
      exact ⟨200, by omega, by omega, fun h => absurd h (by omega), rfl, (Below.refl _ _).alloc (Nat.le_refl _) _⟩
    · have hz3 : z ≤ 20 := by omega
      by_cases hv : 300 < p.value.s.size
      · have hvi : (300 : Int) < (p.value.s.size : Int) := by omega
        go_enter Try.func31, Try.ntmps31
        go_wp2
        go_ret
        exact ⟨200, by omega, by omega, fun h => absurd h (by omega), rfl, (Below.refl _ _).alloc (Nat.le_refl _) _⟩
      · have hvi : (p.value.s.size : Int) ≤ 300 := by omega
        go_enter Try.func31, Try.ntmps31
        go_wp2
        obtain ⟨W0, hWW⟩ : ∃ W0 : World, W0 = w.alloc (.cells #[.int .u8 (p.op : Int), .int .u32 (p.field : Int), .int .u8 p.value.kind, .int .i64 p.value.n, .string p.value.s, .slice ka kn kc] 39) := ⟨_, rfl⟩
        have hb0 : Below w.heap.size w W0 := by rw [hWW]; exact (Below.refl _ _).alloc (Nat.le_refl _) _
        have hsz : W0.heap.size = w.heap.size + 1 := by rw [hWW]; simp
        have hx0 : CellsAt W0 w.heap.size #[.int .u8 (p.op : Int), .int .u32 (p.field : Int), .int .u8 p.value.kind, .int .i64 p.value.n, .string p.value.s, .slice ka kn kc] := by rw [hWW]; exact CellsAt.alloc_new _ _ _
        rw [← hWW]
        clear hWW
        have HX0 := Lib.hid hx0
        have HB0 := Lib.hid hb0
        have HSZ := Lib.hid hsz
        have HV := Lib.hid hv
        clear hx0 hb0 hsz hv
        go_loopw [5, 6] (fun n i wr => ∃ (k : Nat) (r : Int), k ≤ kn ∧ n = .int .i64 r ∧ i = .int .i64 (k : Int) ∧ (k : Int) + 1 ≤ r ∧ r ≤ 399 ∧ (r < 200 → ∀ (j : Nat) (x : PredD), j < k → p.kids[j]? = some x → SmallP d x) ∧ Below W0.heap.size W0 wr) (fun _ i _ => kn - (intOf i).toNat)
        case atStart => exact ⟨0, 1, Nat.zero_le _, rfl, rfl, by omega, by omega, fun _ j x hj => absurd hj (by omega), Below.refl _ _⟩
        case round =>
          obtain ⟨k, r, hk, rfl, rfl, hr1, hr2, hsm, hb⟩ := hrel
          have HSM := Lib.hid hsm
          have HB := Lib.hid hb
          have hbw := HB0.out.trans (hb.mono (B' := w.heap.size) (by rw [HSZ.out]; omega))
          have HBW := Lib.hid hbw
          have hpc := HX0.out.below hb (by rw [HSZ.out]; omega)
          have d5 : wr.cell? ⟨w.heap.size, 3 + 2, none⟩ = some (.slice ka kn kc) := hpc 5 _ rfl
          have d5' : wr.cell? ⟨w.heap.size, 5, none⟩ = some (.slice ka kn kc) := hpc 5 _ rfl
          clear hpc hsm hb hbw
          have hk0 : (0 : Int) ≤ (k : Int) := by omega
          by_cases hlt : k < kn
          · have hkn' : (k : Int) < (kn : Int) := by omega
            by_cases hr : r < 200
            · obtain ⟨b, off, x, kcs, rfl, hbl, hx, hcl, hxr, hcell⟩ := HK.out.at_ hlt
              have HXR := Lib.hid hxr
              obtain ⟨xa, xn, xc, hkcs⟩ := hxr.shape
              subst hkcs
              have HX := Lib.hid hx
              have e0 := (HBW.out.cell (p := ⟨b, off + k * 6 + 0, none⟩) hbl).trans (hcell 0 _ rfl)
              have e1 := (HBW.out.cell (p := ⟨b, off + k * 6 + 1, none⟩) hbl).trans (hcell 1 _ rfl)
              have e2 := (HBW.out.cell (p := ⟨b, off + k * 6 + 2, none⟩) hbl).trans (hcell 2 _ rfl)
              have e3 := (HBW.out.cell (p := ⟨b, off + k * 6 + 3, none⟩) hbl).trans (hcell 3 _ rfl)
              have e4 := (HBW.out.cell (p := ⟨b, off + k * 6 + 4, none⟩) hbl).trans (hcell 4 _ rfl)
              have e5 := (HBW.out.cell (p := ⟨b, off + k * 6 + 5, none⟩) hbl).trans (hcell 5 _ rfl)
              rw [Nat.add_zero] at e0
              have hq : IntKind.i64.wrap (z + 1) = z + 1 := wrap_small _ (by omega) (by omega)
              clear hcell hx hxr hcl
              go_wp2_with fail
              refine (HIH.out x _ (z + 1) wr (PredR.stable d _ _ _ _ HBW.out HXR.out) (by omega) (by omega)).mono ?_
              rintro e w1 ⟨q, hq1, hq2, hq3, rfl, hb⟩
              have HQ3 := Lib.hid hq3
              have HB1 := Lib.hid (HB.out.trans (hb.mono HB.out.size))
              have hw : IntKind.i64.wrap (r + q) = r + q := wrap_small _ (by omega) (by omega)
              clear hq3 hb d5 d5' e0 e1 e2 e3 e4 e5
              go_wp2
              go_roundw
              case rel =>
                refine ⟨k + 1, r + q, by omega, rfl, by go_num, by omega, by omega, fun hlt2 j y hj hy => ?_, HB1.out⟩
                by_cases hjk : j = k
                · subst hjk
                  rw [HX.out] at hy; cases hy
                  exact HQ3.out (by omega)
                · exact HSM.out (by omega) j y (by omega) hy
              case measure => simp [intOf] <;> omega
            · go_wp2
              all_goals go_ret
              all_goals first | exact ⟨r, by omega, by omega, fun h => absurd h (by omega), rfl, HBW.out⟩ | exact ⟨200, by omega, by omega, fun h => absurd h (by omega), rfl, HBW.out⟩
          · have hkn' : (kn : Int) ≤ (k : Int) := by omega
            by_cases hr : r < 200
            · have hm : r ≤ 200 := by omega
              go_wp2
              go_ret
              refine ⟨r, by omega, by omega, fun h => ⟨by have := HV.out; omega, by have := HKL.out; omega, fun y hy => ?_⟩, rfl, HBW.out⟩
              obtain ⟨j, hj, rfl⟩ := List.getElem_of_mem hy
              exact HSM.out hr j _ (by have := HKL.out; omega) (List.getElem?_eq_getElem hj)
            · go_wp2
              all_goals go_ret
              all_goals first | exact ⟨r, by omega, by omega, fun h => absurd h (by omega), rfl, HBW.out⟩ | exact ⟨200, by omega, by omega, fun h => absurd h (by omega), rfl, HBW.out⟩
def Great9Post (d : Nat) (p : PredD) (w : World) (e : Ending) (w' : World) : Prop := (e = .returned (.bool true) ∨ e = .returned (.bool false) ∧ SmallP d p) ∧ Below w.heap.size w w'
theorem great_calls (d : Nat) (p : PredD) (cs : List Value) (w : World) (hp : PredR d w cs p) : Calls Try.prog 12 #[.agg cs.toArray] w (Great9Post d p w) := by
  obtain ⟨ka, kn, kc, hcs⟩ := hp.shape
  have HP := Lib.hid hp
  clear hp
  subst hcs
  have hcall := fun W (hb : Below w.heap.size w W) => nodes_all d p _ 1 W (PredR.stable d _ _ _ _ hb HP.out) (by omega) (by omega)
  have HC := Lib.hid hcall
  clear hcall
  go_enter Try.func12, Try.ntmps12
  go_wp2_with fail
  refine (HC.out _ ((Below.refl _ _).alloc (Nat.le_refl _) _)).mono ?_
  rintro e w1 ⟨r, hr1, hr2, hsm, rfl, hb⟩
  have HB := Lib.hid (((Below.refl w.heap.size w).alloc (Nat.le_refl _) (.cells #[.int .u8 (p.op : Int), .int .u32 (p.field : Int), .int .u8 p.value.kind, .int .i64 p.value.n, .string p.value.s, .slice ka kn kc] 39)).trans (hb.mono (by simp)))
  have HSM := Lib.hid hsm
  clear hb hsm
  by_cases hr : r < 200
  · go_wp2
    go_ret
    exact ⟨.inr ⟨by simp <;> omega, HSM.out hr⟩, HB.out⟩
  · have hr3 : 200 ≤ r := by omega
    go_wp2
    go_ret
    exact ⟨.inl (by simp <;> omega), HB.out⟩
end Go.Proofs.Ytkildbpfondgcaa
