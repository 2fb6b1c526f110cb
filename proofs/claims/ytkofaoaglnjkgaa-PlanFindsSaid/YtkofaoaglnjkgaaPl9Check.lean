/- catchmentref09.Size, check and Check come to some number, whatever the predicate. -/
import Derived.Test.YtkofaoaglnjkgaaBase
import Derived.Test.YtkofaoaglnjkgaaVlBase
import Derived.Deep.RegionHeld3
import Derived.Deep.DeepCutAuto
namespace Go.Proofs.Ytkofaoaglnjkgaa
open Go.RowKit Go.Deep
set_option linter.unusedVariables false
set_option linter.unusedSimpArgs false

def SomeUpTo (m : Int) (w : World) (e : Ending) (w' : World) : Prop := ∃ r : Int, e = .returned (.int .i64 r) ∧ 0 ≤ r ∧ r ≤ m ∧ Below w.heap.size w w'
def SomeI (w : World) (e : Ending) (w' : World) : Prop := ∃ r : Int, e = .returned (.int .i64 r) ∧ Below w.heap.size w w'
def Size9Hyp (d : Nat) : Prop := ∀ (p : PredD) (cs : List Value) (z : Int) (w : World), PredR d w cs p → 1 ≤ z → z ≤ 9 → Calls Try.prog 38 #[.agg cs.toArray, .int .i64 z] w (SomeUpTo 33 w)
set_option maxRecDepth 100000 in
set_option maxHeartbeats 8000000 in
theorem size9_succ (d : Nat) (ih : Size9Hyp d) (p : PredD) (cs : List Value) (z : Int) (w : World) (hp : PredR (d + 1) w cs p) (h1 : 1 ≤ z) (h9 : z ≤ 9) : Calls Try.prog 38 #[.agg cs.toArray, .int .i64 z] w (SomeUpTo 33 w) := by
  obtain ⟨ka, kn, kc, rfl, hk1, hk2, hk3, hkids, hpo, hpf, hpv⟩ := hp
  have HK := Lib.hid hkids
  have HIH := Lib.hid ih
  have hkn : kn ≤ 9223372036854775807 := by unfold maxLen at hk2; omega
  clear ih hkids hk3 hpf hpv hk2
  by_cases hz : 8 < z
  · go_enter Try.func38, Try.ntmps38
    go_wp2
    go_ret
    exact ⟨33, rfl, by omega, by omega, (Below.refl _ _).alloc (Nat.le_refl _) _⟩
  · have hz8 : z ≤ 8 := by omega
    go_enter Try.func38, Try.ntmps38
    go_wp2
    obtain ⟨W0, hWW⟩ : ∃ W0 : World, W0 = (w.alloc (.cells #[.int .u8 (p.op : Int), .int .u32 (p.field : Int), .int .u8 p.value.kind, .int .i64 p.value.n, .string p.value.s, .slice ka kn kc] 42)) := ⟨_, rfl⟩
    have hm : Mem w.heap.size [#[.int .u8 (p.op : Int), .int .u32 (p.field : Int), .int .u8 p.value.kind, .int .i64 p.value.n, .string p.value.s, .slice ka kn kc]] w W0 := by rw [hWW]; exact ((Mem.nil w).push (by simp) #[.int .u8 (p.op : Int), .int .u32 (p.field : Int), .int .u8 p.value.kind, .int .i64 p.value.n, .string p.value.s, .slice ka kn kc] 42)
    rw [← hWW]
    clear hWW
    have M0 := Lib.hid hm
    clear hm
    go_loopw [5, 6] (fun v i wr => ∃ (k : Nat) (m : Int), k ≤ kn ∧ 1 ≤ m ∧ m ≤ 65 ∧ v = .int .i64 m ∧ i = .int .i64 (k : Int) ∧ Below W0.heap.size W0 wr) (fun _ i _ => kn - (intOf i).toNat)
    case atStart => exact ⟨0, 1, Nat.zero_le _, by omega, by omega, rfl, rfl, Below.refl _ _⟩
    case round =>
      obtain ⟨k, m, hk, hm1, hm2, rfl, rfl, hb⟩ := hrel
      have HB := Lib.hid hb
      have MR := Lib.hid (M0.out.call hb)
      clear hb
      have hki : (0 : Int) ≤ (k : Int) := by omega
      have q5 : wr.cell? ⟨w.heap.size, 5, none⟩ = some (.slice ka kn kc) := MR.out.cell 0 5 rfl rfl
      have z0 : w.heap.size < wr.heap.size := MR.out.lt 0 (by simp)
      by_cases hlt : k < kn
      · have hkn' : (k : Int) < (kn : Int) := by omega
        by_cases hm3 : m < 33
        · obtain ⟨b, off, x, kcs, rfl, hbl, hx, hcl, hxr, hcell⟩ := HK.out.at_ hlt
          have HXR := Lib.hid hxr
          obtain ⟨xa, xn, xc, hkcs⟩ := hxr.shape
          subst hkcs
          have e0 := MR.out.old (p := ⟨b, off + k * 6 + 0, none⟩) hbl (hcell 0 _ rfl)
          have e1 := MR.out.old (p := ⟨b, off + k * 6 + 1, none⟩) hbl (hcell 1 _ rfl)
          have e2 := MR.out.old (p := ⟨b, off + k * 6 + 2, none⟩) hbl (hcell 2 _ rfl)
          have e3 := MR.out.old (p := ⟨b, off + k * 6 + 3, none⟩) hbl (hcell 3 _ rfl)
          have e4 := MR.out.old (p := ⟨b, off + k * 6 + 4, none⟩) hbl (hcell 4 _ rfl)
          have e5 := MR.out.old (p := ⟨b, off + k * 6 + 5, none⟩) hbl (hcell 5 _ rfl)
          rw [Nat.add_zero] at e0
          clear hcell hx hxr hcl
          go_wp2_with fail
          refine (HIH.out x _ (z + 1) _ (PredR.stable d _ _ _ _ MR.out.below HXR.out) (by omega) (by omega)).mono ?_
          rintro e w1 ⟨r, rfl, hr1, hr2, hb1⟩
          have HB1 := Lib.hid (HB.out.trans (hb1.mono HB.out.size))
          clear hb1 q5 z0 e0 e1 e2 e3 e4 e5
          go_wp2
          go_roundw
          case rel => exact ⟨k + 1, m + r, by omega, by omega, by omega, rfl, by go_num, HB1.out⟩
          case measure => simp [intOf] <;> omega
        · have hm3i : (33 : Int) ≤ m := by omega
          go_wp2
          all_goals go_ret
          all_goals exact ⟨_, rfl, by omega, by omega, MR.out.below⟩
      · have hkn' : (kn : Int) ≤ (k : Int) := by omega
        go_wp2
        all_goals go_ret
        all_goals exact ⟨_, rfl, by omega, by omega, MR.out.below⟩
theorem size9_all : ∀ d, Size9Hyp d
  | 0 => fun p cs z w hp => hp.elim
  | d + 1 => fun p cs z w hp h1 h9 => size9_succ d (size9_all d) p cs z w hp h1 h9
def Check9Hyp (d : Nat) : Prop := ∀ (p : PredD) (cs : List Value) (s : SchemaD) (scs : List Value) (w : World), PredR d w cs p → SchemaR w scs s → s.fields.length ≤ 1000 → Calls Try.prog 39 #[.agg cs.toArray, .agg scs.toArray] w (SomeI w)
set_option maxRecDepth 100000 in
set_option maxHeartbeats 16000000 in
theorem check9_inner (d : Nat) (ih : Check9Hyp d) (p : PredD) (cs : List Value) (s : SchemaD) (scs : List Value) (w : World) (hp : PredR (d + 1) w cs p) (hs : SchemaR w scs s) (hfl : s.fields.length ≤ 1000) (h6 : 6 ≤ p.op) (h8 : p.op ≤ 8) : Calls Try.prog 39 #[.agg cs.toArray, .agg scs.toArray] w (SomeI w) := by
  have HSC := Lib.hid hs
  obtain ⟨ka, kn, kc, rfl, hk1, hk2, hk3, hkids, hpo, hpf, hpv⟩ := hp
  obtain ⟨fa, fnn, fc, rfl, hs1, hs2, hs3, hfs, hs4⟩ := hs
  have HK := Lib.hid hkids
  unfold Check9Hyp at ih
  have HIH := Lib.hid ih
  have HFL := Lib.hid hfl
  have HFS := Lib.hid hfs
  have hkn : kn ≤ 9223372036854775807 := by unfold maxLen at hk2; omega
  have hfn : fnn ≤ 1000 := by have := hfs.1; omega
  obtain ⟨hvs, ⟨hk30, hk31⟩, hvn⟩ := hpv
  have HVS := Lib.hid hvs
  clear ih hkids hk3 hpf hk2 hfs hs3 hs4 hs2 hfl hvs
  have hoi : (6 : Int) ≤ (p.op : Int) := by omega
  have hoj : (p.op : Int) ≤ 8 := by omega
  have ho0 : ((p.op : Int) == 0) = false := by rw [beq_eq_false_iff_ne]; omega
  by_cases hf : p.field = 0
  · have hfi : (p.field : Int) = 0 := by omega
    rw [hfi]
    by_cases hvk : p.value.kind = 0
    · rw [hvk]
      by_cases hvn0 : p.value.n = 0
      · rw [hvn0]
        by_cases hs0 : p.value.s.size = 0
        · have hs0b : (p.value.s.toList == []) = true := by
            have : p.value.s = ByteArray.empty := empty_of hs0
            rw [this]; decide +kernel
          by_cases h88 : p.op = 8
          · have ho8 : (p.op : Int) = 8 := by omega
            rw [ho8]
            by_cases hk1' : kn = 1
            · subst hk1'
              go_enter Try.func39, Try.ntmps39
              go_wp2
              obtain ⟨W0, hWW⟩ : ∃ W0 : World, W0 = ((w.alloc (.cells #[.int .u8 8, .int .u32 0, .int .u8 0, .int .i64 0, .string p.value.s, .slice ka 1 kc] 42)).alloc (.cells #[.int .u32 (s.id : Int), .slice fa fnn fc] 37)) := ⟨_, rfl⟩
              have hm : Mem w.heap.size [#[.int .u8 8, .int .u32 0, .int .u8 0, .int .i64 0, .string p.value.s, .slice ka 1 kc], #[.int .u32 (s.id : Int), .slice fa fnn fc]] w W0 := by rw [hWW]; exact (((Mem.nil w).push (by simp) #[.int .u8 8, .int .u32 0, .int .u8 0, .int .i64 0, .string p.value.s, .slice ka 1 kc] 42).push (by simp) #[.int .u32 (s.id : Int), .slice fa fnn fc] 37)
              rw [← hWW]
              clear hWW
              have M0 := Lib.hid hm
              clear hm
              go_loopw [5] (fun i wr => ∃ k : Nat, k ≤ 1 ∧ i = .int .i64 (k : Int) ∧ Below W0.heap.size W0 wr) (fun i _ => 1 - (intOf i).toNat)
              case atStart => exact ⟨0, Nat.zero_le _, rfl, Below.refl _ _⟩
              case round =>
                obtain ⟨k, hk, rfl, hb⟩ := hrel
                have HB := Lib.hid hb
                have MR := Lib.hid (M0.out.call hb)
                clear hb
                have hki : (0 : Int) ≤ (k : Int) := by omega
                have q5 : wr.cell? ⟨w.heap.size, 5, none⟩ = some (.slice ka 1 kc) := MR.out.cell 0 5 rfl rfl
                by_cases hlt : k < 1
                · have hkn' : (k : Int) < (1 : Int) := by omega
                  obtain ⟨b, off, x, kcs, rfl, hbl, hx, hcl, hxr, hcell⟩ := HK.out.at_ hlt
                  have HXR := Lib.hid hxr
                  obtain ⟨xa, xn, xc, hkcs⟩ := hxr.shape
                  subst hkcs
                  have e0 := MR.out.old (p := ⟨b, off + k * 6 + 0, none⟩) hbl (hcell 0 _ rfl)
                  have e1 := MR.out.old (p := ⟨b, off + k * 6 + 1, none⟩) hbl (hcell 1 _ rfl)
                  have e2 := MR.out.old (p := ⟨b, off + k * 6 + 2, none⟩) hbl (hcell 2 _ rfl)
                  have e3 := MR.out.old (p := ⟨b, off + k * 6 + 3, none⟩) hbl (hcell 3 _ rfl)
                  have e4 := MR.out.old (p := ⟨b, off + k * 6 + 4, none⟩) hbl (hcell 4 _ rfl)
                  have e5 := MR.out.old (p := ⟨b, off + k * 6 + 5, none⟩) hbl (hcell 5 _ rfl)
                  rw [Nat.add_zero] at e0
                  have hbw : b < wr.heap.size := by have := MR.out.below.size; omega
                  have hS : ∀ W, Below wr.heap.size wr W → W.cell? ⟨w.heap.size, 5, none⟩ = some (.slice (some ⟨b, off, none⟩) 1 kc) ∧ W.cell? ⟨w.heap.size + 1, 0, none⟩ = some (.int .u32 (s.id : Int)) ∧ W.cell? ⟨w.heap.size + 1, 1, none⟩ = some (.slice fa fnn fc) ∧ W.cell? ⟨b, off + k * 6, none⟩ = some (.int .u8 (x.op : Int)) ∧ W.cell? ⟨b, off + k * 6 + 1, none⟩ = some (.int .u32 (x.field : Int)) ∧ W.cell? ⟨b, off + k * 6 + 2, none⟩ = some (.int .u8 x.value.kind) ∧ W.cell? ⟨b, off + k * 6 + 3, none⟩ = some (.int .i64 x.value.n) ∧ W.cell? ⟨b, off + k * 6 + 4, none⟩ = some (.string x.value.s) ∧ W.cell? ⟨b, off + k * 6 + 5, none⟩ = some (.slice xa xn xc) := fun W h => ⟨(MR.out.call h).cell 0 5 rfl rfl, (MR.out.call h).cell 1 0 rfl rfl, (MR.out.call h).cell 1 1 rfl rfl, (h.cell (p := ⟨b, off + k * 6, none⟩) hbw).trans e0, (h.cell (p := ⟨b, off + k * 6 + 1, none⟩) hbw).trans e1, (h.cell (p := ⟨b, off + k * 6 + 2, none⟩) hbw).trans e2, (h.cell (p := ⟨b, off + k * 6 + 3, none⟩) hbw).trans e3, (h.cell (p := ⟨b, off + k * 6 + 4, none⟩) hbw).trans e4, (h.cell (p := ⟨b, off + k * 6 + 5, none⟩) hbw).trans e5⟩
                  have HSS := Lib.hid hS
                  have hcm := fun (W : World) (h : Below wr.heap.size wr W) => HIH.out x _ s _ W (PredR.stable d _ _ _ _ (MR.out.call h).below HXR.out) (SchemaR.stable _ _ _ _ (MR.out.call h).below HSC.out) HFL.out
                  have HCM := Lib.hid hcm
                  clear hcm
                  go_upto_region 9 with fail
                  clear hS hcell hx hxr hcl q5 e0 e1 e2 e3 e4 e5
                  go_region_held3 (fun W => W.cell? ⟨w.heap.size, 5, none⟩ = some (.slice (some ⟨b, off, none⟩) 1 kc) ∧ W.cell? ⟨w.heap.size + 1, 0, none⟩ = some (.int .u32 (s.id : Int)) ∧ W.cell? ⟨w.heap.size + 1, 1, none⟩ = some (.slice fa fnn fc) ∧ W.cell? ⟨b, off + k * 6, none⟩ = some (.int .u8 (x.op : Int)) ∧ W.cell? ⟨b, off + k * 6 + 1, none⟩ = some (.int .u32 (x.field : Int)) ∧ W.cell? ⟨b, off + k * 6 + 2, none⟩ = some (.int .u8 x.value.kind) ∧ W.cell? ⟨b, off + k * 6 + 3, none⟩ = some (.int .i64 x.value.n) ∧ W.cell? ⟨b, off + k * 6 + 4, none⟩ = some (.string x.value.s) ∧ W.cell? ⟨b, off + k * 6 + 5, none⟩ = some (.slice xa xn xc))
                    (first | (refine HSS.out _ ?_; exact (by repeat (first | exact Below.refl _ _ | (with_reducible refine Below.drew ?_) | (with_reducible exact K7.out)))))
                    (first
                      | (go_at_call 39; (with_reducible refine (HCM.out _ (by repeat (first | exact Below.refl _ _ | (with_reducible refine Below.drew ?_) | (with_reducible exact K7.out)))).mono ?_); rintro e w7 ⟨r7, rfl, hp7⟩; have k7 := below_step (W0 := wr) (by repeat (first | exact Below.refl _ _ | (with_reducible refine Below.drew ?_))) hp7; have K7 := Lib.hid k7; clear hp7 k7)
                      | fail)
                  have HB2 := Lib.hid (HB.out.trans (K7.out.mono HB.out.size))
                  have MK := Lib.hid (MR.out.call K7.out)
                  by_cases hr0 : r7 = 0
                  · subst hr0
                    go_wp2
                    go_roundw
                    case rel => exact ⟨k + 1, by omega, by go_num, HB2.out⟩
                    case measure => simp [intOf] <;> omega
                  · have hrb : (r7 == 0) = false := by rw [beq_eq_false_iff_ne]; exact hr0
                    go_wp2
                    go_ret
                    exact ⟨_, rfl, MK.out.below⟩
                · have hkn' : (1 : Int) ≤ (k : Int) := by omega
                  go_wp2
                  go_ret
                  exact ⟨_, rfl, MR.out.below⟩
            · have hkb : ((kn : Int) == 1) = false := by rw [beq_eq_false_iff_ne]; omega
              go_enter Try.func39, Try.ntmps39
              go_wp2
              go_ret
              exact ⟨_, rfl, ((Below.refl _ _).alloc (Nat.le_refl _) _).alloc (by simp) _⟩
          · have ho8 : ((p.op : Int) == 8) = false := by rw [beq_eq_false_iff_ne]; omega
            go_enter Try.func39, Try.ntmps39
            go_wp2
            obtain ⟨W0, hWW⟩ : ∃ W0 : World, W0 = ((w.alloc (.cells #[.int .u8 (p.op : Int), .int .u32 0, .int .u8 0, .int .i64 0, .string p.value.s, .slice ka kn kc] 42)).alloc (.cells #[.int .u32 (s.id : Int), .slice fa fnn fc] 37)) := ⟨_, rfl⟩
            have hm : Mem w.heap.size [#[.int .u8 (p.op : Int), .int .u32 0, .int .u8 0, .int .i64 0, .string p.value.s, .slice ka kn kc], #[.int .u32 (s.id : Int), .slice fa fnn fc]] w W0 := by rw [hWW]; exact (((Mem.nil w).push (by simp) #[.int .u8 (p.op : Int), .int .u32 0, .int .u8 0, .int .i64 0, .string p.value.s, .slice ka kn kc] 42).push (by simp) #[.int .u32 (s.id : Int), .slice fa fnn fc] 37)
            rw [← hWW]
            clear hWW
            have M0 := Lib.hid hm
            clear hm
            go_loopw [5] (fun i wr => ∃ k : Nat, k ≤ kn ∧ i = .int .i64 (k : Int) ∧ Below W0.heap.size W0 wr) (fun i _ => kn - (intOf i).toNat)
            case atStart => exact ⟨0, Nat.zero_le _, rfl, Below.refl _ _⟩
            case round =>
              obtain ⟨k, hk, rfl, hb⟩ := hrel
              have HB := Lib.hid hb
              have MR := Lib.hid (M0.out.call hb)
              clear hb
              have hki : (0 : Int) ≤ (k : Int) := by omega
              have q5 : wr.cell? ⟨w.heap.size, 5, none⟩ = some (.slice ka kn kc) := MR.out.cell 0 5 rfl rfl
              by_cases hlt : k < kn
              · have hkn' : (k : Int) < (kn : Int) := by omega
                obtain ⟨b, off, x, kcs, rfl, hbl, hx, hcl, hxr, hcell⟩ := HK.out.at_ hlt
                have HXR := Lib.hid hxr
                obtain ⟨xa, xn, xc, hkcs⟩ := hxr.shape
                subst hkcs
                have e0 := MR.out.old (p := ⟨b, off + k * 6 + 0, none⟩) hbl (hcell 0 _ rfl)
                have e1 := MR.out.old (p := ⟨b, off + k * 6 + 1, none⟩) hbl (hcell 1 _ rfl)
                have e2 := MR.out.old (p := ⟨b, off + k * 6 + 2, none⟩) hbl (hcell 2 _ rfl)
                have e3 := MR.out.old (p := ⟨b, off + k * 6 + 3, none⟩) hbl (hcell 3 _ rfl)
                have e4 := MR.out.old (p := ⟨b, off + k * 6 + 4, none⟩) hbl (hcell 4 _ rfl)
                have e5 := MR.out.old (p := ⟨b, off + k * 6 + 5, none⟩) hbl (hcell 5 _ rfl)
                rw [Nat.add_zero] at e0
                have hbw : b < wr.heap.size := by have := MR.out.below.size; omega
                have hS : ∀ W, Below wr.heap.size wr W → W.cell? ⟨w.heap.size, 5, none⟩ = some (.slice (some ⟨b, off, none⟩) kn kc) ∧ W.cell? ⟨w.heap.size + 1, 0, none⟩ = some (.int .u32 (s.id : Int)) ∧ W.cell? ⟨w.heap.size + 1, 1, none⟩ = some (.slice fa fnn fc) ∧ W.cell? ⟨b, off + k * 6, none⟩ = some (.int .u8 (x.op : Int)) ∧ W.cell? ⟨b, off + k * 6 + 1, none⟩ = some (.int .u32 (x.field : Int)) ∧ W.cell? ⟨b, off + k * 6 + 2, none⟩ = some (.int .u8 x.value.kind) ∧ W.cell? ⟨b, off + k * 6 + 3, none⟩ = some (.int .i64 x.value.n) ∧ W.cell? ⟨b, off + k * 6 + 4, none⟩ = some (.string x.value.s) ∧ W.cell? ⟨b, off + k * 6 + 5, none⟩ = some (.slice xa xn xc) := fun W h => ⟨(MR.out.call h).cell 0 5 rfl rfl, (MR.out.call h).cell 1 0 rfl rfl, (MR.out.call h).cell 1 1 rfl rfl, (h.cell (p := ⟨b, off + k * 6, none⟩) hbw).trans e0, (h.cell (p := ⟨b, off + k * 6 + 1, none⟩) hbw).trans e1, (h.cell (p := ⟨b, off + k * 6 + 2, none⟩) hbw).trans e2, (h.cell (p := ⟨b, off + k * 6 + 3, none⟩) hbw).trans e3, (h.cell (p := ⟨b, off + k * 6 + 4, none⟩) hbw).trans e4, (h.cell (p := ⟨b, off + k * 6 + 5, none⟩) hbw).trans e5⟩
                have HSS := Lib.hid hS
                have hcm := fun (W : World) (h : Below wr.heap.size wr W) => HIH.out x _ s _ W (PredR.stable d _ _ _ _ (MR.out.call h).below HXR.out) (SchemaR.stable _ _ _ _ (MR.out.call h).below HSC.out) HFL.out
                have HCM := Lib.hid hcm
                clear hcm
                go_upto_region 9 with fail
                clear hS hcell hx hxr hcl q5 e0 e1 e2 e3 e4 e5
                go_region_held3 (fun W => W.cell? ⟨w.heap.size, 5, none⟩ = some (.slice (some ⟨b, off, none⟩) kn kc) ∧ W.cell? ⟨w.heap.size + 1, 0, none⟩ = some (.int .u32 (s.id : Int)) ∧ W.cell? ⟨w.heap.size + 1, 1, none⟩ = some (.slice fa fnn fc) ∧ W.cell? ⟨b, off + k * 6, none⟩ = some (.int .u8 (x.op : Int)) ∧ W.cell? ⟨b, off + k * 6 + 1, none⟩ = some (.int .u32 (x.field : Int)) ∧ W.cell? ⟨b, off + k * 6 + 2, none⟩ = some (.int .u8 x.value.kind) ∧ W.cell? ⟨b, off + k * 6 + 3, none⟩ = some (.int .i64 x.value.n) ∧ W.cell? ⟨b, off + k * 6 + 4, none⟩ = some (.string x.value.s) ∧ W.cell? ⟨b, off + k * 6 + 5, none⟩ = some (.slice xa xn xc))
                  (first | (refine HSS.out _ ?_; exact (by repeat (first | exact Below.refl _ _ | (with_reducible refine Below.drew ?_) | (with_reducible exact K7.out)))))
                  (first
                    | (go_at_call 39; (with_reducible refine (HCM.out _ (by repeat (first | exact Below.refl _ _ | (with_reducible refine Below.drew ?_) | (with_reducible exact K7.out)))).mono ?_); rintro e w7 ⟨r7, rfl, hp7⟩; have k7 := below_step (W0 := wr) (by repeat (first | exact Below.refl _ _ | (with_reducible refine Below.drew ?_))) hp7; have K7 := Lib.hid k7; clear hp7 k7)
                    | fail)
                have HB2 := Lib.hid (HB.out.trans (K7.out.mono HB.out.size))
                have MK := Lib.hid (MR.out.call K7.out)
                by_cases hr0 : r7 = 0
                · subst hr0
                  go_wp2
                  go_roundw
                  case rel => exact ⟨k + 1, by omega, by go_num, HB2.out⟩
                  case measure => simp [intOf] <;> omega
                · have hrb : (r7 == 0) = false := by rw [beq_eq_false_iff_ne]; exact hr0
                  go_wp2
                  go_ret
                  exact ⟨_, rfl, MK.out.below⟩
              · have hkn' : (kn : Int) ≤ (k : Int) := by omega
                go_wp2
                go_ret
                exact ⟨_, rfl, MR.out.below⟩
        · have hs0b : (p.value.s.toList == []) = false := by
            rw [beq_eq_false_iff_ne]
            intro h
            apply hs0
            have : p.value.s.toList.length = 0 := by rw [h]; rfl
            rw [Lib.toList_data] at this
            simpa using this
          go_enter Try.func39, Try.ntmps39
          go_wp2
          go_ret
          exact ⟨_, rfl, ((Below.refl _ _).alloc (Nat.le_refl _) _).alloc (by simp) _⟩
      · have hvnb : (p.value.n == 0) = false := by rw [beq_eq_false_iff_ne]; exact hvn0
        go_enter Try.func39, Try.ntmps39
        go_wp2
        go_ret
        exact ⟨_, rfl, ((Below.refl _ _).alloc (Nat.le_refl _) _).alloc (by simp) _⟩
    · have hvkb : (p.value.kind == 0) = false := by rw [beq_eq_false_iff_ne]; exact hvk
      go_enter Try.func39, Try.ntmps39
      go_wp2
      go_ret
      exact ⟨_, rfl, ((Below.refl _ _).alloc (Nat.le_refl _) _).alloc (by simp) _⟩
  · have hfb : ((p.field : Int) == 0) = false := by rw [beq_eq_false_iff_ne]; omega
    go_enter Try.func39, Try.ntmps39
    go_wp2
    go_ret
    exact ⟨_, rfl, ((Below.refl _ _).alloc (Nat.le_refl _) _).alloc (by simp) _⟩
set_option maxRecDepth 100000 in
set_option maxHeartbeats 16000000 in
theorem check9_leaf (d : Nat) (ih : Check9Hyp d) (p : PredD) (cs : List Value) (s : SchemaD) (scs : List Value) (w : World) (hp : PredR (d + 1) w cs p) (hs : SchemaR w scs s) (hfl : s.fields.length ≤ 1000) (h1 : 1 ≤ p.op) (h5 : p.op ≤ 5) : Calls Try.prog 39 #[.agg cs.toArray, .agg scs.toArray] w (SomeI w) := by
  have HSC := Lib.hid hs
  obtain ⟨ka, kn, kc, rfl, hk1, hk2, hk3, hkids, hpo, hpf, hpv⟩ := hp
  obtain ⟨fa, fnn, fc, rfl, hs1, hs2, hs3, hfs, hs4⟩ := hs
  have HK := Lib.hid hkids
  unfold Check9Hyp at ih
  have HIH := Lib.hid ih
  have HFL := Lib.hid hfl
  have HFS := Lib.hid hfs
  have hkn : kn ≤ 9223372036854775807 := by unfold maxLen at hk2; omega
  have hfn : fnn ≤ 1000 := by have := hfs.1; omega
  obtain ⟨hvs, ⟨hk30, hk31⟩, hvn⟩ := hpv
  have HVS := Lib.hid hvs
  clear ih hkids hk3 hpf hk2 hfs hs3 hs4 hs2 hfl hvs
  have hoi : (p.op : Int) ≤ 5 := by omega
  have ho1 : (1 : Int) ≤ (p.op : Int) := by omega
  have ho0 : ((p.op : Int) == 0) = false := by rw [beq_eq_false_iff_ne]; omega
  have hpl := fun (W : World) (h : SchemaR W [.int .u32 (s.id : Int), .slice fa fnn fc] s) => refplace_calls _ s p.field W h HFL.out
  have hran := idxF_lt (hasId p.field) s.fields
  have hrn : placeI s.fields p.field = idxF (hasId p.field) s.fields := rfl
  rw [← hrn] at hran
  clear hrn
  generalize placeI s.fields p.field = i at *
  have HPL := Lib.hid hpl
  clear hpl
  unfold IntBelow at HPL
  have hboth := fun W => (both p.value hk30 W).1
  unfold CellD.cells at hboth
  have HBOTH := Lib.hid hboth
  clear hboth
  by_cases hkz : 0 < kn
  · have hkzi : (0 : Int) < (kn : Int) := by omega
    go_enter Try.func39, Try.ntmps39
    go_wp2
    go_ret
    exact ⟨_, rfl, ((Below.refl _ _).alloc (Nat.le_refl _) _).alloc (by simp) _⟩
  · obtain rfl : kn = 0 := by omega
    go_enter Try.func39, Try.ntmps39
    go_wp2_with fail
    obtain ⟨W0, hWW⟩ : ∃ W0 : World, W0 = ((w.alloc (.cells #[.int .u8 (p.op : Int), .int .u32 (p.field : Int), .int .u8 p.value.kind, .int .i64 p.value.n, .string p.value.s, .slice ka 0 kc] 42)).alloc (.cells #[.int .u32 (s.id : Int), .slice fa fnn fc] 37)) := ⟨_, rfl⟩
    have hm : Mem w.heap.size [#[.int .u8 (p.op : Int), .int .u32 (p.field : Int), .int .u8 p.value.kind, .int .i64 p.value.n, .string p.value.s, .slice ka 0 kc], #[.int .u32 (s.id : Int), .slice fa fnn fc]] w W0 := by rw [hWW]; exact (((Mem.nil w).push (by simp) #[.int .u8 (p.op : Int), .int .u32 (p.field : Int), .int .u8 p.value.kind, .int .i64 p.value.n, .string p.value.s, .slice ka 0 kc] 42).push (by simp) #[.int .u32 (s.id : Int), .slice fa fnn fc] 37)
    rw [← hWW]
    clear hWW
    have M0 := Lib.hid hm
    clear hm
    refine (HPL.out _ (SchemaR.stable _ _ _ _ M0.out.below HSC.out)).mono ?_
    rintro e w1 ⟨rfl, hb⟩
    have M1 := Lib.hid (M0.out.call hb)
    clear hb
    have q0 : w1.cell? ⟨w.heap.size, 0, none⟩ = some (.int .u8 (p.op : Int)) := M1.out.cell 0 0 rfl rfl
    have q2 : w1.cell? ⟨w.heap.size, 2, none⟩ = some (.int .u8 p.value.kind) := M1.out.cell 0 2 rfl rfl
    have q3 : w1.cell? ⟨w.heap.size, 3, none⟩ = some (.int .i64 p.value.n) := M1.out.cell 0 3 rfl rfl
    have q4 : w1.cell? ⟨w.heap.size, 4, none⟩ = some (.string p.value.s) := M1.out.cell 0 4 rfl rfl
    by_cases hi : i < 0
    · go_wp2
      go_ret
      exact ⟨_, rfl, M1.out.below⟩
    · have hi0 : (0 : Int) ≤ i := by omega
      by_cases h55 : p.op = 5
      · have ho5 : (p.op : Int) = 5 := by omega
        rw [ho5] at q0
        by_cases hvk : p.value.kind = 0
        · rw [hvk] at q2
          by_cases hvn0 : p.value.n = 0
          · rw [hvn0] at q3
            by_cases hs0 : p.value.s.size = 0
            · have hs0b : (p.value.s.toList == []) = true := by
                have : p.value.s = ByteArray.empty := empty_of hs0
                rw [this]; decide +kernel
              go_wp2
              go_ret
              exact ⟨_, rfl, M1.out.below⟩
            · have hs0b : (p.value.s.toList == []) = false := by
                rw [beq_eq_false_iff_ne]
                intro h
                apply hs0
                have : p.value.s.toList.length = 0 := by rw [h]; rfl
                rw [Lib.toList_data] at this
                simpa using this
              go_wp2
              go_ret
              exact ⟨_, rfl, M1.out.below⟩
          · have hvnb : (p.value.n == 0) = false := by rw [beq_eq_false_iff_ne]; exact hvn0
            go_wp2
            go_ret
            exact ⟨_, rfl, M1.out.below⟩
        · have hvkb : (p.value.kind == 0) = false := by rw [beq_eq_false_iff_ne]; exact hvk
          go_wp2
          go_ret
          exact ⟨_, rfl, M1.out.below⟩
      · have ho5 : ((p.op : Int) == 5) = false := by rw [beq_eq_false_iff_ne]; omega
        generalize chk p.value = ec at *
        go_wp2_with fail
        refine (HBOTH.out _).mono ?_
        rintro e w2 ⟨rfl, hb2⟩
        have M2 := Lib.hid (M1.out.call hb2)
        clear hb2 q0 q2 q3 q4
        by_cases he1 : ec = 1
        · subst he1
          go_wp2
          go_ret
          exact ⟨_, rfl, M2.out.below⟩
        · have he1b : (ec == 1) = false := by rw [beq_eq_false_iff_ne]; exact he1
          by_cases he0 : ec = 0
          · subst he0
            obtain ⟨m, rfl⟩ : ∃ m : Nat, i = (m : Int) := ⟨i.toNat, by omega⟩
            have hmf : m < fnn := by have := HFS.out.1; omega
            have hmfi : (m : Int) < (fnn : Int) := by omega
            obtain ⟨b, off, y, yv, rfl, hbl, hy, hcl, hr, hcell⟩ := HFS.out.at_ hmf
            obtain ⟨rfl, _⟩ := hr
            have e2 := M2.out.old (p := ⟨b, off + m * 4 + 2, none⟩) hbl (hcell 2 _ rfl)
            have q0 : w2.cell? ⟨w.heap.size, 0, none⟩ = some (.int .u8 (p.op : Int)) := M2.out.cell 0 0 rfl rfl
            have q2 : w2.cell? ⟨w.heap.size, 2, none⟩ = some (.int .u8 p.value.kind) := M2.out.cell 0 2 rfl rfl
            have q1_1 : w2.cell? ⟨w.heap.size + 1, 1, none⟩ = some (.slice (some ⟨b, off, none⟩) fnn fc) := M2.out.cell 1 1 rfl rfl
            have ke2 := kept_cell e2
            have kq0 := kept_cell q0
            have kq2 := kept_cell q2
            have kq1 := kept_cell q1_1
            clear hcell hcl hy he1
            go_upto_region 27 with fail
            by_cases c1 : p.value.kind = 0
            · have c1b : (p.value.kind == 0) = true := by rw [beq_iff_eq]; exact c1
              refine wp_region_kept (by kernel_rfl) (by kernel_rfl) ?_
              repeat (go_big_quiet_step (fail))
              refine wpQuiet_nil ?_
              intro W2 hb2
              have HB2 := Lib.hid ((M2.out.call hb2).below)
              clear hb2
              go_wp2
              go_ret
              exact ⟨_, rfl, HB2.out⟩
            · have c1b : (p.value.kind == 0) = false := by rw [beq_eq_false_iff_ne]; exact c1
              by_cases c2 : p.value.kind = (y.kind : Int)
              · have c2b : (p.value.kind == (y.kind : Int)) = true := by rw [beq_iff_eq]; exact c2
                have c2c : (p.value.kind != (y.kind : Int)) = false := by rw [bne, c2b]; rfl
                by_cases c3 : p.op = 4
                · have c3b : ((p.op : Int) == 4) = true := by rw [beq_iff_eq]; omega
                  by_cases c4 : p.value.kind = 3
                  · have c4b : (p.value.kind == 3) = true := by rw [beq_iff_eq]; exact c4
                    have c4c : (p.value.kind != 3) = false := by rw [bne, c4b]; rfl
                    clear c1 c2 c3 c4
                    refine wp_region_kept (by kernel_rfl) (by kernel_rfl) ?_
                    repeat (go_big_quiet_step (fail))
                    refine wpQuiet_nil ?_
                    intro W2 hb2
                    have HB2 := Lib.hid ((M2.out.call hb2).below)
                    clear hb2
                    go_wp2
                    go_ret
                    exact ⟨_, rfl, HB2.out⟩
                  · have c4b : (p.value.kind == 3) = false := by rw [beq_eq_false_iff_ne]; exact c4
                    have c4c : (p.value.kind != 3) = true := by rw [bne, c4b]; rfl
                    clear c1 c2 c3 c4
                    refine wp_region_kept (by kernel_rfl) (by kernel_rfl) ?_
                    repeat (go_big_quiet_step (fail))
                    refine wpQuiet_nil ?_
                    intro W2 hb2
                    have HB2 := Lib.hid ((M2.out.call hb2).below)
                    clear hb2
                    go_wp2
                    go_ret
                    exact ⟨_, rfl, HB2.out⟩
                · have c3b : ((p.op : Int) == 4) = false := by rw [beq_eq_false_iff_ne]; omega
                  clear c1 c2 c3
                  refine wp_region_kept (by kernel_rfl) (by kernel_rfl) ?_
                  repeat (go_big_quiet_step (fail))
                  refine wpQuiet_nil ?_
                  intro W2 hb2
                  have HB2 := Lib.hid ((M2.out.call hb2).below)
                  clear hb2
                  go_wp2
                  go_ret
                  exact ⟨_, rfl, HB2.out⟩
              · have c2b : (p.value.kind == (y.kind : Int)) = false := by rw [beq_eq_false_iff_ne]; exact c2
                have c2c : (p.value.kind != (y.kind : Int)) = true := by rw [bne, c2b]; rfl
                clear c1 c2
                refine wp_region_kept (by kernel_rfl) (by kernel_rfl) ?_
                repeat (go_big_quiet_step (fail))
                refine wpQuiet_nil ?_
                intro W2 hb2
                have HB2 := Lib.hid ((M2.out.call hb2).below)
                clear hb2
                go_wp2
                go_ret
                exact ⟨_, rfl, HB2.out⟩
          · have he0b : (ec == 0) = false := by rw [beq_eq_false_iff_ne]; exact he0
            go_wp2
            go_ret
            exact ⟨_, rfl, M2.out.below⟩
set_option maxRecDepth 100000 in
set_option maxHeartbeats 16000000 in
theorem check9_odd (d : Nat) (ih : Check9Hyp d) (p : PredD) (cs : List Value) (s : SchemaD) (scs : List Value) (w : World) (hp : PredR (d + 1) w cs p) (hs : SchemaR w scs s) (hfl : s.fields.length ≤ 1000) (h : p.op = 0 ∨ 8 < p.op) : Calls Try.prog 39 #[.agg cs.toArray, .agg scs.toArray] w (SomeI w) := by
  have HSC := Lib.hid hs
  obtain ⟨ka, kn, kc, rfl, hk1, hk2, hk3, hkids, hpo, hpf, hpv⟩ := hp
  obtain ⟨fa, fnn, fc, rfl, hs1, hs2, hs3, hfs, hs4⟩ := hs
  have HK := Lib.hid hkids
  unfold Check9Hyp at ih
  have HIH := Lib.hid ih
  have HFL := Lib.hid hfl
  have HFS := Lib.hid hfs
  have hkn : kn ≤ 9223372036854775807 := by unfold maxLen at hk2; omega
  have hfn : fnn ≤ 1000 := by have := hfs.1; omega
  obtain ⟨hvs, ⟨hk30, hk31⟩, hvn⟩ := hpv
  have HVS := Lib.hid hvs
  clear ih hkids hk3 hpf hk2 hfs hs3 hs4 hs2 hfl hvs
  by_cases h0 : p.op = 0
  · have hoi : (p.op : Int) = 0 := by omega
    rw [hoi]
    go_enter Try.func39, Try.ntmps39
    go_wp2
    go_ret
    exact ⟨_, rfl, ((Below.refl _ _).alloc (Nat.le_refl _) _).alloc (by simp) _⟩
  · have ho0 : ((p.op : Int) == 0) = false := by rw [beq_eq_false_iff_ne]; omega
    have ho8 : (8 : Int) < (p.op : Int) := by omega
    go_enter Try.func39, Try.ntmps39
    go_wp2
    go_ret
    exact ⟨_, rfl, ((Below.refl _ _).alloc (Nat.le_refl _) _).alloc (by simp) _⟩
theorem check9_all : ∀ d, Check9Hyp d
  | 0 => fun p cs s scs w hp => hp.elim
  | d + 1 => fun p cs s scs w hp hs hfl => by
    have ih := check9_all d
    by_cases h0 : p.op = 0 ∨ 8 < p.op
    · exact check9_odd d ih p cs s scs w hp hs hfl h0
    · by_cases h6 : 6 ≤ p.op
      · exact check9_inner d ih p cs s scs w hp hs hfl h6 (by omega)
      · exact check9_leaf d ih p cs s scs w hp hs hfl (by omega) (by omega)
set_option maxRecDepth 100000 in
set_option maxHeartbeats 8000000 in
theorem Check9_any (d : Nat) (p : PredD) (cs : List Value) (s : SchemaD) (scs : List Value) (w : World) (hp : PredR d w cs p) (hs : SchemaR w scs s) (hfl : s.fields.length ≤ 1000) : Calls Try.prog 15 #[.agg cs.toArray, .agg scs.toArray] w (SomeI w) := by
  have HP := Lib.hid hp
  have HSC := Lib.hid hs
  have HFL := Lib.hid hfl
  obtain ⟨ka, kn, kc, rfl⟩ := hp.shape
  obtain ⟨fa, fnn, fc, rfl, _⟩ := hs
  clear hp hfl
  go_enter Try.func15, Try.ntmps15
  go_wp2_with fail
  obtain ⟨W0, hWW⟩ : ∃ W0 : World, W0 = ((w.alloc (.cells #[.int .u8 (p.op : Int), .int .u32 (p.field : Int), .int .u8 p.value.kind, .int .i64 p.value.n, .string p.value.s, .slice ka kn kc] 42)).alloc (.cells #[.int .u32 (s.id : Int), .slice fa fnn fc] 37)) := ⟨_, rfl⟩
  have hm : Mem w.heap.size [#[.int .u8 (p.op : Int), .int .u32 (p.field : Int), .int .u8 p.value.kind, .int .i64 p.value.n, .string p.value.s, .slice ka kn kc], #[.int .u32 (s.id : Int), .slice fa fnn fc]] w W0 := by rw [hWW]; exact (((Mem.nil w).push (by simp) #[.int .u8 (p.op : Int), .int .u32 (p.field : Int), .int .u8 p.value.kind, .int .i64 p.value.n, .string p.value.s, .slice ka kn kc] 42).push (by simp) #[.int .u32 (s.id : Int), .slice fa fnn fc] 37)
  rw [← hWW]
  clear hWW
  have M0 := Lib.hid hm
  clear hm
  refine (size9_all d p _ 1 _ (PredR.stable d _ _ _ _ M0.out.below HP.out) (by omega) (by omega)).mono ?_
  rintro e w1 ⟨r, rfl, hr1, hr2, hb⟩
  have M1 := Lib.hid (M0.out.call hb)
  clear hb
  by_cases hr : 32 < r
  · go_wp2
    go_ret
    exact ⟨_, rfl, M1.out.below⟩
  · have hri : r ≤ 32 := by omega
    have q0_0 : w1.cell? ⟨w.heap.size, 0, none⟩ = some (.int .u8 (p.op : Int)) := M1.out.cell 0 0 rfl rfl
    have q0_1 : w1.cell? ⟨w.heap.size, 1, none⟩ = some (.int .u32 (p.field : Int)) := M1.out.cell 0 1 rfl rfl
    have q0_2 : w1.cell? ⟨w.heap.size, 2, none⟩ = some (.int .u8 p.value.kind) := M1.out.cell 0 2 rfl rfl
    have q0_3 : w1.cell? ⟨w.heap.size, 3, none⟩ = some (.int .i64 p.value.n) := M1.out.cell 0 3 rfl rfl
    have q0_4 : w1.cell? ⟨w.heap.size, 4, none⟩ = some (.string p.value.s) := M1.out.cell 0 4 rfl rfl
    have q0_5 : w1.cell? ⟨w.heap.size, 5, none⟩ = some (.slice ka kn kc) := M1.out.cell 0 5 rfl rfl
    have q1_0 : w1.cell? ⟨w.heap.size + 1, 0, none⟩ = some (.int .u32 (s.id : Int)) := M1.out.cell 1 0 rfl rfl
    have q1_1 : w1.cell? ⟨w.heap.size + 1, 1, none⟩ = some (.slice fa fnn fc) := M1.out.cell 1 1 rfl rfl
    go_wp2_with fail
    refine (check9_all d p _ s _ _ (PredR.stable d _ _ _ _ M1.out.below HP.out) (SchemaR.stable _ _ _ _ M1.out.below HSC.out) HFL.out).mono ?_
    rintro e w2 ⟨r2, rfl, hb2⟩
    have HB2 := Lib.hid ((M1.out.call hb2).below)
    clear hb2
    go_wp2
    go_ret
    exact ⟨_, rfl, HB2.out⟩
end Go.Proofs.Ytkofaoaglnjkgaa
