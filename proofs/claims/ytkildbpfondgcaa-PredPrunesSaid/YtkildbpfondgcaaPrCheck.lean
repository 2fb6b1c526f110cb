/- pred.Check of any predicate: that it answers. -/
import Derived.Test.YtkildbpfondgcaaPrEx
import Derived.Test.YtkildbpfondgcaaBase
namespace Go.Proofs.Ytkildbpfondgcaa
open Go.RowKit Go.Deep
set_option linter.unusedVariables false
set_option linter.unusedSimpArgs false

structure Box1 (w : World) (g : Nat) (v : Value) : Prop where
  cell : w.cell? ⟨g, 0, none⟩ = some v
  soft : ∀ j, w.frozen? ⟨g, j, none⟩ = false
  lt : g < w.heap.size
theorem Box1.set {w : World} {g : Nat} {v : Value} (h : Box1 w g v) (u : Value) : Box1 (w.setCell ⟨g, 0, none⟩ u) g u := ⟨World.cell?_setCell_same _ _ _ h.cell, fun j => by simpa using h.soft j, by simpa using h.lt⟩
theorem Box1.below {w w' : World} {g : Nat} {v : Value} (h : Box1 w g v) (hb : Below w.heap.size w w') : Box1 w' g v := ⟨(hb.cell (p := ⟨g, 0, none⟩) h.lt).trans h.cell, fun j => (hb.frozen (p := ⟨g, j, none⟩) h.lt).trans (h.soft j), Nat.lt_of_lt_of_le h.lt hb.size⟩
theorem Box1.alloc {w : World} {g : Nat} {v : Value} (h : Box1 w g v) (o : Obj) : Box1 (w.alloc o) g v := h.below ((Below.refl _ _).alloc (Nat.le_refl _) _)
/-- What size leaves: its answer, and the counter's number. -/
def SizePost (g : Nat) (w : World) (e : Ending) (w' : World) : Prop := ∃ (b : Bool) (m : Int), e = .returned (.bool b) ∧ Below g w w' ∧ w'.cell? ⟨g, 0, none⟩ = some (.int .i64 m) ∧ (∀ j, w'.frozen? ⟨g, j, none⟩ = false) ∧ 0 ≤ m ∧ (b = true → m ≤ 32)
def SizeHyp (d : Nat) : Prop := ∀ (p : PredD) (cs : List Value) (z n : Int) (g : Nat) (w0 w : World), PredR d w0 cs p → Below w0.heap.size w0 w → w0.heap.size ≤ g → g < w.heap.size → w.cell? ⟨g, 0, none⟩ = some (.int .i64 n) → (∀ j, w.frozen? ⟨g, j, none⟩ = false) → 0 ≤ n → n ≤ 32 → 1 ≤ z → z ≤ 9 → Calls Try.prog 32 #[.agg cs.toArray, .int .i64 z, .pointer (some ⟨g, 0, none⟩)] w (SizePost g w)
set_option maxRecDepth 100000 in
set_option maxHeartbeats 4000000 in
theorem size_all : ∀ d, SizeHyp d
  | 0 => fun p cs z n g w0 w hp => hp.elim
  | d + 1 => fun p cs z n g w0 w hp hbw hg0 hg hc hf hn1 hn2 hz1 hz2 => by
    have ih := size_all d
    obtain ⟨ka, kn, kc, rfl, hk1, hk2, hk3, hkids, hpo, hpf, hpv⟩ := hp
    have HK := Lib.hid hkids
    have HIH := Lib.hid ih
    have HBW := Lib.hid hbw
    have HW0 := Lib.hid hg0
    have hkn : kn ≤ 9223372036854775807 := by unfold maxLen at hk2; omega
    have hne : ¬ g = w.heap.size := by omega
    have hw1 : IntKind.i64.wrap (n + 1) = n + 1 := wrap_small _ (by omega) (by omega)
    clear ih hkids hk2 hk3 hpv hbw hg0
    unfold SizePost at *
    by_cases h32 : n = 32
    · subst h32
      go_enter Try.func32, Try.ntmps32
      go_wp2
      go_ret
      exact ⟨false, 33, rfl, ((Below.refl g w).setCell (Nat.le_refl _) _).alloc (by simp; omega) _, ((Box1.mk hc hf hg |>.set _).alloc _).cell, ((Box1.mk hc hf hg |>.set _).alloc _).soft, by omega, fun h => by cases h⟩
    · have hn3 : n + 1 ≤ 32 := by omega
      by_cases hz : z = 9
      · subst hz
        go_enter Try.func32, Try.ntmps32
        go_wp2
        go_ret
        exact ⟨false, n + 1, rfl, ((Below.refl g w).setCell (Nat.le_refl _) _).alloc (by simp; omega) _, ((Box1.mk hc hf hg |>.set _).alloc _).cell, ((Box1.mk hc hf hg |>.set _).alloc _).soft, by omega, fun h => by cases h⟩
      · have hz3 : z ≤ 8 := by omega
        go_enter Try.func32, Try.ntmps32
        go_wp2
        obtain ⟨W0, hWW⟩ : ∃ W0 : World, W0 = ((w.setCell ⟨g, 0, none⟩ (.int .i64 (n + 1))).alloc (.cells #[.int .u8 (p.op : Int), .int .u32 (p.field : Int), .int .u8 p.value.kind, .int .i64 p.value.n, .string p.value.s, .slice ka kn kc] 39)) := ⟨_, rfl⟩
        have hbx : Box1 W0 g (.int .i64 (n + 1)) := by rw [hWW]; exact (Box1.mk hc hf hg |>.set _).alloc _
        have hb0 : Below g w W0 := by rw [hWW]; exact ((Below.refl g w).setCell (Nat.le_refl _) _).alloc (by simp; omega) _
        rw [← hWW]
        clear hWW
        have HBX := Lib.hid hbx
        have HB0 := Lib.hid hb0
        clear hbx hb0 hc hf hg hne
        go_loopw [25] (fun i wr => ∃ (k : Nat) (m : Int), k ≤ kn ∧ i = .int .i64 (k : Int) ∧ Box1 wr g (.int .i64 m) ∧ 0 ≤ m ∧ m ≤ 32 ∧ Below g w wr) (fun i _ => kn - (intOf i).toNat)
        case atStart => exact ⟨0, n + 1, Nat.zero_le _, rfl, HBX.out, by omega, by omega, HB0.out⟩
        case round =>
          obtain ⟨k, m, hk, rfl, hbx, hm1, hm2, hb⟩ := hrel
          have HBR := Lib.hid hbx
          have HB := Lib.hid hb
          have hbwr := HBW.out.trans (hb.mono HW0.out)
          have HBWR := Lib.hid hbwr
          clear hbx hb hbwr
          have hk0 : (0 : Int) ≤ (k : Int) := by omega
          by_cases hlt : k < kn
          · have hkn' : (k : Int) < (kn : Int) := by omega
            obtain ⟨b, off, x, kcs, rfl, hbl, hx, hcl, hxr, hcell⟩ := HK.out.at_ hlt
            have HXR := Lib.hid hxr
            obtain ⟨xa, xn, xc, hkcs⟩ := hxr.shape
            subst hkcs
            have e0 := (HBWR.out.cell (p := ⟨b, off + k * 6 + 0, none⟩) hbl).trans (hcell 0 _ rfl)
            have e1 := (HBWR.out.cell (p := ⟨b, off + k * 6 + 1, none⟩) hbl).trans (hcell 1 _ rfl)
            have e2 := (HBWR.out.cell (p := ⟨b, off + k * 6 + 2, none⟩) hbl).trans (hcell 2 _ rfl)
            have e3 := (HBWR.out.cell (p := ⟨b, off + k * 6 + 3, none⟩) hbl).trans (hcell 3 _ rfl)
            have e4 := (HBWR.out.cell (p := ⟨b, off + k * 6 + 4, none⟩) hbl).trans (hcell 4 _ rfl)
            have e5 := (HBWR.out.cell (p := ⟨b, off + k * 6 + 5, none⟩) hbl).trans (hcell 5 _ rfl)
            rw [Nat.add_zero] at e0
            have hq : IntKind.i64.wrap (z + 1) = z + 1 := wrap_small _ (by omega) (by omega)
            clear hcell hx hxr hcl
            go_wp2_with fail
            have hbk := HBR.out.alloc (.cells #[.int .u8 (x.op : Int), .int .u32 (x.field : Int), .int .u8 x.value.kind, .int .i64 x.value.n, .string x.value.s, .slice xa xn xc] 39)
            have hbm := HBWR.out.alloc HBWR.out.size (.cells #[.int .u8 (x.op : Int), .int .u32 (x.field : Int), .int .u8 x.value.kind, .int .i64 x.value.n, .string x.value.s, .slice xa xn xc] 39)
            refine (HIH.out x _ (z + 1) m g w0 _ HXR.out hbm HW0.out hbk.lt hbk.cell hbk.soft hm1 hm2 (by omega) (by omega)).mono ?_
            rintro e w1 ⟨bb, m', rfl, hb1, hc1, hf1, hm3, hm4⟩
            have hb2 := ((HB.out.alloc (Nat.le_of_lt HBR.out.lt) (.cells #[.int .u8 (x.op : Int), .int .u32 (x.field : Int), .int .u8 x.value.kind, .int .i64 x.value.n, .string x.value.s, .slice xa xn xc] 39)).trans hb1)
            have HBX1 := Lib.hid (Box1.mk hc1 hf1 (Nat.lt_of_lt_of_le hbk.lt hb1.size))
            have HB1 := Lib.hid hb2
            have HM4 := Lib.hid hm4
            clear hbk hbm hb1 hc1 hf1 hm4 hb2 e0 e1 e2 e3 e4 e5
            cases bb
            · go_wp2
              go_ret
              exact ⟨false, m', rfl, HB1.out, HBX1.out.cell, HBX1.out.soft, hm3, fun h => by cases h⟩
            · have hm5 := HM4.out rfl
              go_wp2
              go_roundw
              case rel => exact ⟨k + 1, m', by omega, by go_num, HBX1.out, hm3, hm5, HB1.out⟩
              case measure => simp [intOf] <;> omega
          · have hkn' : (kn : Int) ≤ (k : Int) := by omega
            go_wp2
            go_ret
            exact ⟨true, m, rfl, HB.out, HBR.out.cell, HBR.out.soft, hm1, fun _ => hm2⟩
def AnyInt (w : World) (e : Ending) (w' : World) : Prop := ∃ r : Int, e = .returned (.int .i64 r) ∧ Below w.heap.size w w'
set_option maxRecDepth 100000 in
set_option maxHeartbeats 8000000 in
theorem leaf_any (d : Nat) (p : PredD) (cs : List Value) (s : SchemaD) (scs : List Value) (w : World) (hp : PredR d w cs p) (hs : SchemaR w scs s) (hfl : s.fields.length ≤ 1000) :
    Calls Try.prog 53 #[.agg cs.toArray, .agg scs.toArray] w (AnyInt w) := by
  obtain ⟨ka, kn, kc, rfl⟩ := hp.shape
  have hkn : kn ≤ 9223372036854775807 := by
    cases d with
    | zero => exact hp.elim
    | succ d =>
      obtain ⟨ka', kn', kc', he, hk1, hk2, _⟩ := hp
      simp only [List.cons.injEq, Value.slice.injEq, true_and, and_true] at he
      obtain ⟨_, rfl, rfl⟩ := he
      unfold maxLen at hk2; omega
  have hpk : 0 ≤ p.value.kind := by
    cases d with
    | zero => exact hp.elim
    | succ d =>
      obtain ⟨ka', kn', kc', he, hk1, hk2, _, _, _, _, hv⟩ := hp
      exact hv.2.1.1
  have HSC := Lib.hid hs
  obtain ⟨fa, fnn, fc, rfl, hs1, hs2, hs3, hfs, hs4⟩ := hs
  have HFS := Lib.hid hfs
  have hfl2 := hfs.1
  have hpl : ∃ (i : Int) (ok : Bool), (ok = true → 0 ≤ i ∧ i < (fnn : Int)) ∧ ∀ (W : World), SchemaR W [.int .u32 (s.id : Int), .slice fa fnn fc] s → Calls Try.prog 37 #[.agg #[.int .u32 (s.id : Int), .slice fa fnn fc], .int .u32 (p.field : Int)] W (ValIs (.tuple #[.int .i64 i, .bool ok]) W) := by
    have hpr := idxF_lt (hasId p.field) s.fields
    refine ⟨if placeI s.fields p.field < 0 then 0 else placeI s.fields p.field, decide (0 ≤ placeI s.fields p.field), fun h => ?_, fun W h => place_calls _ s p.field W h hfl⟩
    change -1 ≤ placeI s.fields p.field ∧ placeI s.fields p.field < _ at hpr
    have h0 : 0 ≤ placeI s.fields p.field := by simpa using h
    rw [if_neg (by omega)]; omega
  obtain ⟨i, ok, hok, hpl⟩ := hpl
  have HPL := Lib.hid hpl
  have HO := Lib.hid (fun W => (both p.value hpk W).2)
  have HK := Lib.hid (fun W => kindOf_same (goodVal p.value) W)
  simp only [CellD.cells] at HO
  generalize goodVal p.value = gv at *
  generalize chk p.value = ch at *
  unfold ValIs at HPL HO
  have HFX := Lib.hid (fun (h0 : 0 ≤ i) (h1 : i < (fnn : Int)) => HFS.out.at_ (i := i.toNat) (by omega))
  clear hpl hp hfs hs3 hs4 hs1 hs2
  unfold AnyInt
  by_cases hk0 : kn = 0
  · subst hk0
    go_enter Try.func53, Try.ntmps53
    go_wp2_with fail
    obtain ⟨W0, hWW⟩ : ∃ W0 : World, W0 = ((w.alloc (.cells #[.int .u8 (p.op : Int), .int .u32 (p.field : Int), .int .u8 p.value.kind, .int .i64 p.value.n, .string p.value.s, .slice ka 0 kc] 39)).alloc (.cells #[.int .u32 (s.id : Int), .slice fa fnn fc] 42)) := ⟨_, rfl⟩
    have hm : Mem w.heap.size [#[.int .u8 (p.op : Int), .int .u32 (p.field : Int), .int .u8 p.value.kind, .int .i64 p.value.n, .string p.value.s, .slice ka 0 kc], #[.int .u32 (s.id : Int), .slice fa fnn fc]] w W0 := by rw [hWW]; exact (((Mem.nil w).push (by simp) #[.int .u8 (p.op : Int), .int .u32 (p.field : Int), .int .u8 p.value.kind, .int .i64 p.value.n, .string p.value.s, .slice ka 0 kc] 39).push (by simp) #[.int .u32 (s.id : Int), .slice fa fnn fc] 42)
    rw [← hWW]
    clear hWW
    have M0 := Lib.hid hm
    clear hm
    refine (HPL.out _ (SchemaR.stable _ _ _ _ M0.out.below HSC.out)).mono ?_
    rintro e w1 ⟨rfl, hb⟩
    have hm : Mem w.heap.size [#[.int .u8 (p.op : Int), .int .u32 (p.field : Int), .int .u8 p.value.kind, .int .i64 p.value.n, .string p.value.s, .slice ka 0 kc], #[.int .u32 (s.id : Int), .slice fa fnn fc]] w w1 := M0.out.call hb
    have Mw1 := Lib.hid hm
    clear hm
    clear hb
    cases ok
    · have q0_0 : w1.cell? ⟨w.heap.size, 0, none⟩ = some (.int .u8 (p.op : Int)) := Mw1.out.cell 0 0 rfl rfl
      have q0_1 : w1.cell? ⟨w.heap.size, 1, none⟩ = some (.int .u32 (p.field : Int)) := Mw1.out.cell 0 1 rfl rfl
      have q0_2 : w1.cell? ⟨w.heap.size, 2, none⟩ = some (.int .u8 p.value.kind) := Mw1.out.cell 0 2 rfl rfl
      have q0_3 : w1.cell? ⟨w.heap.size, 3, none⟩ = some (.int .i64 p.value.n) := Mw1.out.cell 0 3 rfl rfl
      have q0_4 : w1.cell? ⟨w.heap.size, 4, none⟩ = some (.string p.value.s) := Mw1.out.cell 0 4 rfl rfl
      have q0_5 : w1.cell? ⟨w.heap.size, 5, none⟩ = some (.slice ka 0 kc) := Mw1.out.cell 0 5 rfl rfl
      have q1_0 : w1.cell? ⟨w.heap.size + 1, 0, none⟩ = some (.int .u32 (s.id : Int)) := Mw1.out.cell 1 0 rfl rfl
      have q1_1 : w1.cell? ⟨w.heap.size + 1, 1, none⟩ = some (.slice fa fnn fc) := Mw1.out.cell 1 1 rfl rfl
      have z0 : w.heap.size < w1.heap.size := Mw1.out.lt 0 (by simp)
      have z1 : w.heap.size + 1 < w1.heap.size := Mw1.out.lt 1 (by simp)
      go_wp2
      go_ret
      exact ⟨81, rfl, Mw1.out.below⟩
    · have hoi := hok rfl
      clear hok
      by_cases ho5 : p.op = 5
      · have hob : ((p.op : Int) == 5) = true := by rw [beq_iff_eq]; omega
        clear ho5
        have q0_0 : w1.cell? ⟨w.heap.size, 0, none⟩ = some (.int .u8 (p.op : Int)) := Mw1.out.cell 0 0 rfl rfl
        have q0_1 : w1.cell? ⟨w.heap.size, 1, none⟩ = some (.int .u32 (p.field : Int)) := Mw1.out.cell 0 1 rfl rfl
        have q0_2 : w1.cell? ⟨w.heap.size, 2, none⟩ = some (.int .u8 p.value.kind) := Mw1.out.cell 0 2 rfl rfl
        have q0_3 : w1.cell? ⟨w.heap.size, 3, none⟩ = some (.int .i64 p.value.n) := Mw1.out.cell 0 3 rfl rfl
        have q0_4 : w1.cell? ⟨w.heap.size, 4, none⟩ = some (.string p.value.s) := Mw1.out.cell 0 4 rfl rfl
        have q0_5 : w1.cell? ⟨w.heap.size, 5, none⟩ = some (.slice ka 0 kc) := Mw1.out.cell 0 5 rfl rfl
        have q1_0 : w1.cell? ⟨w.heap.size + 1, 0, none⟩ = some (.int .u32 (s.id : Int)) := Mw1.out.cell 1 0 rfl rfl
        have q1_1 : w1.cell? ⟨w.heap.size + 1, 1, none⟩ = some (.slice fa fnn fc) := Mw1.out.cell 1 1 rfl rfl
        have z0 : w.heap.size < w1.heap.size := Mw1.out.lt 0 (by simp)
        have z1 : w.heap.size + 1 < w1.heap.size := Mw1.out.lt 1 (by simp)
        go_wp2
        all_goals go_ret
        all_goals first | exact ⟨90, rfl, Mw1.out.below⟩ | exact ⟨0, rfl, Mw1.out.below⟩
      · have hob : ((p.op : Int) == 5) = false := by rw [beq_eq_false_iff_ne]; omega
        clear ho5
        have q0_0 : w1.cell? ⟨w.heap.size, 0, none⟩ = some (.int .u8 (p.op : Int)) := Mw1.out.cell 0 0 rfl rfl
        have q0_1 : w1.cell? ⟨w.heap.size, 1, none⟩ = some (.int .u32 (p.field : Int)) := Mw1.out.cell 0 1 rfl rfl
        have q0_2 : w1.cell? ⟨w.heap.size, 2, none⟩ = some (.int .u8 p.value.kind) := Mw1.out.cell 0 2 rfl rfl
        have q0_3 : w1.cell? ⟨w.heap.size, 3, none⟩ = some (.int .i64 p.value.n) := Mw1.out.cell 0 3 rfl rfl
        have q0_4 : w1.cell? ⟨w.heap.size, 4, none⟩ = some (.string p.value.s) := Mw1.out.cell 0 4 rfl rfl
        have q0_5 : w1.cell? ⟨w.heap.size, 5, none⟩ = some (.slice ka 0 kc) := Mw1.out.cell 0 5 rfl rfl
        have q1_0 : w1.cell? ⟨w.heap.size + 1, 0, none⟩ = some (.int .u32 (s.id : Int)) := Mw1.out.cell 1 0 rfl rfl
        have q1_1 : w1.cell? ⟨w.heap.size + 1, 1, none⟩ = some (.slice fa fnn fc) := Mw1.out.cell 1 1 rfl rfl
        have z0 : w.heap.size < w1.heap.size := Mw1.out.lt 0 (by simp)
        have z1 : w.heap.size + 1 < w1.heap.size := Mw1.out.lt 1 (by simp)
        go_wp2_with fail
        refine (HO.out _).mono ?_
        rintro e w1 ⟨rfl, hb⟩
        clear q0_0 q0_1 q0_2 q0_3 q0_4 q0_5 q1_0 q1_1 z0 z1
        have hm : Mem w.heap.size [#[.int .u8 (p.op : Int), .int .u32 (p.field : Int), .int .u8 p.value.kind, .int .i64 p.value.n, .string p.value.s, .slice ka 0 kc], #[.int .u32 (s.id : Int), .slice fa fnn fc]] w w1 := Mw1.out.call hb
        have Mw1 := Lib.hid hm
        clear hm
        clear hb
        have q0_0 : w1.cell? ⟨w.heap.size, 0, none⟩ = some (.int .u8 (p.op : Int)) := Mw1.out.cell 0 0 rfl rfl
        have q0_1 : w1.cell? ⟨w.heap.size, 1, none⟩ = some (.int .u32 (p.field : Int)) := Mw1.out.cell 0 1 rfl rfl
        have q0_2 : w1.cell? ⟨w.heap.size, 2, none⟩ = some (.int .u8 p.value.kind) := Mw1.out.cell 0 2 rfl rfl
        have q0_3 : w1.cell? ⟨w.heap.size, 3, none⟩ = some (.int .i64 p.value.n) := Mw1.out.cell 0 3 rfl rfl
        have q0_4 : w1.cell? ⟨w.heap.size, 4, none⟩ = some (.string p.value.s) := Mw1.out.cell 0 4 rfl rfl
        have q0_5 : w1.cell? ⟨w.heap.size, 5, none⟩ = some (.slice ka 0 kc) := Mw1.out.cell 0 5 rfl rfl
        have q1_0 : w1.cell? ⟨w.heap.size + 1, 0, none⟩ = some (.int .u32 (s.id : Int)) := Mw1.out.cell 1 0 rfl rfl
        have q1_1 : w1.cell? ⟨w.heap.size + 1, 1, none⟩ = some (.slice fa fnn fc) := Mw1.out.cell 1 1 rfl rfl
        have z0 : w.heap.size < w1.heap.size := Mw1.out.lt 0 (by simp)
        have z1 : w.heap.size + 1 < w1.heap.size := Mw1.out.lt 1 (by simp)
        by_cases hch : ch = 0
        · subst hch
          obtain ⟨b, off, f, fcs, hfa, hbl, hx, hcl, hr, hcell⟩ := HFX.out hoi.1 hoi.2
          obtain ⟨rfl, _⟩ := hr
          obtain ⟨iN, rfl⟩ : ∃ iN : Nat, i = (iN : Int) := ⟨i.toNat, by omega⟩
          simp only [Int.toNat_natCast] at hx hcell
          have f2 := Mw1.out.old (p := ⟨b, off + iN * 4 + 2, none⟩) hbl (hcell 2 _ rfl)
          have hi1 : (0 : Int) ≤ (iN : Int) := hoi.1
          have hi2 : (iN : Int) < (fnn : Int) := hoi.2
          have hi3 : iN < fnn := by omega
          clear hcell hcl hx
          subst hfa
          by_cases hfk : f.kind = 0
          · have hfkb : (f.kind == 0) = true := by simp [hfk]
            go_wp2
            go_ret
            exact ⟨10, rfl, Mw1.out.below⟩
          · have hfkb : (f.kind == 0) = false := by simp [hfk]
            go_wp2_with fail
            refine (HK.out _).mono ?_
            rintro e w3 ⟨rfl, rfl⟩
            generalize gv.cell.kind = gk at *
            by_cases hgk : gk = f.kind
            · have hgb : (gk != f.kind) = false := by simp [hgk]
              clear hgk
              by_cases ho4 : p.op = 4
              · have ho4b : ((p.op : Int) == 4) = true := by rw [beq_iff_eq]; omega
                clear ho4
                go_wp2
                all_goals go_ret
                all_goals first | exact ⟨10, rfl, Mw1.out.below⟩ | exact ⟨0, rfl, Mw1.out.below⟩
              · have ho4b : ((p.op : Int) == 4) = false := by rw [beq_eq_false_iff_ne]; omega
                clear ho4
                go_wp2
                go_ret
                exact ⟨0, rfl, Mw1.out.below⟩
            · have hgb : (gk != f.kind) = true := by simp [hgk]
              clear hgk
              go_wp2
              go_ret
              exact ⟨10, rfl, Mw1.out.below⟩
        · have hchb : (ch != 0) = true := by simp [hch]
          by_cases hc1 : ch = 1
          · have hc1b : (ch == 1) = true := by simp [hc1]
            go_wp2
            go_ret
            exact ⟨90, rfl, Mw1.out.below⟩
          · have hc1b : (ch == 1) = false := by simp [hc1]
            go_wp2
            go_ret
            exact ⟨ch, rfl, Mw1.out.below⟩
  · have hk0i : (0 : Int) < (kn : Int) := by omega
    go_enter Try.func53, Try.ntmps53
    go_wp2
    go_ret
    exact ⟨90, rfl, ((Below.refl _ _).alloc (Nat.le_refl _) _).alloc (by simp) _⟩
def CheckHyp (d : Nat) : Prop := ∀ (p : PredD) (cs : List Value) (s : SchemaD) (scs : List Value) (w : World), PredR d w cs p → SchemaR w scs s → s.fields.length ≤ 1000 → Calls Try.prog 33 #[.agg cs.toArray, .agg scs.toArray] w (AnyInt w)
set_option maxRecDepth 100000 in
set_option maxHeartbeats 16000000 in
theorem check_all : ∀ d, CheckHyp d
  | 0 => fun p cs s scs w hp => hp.elim
  | d + 1 => fun p cs s scs w hp hs hfl => by
    have ih := check_all d
    have HLF := Lib.hid (fun W hp hs => leaf_any (d + 1) p cs s scs W hp hs hfl)
    have HP := Lib.hid hp
    obtain ⟨ka, kn, kc, rfl, hk1, hk2, hk3, hkids, hpo, hpf, hpv⟩ := hp
    have HK := Lib.hid hkids
    have HIH := Lib.hid ih
    have HFL := Lib.hid hfl
    have HSC := Lib.hid hs
    obtain ⟨fa, fnn, fc, rfl, hs1, hs2, hs3, hfs, hs4⟩ := hs
    have hkn : kn ≤ 9223372036854775807 := by unfold maxLen at hk2; omega
    clear ih hkids hk2 hk3 hpv hs1 hs2 hs3 hfs hs4 hfl
    unfold AnyInt at *
    by_cases hleaf : p.op = 1 ∨ p.op = 2 ∨ p.op = 3 ∨ p.op = 4 ∨ p.op = 5
    · have hbs : ∀ j : Nat, ((p.op : Int) == (j : Int)) = decide (p.op = j) := fun j => by
        by_cases h : p.op = j
        · simp [h]
        · rw [decide_eq_false h, beq_eq_false_iff_ne]; omega
      obtain ⟨q, hq, hq1, hq5⟩ : ∃ q : Nat, p.op = q ∧ 1 ≤ q ∧ q ≤ 5 := ⟨p.op, rfl, by omega, by omega⟩
      have hqq : (p.op : Int) = 1 ∨ (p.op : Int) = 2 ∨ (p.op : Int) = 3 ∨ (p.op : Int) = 4 ∨ (p.op : Int) = 5 := by omega
      clear hbs hleaf hq hq1 hq5
      go_enter Try.func33, Try.ntmps33
      rcases hqq with hqq | hqq | hqq | hqq | hqq
      all_goals
        rw [hqq]
        rw [hqq] at HLF HP
        go_wp2_with fail
        refine (HLF.out _ (PredR.stable _ _ _ _ _ (((Below.refl _ _).alloc (Nat.le_refl _) _).alloc (by simp) _) HP.out) (SchemaR.stable _ _ _ _ (((Below.refl _ _).alloc (Nat.le_refl _) _).alloc (by simp) _) HSC.out)).mono ?_
        rintro e w1 ⟨r, rfl, hb⟩
        have HB1 := Lib.hid (Below.trans (B := w.heap.size) (((Below.refl _ _).alloc (Nat.le_refl _) _).alloc (by simp) _) (hb.mono (by simp; omega)))
        clear hb
        go_wp2
        go_ret
        exact ⟨r, rfl, HB1.out⟩
    · have hneg : ((p.op : Int) == 1) = false ∧ ((p.op : Int) == 2) = false ∧ ((p.op : Int) == 3) = false ∧ ((p.op : Int) == 4) = false ∧ ((p.op : Int) == 5) = false := by simp only [beq_eq_false_iff_ne]; omega
      obtain ⟨n1, n2, n3, n4, n5⟩ := hneg
      by_cases hnode : p.op = 6 ∨ p.op = 7 ∨ p.op = 8
      · have hqq : (p.op : Int) = 6 ∨ (p.op : Int) = 7 ∨ (p.op : Int) = 8 := by omega
        clear n1 n2 n3 n4 n5 hleaf hnode
        go_enter Try.func33, Try.ntmps33
        by_cases hf0 : p.field = 0
        · have hf0i : (p.field : Int) = 0 := by omega
          rw [hf0i]
          rcases hqq with hqq | hqq | hqq
          · rw [hqq]
            go_wp2_with fail
            all_goals (try (go_ret; exact ⟨90, rfl, (((Below.refl _ _).alloc (Nat.le_refl _) _).alloc (by simp) _)⟩))
            obtain ⟨W0, hWW⟩ : ∃ W0 : World, W0 = ((w.alloc (.cells #[.int .u8 6, .int .u32 0, .int .u8 0, .int .i64 0, .string p.value.s, .slice ka kn kc] 39)).alloc (.cells #[.int .u32 (s.id : Int), .slice fa fnn fc] 42)) := ⟨_, rfl⟩
            have hbx : Box W0 (w.heap.size + 1) #[.int .u32 (s.id : Int), .slice fa fnn fc] := by rw [hWW]; exact Box.at_ _ _ _ _ (by simp)
            have hb0 : Below w.heap.size w W0 := by rw [hWW]; exact (((Below.refl _ _).alloc (Nat.le_refl _) _).alloc (by simp) _)
            rw [← hWW]
            clear hWW
            have HBX := Lib.hid hbx
            have HB0 := Lib.hid hb0
            clear hbx hb0
            go_loopw [46] (fun i wr => ∃ k : Nat, k ≤ kn ∧ i = .int .i64 (k : Int) ∧ Box wr (w.heap.size + 1) #[.int .u32 (s.id : Int), .slice fa fnn fc] ∧ Below w.heap.size w wr) (fun i _ => kn - (intOf i).toNat)
            case atStart => exact ⟨0, Nat.zero_le _, rfl, HBX.out, HB0.out⟩
            case round =>
              obtain ⟨k, hk, rfl, hbx, hb⟩ := hrel
              have HBR := Lib.hid hbx
              have HB := Lib.hid hb
              clear hbx hb
              have hk0 : (0 : Int) ≤ (k : Int) := by omega
              by_cases hlt : k < kn
              · have hkn' : (k : Int) < (kn : Int) := by omega
                obtain ⟨b, off, x, kcs, rfl, hbl, hx, hcl, hxr, hcell⟩ := HK.out.at_ hlt
                have HXR := Lib.hid hxr
                obtain ⟨xa, xn, xc, hkcs⟩ := hxr.shape
                subst hkcs
                have e0 := (HB.out.cell (p := ⟨b, off + k * 6 + 0, none⟩) hbl).trans (hcell 0 _ rfl)
                have e1 := (HB.out.cell (p := ⟨b, off + k * 6 + 1, none⟩) hbl).trans (hcell 1 _ rfl)
                have e2 := (HB.out.cell (p := ⟨b, off + k * 6 + 2, none⟩) hbl).trans (hcell 2 _ rfl)
                have e3 := (HB.out.cell (p := ⟨b, off + k * 6 + 3, none⟩) hbl).trans (hcell 3 _ rfl)
                have e4 := (HB.out.cell (p := ⟨b, off + k * 6 + 4, none⟩) hbl).trans (hcell 4 _ rfl)
                have e5 := (HB.out.cell (p := ⟨b, off + k * 6 + 5, none⟩) hbl).trans (hcell 5 _ rfl)
                rw [Nat.add_zero] at e0
                have y0 : wr.cell? ⟨w.heap.size + 1, 0, none⟩ = some (.int .u32 (s.id : Int)) := HBR.out.cell 0 rfl
                have y1 : wr.cell? ⟨w.heap.size + 1, 1, none⟩ = some (.slice fa fnn fc) := HBR.out.cell 1 rfl
                have z1 := HBR.out.lt
                clear hcell hx hxr hcl
                go_wp2_with fail
                have hbm := HB.out.alloc HB.out.size (.cells #[.int .u8 (x.op : Int), .int .u32 (x.field : Int), .int .u8 x.value.kind, .int .i64 x.value.n, .string x.value.s, .slice xa xn xc] 39)
                refine (HIH.out x _ s _ _ (PredR.stable d _ _ _ _ hbm HXR.out) (SchemaR.stable _ _ _ _ hbm HSC.out) HFL.out).mono ?_
                rintro e w1 ⟨r, rfl, hb1⟩
                have HBX1 := Lib.hid ((HBR.out.alloc (.cells #[.int .u8 (x.op : Int), .int .u32 (x.field : Int), .int .u8 x.value.kind, .int .i64 x.value.n, .string x.value.s, .slice xa xn xc] 39)).call hb1)
                have HB1 := Lib.hid (hbm.trans (hb1.mono (by have := HB.out.size; simp; omega)))
                clear hbm hb1 e0 e1 e2 e3 e4 e5 y0 y1 z1
                by_cases hr0 : r = 0
                · subst hr0
                  go_wp2
                  go_roundw
                  case rel => exact ⟨k + 1, by omega, by go_num, HBX1.out, HB1.out⟩
                  case measure => simp [intOf] <;> omega
                · have hrb : (r != 0) = true := by simp [hr0]
                  go_wp2
                  go_ret
                  exact ⟨r, rfl, HB1.out⟩
              · have hkn' : (kn : Int) ≤ (k : Int) := by omega
                go_wp2
                go_ret
                exact ⟨0, rfl, HB.out⟩
          · rw [hqq]
            go_wp2_with fail
            all_goals (try (go_ret; exact ⟨90, rfl, (((Below.refl _ _).alloc (Nat.le_refl _) _).alloc (by simp) _)⟩))
            obtain ⟨W0, hWW⟩ : ∃ W0 : World, W0 = ((w.alloc (.cells #[.int .u8 7, .int .u32 0, .int .u8 0, .int .i64 0, .string p.value.s, .slice ka kn kc] 39)).alloc (.cells #[.int .u32 (s.id : Int), .slice fa fnn fc] 42)) := ⟨_, rfl⟩
            have hbx : Box W0 (w.heap.size + 1) #[.int .u32 (s.id : Int), .slice fa fnn fc] := by rw [hWW]; exact Box.at_ _ _ _ _ (by simp)
            have hb0 : Below w.heap.size w W0 := by rw [hWW]; exact (((Below.refl _ _).alloc (Nat.le_refl _) _).alloc (by simp) _)
            rw [← hWW]
            clear hWW
            have HBX := Lib.hid hbx
            have HB0 := Lib.hid hb0
            clear hbx hb0
            go_loopw [46] (fun i wr => ∃ k : Nat, k ≤ kn ∧ i = .int .i64 (k : Int) ∧ Box wr (w.heap.size + 1) #[.int .u32 (s.id : Int), .slice fa fnn fc] ∧ Below w.heap.size w wr) (fun i _ => kn - (intOf i).toNat)
            case atStart => exact ⟨0, Nat.zero_le _, rfl, HBX.out, HB0.out⟩
            case round =>
              obtain ⟨k, hk, rfl, hbx, hb⟩ := hrel
              have HBR := Lib.hid hbx
              have HB := Lib.hid hb
              clear hbx hb
              have hk0 : (0 : Int) ≤ (k : Int) := by omega
              by_cases hlt : k < kn
              · have hkn' : (k : Int) < (kn : Int) := by omega
                obtain ⟨b, off, x, kcs, rfl, hbl, hx, hcl, hxr, hcell⟩ := HK.out.at_ hlt
                have HXR := Lib.hid hxr
                obtain ⟨xa, xn, xc, hkcs⟩ := hxr.shape
                subst hkcs
                have e0 := (HB.out.cell (p := ⟨b, off + k * 6 + 0, none⟩) hbl).trans (hcell 0 _ rfl)
                have e1 := (HB.out.cell (p := ⟨b, off + k * 6 + 1, none⟩) hbl).trans (hcell 1 _ rfl)
                have e2 := (HB.out.cell (p := ⟨b, off + k * 6 + 2, none⟩) hbl).trans (hcell 2 _ rfl)
                have e3 := (HB.out.cell (p := ⟨b, off + k * 6 + 3, none⟩) hbl).trans (hcell 3 _ rfl)
                have e4 := (HB.out.cell (p := ⟨b, off + k * 6 + 4, none⟩) hbl).trans (hcell 4 _ rfl)
                have e5 := (HB.out.cell (p := ⟨b, off + k * 6 + 5, none⟩) hbl).trans (hcell 5 _ rfl)
                rw [Nat.add_zero] at e0
                have y0 : wr.cell? ⟨w.heap.size + 1, 0, none⟩ = some (.int .u32 (s.id : Int)) := HBR.out.cell 0 rfl
                have y1 : wr.cell? ⟨w.heap.size + 1, 1, none⟩ = some (.slice fa fnn fc) := HBR.out.cell 1 rfl
                have z1 := HBR.out.lt
                clear hcell hx hxr hcl
                go_wp2_with fail
                have hbm := HB.out.alloc HB.out.size (.cells #[.int .u8 (x.op : Int), .int .u32 (x.field : Int), .int .u8 x.value.kind, .int .i64 x.value.n, .string x.value.s, .slice xa xn xc] 39)
                refine (HIH.out x _ s _ _ (PredR.stable d _ _ _ _ hbm HXR.out) (SchemaR.stable _ _ _ _ hbm HSC.out) HFL.out).mono ?_
                rintro e w1 ⟨r, rfl, hb1⟩
                have HBX1 := Lib.hid ((HBR.out.alloc (.cells #[.int .u8 (x.op : Int), .int .u32 (x.field : Int), .int .u8 x.value.kind, .int .i64 x.value.n, .string x.value.s, .slice xa xn xc] 39)).call hb1)
                have HB1 := Lib.hid (hbm.trans (hb1.mono (by have := HB.out.size; simp; omega)))
                clear hbm hb1 e0 e1 e2 e3 e4 e5 y0 y1 z1
                by_cases hr0 : r = 0
                · subst hr0
                  go_wp2
                  go_roundw
                  case rel => exact ⟨k + 1, by omega, by go_num, HBX1.out, HB1.out⟩
                  case measure => simp [intOf] <;> omega
                · have hrb : (r != 0) = true := by simp [hr0]
                  go_wp2
                  go_ret
                  exact ⟨r, rfl, HB1.out⟩
              · have hkn' : (kn : Int) ≤ (k : Int) := by omega
                go_wp2
                go_ret
                exact ⟨0, rfl, HB.out⟩
          · rw [hqq]
            by_cases hkn1 : kn = 1
            · subst hkn1
              go_wp2_with fail
              all_goals (try (go_ret; exact ⟨90, rfl, (((Below.refl _ _).alloc (Nat.le_refl _) _).alloc (by simp) _)⟩))
              obtain ⟨W0, hWW⟩ : ∃ W0 : World, W0 = ((w.alloc (.cells #[.int .u8 8, .int .u32 0, .int .u8 0, .int .i64 0, .string p.value.s, .slice ka 1 kc] 39)).alloc (.cells #[.int .u32 (s.id : Int), .slice fa fnn fc] 42)) := ⟨_, rfl⟩
              have hbx : Box W0 (w.heap.size + 1) #[.int .u32 (s.id : Int), .slice fa fnn fc] := by rw [hWW]; exact Box.at_ _ _ _ _ (by simp)
              have hb0 : Below w.heap.size w W0 := by rw [hWW]; exact (((Below.refl _ _).alloc (Nat.le_refl _) _).alloc (by simp) _)
              rw [← hWW]
              clear hWW
              have HBX := Lib.hid hbx
              have HB0 := Lib.hid hb0
              clear hbx hb0
              go_loopw [46] (fun i wr => ∃ k : Nat, k ≤ 1 ∧ i = .int .i64 (k : Int) ∧ Box wr (w.heap.size + 1) #[.int .u32 (s.id : Int), .slice fa fnn fc] ∧ Below w.heap.size w wr) (fun i _ => 1 - (intOf i).toNat)
              case atStart => exact ⟨0, Nat.zero_le _, rfl, HBX.out, HB0.out⟩
              case round =>
                obtain ⟨k, hk, rfl, hbx, hb⟩ := hrel
                have HBR := Lib.hid hbx
                have HB := Lib.hid hb
                clear hbx hb
                have hk0 : (0 : Int) ≤ (k : Int) := by omega
                by_cases hlt : k < 1
                · have hkn' : (k : Int) < (1 : Int) := by omega
                  obtain ⟨b, off, x, kcs, rfl, hbl, hx, hcl, hxr, hcell⟩ := HK.out.at_ hlt
                  have HXR := Lib.hid hxr
                  obtain ⟨xa, xn, xc, hkcs⟩ := hxr.shape
                  subst hkcs
                  have e0 := (HB.out.cell (p := ⟨b, off + k * 6 + 0, none⟩) hbl).trans (hcell 0 _ rfl)
                  have e1 := (HB.out.cell (p := ⟨b, off + k * 6 + 1, none⟩) hbl).trans (hcell 1 _ rfl)
                  have e2 := (HB.out.cell (p := ⟨b, off + k * 6 + 2, none⟩) hbl).trans (hcell 2 _ rfl)
                  have e3 := (HB.out.cell (p := ⟨b, off + k * 6 + 3, none⟩) hbl).trans (hcell 3 _ rfl)
                  have e4 := (HB.out.cell (p := ⟨b, off + k * 6 + 4, none⟩) hbl).trans (hcell 4 _ rfl)
                  have e5 := (HB.out.cell (p := ⟨b, off + k * 6 + 5, none⟩) hbl).trans (hcell 5 _ rfl)
                  rw [Nat.add_zero] at e0
                  have y0 : wr.cell? ⟨w.heap.size + 1, 0, none⟩ = some (.int .u32 (s.id : Int)) := HBR.out.cell 0 rfl
                  have y1 : wr.cell? ⟨w.heap.size + 1, 1, none⟩ = some (.slice fa fnn fc) := HBR.out.cell 1 rfl
                  have z1 := HBR.out.lt
                  clear hcell hx hxr hcl
                  go_wp2_with fail
                  have hbm := HB.out.alloc HB.out.size (.cells #[.int .u8 (x.op : Int), .int .u32 (x.field : Int), .int .u8 x.value.kind, .int .i64 x.value.n, .string x.value.s, .slice xa xn xc] 39)
                  refine (HIH.out x _ s _ _ (PredR.stable d _ _ _ _ hbm HXR.out) (SchemaR.stable _ _ _ _ hbm HSC.out) HFL.out).mono ?_
                  rintro e w1 ⟨r, rfl, hb1⟩
                  have HBX1 := Lib.hid ((HBR.out.alloc (.cells #[.int .u8 (x.op : Int), .int .u32 (x.field : Int), .int .u8 x.value.kind, .int .i64 x.value.n, .string x.value.s, .slice xa xn xc] 39)).call hb1)
                  have HB1 := Lib.hid (hbm.trans (hb1.mono (by have := HB.out.size; simp; omega)))
                  clear hbm hb1 e0 e1 e2 e3 e4 e5 y0 y1 z1
                  by_cases hr0 : r = 0
                  · subst hr0
                    go_wp2
                    go_roundw
                    case rel => exact ⟨k + 1, by omega, by go_num, HBX1.out, HB1.out⟩
                    case measure => simp [intOf] <;> omega
                  · have hrb : (r != 0) = true := by simp [hr0]
                    go_wp2
                    go_ret
                    exact ⟨r, rfl, HB1.out⟩
                · have hkn' : (1 : Int) ≤ (k : Int) := by omega
                  go_wp2
                  go_ret
                  exact ⟨0, rfl, HB.out⟩
            · have hk1b : ((kn : Int) != 1) = true := by simp; omega
              have hk1c : ¬ (kn : Int) = 1 := by omega
              go_wp2_with fail
              all_goals (go_ret; exact ⟨90, rfl, (((Below.refl _ _).alloc (Nat.le_refl _) _).alloc (by simp) _)⟩)
        · have hf0b : ((p.field : Int) != 0) = true := by simp; omega
          have hf00 : ¬ (p.field : Int) = 0 := by omega
          rcases hqq with hqq | hqq | hqq
          all_goals
            rw [hqq]
            go_wp2
            go_ret
            exact ⟨90, rfl, (((Below.refl _ _).alloc (Nat.le_refl _) _).alloc (by simp) _)⟩
      · have hneg : ((p.op : Int) == 6) = false ∧ ((p.op : Int) == 7) = false ∧ ((p.op : Int) == 8) = false := by simp only [beq_eq_false_iff_ne]; omega
        obtain ⟨n6, n7, n8⟩ := hneg
        clear hleaf hnode
        go_enter Try.func33, Try.ntmps33
        go_wp2
        go_ret
        exact ⟨90, rfl, (((Below.refl _ _).alloc (Nat.le_refl _) _).alloc (by simp) _)⟩
set_option maxRecDepth 100000 in
set_option maxHeartbeats 4000000 in
theorem Check_any (d : Nat) (p : PredD) (cs : List Value) (s : SchemaD) (scs : List Value) (w : World) (hp : PredR d w cs p) (hs : SchemaR w scs s) (hfl : s.fields.length ≤ 1000) :
    Calls Try.prog 14 #[.agg cs.toArray, .agg scs.toArray] w (AnyInt w) := by
  obtain ⟨ka, kn, kc, rfl⟩ := hp.shape
  have HP := Lib.hid hp
  have HSC := Lib.hid hs
  obtain ⟨fa, fnn, fc, rfl, hs1, hs2, hs3, hfs, hs4⟩ := hs
  have HC := Lib.hid (fun (W : World) (hp : PredR d W [.int .u8 (p.op : Int), .int .u32 (p.field : Int), .int .u8 p.value.kind, .int .i64 p.value.n, .string p.value.s, .slice ka kn kc] p) (hs : SchemaR W [.int .u32 (s.id : Int), .slice fa fnn fc] s) => check_all d p _ s _ W hp hs hfl)
  clear hp hs1 hs2 hs3 hfs hs4
  unfold AnyInt at *
  go_enter Try.func14, Try.ntmps14
  go_wp2_with fail
  obtain ⟨W0, hWW⟩ : ∃ W0 : World, W0 = (((w.alloc (.cells #[.int .u8 (p.op : Int), .int .u32 (p.field : Int), .int .u8 p.value.kind, .int .i64 p.value.n, .string p.value.s, .slice ka kn kc] 39)).alloc (.cells #[.int .u32 (s.id : Int), .slice fa fnn fc] 42)).alloc (.cells #[.int .i64 0] 3)) := ⟨_, rfl⟩
  have hm : Mem w.heap.size [#[.int .u8 (p.op : Int), .int .u32 (p.field : Int), .int .u8 p.value.kind, .int .i64 p.value.n, .string p.value.s, .slice ka kn kc], #[.int .u32 (s.id : Int), .slice fa fnn fc], #[.int .i64 0]] w W0 := by rw [hWW]; exact ((((Mem.nil w).push (by simp) #[.int .u8 (p.op : Int), .int .u32 (p.field : Int), .int .u8 p.value.kind, .int .i64 p.value.n, .string p.value.s, .slice ka kn kc] 39).push (by simp) #[.int .u32 (s.id : Int), .slice fa fnn fc] 42).push (by simp) #[.int .i64 0] 3)
  rw [← hWW]
  clear hWW
  have M0 := Lib.hid hm
  clear hm
  refine (size_all d p _ 1 0 (w.heap.size + 1 + 1) w _ HP.out M0.out.below (by omega) (M0.out.lt 2 (by simp)) (M0.out.cell 2 0 rfl rfl) (M0.out.frozen 2 rfl) (by omega) (by omega) (by omega) (by omega)).mono ?_
  rintro e w1 ⟨b, m, rfl, hb, _, _, _, _⟩
  have hb1 : Below w.heap.size w w1 := M0.out.below.trans (hb.mono (B' := w.heap.size) (by omega))
  have q0 : ∀ j v, (#[.int .u8 (p.op : Int), .int .u32 (p.field : Int), .int .u8 p.value.kind, .int .i64 p.value.n, .string p.value.s, .slice ka kn kc] : Array Value)[j]? = some v → w1.cell? ⟨w.heap.size, j, none⟩ = some v := fun j v h => (hb.cell (p := ⟨w.heap.size, j, none⟩) (by show w.heap.size < w.heap.size + 1 + 1; omega)).trans (M0.out.cell 0 j rfl h)
  have q1_0 : w1.cell? ⟨w.heap.size + 1, 0, none⟩ = some (.int .u32 (s.id : Int)) := (hb.cell (p := ⟨w.heap.size + 1, 0, none⟩) (by show w.heap.size + 1 < w.heap.size + 1 + 1; omega)).trans (M0.out.cell 1 0 rfl rfl)
  have q1_1 : w1.cell? ⟨w.heap.size + 1, 1, none⟩ = some (.slice fa fnn fc) := (hb.cell (p := ⟨w.heap.size + 1, 1, none⟩) (by show w.heap.size + 1 < w.heap.size + 1 + 1; omega)).trans (M0.out.cell 1 1 rfl rfl)
  have q0_0 := q0 0 _ rfl
  have q0_1 := q0 1 _ rfl
  have q0_2 := q0 2 _ rfl
  have q0_3 := q0 3 _ rfl
  have q0_4 := q0 4 _ rfl
  have q0_5 := q0 5 _ rfl
  have HB1 := Lib.hid hb1
  clear hb q0 hb1
  cases b
  · go_wp2
    go_ret
    exact ⟨90, rfl, HB1.out⟩
  · go_wp2_with fail
    refine (HC.out _ (PredR.stable d _ _ _ _ HB1.out HP.out) (SchemaR.stable _ _ _ _ HB1.out HSC.out)).mono ?_
    rintro e w2 ⟨r, rfl, hb⟩
    have HB2 := Lib.hid (HB1.out.trans (hb.mono HB1.out.size))
    clear hb
    go_wp2
    go_ret
    exact ⟨r, rfl, HB2.out⟩
end Go.Proofs.Ytkildbpfondgcaa
