/- The contract of plan.Tasks. -/
import Derived.Test.YtkofaoaglnjkgaaPlTaskm
import Derived.Test.YtkofaoaglnjkgaaPrMayN3
import Derived.Test.YtkofaoaglnjkgaaPrColumn
import Derived.Deep.RegionHeld3
namespace Go.Proofs.Ytkofaoaglnjkgaa
open Go.RowKit Go.Deep
set_option linter.unusedVariables false
set_option linter.unusedSimpArgs false

def TasksPost (xs : List (EntryD × List ByteArray)) (w : World) (e : Ending) (w' : World) : Prop :=
  ∃ v ts, e = .returned v ∧ TasksOwn w' w.heap.size v ts ∧ ts.map pairOf = xs ∧ Below w.heap.size w w'
theorem index3 (m0 m1 m2 : Bool) (w : World) : (Instr.index 92 (.agg #[.bool m0, .bool m1, .bool m2]) (.int .u8 2)).run Try.prog w = .ok (.bool m2) w := by kernel_rfl
theorem cellOK0 : CellOK zeroCell := ⟨by decide, by decide, by decide⟩
set_option maxRecDepth 100000 in
set_option maxHeartbeats 32000000 in
theorem tasks_calls (ct : List Value) (t : TableD) (la : Option Addr) (ln lc : Nat) (l : List EntryD) (cs : List Value) (s : SchemaD) (d : Nat) (cp : List Value) (p : PredD) (w : World)
    (ht : TableR w ct t) (htn : t.schemas.length ≤ 1000) (htf : ∀ s ∈ t.schemas, s.fields.length ≤ 1000) (hl : Sl 6 EntryR w la ln l) (hln : ln ≤ 1000) (hlx : ∀ x ∈ l, x.stats.length ≤ 1000) (hs : SchemaR w cs s) (hsl : s.fields.length ≤ 1000) (hp : PredR d w cp p) :
    Calls Try.prog 19 #[.agg ct.toArray, .slice la ln lc, .agg cs.toArray, .agg cp.toArray] w (TasksPost (tasksF t.schemas l s d p) w) := by
  have HT := Lib.hid ht
  have HTN := Lib.hid htn
  have HTF := Lib.hid htf
  have HLS := Lib.hid hl
  have HLL := Lib.hid hl.1
  have HLX := Lib.hid hlx
  have HLN := Lib.hid hln
  have HSR := Lib.hid hs
  have HSL := Lib.hid hsl
  have HPR := Lib.hid hp
  obtain ⟨ta, tn, tc, ta', tn', tc', rfl, _⟩ := ht
  obtain ⟨sa, sn, sc, rfl, _⟩ := hs
  obtain ⟨ka, kn, kc, rfl⟩ := hp.shape
  obtain ⟨l0, hl0, hz0, hz1, hz2⟩ := info_parts info16Task
  have HI := Lib.hid hl0
  have HZ0 := Lib.hid hz0
  have HZ1 := Lib.hid hz1
  have HZ2 := Lib.hid hz2
  have hxs : tasksF t.schemas l s d p = ((l.take ln).filter (takeB t.schemas s d p)).map (fun x => (x, againstF l x)) := by
    unfold tasksF
    rw [List.take_of_length_le (by rw [hl.1]; exact Nat.le_refl _)]
  rw [hxs]
  unfold TasksPost
  clear htn htf hl hlx hsl hp hl0 hz0 hz1 hz2 hxs
  go_enter Try.func19, Try.ntmps19
  go_wp2
  obtain ⟨W0, hWW⟩ : ∃ W0 : World, W0 = ((((w.alloc (.cells #[.slice ta tn tc, .slice ta' tn' tc', .int .u64 t.current] 59)).alloc (.cells #[.slice la ln lc] 62)).alloc (.cells #[.int .u32 (s.id : Int), .slice sa sn sc] 37)).alloc (.cells #[.int .u8 (p.op : Int), .int .u32 (p.field : Int), .int .u8 p.value.kind, .int .i64 p.value.n, .string p.value.s, .slice ka kn kc] 42)) := ⟨_, rfl⟩
  have hm : Mem w.heap.size [#[.slice ta tn tc, .slice ta' tn' tc', .int .u64 t.current], #[.slice la ln lc], #[.int .u32 (s.id : Int), .slice sa sn sc], #[.int .u8 (p.op : Int), .int .u32 (p.field : Int), .int .u8 p.value.kind, .int .i64 p.value.n, .string p.value.s, .slice ka kn kc]] w W0 := by rw [hWW]; exact (((((Mem.nil w).push (by simp) #[.slice ta tn tc, .slice ta' tn' tc', .int .u64 t.current] 59).push (by simp) #[.slice la ln lc] 62).push (by simp) #[.int .u32 (s.id : Int), .slice sa sn sc] 37).push (by simp) #[.int .u8 (p.op : Int), .int .u32 (p.field : Int), .int .u8 p.value.kind, .int .i64 p.value.n, .string p.value.s, .slice ka kn kc] 42)
  rw [← hWW]
  clear hWW
  have M0 := Lib.hid hm
  clear hm
  go_loopw [10, 19] (fun v i wr => ∃ (k : Nat) (ts : List TaskH), k ≤ ln ∧ i = .int .i64 (k : Int) ∧ TasksOwn wr W0.heap.size v ts ∧ ts.map pairOf = ((l.take k).filter (takeB t.schemas s d p)).map (fun x => (x, againstF l x)) ∧ Below W0.heap.size W0 wr) (fun _ i _ => ln - (intOf i).toNat)
  case atStart => exact ⟨0, [], Nat.zero_le _, rfl, TasksOwn.nil _ _, by simp, Below.refl _ _⟩
  case round =>
    obtain ⟨k, ts, hk, rfl, hown, hts, hb⟩ := hrel
    have HO := Lib.hid hown
    have hlen : ts.length ≤ k := by
      have h1 := congrArg List.length hts
      rw [List.length_map] at h1
      rw [h1]; exact tasks_len k
    have HTS := Lib.hid hts
    have HBR := Lib.hid hb
    have MR := Lib.hid (M0.out.call hb)
    have HB := Lib.hid hb
    clear hown hb hts
    have hki : (0 : Int) ≤ (k : Int) := by omega
    by_cases hlt : k < ln
    · have hkn : (k : Int) < (ln : Int) := by omega
      obtain ⟨b, off, x, xcs, rfl, hbl, hx, hcl, hxr, hcell⟩ := HLS.out.at_ hlt
      have HXR := Lib.hid hxr
      obtain ⟨xa, xn, xc, rfl, hx1, hx2, hx3, hxs, hxo⟩ := hxr
      have hxn : xn ≤ 9223372036854775807 := by unfold maxLen at hx2; omega
      have HX3 := Lib.hid hx3
      have HXS := Lib.hid hxs
      have HXL := Lib.hid (HLX.out x (List.mem_of_getElem? hx))
      have htk := tasks_take (ss := t.schemas) (s := s) (d := d) (p := p) hx
      obtain ⟨tb, htb⟩ : ∃ r, takeB t.schemas s d p x = r := ⟨_, rfl⟩
      rw [htb, ← HTS.out] at htk
      have HTK := Lib.hid htk
      have htd : takeB t.schemas s d p x = (!x.keys && (match shapeF t.schemas x.schema with | none => false | some f => (mayN s.fields (liftF x f s) d p).ye)) := rfl
      rw [htd] at htb
      simp only [EntryD.cells] at hcell
      have e0 := MR.out.old (p := ⟨b, off + k * 6 + 0, none⟩) hbl (hcell 0 _ rfl)
      have e1 := MR.out.old (p := ⟨b, off + k * 6 + 1, none⟩) hbl (hcell 1 _ rfl)
      have e2 := MR.out.old (p := ⟨b, off + k * 6 + 2, none⟩) hbl (hcell 2 _ rfl)
      have e3 := MR.out.old (p := ⟨b, off + k * 6 + 3, none⟩) hbl (hcell 3 _ rfl)
      have e4 := MR.out.old (p := ⟨b, off + k * 6 + 4, none⟩) hbl (hcell 4 _ rfl)
      have e5 := MR.out.old (p := ⟨b, off + k * 6 + 5, none⟩) hbl (hcell 5 _ rfl)
      rw [Nat.add_zero] at e0
      have hbw : b < wr.heap.size := by have := MR.out.below.size; omega
      clear hcell hcl hx hx1 hx2 hx3 hxs hxo htk htd
      have q0_0 : wr.cell? ⟨w.heap.size, 0, none⟩ = some (.slice ta tn tc) := MR.out.cell 0 0 rfl rfl
      have q0_1 : wr.cell? ⟨w.heap.size, 1, none⟩ = some (.slice ta' tn' tc') := MR.out.cell 0 1 rfl rfl
      have q0_2 : wr.cell? ⟨w.heap.size, 2, none⟩ = some (.int .u64 t.current) := MR.out.cell 0 2 rfl rfl
      have z0 : w.heap.size < wr.heap.size := MR.out.lt 0 (by simp)
      have z1 : w.heap.size + 1 < wr.heap.size := MR.out.lt 1 (by simp)
      have z2 : w.heap.size + 1 + 1 < wr.heap.size := MR.out.lt 2 (by simp)
      have z3 : w.heap.size + 1 + 1 + 1 < wr.heap.size := MR.out.lt 3 (by simp)
      go_wp2_with fail
      obtain ⟨V0, hWW⟩ : ∃ W0 : World, W0 = (wr.alloc (.cells #[.string x.name, .bool x.keys, .int .u64 (x.seq : Int), .int .i64 x.rows, .int .u32 (x.schema : Int), .slice xa xn xc] 52)) := ⟨_, rfl⟩
      have hm : Mem wr.heap.size [#[.string x.name, .bool x.keys, .int .u64 (x.seq : Int), .int .i64 x.rows, .int .u32 (x.schema : Int), .slice xa xn xc]] wr V0 := by rw [hWW]; exact ((Mem.nil wr).push (by simp) #[.string x.name, .bool x.keys, .int .u64 (x.seq : Int), .int .i64 x.rows, .int .u32 (x.schema : Int), .slice xa xn xc] 52)
      rw [← hWW]
      clear hWW
      have N0 := Lib.hid hm
      clear hm
      clear e0 e1 e2 e3 e4 e5
      clear q0_0 q0_1 q0_2 z0 z1 z2 z3
      have HBV := Lib.hid (HB.out.trans (N0.out.below.mono HB.out.size))
      have MV := Lib.hid (M0.out.call HBV.out)
      have HOV := Lib.hid (HO.out.call N0.out.below)
      refine (shape_calls _ t x.schema _ (TableR.stable _ _ _ _ MV.out.below HT.out) HTN.out HTF.out).mono ?_
      rintro e w1 ⟨hb, hsh⟩
      have N1 := Lib.hid (N0.out.call hb)
      have HB1 := Lib.hid (HBV.out.trans (hb.mono HBV.out.size))
      have M1 := Lib.hid (M0.out.call HB1.out)
      have HO1 := Lib.hid (HOV.out.call hb)
      clear hb HBV MV HOV N0 MR HB hbw
      rcases hsh with ⟨hnone, rfl⟩ | ⟨f, fa, fn, fc, hsome, rfl, hfr, hfm⟩
      · rw [hnone] at htb
        obtain rfl : tb = false := by rw [← htb]; simp
        clear htb
        have HTF2 := Lib.hid (show ts.map pairOf = ((l.take (k + 1)).filter (takeB t.schemas s d p)).map (fun x => (x, againstF l x)) by have := HTK.out; simp at this; exact this.symm)
        clear hnone
        have z0 : wr.heap.size < w1.heap.size := N1.out.lt 0 (by simp)
        go_upto_region 7 with fail
        obtain ⟨V1, hWW⟩ : ∃ W : World, W = w1.alloc (.cells #[.int .u32 0, .slice none 0 0] 37) := ⟨_, rfl⟩
        have hb : Below w1.heap.size w1 V1 := by rw [hWW]; exact (Below.refl _ _).alloc (Nat.le_refl _) _
        have hxf : Box V1 w1.heap.size #[.int .u32 0, .slice none 0 0] := by rw [hWW]; exact Box.new _ _ _
        rw [← hWW]
        clear hWW z0
        have NV := Lib.hid (N1.out.call hb)
        have HBV := Lib.hid (HB1.out.trans (hb.mono HB1.out.size))
        have MV := Lib.hid (M0.out.call HBV.out)
        have HOV := Lib.hid (HO1.out.call hb)
        have XF := Lib.hid hxf
        clear hb hxf
        cases hxk : x.keys
        · have q1 : V1.cell? ⟨wr.heap.size, 1, none⟩ = some (.bool false) := by have := NV.out.cell 0 1 rfl rfl; rwa [hxk] at this
          have kq1 := kept_cell q1
          refine wp_region_kept (by kernel_rfl) (by kernel_rfl) ?_
          repeat (go_big_quiet_step (fail))
          refine wpQuiet_nil ?_
          intro W2 hb2
          have HB2 := Lib.hid (HBV.out.trans (hb2.mono HBV.out.size))
          have HO2 := Lib.hid (HOV.out.call hb2)
          clear hb2
          clear q1 kq1
          go_wp2
          go_roundw
          case rel => exact ⟨k + 1, ts, by omega, by go_num, HO2.out, HTF2.out, HB2.out⟩
          case measure => simp [intOf] <;> omega
        · have q1 : V1.cell? ⟨wr.heap.size, 1, none⟩ = some (.bool true) := by have := NV.out.cell 0 1 rfl rfl; rwa [hxk] at this
          have kq1 := kept_cell q1
          refine wp_region_kept (by kernel_rfl) (by kernel_rfl) ?_
          repeat (go_big_quiet_step (fail))
          refine wpQuiet_nil ?_
          intro W2 hb2
          have HB2 := Lib.hid (HBV.out.trans (hb2.mono HBV.out.size))
          have HO2 := Lib.hid (HOV.out.call hb2)
          clear hb2
          clear q1 kq1
          go_wp2
          go_roundw
          case rel => exact ⟨k + 1, ts, by omega, by go_num, HO2.out, HTF2.out, HB2.out⟩
          case measure => simp [intOf] <;> omega
      · rw [hsome] at htb
        simp only [] at htb
        clear hsome
        have HFN := Lib.hid (HTF.out f hfm)
        clear hfm
        have z0 : wr.heap.size < w1.heap.size := N1.out.lt 0 (by simp)
        go_upto_region 7 with fail
        obtain ⟨V1, hWW⟩ : ∃ W : World, W = w1.alloc (.cells #[.int .u32 (f.id : Int), .slice fa fn fc] 37) := ⟨_, rfl⟩
        have hb : Below w1.heap.size w1 V1 := by rw [hWW]; exact (Below.refl _ _).alloc (Nat.le_refl _) _
        have hxf : Box V1 w1.heap.size #[.int .u32 (f.id : Int), .slice fa fn fc] := by rw [hWW]; exact Box.new _ _ _
        rw [← hWW]
        clear hWW z0
        have NV := Lib.hid (N1.out.call hb)
        have HBV := Lib.hid (HB1.out.trans (hb.mono HB1.out.size))
        have MV := Lib.hid (M0.out.call HBV.out)
        have HOV := Lib.hid (HO1.out.call hb)
        have XF := Lib.hid hxf
        have HFR := Lib.hid (SchemaR.stable _ _ _ _ hb hfr)
        clear hb hxf hfr
        cases hxk : x.keys
        · rw [hxk, Bool.not_false, Bool.true_and] at htb
          have hmay := fun (W : World) (h : Below V1.heap.size V1 W) (a : Option Addr) (c : Nat) (h2 : Sl 10 StatR W a (liftF x f s).length (liftF x f s)) => may_all d p _ s _ a (liftF x f s).length c (liftF x f s) W (PredR.stable d _ _ _ _ (MV.out.call h).below HPR.out) (SchemaR.stable _ _ _ _ (MV.out.call h).below HSR.out) HSL.out h2 (by unfold liftF; rw [List.length_map]; exact HSL.out)
          have hlift := fun (W : World) (h : Below V1.heap.size V1 W) => lift_calls _ x _ f _ s W (EntryR.stable _ _ _ _ (MV.out.call h).below HXR.out) (SchemaR.stable _ _ _ _ h HFR.out) (SchemaR.stable _ _ _ _ (MV.out.call h).below HSR.out) HFN.out HSL.out HXL.out
          unfold StatsPost at hlift
          simp only [EntryD.cells] at hlift
          rw [hxk] at hlift
          have hreads : ∀ st ∈ liftF x f s, ∀ W : World, StatR W (statV st) st := fun st hst W => by
            unfold liftF at hst
            obtain ⟨y, _, rfl⟩ := List.mem_map.1 hst
            refine ⟨rfl, ?_⟩
            have hno : StatOK (noStat x.rows) := by
              obtain ⟨_, _, _, _, _, _, _, _, hok⟩ := HXR.out
              exact ⟨hok.2.2.1, hok.2.2.1, cellOK0, cellOK0⟩
            unfold liftAt
            split
            · cases hg : x.stats[(placeI f.fields y.id).toNat]? with
              | none => exact hno
              | some st => obtain ⟨_, hr⟩ := sl_each HXS.out st (List.mem_of_getElem? hg); exact hr.2
            · exact hno
          generalize liftF x f s = ls at *
          generalize hmy : mayN s.fields ls d p = my at *
          obtain ⟨m0, m1, m2⟩ := my
          simp only [B3.cells] at hmay
          simp only [] at htb
          subst htb
          have HMAY := Lib.hid hmay
          have hix := fun w => index3 m0 m1 m2 w
          have HLIFT := Lib.hid hlift
          have HRDS := Lib.hid hreads
          clear hmay hlift hreads hmy
          have hS : ∀ W, Below V1.heap.size V1 W → W.cell? ⟨w.heap.size + 1 + 1, 0, none⟩ = some (.int .u32 (s.id : Int)) ∧ W.cell? ⟨w.heap.size + 1 + 1, 1, none⟩ = some (.slice sa sn sc) ∧ W.cell? ⟨w.heap.size + 1 + 1 + 1, 0, none⟩ = some (.int .u8 (p.op : Int)) ∧ W.cell? ⟨w.heap.size + 1 + 1 + 1, 1, none⟩ = some (.int .u32 (p.field : Int)) ∧ W.cell? ⟨w.heap.size + 1 + 1 + 1, 2, none⟩ = some (.int .u8 p.value.kind) ∧ W.cell? ⟨w.heap.size + 1 + 1 + 1, 3, none⟩ = some (.int .i64 p.value.n) ∧ W.cell? ⟨w.heap.size + 1 + 1 + 1, 4, none⟩ = some (.string p.value.s) ∧ W.cell? ⟨w.heap.size + 1 + 1 + 1, 5, none⟩ = some (.slice ka kn kc) ∧ W.cell? ⟨wr.heap.size, 0, none⟩ = some (.string x.name) ∧ W.cell? ⟨wr.heap.size, 1, none⟩ = some (.bool false) ∧ W.cell? ⟨wr.heap.size, 2, none⟩ = some (.int .u64 (x.seq : Int)) ∧ W.cell? ⟨wr.heap.size, 3, none⟩ = some (.int .i64 x.rows) ∧ W.cell? ⟨wr.heap.size, 4, none⟩ = some (.int .u32 (x.schema : Int)) ∧ W.cell? ⟨wr.heap.size, 5, none⟩ = some (.slice xa xn xc) ∧ W.cell? ⟨w1.heap.size, 0, none⟩ = some (.int .u32 (f.id : Int)) ∧ W.cell? ⟨w1.heap.size, 1, none⟩ = some (.slice fa fn fc) := fun W h => ⟨(MV.out.call h).cell 2 0 rfl rfl, (MV.out.call h).cell 2 1 rfl rfl, (MV.out.call h).cell 3 0 rfl rfl, (MV.out.call h).cell 3 1 rfl rfl, (MV.out.call h).cell 3 2 rfl rfl, (MV.out.call h).cell 3 3 rfl rfl, (MV.out.call h).cell 3 4 rfl rfl, (MV.out.call h).cell 3 5 rfl rfl, (NV.out.call h).cell 0 0 rfl rfl, (by have := (NV.out.call h).cell 0 1 rfl rfl; rwa [hxk] at this), (NV.out.call h).cell 0 2 rfl rfl, (NV.out.call h).cell 0 3 rfl rfl, (NV.out.call h).cell 0 4 rfl rfl, (NV.out.call h).cell 0 5 rfl rfl, (XF.out.call h).cell 0 rfl, (XF.out.call h).cell 1 rfl⟩
          have HSS := Lib.hid hS
          clear hS
          go_region_held3 (fun W => W.cell? ⟨w.heap.size + 1 + 1, 0, none⟩ = some (.int .u32 (s.id : Int)) ∧ W.cell? ⟨w.heap.size + 1 + 1, 1, none⟩ = some (.slice sa sn sc) ∧ W.cell? ⟨w.heap.size + 1 + 1 + 1, 0, none⟩ = some (.int .u8 (p.op : Int)) ∧ W.cell? ⟨w.heap.size + 1 + 1 + 1, 1, none⟩ = some (.int .u32 (p.field : Int)) ∧ W.cell? ⟨w.heap.size + 1 + 1 + 1, 2, none⟩ = some (.int .u8 p.value.kind) ∧ W.cell? ⟨w.heap.size + 1 + 1 + 1, 3, none⟩ = some (.int .i64 p.value.n) ∧ W.cell? ⟨w.heap.size + 1 + 1 + 1, 4, none⟩ = some (.string p.value.s) ∧ W.cell? ⟨w.heap.size + 1 + 1 + 1, 5, none⟩ = some (.slice ka kn kc) ∧ W.cell? ⟨wr.heap.size, 0, none⟩ = some (.string x.name) ∧ W.cell? ⟨wr.heap.size, 1, none⟩ = some (.bool false) ∧ W.cell? ⟨wr.heap.size, 2, none⟩ = some (.int .u64 (x.seq : Int)) ∧ W.cell? ⟨wr.heap.size, 3, none⟩ = some (.int .i64 x.rows) ∧ W.cell? ⟨wr.heap.size, 4, none⟩ = some (.int .u32 (x.schema : Int)) ∧ W.cell? ⟨wr.heap.size, 5, none⟩ = some (.slice xa xn xc) ∧ W.cell? ⟨w1.heap.size, 0, none⟩ = some (.int .u32 (f.id : Int)) ∧ W.cell? ⟨w1.heap.size, 1, none⟩ = some (.slice fa fn fc))
            (first | (refine HSS.out _ ?_; exact (by repeat (first | exact Below.refl _ _ | (with_reducible refine Below.drew ?_) | (with_reducible refine Below.alloc ?_ (by first | exact Nat.le_refl _ | exact K6.out.size | exact K5.out.size | (simp; done) | (have := K6.out.size; simp; omega) | (have := K5.out.size; simp; omega) | (simp; omega)) _) | (with_reducible exact K6.out) | (with_reducible exact K5.out)))))
            (first
              | (go_at_call 43; (with_reducible refine (HLIFT.out _ (by repeat (first | exact Below.refl _ _ | (with_reducible refine Below.drew ?_) | (with_reducible refine Below.alloc ?_ (by first | exact Nat.le_refl _ | exact K6.out.size | exact K5.out.size | (simp; done) | (have := K6.out.size; simp; omega) | (have := K5.out.size; simp; omega) | (simp; omega)) _) | (with_reducible exact K6.out) | (with_reducible exact K5.out)))).mono ?_); rintro e w5 ⟨v5, rfl, hown5, hp5⟩; have k5 := below_step (W0 := V1) (by repeat (first | exact Below.refl _ _ | (with_reducible refine Below.drew ?_) | (with_reducible refine Below.alloc ?_ (by first | exact Nat.le_refl _ | exact K6.out.size | exact K5.out.size | (simp; done) | (have := K6.out.size; simp; omega) | (have := K5.out.size; simp; omega) | (simp; omega)) _) | (with_reducible exact K6.out) | (with_reducible exact K5.out))) hp5; have K5 := Lib.hid k5; obtain ⟨a5, c5, rfl, _⟩ := own_slice hown5; have SL5 := Lib.hid (own_sl (R := StatR) (by decide) statV_len (fun st hst => HRDS.out st hst w5) hown5); clear hown5 hp5 k5)
              | (go_at_call 42; (with_reducible refine (HMAY.out _ (by repeat (first | exact Below.refl _ _ | (with_reducible refine Below.drew ?_) | (with_reducible refine Below.alloc ?_ (by first | exact Nat.le_refl _ | exact K6.out.size | exact K5.out.size | (simp; done) | (have := K6.out.size; simp; omega) | (have := K5.out.size; simp; omega) | (simp; omega)) _) | (with_reducible exact K6.out) | (with_reducible exact K5.out))) a5 c5 (SL5.out.below StatR.stable (by repeat (first | exact Below.refl _ _ | (with_reducible refine Below.drew ?_) | (with_reducible refine Below.alloc ?_ (by first | exact Nat.le_refl _ | (simp; done) | (simp; omega)) _))))).mono ?_); rintro e w6 ⟨rfl, hp6⟩; have k6 := below_step (W0 := V1) (by repeat (first | exact Below.refl _ _ | (with_reducible refine Below.drew ?_) | (with_reducible refine Below.alloc ?_ (by first | exact Nat.le_refl _ | exact K6.out.size | exact K5.out.size | (simp; done) | (have := K6.out.size; simp; omega) | (have := K5.out.size; simp; omega) | (simp; omega)) _) | (with_reducible exact K6.out) | (with_reducible exact K5.out))) hp6; have K6 := Lib.hid k6; clear hp6 k6)
              | fail)
          have HB2 := Lib.hid (HBV.out.trans (K6.out.mono HBV.out.size))
          have HO2 := Lib.hid (HOV.out.call K6.out)
          have N6 := Lib.hid (NV.out.call K6.out)
          have M6 := Lib.hid (M0.out.call HB2.out)
          cases m2
          · have HTF2 := Lib.hid (show ts.map pairOf = ((l.take (k + 1)).filter (takeB t.schemas s d p)).map (fun x => (x, againstF l x)) by have := HTK.out; simp at this; exact this.symm)
            go_wp2_with fail
            go_roundw
            case rel => exact ⟨k + 1, ts, by omega, by go_num, HO2.out, HTF2.out, HB2.out⟩
            case measure => simp [intOf] <;> omega
          · have q0 : w6.cell? ⟨wr.heap.size, 0, none⟩ = some (.string x.name) := N6.out.cell 0 0 rfl rfl
            have q1 : w6.cell? ⟨wr.heap.size, 1, none⟩ = some (.bool false) := (by have := N6.out.cell 0 1 rfl rfl; rwa [hxk] at this)
            have q2 : w6.cell? ⟨wr.heap.size, 2, none⟩ = some (.int .u64 (x.seq : Int)) := N6.out.cell 0 2 rfl rfl
            have q3 : w6.cell? ⟨wr.heap.size, 3, none⟩ = some (.int .i64 x.rows) := N6.out.cell 0 3 rfl rfl
            have q4 : w6.cell? ⟨wr.heap.size, 4, none⟩ = some (.int .u32 (x.schema : Int)) := N6.out.cell 0 4 rfl rfl
            have q5 : w6.cell? ⟨wr.heap.size, 5, none⟩ = some (.slice xa xn xc) := N6.out.cell 0 5 rfl rfl
            go_wp2_with fail
            have hag := against_calls _ x (w.heap.size + 1) _ ln lc l w6 (EntryR.stable _ _ _ _ M6.out.below HXR.out) (M6.out.cell 1 0 rfl rfl) (M6.out.lt 1 (by simp)) (HLS.out.below EntryR.stable M6.out.below) HLN.out
            simp only [EntryD.cells] at hag
            rw [hxk] at hag
            refine hag.mono ?_
            clear hag q0 q1 q2 q3 q4 q5
            rintro e w7 ⟨v7, rfl, hown7, hb7⟩
            obtain ⟨a7, c7, rfl, _⟩ := own_slice hown7
            have N7 := Lib.hid (N6.out.call hb7)
            have HB7 := Lib.hid (HB2.out.trans (hb7.mono HB2.out.size))
            have HK7 := Lib.hid hown7
            clear hown7 hb7
            have q5 : w7.cell? ⟨wr.heap.size, 5, none⟩ = some (.slice xa xn xc) := N7.out.cell 0 5 rfl rfl
            have z0 : wr.heap.size < w7.heap.size := N7.out.lt 0 (by simp)
            go_wp2_with fail
            refine (clone_stats xa xn xc x.stats _ (HXS.out.below StatR.stable (M0.out.call HB7.out).below) (by have := HXL.out; have := HXS.out.1; omega) HX3.out).mono ?_
            rintro e w8 ⟨v8, rfl, hown8, hb8⟩
            obtain ⟨a8, c8, rfl, _⟩ := own_slice hown8
            clear q5 z0
            have N8 := Lib.hid (N7.out.call hb8)
            have HB8 := Lib.hid (HB7.out.trans (hb8.mono HB7.out.size))
            have HK8 := Lib.hid (own_below HK7.out hb8)
            have HS8 := Lib.hid hown8
            clear hown8 hb8
            have q0_5 : w8.cell? ⟨wr.heap.size, 5, none⟩ = some (.slice xa xn xc) := N8.out.cell 0 5 rfl rfl
            have g0 : ∀ j, w8.frozen? ⟨wr.heap.size, j, none⟩ = false := N8.out.frozen 0 rfl
            have z0 : wr.heap.size < w8.heap.size := N8.out.lt 0 (by simp)
            go_upto_region 10 with (fail)
            have hst_0 : Mem wr.heap.size [#[.string x.name, .bool x.keys, .int .u64 (x.seq : Int), .int .i64 x.rows, .int .u32 (x.schema : Int), .slice a8 xn c8]] wr (w8.setCell ⟨wr.heap.size, 5, none⟩ (.slice a8 xn c8)) := N8.out.set 0 5 (.slice a8 xn c8) rfl (by simp)
            have hm := hst_0
            obtain ⟨W9, hWW⟩ : ∃ W : World, W = (w8.setCell ⟨wr.heap.size, 5, none⟩ (.slice a8 xn c8)) := ⟨_, rfl⟩
            have hk9 : W9.ownsRow w6.heap.size 9 1 (.slice a7 (againstF l x).length c7) (againstF l x).length (strsV (againstF l x)) := by rw [hWW]; exact own_set HK8.out (N6.out.lt 0 (by simp)) _
            have hs9 : W9.ownsRow w7.heap.size 31 10 (.slice a8 xn c8) xn (x.stats.flatMap statV) := by rw [hWW]; exact own_set HS8.out (N7.out.lt 0 (by simp)) _
            rw [← hWW] at hm ⊢
            clear hWW hst_0
            clear q0_5 g0 z0
            have MW9 := Lib.hid hm
            clear hm
            have HB9 := Lib.hid (HBR.out.trans (MW9.out.below.mono HBR.out.size))
            have HO9 := Lib.hid (HO.out.call MW9.out.below)
            have ht9 : TaskOwn W9 W0.heap.size _ ⟨x, againstF l x, .slice a8 xn c8, .slice a7 (againstF l x).length c7⟩ := TaskOwn.of HO.out (by have := HXS.out.1; simp only []; rw [this]; exact hs9) hk9 N7.out.below.size N6.out.below.size HBR.out.size
            have HT9 := Lib.hid ht9
            have HR9 := Lib.hid HO9.out.1
            clear ht9 hs9 hk9
            generalize hns : againstF l x = ns at *
            have q0 : W9.cell? ⟨wr.heap.size, 0, none⟩ = some (.string x.name) := MW9.out.cell 0 0 rfl rfl
            have q1 : W9.cell? ⟨wr.heap.size, 1, none⟩ = some (.bool false) := (by have := MW9.out.cell 0 1 rfl rfl; rwa [hxk] at this)
            have q2 : W9.cell? ⟨wr.heap.size, 2, none⟩ = some (.int .u64 (x.seq : Int)) := MW9.out.cell 0 2 rfl rfl
            have q3 : W9.cell? ⟨wr.heap.size, 3, none⟩ = some (.int .i64 x.rows) := MW9.out.cell 0 3 rfl rfl
            have q4 : W9.cell? ⟨wr.heap.size, 4, none⟩ = some (.int .u32 (x.schema : Int)) := MW9.out.cell 0 4 rfl rfl
            have q5 : W9.cell? ⟨wr.heap.size, 5, none⟩ = some (.slice a8 xn c8) := MW9.out.cell 0 5 rfl rfl
            have z0 : wr.heap.size < W9.heap.size := MW9.out.lt 0 (by simp)
            have h63 : ts.length + 1 ≤ maxLen := by unfold maxLen; omega
            have hby : (ts.length + 1) * 96 ≤ 140737488355328 := by omega
            have hbase : W0.heap.size ≤ (W9.alloc (.cells #[.string x.name, .bool false, .int .u64 (x.seq : Int), .int .i64 x.rows, .int .u32 (x.schema : Int), .slice a8 xn c8, .slice a7 ns.length c7] 69)).heap.size := by have := HB9.out.size; simp; omega
            have hone : ∀ u ∈ ([.string x.name, .bool false, .int .u64 (x.seq : Int), .int .i64 x.rows, .int .u32 (x.schema : Int), .slice a8 xn c8, .slice a7 ns.length c7] : List Value), u.oneCell' = true := by simp [Value.oneCell']
            have hcl : ∀ j u, ([.string x.name, .bool false, .int .u64 (x.seq : Int), .int .i64 x.rows, .int .u32 (x.schema : Int), .slice a8 xn c8, .slice a7 ns.length c7] : List Value)[j]? = some u → (W9.alloc (.cells #[.string x.name, .bool false, .int .u64 (x.seq : Int), .int .i64 x.rows, .int .u32 (x.schema : Int), .slice a8 xn c8, .slice a7 ns.length c7] 69)).cell? ((⟨W9.heap.size, 0, none⟩ : Addr).add j) = some u := fun j u hj => by
              have := CellsAt.alloc_at W9 #[.string x.name, .bool false, .int .u64 (x.seq : Int), .int .i64 x.rows, .int .u32 (x.schema : Int), .slice a8 xn c8, .slice a7 ns.length c7] 69 W9.heap.size rfl j u (by simpa using hj)
              rw [show ((⟨W9.heap.size, 0, none⟩ : Addr).add j) = ⟨W9.heap.size, j, none⟩ by (simp [Addr.add] <;> omega)]
              exact this
            have HBASE := Lib.hid hbase
            have HONE := Lib.hid hone
            have HCL := Lib.hid hcl
            clear hbase hone hcl
            go_wp2_with (at_builtin; refine wpList_append_lies _ rfl _ _ _ rfl W0.heap.size 69 l0 (.agg #[.string ByteArray.empty, .bool false, .int .u64 0, .int .i64 0, .int .u32 0, .slice none 0 0, .slice none 0 0]) 7 96 Try.underlying60 HI.out HZ0.out HZ1.out HZ2.out rfl (by decide) _ _ _ rfl (HR9.out.alloc _) ⟨W9.heap.size, 0, none⟩ 1 1 [.string x.name, .bool false, .int .u64 (x.seq : Int), .int .i64 x.rows, .int .u32 (x.schema : Int), .slice a8 xn c8, .slice a7 ns.length c7] rfl rfl HCL.out HONE.out (by decide) h63 hby HBASE.out _ rfl ?_; intro g cap w10 hown5 hgrow5 hat5 hglt5)
            have hro := TasksOwn.snoc (HO9.out.alloc (.cells #[.string x.name, .bool false, .int .u64 (x.seq : Int), .int .i64 x.rows, .int .u32 (x.schema : Int), .slice a8 xn c8, .slice a7 ns.length c7] 69)) (t := ⟨x, ns, .slice a8 xn c8, .slice a7 ns.length c7⟩) (by simp only [taskV, EntryD.cells]; rw [hxk]; exact hown5) hgrow5 (by first | exact hat5 | simpa using hat5) (HT9.out.call ((Below.refl _ _).alloc (Nat.le_refl _) _))
            have hb10 := below_append HR9.out HB9.out hgrow5
            clear hgrow5 hat5 hown5
            go_roundw
            case rel => exact ⟨k + 1, _, by omega, by go_num, hro, by rw [HTK.out, List.map_append]; simp [pairOf], hb10⟩
            case measure => simp [intOf] <;> omega
        · obtain rfl : tb = false := by rw [← htb]; rw [hxk]; rfl
          clear htb
          have HTF2 := Lib.hid (show ts.map pairOf = ((l.take (k + 1)).filter (takeB t.schemas s d p)).map (fun x => (x, againstF l x)) by have := HTK.out; simp at this; exact this.symm)
          have q1 : V1.cell? ⟨wr.heap.size, 1, none⟩ = some (.bool true) := by have := NV.out.cell 0 1 rfl rfl; rwa [hxk] at this
          have kq1 := kept_cell q1
          refine wp_region_kept (by kernel_rfl) (by kernel_rfl) ?_
          repeat (go_big_quiet_step (fail))
          refine wpQuiet_nil ?_
          intro W2 hb2
          have HB2 := Lib.hid (HBV.out.trans (hb2.mono HBV.out.size))
          have HO2 := Lib.hid (HOV.out.call hb2)
          clear hb2
          clear q1 kq1
          go_wp2
          go_roundw
          case rel => exact ⟨k + 1, ts, by omega, by go_num, HO2.out, HTF2.out, HB2.out⟩
          case measure => simp [intOf] <;> omega
    · obtain rfl : k = ln := by omega
      go_wp2
      go_ret
      refine ⟨_, ts, rfl, ⟨own_le HO.out.1 M0.out.below.size, fun t ht => ?_⟩, HTS.out, MR.out.below⟩
      obtain ⟨h1, h2, h3, h4⟩ := HO.out.2 t ht
      exact ⟨own_le h1 M0.out.below.size, own_le h2 M0.out.below.size, h3, h4⟩
end Go.Proofs.Ytkofaoaglnjkgaa
