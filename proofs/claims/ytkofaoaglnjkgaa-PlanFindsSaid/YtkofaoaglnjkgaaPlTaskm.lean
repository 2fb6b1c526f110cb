/- Which keys are held against a file: the contract of the closure in plan.Tasks. The contract of plan.Lift. The contract of meta.Shape. Tasks that a call has grown for itself: each with its own bounds and its own names. -/
import Derived.Test.YtkofaoaglnjkgaaPlPm
import Derived.Deep.DeepCutAuto
import Derived.Deep.RegionHeld3
namespace Go.Proofs.Ytkofaoaglnjkgaa
open Go.RowKit Go.Deep
set_option linter.unusedVariables false
set_option linter.unusedSimpArgs false

theorem infoString : (Try.prog.info? 9).map (fun i => (i.zero, i.size, i.bytes)) = some (some (.string ByteArray.empty), 1, 16) := by kernel_rfl
def NamesPost (ns : List ByteArray) (w : World) (e : Ending) (w' : World) : Prop := ∃ v, e = .returned v ∧ w'.ownsRow w.heap.size 9 1 v ns.length (strsV ns) ∧ Below w.heap.size w w'
theorem against_take {l : List EntryD} {x z : EntryD} {k : Nat} (h : l[k]? = some z) : againstF (l.take (k + 1)) x = againstF (l.take k) x ++ (if agB x z = true then [z.name] else []) := by
  unfold againstF
  rw [filter_take h, List.map_append]
  split <;> rfl
theorem against_len {l : List EntryD} {x : EntryD} (k : Nat) : (againstF (l.take k) x).length ≤ k := by
  unfold againstF
  rw [List.length_map]
  exact Nat.le_trans (List.length_filter_le _ _) (by rw [List.length_take]; exact Nat.min_le_left _ _)
theorem firstOver_of {k x : EntryD} {a b : StatD} (ha : k.stats[0]? = some a) (hb : x.stats[0]? = some b) : firstOver k x = overF a b := by
  unfold firstOver
  cases hk : k.stats with
  | nil => rw [hk] at ha; simp at ha
  | cons y ys =>
    cases hx : x.stats with
    | nil => rw [hx] at hb; simp at hb
    | cons u us =>
      rw [hk] at ha; rw [hx] at hb
      simp at ha hb
      subst ha; subst hb; rfl
theorem firstOver_left {k x : EntryD} (h : k.stats.length = 0) : firstOver k x = false := by
  unfold firstOver
  cases hk : k.stats with
  | nil => rfl
  | cons y ys => rw [hk] at h; simp at h
theorem firstOver_right {k x : EntryD} (h : x.stats.length = 0) : firstOver k x = false := by
  unfold firstOver
  cases hk : x.stats with
  | nil => split <;> simp_all
  | cons y ys => rw [hk] at h; simp at h
set_option maxRecDepth 100000 in
set_option maxHeartbeats 16000000 in
theorem against_calls (cx : List Value) (x : EntryD) (g : Nat) (la : Option Addr) (ln lc : Nat) (l : List EntryD) (w : World) (hx : EntryR w cx x) (hg : w.cell? ⟨g, 0, none⟩ = some (.slice la ln lc)) (hgl : g < w.heap.size) (hl : Sl 6 EntryR w la ln l) (hn : ln ≤ 1000) :
    Calls Try.prog 40 #[.agg cx.toArray, .pointer (some ⟨g, 0, none⟩)] w (NamesPost (againstF l x) w) := by
  obtain ⟨xa, xn, xc, rfl, hx1, hx2, _, hxs, hxo⟩ := hx
  simp only [EntryD.cells]
  have hxn : xn ≤ 9223372036854775807 := by unfold maxLen at hx2; omega
  have HXS := Lib.hid hxs
  have HLS := Lib.hid hl
  have HXL := Lib.hid hxs.1
  have HLL := Lib.hid hl.1
  have hseqx := hxo.2.1
  obtain ⟨l0, hl0, hz0, hz1, hz2⟩ := info_parts infoString
  have HL := Lib.hid hl0
  have HX0 := Lib.hid hz0
  have HX1 := Lib.hid hz1
  have HX2 := Lib.hid hz2
  unfold NamesPost
  clear hxs hl hx1 hx2 hxo hl0 hz0 hz1 hz2
  go_enter Try.func40, Try.ntmps40
  go_wp2
  obtain ⟨W0, hWW⟩ : ∃ W0 : World, W0 = (w.alloc (.cells #[.string x.name, .bool x.keys, .int .u64 (x.seq : Int), .int .i64 x.rows, .int .u32 (x.schema : Int), .slice xa xn xc] 52)) := ⟨_, rfl⟩
  have hm : Mem w.heap.size [#[.string x.name, .bool x.keys, .int .u64 (x.seq : Int), .int .i64 x.rows, .int .u32 (x.schema : Int), .slice xa xn xc]] w W0 := by rw [hWW]; exact ((Mem.nil w).push (by simp) #[.string x.name, .bool x.keys, .int .u64 (x.seq : Int), .int .i64 x.rows, .int .u32 (x.schema : Int), .slice xa xn xc] 52)
  rw [← hWW]
  clear hWW
  have M0 := Lib.hid hm
  clear hm
  clear hg
  go_loopw [4, 9] (fun v i wr => ∃ k : Nat, k ≤ ln ∧ i = .int .i64 (k : Int) ∧ wr.ownsRow W0.heap.size 9 1 v (againstF (l.take k) x).length (strsV (againstF (l.take k) x)) ∧ Below W0.heap.size W0 wr) (fun _ i _ => ln - (intOf i).toNat)
  case atStart => exact ⟨0, Nat.zero_le _, rfl, World.ownsRow_nil _ _ _ _, Below.refl _ _⟩
  case round =>
    obtain ⟨k, hk, rfl, hown, hb⟩ := hrel
    have HO := Lib.hid hown
    have MR := Lib.hid (M0.out.call hb)
    have HB := Lib.hid hb
    clear hown hb
    have hki : (0 : Int) ≤ (k : Int) := by omega
    by_cases hlt : k < ln
    · have hkn : (k : Int) < (ln : Int) := by omega
      obtain ⟨b, off, z, zcs, rfl, hbl, hz, hcl, hzr, hcell⟩ := HLS.out.at_ hlt
      obtain ⟨za, zn, zc, rfl, hz1, hz2, _, hzs, hzo⟩ := hzr
      have hzn : zn ≤ 9223372036854775807 := by unfold maxLen at hz2; omega
      have hlk := against_len (l := l) (x := x) k
      have HTK := Lib.hid (against_take (x := x) hz)
      generalize againstF (l.take k) x = ns at *
      simp only [EntryD.cells] at hcell
      have e0 := MR.out.old (p := ⟨b, off + k * 6 + 0, none⟩) hbl (hcell 0 _ rfl)
      have e1 := MR.out.old (p := ⟨b, off + k * 6 + 1, none⟩) hbl (hcell 1 _ rfl)
      have e2 := MR.out.old (p := ⟨b, off + k * 6 + 2, none⟩) hbl (hcell 2 _ rfl)
      have e3 := MR.out.old (p := ⟨b, off + k * 6 + 3, none⟩) hbl (hcell 3 _ rfl)
      have e4 := MR.out.old (p := ⟨b, off + k * 6 + 4, none⟩) hbl (hcell 4 _ rfl)
      have e5 := MR.out.old (p := ⟨b, off + k * 6 + 5, none⟩) hbl (hcell 5 _ rfl)
      rw [Nat.add_zero] at e0
      have hbw : b < wr.heap.size := by have := MR.out.below.size; omega
      have HZS := Lib.hid (hzs.below StatR.stable MR.out.below)
      have HZL := Lib.hid hzs.1
      have hseqz := hzo.2.1
      obtain ⟨ab, hab⟩ : ∃ r, agB x z = r := ⟨_, rfl⟩
      rw [hab] at HTK
      clear hcell hcl hz hz1 hz2 hzs hzo
      go_wp2_with fail
      obtain ⟨V0, hWW⟩ : ∃ W0 : World, W0 = (wr.alloc (.cells #[.string z.name, .bool z.keys, .int .u64 (z.seq : Int), .int .i64 z.rows, .int .u32 (z.schema : Int), .slice za zn zc] 52)) := ⟨_, rfl⟩
      have hm : Mem wr.heap.size [#[.string z.name, .bool z.keys, .int .u64 (z.seq : Int), .int .i64 z.rows, .int .u32 (z.schema : Int), .slice za zn zc]] wr V0 := by rw [hWW]; exact ((Mem.nil wr).push (by simp) #[.string z.name, .bool z.keys, .int .u64 (z.seq : Int), .int .i64 z.rows, .int .u32 (z.schema : Int), .slice za zn zc] 52)
      rw [← hWW]
      clear hWW
      have N0 := Lib.hid hm
      clear hm
      clear e0 e1 e2 e3 e4 e5
      have HBV := Lib.hid (HB.out.trans (N0.out.below.mono HB.out.size))
      have MV := Lib.hid (M0.out.call HBV.out)
      have hagd : agB x z = (z.keys && decide (x.seq < z.seq) && firstOver z x) := rfl
      rw [hagd] at hab
      clear hagd
      by_cases hzk : z.keys = false
      · obtain rfl : ab = false := by rw [← hab]; simp [hzk]
        clear hab
        have HTF := Lib.hid (show againstF (l.take (k + 1)) x = ns by have := HTK.out; simpa using this)
        have q1 : V0.cell? ⟨wr.heap.size, 1, none⟩ = some (.bool false) := (by have := N0.out.cell 0 1 rfl rfl; rwa [hzk] at this)
        have kq1 := kept_cell q1
        refine wp_region_kept (by kernel_rfl) (by kernel_rfl) ?_
        repeat (go_big_quiet_step (fail))
        refine wpQuiet_nil ?_
        intro W2 hb2
        have HB2 := Lib.hid (HBV.out.trans (hb2.mono HBV.out.size))
        have HO2 := Lib.hid (own_below HO.out ((N0.out.below).trans (hb2.mono N0.out.below.size)))
        have NV := Lib.hid (N0.out.call hb2)
        clear hb2
        try clear q1 kq1
        go_wp2
        go_roundw
        case rel => exact ⟨k + 1, by omega, by go_num, by rw [HTF.out]; exact HO2.out, HB2.out⟩
        case measure => simp [intOf] <;> omega
      · have hzk : z.keys = true := by simpa using hzk
        by_cases hsq : x.seq < z.seq
        · have hsqi : (x.seq : Int) < (z.seq : Int) := by omega
          by_cases hz0 : zn = 0
          · subst hz0
            obtain rfl : ab = false := by rw [← hab]; rw [firstOver_left HZL.out]; simp
            clear hab
            have HTF := Lib.hid (show againstF (l.take (k + 1)) x = ns by have := HTK.out; simpa using this)
            have q1 : V0.cell? ⟨wr.heap.size, 1, none⟩ = some (.bool true) := (by have := N0.out.cell 0 1 rfl rfl; rwa [hzk] at this)
            have kq1 := kept_cell q1
            have q2 : V0.cell? ⟨wr.heap.size, 2, none⟩ = some (.int .u64 (z.seq : Int)) := N0.out.cell 0 2 rfl rfl
            have kq2 := kept_cell q2
            have q5 : V0.cell? ⟨wr.heap.size, 5, none⟩ = some (.slice za 0 zc) := N0.out.cell 0 5 rfl rfl
            have kq5 := kept_cell q5
            have p2 : V0.cell? ⟨w.heap.size, 2, none⟩ = some (.int .u64 (x.seq : Int)) := MV.out.cell 0 2 rfl rfl
            have kp2 := kept_cell p2
            refine wp_region_kept (by kernel_rfl) (by kernel_rfl) ?_
            repeat (go_big_quiet_step (fail))
            refine wpQuiet_nil ?_
            intro W2 hb2
            have HB2 := Lib.hid (HBV.out.trans (hb2.mono HBV.out.size))
            have HO2 := Lib.hid (own_below HO.out ((N0.out.below).trans (hb2.mono N0.out.below.size)))
            have NV := Lib.hid (N0.out.call hb2)
            clear hb2
            try clear q1 kq1 q2 kq2 q5 kq5 p2 kp2
            go_wp2
            go_roundw
            case rel => exact ⟨k + 1, by omega, by go_num, by rw [HTF.out]; exact HO2.out, HB2.out⟩
            case measure => simp [intOf] <;> omega
          · have hz0i : (0 : Int) < (zn : Int) := by omega
            have hz0n : 0 < zn := by omega
            by_cases hx0 : xn = 0
            · subst hx0
              obtain rfl : ab = false := by rw [← hab]; rw [firstOver_right HXL.out]; simp
              clear hab
              have HTF := Lib.hid (show againstF (l.take (k + 1)) x = ns by have := HTK.out; simpa using this)
              have q1 : V0.cell? ⟨wr.heap.size, 1, none⟩ = some (.bool true) := (by have := N0.out.cell 0 1 rfl rfl; rwa [hzk] at this)
              have kq1 := kept_cell q1
              have q2 : V0.cell? ⟨wr.heap.size, 2, none⟩ = some (.int .u64 (z.seq : Int)) := N0.out.cell 0 2 rfl rfl
              have kq2 := kept_cell q2
              have q5 : V0.cell? ⟨wr.heap.size, 5, none⟩ = some (.slice za zn zc) := N0.out.cell 0 5 rfl rfl
              have kq5 := kept_cell q5
              have p2 : V0.cell? ⟨w.heap.size, 2, none⟩ = some (.int .u64 (x.seq : Int)) := MV.out.cell 0 2 rfl rfl
              have kp2 := kept_cell p2
              have p5 : V0.cell? ⟨w.heap.size, 5, none⟩ = some (.slice xa 0 xc) := MV.out.cell 0 5 rfl rfl
              have kp5 := kept_cell p5
              refine wp_region_kept (by kernel_rfl) (by kernel_rfl) ?_
              repeat (go_big_quiet_step (fail))
              refine wpQuiet_nil ?_
              intro W2 hb2
              have HB2 := Lib.hid (HBV.out.trans (hb2.mono HBV.out.size))
              have HO2 := Lib.hid (own_below HO.out ((N0.out.below).trans (hb2.mono N0.out.below.size)))
              have NV := Lib.hid (N0.out.call hb2)
              clear hb2
              try clear q1 kq1 q2 kq2 q5 kq5 p2 kp2 p5 kp5
              go_wp2
              go_roundw
              case rel => exact ⟨k + 1, by omega, by go_num, by rw [HTF.out]; exact HO2.out, HB2.out⟩
              case measure => simp [intOf] <;> omega
            · have hx0i : (0 : Int) < (xn : Int) := by omega
              have hx0n : 0 < xn := by omega
              obtain ⟨b1, off1, s1, sc1, rfl, hbl1, hs1, hcl1, hsr1, hcell1⟩ := HZS.out.at_ (i := 0) (by omega)
              obtain ⟨b2, off2, s2, sc2, rfl, hbl2, hs2, hcl2, hsr2, hcell2⟩ := HXS.out.at_ (i := 0) (by omega)
              rw [firstOver_of hs1 hs2] at hab
              obtain ⟨rfl, hok1⟩ := hsr1
              obtain ⟨rfl, hok2⟩ := hsr2
              have hover := fun G : Kept V0 => over_calls s1 s2 G.W hok1 hok2
              generalize overF s1 s2 = ov at *
              obtain ⟨rw1, nl1, sm1, hi1, ⟨lk1, ln1, ls1⟩, ⟨mk1, mn1, ms1⟩⟩ := s1
              obtain ⟨rw2, nl2, sm2, hi2, ⟨lk2, ln2, ls2⟩, ⟨mk2, mn2, ms2⟩⟩ := s2
              simp only [StatD.cells] at hover hcell1 hcell2
              have HOVR := Lib.hid hover
              obtain rfl : ab = ov := by rw [← hab, hzk]; simp [hsq]
              clear hover hab hs1 hs2 hcl1 hcl2 hok1 hok2
              have q1 : V0.cell? ⟨wr.heap.size, 1, none⟩ = some (.bool true) := (by have := N0.out.cell 0 1 rfl rfl; rwa [hzk] at this)
              have kq1 := kept_cell q1
              have q2 : V0.cell? ⟨wr.heap.size, 2, none⟩ = some (.int .u64 (z.seq : Int)) := N0.out.cell 0 2 rfl rfl
              have kq2 := kept_cell q2
              have q5 : V0.cell? ⟨wr.heap.size, 5, none⟩ = some (.slice (some ⟨b1, off1, none⟩) zn zc) := N0.out.cell 0 5 rfl rfl
              have kq5 := kept_cell q5
              have p2 : V0.cell? ⟨w.heap.size, 2, none⟩ = some (.int .u64 (x.seq : Int)) := MV.out.cell 0 2 rfl rfl
              have kp2 := kept_cell p2
              have p5 : V0.cell? ⟨w.heap.size, 5, none⟩ = some (.slice (some ⟨b2, off2, none⟩) xn xc) := MV.out.cell 0 5 rfl rfl
              have kp5 := kept_cell p5
              have u0 := (N0.out.below.cell (p := ⟨b1, off1 + 0 * 10 + 0, none⟩) hbl1).trans (hcell1 0 _ rfl)
              have u1 := (N0.out.below.cell (p := ⟨b1, off1 + 0 * 10 + 1, none⟩) hbl1).trans (hcell1 1 _ rfl)
              have u2 := (N0.out.below.cell (p := ⟨b1, off1 + 0 * 10 + 2, none⟩) hbl1).trans (hcell1 2 _ rfl)
              have u3 := (N0.out.below.cell (p := ⟨b1, off1 + 0 * 10 + 3, none⟩) hbl1).trans (hcell1 3 _ rfl)
              have u4 := (N0.out.below.cell (p := ⟨b1, off1 + 0 * 10 + 4, none⟩) hbl1).trans (hcell1 4 _ rfl)
              have u5 := (N0.out.below.cell (p := ⟨b1, off1 + 0 * 10 + 5, none⟩) hbl1).trans (hcell1 5 _ rfl)
              have u6 := (N0.out.below.cell (p := ⟨b1, off1 + 0 * 10 + 6, none⟩) hbl1).trans (hcell1 6 _ rfl)
              have u7 := (N0.out.below.cell (p := ⟨b1, off1 + 0 * 10 + 7, none⟩) hbl1).trans (hcell1 7 _ rfl)
              have u8 := (N0.out.below.cell (p := ⟨b1, off1 + 0 * 10 + 8, none⟩) hbl1).trans (hcell1 8 _ rfl)
              have u9 := (N0.out.below.cell (p := ⟨b1, off1 + 0 * 10 + 9, none⟩) hbl1).trans (hcell1 9 _ rfl)
              have t0 := MV.out.old (p := ⟨b2, off2 + 0 * 10 + 0, none⟩) hbl2 (hcell2 0 _ rfl)
              have t1 := MV.out.old (p := ⟨b2, off2 + 0 * 10 + 1, none⟩) hbl2 (hcell2 1 _ rfl)
              have t2 := MV.out.old (p := ⟨b2, off2 + 0 * 10 + 2, none⟩) hbl2 (hcell2 2 _ rfl)
              have t3 := MV.out.old (p := ⟨b2, off2 + 0 * 10 + 3, none⟩) hbl2 (hcell2 3 _ rfl)
              have t4 := MV.out.old (p := ⟨b2, off2 + 0 * 10 + 4, none⟩) hbl2 (hcell2 4 _ rfl)
              have t5 := MV.out.old (p := ⟨b2, off2 + 0 * 10 + 5, none⟩) hbl2 (hcell2 5 _ rfl)
              have t6 := MV.out.old (p := ⟨b2, off2 + 0 * 10 + 6, none⟩) hbl2 (hcell2 6 _ rfl)
              have t7 := MV.out.old (p := ⟨b2, off2 + 0 * 10 + 7, none⟩) hbl2 (hcell2 7 _ rfl)
              have t8 := MV.out.old (p := ⟨b2, off2 + 0 * 10 + 8, none⟩) hbl2 (hcell2 8 _ rfl)
              have t9 := MV.out.old (p := ⟨b2, off2 + 0 * 10 + 9, none⟩) hbl2 (hcell2 9 _ rfl)
              simp only [Nat.zero_mul, Nat.add_zero] at u0 t0 u1 t1 u2 t2 u3 t3 u4 t4 u5 t5 u6 t6 u7 t7 u8 t8 u9 t9
              have ku0 := kept_cell u0
              have kt0 := kept_cell t0
              have ku1 := kept_cell u1
              have kt1 := kept_cell t1
              have ku2 := kept_cell u2
              have kt2 := kept_cell t2
              have ku3 := kept_cell u3
              have kt3 := kept_cell t3
              have ku4 := kept_cell u4
              have kt4 := kept_cell t4
              have ku5 := kept_cell u5
              have kt5 := kept_cell t5
              have ku6 := kept_cell u6
              have kt6 := kept_cell t6
              have ku7 := kept_cell u7
              have kt7 := kept_cell t7
              have ku8 := kept_cell u8
              have kt8 := kept_cell t8
              have ku9 := kept_cell u9
              have kt9 := kept_cell t9
              clear hcell1 hcell2
              refine wp_region_kept (by kernel_rfl) (by kernel_rfl) ?_
              repeat (go_big_quiet_step (first | (go_at_call 9; with_reducible exact kept_call (HOVR.out _))))
              refine wpQuiet_nil ?_
              intro W2 hb2
              have HB2 := Lib.hid (HBV.out.trans (hb2.mono HBV.out.size))
              have HO2 := Lib.hid (own_below HO.out ((N0.out.below).trans (hb2.mono N0.out.below.size)))
              have NV := Lib.hid (N0.out.call hb2)
              clear hb2
              try clear q1 kq1 q2 kq2 q5 kq5 p2 kp2 p5 kp5
              clear u0 t0 ku0 kt0 u1 t1 ku1 kt1 u2 t2 ku2 kt2 u3 t3 ku3 kt3 u4 t4 ku4 kt4 u5 t5 ku5 kt5 u6 t6 ku6 kt6 u7 t7 ku7 kt7 u8 t8 ku8 kt8 u9 t9 ku9 kt9
              cases ab
              · have HTF := Lib.hid (show againstF (l.take (k + 1)) x = ns by have := HTK.out; simpa using this)
                go_wp2
                go_roundw
                case rel => exact ⟨k + 1, by omega, by go_num, by rw [HTF.out]; exact HO2.out, HB2.out⟩
                case measure => simp [intOf] <;> omega
              · have HTF := Lib.hid (show againstF (l.take (k + 1)) x = ns ++ [z.name] by have := HTK.out; simpa using this)
                generalize hnn : ns.length = m at *
                have q0 : W2.cell? ⟨wr.heap.size, 0, none⟩ = some (.string z.name) := NV.out.cell 0 0 rfl rfl
                have z0 : wr.heap.size < W2.heap.size := NV.out.lt 0 (by simp)
                have h63 : m + 1 ≤ maxLen := by unfold maxLen; omega
                have hby : (m + 1) * 16 ≤ 140737488355328 := by omega
                have hbase : W0.heap.size ≤ (W2.alloc (.cells #[.string z.name] 9)).heap.size := by have := HB2.out.size; simp; omega
                have hone : ∀ u ∈ ([.string z.name] : List Value), u.oneCell' = true := by simp [Value.oneCell']
                have hcl : ∀ j u, ([.string z.name] : List Value)[j]? = some u → (W2.alloc (.cells #[.string z.name] 9)).cell? ((⟨W2.heap.size, 0, none⟩ : Addr).add j) = some u := fun j u hj => by
                  have := CellsAt.alloc_at W2 #[.string z.name] 9 W2.heap.size rfl j u (by simpa using hj)
                  rw [show ((⟨W2.heap.size, 0, none⟩ : Addr).add j) = ⟨W2.heap.size, j, none⟩ by (simp [Addr.add] <;> omega)]
                  exact this
                have HBASE := Lib.hid hbase
                have HONE := Lib.hid hone
                have HCL := Lib.hid hcl
                clear hbase hone hcl
                go_wp2_with (at_builtin; refine wpList_append_lies _ rfl _ _ _ rfl W0.heap.size 9 l0 (.string ByteArray.empty) 1 16 Try.underlying38 HL.out HX0.out HX1.out HX2.out rfl (by decide) _ _ _ rfl (HO2.out.alloc _) ⟨W2.heap.size, 0, none⟩ 1 1 [.string z.name] rfl rfl HCL.out HONE.out (by decide) h63 hby HBASE.out _ rfl ?_; intro g cap w5 hown5 hgrow5 hat5 hglt5)
                have hb5 := below_append HO2.out HB2.out hgrow5
                clear hgrow5 hat5
                go_roundw
                case rel =>
                  refine ⟨k + 1, by omega, by go_num, ?_, hb5⟩
                  rw [HTF.out, List.length_append, hnn]
                  unfold strsV
                  rw [List.map_append]
                  exact hown5
                case measure => simp [intOf] <;> omega
        · obtain rfl : ab = false := by rw [← hab]; simp [hsq]
          clear hab
          have HTF := Lib.hid (show againstF (l.take (k + 1)) x = ns by have := HTK.out; simpa using this)
          have hsqi : (z.seq : Int) ≤ (x.seq : Int) := by omega
          have hsqb : ¬ (x.seq : Int) < (z.seq : Int) := by omega
          have q1 : V0.cell? ⟨wr.heap.size, 1, none⟩ = some (.bool true) := (by have := N0.out.cell 0 1 rfl rfl; rwa [hzk] at this)
          have kq1 := kept_cell q1
          have q2 : V0.cell? ⟨wr.heap.size, 2, none⟩ = some (.int .u64 (z.seq : Int)) := N0.out.cell 0 2 rfl rfl
          have kq2 := kept_cell q2
          have p2 : V0.cell? ⟨w.heap.size, 2, none⟩ = some (.int .u64 (x.seq : Int)) := MV.out.cell 0 2 rfl rfl
          have kp2 := kept_cell p2
          refine wp_region_kept (by kernel_rfl) (by kernel_rfl) ?_
          repeat (go_big_quiet_step (fail))
          refine wpQuiet_nil ?_
          intro W2 hb2
          have HB2 := Lib.hid (HBV.out.trans (hb2.mono HBV.out.size))
          have HO2 := Lib.hid (own_below HO.out ((N0.out.below).trans (hb2.mono N0.out.below.size)))
          have NV := Lib.hid (N0.out.call hb2)
          clear hb2
          try clear q1 kq1 q2 kq2 p2 kp2
          go_wp2
          go_roundw
          case rel => exact ⟨k + 1, by omega, by go_num, by rw [HTF.out]; exact HO2.out, HB2.out⟩
          case measure => simp [intOf] <;> omega
    · obtain rfl : k = ln := by omega
      go_wp2
      go_ret
      refine ⟨_, rfl, own_le ?_ M0.out.below.size, MR.out.below⟩
      have h1 : l.take k = l := List.take_of_length_le (by rw [HLL.out]; omega)
      have := HO.out
      rw [h1] at this
      exact this
end Go.Proofs.Ytkofaoaglnjkgaa

namespace Go.Proofs.Ytkofaoaglnjkgaa
open Go.RowKit Go.Deep
set_option linter.unusedVariables false
set_option linter.unusedSimpArgs false

def StatsPost (l : List StatD) (w : World) (e : Ending) (w' : World) : Prop := ∃ v, e = .returned v ∧ w'.ownsRow w.heap.size 31 10 v l.length (l.flatMap statV) ∧ Below w.heap.size w w'
set_option maxRecDepth 100000 in
set_option maxHeartbeats 16000000 in
theorem lift_calls (cx : List Value) (x : EntryD) (cf : List Value) (f : SchemaD) (cs : List Value) (s : SchemaD) (w : World) (hx : EntryR w cx x) (hf : SchemaR w cf f) (hs : SchemaR w cs s) (hfl : f.fields.length ≤ 1000) (hsl : s.fields.length ≤ 1000) (hxl : x.stats.length ≤ 1000) :
    Calls Try.prog 43 #[.agg cx.toArray, .agg cf.toArray, .agg cs.toArray] w (StatsPost (liftF x f s) w) := by
  have HFR := Lib.hid hf
  obtain ⟨fa, fn, fc, rfl, _⟩ := hf
  obtain ⟨sa, sn, sc, rfl, _, _, _, hss, _⟩ := hs
  obtain ⟨xa, xn, xc, rfl, _, _, _, hxs, _⟩ := hx
  simp only [EntryD.cells]
  have HSS := Lib.hid hss
  have HXS := Lib.hid hxs
  have HFL := Lib.hid hfl
  have hsn : sn ≤ 1000 := by have := hss.1; omega
  have hxn : xn ≤ 1000 := by have := hxs.1; omega
  have HXL := Lib.hid hxs.1
  have hlen : (liftF x f s).length = sn := by unfold liftF; rw [List.length_map]; exact hss.1
  have HLG := Lib.hid (fun (k : Nat) (y : FieldD) (h : s.fields[k]? = some y) => (show (liftF x f s)[k]? = some (liftAt x f y) by unfold liftF; rw [List.getElem?_map, h]; rfl))
  unfold StatsPost
  rw [hlen]
  have HLEN := Lib.hid hlen
  generalize liftF x f s = ls at *
  obtain ⟨l0, hl0, hx0, hx1, hx2⟩ := info_parts infoStat
  have HL := Lib.hid hl0
  have HX0 := Lib.hid hx0
  have HX1 := Lib.hid hx1
  have HX2 := Lib.hid hx2
  clear hss hxs hfl hsl hxl hlen hl0 hx0 hx1 hx2
  go_enter Try.func43, Try.ntmps43
  go_wp2
  obtain ⟨W0, hWW⟩ : ∃ W0 : World, W0 = (((w.alloc (.cells #[.string x.name, .bool x.keys, .int .u64 (x.seq : Int), .int .i64 x.rows, .int .u32 (x.schema : Int), .slice xa xn xc] 52)).alloc (.cells #[.int .u32 (f.id : Int), .slice fa fn fc] 37)).alloc (.cells #[.int .u32 (s.id : Int), .slice sa sn sc] 37)) := ⟨_, rfl⟩
  have hm : Mem w.heap.size [#[.string x.name, .bool x.keys, .int .u64 (x.seq : Int), .int .i64 x.rows, .int .u32 (x.schema : Int), .slice xa xn xc], #[.int .u32 (f.id : Int), .slice fa fn fc], #[.int .u32 (s.id : Int), .slice sa sn sc]] w W0 := by rw [hWW]; exact ((((Mem.nil w).push (by simp) #[.string x.name, .bool x.keys, .int .u64 (x.seq : Int), .int .i64 x.rows, .int .u32 (x.schema : Int), .slice xa xn xc] 52).push (by simp) #[.int .u32 (f.id : Int), .slice fa fn fc] 37).push (by simp) #[.int .u32 (s.id : Int), .slice sa sn sc] 37)
  rw [← hWW]
  clear hWW
  have M0 := Lib.hid hm
  clear hm
  go_loopw [7, 16] (fun v i wr => ∃ k : Nat, k ≤ sn ∧ i = .int .i64 (k : Int) ∧ wr.ownsRow W0.heap.size 31 10 v k ((ls.take k).flatMap statV) ∧ Below W0.heap.size W0 wr) (fun _ i _ => sn - (intOf i).toNat)
  case atStart => exact ⟨0, Nat.zero_le _, rfl, World.ownsRow_nil _ _ _ _, Below.refl _ _⟩
  case round =>
    obtain ⟨k, hk, rfl, hown, hb⟩ := hrel
    have HO := Lib.hid hown
    have MR := Lib.hid (M0.out.call hb)
    have HB := Lib.hid hb
    clear hown hb
    have hki : (0 : Int) ≤ (k : Int) := by omega
    by_cases hlt : k < sn
    · have hkn : (k : Int) < (sn : Int) := by omega
      obtain ⟨b, off, y, ycs, rfl, hbl, hy, hcl, hyr, hcell⟩ := HSS.out.at_ hlt
      obtain ⟨rfl, hy1, hy2, hy3⟩ := hyr
      have e0 := MR.out.old (p := ⟨b, off + k * 4 + 0, none⟩) hbl (hcell 0 _ rfl)
      have e1 := MR.out.old (p := ⟨b, off + k * 4 + 1, none⟩) hbl (hcell 1 _ rfl)
      have e2 := MR.out.old (p := ⟨b, off + k * 4 + 2, none⟩) hbl (hcell 2 _ rfl)
      have e3 := MR.out.old (p := ⟨b, off + k * 4 + 3, none⟩) hbl (hcell 3 _ rfl)
      rw [Nat.add_zero] at e0
      have hbw : b < wr.heap.size := by have := MR.out.below.size; omega
      have hlg := HLG.out k y hy
      have hsn := flat_snoc (f := statV) hlg
      clear hcell hcl hy hy1 hy2 hy3
      have q0_0 : wr.cell? ⟨w.heap.size, 0, none⟩ = some (.string x.name) := MR.out.cell 0 0 rfl rfl
      have q0_1 : wr.cell? ⟨w.heap.size, 1, none⟩ = some (.bool x.keys) := MR.out.cell 0 1 rfl rfl
      have q0_2 : wr.cell? ⟨w.heap.size, 2, none⟩ = some (.int .u64 (x.seq : Int)) := MR.out.cell 0 2 rfl rfl
      have q0_3 : wr.cell? ⟨w.heap.size, 3, none⟩ = some (.int .i64 x.rows) := MR.out.cell 0 3 rfl rfl
      have q0_4 : wr.cell? ⟨w.heap.size, 4, none⟩ = some (.int .u32 (x.schema : Int)) := MR.out.cell 0 4 rfl rfl
      have q0_5 : wr.cell? ⟨w.heap.size, 5, none⟩ = some (.slice xa xn xc) := MR.out.cell 0 5 rfl rfl
      have q1_0 : wr.cell? ⟨w.heap.size + 1, 0, none⟩ = some (.int .u32 (f.id : Int)) := MR.out.cell 1 0 rfl rfl
      have q1_1 : wr.cell? ⟨w.heap.size + 1, 1, none⟩ = some (.slice fa fn fc) := MR.out.cell 1 1 rfl rfl
      have q2_0 : wr.cell? ⟨w.heap.size + 1 + 1, 0, none⟩ = some (.int .u32 (s.id : Int)) := MR.out.cell 2 0 rfl rfl
      have q2_1 : wr.cell? ⟨w.heap.size + 1 + 1, 1, none⟩ = some (.slice (some ⟨b, off, none⟩) sn sc) := MR.out.cell 2 1 rfl rfl
      have z0 : w.heap.size < wr.heap.size := MR.out.lt 0 (by simp)
      have z1 : w.heap.size + 1 < wr.heap.size := MR.out.lt 1 (by simp)
      have z2 : w.heap.size + 1 + 1 < wr.heap.size := MR.out.lt 2 (by simp)
      go_wp2_with fail
      obtain ⟨V0, hWW⟩ : ∃ W0 : World, W0 = ((wr.alloc (.cells #[.int .u32 (y.id : Int), .string y.name, .int .u8 (y.kind : Int), .bool y.need] 85)).alloc (.cells #[.int .i64 x.rows, .int .i64 x.rows, .bool false, .bool false, .int .u8 0, .int .i64 0, .string ⟨#[]⟩, .int .u8 0, .int .i64 0, .string ⟨#[]⟩] 31)) := ⟨_, rfl⟩
      have hm : Mem wr.heap.size [#[.int .u32 (y.id : Int), .string y.name, .int .u8 (y.kind : Int), .bool y.need], #[.int .i64 x.rows, .int .i64 x.rows, .bool false, .bool false, .int .u8 0, .int .i64 0, .string ⟨#[]⟩, .int .u8 0, .int .i64 0, .string ⟨#[]⟩]] wr V0 := by rw [hWW]; exact (((Mem.nil wr).push (by simp) #[.int .u32 (y.id : Int), .string y.name, .int .u8 (y.kind : Int), .bool y.need] 85).push (by simp) #[.int .i64 x.rows, .int .i64 x.rows, .bool false, .bool false, .int .u8 0, .int .i64 0, .string ⟨#[]⟩, .int .u8 0, .int .i64 0, .string ⟨#[]⟩] 31)
      rw [← hWW]
      clear hWW
      have N0 := Lib.hid hm
      clear hm
      clear e0 e1 e2 e3
      clear q0_0 q0_1 q0_2 q0_3 q0_4 q0_5 q1_0 q1_1 q2_0 q2_1 z0 z1 z2
      refine (place_calls _ f y.id _ (SchemaR.stable _ _ _ _ (M0.out.below.trans ((HB.out.trans (N0.out.below.mono HB.out.size)).mono M0.out.below.size)) HFR.out) HFL.out).mono ?_
      rintro e w1 ⟨rfl, hb⟩
      have hm : Mem wr.heap.size [#[.int .u32 (y.id : Int), .string y.name, .int .u8 (y.kind : Int), .bool y.need], #[.int .i64 x.rows, .int .i64 x.rows, .bool false, .bool false, .int .u8 0, .int .i64 0, .string ⟨#[]⟩, .int .u8 0, .int .i64 0, .string ⟨#[]⟩]] wr w1 := by have := (N0.out.call hb); first | exact this | simpa using this
      have Mw1 := Lib.hid hm
      clear hm
      clear hb
      have HB1 := Lib.hid (HB.out.trans (Mw1.out.below.mono HB.out.size))
      have MW1 := Lib.hid (M0.out.call HB1.out)
      have HOV := Lib.hid (own_below HO.out Mw1.out.below)
      unfold liftAt at hlg hsn
      generalize placeI f.fields y.id = r at *
      by_cases hr : 0 ≤ r ∧ r < (x.stats.length : Int)
      · rw [if_pos hr] at hlg hsn
        obtain ⟨m, rfl⟩ : ∃ m : Nat, r = (m : Int) := ⟨r.toNat, by omega⟩
        have hm : m < xn := by have := HXL.out; omega
        have hmi : (m : Int) < (xn : Int) := by omega
        have hm0 : (0 : Int) ≤ (m : Int) := by omega
        obtain ⟨b2, off2, st, stcs, rfl, hbl2, hst, hcl2, hsr, hcell2⟩ := HXS.out.at_ hm
        obtain ⟨rfl, hsok⟩ := hsr
        simp only [Int.toNat_natCast] at hlg hsn
        rw [hst, Option.getD_some] at hlg hsn
        clear hlg
        obtain ⟨rw_, nl, sm, hi, ⟨lk, ln, lst⟩, ⟨mk, mn, mst⟩⟩ := st
        have HSN := Lib.hid hsn
        clear hsn hst hsok hcl2
        have hneg : ¬ (m : Int) < 0 := by omega
        have hdec : decide (0 ≤ (m : Int)) = true := by simp
        rw [if_neg hneg, hdec]
        have d0 := MW1.out.old (p := ⟨b2, off2 + m * 10 + 0, none⟩) hbl2 (hcell2 0 _ rfl)
        have d1 := MW1.out.old (p := ⟨b2, off2 + m * 10 + 1, none⟩) hbl2 (hcell2 1 _ rfl)
        have d2 := MW1.out.old (p := ⟨b2, off2 + m * 10 + 2, none⟩) hbl2 (hcell2 2 _ rfl)
        have d3 := MW1.out.old (p := ⟨b2, off2 + m * 10 + 3, none⟩) hbl2 (hcell2 3 _ rfl)
        have d4 := MW1.out.old (p := ⟨b2, off2 + m * 10 + 4, none⟩) hbl2 (hcell2 4 _ rfl)
        have d5 := MW1.out.old (p := ⟨b2, off2 + m * 10 + 5, none⟩) hbl2 (hcell2 5 _ rfl)
        have d6 := MW1.out.old (p := ⟨b2, off2 + m * 10 + 6, none⟩) hbl2 (hcell2 6 _ rfl)
        have d7 := MW1.out.old (p := ⟨b2, off2 + m * 10 + 7, none⟩) hbl2 (hcell2 7 _ rfl)
        have d8 := MW1.out.old (p := ⟨b2, off2 + m * 10 + 8, none⟩) hbl2 (hcell2 8 _ rfl)
        have d9 := MW1.out.old (p := ⟨b2, off2 + m * 10 + 9, none⟩) hbl2 (hcell2 9 _ rfl)
        rw [Nat.add_zero] at d0
        have hbw2 : b2 < w1.heap.size := by have := MW1.out.below.size; omega
        clear hcell2
        have q0_3 : w1.cell? ⟨w.heap.size, 3, none⟩ = some (.int .i64 x.rows) := MW1.out.cell 0 3 rfl rfl
        have q0_5 : w1.cell? ⟨w.heap.size, 5, none⟩ = some (.slice (some ⟨b2, off2, none⟩) xn xc) := MW1.out.cell 0 5 rfl rfl
        have z0 := MW1.out.lt 0 (by simp)
        have q0_0 : w1.cell? ⟨wr.heap.size, 0, none⟩ = some (.int .u32 (y.id : Int)) := Mw1.out.cell 0 0 rfl rfl
        have q0_1 : w1.cell? ⟨wr.heap.size, 1, none⟩ = some (.string y.name) := Mw1.out.cell 0 1 rfl rfl
        have q0_2 : w1.cell? ⟨wr.heap.size, 2, none⟩ = some (.int .u8 (y.kind : Int)) := Mw1.out.cell 0 2 rfl rfl
        have q0_3 : w1.cell? ⟨wr.heap.size, 3, none⟩ = some (.bool y.need) := Mw1.out.cell 0 3 rfl rfl
        have q1_0 : w1.cell? ⟨wr.heap.size + 1, 0, none⟩ = some (.int .i64 x.rows) := Mw1.out.cell 1 0 rfl rfl
        have q1_1 : w1.cell? ⟨wr.heap.size + 1, 1, none⟩ = some (.int .i64 x.rows) := Mw1.out.cell 1 1 rfl rfl
        have q1_2 : w1.cell? ⟨wr.heap.size + 1, 2, none⟩ = some (.bool false) := Mw1.out.cell 1 2 rfl rfl
        have q1_3 : w1.cell? ⟨wr.heap.size + 1, 3, none⟩ = some (.bool false) := Mw1.out.cell 1 3 rfl rfl
        have q1_4 : w1.cell? ⟨wr.heap.size + 1, 4, none⟩ = some (.int .u8 0) := Mw1.out.cell 1 4 rfl rfl
        have q1_5 : w1.cell? ⟨wr.heap.size + 1, 5, none⟩ = some (.int .i64 0) := Mw1.out.cell 1 5 rfl rfl
        have q1_6 : w1.cell? ⟨wr.heap.size + 1, 6, none⟩ = some (.string ⟨#[]⟩) := Mw1.out.cell 1 6 rfl rfl
        have q1_7 : w1.cell? ⟨wr.heap.size + 1, 7, none⟩ = some (.int .u8 0) := Mw1.out.cell 1 7 rfl rfl
        have q1_8 : w1.cell? ⟨wr.heap.size + 1, 8, none⟩ = some (.int .i64 0) := Mw1.out.cell 1 8 rfl rfl
        have q1_9 : w1.cell? ⟨wr.heap.size + 1, 9, none⟩ = some (.string ⟨#[]⟩) := Mw1.out.cell 1 9 rfl rfl
        have z0 : wr.heap.size < w1.heap.size := Mw1.out.lt 0 (by simp)
        have z1 : wr.heap.size + 1 < w1.heap.size := Mw1.out.lt 1 (by simp)
        have g0 : ∀ j, w1.frozen? ⟨wr.heap.size, j, none⟩ = false := Mw1.out.frozen 0 rfl
        have g1 : ∀ j, w1.frozen? ⟨wr.heap.size + 1, j, none⟩ = false := Mw1.out.frozen 1 rfl
        simp only [StatD.cells] at d0 d1 d2 d3 d4 d5 d6 d7 d8 d9
        go_upto_region 9 with (fail)
        have hst_0 : Mem wr.heap.size [#[.int .u32 (y.id : Int), .string y.name, .int .u8 (y.kind : Int), .bool y.need], #[.int .i64 rw_, .int .i64 x.rows, .bool false, .bool false, .int .u8 0, .int .i64 0, .string ⟨#[]⟩, .int .u8 0, .int .i64 0, .string ⟨#[]⟩]] wr (w1.setCell ⟨wr.heap.size + 1, 0, none⟩ (.int .i64 rw_)) := Mw1.out.set 1 0 (.int .i64 rw_) rfl (by simp)
        have hst_1 : Mem wr.heap.size [#[.int .u32 (y.id : Int), .string y.name, .int .u8 (y.kind : Int), .bool y.need], #[.int .i64 rw_, .int .i64 nl, .bool false, .bool false, .int .u8 0, .int .i64 0, .string ⟨#[]⟩, .int .u8 0, .int .i64 0, .string ⟨#[]⟩]] wr ((w1.setCell ⟨wr.heap.size + 1, 0, none⟩ (.int .i64 rw_)).setCell ⟨wr.heap.size + 1, 1, none⟩ (.int .i64 nl)) := hst_0.set 1 1 (.int .i64 nl) rfl (by simp)
        have hst_2 : Mem wr.heap.size [#[.int .u32 (y.id : Int), .string y.name, .int .u8 (y.kind : Int), .bool y.need], #[.int .i64 rw_, .int .i64 nl, .bool sm, .bool false, .int .u8 0, .int .i64 0, .string ⟨#[]⟩, .int .u8 0, .int .i64 0, .string ⟨#[]⟩]] wr (((w1.setCell ⟨wr.heap.size + 1, 0, none⟩ (.int .i64 rw_)).setCell ⟨wr.heap.size + 1, 1, none⟩ (.int .i64 nl)).setCell ⟨wr.heap.size + 1, 2, none⟩ (.bool sm)) := hst_1.set 1 2 (.bool sm) rfl (by simp)
        have hst_3 : Mem wr.heap.size [#[.int .u32 (y.id : Int), .string y.name, .int .u8 (y.kind : Int), .bool y.need], #[.int .i64 rw_, .int .i64 nl, .bool sm, .bool hi, .int .u8 0, .int .i64 0, .string ⟨#[]⟩, .int .u8 0, .int .i64 0, .string ⟨#[]⟩]] wr ((((w1.setCell ⟨wr.heap.size + 1, 0, none⟩ (.int .i64 rw_)).setCell ⟨wr.heap.size + 1, 1, none⟩ (.int .i64 nl)).setCell ⟨wr.heap.size + 1, 2, none⟩ (.bool sm)).setCell ⟨wr.heap.size + 1, 3, none⟩ (.bool hi)) := hst_2.set 1 3 (.bool hi) rfl (by simp)
        have hst_4 : Mem wr.heap.size [#[.int .u32 (y.id : Int), .string y.name, .int .u8 (y.kind : Int), .bool y.need], #[.int .i64 rw_, .int .i64 nl, .bool sm, .bool hi, .int .u8 lk, .int .i64 0, .string ⟨#[]⟩, .int .u8 0, .int .i64 0, .string ⟨#[]⟩]] wr (((((w1.setCell ⟨wr.heap.size + 1, 0, none⟩ (.int .i64 rw_)).setCell ⟨wr.heap.size + 1, 1, none⟩ (.int .i64 nl)).setCell ⟨wr.heap.size + 1, 2, none⟩ (.bool sm)).setCell ⟨wr.heap.size + 1, 3, none⟩ (.bool hi)).setCell ⟨wr.heap.size + 1, 4, none⟩ (.int .u8 lk)) := hst_3.set 1 4 (.int .u8 lk) rfl (by simp)
        have hst_5 : Mem wr.heap.size [#[.int .u32 (y.id : Int), .string y.name, .int .u8 (y.kind : Int), .bool y.need], #[.int .i64 rw_, .int .i64 nl, .bool sm, .bool hi, .int .u8 lk, .int .i64 ln, .string ⟨#[]⟩, .int .u8 0, .int .i64 0, .string ⟨#[]⟩]] wr ((((((w1.setCell ⟨wr.heap.size + 1, 0, none⟩ (.int .i64 rw_)).setCell ⟨wr.heap.size + 1, 1, none⟩ (.int .i64 nl)).setCell ⟨wr.heap.size + 1, 2, none⟩ (.bool sm)).setCell ⟨wr.heap.size + 1, 3, none⟩ (.bool hi)).setCell ⟨wr.heap.size + 1, 4, none⟩ (.int .u8 lk)).setCell ⟨wr.heap.size + 1, 5, none⟩ (.int .i64 ln)) := hst_4.set 1 5 (.int .i64 ln) rfl (by simp)
        have hst_6 : Mem wr.heap.size [#[.int .u32 (y.id : Int), .string y.name, .int .u8 (y.kind : Int), .bool y.need], #[.int .i64 rw_, .int .i64 nl, .bool sm, .bool hi, .int .u8 lk, .int .i64 ln, .string lst, .int .u8 0, .int .i64 0, .string ⟨#[]⟩]] wr (((((((w1.setCell ⟨wr.heap.size + 1, 0, none⟩ (.int .i64 rw_)).setCell ⟨wr.heap.size + 1, 1, none⟩ (.int .i64 nl)).setCell ⟨wr.heap.size + 1, 2, none⟩ (.bool sm)).setCell ⟨wr.heap.size + 1, 3, none⟩ (.bool hi)).setCell ⟨wr.heap.size + 1, 4, none⟩ (.int .u8 lk)).setCell ⟨wr.heap.size + 1, 5, none⟩ (.int .i64 ln)).setCell ⟨wr.heap.size + 1, 6, none⟩ (.string lst)) := hst_5.set 1 6 (.string lst) rfl (by simp)
        have hst_7 : Mem wr.heap.size [#[.int .u32 (y.id : Int), .string y.name, .int .u8 (y.kind : Int), .bool y.need], #[.int .i64 rw_, .int .i64 nl, .bool sm, .bool hi, .int .u8 lk, .int .i64 ln, .string lst, .int .u8 mk, .int .i64 0, .string ⟨#[]⟩]] wr ((((((((w1.setCell ⟨wr.heap.size + 1, 0, none⟩ (.int .i64 rw_)).setCell ⟨wr.heap.size + 1, 1, none⟩ (.int .i64 nl)).setCell ⟨wr.heap.size + 1, 2, none⟩ (.bool sm)).setCell ⟨wr.heap.size + 1, 3, none⟩ (.bool hi)).setCell ⟨wr.heap.size + 1, 4, none⟩ (.int .u8 lk)).setCell ⟨wr.heap.size + 1, 5, none⟩ (.int .i64 ln)).setCell ⟨wr.heap.size + 1, 6, none⟩ (.string lst)).setCell ⟨wr.heap.size + 1, 7, none⟩ (.int .u8 mk)) := hst_6.set 1 7 (.int .u8 mk) rfl (by simp)
        have hst_8 : Mem wr.heap.size [#[.int .u32 (y.id : Int), .string y.name, .int .u8 (y.kind : Int), .bool y.need], #[.int .i64 rw_, .int .i64 nl, .bool sm, .bool hi, .int .u8 lk, .int .i64 ln, .string lst, .int .u8 mk, .int .i64 mn, .string ⟨#[]⟩]] wr (((((((((w1.setCell ⟨wr.heap.size + 1, 0, none⟩ (.int .i64 rw_)).setCell ⟨wr.heap.size + 1, 1, none⟩ (.int .i64 nl)).setCell ⟨wr.heap.size + 1, 2, none⟩ (.bool sm)).setCell ⟨wr.heap.size + 1, 3, none⟩ (.bool hi)).setCell ⟨wr.heap.size + 1, 4, none⟩ (.int .u8 lk)).setCell ⟨wr.heap.size + 1, 5, none⟩ (.int .i64 ln)).setCell ⟨wr.heap.size + 1, 6, none⟩ (.string lst)).setCell ⟨wr.heap.size + 1, 7, none⟩ (.int .u8 mk)).setCell ⟨wr.heap.size + 1, 8, none⟩ (.int .i64 mn)) := hst_7.set 1 8 (.int .i64 mn) rfl (by simp)
        have hst_9 : Mem wr.heap.size [#[.int .u32 (y.id : Int), .string y.name, .int .u8 (y.kind : Int), .bool y.need], #[.int .i64 rw_, .int .i64 nl, .bool sm, .bool hi, .int .u8 lk, .int .i64 ln, .string lst, .int .u8 mk, .int .i64 mn, .string mst]] wr ((((((((((w1.setCell ⟨wr.heap.size + 1, 0, none⟩ (.int .i64 rw_)).setCell ⟨wr.heap.size + 1, 1, none⟩ (.int .i64 nl)).setCell ⟨wr.heap.size + 1, 2, none⟩ (.bool sm)).setCell ⟨wr.heap.size + 1, 3, none⟩ (.bool hi)).setCell ⟨wr.heap.size + 1, 4, none⟩ (.int .u8 lk)).setCell ⟨wr.heap.size + 1, 5, none⟩ (.int .i64 ln)).setCell ⟨wr.heap.size + 1, 6, none⟩ (.string lst)).setCell ⟨wr.heap.size + 1, 7, none⟩ (.int .u8 mk)).setCell ⟨wr.heap.size + 1, 8, none⟩ (.int .i64 mn)).setCell ⟨wr.heap.size + 1, 9, none⟩ (.string mst)) := hst_8.set 1 9 (.string mst) rfl (by simp)
        have hm := hst_9
        obtain ⟨V2, hWW⟩ : ∃ W : World, W = ((((((((((w1.setCell ⟨wr.heap.size + 1, 0, none⟩ (.int .i64 rw_)).setCell ⟨wr.heap.size + 1, 1, none⟩ (.int .i64 nl)).setCell ⟨wr.heap.size + 1, 2, none⟩ (.bool sm)).setCell ⟨wr.heap.size + 1, 3, none⟩ (.bool hi)).setCell ⟨wr.heap.size + 1, 4, none⟩ (.int .u8 lk)).setCell ⟨wr.heap.size + 1, 5, none⟩ (.int .i64 ln)).setCell ⟨wr.heap.size + 1, 6, none⟩ (.string lst)).setCell ⟨wr.heap.size + 1, 7, none⟩ (.int .u8 mk)).setCell ⟨wr.heap.size + 1, 8, none⟩ (.int .i64 mn)).setCell ⟨wr.heap.size + 1, 9, none⟩ (.string mst)) := ⟨_, rfl⟩
        rw [← hWW] at hm ⊢
        clear hWW hst_0 hst_1 hst_2 hst_3 hst_4 hst_5 hst_6 hst_7 hst_8 hst_9
        clear q0_0 q0_1 q0_2 q0_3 q1_0 q1_1 q1_2 q1_3 q1_4 q1_5 q1_6 q1_7 q1_8 q1_9 z0 z1 g0 g1
        have MV2 := Lib.hid hm
        clear hm
        clear d0 d1 d2 d3 d4 d5 d6 d7 d8 d9 hbw2 q0_3 q0_5
        have HBX := Lib.hid (HB.out.trans (MV2.out.below.mono HB.out.size))
        have HOX := Lib.hid (own_below HO.out MV2.out.below)
        have q1_0 : V2.cell? ⟨wr.heap.size + 1, 0, none⟩ = some (.int .i64 rw_) := MV2.out.cell 1 0 rfl rfl
        have q1_1 : V2.cell? ⟨wr.heap.size + 1, 1, none⟩ = some (.int .i64 nl) := MV2.out.cell 1 1 rfl rfl
        have q1_2 : V2.cell? ⟨wr.heap.size + 1, 2, none⟩ = some (.bool sm) := MV2.out.cell 1 2 rfl rfl
        have q1_3 : V2.cell? ⟨wr.heap.size + 1, 3, none⟩ = some (.bool hi) := MV2.out.cell 1 3 rfl rfl
        have q1_4 : V2.cell? ⟨wr.heap.size + 1, 4, none⟩ = some (.int .u8 lk) := MV2.out.cell 1 4 rfl rfl
        have q1_5 : V2.cell? ⟨wr.heap.size + 1, 5, none⟩ = some (.int .i64 ln) := MV2.out.cell 1 5 rfl rfl
        have q1_6 : V2.cell? ⟨wr.heap.size + 1, 6, none⟩ = some (.string lst) := MV2.out.cell 1 6 rfl rfl
        have q1_7 : V2.cell? ⟨wr.heap.size + 1, 7, none⟩ = some (.int .u8 mk) := MV2.out.cell 1 7 rfl rfl
        have q1_8 : V2.cell? ⟨wr.heap.size + 1, 8, none⟩ = some (.int .i64 mn) := MV2.out.cell 1 8 rfl rfl
        have q1_9 : V2.cell? ⟨wr.heap.size + 1, 9, none⟩ = some (.string mst) := MV2.out.cell 1 9 rfl rfl
        have z0 : wr.heap.size < V2.heap.size := MV2.out.lt 0 (by simp)
        have z1 : wr.heap.size + 1 < V2.heap.size := MV2.out.lt 1 (by simp)
        have h63 : k + 1 ≤ maxLen := by unfold maxLen; omega
        have hby : (k + 1) * 88 ≤ 140737488355328 := by omega
        have hbase : W0.heap.size ≤ (V2.alloc (.cells #[.int .i64 rw_, .int .i64 nl, .bool sm, .bool hi, .int .u8 lk, .int .i64 ln, .string lst, .int .u8 mk, .int .i64 mn, .string mst] 31)).heap.size := by have := HBX.out.size; simp; omega
        have hone : ∀ u ∈ ([.int .i64 rw_, .int .i64 nl, .bool sm, .bool hi, .int .u8 lk, .int .i64 ln, .string lst, .int .u8 mk, .int .i64 mn, .string mst] : List Value), u.oneCell' = true := by simp [Value.oneCell']
        have hcl : ∀ j u, ([.int .i64 rw_, .int .i64 nl, .bool sm, .bool hi, .int .u8 lk, .int .i64 ln, .string lst, .int .u8 mk, .int .i64 mn, .string mst] : List Value)[j]? = some u → (V2.alloc (.cells #[.int .i64 rw_, .int .i64 nl, .bool sm, .bool hi, .int .u8 lk, .int .i64 ln, .string lst, .int .u8 mk, .int .i64 mn, .string mst] 31)).cell? ((⟨V2.heap.size, 0, none⟩ : Addr).add j) = some u := fun j u hj => by
          have := CellsAt.alloc_at V2 #[.int .i64 rw_, .int .i64 nl, .bool sm, .bool hi, .int .u8 lk, .int .i64 ln, .string lst, .int .u8 mk, .int .i64 mn, .string mst] 31 V2.heap.size rfl j u (by simpa using hj)
          rw [show ((⟨V2.heap.size, 0, none⟩ : Addr).add j) = ⟨V2.heap.size, j, none⟩ by (simp [Addr.add] <;> omega)]
          exact this
        have HBASE := Lib.hid hbase
        have HONE := Lib.hid hone
        have HCL := Lib.hid hcl
        clear hbase hone hcl
        go_wp2_with (at_builtin; refine wpList_append_lies _ rfl _ _ _ rfl W0.heap.size 31 l0 (.agg #[.int .i64 0, .int .i64 0, .bool false, .bool false, .int .u8 0, .int .i64 0, .string ByteArray.empty, .int .u8 0, .int .i64 0, .string ByteArray.empty]) 10 88 Try.underlying50 HL.out HX0.out HX1.out HX2.out rfl (by decide) _ _ _ rfl (HOX.out.alloc _) ⟨V2.heap.size, 0, none⟩ 1 1 [.int .i64 rw_, .int .i64 nl, .bool sm, .bool hi, .int .u8 lk, .int .i64 ln, .string lst, .int .u8 mk, .int .i64 mn, .string mst] rfl rfl HCL.out HONE.out (by decide) h63 hby HBASE.out _ rfl ?_; intro g cap w5 hown5 hgrow5 hat5 hglt5)
        have hb5 := below_append HOX.out HBX.out hgrow5
        clear hgrow5 hat5
        go_roundw
        case rel =>
          refine ⟨k + 1, by omega, by go_num, ?_, hb5⟩
          rw [HSN.out]
          exact hown5
        case measure => simp [intOf] <;> omega
      · rw [if_neg hr] at hlg hsn
        have HSN := Lib.hid hsn
        clear hlg hsn
        have HOX := HOV
        have HBX := HB1
        by_cases hr0 : r < 0
        · have hdec : decide (0 ≤ r) = false := by simp; omega
          rw [if_pos hr0, hdec]
          have q0_5 : w1.cell? ⟨w.heap.size, 5, none⟩ = some (.slice xa xn xc) := MW1.out.cell 0 5 rfl rfl
          have z0 := MW1.out.lt 0 (by simp)
          have q1_0 : w1.cell? ⟨wr.heap.size + 1, 0, none⟩ = some (.int .i64 x.rows) := Mw1.out.cell 1 0 rfl rfl
          have q1_1 : w1.cell? ⟨wr.heap.size + 1, 1, none⟩ = some (.int .i64 x.rows) := Mw1.out.cell 1 1 rfl rfl
          have q1_2 : w1.cell? ⟨wr.heap.size + 1, 2, none⟩ = some (.bool false) := Mw1.out.cell 1 2 rfl rfl
          have q1_3 : w1.cell? ⟨wr.heap.size + 1, 3, none⟩ = some (.bool false) := Mw1.out.cell 1 3 rfl rfl
          have q1_4 : w1.cell? ⟨wr.heap.size + 1, 4, none⟩ = some (.int .u8 0) := Mw1.out.cell 1 4 rfl rfl
          have q1_5 : w1.cell? ⟨wr.heap.size + 1, 5, none⟩ = some (.int .i64 0) := Mw1.out.cell 1 5 rfl rfl
          have q1_6 : w1.cell? ⟨wr.heap.size + 1, 6, none⟩ = some (.string ⟨#[]⟩) := Mw1.out.cell 1 6 rfl rfl
          have q1_7 : w1.cell? ⟨wr.heap.size + 1, 7, none⟩ = some (.int .u8 0) := Mw1.out.cell 1 7 rfl rfl
          have q1_8 : w1.cell? ⟨wr.heap.size + 1, 8, none⟩ = some (.int .i64 0) := Mw1.out.cell 1 8 rfl rfl
          have q1_9 : w1.cell? ⟨wr.heap.size + 1, 9, none⟩ = some (.string ⟨#[]⟩) := Mw1.out.cell 1 9 rfl rfl
          have z0 : wr.heap.size < w1.heap.size := Mw1.out.lt 0 (by simp)
          have z1 : wr.heap.size + 1 < w1.heap.size := Mw1.out.lt 1 (by simp)
          have h63 : k + 1 ≤ maxLen := by unfold maxLen; omega
          have hby : (k + 1) * 88 ≤ 140737488355328 := by omega
          have hbase : W0.heap.size ≤ (w1.alloc (.cells #[.int .i64 x.rows, .int .i64 x.rows, .bool false, .bool false, .int .u8 0, .int .i64 0, .string ⟨#[]⟩, .int .u8 0, .int .i64 0, .string ⟨#[]⟩] 31)).heap.size := by have := HBX.out.size; simp; omega
          have hone : ∀ u ∈ ([.int .i64 x.rows, .int .i64 x.rows, .bool false, .bool false, .int .u8 0, .int .i64 0, .string ⟨#[]⟩, .int .u8 0, .int .i64 0, .string ⟨#[]⟩] : List Value), u.oneCell' = true := by simp [Value.oneCell']
          have hcl : ∀ j u, ([.int .i64 x.rows, .int .i64 x.rows, .bool false, .bool false, .int .u8 0, .int .i64 0, .string ⟨#[]⟩, .int .u8 0, .int .i64 0, .string ⟨#[]⟩] : List Value)[j]? = some u → (w1.alloc (.cells #[.int .i64 x.rows, .int .i64 x.rows, .bool false, .bool false, .int .u8 0, .int .i64 0, .string ⟨#[]⟩, .int .u8 0, .int .i64 0, .string ⟨#[]⟩] 31)).cell? ((⟨w1.heap.size, 0, none⟩ : Addr).add j) = some u := fun j u hj => by
            have := CellsAt.alloc_at w1 #[.int .i64 x.rows, .int .i64 x.rows, .bool false, .bool false, .int .u8 0, .int .i64 0, .string ⟨#[]⟩, .int .u8 0, .int .i64 0, .string ⟨#[]⟩] 31 w1.heap.size rfl j u (by simpa using hj)
            rw [show ((⟨w1.heap.size, 0, none⟩ : Addr).add j) = ⟨w1.heap.size, j, none⟩ by (simp [Addr.add] <;> omega)]
            exact this
          have HBASE := Lib.hid hbase
          have HONE := Lib.hid hone
          have HCL := Lib.hid hcl
          clear hbase hone hcl
          go_wp2_with (at_builtin; refine wpList_append_lies _ rfl _ _ _ rfl W0.heap.size 31 l0 (.agg #[.int .i64 0, .int .i64 0, .bool false, .bool false, .int .u8 0, .int .i64 0, .string ByteArray.empty, .int .u8 0, .int .i64 0, .string ByteArray.empty]) 10 88 Try.underlying50 HL.out HX0.out HX1.out HX2.out rfl (by decide) _ _ _ rfl (HOX.out.alloc _) ⟨w1.heap.size, 0, none⟩ 1 1 [.int .i64 x.rows, .int .i64 x.rows, .bool false, .bool false, .int .u8 0, .int .i64 0, .string ⟨#[]⟩, .int .u8 0, .int .i64 0, .string ⟨#[]⟩] rfl rfl HCL.out HONE.out (by decide) h63 hby HBASE.out _ rfl ?_; intro g cap w5 hown5 hgrow5 hat5 hglt5)
          have hb5 := below_append HOX.out HBX.out hgrow5
          clear hgrow5 hat5
          go_roundw
          case rel =>
            refine ⟨k + 1, by omega, by go_num, ?_, hb5⟩
            rw [HSN.out]
            exact hown5
          case measure => simp [intOf] <;> omega
        · have hdec : decide (0 ≤ r) = true := by simp; omega
          have hge : (xn : Int) ≤ r := by have := HXL.out; omega
          rw [if_neg hr0, hdec]
          have q0_5 : w1.cell? ⟨w.heap.size, 5, none⟩ = some (.slice xa xn xc) := MW1.out.cell 0 5 rfl rfl
          have z0 := MW1.out.lt 0 (by simp)
          have q1_0 : w1.cell? ⟨wr.heap.size + 1, 0, none⟩ = some (.int .i64 x.rows) := Mw1.out.cell 1 0 rfl rfl
          have q1_1 : w1.cell? ⟨wr.heap.size + 1, 1, none⟩ = some (.int .i64 x.rows) := Mw1.out.cell 1 1 rfl rfl
          have q1_2 : w1.cell? ⟨wr.heap.size + 1, 2, none⟩ = some (.bool false) := Mw1.out.cell 1 2 rfl rfl
          have q1_3 : w1.cell? ⟨wr.heap.size + 1, 3, none⟩ = some (.bool false) := Mw1.out.cell 1 3 rfl rfl
          have q1_4 : w1.cell? ⟨wr.heap.size + 1, 4, none⟩ = some (.int .u8 0) := Mw1.out.cell 1 4 rfl rfl
          have q1_5 : w1.cell? ⟨wr.heap.size + 1, 5, none⟩ = some (.int .i64 0) := Mw1.out.cell 1 5 rfl rfl
          have q1_6 : w1.cell? ⟨wr.heap.size + 1, 6, none⟩ = some (.string ⟨#[]⟩) := Mw1.out.cell 1 6 rfl rfl
          have q1_7 : w1.cell? ⟨wr.heap.size + 1, 7, none⟩ = some (.int .u8 0) := Mw1.out.cell 1 7 rfl rfl
          have q1_8 : w1.cell? ⟨wr.heap.size + 1, 8, none⟩ = some (.int .i64 0) := Mw1.out.cell 1 8 rfl rfl
          have q1_9 : w1.cell? ⟨wr.heap.size + 1, 9, none⟩ = some (.string ⟨#[]⟩) := Mw1.out.cell 1 9 rfl rfl
          have z0 : wr.heap.size < w1.heap.size := Mw1.out.lt 0 (by simp)
          have z1 : wr.heap.size + 1 < w1.heap.size := Mw1.out.lt 1 (by simp)
          have h63 : k + 1 ≤ maxLen := by unfold maxLen; omega
          have hby : (k + 1) * 88 ≤ 140737488355328 := by omega
          have hbase : W0.heap.size ≤ (w1.alloc (.cells #[.int .i64 x.rows, .int .i64 x.rows, .bool false, .bool false, .int .u8 0, .int .i64 0, .string ⟨#[]⟩, .int .u8 0, .int .i64 0, .string ⟨#[]⟩] 31)).heap.size := by have := HBX.out.size; simp; omega
          have hone : ∀ u ∈ ([.int .i64 x.rows, .int .i64 x.rows, .bool false, .bool false, .int .u8 0, .int .i64 0, .string ⟨#[]⟩, .int .u8 0, .int .i64 0, .string ⟨#[]⟩] : List Value), u.oneCell' = true := by simp [Value.oneCell']
          have hcl : ∀ j u, ([.int .i64 x.rows, .int .i64 x.rows, .bool false, .bool false, .int .u8 0, .int .i64 0, .string ⟨#[]⟩, .int .u8 0, .int .i64 0, .string ⟨#[]⟩] : List Value)[j]? = some u → (w1.alloc (.cells #[.int .i64 x.rows, .int .i64 x.rows, .bool false, .bool false, .int .u8 0, .int .i64 0, .string ⟨#[]⟩, .int .u8 0, .int .i64 0, .string ⟨#[]⟩] 31)).cell? ((⟨w1.heap.size, 0, none⟩ : Addr).add j) = some u := fun j u hj => by
            have := CellsAt.alloc_at w1 #[.int .i64 x.rows, .int .i64 x.rows, .bool false, .bool false, .int .u8 0, .int .i64 0, .string ⟨#[]⟩, .int .u8 0, .int .i64 0, .string ⟨#[]⟩] 31 w1.heap.size rfl j u (by simpa using hj)
            rw [show ((⟨w1.heap.size, 0, none⟩ : Addr).add j) = ⟨w1.heap.size, j, none⟩ by (simp [Addr.add] <;> omega)]
            exact this
          have HBASE := Lib.hid hbase
          have HONE := Lib.hid hone
          have HCL := Lib.hid hcl
          clear hbase hone hcl
          go_wp2_with (at_builtin; refine wpList_append_lies _ rfl _ _ _ rfl W0.heap.size 31 l0 (.agg #[.int .i64 0, .int .i64 0, .bool false, .bool false, .int .u8 0, .int .i64 0, .string ByteArray.empty, .int .u8 0, .int .i64 0, .string ByteArray.empty]) 10 88 Try.underlying50 HL.out HX0.out HX1.out HX2.out rfl (by decide) _ _ _ rfl (HOX.out.alloc _) ⟨w1.heap.size, 0, none⟩ 1 1 [.int .i64 x.rows, .int .i64 x.rows, .bool false, .bool false, .int .u8 0, .int .i64 0, .string ⟨#[]⟩, .int .u8 0, .int .i64 0, .string ⟨#[]⟩] rfl rfl HCL.out HONE.out (by decide) h63 hby HBASE.out _ rfl ?_; intro g cap w5 hown5 hgrow5 hat5 hglt5)
          have hb5 := below_append HOX.out HBX.out hgrow5
          clear hgrow5 hat5
          go_roundw
          case rel =>
            refine ⟨k + 1, by omega, by go_num, ?_, hb5⟩
            rw [HSN.out]
            exact hown5
          case measure => simp [intOf] <;> omega
    · obtain rfl : k = sn := by omega
      go_wp2
      go_ret
      refine ⟨_, rfl, own_le ?_ M0.out.below.size, MR.out.below⟩
      have h1 : ls.take k = ls := List.take_of_length_le (by rw [HLEN.out]; omega)
      have := HO.out
      rw [h1] at this
      exact this
end Go.Proofs.Ytkofaoaglnjkgaa

namespace Go.Proofs.Ytkofaoaglnjkgaa
open Go.RowKit Go.Deep
set_option linter.unusedVariables false
set_option linter.unusedSimpArgs false

theorem shape1 (cs : List Value) (s : SchemaD) (id g : Nat) (w : World) (h : SchemaR w cs s) (hg : g < w.heap.size) (hc : w.cell? ⟨g, 0, none⟩ = some (.int .u32 (id : Int))) :
    Calls Try.prog 57 #[.agg cs.toArray, .pointer (some ⟨g, 0, none⟩)] w (BoolIs (idIs id s) w) := by
  obtain ⟨a, n, c, rfl, _⟩ := h
  unfold idIs
  by_cases hid : s.id = id
  · have hb : ((s.id : Int) == (id : Int)) = true := by rw [beq_iff_eq]; omega
    rw [show decide (s.id = id) = true by simp [hid]]
    clear hid
    go_enter Try.func57, Try.ntmps57
    go_wp2
    go_ret
    exact ⟨rfl, (Below.refl _ _).alloc (Nat.le_refl _) _⟩
  · have hb : ((s.id : Int) == (id : Int)) = false := by rw [beq_eq_false_iff_ne]; omega
    rw [show decide (s.id = id) = false by simp [hid]]
    clear hid
    go_enter Try.func57, Try.ntmps57
    go_wp2
    go_ret
    exact ⟨rfl, (Below.refl _ _).alloc (Nat.le_refl _) _⟩
def ShapePost (ss : List SchemaD) (id : Nat) (w : World) (e : Ending) (w' : World) : Prop :=
  Below w.heap.size w w' ∧ ((shapeF ss id = none ∧ e = .returned (.tuple #[.agg #[.int .u32 0, .slice none 0 0], .bool false])) ∨
    ∃ f a n c, shapeF ss id = some f ∧ e = .returned (.tuple #[.agg #[.int .u32 (f.id : Int), .slice a n c], .bool true]) ∧ SchemaR w' [.int .u32 (f.id : Int), .slice a n c] f ∧ f ∈ ss)
set_option maxRecDepth 100000 in
set_option maxHeartbeats 4000000 in
theorem shape_calls (cs : List Value) (t : TableD) (id : Nat) (w : World) (h : TableR w cs t) (hn : t.schemas.length ≤ 1000) (hfs : ∀ s ∈ t.schemas, s.fields.length ≤ 1000) :
    Calls Try.prog 41 #[.agg cs.toArray, .int .u32 (id : Int)] w (ShapePost t.schemas id w) := by
  obtain ⟨a, n, c, a', n', c', rfl, h1, h2, h3, hss, h4, h5, h6, h7, h8⟩ := h
  have HS := Lib.hid hss
  have HLEN := Lib.hid hss.1
  have HFS := Lib.hid hfs
  have hn2 : n ≤ 100000 := by have := hss.1; omega
  have hr := idxF_lt (idIs id) t.schemas
  have hcs := idxF_cases (idIs id) t.schemas
  have HCS := Lib.hid hcs
  have hsh : shapeF t.schemas id = if idxF (idIs id) t.schemas < 0 then none else t.schemas[(idxF (idIs id) t.schemas).toNat]? := rfl
  unfold ShapePost
  clear hss h1 h2 h3 h4 h5 h6 h7 h8 hcs hfs
  go_enter Try.func41, Try.ntmps41
  go_wp2_with fail
  obtain ⟨W0, hWW⟩ : ∃ W0 : World, W0 = (((w.alloc (.cells #[.slice a n c, .slice a' n' c', .int .u64 t.current] 59)).alloc (.cells #[.int .u32 (id : Int)] 34)).alloc (.cells #[.int .u32 0, .slice none 0 0] 37)) := ⟨_, rfl⟩
  have hm : Mem w.heap.size [#[.slice a n c, .slice a' n' c', .int .u64 t.current], #[.int .u32 (id : Int)], #[.int .u32 0, .slice none 0 0]] w W0 := by rw [hWW]; exact ((((Mem.nil w).push (by simp) #[.slice a n c, .slice a' n' c', .int .u64 t.current] 59).push (by simp) #[.int .u32 (id : Int)] 34).push (by simp) #[.int .u32 0, .slice none 0 0] 37)
  rw [← hWW]
  clear hWW
  have M0 := Lib.hid hm
  clear hm
  refine (index_schema 57 _ (by intro args W; kernel_rfl) _ _ _ t.schemas (idIs id) _ (HS.out.below SchemaR.stable M0.out.below) hn2 (fun W' cs x hb hr _ => shape1 cs x id _ W' hr ((M0.out.call hb).lt 1 (by simp)) ((M0.out.call hb).cell 1 0 rfl rfl))).mono ?_
  rintro e w1 ⟨rfl, hb⟩
  have hm : Mem w.heap.size [#[.slice a n c, .slice a' n' c', .int .u64 t.current], #[.int .u32 (id : Int)], #[.int .u32 0, .slice none 0 0]] w w1 := by have := (M0.out.call hb); first | exact this | simpa using this
  have Mw1 := Lib.hid hm
  clear hm
  clear hb
  generalize idxF (idIs id) t.schemas = r at *
  by_cases hr0 : r < 0
  · rw [if_pos hr0] at hsh
    have HSH := Lib.hid hsh
    clear hsh
    obtain rfl : r = -1 := by omega
    have q0_0 : w1.cell? ⟨w.heap.size, 0, none⟩ = some (.slice a n c) := Mw1.out.cell 0 0 rfl rfl
    have q0_1 : w1.cell? ⟨w.heap.size, 1, none⟩ = some (.slice a' n' c') := Mw1.out.cell 0 1 rfl rfl
    have q0_2 : w1.cell? ⟨w.heap.size, 2, none⟩ = some (.int .u64 t.current) := Mw1.out.cell 0 2 rfl rfl
    have q1_0 : w1.cell? ⟨w.heap.size + 1, 0, none⟩ = some (.int .u32 (id : Int)) := Mw1.out.cell 1 0 rfl rfl
    have q2_0 : w1.cell? ⟨w.heap.size + 1 + 1, 0, none⟩ = some (.int .u32 0) := Mw1.out.cell 2 0 rfl rfl
    have q2_1 : w1.cell? ⟨w.heap.size + 1 + 1, 1, none⟩ = some (.slice none 0 0) := Mw1.out.cell 2 1 rfl rfl
    have z0 : w.heap.size < w1.heap.size := Mw1.out.lt 0 (by simp)
    have z1 : w.heap.size + 1 < w1.heap.size := Mw1.out.lt 1 (by simp)
    have z2 : w.heap.size + 1 + 1 < w1.heap.size := Mw1.out.lt 2 (by simp)
    have g0 : ∀ j, w1.frozen? ⟨w.heap.size, j, none⟩ = false := Mw1.out.frozen 0 rfl
    have g1 : ∀ j, w1.frozen? ⟨w.heap.size + 1, j, none⟩ = false := Mw1.out.frozen 1 rfl
    have g2 : ∀ j, w1.frozen? ⟨w.heap.size + 1 + 1, j, none⟩ = false := Mw1.out.frozen 2 rfl
    go_wp2
    refine bodyPost_ret (v := .tuple #[.agg #[.int .u32 0, .slice none 0 0], .bool false]) (by simp [results, Try.results41, go_sem, q2_0, q2_1]) rfl ?_
    exact ⟨by repeat (first | exact Mw1.out.below | (with_reducible refine Below.setCell ?_ (by first | exact Nat.le_refl _ | (simp; done) | omega | (simp; omega)) _)), .inl ⟨HSH.out, rfl⟩⟩
  · have hr1 : 0 ≤ r := by omega
    rw [if_neg hr0] at hsh
    obtain ⟨m, rfl⟩ : ∃ m : Nat, r = (m : Int) := ⟨r.toNat, by omega⟩
    simp only [Int.toNat_natCast] at hsh
    have hmn : m < n := by have := HLEN.out; omega
    have hmni : (m : Int) < (n : Int) := by omega
    obtain ⟨b, off, f, fcs, rfl, hbl, hx, hcl, hfr, hcell⟩ := HS.out.at_ hmn
    rw [hx] at hsh
    have HSH := Lib.hid hsh
    have HMEM := Lib.hid (List.mem_of_getElem? hx)
    obtain ⟨fa, fnn, fc, rfl, g1, g2, g3, hfl, g4⟩ := hfr
    have e0 := Mw1.out.old (p := ⟨b, off + m * 2 + 0, none⟩) hbl (hcell 0 _ rfl)
    have e1 := Mw1.out.old (p := ⟨b, off + m * 2 + 1, none⟩) hbl (hcell 1 _ rfl)
    rw [Nat.add_zero] at e0
    have HFL := Lib.hid hfl
    have HG3 := Lib.hid g3
    have HG4 := Lib.hid g4
    have hfnn : fnn ≤ 1000 := by have := HFS.out f HMEM.out; have := hfl.1; omega
    have hbw : b < w1.heap.size := by have := Mw1.out.below.size; omega
    clear hsh hx hcl hcell hfl hr hr0 g1 g2 g3 g4
    have q0_0 : w1.cell? ⟨w.heap.size, 0, none⟩ = some (.slice (some ⟨b, off, none⟩) n c) := Mw1.out.cell 0 0 rfl rfl
    have q0_1 : w1.cell? ⟨w.heap.size, 1, none⟩ = some (.slice a' n' c') := Mw1.out.cell 0 1 rfl rfl
    have q0_2 : w1.cell? ⟨w.heap.size, 2, none⟩ = some (.int .u64 t.current) := Mw1.out.cell 0 2 rfl rfl
    have q1_0 : w1.cell? ⟨w.heap.size + 1, 0, none⟩ = some (.int .u32 (id : Int)) := Mw1.out.cell 1 0 rfl rfl
    have q2_0 : w1.cell? ⟨w.heap.size + 1 + 1, 0, none⟩ = some (.int .u32 0) := Mw1.out.cell 2 0 rfl rfl
    have q2_1 : w1.cell? ⟨w.heap.size + 1 + 1, 1, none⟩ = some (.slice none 0 0) := Mw1.out.cell 2 1 rfl rfl
    have z0 : w.heap.size < w1.heap.size := Mw1.out.lt 0 (by simp)
    have z1 : w.heap.size + 1 < w1.heap.size := Mw1.out.lt 1 (by simp)
    have z2 : w.heap.size + 1 + 1 < w1.heap.size := Mw1.out.lt 2 (by simp)
    have g0 : ∀ j, w1.frozen? ⟨w.heap.size, j, none⟩ = false := Mw1.out.frozen 0 rfl
    have g1 : ∀ j, w1.frozen? ⟨w.heap.size + 1, j, none⟩ = false := Mw1.out.frozen 1 rfl
    have g2 : ∀ j, w1.frozen? ⟨w.heap.size + 1 + 1, j, none⟩ = false := Mw1.out.frozen 2 rfl
    go_upto_region 5 with fail
    obtain ⟨W2, hWW⟩ : ∃ W : World, W = w1.alloc (.cells #[.int .u32 (f.id : Int), .slice fa fnn fc] 37) := ⟨_, rfl⟩
    have hb : Below w1.heap.size w1 W2 := by rw [hWW]; exact (Below.refl _ _).alloc (Nat.le_refl _) _
    have hx2 : Box W2 w1.heap.size #[.int .u32 (f.id : Int), .slice fa fnn fc] := by rw [hWW]; exact Box.new _ _ _
    rw [← hWW]
    clear hWW
    have MW2 := Lib.hid (Mw1.out.call hb)
    have X2 := Lib.hid hx2
    clear hb hx2 e0 e1 hbw
    clear q0_0 q0_1 q0_2 q1_0 q2_0 q2_1 z0 z1 z2 g0 g1 g2
    have hne : w.heap.size + 1 + 1 ≠ w1.heap.size := by have := Mw1.out.room; simp at this; omega
    have HBS := Lib.hid (fun (W : World) (h : Box W w1.heap.size #[.int .u32 (f.id : Int), .slice fa fnn fc]) => And.intro (h.cell 0 rfl) (h.cell 1 rfl))
    have hS : ∀ W, Below W2.heap.size W2 W → (∀ j, W.frozen? ⟨w.heap.size + 1 + 1, j, none⟩ = false) ∧ W.cell? ⟨w.heap.size + 1 + 1, 0, none⟩ = some (.int .u32 0) ∧ W.cell? ⟨w.heap.size + 1 + 1, 1, none⟩ = some (.slice none 0 0) := fun W h => ⟨fun j => (MW2.out.call h).frozen 2 rfl j, (MW2.out.call h).cell 2 0 rfl rfl, (MW2.out.call h).cell 2 1 rfl rfl⟩
    have HSS := Lib.hid hS
    clear hS
    go_region_held3 (fun W => W.cell? ⟨w1.heap.size, 0, none⟩ = some (.int .u32 (f.id : Int)) ∧ W.cell? ⟨w1.heap.size, 1, none⟩ = some (.slice fa fnn fc))
      (first | (refine HBS.out _ ?_; repeat (first | (with_reducible exact X2.out) | (with_reducible refine Box.setFar ?_ (by exact hne) _) | (with_reducible refine Box.drew ?_) | (with_reducible refine Box.alloc ?_ _) | (with_reducible exact X2.out.call K5.out))))
      (first
        | (go_at_call 58; (with_reducible refine (clone_fields fa fnn fc f.fields _ (HFL.out.below FieldR.stable (Mem.below (Mem.call MW2.out (by repeat (first | exact Below.refl _ _ | (with_reducible refine Below.drew ?_) | (with_reducible refine Below.alloc ?_ (by first | exact Nat.le_refl _ | exact K5.out.size | (simp; done) | (have := K5.out.size; simp; omega) | (simp; omega)) _) | (with_reducible exact K5.out)))))) (by omega) HG3.out).mono ?_); rintro e w5 ⟨v5, rfl, hown5, hp5⟩; have k5 := below_step (W0 := W2) (by repeat (first | exact Below.refl _ _ | (with_reducible refine Below.drew ?_) | (with_reducible refine Below.alloc ?_ (by first | exact Nat.le_refl _ | exact K5.out.size | (simp; done) | (have := K5.out.size; simp; omega) | (simp; omega)) _) | (with_reducible exact K5.out))) hp5; have K5 := Lib.hid k5; obtain ⟨a5, c5, rfl, hc5⟩ := own_slice hown5; have HO5 := Lib.hid hown5; have M5 := Lib.hid (MW2.out.call k5); obtain ⟨fz5, r0, r1⟩ := HSS.out _ k5; clear hp5 k5 hown5)
        | fail)
    all_goals go_wp2_with fail
    have hb6 : Below w.heap.size w ((w5.setCell ⟨w.heap.size + 1 + 1, 0, none⟩ (.int .u32 (f.id : Int))).setCell ⟨w.heap.size + 1 + 1, 1, none⟩ (.slice a5 fnn c5)) := (M5.out.below.setCell (p := ⟨w.heap.size + 1 + 1, 0, none⟩) (show w.heap.size ≤ w.heap.size + 1 + 1 by omega) _).setCell (p := ⟨w.heap.size + 1 + 1, 1, none⟩) (show w.heap.size ≤ w.heap.size + 1 + 1 by omega) _
    have hx6 : Box ((w5.setCell ⟨w.heap.size + 1 + 1, 0, none⟩ (.int .u32 (f.id : Int))).setCell ⟨w.heap.size + 1 + 1, 1, none⟩ (.slice a5 fnn c5)) (w.heap.size + 1 + 1) #[.int .u32 (f.id : Int), .slice a5 fnn c5] := ((Box.mk (M5.out.cells 2 _ rfl) (M5.out.soft 2 _ rfl) (M5.out.lt 2 (by simp))).set (j := 0) (by simp) (.int .u32 (f.id : Int))).set (j := 1) (by simp) (.slice a5 fnn c5)
    have hne5 : ∀ b off, a5 = some ⟨b, off, none⟩ → b ≠ w.heap.size + 1 + 1 := fun b off h => by
      have h1 := (own_above HO5.out b off h).1
      have h2 := MW2.out.room
      simp at h1 h2; omega
    have hsl5 : Sl 4 FieldR w5 a5 fnn f.fields := own_sl (R := FieldR) (by decide) fieldV_len (fun x hx => by obtain ⟨_, hr⟩ := sl_each HFL.out x hx; exact ⟨rfl, hr.2⟩) HO5.out
    have hsl6 := (hsl5.setFar (p := ⟨w.heap.size + 1 + 1, 0, none⟩) (fun _ _ _ _ h => h) hne5 (.int .u32 (f.id : Int))).setFar (p := ⟨w.heap.size + 1 + 1, 1, none⟩) (fun _ _ _ _ h => h) hne5 (.slice a5 fnn c5)
    generalize ((w5.setCell ⟨w.heap.size + 1 + 1, 0, none⟩ (.int .u32 (f.id : Int))).setCell ⟨w.heap.size + 1 + 1, 1, none⟩ (.slice a5 fnn c5)) = W6 at *
    have x0 := hx6.cell 0 rfl
    have x1 := hx6.cell 1 rfl
    obtain ⟨k1, k2, k3⟩ := own_cap HO5.out
    refine bodyPost_ret (v := .tuple #[.agg #[.int .u32 (f.id : Int), .slice a5 fnn c5], .bool true]) (by simp [results, Try.results41, go_sem, x0, x1]) rfl ?_
    exact ⟨hb6, .inr ⟨f, a5, fnn, c5, HSH.out, rfl, ⟨a5, fnn, c5, rfl, k1, k2, k3, hsl6, HG4.out⟩, HMEM.out⟩⟩
end Go.Proofs.Ytkofaoaglnjkgaa

namespace Go.Proofs.Ytkofaoaglnjkgaa
open Go.RowKit Go.Deep
set_option linter.unusedVariables false
set_option linter.unusedSimpArgs false

structure TaskH where
  file : EntryD
  names : List ByteArray
  sv : Value
  kv : Value
def taskV (t : TaskH) : List Value := t.file.cells t.sv ++ [t.kv]
theorem taskV_len (t : TaskH) : (taskV t).length = 7 := rfl
def TaskOwn (w : World) (B : Nat) (v : Value) (t : TaskH) : Prop :=
  w.ownsRow B 31 10 t.sv t.file.stats.length (t.file.stats.flatMap statV) ∧ w.ownsRow B 9 1 t.kv t.names.length (strsV t.names) ∧
  (∀ b, t.sv.ownBlock = some b → some b ≠ v.ownBlock) ∧ (∀ b, t.kv.ownBlock = some b → some b ≠ v.ownBlock)
def TasksOwn (w : World) (B : Nat) (v : Value) (ts : List TaskH) : Prop :=
  w.ownsRow B 69 7 v ts.length (ts.flatMap taskV) ∧ ∀ t ∈ ts, TaskOwn w B v t
section
variable {w w' : World} {B : Nat} {v : Value} {ts : List TaskH} {t : TaskH}
theorem TaskOwn.call (h : TaskOwn w B v t) (hb : Below w.heap.size w w') : TaskOwn w' B v t := ⟨own_below h.1 hb, own_below h.2.1 hb, h.2.2.1, h.2.2.2⟩
theorem TaskOwn.of {w0 : World} {B1 B2 : Nat} (h : TasksOwn w0 B v ts) (hs : w.ownsRow B1 31 10 t.sv t.file.stats.length (t.file.stats.flatMap statV)) (hk : w.ownsRow B2 9 1 t.kv t.names.length (strsV t.names)) (h1 : w0.heap.size ≤ B1) (h2 : w0.heap.size ≤ B2) (hB : B ≤ w0.heap.size) : TaskOwn w B v t := by
  refine ⟨own_le hs (by omega), own_le hk (by omega), fun b hb e => ?_, fun b hb e => ?_⟩
  · have := (hs.lt b hb).1
    have := (h.1.lt b e.symm).2
    omega
  · have := (hk.lt b hb).1
    have := (h.1.lt b e.symm).2
    omega
theorem grown_set (w : World) (p : Addr) (u : Value) : w.grownBy (w.setCell p u) (some p.block) :=
  ⟨rfl, rfl, rfl, by simp [World.setCell], fun k hk hne => Below.heap_setCell _ _ _ _ (fun e => hne (by rw [e]))⟩
theorem own_set {e size n : Nat} {xs : List Value} {p : Addr} (h : w.ownsRow B e size v n xs) (hp : p.block < B) (u : Value) : (w.setCell p u).ownsRow B e size v n xs := by
  refine h.kept (grown_set w p u) ?_
  cases hv : v.ownBlock with
  | none => exact .inl rfl
  | some b => exact .inr (fun e => by have := (h.lt b hv).1; simp at e; omega)
theorem TasksOwn.nil (w : World) (B : Nat) : TasksOwn w B (.slice none 0 0) [] := ⟨World.ownsRow_nil _ _ _ _, fun t h => by simp at h⟩
theorem TasksOwn.call (h : TasksOwn w B v ts) (hb : Below w.heap.size w w') : TasksOwn w' B v ts :=
  ⟨own_below h.1 hb, fun t ht => by obtain ⟨h1, h2, h3, h4⟩ := h.2 t ht; exact ⟨own_below h1 hb, own_below h2 hb, h3, h4⟩⟩
theorem TasksOwn.alloc (h : TasksOwn w B v ts) (o : Obj) : TasksOwn (w.alloc o) B v ts := h.call ((Below.refl _ _).alloc (Nat.le_refl _) _)
theorem TasksOwn.snoc {g cap : Nat} (h : TasksOwn w B v ts) (hown : w'.ownsRow B 69 7 (.slice (some ⟨g, 0, none⟩) (ts.length + 1) cap) (ts.length + 1) (ts.flatMap taskV ++ taskV t)) (hg : w.grownBy w' v.ownBlock) (hat : v.ownBlock = some g ∨ g = w.heap.size)
    (ht : TaskOwn w B v t) : TasksOwn w' B (.slice (some ⟨g, 0, none⟩) (ts.length + 1) cap) (ts ++ [t]) := by
  have hne : ∀ b, b < w.heap.size → some b ≠ v.ownBlock → some b ≠ (Value.slice (some ⟨g, 0, none⟩) (ts.length + 1) cap).ownBlock := fun b h1 h2 h => by
    have : b = g := by simpa [Value.ownBlock] using h
    subst this
    rcases hat with h3 | h3
    · exact h2 h3.symm
    · omega
  have key : ∀ u, TaskOwn w B v u → TaskOwn w' B (.slice (some ⟨g, 0, none⟩) (ts.length + 1) cap) u := fun u ⟨h1, h2, h3, h4⟩ => by
    refine ⟨h1.kept hg ?_, h2.kept hg ?_, fun b hb => hne b (h1.lt b hb).2 (h3 b hb), fun b hb => hne b (h2.lt b hb).2 (h4 b hb)⟩
    · cases hs : u.sv.ownBlock with
      | none => exact .inl rfl
      | some b => exact .inr (h3 b hs)
    · cases hs : u.kv.ownBlock with
      | none => exact .inl rfl
      | some b => exact .inr (h4 b hs)
  refine ⟨by rw [List.length_append, List.flatMap_append]; simpa using hown, fun u hu => ?_⟩
  rcases List.mem_append.1 hu with hu | hu
  · exact key u (h.2 u hu)
  · simp at hu; subst hu; exact key _ ht
end
theorem info16Task : (Try.prog.info? 69).map (fun i => (i.zero, i.size, i.bytes)) = some (some (.agg #[.string ByteArray.empty, .bool false, .int .u64 0, .int .i64 0, .int .u32 0, .slice none 0 0, .slice none 0 0]), 7, 96) := by kernel_rfl
def pairOf (t : TaskH) : EntryD × List ByteArray := (t.file, t.names)
theorem tasks_take {ss : List SchemaD} {l : List EntryD} {s : SchemaD} {d : Nat} {p : PredD} {k : Nat} {z : EntryD} (h : l[k]? = some z) :
    ((l.take (k + 1)).filter (takeB ss s d p)).map (fun x => (x, againstF l x)) = ((l.take k).filter (takeB ss s d p)).map (fun x => (x, againstF l x)) ++ (if takeB ss s d p z = true then [(z, againstF l z)] else []) := by
  rw [filter_take h, List.map_append]
  split <;> rfl
theorem tasks_len {ss : List SchemaD} {l : List EntryD} {s : SchemaD} {d : Nat} {p : PredD} (k : Nat) : (((l.take k).filter (takeB ss s d p)).map (fun x => (x, againstF l x))).length ≤ k := by
  rw [List.length_map]
  exact Nat.le_trans (List.length_filter_le _ _) (by rw [List.length_take]; exact Nat.min_le_left _ _)
end Go.Proofs.Ytkofaoaglnjkgaa
