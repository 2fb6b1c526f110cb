/- catchmentref01.FixRow; catchmentref08.Fit and schema.Fit, exactly. -/
import Derived.Test.YtlclhinianamhaaRtChk
import Derived.Test.YtlclhinianamhaaVlCmpm
import Derived.Test.YtlclhinianamhaaCellRowm
import Derived.BigRegion
import Derived.BigQuiet
import Derived.Deep.DeepCutAuto
namespace Go.Proofs.Ytlclhinianamhaa
open Go.RowKit Go.Deep
set_option linter.unusedVariables false
set_option linter.unusedSimpArgs false

set_option maxRecDepth 100000 in
set_option maxHeartbeats 4000000 in
theorem fixrow_callsE (a : Option Addr) (n c : Nat) (xs : List CellD) (w : World) (h : Sl 3 CellR w a n xs) (hn : n ≤ 100000) :
    Calls Try.prog 43 #[.slice a n c] w (fun e w' => ∃ v, e = .returned v ∧ w'.ownsRow w.heap.size 30 3 v n ((xs.map fix).flatMap cellV) ∧ Below w.heap.size w w') := by
  have HS := Lib.hid h
  have HLEN := Lib.hid h.1
  obtain ⟨i0, hi0, hz0, hz1, hz2⟩ := info_parts infoCell
  have HI := Lib.hid hi0
  have HZ0 := Lib.hid hz0
  have HZ1 := Lib.hid hz1
  have HZ2 := Lib.hid hz2
  have HFIX := Lib.hid fix_calls
  obtain ⟨ys, hys⟩ : ∃ ys, xs.map fix = ys := ⟨_, rfl⟩
  have hyl : ys.length = n := by rw [← hys, List.length_map]; exact h.1
  rw [hys]
  have HYL := Lib.hid hyl
  have HYS := Lib.hid hys
  clear h hi0 hz0 hz1 hz2 hyl hys
  go_enter Try.func43, Try.ntmps43
  go_wp2
  go_loopw [3, 4] (fun v i wr => ∃ k : Nat, k ≤ n ∧ i = .int .i64 k ∧ wr.ownsRow w.heap.size 30 3 v k ((ys.take k).flatMap cellV) ∧ Below w.heap.size w wr) (fun _ i _ => n - (intOf i).toNat)
  case atStart => exact ⟨0, Nat.zero_le _, rfl, World.ownsRow_nil _ _ _ _, Below.refl _ _⟩
  case round =>
    obtain ⟨k, hk, rfl, hown, hb⟩ := hrel
    have HO := Lib.hid hown
    have HB := Lib.hid hb
    clear hown hb
    have hki : (0 : Int) ≤ (k : Int) := by omega
    by_cases hlt : k < n
    · have hkn : (k : Int) < (n : Int) := by omega
      obtain ⟨b, off, ce, cs, rfl, hbl, hx, hcl, hr, hcell⟩ := HS.out.at_ hlt
      obtain ⟨rfl, hsz, ⟨hk0, _⟩, _⟩ := hr
      have d0 := (HB.out.cell (p := ⟨b, off + k * 3 + 0, none⟩) hbl).trans (hcell 0 _ rfl)
      have d1 := (HB.out.cell (p := ⟨b, off + k * 3 + 1, none⟩) hbl).trans (hcell 1 _ rfl)
      have d2 := (HB.out.cell (p := ⟨b, off + k * 3 + 2, none⟩) hbl).trans (hcell 2 _ rfl)
      rw [Nat.add_zero] at d0
      have hyk : ys[k]? = some (fix ce) := by rw [← HYS.out, List.getElem?_map, hx]; rfl
      have hsn := flat_snoc (f := cellV) hyk
      have hv := HFIX.out ce hk0
      generalize fix ce = d at *
      unfold CellD.cells at hv
      have HVC := Lib.hid hv
      have h63 : k + 1 ≤ maxLen := by unfold maxLen; omega
      have hby : (k + 1) * 32 ≤ 140737488355328 := by omega
      clear hcell hx hsz hk0 hv hyk
      obtain ⟨dk, dn, ds⟩ := d
      have HSN := Lib.hid (show (ys.take (k + 1)).flatMap cellV = (ys.take k).flatMap cellV ++ [.int .u8 dk, .int .i64 dn, .string ds] by rw [hsn]; rfl)
      clear hsn
      go_wp2_with fail
      refine (HVC.out _).mono ?_
      rintro e w1 ⟨rfl, hb1⟩
      have HO1 := Lib.hid (own_below HO.out hb1)
      have HB1 := Lib.hid (HB.out.trans (hb1.mono HB.out.size))
      clear hb1 HO HB d0 d1 d2
      have hbase : w.heap.size ≤ (w1.alloc (.cells #[.int .u8 dk, .int .i64 dn, .string ds] 30)).heap.size := by have := HB1.out.size; simp; omega
      have hone : ∀ u ∈ ([.int .u8 dk, .int .i64 dn, .string ds] : List Value), u.oneCell' = true := by simp [Value.oneCell']
      have hcl : ∀ j u, ([.int .u8 dk, .int .i64 dn, .string ds] : List Value)[j]? = some u → (w1.alloc (.cells #[.int .u8 dk, .int .i64 dn, .string ds] 30)).cell? ((⟨w1.heap.size, 0, none⟩ : Addr).add j) = some u := fun j u hj => by
        have := CellsAt.alloc_at w1 #[.int .u8 dk, .int .i64 dn, .string ds] 30 w1.heap.size rfl j u (by simpa using hj)
        rw [show ((⟨w1.heap.size, 0, none⟩ : Addr).add j) = ⟨w1.heap.size, j, none⟩ by (simp [Addr.add] <;> omega)]
        exact this
      have HBASE := Lib.hid hbase
      have HONE := Lib.hid hone
      have HCL := Lib.hid hcl
      clear hbase hone hcl
      go_wp2_with (at_builtin; refine wpList_append_lies _ rfl _ _ _ rfl w.heap.size 30 i0 (.agg #[.int .u8 0, .int .i64 0, .string ByteArray.empty]) 3 32 Try.underlying27 HI.out HZ0.out HZ1.out HZ2.out rfl (by decide) _ _ _ rfl (HO1.out.alloc _) ⟨w1.heap.size, 0, none⟩ 1 1 [.int .u8 dk, .int .i64 dn, .string ds] rfl rfl HCL.out HONE.out (by decide) h63 hby HBASE.out _ rfl ?_; intro g cap w2 hown2 hgrow hat hglt)
      have hb2 := below_append HO1.out HB1.out hgrow
      clear hgrow hat
      go_roundw
      case rel =>
        refine ⟨k + 1, by omega, by go_num, ?_, hb2⟩
        rw [HSN.out]
        exact hown2
      case measure => simp [intOf] <;> omega
    · obtain rfl : k = n := by omega
      go_wp2
      go_ret
      refine ⟨_, rfl, ?_, HB.out⟩
      have h1 : ys.take k = ys := List.take_of_length_le (by have := HYL.out; omega)
      have := HO.out
      rw [h1] at this
      exact this

def ValRE : Rd ValD := fun _ cs d => cs = [d.val]
theorem ValRE.stable : Stable ValRE := fun _ _ _ _ _ h => h
/-- Does a cell stand under a field? An error's number. -/
def fitOf (f : FieldD) (c : CellD) : Int := if c.kind = 0 then (if f.need = true then 82 else 0) else if ¬ c.kind = (f.kind : Int) then 10 else if 64 < c.s.size then 5 else 0
def fitAt (fs : List FieldD) (cs : List CellD) (k : Nat) : Int := match fs[k]?, cs[k]? with | some f, some c => fitOf f c | _, _ => 0
theorem fitAt_eq {fs : List FieldD} {cs : List CellD} {k : Nat} {f : FieldD} {c : CellD} (hf : fs[k]? = some f) (hc : cs[k]? = some c) : fitAt fs cs k = fitOf f c := by unfold fitAt; rw [hf, hc]
def fitE (s : SchemaD) (cs : List CellD) : Int := if cs.length ≠ s.fields.length then 1 else firstBad (fitAt s.fields cs) cs.length
set_option maxRecDepth 100000 in
set_option maxHeartbeats 4000000 in
theorem rfit_calls (s : SchemaD) (scs : List Value) (a : Option Addr) (n c : Nat) (xs : List CellD) (w : World) (hs : SchemaR w scs s) (h : Sl 3 CellR w a n xs) (hn : n ≤ 100000) :
    Calls Try.prog 23 #[.agg scs.toArray, .slice a n c] w (ValIs (.int .i64 (fitE s xs)) w) := by
  have HS := Lib.hid h
  obtain ⟨fa, fnn, fc, rfl, hs1, hs2, hs3, hfs, hs4⟩ := hs
  have HFS := Lib.hid hfs
  have hfl := hfs.1
  have hf1 : fnn ≤ 9223372036854775807 := by unfold maxLen at hs2; omega
  have hxl := h.1
  obtain ⟨G, hG⟩ : ∃ G, fitAt s.fields xs = G := ⟨_, rfl⟩
  have HG := Lib.hid hG
  have HE := Lib.hid (show fitE s xs = if n ≠ fnn then 1 else firstBad G n by unfold fitE; rw [hG, hxl, hfl])
  rw [HE.out]
  clear h hs1 hs2 hs3 hfs hs4 hG hxl
  by_cases hnm : n = fnn
  · subst hnm
    rw [if_neg (fun h => h rfl)]
    go_enter Try.func23, Try.ntmps23
    go_wp2
    obtain ⟨W0, hWW⟩ : ∃ W0 : World, W0 = w.alloc (.cells #[.int .u32 (s.id : Int), .slice fa n fc] 25) := ⟨_, rfl⟩
    have hb0 : Below w.heap.size w W0 := by rw [hWW]; exact (Below.refl _ _).alloc (Nat.le_refl _) _
    have hx0 : Box W0 w.heap.size #[.int .u32 (s.id : Int), .slice fa n fc] := by rw [hWW]; exact Box.new _ _ _
    rw [← hWW]
    clear hWW
    have HX0 := Lib.hid hx0
    have HB0 := Lib.hid hb0
    clear hx0 hb0
    go_loopw [5] (fun i wr => ∃ k : Nat, k ≤ n ∧ i = .int .i64 k ∧ firstBad G k = 0 ∧ Box wr w.heap.size #[.int .u32 (s.id : Int), .slice fa n fc] ∧ Below w.heap.size w wr) (fun i _ => n - (intOf i).toNat)
    case atStart => exact ⟨0, Nat.zero_le _, rfl, rfl, HX0.out, HB0.out⟩
    case round =>
      obtain ⟨k, hk, rfl, hfb, hbx, hb⟩ := hrel
      have HFB := Lib.hid hfb
      have HBX := Lib.hid hbx
      have HB := Lib.hid hb
      clear hbx hb hfb
      have hki : (0 : Int) ≤ (k : Int) := by omega
      by_cases hlt : k < n
      · have hkn : (k : Int) < (n : Int) := by omega
        obtain ⟨b, off, ce, cs, rfl, hbl, hx, hcl, hr, hcell⟩ := HS.out.at_ hlt
        obtain ⟨rfl, hsz, ⟨hk0, _⟩, _⟩ := hr
        have d0 := (HB.out.cell (p := ⟨b, off + k * 3 + 0, none⟩) hbl).trans (hcell 0 _ rfl)
        have d1 := (HB.out.cell (p := ⟨b, off + k * 3 + 1, none⟩) hbl).trans (hcell 1 _ rfl)
        have d2 := (HB.out.cell (p := ⟨b, off + k * 3 + 2, none⟩) hbl).trans (hcell 2 _ rfl)
        rw [Nat.add_zero] at d0
        have hs64 : ce.s.size ≤ 9223372036854775807 := by unfold maxLen at hsz; omega
        have HX := Lib.hid hx
        clear hcell hx hcl hsz
        obtain ⟨fb, foff, f, fcs, rfl, hfbl, hfx, hfcl, hfr, hfcell⟩ := HFS.out.at_ hlt
        obtain ⟨rfl, _⟩ := hfr
        have f2 := (HB.out.cell (p := ⟨fb, foff + k * 4 + 2, none⟩) hfbl).trans (hfcell 2 _ rfl)
        have f3 := (HB.out.cell (p := ⟨fb, foff + k * 4 + 3, none⟩) hfbl).trans (hfcell 3 _ rfl)
        have HGK := Lib.hid (show G k = fitOf f ce by rw [← HG.out]; exact fitAt_eq hfx HX.out)
        have bad : ∀ r : Int, fitOf f ce = r → r ≠ 0 → firstBad G n = r := fun r hr h0 => by rw [firstBad_at HFB.out (by rw [HGK.out, hr]; exact h0) hlt, HGK.out, hr]
        have good : fitOf f ce = 0 → firstBad G (k + 1) = 0 := fun h => firstBad_next HFB.out (by rw [HGK.out, h])
        have BAD := Lib.hid bad
        have GOOD := Lib.hid good
        clear hfcell hfx hfcl bad good
        have y1 : wr.cell? ⟨w.heap.size, 1, none⟩ = some (.slice (some ⟨fb, foff, none⟩) n fc) := HBX.out.cell 1 rfl
        have hlw : w.heap.size < wr.heap.size := HBX.out.lt
        have hfbw : fb < wr.heap.size := by omega
        by_cases hk00 : ce.kind = 0
        · have hkz : (ce.kind == 0) = true := by simp [hk00]
          cases hne : f.need
          · rw [hne] at f3
            have HGD := Lib.hid (GOOD.out (by unfold fitOf; rw [if_pos hk00, if_neg (by rw [hne]; simp)]))
            go_wp2
            go_roundw
            case rel => exact ⟨k + 1, by omega, by go_num, HGD.out, HBX.out.alloc _, HB.out.alloc (Nat.le_of_lt hlw) _⟩
            case measure => simp [intOf] <;> omega
          · rw [hne] at f3
            have HBD := Lib.hid (BAD.out 82 (by unfold fitOf; rw [if_pos hk00, if_pos hne]) (by decide))
            go_wp2
            go_ret
            exact ⟨by rw [HBD.out]; rfl, HB.out.alloc (Nat.le_of_lt hlw) _⟩
        · have hkz : (ce.kind == 0) = false := by simp [hk00]
          by_cases hke : ce.kind = f.kind
          · have hkq : (ce.kind != f.kind) = false := by simp [hke]
            by_cases hs6 : 64 < ce.s.size
            · have hsi : (64 : Int) < (ce.s.size : Int) := by omega
              have HBD := Lib.hid (BAD.out 5 (by unfold fitOf; rw [if_neg hk00, if_neg (by simpa using hke), if_pos hs6]) (by decide))
              go_wp2_with (first | go_region | fail)
              all_goals go_ret
              all_goals exact ⟨by rw [HBD.out]; rfl, (HB.out.alloc (Nat.le_of_lt hlw) _).drew⟩
            · have hsi : (ce.s.size : Int) ≤ 64 := by omega
              have HGD := Lib.hid (GOOD.out (by unfold fitOf; rw [if_neg hk00, if_neg (by simpa using hke), if_neg hs6]))
              go_wp2_with (first | go_region | fail)
              all_goals go_roundw
              case rel => exact ⟨k + 1, by omega, by go_num, HGD.out, (HBX.out.alloc _).drew, (HB.out.alloc (Nat.le_of_lt hlw) _).drew⟩
              case measure => simp [intOf] <;> omega
          · have hkq : (ce.kind != f.kind) = true := by simp [hke]
            have HBD := Lib.hid (BAD.out 10 (by unfold fitOf; rw [if_neg hk00, if_pos hke]) (by decide))
            go_wp2_with (first | go_region | fail)
            all_goals go_ret
            all_goals exact ⟨by rw [HBD.out]; rfl, (HB.out.alloc (Nat.le_of_lt hlw) _).drew⟩
      · obtain rfl : k = n := by omega
        go_wp2
        go_ret
        exact ⟨by rw [HFB.out]; rfl, HB.out⟩
  · have hne : ((n : Int) != (fnn : Int)) = true := by simp; omega
    rw [if_pos hnm]
    go_enter Try.func23, Try.ntmps23
    go_wp2
    go_ret
    exact ⟨rfl, (Below.refl _ _).alloc (Nat.le_refl _) _⟩
theorem iface_ofE {x : ValD} (h : x ≠ .nil) : ∃ T u, x.val = .iface T u := by
  cases x <;> first | exact absurd rfl h | exact ⟨_, _, rfl⟩
theorem cell_nilE {x : ValD} (h : x ≠ .nil) : x.cell.kind ≠ 0 := by
  cases x <;> first | exact absurd rfl h | (simp [ValD.cell])
theorem text_sizeE (d : ValD) (h : isText d = false) : d.cell.s.size = 0 := by cases d <;> first | rfl | (simp [isText] at h)
set_option maxRecDepth 100000 in
set_option maxHeartbeats 8000000 in
theorem fit_calls (s : SchemaD) (scs : List Value) (a : Option Addr) (n c : Nat) (xs : List ValD) (w : World) (hs : SchemaR w scs s) (h : Sl 1 ValRE w a n xs) (hn : n ≤ 100000) :
    Calls Try.prog 60 #[.agg scs.toArray, .slice a n c] w (ValIs (.int .i64 (fitE s (xs.map ValD.cell))) w) := by
  have HS := Lib.hid h
  obtain ⟨fa, fnn, fc, rfl, hs1, hs2, hs3, hfs, hs4⟩ := hs
  have HFS := Lib.hid hfs
  have hfl := hfs.1
  have hf1 : fnn ≤ 9223372036854775807 := by unfold maxLen at hs2; omega
  have hxl : (xs.map ValD.cell).length = n := by rw [List.length_map]; exact h.1
  obtain ⟨G, hG⟩ : ∃ G, fitAt s.fields (xs.map ValD.cell) = G := ⟨_, rfl⟩
  have HG := Lib.hid hG
  have HE := Lib.hid (show fitE s (xs.map ValD.cell) = if n ≠ fnn then 1 else firstBad G n by unfold fitE; rw [hG, hxl, hfl])
  rw [HE.out]
  clear h hs1 hs2 hs3 hfs hs4 hG hxl
  have HKO := Lib.hid kindOf_same
  by_cases hnm : n = fnn
  · subst hnm
    rw [if_neg (fun h => h rfl)]
    go_enter Try.func60, Try.ntmps60
    go_wp2
    obtain ⟨W0, hWW⟩ : ∃ W0 : World, W0 = w.alloc (.cells #[.int .u32 (s.id : Int), .slice fa n fc] 25) := ⟨_, rfl⟩
    have hb0 : Below w.heap.size w W0 := by rw [hWW]; exact (Below.refl _ _).alloc (Nat.le_refl _) _
    rw [← hWW]
    clear hWW
    have HB0 := Lib.hid hb0
    clear hb0
    go_loopw [18] (fun i wr => ∃ k : Nat, k ≤ n ∧ i = .int .i64 k ∧ firstBad G k = 0 ∧ Below w.heap.size w wr) (fun i _ => n - (intOf i).toNat)
    case atStart => exact ⟨0, Nat.zero_le _, rfl, rfl, HB0.out⟩
    case round =>
      obtain ⟨k, hk, rfl, hfb, hb⟩ := hrel
      have HFB := Lib.hid hfb
      have HB := Lib.hid hb
      clear hb hfb
      have hki : (0 : Int) ≤ (k : Int) := by omega
      by_cases hlt : k < n
      · have hkn : (k : Int) < (n : Int) := by omega
        obtain ⟨b, off, d, u, rfl, hbl, hx, hr, hcell⟩ := HS.out.at1 hlt
        cases hr
        have d0 := (HB.out.cell (p := ⟨b, off + k, none⟩) hbl).trans hcell
        obtain ⟨fb, foff, f, fcs, rfl, hfbl, hfx, hfcl, hfr, hfcell⟩ := HFS.out.at_ hlt
        obtain ⟨rfl, _⟩ := hfr
        have f0 := (HB.out.cell (p := ⟨fb, foff + k * 4 + 0, none⟩) hfbl).trans (hfcell 0 _ rfl)
        have f1 := (HB.out.cell (p := ⟨fb, foff + k * 4 + 1, none⟩) hfbl).trans (hfcell 1 _ rfl)
        have f2 := (HB.out.cell (p := ⟨fb, foff + k * 4 + 2, none⟩) hfbl).trans (hfcell 2 _ rfl)
        have f3 := (HB.out.cell (p := ⟨fb, foff + k * 4 + 3, none⟩) hfbl).trans (hfcell 3 _ rfl)
        rw [Nat.add_zero] at f0
        have HGK := Lib.hid (show G k = fitOf f d.cell by rw [← HG.out]; exact fitAt_eq hfx (by rw [List.getElem?_map, hx]; rfl))
        have bad : ∀ r : Int, fitOf f d.cell = r → r ≠ 0 → firstBad G n = r := fun r hr h0 => by rw [firstBad_at HFB.out (by rw [HGK.out, hr]; exact h0) hlt, HGK.out, hr]
        have good : fitOf f d.cell = 0 → firstBad G (k + 1) = 0 := fun h => firstBad_next HFB.out (by rw [HGK.out, h])
        have BAD := Lib.hid bad
        have GOOD := Lib.hid good
        clear hfcell hfx hfcl bad good hcell hx
        have hlw : w.heap.size ≤ wr.heap.size := HB.out.size
        have hbw : b < wr.heap.size := by omega
        by_cases hdn : d = .nil
        · subst hdn
          rw [show (ValD.nil).val = Value.nilIface from rfl] at d0
          cases hne : f.need
          · rw [hne] at f3
            have HGD := Lib.hid (GOOD.out (by unfold fitOf; rw [if_pos (show ValD.nil.cell.kind = 0 from rfl), if_neg (by rw [hne]; simp)]))
            go_wp2
            go_roundw
            case rel => exact ⟨k + 1, by omega, by go_num, HGD.out, HB.out.alloc hlw _⟩
            case measure => simp [intOf] <;> omega
          · rw [hne] at f3
            have HBD := Lib.hid (BAD.out 82 (by unfold fitOf; rw [if_pos (show ValD.nil.cell.kind = 0 from rfl), if_pos hne]) (by decide))
            go_wp2
            go_ret
            exact ⟨by rw [HBD.out]; rfl, HB.out.alloc hlw _⟩
        · have hk00 := cell_nilE hdn
          obtain ⟨xt, xu, hxv⟩ := iface_ofE hdn
          have hat := assertText d
          unfold AssertText at hat
          have hko := fun W => HKO.out d W
          have hit := isText_iff d
          have HTS := Lib.hid (text_sizeE d)
          have HTC := Lib.hid (textOf_cell d)
          rw [hxv] at d0 hat hko
          have HKOD := Lib.hid hko
          have HIT := Lib.hid hit
          clear hko hit
          go_upto_region 9 with fail
          have hx1 : Box (wr.alloc (.cells #[.int .u32 (f.id : Int), .string f.name, .int .u8 (f.kind : Int), .bool f.need] 59)) wr.heap.size #[.int .u32 (f.id : Int), .string f.name, .int .u8 (f.kind : Int), .bool f.need] := Box.new _ _ _
          have hb1 : Below w.heap.size w (wr.alloc (.cells #[.int .u32 (f.id : Int), .string f.name, .int .u8 (f.kind : Int), .bool f.need] 59)) := HB.out.alloc hlw _
          have hd1 : (wr.alloc (.cells #[.int .u32 (f.id : Int), .string f.name, .int .u8 (f.kind : Int), .bool f.need] 59)).cell? ⟨b, off + k, none⟩ = some (.iface xt xu) := (((Below.refl _ _).alloc (Nat.le_refl _) _).cell (p := ⟨b, off + k, none⟩) hbw).trans d0
          generalize wr.alloc (.cells #[.int .u32 (f.id : Int), .string f.name, .int .u8 (f.kind : Int), .bool f.need] 59) = W1 at *
          have X1 := Lib.hid hx1
          have HB1 := Lib.hid hb1
          clear hx1 hb1 d0 f0 f1 f2 f3
          have y2 : W1.cell? ⟨wr.heap.size, 2, none⟩ = some (.int .u8 (f.kind : Int)) := X1.out.cell 2 rfl
          generalize hdc : d.cell = dc at *
          by_cases hke : dc.kind = f.kind
          · have hkq : (dc.kind != (f.kind : Int)) = false := by simp [hke]
            go_quiet (first | (go_at_call 40; exact Calls.quiet_of_same (HKOD.out _)))
            cases hti : isText d
            · rw [hti] at hat
              have HGD := Lib.hid (GOOD.out (by unfold fitOf; rw [if_neg hk00, if_neg (by simpa using hke), if_neg (by rw [HTS.out hti]; omega)]))
              go_wp2
              go_roundw
              case rel => exact ⟨k + 1, by omega, by go_num, HGD.out, below_drewN HB1.out _⟩
              case measure => simp [intOf] <;> omega
            · rw [hti, HTC.out hti] at hat
              by_cases hs6 : 64 < dc.s.size
              · have hsi : (64 : Int) < (dc.s.size : Int) := by omega
                have HBD := Lib.hid (BAD.out 5 (by unfold fitOf; rw [if_neg hk00, if_neg (by simpa using hke), if_pos hs6]) (by decide))
                go_wp2
                go_ret
                exact ⟨by rw [HBD.out]; rfl, below_drewN HB1.out _⟩
              · have hsi : (dc.s.size : Int) ≤ 64 := by omega
                have HGD := Lib.hid (GOOD.out (by unfold fitOf; rw [if_neg hk00, if_neg (by simpa using hke), if_neg hs6]))
                go_wp2
                go_roundw
                case rel => exact ⟨k + 1, by omega, by go_num, HGD.out, below_drewN HB1.out _⟩
                case measure => simp [intOf] <;> omega
          · have hkq : (dc.kind != (f.kind : Int)) = true := by simp [hke]
            have HBD := Lib.hid (BAD.out 10 (by unfold fitOf; rw [if_neg hk00, if_pos hke]) (by decide))
            go_quiet (first | (go_at_call 40; exact Calls.quiet_of_same (HKOD.out _)))
            go_wp2
            go_ret
            exact ⟨by rw [HBD.out]; rfl, below_drewN HB1.out _⟩
      · obtain rfl : k = n := by omega
        go_wp2
        go_ret
        exact ⟨by rw [HFB.out]; rfl, HB.out⟩
  · have hne : ((n : Int) != (fnn : Int)) = true := by simp; omega
    rw [if_pos hnm]
    go_enter Try.func60, Try.ntmps60
    go_wp2
    go_ret
    exact ⟨rfl, (Below.refl _ _).alloc (Nat.le_refl _) _⟩
end Go.Proofs.Ytlclhinianamhaa
