/- Events as plain data; event.values, event.cell. -/
import Derived.Test.YtlclhinianamhaaEvFit
import Derived.Deep.AppendLies
namespace Go.Proofs.Ytlclhinianamhaa
open Go.RowKit Go.Deep
set_option linter.unusedVariables false
set_option linter.unusedSimpArgs false

structure EventD where
  offset : Nat
  op : Nat
  row : List CellD
  key : CellD
  name : ByteArray
  kind : Nat
def EventD.cells (e : EventD) (v : Value) : List Value := [.int .u64 (e.offset : Int), .int .u8 (e.op : Int), v, .int .u8 e.key.kind, .int .i64 e.key.n, .string e.key.s, .string e.name, .int .u8 (e.kind : Int)]
def CellB (c : CellD) : Prop := c.s.size ≤ maxLen ∧ (0 ≤ c.kind ∧ c.kind ≤ 255) ∧ (-9223372036854775808 ≤ c.n ∧ c.n ≤ 9223372036854775807)
def EventR : Rd EventD := fun w cs e => ∃ a n c, cs = e.cells (.slice a n c) ∧ n ≤ c ∧ c ≤ maxLen ∧ (a = none → c = 0) ∧ Sl 3 CellR w a n e.row ∧ e.offset < 2 ^ 64 ∧ e.op < 256 ∧ CellB e.key ∧ e.name.size ≤ maxLen ∧ e.kind < 256
theorem EventR.stable : Stable EventR := by
  rintro w w' cs x hb ⟨a, n, c, rfl, h1, h2, h3, h, r⟩
  exact ⟨a, n, c, rfl, h1, h2, h3, h.below CellR.stable hb, r⟩
theorem Sl.cellsOK {w : World} {a : Option Addr} {n : Nat} {xs : List CellD} (h : Sl 3 CellR w a n xs) : CellsOK xs := by
  intro c hc
  obtain ⟨i, hi, rfl⟩ := List.getElem_of_mem hc
  obtain ⟨_, _, x, cs, _, _, hx, _, ⟨_, _, ⟨h0, _⟩, _⟩, _⟩ := h.at_ (i := i) (by have := h.1; omega)
  rw [List.getElem?_eq_getElem hi] at hx
  cases hx
  exact h0
def chkAt (xs : List CellD) (k : Nat) : Int := match xs[k]? with | some c => chk c | none => 0
def chkRow (xs : List CellD) : Int := firstBad (chkAt xs) xs.length
def valuesE (s : SchemaD) (xs : List CellD) : Int := if chkRow xs ≠ 0 then chkRow xs else fitE s (xs.map fix)
def ValuesPost (s : SchemaD) (xs : List CellD) (w : World) (e : Ending) (w' : World) : Prop :=
  ∃ v, e = .returned (.tuple #[v, .int .i64 (valuesE s xs)]) ∧ (chkRow xs = 0 → w'.ownsRow w.heap.size 60 1 v xs.length (valsV xs)) ∧ Below w.heap.size w w'
theorem own_leV {w : World} {base base' size n : Nat} {e : TypeId} {v : Value} {xs : List Value} (h : w.ownsRow base e size v n xs) (hb : base' ≤ base) : w.ownsRow base' e size v n xs :=
  ⟨h.1, h.2.imp id fun ⟨g, cap, cur, hv, hg, r⟩ => ⟨g, cap, cur, hv, Nat.le_trans hb hg, r⟩⟩
theorem good_cells {xs : List CellD} (h : CellsOK xs) : (xs.map goodVal).map ValD.cell = xs.map fix := by
  rw [List.map_map]
  exact List.map_congr_left fun c hc => good_cell c (h c hc)
theorem flat_vals (vs : List ValD) : vs.flatMap (fun d : ValD => [d.val]) = vs.map ValD.val := by induction vs <;> simp_all
theorem own_vals {w : World} {B n c : Nat} {ad : Option Addr} {vs : List ValD} (h : w.ownsRow B 60 1 (.slice ad n c) n (vs.map ValD.val)) : Sl 1 ValRE w ad n vs :=
  own_sl (f := fun d : ValD => [d.val]) (by decide) (fun _ => rfl) (fun x _ => rfl) (by rw [flat_vals]; exact h)
theorem valsV_map (xs : List CellD) : valsV xs = (xs.map goodVal).map ValD.val := by unfold valsV; rw [List.map_map]; rfl
theorem evcell (d : ValD) (w : World) : Calls Try.prog 48 #[d.val] w (ValIs (.agg d.cell.cells) w) := by
  have HC := Lib.hid (valueCell d)
  obtain ⟨k, hk⟩ : ∃ k, d.cell = k := ⟨_, rfl⟩
  rw [hk] at HC ⊢
  obtain ⟨v, hv⟩ : ∃ v, d.val = v := ⟨_, rfl⟩
  rw [hv] at HC ⊢
  clear hk hv
  obtain ⟨kk, kn, ks⟩ := k
  unfold CellD.cells at HC ⊢
  go_enter Try.func48, Try.ntmps48
  go_wp2_with fail
  obtain ⟨W0, hWW⟩ : ∃ W0 : World, W0 = w.alloc (.cells #[.int .u8 0, .int .i64 0, .string ⟨#[]⟩] 30) := ⟨_, rfl⟩
  have hm : Mem w.heap.size [#[.int .u8 0, .int .i64 0, .string ⟨#[]⟩]] w W0 := by rw [hWW]; exact (Mem.nil w).push (by simp) #[.int .u8 0, .int .i64 0, .string ⟨#[]⟩] 30
  first | rw [← hWW] | skip
  have M0 := Lib.hid hm
  clear hm hWW
  refine (HC.out _).mono ?_
  rintro e w1 ⟨rfl, hb⟩
  have M1 := Lib.hid (M0.out.call hb)
  clear hb
  have q0 : w1.cell? ⟨w.heap.size, 0, none⟩ = some (.int .u8 0) := M1.out.cell 0 0 rfl rfl
  have q1 : w1.cell? ⟨w.heap.size, 1, none⟩ = some (.int .i64 0) := M1.out.cell 0 1 rfl rfl
  have q2 : w1.cell? ⟨w.heap.size, 2, none⟩ = some (.string ⟨#[]⟩) := M1.out.cell 0 2 rfl rfl
  have g0 : ∀ j, w1.frozen? ⟨w.heap.size, j, none⟩ = false := M1.out.frozen 0 rfl
  have z0 : w.heap.size < w1.heap.size := M1.out.lt 0 (by simp)
  go_wp2
  have hbx : Box w1 w.heap.size #[.int .u8 0, .int .i64 0, .string ⟨#[]⟩] := Box.mk (M1.out.cells 0 _ rfl) (M1.out.soft 0 _ rfl) z0
  have hx6 := (((hbx.set (j := 0) (by simp) (.int .u8 kk)).set (j := 1) (by simp) (.int .i64 kn)).set (j := 2) (by simp) (.string ks))
  have hb6 : Below w.heap.size w (((w1.setCell ⟨w.heap.size, 0, none⟩ (.int .u8 kk)).setCell ⟨w.heap.size, 1, none⟩ (.int .i64 kn)).setCell ⟨w.heap.size, 2, none⟩ (.string ks)) := (((M1.out.below.setCell (p := ⟨w.heap.size, 0, none⟩) (Nat.le_refl _) _).setCell (p := ⟨w.heap.size, 1, none⟩) (Nat.le_refl _) _).setCell (p := ⟨w.heap.size, 2, none⟩) (Nat.le_refl _) _)
  generalize ((w1.setCell ⟨w.heap.size, 0, none⟩ (.int .u8 kk)).setCell ⟨w.heap.size, 1, none⟩ (.int .i64 kn)).setCell ⟨w.heap.size, 2, none⟩ (.string ks) = W6 at *
  have hx7 := hx6.alloc (.cells #[.int .u8 kk, .int .i64 kn, .string ks] 30)
  have hb7 := hb6.alloc hb6.size (.cells #[.int .u8 kk, .int .i64 kn, .string ks] 30)
  have p0 := hx7.cell 0 rfl
  have p1 := hx7.cell 1 rfl
  have p2 := hx7.cell 2 rfl
  exact bodyPost_ret (v := .agg #[.int .u8 kk, .int .i64 kn, .string ks]) (by simp [results, Try.results48, go_sem, p0, p1, p2]) rfl ⟨rfl, hb7⟩
set_option maxRecDepth 100000 in
set_option maxHeartbeats 8000000 in
theorem values_calls (s : SchemaD) (scs : List Value) (a : Option Addr) (n c : Nat) (xs : List CellD) (w : World) (hs : SchemaR w scs s) (h : Sl 3 CellR w a n xs) (hn : n ≤ 100000) :
    Calls Try.prog 38 #[.agg scs.toArray, .slice a n c] w (ValuesPost s xs w) := by
  have HXO := Lib.hid h.cellsOK
  have HSC := Lib.hid hs
  have HS := Lib.hid h
  have hxl := h.1
  obtain ⟨fa, fnn, fc, rfl, hs1, hs2, hs3, hfs, hs4⟩ := hs
  obtain ⟨i0, hi0, hz0, hz1, hz2⟩ := info_parts infoVal
  have HI := Lib.hid hi0
  have HZ0 := Lib.hid hz0
  have HZ1 := Lib.hid hz1
  have HZ2 := Lib.hid hz2
  have HOF := Lib.hid (fun c h0 W => (both c h0 W).2)
  obtain ⟨G, hG⟩ : ∃ G, chkAt xs = G := ⟨_, rfl⟩
  have HG := Lib.hid hG
  have HE := Lib.hid (show chkRow xs = firstBad G n by unfold chkRow; rw [hG, hxl])
  have HXL := Lib.hid hxl
  obtain ⟨ys, hys⟩ : ∃ ys : List CellD, ys = xs := ⟨_, rfl⟩
  clear h hs1 hs2 hs3 hfs hs4 hG hi0 hz0 hz1 hz2 hxl
  go_enter Try.func38, Try.ntmps38
  go_wp2
  obtain ⟨W0, hWW⟩ : ∃ W0 : World, W0 = w.alloc (.cells #[.int .u32 (s.id : Int), .slice fa fnn fc] 25) := ⟨_, rfl⟩
  have hb0 : Below w.heap.size w W0 := by rw [hWW]; exact (Below.refl _ _).alloc (Nat.le_refl _) _
  have hx0 : Box W0 w.heap.size #[.int .u32 (s.id : Int), .slice fa fnn fc] := by rw [hWW]; exact Box.new _ _ _
  rw [← hWW]
  clear hWW
  have HX0 := Lib.hid hx0
  have HB0 := Lib.hid hb0
  clear hx0 hb0
  go_loopw [6, 13] (fun v i wr => ∃ k : Nat, k ≤ n ∧ i = .int .i64 k ∧ firstBad G k = 0 ∧ wr.ownsRow W0.heap.size 60 1 v k (valsV (ys.take k)) ∧ Below W0.heap.size W0 wr) (fun _ i _ => n - (intOf i).toNat)
  case atStart => exact ⟨0, Nat.zero_le _, rfl, rfl, World.ownsRow_nil _ _ _ _, Below.refl _ _⟩
  case round =>
    obtain ⟨k, hk, rfl, hfb, hown, hb⟩ := hrel
    have HFB := Lib.hid hfb
    have HO := Lib.hid hown
    have HB := Lib.hid hb
    clear hown hb hfb
    have HBW := Lib.hid (HB0.out.trans (HB.out.mono HB0.out.size))
    have HBX := Lib.hid (HX0.out.below HB.out HX0.out.lt)
    have hki : (0 : Int) ≤ (k : Int) := by omega
    by_cases hlt : k < n
    · have hkn : (k : Int) < (n : Int) := by omega
      obtain ⟨b, off, ce, cs, rfl, hbl, hx, hcl, hr, hcell⟩ := HS.out.at_ hlt
      obtain ⟨rfl, hsz, ⟨hk0, _⟩, _⟩ := hr
      have d0 := (HBW.out.cell (p := ⟨b, off + k * 3 + 0, none⟩) hbl).trans (hcell 0 _ rfl)
      have d1 := (HBW.out.cell (p := ⟨b, off + k * 3 + 1, none⟩) hbl).trans (hcell 1 _ rfl)
      have d2 := (HBW.out.cell (p := ⟨b, off + k * 3 + 2, none⟩) hbl).trans (hcell 2 _ rfl)
      rw [Nat.add_zero] at d0
      have hsn := valsV_snoc ys k ce (by rw [hys]; exact hx)
      have hv := HOF.out ce hk0
      have HGK := Lib.hid (show G k = chk ce by rw [← HG.out]; unfold chkAt; rw [hx])
      have h63 : k + 1 ≤ maxLen := by unfold maxLen; omega
      have hby : (k + 1) * 16 ≤ 140737488355328 := by omega
      have HONE := Lib.hid (val_oneCell (goodVal ce))
      have HIF := Lib.hid (iface_ofE (x := goodVal ce))
      clear hcell hx hsz hk0 hcl
      obtain ⟨u, hu⟩ : ∃ u, (goodVal ce).val = u := ⟨_, rfl⟩
      have HU := Lib.hid hu
      rw [hu] at hsn hv HONE
      unfold CellD.cells at hv
      have HVC := Lib.hid hv
      have HSN := Lib.hid hsn
      generalize chk ce = r at *
      clear hv hsn hu
      go_wp2_with fail
      have hb1 : Below W0.heap.size W0 (wr.alloc (.cells #[.int .u8 ce.kind, .int .i64 ce.n, .string ce.s] 30)) := HB.out.alloc HB.out.size _
      have ho1 := HO.out.alloc (.cells #[.int .u8 ce.kind, .int .i64 ce.n, .string ce.s] 30)
      generalize (wr.alloc (.cells #[.int .u8 ce.kind, .int .i64 ce.n, .string ce.s] 30)) = W1 at *
      have HB1 := Lib.hid hb1
      have HO1 := Lib.hid ho1
      clear hb1 ho1 d0 d1 d2
      refine (HVC.out _).mono ?_
      rintro e w2 ⟨rfl, hb2⟩
      have HO2 := Lib.hid (own_below HO1.out hb2)
      have HB2 := Lib.hid (HB1.out.trans (hb2.mono HB1.out.size))
      clear hb2 HO HB HO1 HB1
      by_cases hr0 : r = 0
      · subst hr0
        have HFB1 := Lib.hid (firstBad_next HFB.out HGK.out)
        have hbase : W0.heap.size ≤ (w2.alloc (.cells #[u] 60)).heap.size := by have := HB2.out.size; simp; omega
        have HBASE := Lib.hid hbase
        clear hbase
        by_cases hnil : goodVal ce = .nil
        · obtain rfl : u = .nilIface := by rw [← HU.out, hnil]; rfl
          have HCL := Lib.hid (show ∀ j u, [(.nilIface : Value)][j]? = some u → (w2.alloc (.cells #[.nilIface] 60)).cell? ((⟨w2.heap.size, 0, none⟩ : Addr).add j) = some u from cell_one_new w2 _ 60)
          clear hnil
          go_wp2_with (at_builtin; refine wpList_append_lies _ rfl _ _ _ rfl W0.heap.size 60 i0 .nilIface 1 16 Try.underlying61 HI.out HZ0.out HZ1.out HZ2.out rfl (by decide) _ _ _ rfl (HO2.out.alloc _) ⟨w2.heap.size, 0, none⟩ 1 1 [.nilIface] rfl rfl HCL.out (by simp [Value.oneCell']) (by decide) h63 hby HBASE.out _ rfl ?_; intro g cap w7 hown7 hgrow7 hat7 hglt7)
          have hb7 := below_append HO2.out HB2.out hgrow7
          clear hgrow7 hat7
          go_roundw
          case rel =>
            refine ⟨k + 1, by omega, by go_num, HFB1.out, ?_, hb7⟩
            rw [HSN.out]
            exact hown7
          case measure => simp [intOf] <;> omega
        · obtain ⟨xt, xu, hxv⟩ := HIF.out hnil
          obtain rfl : u = .iface xt xu := by rw [← HU.out, hxv]
          have HCL := Lib.hid (show ∀ j u, [(.iface xt xu : Value)][j]? = some u → (w2.alloc (.cells #[.iface xt xu] 60)).cell? ((⟨w2.heap.size, 0, none⟩ : Addr).add j) = some u from cell_one_new w2 _ 60)
          clear hnil hxv
          go_wp2_with (at_builtin; refine wpList_append_lies _ rfl _ _ _ rfl W0.heap.size 60 i0 .nilIface 1 16 Try.underlying61 HI.out HZ0.out HZ1.out HZ2.out rfl (by decide) _ _ _ rfl (HO2.out.alloc _) ⟨w2.heap.size, 0, none⟩ 1 1 [.iface xt xu] rfl rfl HCL.out (by simp [Value.oneCell']) (by decide) h63 hby HBASE.out _ rfl ?_; intro g cap w7 hown7 hgrow7 hat7 hglt7)
          have hb7 := below_append HO2.out HB2.out hgrow7
          clear hgrow7 hat7
          go_roundw
          case rel =>
            refine ⟨k + 1, by omega, by go_num, HFB1.out, ?_, hb7⟩
            rw [HSN.out]
            exact hown7
          case measure => simp [intOf] <;> omega
      · have hrb : (r == 0) = false := by rw [beq_eq_false_iff_ne]; exact hr0
        have HBD := Lib.hid (show chkRow xs = r by rw [HE.out, firstBad_at HFB.out (by rw [HGK.out]; exact hr0) hlt, HGK.out])
        have HR0 := Lib.hid hr0
        clear hr0
        go_wp2
        go_ret2
        exact ⟨_, by unfold valuesE; rw [HBD.out, if_pos HR0.out]; rfl, fun h => absurd (HBD.out.symm.trans h) HR0.out, HB0.out.trans (HB2.out.mono HB0.out.size)⟩
    · obtain rfl : k = n := by omega
      have hyk : ys.take k = xs := by rw [hys]; exact List.take_of_length_le (by rw [HXL.out]; exact Nat.le_refl _)
      rw [hyk, valsV_map] at HO
      obtain ⟨a5, c5, rfl, hc5⟩ := own_slice HO.out
      have y0 : wr.cell? ⟨w.heap.size, 0, none⟩ = some (.int .u32 (s.id : Int)) := HBX.out.cell 0 rfl
      have y1 : wr.cell? ⟨w.heap.size, 1, none⟩ = some (.slice fa fnn fc) := HBX.out.cell 1 rfl
      have HFIT := Lib.hid (fun W hr hb => fit_calls s [.int .u32 (s.id : Int), .slice fa fnn fc] a5 k c5 (xs.map goodVal) W hr hb (by omega))
      rw [good_cells HXO.out] at HFIT
      have HVE := Lib.hid (show valuesE s xs = fitE s (xs.map fix) by unfold valuesE; rw [HE.out, HFB.out, if_neg (fun h => h rfl)])
      generalize fitE s (xs.map fix) = r at *
      clear hc5 hyk
      go_wp2_with fail
      refine (HFIT.out _ (SchemaR.stable _ _ _ _ HBW.out HSC.out) (own_vals HO.out)).mono ?_
      rintro e w3 ⟨rfl, hb3⟩
      have HO3 := Lib.hid (own_below HO.out hb3)
      have HB3 := Lib.hid (HBW.out.trans (hb3.mono HBW.out.size))
      clear hb3 y0 y1
      go_wp2
      go_ret2
      exact ⟨_, by rw [HVE.out]; rfl, fun _ => by rw [valsV_map, HXL.out]; exact own_leV HO3.out HB0.out.size, HB3.out⟩
end Go.Proofs.Ytlclhinianamhaa
