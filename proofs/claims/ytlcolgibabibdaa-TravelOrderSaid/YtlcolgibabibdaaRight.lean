/- The contract of catchmentref14.Right: where it says true, numbers rise and offsets don't fall. -/
import Derived.Test.YtlcolgibabibdaaRtChk
import Derived.Test.YtlcolgibabibdaaRt1
import Derived.Test.YtlcolgibabibdaaKept
namespace Go.Proofs.Ytlcolgibabibdaa
open Go.RowKit Go.Deep
set_option linter.unusedVariables false

def RisesUpto (xs : List SnapD) (k : Nat) : Prop := ∀ i x y, i + 1 < k → xs[i]? = some x → xs[i + 1]? = some y → x.id < y.id ∧ x.offset ≤ y.offset
def LastIs (xs : List SnapD) (k l0 l3 : Nat) : Prop := ∀ x, 0 < k → xs[k - 1]? = some x → x.id = l0 ∧ x.offset = l3
theorem rises_next {xs : List SnapD} {k l0 l3 : Nat} {s : SnapD} (h : RisesUpto xs k) (hl : LastIs xs k l0 l3) (hs : xs[k]? = some s) (h0 : l0 < s.id) (h3 : l3 ≤ s.offset) : RisesUpto xs (k + 1) := by
  intro i x y hi hx hy
  rcases Nat.lt_or_ge (i + 1) k with h1 | h1
  · exact h i x y h1 hx hy
  · obtain rfl : k = i + 1 := by omega
    rw [hs] at hy; cases hy
    obtain ⟨rfl, rfl⟩ := hl x (by omega) hx
    exact ⟨h0, h3⟩
theorem last_next {xs : List SnapD} {k : Nat} {s : SnapD} (hs : xs[k]? = some s) : LastIs xs (k + 1) s.id s.offset := by
  intro x _ hx
  rw [Nat.add_sub_cancel, hs] at hx; cases hx
  exact ⟨rfl, rfl⟩
/-- Where the snapshot that came last lies. -/
def LastAt (wr : World) (blk l0 l1 l2 l3 l4 l5 : Nat) (v6 : Value) : Prop :=
  ∀ i v, (#[Value.int .u64 (l0 : Int), .int .u64 (l1 : Int), .int .u64 (l2 : Int), .int .u64 (l3 : Int), .int .u64 (l4 : Int), .int .u32 (l5 : Int), v6] : Array Value)[i]? = some v → wr.cell? ⟨blk, i, none⟩ = some v
theorem set7 {w : World} {b : Nat} {a0 a1 a2 a3 a4 a5 a6 : Value} (h0 : w.cell? ⟨b, 0, none⟩ = some a0) (h1 : w.cell? ⟨b, 1, none⟩ = some a1) (h2 : w.cell? ⟨b, 2, none⟩ = some a2) (h3 : w.cell? ⟨b, 3, none⟩ = some a3) (h4 : w.cell? ⟨b, 4, none⟩ = some a4) (h5 : w.cell? ⟨b, 5, none⟩ = some a5) (h6 : w.cell? ⟨b, 6, none⟩ = some a6) (u0 u1 u2 u3 u4 u5 u6 : Value) :
    ∀ i v, (#[u0, u1, u2, u3, u4, u5, u6] : Array Value)[i]? = some v → (((((((w.setCell ⟨b, 0, none⟩ u0).setCell ⟨b, 1, none⟩ u1).setCell ⟨b, 2, none⟩ u2).setCell ⟨b, 3, none⟩ u3).setCell ⟨b, 4, none⟩ u4).setCell ⟨b, 5, none⟩ u5).setCell ⟨b, 6, none⟩ u6).cell? ⟨b, i, none⟩ = some v := by
  have o : ∀ (W : World) (i j : Nat) (u : Value), i ≠ j → (W.setCell ⟨b, i, none⟩ u).cell? ⟨b, j, none⟩ = W.cell? ⟨b, j, none⟩ := fun W i j u hij => World.cell?_setCell_other W _ _ u (fun e => hij (congrArg Addr.off e))
  intro i v h
  match i, h with
  | 0, h => cases h; rw [o _ 6 0 _ (by decide), o _ 5 0 _ (by decide), o _ 4 0 _ (by decide), o _ 3 0 _ (by decide), o _ 2 0 _ (by decide), o _ 1 0 _ (by decide)]; exact World.cell?_setCell_same _ _ _ h0
  | 1, h => cases h; rw [o _ 6 1 _ (by decide), o _ 5 1 _ (by decide), o _ 4 1 _ (by decide), o _ 3 1 _ (by decide), o _ 2 1 _ (by decide)]; exact World.cell?_setCell_same _ _ _ ((o _ 0 1 _ (by decide)).trans h1)
  | 2, h => cases h; rw [o _ 6 2 _ (by decide), o _ 5 2 _ (by decide), o _ 4 2 _ (by decide), o _ 3 2 _ (by decide)]; exact World.cell?_setCell_same _ _ _ (by rw [o _ 1 2 _ (by decide), o _ 0 2 _ (by decide)]; exact h2)
  | 3, h => cases h; rw [o _ 6 3 _ (by decide), o _ 5 3 _ (by decide), o _ 4 3 _ (by decide)]; exact World.cell?_setCell_same _ _ _ (by rw [o _ 2 3 _ (by decide), o _ 1 3 _ (by decide), o _ 0 3 _ (by decide)]; exact h3)
  | 4, h => cases h; rw [o _ 6 4 _ (by decide), o _ 5 4 _ (by decide)]; exact World.cell?_setCell_same _ _ _ (by rw [o _ 3 4 _ (by decide), o _ 2 4 _ (by decide), o _ 1 4 _ (by decide), o _ 0 4 _ (by decide)]; exact h4)
  | 5, h => cases h; rw [o _ 6 5 _ (by decide)]; exact World.cell?_setCell_same _ _ _ (by rw [o _ 4 5 _ (by decide), o _ 3 5 _ (by decide), o _ 2 5 _ (by decide), o _ 1 5 _ (by decide), o _ 0 5 _ (by decide)]; exact h5)
  | 6, h => cases h; exact World.cell?_setCell_same _ _ _ (by rw [o _ 5 6 _ (by decide), o _ 4 6 _ (by decide), o _ 3 6 _ (by decide), o _ 2 6 _ (by decide), o _ 1 6 _ (by decide), o _ 0 6 _ (by decide)]; exact h6)
  | n + 7, h => simp at h
theorem below_set7 {B : Nat} {w0 w : World} (h : Below B w0 w) {b : Nat} (hb : B ≤ b) (q : Nat) (u0 u1 u2 u3 u4 u5 u6 : Value) : Below B w0 ((((((((w.drewN q).setCell ⟨b, 0, none⟩ u0).setCell ⟨b, 1, none⟩ u1).setCell ⟨b, 2, none⟩ u2).setCell ⟨b, 3, none⟩ u3).setCell ⟨b, 4, none⟩ u4).setCell ⟨b, 5, none⟩ u5).setCell ⟨b, 6, none⟩ u6) :=
  (((((((below_drewN h q).setCell hb _).setCell hb _).setCell hb _).setCell hb _).setCell hb _).setCell hb _).setCell hb _
def RightPost (xs : List SnapD) (w : World) (e : Ending) (w' : World) : Prop := ∃ r, e = .returned (.bool r) ∧ (r = true → RisesUpto xs xs.length) ∧ Below w.heap.size w w'
theorem right_false {xs : List SnapD} {w w' : World} (hb : Below w.heap.size w w') : RightPost xs w (.returned (.bool false)) w' := ⟨false, rfl, (fun h => by cases h), hb⟩

set_option maxRecDepth 100000 in
set_option maxHeartbeats 10000000 in
theorem right14 (cs : List Value) (t : TableD) (w : World) (h : TableR w cs t) : Calls Try.prog 18 #[.agg cs.toArray] w (RightPost t.snaps w) := by
  have HTAB := Lib.hid h
  obtain ⟨a, n, c, a', n', c', rfl, h1, h2, h3, hs, h4, h5, h6, hp, h7⟩ := h
  have HS := Lib.hid hs
  have HP := Lib.hid hp
  have HLEN := Lib.hid hs.1
  have HLENP := Lib.hid hp.1
  clear hs hp h3 h6
  by_cases hbig : n = 0 ∨ 16 < n ∨ 32 < n'
  · go_enter Try.func18, Try.ntmps18
    by_cases hq : n = 0
    · have hqi : ((n : Int) == 0) = true := by rw [beq_iff_eq]; omega
      clear hbig
      go_wp2
      go_ret
      exact right_false ((Below.refl _ _).alloc (Nat.le_refl _) _)
    · have hqi : ((n : Int) == 0) = false := by rw [beq_eq_false_iff_ne]; omega
      by_cases hq16 : 16 < n
      · have hq16i : (16 : Int) < (n : Int) := by omega
        clear hbig hq16
        go_wp2
        go_ret
        exact right_false ((Below.refl _ _).alloc (Nat.le_refl _) _)
      · have hq16i : (n : Int) ≤ 16 := by omega
        have hq32i : (32 : Int) < (n' : Int) := by omega
        clear hbig hq16
        go_wp2
        go_ret
        exact right_false ((Below.refl _ _).alloc (Nat.le_refl _) _)
  · have hqi : ((n : Int) == 0) = false := by rw [beq_eq_false_iff_ne]; omega
    have hq16i : (n : Int) ≤ 16 := by omega
    have hq32i : (n' : Int) ≤ 32 := by omega
    have hd16 : decide ((16 : Int) < (n : Int)) = false := by rw [decide_eq_false_iff_not]; omega
    have hd32 : decide ((32 : Int) < (n' : Int)) = false := by rw [decide_eq_false_iff_not]; omega
    have hn16 : n ≤ 16 := by omega
    have hn32 : n' ≤ 32 := by omega
    clear hbig
    go_enter Try.func18, Try.ntmps18
    go_wp2
    have hbx : Below w.heap.size w (w.alloc (.cells #[Value.slice a n c, Value.slice a' n' c', Value.int .u64 t.current] 26)) := (Below.refl _ _).alloc (Nat.le_refl _) _
    have hcx : ∀ (i : Nat) (v : Value), (#[Value.slice a n c, Value.slice a' n' c', Value.int .u64 t.current] : Array Value)[i]? = some v → (w.alloc (.cells #[Value.slice a n c, Value.slice a' n' c', Value.int .u64 t.current] 26)).cell? ⟨w.heap.size, i, none⟩ = some v := fun i v h => by rw [World.cell?_alloc_new]; exact h
    have hzx : w.heap.size + 1 = (w.alloc (.cells #[Value.slice a n c, Value.slice a' n' c', Value.int .u64 t.current] 26)).heap.size := by simp
    generalize w.alloc (.cells #[Value.slice a n c, Value.slice a' n' c', Value.int .u64 t.current] 26) = W0 at *
    have x0 := Lib.hid (hcx 0 _ rfl)
    have x1 := Lib.hid (hcx 1 _ rfl)
    have x2 := Lib.hid (hcx 2 _ rfl)
    have HBX := Lib.hid hbx
    have hwlt : w.heap.size < W0.heap.size := by omega
    clear hcx hbx
    go_loopw [3] (fun i wr => ∃ k : Nat, k ≤ n ∧ i = .int .i64 (k : Int) ∧ Below W0.heap.size W0 wr) (fun i _ => n - (intOf i).toNat)
    case atStart => exact ⟨0, Nat.zero_le _, rfl, Below.refl _ _⟩
    case round =>
      obtain ⟨k, hk, rfl, hb⟩ := hrel
      have HB := Lib.hid hb
      have y0 := (hb.cell (p := ⟨w.heap.size, 0, none⟩) hwlt).trans x0.out
      have y1 := (hb.cell (p := ⟨w.heap.size, 1, none⟩) hwlt).trans x1.out
      have y2 := (hb.cell (p := ⟨w.heap.size, 2, none⟩) hwlt).trans x2.out
      have hzr := hb.size
      have HBW := Lib.hid (HBX.out.trans (hb.mono (Nat.le_of_lt hwlt)))
      clear hb
      by_cases hlt : k < n
      · obtain ⟨b, off, s, cs, rfl, hbl, hx, hcl, hr, hcell⟩ := HS.out.at_ hlt
        have hr1 : SchemaR wr cs s := SchemaR.stable _ _ _ _ HBW.out hr
        obtain ⟨sa, sn, sc, hcs, hs1, hs2, hs3, hsf, hsi⟩ := hr
        subst hcs
        have d0 := (HBW.out.cell (p := ⟨b, off + k * 2 + 0, none⟩) hbl).trans (hcell 0 _ rfl)
        have d1 := (HBW.out.cell (p := ⟨b, off + k * 2 + 1, none⟩) hbl).trans (hcell 1 _ rfl)
        rw [Nat.add_zero] at d0
        have hk0 : (0 : Int) ≤ (k : Int) := by omega
        have hkn : (k : Int) < (n : Int) := by omega
        have HSF := Lib.hid hsf
        have HR1 := Lib.hid hr1
        clear hcell hr1 hx hs3 hsf
        go_wp2_with fail
        have hb1 : Below W0.heap.size W0 (wr.alloc (.cells #[Value.int .u32 s.id, Value.slice sa sn sc] 48)) := HB.out.alloc HB.out.size _
        have hb1r : Below wr.heap.size wr (wr.alloc (.cells #[Value.int .u32 s.id, Value.slice sa sn sc] 48)) := (Below.refl _ _).alloc (Nat.le_refl _) _
        have hc1 : ∀ (i : Nat) (v : Value), (#[Value.int .u32 s.id, Value.slice sa sn sc] : Array Value)[i]? = some v → (wr.alloc (.cells #[Value.int .u32 s.id, Value.slice sa sn sc] 48)).cell? ⟨wr.heap.size, i, none⟩ = some v := fun i v h => by rw [World.cell?_alloc_new]; exact h
        have hzr1 : wr.heap.size < (wr.alloc (.cells #[Value.int .u32 s.id, Value.slice sa sn sc] 48)).heap.size := by simp
        generalize wr.alloc (.cells #[Value.int .u32 s.id, Value.slice sa sn sc] 48) = W1 at *
        have HCH := Lib.hid (check08 _ s W1 (SchemaR.stable _ _ _ _ hb1r HR1.out))
        refine HCH.out.mono ?_
        rintro e w2 ⟨rfl, hb2⟩
        have hb12 := hb1.trans (hb2.mono hb1.size)
        have HB2 := Lib.hid hb12
        have z0 := (hb2.cell (p := ⟨wr.heap.size, 0, none⟩) hzr1).trans (hc1 0 _ rfl)
        have z1 := (hb2.cell (p := ⟨wr.heap.size, 1, none⟩) hzr1).trans (hc1 1 _ rfl)
        have yy0 := (hb12.cell (p := ⟨w.heap.size, 0, none⟩) hwlt).trans x0.out
        have HBW2 := Lib.hid (HBX.out.trans (hb12.mono (Nat.le_of_lt hwlt)))
        have hz2 : wr.heap.size < w2.heap.size := Nat.lt_of_lt_of_le hzr1 hb2.size
        clear hb1 hb1r hc1 hb2 hb12 HCH HR1 d0 d1 y0 y1 y2
        generalize schemaChk s = r at *
        by_cases hr0 : r = 0
        · have hr0i : (r == 0) = true := by rw [beq_iff_eq]; exact hr0
          subst hr0
          by_cases hkz : k = 0
          · subst hkz
            go_wp2
            go_roundw
            case rel => exact ⟨0 + 1, by omega, by go_num, HB2.out⟩
            case measure => simp [intOf] <;> omega
          · have hkzi : ((k : Int) == 0) = false := by rw [beq_eq_false_iff_ne]; omega
            obtain ⟨kk, rfl⟩ : ∃ kk, k = kk + 1 := ⟨k - 1, by omega⟩
            obtain ⟨b', off', s', cs', he', hbl', hx', hcl', hr', hcell'⟩ := HS.out.at_ (i := kk) (by omega)
            cases he'
            obtain ⟨sa', sn', sc', hcs', hs1', hs2', hs3', hsf', hsi'⟩ := hr'
            subst hcs'
            have p0 := (HBW2.out.cell (p := ⟨b, off + kk * 2 + 0, none⟩) hbl).trans (hcell' 0 _ rfl)
            have p1 := (HBW2.out.cell (p := ⟨b, off + kk * 2 + 1, none⟩) hbl).trans (hcell' 1 _ rfl)
            rw [Nat.add_zero] at p0
            have hkk0 : (0 : Int) ≤ (kk : Int) := by omega
            have hkkn : (kk : Int) < (n : Int) := by omega
            have hwr : IntKind.i64.wrap (kk : Int) = (kk : Int) := wrap_small _ (by omega) (by omega)
            have HSF' := Lib.hid hsf'
            have hscb := hs2'
            unfold maxLen at hscb
            clear hcell' hx' hs3' hsf' hkz
            by_cases hle : s.id ≤ s'.id
            · have hlei : (s.id : Int) ≤ (s'.id : Int) := by omega
              clear hle
              go_wp2
              go_ret
              exact right_false (HBX.out.trans ((HB2.out.alloc HB2.out.size _).mono (Nat.le_of_lt hwlt)))
            · have hlei : (s'.id : Int) < (s.id : Int) := by omega
              clear hle
              by_cases hsn : sn < sn'
              · have hsni : (sn : Int) < (sn' : Int) := by omega
                go_wp2
                go_ret
                exact right_false (HBX.out.trans ((HB2.out.alloc HB2.out.size _).mono (Nat.le_of_lt hwlt)))
              · have hsni : (sn' : Int) ≤ (sn : Int) := by omega
                have hsn' : sn' ≤ sn := by omega
                clear hsn
                go_wp2
                have hb3 : Below w2.heap.size w2 (w2.alloc (.cells #[Value.int .u32 s'.id, Value.slice sa' sn' sc'] 48)) := (Below.refl _ _).alloc (Nat.le_refl _) _
                have hc3 : ∀ (i : Nat) (v : Value), (#[Value.int .u32 s'.id, Value.slice sa' sn' sc'] : Array Value)[i]? = some v → (w2.alloc (.cells #[Value.int .u32 s'.id, Value.slice sa' sn' sc'] 48)).cell? ⟨w2.heap.size, i, none⟩ = some v := fun i v h => by rw [World.cell?_alloc_new]; exact h
                generalize w2.alloc (.cells #[Value.int .u32 s'.id, Value.slice sa' sn' sc'] 48) = W3 at *
                have q0 := hc3 0 _ rfl
                have q1 := hc3 1 _ rfl
                have zz1 := (hb3.cell (p := ⟨wr.heap.size, 1, none⟩) hz2).trans z1
                have HB3 := Lib.hid (HB2.out.trans (hb3.mono HB2.out.size))
                have HBW3 := Lib.hid (HBW2.out.trans (hb3.mono HBW2.out.size))
                clear hb3 hc3 z0 z1 p0 p1 yy0
                go_loopw [6] (fun i wr => ∃ (j q : Nat), j ≤ sn' ∧ i = .int .i64 (j : Int) ∧ wr = W3.drewN q) (fun i _ => sn' - (intOf i).toNat)
                case atStart => exact ⟨0, 0, Nat.zero_le _, rfl, rfl⟩
                case round =>
                  obtain ⟨j, q, hj, rfl, rfl⟩ := hrel
                  by_cases hjl : j < sn'
                  · obtain ⟨fb, foff, f, fcs, rfl, hfbl, hfx, hfcl, hfr, hfcell⟩ := HSF.out.at_ (i := j) (by omega)
                    obtain ⟨rfl, hfs, hfi, hfk⟩ := hfr
                    obtain ⟨gb, goff, g, gcs, rfl, hgbl, hgx, hgcl, hgr, hgcell⟩ := HSF'.out.at_ (i := j) hjl
                    obtain ⟨rfl, hgs, hgi, hgk⟩ := hgr
                    have f0 := (HBW3.out.cell (p := ⟨fb, foff + j * 4 + 0, none⟩) hfbl).trans (hfcell 0 _ rfl)
                    have f1 := (HBW3.out.cell (p := ⟨fb, foff + j * 4 + 1, none⟩) hfbl).trans (hfcell 1 _ rfl)
                    have f2 := (HBW3.out.cell (p := ⟨fb, foff + j * 4 + 2, none⟩) hfbl).trans (hfcell 2 _ rfl)
                    have f3 := (HBW3.out.cell (p := ⟨fb, foff + j * 4 + 3, none⟩) hfbl).trans (hfcell 3 _ rfl)
                    have g0 := (HBW3.out.cell (p := ⟨gb, goff + j * 4 + 0, none⟩) hgbl).trans (hgcell 0 _ rfl)
                    have g1 := (HBW3.out.cell (p := ⟨gb, goff + j * 4 + 1, none⟩) hgbl).trans (hgcell 1 _ rfl)
                    have g2 := (HBW3.out.cell (p := ⟨gb, goff + j * 4 + 2, none⟩) hgbl).trans (hgcell 2 _ rfl)
                    have g3 := (HBW3.out.cell (p := ⟨gb, goff + j * 4 + 3, none⟩) hgbl).trans (hgcell 3 _ rfl)
                    rw [Nat.add_zero] at f0 g0
                    have hj0 : (0 : Int) ≤ (j : Int) := by omega
                    have hjn : (j : Int) < (sn' : Int) := by omega
                    have hjn2 : (j : Int) < (sn : Int) := by omega
                    clear hfcell hgcell hfx hgx hfs hgs
                    have hcs : ((f.id : Int) == (g.id : Int)) = false ∨ (((f.id : Int) == (g.id : Int)) = true ∧ (f.name.toList == g.name.toList) = false) ∨ (((f.id : Int) == (g.id : Int)) = true ∧ (f.name.toList == g.name.toList) = true ∧ ((f.kind : Int) == (g.kind : Int)) = false) ∨ (((f.id : Int) == (g.id : Int)) = true ∧ (f.name.toList == g.name.toList) = true ∧ ((f.kind : Int) == (g.kind : Int)) = true ∧ (f.need == g.need) = false) ∨ (((f.id : Int) == (g.id : Int)) = true ∧ (f.name.toList == g.name.toList) = true ∧ ((f.kind : Int) == (g.kind : Int)) = true ∧ (f.need == g.need) = true) := by
                      cases ((f.id : Int) == (g.id : Int)) <;> cases (f.name.toList == g.name.toList) <;> cases ((f.kind : Int) == (g.kind : Int)) <;> cases (f.need == g.need) <;> simp
                    rcases hcs with e1 | ⟨e1, e2⟩ | ⟨e1, e2, e3⟩ | ⟨e1, e2, e3, e4⟩ | ⟨e1, e2, e3, e4⟩
                    iterate 4
                      · go_wp2
                        go_quiet (fail)
                        go_wp2
                        go_ret
                        exact right_false (below_drewN (below_drewN (HBX.out.trans (HB3.out.mono (Nat.le_of_lt hwlt))) _) _)
                    · go_wp2
                      go_quiet (fail)
                      go_wp2
                      go_roundw
                      case rel => exact ⟨j + 1, _, by omega, by go_num, rfl⟩
                      case measure => simp [intOf] <;> omega
                  · go_wp2
                    go_roundw
                    case rel => exact ⟨kk + 1 + 1, by omega, by go_num, below_drewN HB3.out _⟩
                    case measure => simp [intOf] <;> omega
        · have hr0i : (r == 0) = false := by rw [beq_eq_false_iff_ne]; exact hr0
          have hr0n : (r != 0) = true := by rw [bne, hr0i]; rfl
          clear hr0
          go_wp2
          go_ret
          exact right_false (HBX.out.trans (HB2.out.mono (Nat.le_of_lt hwlt)))
      · obtain rfl : k = n := by omega
        go_wp2
        have hb2 : Below wr.heap.size wr (wr.alloc (.cells #[Value.int .u64 0, Value.int .u64 0, Value.int .u64 0, Value.int .u64 0, Value.int .u64 0, Value.int .u32 0, Value.slice none 0 0] 32)) := (Below.refl _ _).alloc (Nat.le_refl _) _
        have hc2 : ∀ (i : Nat) (v : Value), (#[Value.int .u64 0, Value.int .u64 0, Value.int .u64 0, Value.int .u64 0, Value.int .u64 0, Value.int .u32 0, Value.slice none 0 0] : Array Value)[i]? = some v → (wr.alloc (.cells #[Value.int .u64 0, Value.int .u64 0, Value.int .u64 0, Value.int .u64 0, Value.int .u64 0, Value.int .u32 0, Value.slice none 0 0] 32)).cell? ⟨wr.heap.size, i, none⟩ = some v := fun i v h => by rw [World.cell?_alloc_new]; exact h
        have hf2 : ∀ i, (wr.alloc (.cells #[Value.int .u64 0, Value.int .u64 0, Value.int .u64 0, Value.int .u64 0, Value.int .u64 0, Value.int .u32 0, Value.slice none 0 0] 32)).frozen? ⟨wr.heap.size, i, none⟩ = false := fun i => by simp
        have hz2 : wr.heap.size < (wr.alloc (.cells #[Value.int .u64 0, Value.int .u64 0, Value.int .u64 0, Value.int .u64 0, Value.int .u64 0, Value.int .u32 0, Value.slice none 0 0] 32)).heap.size := by simp
        generalize wr.alloc (.cells #[Value.int .u64 0, Value.int .u64 0, Value.int .u64 0, Value.int .u64 0, Value.int .u64 0, Value.int .u32 0, Value.slice none 0 0] 32) = W2 at *
        have HB2 := Lib.hid (HB.out.trans (hb2.mono HB.out.size))
        have hbk0 : W0.heap.size ≤ wr.heap.size := HB.out.size
        have HC2 := Lib.hid hc2
        have HF2 := Lib.hid hf2
        clear hb2 hc2 hf2 HB HBW y0 y1 y2
        generalize wr.heap.size = BLK at *
        clear wr
        go_loopw [8] (fun i wr => ∃ (k2 l0 l1 l2 l3 l4 l5 : Nat) (v6 : Value), k2 ≤ n' ∧ i = .int .i64 (k2 : Int) ∧ Below W0.heap.size W0 wr ∧ LastAt wr BLK l0 l1 l2 l3 l4 l5 v6 ∧ (∀ i, wr.frozen? ⟨BLK, i, none⟩ = false) ∧ BLK < wr.heap.size ∧ RisesUpto t.snaps k2 ∧ LastIs t.snaps k2 l0 l3) (fun i _ => n' - (intOf i).toNat)
        case atStart => exact ⟨0, 0, 0, 0, 0, 0, 0, _, Nat.zero_le _, rfl, HB2.out, HC2.out, HF2.out, hz2, (fun i x y h => by omega), (fun x h => by omega)⟩
        case round =>
          obtain ⟨k2, l0, l1, l2, l3, l4, l5, v6, hk2, rfl, hb, hla, hfz, hbk, hri, hli⟩ := hrel
          have HB := Lib.hid hb
          have HRI := Lib.hid hri
          have HLI := Lib.hid hli
          have HBXR := Lib.hid (HBX.out.trans (hb.mono (Nat.le_of_lt hwlt)))
          have y0 := (hb.cell (p := ⟨w.heap.size, 0, none⟩) hwlt).trans x0.out
          have y1 := (hb.cell (p := ⟨w.heap.size, 1, none⟩) hwlt).trans x1.out
          have y2 := (hb.cell (p := ⟨w.heap.size, 2, none⟩) hwlt).trans x2.out
          have hwrz : w.heap.size < wr.heap.size := Nat.lt_of_lt_of_le hwlt hb.size
          have q0 := hla 0 _ rfl
          have q1 := hla 1 _ rfl
          have q2 := hla 2 _ rfl
          have q3 := hla 3 _ rfl
          have q4 := hla 4 _ rfl
          have q5 := hla 5 _ rfl
          have q6 := hla 6 _ rfl
          clear hb hla hri hli
          by_cases hlt : k2 < n'
          · obtain ⟨b, off, s, cs, rfl, hbl, hx, hcl, hr, hcell⟩ := HP.out.at_ hlt
            obtain ⟨a2, n2, c2, hcs, hm1, hm2, hm3, hman, hbnd⟩ := hr
            subst hcs
            have d0 := (HBXR.out.cell (p := ⟨b, off + k2 * 7 + 0, none⟩) hbl).trans (hcell 0 _ rfl)
            have d1 := (HBXR.out.cell (p := ⟨b, off + k2 * 7 + 1, none⟩) hbl).trans (hcell 1 _ rfl)
            have d2 := (HBXR.out.cell (p := ⟨b, off + k2 * 7 + 2, none⟩) hbl).trans (hcell 2 _ rfl)
            have d3 := (HBXR.out.cell (p := ⟨b, off + k2 * 7 + 3, none⟩) hbl).trans (hcell 3 _ rfl)
            have d4 := (HBXR.out.cell (p := ⟨b, off + k2 * 7 + 4, none⟩) hbl).trans (hcell 4 _ rfl)
            have d5 := (HBXR.out.cell (p := ⟨b, off + k2 * 7 + 5, none⟩) hbl).trans (hcell 5 _ rfl)
            have d6 := (HBXR.out.cell (p := ⟨b, off + k2 * 7 + 6, none⟩) hbl).trans (hcell 6 _ rfl)
            rw [Nat.add_zero] at d0
            have hk0 : (0 : Int) ≤ (k2 : Int) := by omega
            have hkn : (k2 : Int) < (n' : Int) := by omega
            have HX := Lib.hid hx
            have HMANS := Lib.hid hman
            clear hcell hx hman hbnd hm3
            by_cases hc1 : s.id ≤ l0
            · have hq1 : (s.id : Int) ≤ (l0 : Int) := by omega
              clear hc1
              go_wp2
              go_ret
              exact right_false (HBX.out.trans ((HB.out.alloc HB.out.size _).mono (Nat.le_of_lt hwlt)))
            · have hq1 : (l0 : Int) < (s.id : Int) := by omega
              have hd1 : decide ((s.id : Int) ≤ (l0 : Int)) = false := by rw [decide_eq_false_iff_not]; omega
              have he1 : decide (s.id ≤ l0) = false := by rw [decide_eq_false_iff_not]; omega
              clear hc1
              by_cases hc2 : s.id ≤ s.parent
              · have hq2 : (s.id : Int) ≤ (s.parent : Int) := by omega
                clear hc2
                go_wp2
                go_ret
                exact right_false (HBX.out.trans ((HB.out.alloc HB.out.size _).mono (Nat.le_of_lt hwlt)))
              · have hq2 : (s.parent : Int) < (s.id : Int) := by omega
                have hd2 : decide ((s.id : Int) ≤ (s.parent : Int)) = false := by rw [decide_eq_false_iff_not]; omega
                have he2 : decide (s.id ≤ s.parent) = false := by rw [decide_eq_false_iff_not]; omega
                clear hc2
                by_cases hc3 : 1073741824 < s.id
                · have hq3 : (1073741824 : Int) < (s.id : Int) := by omega
                  clear hc3
                  go_wp2
                  go_ret
                  exact right_false (HBX.out.trans ((HB.out.alloc HB.out.size _).mono (Nat.le_of_lt hwlt)))
                · have hq3 : (s.id : Int) ≤ (1073741824 : Int) := by omega
                  have hd3 : decide ((1073741824 : Int) < (s.id : Int)) = false := by rw [decide_eq_false_iff_not]; omega
                  have he3 : decide (1073741824 < s.id) = false := by rw [decide_eq_false_iff_not]; omega
                  clear hc3
                  by_cases hc4 : 1073741824 < s.seq
                  · have hq4 : (1073741824 : Int) < (s.seq : Int) := by omega
                    clear hc4
                    go_wp2
                    go_ret
                    exact right_false (HBX.out.trans ((HB.out.alloc HB.out.size _).mono (Nat.le_of_lt hwlt)))
                  · have hq4 : (s.seq : Int) ≤ (1073741824 : Int) := by omega
                    have hd4 : decide ((1073741824 : Int) < (s.seq : Int)) = false := by rw [decide_eq_false_iff_not]; omega
                    have he4 : decide (1073741824 < s.seq) = false := by rw [decide_eq_false_iff_not]; omega
                    clear hc4
                    by_cases hc5 : 1073741824 < s.offset
                    · have hq5 : (1073741824 : Int) < (s.offset : Int) := by omega
                      clear hc5
                      go_wp2
                      go_ret
                      exact right_false (HBX.out.trans ((HB.out.alloc HB.out.size _).mono (Nat.le_of_lt hwlt)))
                    · have hq5 : (s.offset : Int) ≤ (1073741824 : Int) := by omega
                      have hd5 : decide ((1073741824 : Int) < (s.offset : Int)) = false := by rw [decide_eq_false_iff_not]; omega
                      have he5 : decide (1073741824 < s.offset) = false := by rw [decide_eq_false_iff_not]; omega
                      clear hc5
                      by_cases hc6 : 1073741824 < s.time
                      · have hq6 : (1073741824 : Int) < (s.time : Int) := by omega
                        clear hc6
                        go_wp2
                        go_ret
                        exact right_false (HBX.out.trans ((HB.out.alloc HB.out.size _).mono (Nat.le_of_lt hwlt)))
                      · have hq6 : (s.time : Int) ≤ (1073741824 : Int) := by omega
                        have hd6 : decide ((1073741824 : Int) < (s.time : Int)) = false := by rw [decide_eq_false_iff_not]; omega
                        have he6 : decide (1073741824 < s.time) = false := by rw [decide_eq_false_iff_not]; omega
                        clear hc6
                        by_cases hc7 : s.seq < l2
                        · have hq7 : (s.seq : Int) < (l2 : Int) := by omega
                          clear hc7
                          go_wp2
                          go_ret
                          exact right_false (HBX.out.trans ((HB.out.alloc HB.out.size _).mono (Nat.le_of_lt hwlt)))
                        · have hq7 : (l2 : Int) ≤ (s.seq : Int) := by omega
                          have hd7 : decide ((s.seq : Int) < (l2 : Int)) = false := by rw [decide_eq_false_iff_not]; omega
                          have he7 : decide (s.seq < l2) = false := by rw [decide_eq_false_iff_not]; omega
                          clear hc7
                          by_cases hc8 : s.offset < l3
                          · have hq8 : (s.offset : Int) < (l3 : Int) := by omega
                            clear hc8
                            go_wp2
                            go_ret
                            exact right_false (HBX.out.trans ((HB.out.alloc HB.out.size _).mono (Nat.le_of_lt hwlt)))
                          · have hq8 : (l3 : Int) ≤ (s.offset : Int) := by omega
                            have hd8 : decide ((s.offset : Int) < (l3 : Int)) = false := by rw [decide_eq_false_iff_not]; omega
                            have he8 : decide (s.offset < l3) = false := by rw [decide_eq_false_iff_not]; omega
                            clear hc8
                            by_cases hc9 : s.time < l4
                            · have hq9 : (s.time : Int) < (l4 : Int) := by omega
                              clear hc9
                              go_wp2
                              go_ret
                              exact right_false (HBX.out.trans ((HB.out.alloc HB.out.size _).mono (Nat.le_of_lt hwlt)))
                            · have hq9 : (l4 : Int) ≤ (s.time : Int) := by omega
                              have hd9 : decide ((s.time : Int) < (l4 : Int)) = false := by rw [decide_eq_false_iff_not]; omega
                              have he9 : decide (s.time < l4) = false := by rw [decide_eq_false_iff_not]; omega
                              clear hc9
                              by_cases hc10 : s.schema < l5
                              · have hq10 : (s.schema : Int) < (l5 : Int) := by omega
                                clear hc10
                                go_wp2
                                go_ret
                                exact right_false (HBX.out.trans ((HB.out.alloc HB.out.size _).mono (Nat.le_of_lt hwlt)))
                              · have hq10 : (l5 : Int) ≤ (s.schema : Int) := by omega
                                have hd10 : decide ((s.schema : Int) < (l5 : Int)) = false := by rw [decide_eq_false_iff_not]; omega
                                have he10 : decide (s.schema < l5) = false := by rw [decide_eq_false_iff_not]; omega
                                clear hc10
                                go_wp2_with fail
                                have hb3 : Below wr.heap.size wr (wr.alloc (.cells #[Value.int .u64 s.id, Value.int .u64 s.parent, Value.int .u64 s.seq, Value.int .u64 s.offset, Value.int .u64 s.time, Value.int .u32 s.schema, Value.slice a2 n2 c2] 32)) := (Below.refl _ _).alloc (Nat.le_refl _) _
                                have hc3 : ∀ (i : Nat) (v : Value), (#[Value.int .u64 s.id, Value.int .u64 s.parent, Value.int .u64 s.seq, Value.int .u64 s.offset, Value.int .u64 s.time, Value.int .u32 s.schema, Value.slice a2 n2 c2] : Array Value)[i]? = some v → (wr.alloc (.cells #[Value.int .u64 s.id, Value.int .u64 s.parent, Value.int .u64 s.seq, Value.int .u64 s.offset, Value.int .u64 s.time, Value.int .u32 s.schema, Value.slice a2 n2 c2] 32)).cell? ⟨wr.heap.size, i, none⟩ = some v := fun i v h => by rw [World.cell?_alloc_new]; exact h
                                have hz3 : wr.heap.size < (wr.alloc (.cells #[Value.int .u64 s.id, Value.int .u64 s.parent, Value.int .u64 s.seq, Value.int .u64 s.offset, Value.int .u64 s.time, Value.int .u32 s.schema, Value.slice a2 n2 c2] 32)).heap.size := by simp
                                generalize wr.alloc (.cells #[Value.int .u64 s.id, Value.int .u64 s.parent, Value.int .u64 s.seq, Value.int .u64 s.offset, Value.int .u64 s.time, Value.int .u32 s.schema, Value.slice a2 n2 c2] 32) = W3 at *
                                refine (shape14 _ t s.schema W3 (TableR.stable _ _ _ _ (HBXR.out.trans (hb3.mono HBXR.out.size)) HTAB.out) (by have := HLEN.out; omega)).mono ?_
                                rintro e w4 ⟨r, rfl, hb4⟩
                                have hb34 := hb3.trans (hb4.mono hb3.size)
                                have z0 := (hb4.cell (p := ⟨wr.heap.size, 0, none⟩) hz3).trans (hc3 0 _ rfl)
                                have z1 := (hb4.cell (p := ⟨wr.heap.size, 1, none⟩) hz3).trans (hc3 1 _ rfl)
                                have z2 := (hb4.cell (p := ⟨wr.heap.size, 2, none⟩) hz3).trans (hc3 2 _ rfl)
                                have z3 := (hb4.cell (p := ⟨wr.heap.size, 3, none⟩) hz3).trans (hc3 3 _ rfl)
                                have z4 := (hb4.cell (p := ⟨wr.heap.size, 4, none⟩) hz3).trans (hc3 4 _ rfl)
                                have z5 := (hb4.cell (p := ⟨wr.heap.size, 5, none⟩) hz3).trans (hc3 5 _ rfl)
                                have z6 := (hb4.cell (p := ⟨wr.heap.size, 6, none⟩) hz3).trans (hc3 6 _ rfl)
                                have g0 := (hb34.cell (p := ⟨BLK, 0, none⟩) hbk).trans q0
                                have g1 := (hb34.cell (p := ⟨BLK, 1, none⟩) hbk).trans q1
                                have g2 := (hb34.cell (p := ⟨BLK, 2, none⟩) hbk).trans q2
                                have g3 := (hb34.cell (p := ⟨BLK, 3, none⟩) hbk).trans q3
                                have g4 := (hb34.cell (p := ⟨BLK, 4, none⟩) hbk).trans q4
                                have g5 := (hb34.cell (p := ⟨BLK, 5, none⟩) hbk).trans q5
                                have g6 := (hb34.cell (p := ⟨BLK, 6, none⟩) hbk).trans q6
                                have gz : ∀ i, w4.frozen? ⟨BLK, i, none⟩ = false := fun i => (hb34.frozen (p := ⟨BLK, i, none⟩) hbk).trans (hfz i)
                                have HB4 := Lib.hid (HB.out.trans (hb34.mono HB.out.size))
                                have HBXR4 := Lib.hid (HBXR.out.trans (hb34.mono HBXR.out.size))
                                have hbk4 : BLK < w4.heap.size := Nat.lt_of_lt_of_le hbk hb34.size
                                clear hb3 hc3 hz3 hb4 hb34 q0 q1 q2 q3 q4 q5 q6 y0 y1 y2 hfz
                                by_cases hr : r < 0
                                · go_wp2
                                  go_ret
                                  exact right_false HBXR4.out
                                · have hr' : (0 : Int) ≤ r := by omega
                                  have hrd : decide (r < 0) = false := by rw [decide_eq_false_iff_not]; omega
                                  clear hr
                                  by_cases hm : 8 < n2
                                  · have hmi : (8 : Int) < (n2 : Int) := by omega
                                    clear hm
                                    go_wp2
                                    go_ret
                                    exact right_false HBXR4.out
                                  · have hmi : (n2 : Int) ≤ 8 := by omega
                                    have hmd : decide ((8 : Int) < (n2 : Int)) = false := by rw [decide_eq_false_iff_not]; omega
                                    have hmn : n2 ≤ 8 := by omega
                                    clear hm
                                    go_wp2
                                    go_loopw [10] (fun i wr => ∃ (j q : Nat), j ≤ n2 ∧ i = .int .i64 (j : Int) ∧ wr = w4.drewN q) (fun i _ => n2 - (intOf i).toNat)
                                    case atStart => exact ⟨0, 0, Nat.zero_le _, rfl, rfl⟩
                                    case round =>
                                      obtain ⟨j, q, hj, rfl, rfl⟩ := hrel
                                      by_cases hjl : j < n2
                                      · obtain ⟨mb, moff, m, mv, rfl, hmbl, hmx, hmr, hmcell⟩ := HMANS.out.at1 hjl
                                        obtain ⟨hmv, hms⟩ := hmr
                                        cases hmv
                                        have m0 := (HBXR4.out.cell (p := ⟨mb, moff + j, none⟩) hmbl).trans hmcell
                                        have hj0 : (0 : Int) ≤ (j : Int) := by omega
                                        have hjn : (j : Int) < (n2 : Int) := by omega
                                        have HM := Lib.hid (named12 m (w4.drewN q) hms)
                                        clear hmcell hmx hms
                                        go_wp2_with fail
                                        refine HM.out.mono ?_
                                        rintro e w5 ⟨nb, rfl, rfl⟩
                                        cases nb
                                        · go_wp2
                                          go_ret
                                          exact right_false (below_drewN HBXR4.out _)
                                        · go_wp2
                                          go_loopw [11] (fun i wr => ∃ (j2 q2 : Nat), j2 ≤ j ∧ i = .int .i64 (j2 : Int) ∧ wr = w4.drewN q2) (fun i _ => j - (intOf i).toNat)
                                          case atStart => exact ⟨0, q, Nat.zero_le _, rfl, rfl⟩
                                          case round =>
                                            obtain ⟨j2, q2, hj2, rfl, rfl⟩ := hrel
                                            by_cases hjl2 : j2 < j
                                            · obtain ⟨mb2, moff2, m2, mv2, he2, hmbl2, hmx2, hmr2, hmcell2⟩ := HMANS.out.at1 (i := j2) (by omega)
                                              cases he2
                                              obtain ⟨hmv2, hms2⟩ := hmr2
                                              cases hmv2
                                              have m02 := (HBXR4.out.cell (p := ⟨mb, moff + j2, none⟩) hmbl).trans hmcell2
                                              have hj20 : (0 : Int) ≤ (j2 : Int) := by omega
                                              have hj2n : (j2 : Int) < (n2 : Int) := by omega
                                              have hj2j : (j2 : Int) < (j : Int) := by omega
                                              clear hmcell2 hmx2 hms2
                                              cases heq : (m2.toList == m.toList)
                                              · go_wp2
                                                go_quiet (fail)
                                                go_wp2
                                                go_roundw
                                                case rel => exact ⟨j2 + 1, _, by omega, by go_num, rfl⟩
                                                case measure => simp [intOf] <;> omega
                                              · go_wp2
                                                go_quiet (fail)
                                                go_wp2
                                                go_ret
                                                exact right_false (below_drewN (below_drewN HBXR4.out _) _)
                                            · obtain rfl : j2 = j := by omega
                                              go_wp2
                                              go_roundw
                                              case rel => exact ⟨j2 + 1, _, by omega, by go_num, rfl⟩
                                              case measure => simp [intOf] <;> omega
                                      · go_wp2
                                        go_roundw
                                        case rel =>
                                          have hb5 := below_set7 HB4.out hbk0 q (.int .u64 (s.id : Int)) (.int .u64 (s.parent : Int)) (.int .u64 (s.seq : Int)) (.int .u64 (s.offset : Int)) (.int .u64 (s.time : Int)) (.int .u32 (s.schema : Int)) (.slice a2 n2 c2)
                                          refine ⟨k2 + 1, s.id, s.parent, s.seq, s.offset, s.time, s.schema, .slice a2 n2 c2, by omega, by go_num, hb5, set7 (w := w4.drewN q) g0 g1 g2 g3 g4 g5 g6 _ _ _ _ _ _ _, (fun i => by simp [gz i]), by simpa using hbk4, rises_next HRI.out HLI.out HX.out (by omega) (by omega), last_next HX.out⟩
                                        case measure => simp [intOf] <;> omega
          · go_wp2
            go_ret
            obtain rfl : k2 = n' := by omega
            refine ⟨_, rfl, fun _ => ?_, HBXR.out⟩
            have := HRI.out
            rwa [← HLENP.out] at this
end Go.Proofs.Ytlcolgibabibdaa
