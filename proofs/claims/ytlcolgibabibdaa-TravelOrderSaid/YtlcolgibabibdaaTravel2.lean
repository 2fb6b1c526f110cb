/- The contracts of travel.At and When, and of what they call. -/
import Derived.Test.YtlcolgibabibdaaTravel1
import Derived.Test.YtlcolgibabibdaaTravelPlain
namespace Go.Proofs.Ytlcolgibabibdaa
open Go.RowKit Go.Deep
set_option linter.unusedVariables false

def SelPost (n : Nat) (w : World) (e : Ending) (w' : World) : Prop := e = .returned (.int .u64 (n : Int)) ∧ Below w.heap.size w w'
theorem at1 (cs : List Value) (s : SnapD) (w : World) (h : SnapR w cs s) : Calls Try.prog 22 #[.agg cs.toArray] w (SelPost s.offset w) := by
  obtain ⟨a, n, c, rfl, h1, h2, h3, hs, _⟩ := h
  go_enter Try.func22, Try.ntmps22
  go_wp2
  go_ret
  exact ⟨rfl, (Below.refl _ _).alloc (Nat.le_refl _) _⟩
theorem when1 (cs : List Value) (s : SnapD) (w : World) (h : SnapR w cs s) : Calls Try.prog 23 #[.agg cs.toArray] w (SelPost s.time w) := by
  obtain ⟨a, n, c, rfl, h1, h2, h3, hs, _⟩ := h
  go_enter Try.func23, Try.ntmps23
  go_wp2
  go_ret
  exact ⟨rfl, (Below.refl _ _).alloc (Nat.le_refl _) _⟩

/-- What the search leaves: the snapshot at a place, its list new; or the zero one. -/
def FoundPost (sel : SnapD → Nat) (most : Nat) (xs : List SnapD) (w : World) (e : Ending) (w' : World) : Prop :=
  Below w.heap.size w w' ∧
  ((Best sel most xs xs.length (-1) ∧ e = .returned (.tuple #[.agg #[.int .u64 0, .int .u64 0, .int .u64 0, .int .u64 0, .int .u64 0, .int .u32 0, .slice none 0 0], .int .i64 2])) ∨
   ∃ (m : Nat) (s : SnapD) (v : Value), Best sel most xs xs.length (m : Int) ∧ xs[m]? = some s ∧ w'.ownsRow w.heap.size 9 1 v s.mans.length (strsV s.mans) ∧
    e = .returned (.tuple #[.agg #[.int .u64 s.id, .int .u64 s.parent, .int .u64 s.seq, .int .u64 s.offset, .int .u64 s.time, .int .u32 s.schema, v], .int .i64 0]))

set_option maxRecDepth 100000 in
set_option maxHeartbeats 1000000 in
theorem greatest_any (f : FuncId) (sel : SnapD → Nat) (hcf : ∀ (args : Array Value) (W : World), (callFunc f args).run Try.prog W = .ok (.enter f args) W) (hf : ∀ (cs : List Value) (s : SnapD) (w : World), SnapR w cs s → Calls Try.prog f #[.agg cs.toArray] w (SelPost (sel s) w))
    (a : Option Addr) (n c : Nat) (xs : List SnapD) (most : Nat) (w : World) (h : Sl 7 SnapR w a n xs) (hn : n ≤ 100) (hfine : ∀ s ∈ xs, SnapFine s) :
    Calls Try.prog 21 #[.slice a n c, .int .u64 (most : Int), .func (.func f) #[] #[]] w (FoundPost sel most xs w) := by
  have HS := Lib.hid h
  have HF := Lib.hid hf
  clear h hf
  go_enter Try.func21, Try.ntmps21
  go_wp2
  generalize hres : Obj.cells #[Value.int IntKind.u64 0, Value.int IntKind.u64 0, Value.int IntKind.u64 0, Value.int IntKind.u64 0, Value.int IntKind.u64 0, Value.int IntKind.u32 0, Value.slice none 0 0] 32 = res
  have hba : Below w.heap.size w (w.alloc res) := (Below.refl _ _).alloc (Nat.le_refl _) _
  have BA := Lib.hid hba
  have HRES := Lib.hid hres
  have hsz : (w.alloc res).heap.size = w.heap.size + 1 := by simp
  have WZ := Lib.hid hsz
  clear hba hres hsz
  go_loopw [8, 14] (fun r i wr => ∃ (k : Nat) (q : Int), k ≤ n ∧ i = .int .i64 k ∧ r = .int .i64 q ∧ Best sel most xs k q ∧ Below (w.heap.size + 1) (w.alloc res) wr) (fun _ i _ => n - (intOf i).toNat)
  case atStart => exact ⟨0, -1, Nat.zero_le _, rfl, rfl, Best.start, Below.refl _ _⟩
  case round =>
    obtain ⟨k, q, hk, rfl, rfl, hbest, hb⟩ := hrel
    have HBE := Lib.hid hbest
    have HB := Lib.hid hb
    have HB0 := Lib.hid (BA.out.trans (hb.mono (Nat.le_succ _)))
    have hq := hbest.range
    have hwz : w.heap.size + 1 ≤ wr.heap.size := by have := hb.size; rw [WZ.out] at this; exact this
    clear hbest hb
    by_cases hlt : k < n
    · obtain ⟨b, off, s, cs, rfl, hbl, hx, hcl, hr, hcell⟩ := HS.out.at_ hlt
      obtain ⟨a2, n2, c2, rfl, hr2⟩ := hr
      have d0 := (HB0.out.cell (p := ⟨b, off + k * 7 + 0, none⟩) hbl).trans (hcell 0 _ rfl)
      have d1 := (HB0.out.cell (p := ⟨b, off + k * 7 + 1, none⟩) hbl).trans (hcell 1 _ rfl)
      have d2 := (HB0.out.cell (p := ⟨b, off + k * 7 + 2, none⟩) hbl).trans (hcell 2 _ rfl)
      have d3 := (HB0.out.cell (p := ⟨b, off + k * 7 + 3, none⟩) hbl).trans (hcell 3 _ rfl)
      have d4 := (HB0.out.cell (p := ⟨b, off + k * 7 + 4, none⟩) hbl).trans (hcell 4 _ rfl)
      have d5 := (HB0.out.cell (p := ⟨b, off + k * 7 + 5, none⟩) hbl).trans (hcell 5 _ rfl)
      have d6 := (HB0.out.cell (p := ⟨b, off + k * 7 + 6, none⟩) hbl).trans (hcell 6 _ rfl)
      rw [Nat.add_zero] at d0
      have SR := Lib.hid (SnapR.stable _ _ _ _ HB0.out ⟨a2, n2, c2, rfl, hr2⟩)
      clear hcell hr2
      go_wp2_with fail
      refine (HF.out _ s _ (SnapR.stable _ _ _ _ ((Below.refl _ _).alloc (Nat.le_refl _) _) SR.out)).mono ?_
      rintro e w1 ⟨rfl, hb1⟩
      have HB1 := Lib.hid (HB.out.trans ((((Below.refl _ wr).alloc (Nat.le_refl _) _).trans (hb1.mono (by simp))).mono hwz))
      have HB2 := Lib.hid (BA.out.trans (HB1.out.mono (Nat.le_succ _)))
      clear hb1
      generalize hsx : sel s = sx at *
      have HSX := Lib.hid hsx
      clear hsx d0 d1 d2 d3 d4 d5 d6
      by_cases hle : sx ≤ most
      · by_cases hq0 : q < 0
        · obtain rfl : q = -1 := by omega
          go_wp2
          go_roundw
          case rel => exact ⟨k + 1, k, by omega, by go_num, rfl, HBE.out.first hx (by rw [HSX.out]; exact hle), HB1.out⟩
          case measure => simp [intOf] <;> omega
        · obtain ⟨m, rfl⟩ : ∃ m : Nat, q = (m : Int) := ⟨q.toNat, by omega⟩
          obtain ⟨b', off', y, cs', he, hbl', hy, hcl', hr', hcell'⟩ := HS.out.at_ (i := m) (by omega)
          cases he
          obtain ⟨a3, n3, c3, rfl, hr3⟩ := hr'
          have e0 := (HB2.out.cell (p := ⟨b, off + m * 7 + 0, none⟩) hbl).trans (hcell' 0 _ rfl)
          have e1 := (HB2.out.cell (p := ⟨b, off + m * 7 + 1, none⟩) hbl).trans (hcell' 1 _ rfl)
          have e2 := (HB2.out.cell (p := ⟨b, off + m * 7 + 2, none⟩) hbl).trans (hcell' 2 _ rfl)
          have e3 := (HB2.out.cell (p := ⟨b, off + m * 7 + 3, none⟩) hbl).trans (hcell' 3 _ rfl)
          have e4 := (HB2.out.cell (p := ⟨b, off + m * 7 + 4, none⟩) hbl).trans (hcell' 4 _ rfl)
          have e5 := (HB2.out.cell (p := ⟨b, off + m * 7 + 5, none⟩) hbl).trans (hcell' 5 _ rfl)
          have e6 := (HB2.out.cell (p := ⟨b, off + m * 7 + 6, none⟩) hbl).trans (hcell' 6 _ rfl)
          rw [Nat.add_zero] at e0
          have SY := Lib.hid (SnapR.stable _ _ _ _ HB2.out ⟨a3, n3, c3, rfl, hr3⟩)
          have hm0 : (0 : Int) ≤ (m : Int) := by omega
          have hmn : (m : Int) < (n : Int) := by omega
          clear hcell' hr3
          go_wp2_with fail
          refine (HF.out _ y _ SY.out).mono ?_
          rintro e w2 ⟨rfl, hb2⟩
          have HB3 := Lib.hid (HB1.out.trans (hb2.mono (by have := HB1.out.size; rw [WZ.out] at this; exact this)))
          clear hb2 e0 e1 e2 e3 e4 e5 e6
          generalize hsy : sel y = sy at *
          have HSY := Lib.hid hsy
          clear hsy
          by_cases hge : sy ≤ sx
          · go_wp2
            go_roundw
            case rel => exact ⟨k + 1, k, by omega, by go_num, rfl, HBE.out.better hy hx (by rw [HSX.out]; exact hle) (by rw [HSX.out, HSY.out]; exact hge), HB3.out⟩
            case measure => simp [intOf] <;> omega
          · go_wp2
            go_roundw
            case rel => exact ⟨k + 1, m, by omega, by go_num, rfl, HBE.out.worse hy hx (by rw [HSX.out, HSY.out]; omega), HB3.out⟩
            case measure => simp [intOf] <;> omega
      · go_wp2
        go_roundw
        case rel => exact ⟨k + 1, q, by omega, by go_num, rfl, HBE.out.skip hx (by rw [HSX.out]; omega), HB1.out⟩
        case measure => simp [intOf] <;> omega
    · have hkn : k = n := by omega
      subst hkn
      have rr : ∀ i v, (#[Value.int IntKind.u64 0, Value.int IntKind.u64 0, Value.int IntKind.u64 0, Value.int IntKind.u64 0, Value.int IntKind.u64 0, Value.int IntKind.u32 0, Value.slice none 0 0] : Array Value)[i]? = some v → wr.cell? ⟨w.heap.size, i, none⟩ = some v := fun i v hv =>
        (HB.out.cell (p := ⟨w.heap.size, i, none⟩) (Nat.lt_succ_self _)).trans (by rw [← HRES.out, World.cell?_alloc_new]; exact hv)
      have r0 := rr 0 _ rfl
      have r1 := rr 1 _ rfl
      have r2 := rr 2 _ rfl
      have r3 := rr 3 _ rfl
      have r4 := rr 4 _ rfl
      have r5 := rr 5 _ rfl
      have r6 := rr 6 _ rfl
      have fr : ∀ i, wr.frozen? ⟨w.heap.size, i, none⟩ = false := fun i => (HB.out.frozen (p := ⟨w.heap.size, i, none⟩) (Nat.lt_succ_self _)).trans (by rw [← HRES.out]; simp)
      have HLEN := Lib.hid HS.out.1
      clear rr
      by_cases hq0 : q < 0
      · obtain rfl : q = -1 := by omega
        go_wp2
        refine bodyPost_ret (v := .tuple #[.agg #[Value.int IntKind.u64 0, Value.int IntKind.u64 0, Value.int IntKind.u64 0, Value.int IntKind.u64 0, Value.int IntKind.u64 0, Value.int IntKind.u32 0, Value.slice none 0 0], .int .i64 2]) (by simp [results, Try.results21, go_sem, r0, r1, r2, r3, r4, r5, r6]) rfl ?_
        refine ⟨?_, .inl ⟨by rw [HLEN.out]; exact HBE.out, rfl⟩⟩
        repeat (refine Below.setCell ?_ (by first | (simp; done) | (simp; omega)) _)
        exact HB0.out
      · obtain ⟨m, rfl⟩ : ∃ m : Nat, q = (m : Int) := ⟨q.toNat, by omega⟩
        obtain ⟨b, off, y, cs', rfl, hbl, hy, hcl', hr', hcell'⟩ := HS.out.at_ (i := m) (by omega)
        obtain ⟨a3, n3, c3, rfl, hr3⟩ := hr'
        have e0 := (HB0.out.cell (p := ⟨b, off + m * 7 + 0, none⟩) hbl).trans (hcell' 0 _ rfl)
        have e1 := (HB0.out.cell (p := ⟨b, off + m * 7 + 1, none⟩) hbl).trans (hcell' 1 _ rfl)
        have e2 := (HB0.out.cell (p := ⟨b, off + m * 7 + 2, none⟩) hbl).trans (hcell' 2 _ rfl)
        have e3 := (HB0.out.cell (p := ⟨b, off + m * 7 + 3, none⟩) hbl).trans (hcell' 3 _ rfl)
        have e4 := (HB0.out.cell (p := ⟨b, off + m * 7 + 4, none⟩) hbl).trans (hcell' 4 _ rfl)
        have e5 := (HB0.out.cell (p := ⟨b, off + m * 7 + 5, none⟩) hbl).trans (hcell' 5 _ rfl)
        have e6 := (HB0.out.cell (p := ⟨b, off + m * 7 + 6, none⟩) hbl).trans (hcell' 6 _ rfl)
        rw [Nat.add_zero] at e0
        have SY := Lib.hid (SnapR.stable _ _ _ _ HB0.out ⟨a3, n3, c3, rfl, hr3⟩)
        have hm0 : (0 : Int) ≤ (m : Int) := by omega
        have hmn : (m : Int) < (k : Int) := by omega
        clear hcell' hr3
        go_wp2_with fail
        refine (own_calls _ y _ SY.out (Nat.le_trans (hfine y (List.mem_of_getElem? hy)).1 (by decide))).mono ?_
        rintro e w1 ⟨v, rfl, hown, hb3⟩
        obtain ⟨ad, cv, rfl, _⟩ := own_slice hown
        have HO := Lib.hid (ownsRow_le hown hwz)
        have HB3 := Lib.hid (HB0.out.trans (hb3.mono (by omega)))
        have x0 := (hb3.cell (p := ⟨w.heap.size, 0, none⟩) hwz).trans r0
        have x1 := (hb3.cell (p := ⟨w.heap.size, 1, none⟩) hwz).trans r1
        have x2 := (hb3.cell (p := ⟨w.heap.size, 2, none⟩) hwz).trans r2
        have x3 := (hb3.cell (p := ⟨w.heap.size, 3, none⟩) hwz).trans r3
        have x4 := (hb3.cell (p := ⟨w.heap.size, 4, none⟩) hwz).trans r4
        have x5 := (hb3.cell (p := ⟨w.heap.size, 5, none⟩) hwz).trans r5
        have x6 := (hb3.cell (p := ⟨w.heap.size, 6, none⟩) hwz).trans r6
        have fx : ∀ i, w1.frozen? ⟨w.heap.size, i, none⟩ = false := fun i => (hb3.frozen (p := ⟨w.heap.size, i, none⟩) hwz).trans (fr i)
        have hz : w.heap.size < w1.heap.size := by have := hb3.size; omega
        clear hown hb3 r0 r1 r2 r3 r4 r5 r6 fr e0 e1 e2 e3 e4 e5 e6
        go_wp2
        refine bodyPost_ret (v := .tuple #[.agg #[.int .u64 y.id, .int .u64 y.parent, .int .u64 y.seq, .int .u64 y.offset, .int .u64 y.time, .int .u32 y.schema, .slice ad y.mans.length cv], .int .i64 0]) (by simp [results, Try.results21, go_sem, x0, x1, x2, x3, x4, x5, x6]) rfl ?_
        refine ⟨?_, .inr ⟨m, y, _, by rw [HLEN.out]; exact HBE.out, hy, ?_, rfl⟩⟩
        · repeat (refine Below.setCell ?_ (by first | (simp; done) | (simp; omega)) _)
          exact HB3.out
        · refine ownsRow_le (base := w.heap.size + 1) ?_ (by omega)
          repeat (refine ownsRow_setCell_below ?_ (by first | (simp; done) | (simp; omega)) _)
          exact HO.out
end Go.Proofs.Ytlcolgibabibdaa
