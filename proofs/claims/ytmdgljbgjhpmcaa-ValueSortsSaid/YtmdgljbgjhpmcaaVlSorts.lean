/- value: ValueSorts. -/
import Derived.Test.YtmdgljbgjhpmcaaVlCmpm
import Derived.Test.YtmdgljbgjhpmcaaVlOrder
import Derived.Test.YtmdgljbgjhpmcaaVlBase
namespace Go.Proofs.Ytmdgljbgjhpmcaa
open Go.RowKit Go.Deep
set_option linter.unusedVariables false
set_option linter.unusedSimpArgs false

/-- A row of the call's own of values: what stands where. -/
theorem own_val_at {w : World} {B e n : Nat} {v : Value} {xs : List CellD} (h : w.ownsRow B e 1 v n (valsV xs)) (hpos : 0 < n) : ∃ g c, v = .slice (some ⟨g, 0, none⟩) n c ∧ g < w.heap.size ∧ ∀ k x, xs[k]? = some x → w.cell? ⟨g, k, none⟩ = some (goodVal x).val := by
  have hl : xs.length = n := by have := h.1; rw [valsV_len] at this; omega
  rcases h.2 with ⟨_, h0⟩ | ⟨g, cap, cur, rfl, hg, hgg, _⟩
  · omega
  · refine ⟨g, cap, rfl, (Array.getElem?_eq_some_iff.1 hgg).1, fun k x hx => ?_⟩
    have hk : k < n := by
      rcases Nat.lt_or_ge k n with h1 | h1
      · exact h1
      · rw [List.getElem?_eq_none (by omega)] at hx; cases hx
    have := h.cellAt k (by omega)
    unfold valsV at this
    rw [this, List.getElem?_map, hx]
    rfl
def NoneBefore (xs : List CellD) (d : ValD) : Prop := ∀ c ∈ xs, ¬ LessC (goodVal c).cell d.cell
theorem noneBefore_snoc {xs : List CellD} {d : ValD} {k : Nat} {c : CellD} (h : NoneBefore (xs.take k) d) (hc : xs[k]? = some c) (hn : ¬ LessC (goodVal c).cell d.cell) : NoneBefore (xs.take (k + 1)) d := by
  intro x hx
  rw [List.take_add_one, hc, List.mem_append] at hx
  rcases hx with hx | hx
  · exact h x hx
  · simp at hx; subst hx; exact hn
theorem noneBefore_less {xs : List CellD} {d : ValD} {k : Nat} {c : CellD} (h : NoneBefore (xs.take k) d) (hc : xs[k]? = some c) (hn : LessC (goodVal c).cell d.cell) : NoneBefore (xs.take (k + 1)) (goodVal c) := by
  intro x hx
  rw [List.take_add_one, hc, List.mem_append] at hx
  rcases hx with hx | hx
  · exact fun h2 => h x hx (h2.trans hn)
  · simp at hx; subst hx; exact LessC.irrefl _
set_option maxRecDepth 100000 in
set_option maxHeartbeats 8000000 in
theorem valueSorts (a : Option Addr) (n c : Nat) (xs : List CellD) (w : World) (h : Sl 3 CellR w a n xs) :
    Calls Try.prog 7 #[.slice a n c] w (TruthPost w) := by
  have HALIVE := Lib.hid alive_calls
  have HLEN := Lib.hid h.1
  have HC := Lib.hid compare_calls
  have HVC := Lib.hid valueCell
  by_cases hn0 : n = 0
  · subst hn0
    go_enter Try.func7, Try.ntmps7
    go_wp2_with fail
    refine (HALIVE.out _).mono ?_
    rintro e w1 ⟨rfl, hb1⟩
    go_wp2
    go_ret
    exact ⟨rfl, hb1⟩
  · by_cases hn60 : 60 < n
    · go_enter Try.func7, Try.ntmps7
      go_wp2_with fail
      refine (HALIVE.out _).mono ?_
      rintro e w1 ⟨rfl, hb1⟩
      go_wp2
      go_ret
      exact ⟨rfl, hb1⟩
    · have HROW := Lib.hid (fun w1 (hb : Below w.heap.size w w1) => row_calls a n c xs w1 (h.below CellR.stable hb) (by omega))
      have hpos : 0 < n := by omega
      have hle : n ≤ 60 := by omega
      have hd60 : decide ((60 : Int) < (n : Int)) = false := by rw [decide_eq_false_iff_not]; omega
      have hb00 : ((n : Int) == 0) = false := by rw [beq_eq_false_iff_ne]; omega
      have HS := Lib.hid h
      clear h
      go_enter Try.func7, Try.ntmps7
      go_wp2_with fail
      refine (HALIVE.out _).mono ?_
      rintro e w1 ⟨rfl, hb1⟩
      have HB1 := Lib.hid hb1
      clear hb1
      go_wp2_with fail
      refine (HROW.out _ HB1.out).mono ?_
      rintro e w2 ⟨v, rfl, hown, hb2⟩
      obtain ⟨g, cap, rfl, hg, hcell⟩ := own_val_at hown hpos
      have HB2 := Lib.hid (HB1.out.trans (hb2.mono HB1.out.size))
      have HCELL := Lib.hid hcell
      clear hown hb2 HB1 HROW
      obtain ⟨c0, hc0⟩ : ∃ c0, xs[0]? = some c0 := ⟨_, List.getElem?_eq_getElem (by have := HLEN.out; omega)⟩
      have z0 := hcell 0 c0 hc0
      have hnb0 : NoneBefore (xs.take 1) (goodVal c0) := by
        intro x hx
        rw [show (1 : Nat) = 0 + 1 from rfl, List.take_add_one, hc0] at hx
        simp at hx; subst hx; exact LessC.irrefl _
      have HNB0 := Lib.hid hnb0
      have hc00 := HLEN.out
      clear hcell hnb0
      have hni : (0 : Int) < (n : Int) := by omega
      go_wp2_with fail
      go_loopw [4, 5] (fun d i wr => ∃ (k : Nat) (dd : ValD) (q : Nat), 1 ≤ k ∧ k ≤ n ∧ i = .int .i64 k ∧ d = dd.val ∧ NoneBefore (xs.take k) dd ∧ wr = w2.drewN q) (fun _ i _ => n - (intOf i).toNat)
      case atStart => exact ⟨1, goodVal c0, 0, by omega, by omega, rfl, rfl, HNB0.out, rfl⟩
      case round =>
        obtain ⟨k, dd, q, hk1, hk, rfl, rfl, hnb, rfl⟩ := hrel
        have HNB := Lib.hid hnb
        clear hnb
        by_cases hlt : k < n
        · obtain ⟨x, hx⟩ : ∃ x, xs[k]? = some x := ⟨_, List.getElem?_eq_getElem (by omega)⟩
          have z := HCELL.out k x hx
          have hk0 : (0 : Int) ≤ (k : Int) := by omega
          have hkn : (k : Int) < (n : Int) := by omega
          have hcm := HC.out (goodVal x) dd
          have HX := Lib.hid hx
          by_cases hl : LessC (goodVal x).cell dd.cell
          · rw [cmpC_less hl] at hcm
            have HL := Lib.hid hl
            have HCM := Lib.hid hcm
            clear hcm hx hl
            go_wp2_with fail
            refine (HCM.out _).mono ?_
            rintro e w3 ⟨rfl, q3, rfl⟩
            go_wp2
            go_roundw
            case rel => exact ⟨k + 1, goodVal x, q + q3, by omega, by omega, by go_num, rfl, noneBefore_less HNB.out HX.out HL.out, rfl⟩
            case measure => simp [intOf] <;> omega
          · have hr : ¬ cmpC (goodVal x).cell dd.cell < 0 := by rw [cmpC_lt]; exact hl
            generalize cmpC (goodVal x).cell dd.cell = r at *
            have hr' : (0 : Int) ≤ r := by omega
            have HL := Lib.hid hl
            have HCM := Lib.hid hcm
            clear hcm hx hl hr
            go_wp2_with fail
            refine (HCM.out _).mono ?_
            rintro e w3 ⟨rfl, q3, rfl⟩
            go_wp2
            go_roundw
            case rel => exact ⟨k + 1, dd, q + q3, by omega, by omega, by go_num, rfl, noneBefore_snoc HNB.out HX.out HL.out, rfl⟩
            case measure => simp [intOf] <;> omega
        · obtain rfl : k = n := by omega
          have hall : NoneBefore xs dd := by have := HNB.out; rwa [List.take_of_length_le (by omega)] at this
          have HALL := Lib.hid hall
          clear hall HNB hk
          go_wp2
          go_loopw [6] (fun i wr => ∃ j : Nat, j ≤ k ∧ i = .int .i64 (j : Int) ∧ Below w2.heap.size w2 wr) (fun i _ => k - (intOf i).toNat)
          case atStart => exact ⟨0, by omega, rfl, below_drewN (Below.refl _ _) _⟩
          case round =>
            obtain ⟨j, hj, rfl, hb⟩ := hrel
            have HB := Lib.hid hb
            by_cases hlt : j < k
            · obtain ⟨x, hx⟩ : ∃ x, xs[j]? = some x := ⟨_, List.getElem?_eq_getElem (by omega)⟩
              have z := (hb.cell (p := ⟨g, j, none⟩) hg).trans (HCELL.out j x hx)
              have hj0 : (0 : Int) ≤ (j : Int) := by omega
              have hjk : (j : Int) < (k : Int) := by omega
              have hcm := HC.out (goodVal x) dd
              have hcs := cmpC_cases (goodVal x).cell dd.cell
              have hno : ¬ cmpC (goodVal x).cell dd.cell < 0 := by rw [cmpC_lt]; exact HALL.out x (List.mem_of_getElem? hx)
              have hv1 := HVC.out (goodVal x)
              have hv2 := HVC.out dd
              unfold CellD.cells at hv1 hv2
              generalize cmpC (goodVal x).cell dd.cell = r at *
              generalize goodVal x = vx at *
              generalize vx.cell = d1 at *
              generalize dd.cell = d2 at *
              obtain ⟨k1, m1, s1⟩ := d1
              obtain ⟨k2, m2, s2⟩ := d2
              have hcs : (r = 0 ∧ k1 = k2 ∧ m1 = m2 ∧ s1 = s2) ∨ (r = 1 ∧ ((k1 == k2) = false ∨ (k1 = k2 ∧ (m1 == m2) = false) ∨ (k1 = k2 ∧ m1 = m2 ∧ (s1.toList == s2.toList) = false))) := by
                rcases hcs with ⟨h1, h2⟩ | ⟨h1 | h1, h2⟩
                · cases h2; exact .inl ⟨h1, rfl, rfl, rfl⟩
                · omega
                · exact .inr ⟨h1, h2⟩
              have HCM := Lib.hid hcm
              have HV1 := Lib.hid hv1
              have HV2 := Lib.hid hv2
              have HCS := Lib.hid hcs
              clear hcm hcs hno hv1 hv2 hx hb
              have hgr : g < wr.heap.size := Nat.lt_of_lt_of_le hg HB.out.size
              go_wp2_with fail
              refine (HCM.out _).mono ?_
              rintro e w3 ⟨rfl, q3, rfl⟩
              go_wp2_with fail
              refine (HV1.out _).mono ?_
              rintro e w4 ⟨rfl, hb4⟩
              have hbx : Below wr.heap.size wr (w4.alloc (.cells #[Value.int IntKind.u8 k1, Value.int IntKind.i64 m1, Value.string s1] 24)) := ((below_drewN (Below.refl _ _) q3).trans hb4).alloc hb4.size _
              have hcx : ∀ (i : Nat) (v : Value), (#[Value.int IntKind.u8 k1, Value.int IntKind.i64 m1, Value.string s1] : Array Value)[i]? = some v → (w4.alloc (.cells #[Value.int IntKind.u8 k1, Value.int IntKind.i64 m1, Value.string s1] 24)).cell? ⟨w4.heap.size, i, none⟩ = some v := fun i v h => by rw [World.cell?_alloc_new]; exact h
              have hzx : w4.heap.size < (w4.alloc (.cells #[Value.int IntKind.u8 k1, Value.int IntKind.i64 m1, Value.string s1] 24)).heap.size := by simp
              go_wp2_with fail
              generalize w4.alloc (.cells #[Value.int IntKind.u8 k1, Value.int IntKind.i64 m1, Value.string s1] 24) = W5 at *
              have y0 := hcx 0 _ rfl
              have y1 := hcx 1 _ rfl
              have y2 := hcx 2 _ rfl
              have HBX := Lib.hid hbx
              clear hbx hcx hb4
              refine (HV2.out _).mono ?_
              rintro e w6 ⟨rfl, hb6⟩
              have v0 := (hb6.cell (p := ⟨w4.heap.size, 0, none⟩) hzx).trans y0
              have v1 := (hb6.cell (p := ⟨w4.heap.size, 1, none⟩) hzx).trans y1
              have v2 := (hb6.cell (p := ⟨w4.heap.size, 2, none⟩) hzx).trans y2
              have hz6 : w4.heap.size < w6.heap.size := Nat.lt_of_lt_of_le hzx hb6.size
              have HB6 := Lib.hid (HBX.out.trans (hb6.mono HBX.out.size))
              clear hb6 y0 y1 y2 HBX hzx
              have hgw2 := HB.out.size
              rcases HCS.out with ⟨rfl, rfl, rfl, rfl⟩ | ⟨rfl, hq | ⟨rfl, hq⟩ | ⟨rfl, rfl, hq⟩⟩
              · have hk1 : (k1 == k1) = true := by simp
                have hm1 : (m1 == m1) = true := by simp
                have hs1 : (s1.toList == s1.toList) = true := by simp
                go_wp2
                go_roundw
                case rel => exact ⟨j + 1, by omega, by go_num, HB.out.trans ((HB6.out.alloc HB6.out.size _).mono hgw2)⟩
                case measure => simp [intOf] <;> omega
              · go_wp2
                go_roundw
                case rel => exact ⟨j + 1, by omega, by go_num, HB.out.trans ((HB6.out.alloc HB6.out.size _).mono hgw2)⟩
                case measure => simp [intOf] <;> omega
              · have hk1 : (k1 == k1) = true := by simp
                go_wp2
                go_roundw
                case rel => exact ⟨j + 1, by omega, by go_num, HB.out.trans ((HB6.out.alloc HB6.out.size _).mono hgw2)⟩
                case measure => simp [intOf] <;> omega
              · have hk1 : (k1 == k1) = true := by simp
                have hm1 : (m1 == m1) = true := by simp
                go_wp2
                go_roundw
                case rel => exact ⟨j + 1, by omega, by go_num, HB.out.trans ((HB6.out.alloc HB6.out.size _).mono hgw2)⟩
                case measure => simp [intOf] <;> omega
            · go_wp2
              go_ret
              exact ⟨rfl, HB2.out.trans (HB.out.mono HB2.out.size)⟩
end Go.Proofs.Ytmdgljbgjhpmcaa
