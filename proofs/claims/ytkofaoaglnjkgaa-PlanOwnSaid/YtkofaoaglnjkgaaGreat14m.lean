/- The contract of catchmentref08.Great. The contracts of catchmentref14.GreatSnap and Great. -/
import Derived.Test.YtkofaoaglnjkgaaBase
import Derived.Test.YtkofaoaglnjkgaaProg
import Derived.Handy
namespace Go.Proofs.Ytkofaoaglnjkgaa
open Go.RowKit Go.Deep
set_option linter.unusedVariables false
set_option linter.unusedSimpArgs false

def Great08Post (s : SchemaD) (w : World) (e : Ending) (w' : World) : Prop :=
  ∃ b, e = .returned (.bool b) ∧ Below w.heap.size w w' ∧ (b = false → s.fields.length ≤ 100 ∧ ∀ f ∈ s.fields, f.name.size < 5000)

theorem great08_done {fs : List FieldD} {n k q : Nat} (hl : fs.length = n) (hn : n ≤ 100) (hq : q < 5000) (hall : ∀ j f, j < k → fs[j]? = some f → min f.name.size 5000 ≤ q) (hk : n ≤ k) : fs.length ≤ 100 ∧ ∀ f ∈ fs, f.name.size < 5000 := by
  refine ⟨by omega, fun f hf => ?_⟩
  obtain ⟨j, hj, rfl⟩ := List.getElem_of_mem hf
  have := hall j _ (by omega) (List.getElem?_eq_getElem hj)
  omega

set_option maxRecDepth 100000 in
set_option maxHeartbeats 1000000 in
theorem great08 (cs : List Value) (s : SchemaD) (w : World) (h : SchemaR w cs s) : Calls Try.prog 11 #[.agg cs.toArray] w (Great08Post s w) := by
  obtain ⟨a, n, c, rfl, h1, h2, h3, hs, hid⟩ := h
  have hm := h2
  unfold maxLen at hm
  have HS := Lib.hid hs
  clear hs h3 hid
  go_enter Try.func11, Try.ntmps11
  go_wp2
  go_loop [3, 4] (fun m i => ∃ k q : Nat, k ≤ n ∧ i = .int .i64 k ∧ m = .int .i64 q ∧ q ≤ 10000 ∧ ∀ j f, j < k → s.fields[j]? = some f → min f.name.size 5000 ≤ q) (fun _ i => n - (intOf i).toNat)
  case atStart => exact ⟨0, 0, Nat.zero_le _, rfl, rfl, by omega, fun j f h => absurd h (by omega)⟩
  case round =>
    obtain ⟨k, q, hk, rfl, rfl, hq, hall⟩ := hrel
    have HA := Lib.hid hall
    clear hall
    by_cases hlt : k < n
    · by_cases h100 : k < 100
      · by_cases hq5 : q < 5000
        · obtain ⟨b, off, f, cs, rfl, hbl, hf, hcl, hr, hcell⟩ := HS.out.at_ hlt
          obtain ⟨rfl, hfm, _, _⟩ := hr
          have hc1 := hcell 1 _ rfl
          clear hcell
          go_wp2
          go_round
          case rel =>
            refine ⟨k + 1, q + min f.name.size 5000, by omega, by go_num, by congr 1; omega, by omega, fun j g hj hg => ?_⟩
            by_cases hjk : j = k
            · subst hjk; rw [hf] at hg; cases hg; omega
            · have := HA.out j g (by omega) hg; omega
          case measure => simp [intOf] <;> omega
        · go_wp2
          all_goals (go_ret; refine ⟨_, rfl, (Below.refl _ _).alloc (Nat.le_refl _) _, fun hb => ?_⟩; first | (exfalso; revert hb; simp; done) | exact great08_done HS.out.1 (by first | omega | (simp at hb; omega)) (by first | omega | (simp at hb; omega)) HA.out (by first | omega | (simp at hb; omega)))
      · go_wp2
        all_goals (go_ret; refine ⟨_, rfl, (Below.refl _ _).alloc (Nat.le_refl _) _, fun hb => ?_⟩; first | (exfalso; revert hb; simp; done) | exact great08_done HS.out.1 (by first | omega | (simp at hb; omega)) (by first | omega | (simp at hb; omega)) HA.out (by first | omega | (simp at hb; omega)))
    · go_wp2
      all_goals (go_ret; refine ⟨_, rfl, (Below.refl _ _).alloc (Nat.le_refl _) _, fun hb => ?_⟩; first | (exfalso; revert hb; simp; done) | exact great08_done HS.out.1 (by first | omega | (simp at hb; omega)) (by first | omega | (simp at hb; omega)) HA.out (by first | omega | (simp at hb; omega)))
end Go.Proofs.Ytkofaoaglnjkgaa

namespace Go.Proofs.Ytkofaoaglnjkgaa
open Go.RowKit Go.Deep
set_option linter.unusedVariables false
set_option linter.unusedSimpArgs false

def SnapFine (s : SnapD) : Prop := s.mans.length ≤ 50 ∧ ∀ m ∈ s.mans, m.size ≤ 500
def GreatSnapPost (s : SnapD) (w : World) (e : Ending) (w' : World) : Prop :=
  ∃ b, e = .returned (.bool b) ∧ Below w.heap.size w w' ∧ (b = false → SnapFine s)
theorem snapFine_of {s : SnapD} {n k : Nat} (hl : s.mans.length = n) (hn : n ≤ 50) (hk : n ≤ k) (hall : ∀ j m, j < k → s.mans[j]? = some m → m.size ≤ 500) : SnapFine s := by
  refine ⟨by omega, fun m hm => ?_⟩
  obtain ⟨j, hj, rfl⟩ := List.getElem_of_mem hm
  exact hall j _ (by omega) (List.getElem?_eq_getElem hj)

set_option maxRecDepth 100000 in
set_option maxHeartbeats 1000000 in
theorem greatSnap (cs : List Value) (s : SnapD) (w : World) (h : SnapR w cs s) : Calls Try.prog 48 #[.agg cs.toArray] w (GreatSnapPost s w) := by
  obtain ⟨a, n, c, rfl, h1, h2, h3, hs, _⟩ := h
  have hm := h2
  unfold maxLen at hm
  have HS := Lib.hid hs
  clear hs h3
  go_enter Try.func48, Try.ntmps48
  go_wp2
  go_loop [3] (fun i => ∃ k : Nat, k ≤ n ∧ i = .int .i64 k ∧ ∀ j m, j < k → s.mans[j]? = some m → m.size ≤ 500) (fun i => n - (intOf i).toNat)
  case atStart => exact ⟨0, Nat.zero_le _, rfl, fun j f h => absurd h (by omega)⟩
  case round =>
    obtain ⟨k, hk, rfl, hall⟩ := hrel
    have HA := Lib.hid hall
    clear hall
    by_cases hlt : k < n
    · by_cases h50 : k < 50
      · obtain ⟨b, off, f, v, rfl, hbl, hf, hr, hcell⟩ := HS.out.at1 hlt
        obtain ⟨hv, hfm⟩ := hr
        cases hv
        unfold maxLen at hfm
        by_cases h500 : 500 < f.size
        · go_wp2
          go_ret
          exact ⟨true, rfl, (Below.refl _ _).alloc (Nat.le_refl _) _, fun h => by cases h⟩
        · go_wp2
          go_round
          case rel =>
            refine ⟨k + 1, by omega, by go_num, fun j m hj hm => ?_⟩
            by_cases hjk : j = k
            · subst hjk; rw [hf] at hm; cases hm; omega
            · exact HA.out j m (by omega) hm
          case measure => simp [intOf] <;> omega
      · go_wp2
        all_goals (go_ret; refine ⟨_, rfl, (Below.refl _ _).alloc (Nat.le_refl _) _, fun hb => ?_⟩; first | (exfalso; revert hb; simp; done) | exact snapFine_of HS.out.1 (by first | omega | (simp at hb; omega)) (by first | omega | (simp at hb; omega)) HA.out)
    · go_wp2
      all_goals (go_ret; refine ⟨_, rfl, (Below.refl _ _).alloc (Nat.le_refl _) _, fun hb => ?_⟩; first | (exfalso; revert hb; simp; done) | exact snapFine_of HS.out.1 (by first | omega | (simp at hb; omega)) (by first | omega | (simp at hb; omega)) HA.out)

def TableFine (t : TableD) : Prop := t.schemas.length ≤ 60 ∧ t.snaps.length ≤ 100 ∧ (∀ s ∈ t.schemas, s.fields.length ≤ 100 ∧ ∀ f ∈ s.fields, f.name.size < 5000) ∧ ∀ s ∈ t.snaps, SnapFine s
def GreatPost (t : TableD) (w : World) (e : Ending) (w' : World) : Prop :=
  ∃ b, e = .returned (.bool b) ∧ Below w.heap.size w w' ∧ (b = false → TableFine t)
theorem all_of_index {α : Type} {l : List α} {n : Nat} {p : α → Prop} (hl : l.length = n) (h : ∀ j x, j < n → l[j]? = some x → p x) : ∀ x ∈ l, p x := by
  intro x hx
  obtain ⟨j, hj, rfl⟩ := List.getElem_of_mem hx
  exact h j _ (by omega) (List.getElem?_eq_getElem hj)

set_option maxRecDepth 100000 in
set_option maxHeartbeats 1000000 in
theorem great14 (cs : List Value) (t : TableD) (w : World) (h : TableR w cs t) : Calls Try.prog 22 #[.agg cs.toArray] w (GreatPost t w) := by
  obtain ⟨a, n, c, a', n', c', rfl, h1, h2, h3, hs, h4, h5, h6, hs', _⟩ := h
  have hm := h2
  have hm' := h5
  unfold maxLen at hm hm'
  have HS := Lib.hid hs
  have HS' := Lib.hid hs'
  clear hs h3 hs' h6
  by_cases h60 : 60 < n
  · go_enter Try.func22, Try.ntmps22
    go_wp2
    go_ret
    exact ⟨true, rfl, (Below.refl _ _).alloc (Nat.le_refl _) _, fun h => by cases h⟩
  by_cases h100 : 100 < n'
  · go_enter Try.func22, Try.ntmps22
    go_wp2
    go_ret
    exact ⟨true, rfl, (Below.refl _ _).alloc (Nat.le_refl _) _, fun h => by cases h⟩
  go_enter Try.func22, Try.ntmps22
  go_wp2
  generalize hbox : Obj.cells #[Value.slice a n c, Value.slice a' n' c', Value.int IntKind.u64 t.current] 59 = box
  have hw0 : (w.alloc box).cell? ⟨w.heap.size, 0, none⟩ = some (.slice a n c) := by rw [← hbox, World.cell?_alloc_new]; rfl
  have hw1 : (w.alloc box).cell? ⟨w.heap.size, 1, none⟩ = some (.slice a' n' c') := by rw [← hbox, World.cell?_alloc_new]; rfl
  have hsz : (w.alloc box).heap.size = w.heap.size + 1 := by simp
  have W0 := Lib.hid hw0
  have W1 := Lib.hid hw1
  have WZ := Lib.hid hsz
  have hba : Below w.heap.size w (w.alloc box) := (Below.refl _ _).alloc (Nat.le_refl _) _
  have BA := Lib.hid hba
  clear hbox hw0 hw1 hsz hba
  go_loopw [3] (fun i wr => ∃ k : Nat, k ≤ n ∧ i = .int .i64 k ∧ Below (w.heap.size + 1) (w.alloc box) wr ∧ ∀ j s, j < k → t.schemas[j]? = some s → s.fields.length ≤ 100 ∧ ∀ f ∈ s.fields, f.name.size < 5000) (fun i _ => n - (intOf i).toNat)
  case atStart => exact ⟨0, Nat.zero_le _, rfl, Below.refl _ _, fun j f h => absurd h (by omega)⟩
  case round =>
    obtain ⟨k, hk, rfl, hb, hall⟩ := hrel
    have HA := Lib.hid hall
    have HB := Lib.hid hb
    have HB0 := Lib.hid (BA.out.trans (hb.mono (Nat.le_succ _)))
    have c0 := (hb.cell (p := ⟨w.heap.size, 0, none⟩) (Nat.lt_succ_self _)).trans W0.out
    have c1 := (hb.cell (p := ⟨w.heap.size, 1, none⟩) (Nat.lt_succ_self _)).trans W1.out
    clear hall hb
    by_cases hlt : k < n
    · obtain ⟨b, off, s, cs, rfl, hbl, hf, hcl, hr, hcell⟩ := HS.out.at_ hlt
      obtain ⟨a2, n2, c2, rfl, hr2⟩ := hr
      have d0 := (HB0.out.cell (p := ⟨b, off + k * 2 + 0, none⟩) hbl).trans (hcell 0 _ rfl)
      have d1 := (HB0.out.cell (p := ⟨b, off + k * 2 + 1, none⟩) hbl).trans (hcell 1 _ rfl)
      rw [Nat.add_zero] at d0
      have SR := Lib.hid (SchemaR.stable _ _ _ _ HB0.out ⟨a2, n2, c2, rfl, hr2⟩)
      clear hcell hr2
      go_wp2_with fail
      refine (great08 _ s _ SR.out).mono ?_
      rintro e w1 ⟨g, rfl, hb1, hg⟩
      have HB1 := Lib.hid (HB.out.trans (hb1.mono (by have := HB.out.size; rw [WZ.out] at this; exact this)))
      have HG := Lib.hid hg
      clear hb1 hg
      cases g
      · go_wp2
        go_roundw
        case rel =>
          refine ⟨k + 1, by omega, by go_num, HB1.out, fun j s' hj hs' => ?_⟩
          by_cases hjk : j = k
          · subst hjk; rw [hf] at hs'; cases hs'; exact HG.out (by first | rfl | trivial)
          · exact HA.out j s' (by omega) hs'
        case measure => simp [intOf] <;> omega
      · go_wp2
        go_ret
        exact ⟨true, rfl, BA.out.trans (HB1.out.mono (Nat.le_succ _)), fun h => by cases h⟩
    · go_wp2
      go_loopw [4] (fun i wr => ∃ k : Nat, k ≤ n' ∧ i = .int .i64 k ∧ Below (w.heap.size + 1) (w.alloc box) wr ∧ ∀ j s, j < k → t.snaps[j]? = some s → SnapFine s) (fun i _ => n' - (intOf i).toNat)
      case atStart => exact ⟨0, Nat.zero_le _, rfl, HB.out, fun j f h => absurd h (by omega)⟩
      case round =>
        have HAA := HA
        clear HA HB HB0 c0 c1
        obtain ⟨q, hq, rfl, hb, hall⟩ := hrel
        have HA := Lib.hid hall
        have HB := Lib.hid hb
        have HB0 := Lib.hid (BA.out.trans (hb.mono (Nat.le_succ _)))
        have c0 := (hb.cell (p := ⟨w.heap.size, 0, none⟩) (Nat.lt_succ_self _)).trans W0.out
        have c1 := (hb.cell (p := ⟨w.heap.size, 1, none⟩) (Nat.lt_succ_self _)).trans W1.out
        clear hall hb
        by_cases hlt : q < n'
        · obtain ⟨b, off, s, cs, rfl, hbl, hf, hcl, hr, hcell⟩ := HS'.out.at_ hlt
          obtain ⟨a2, n2, c2, rfl, hr2⟩ := hr
          have d0 := (HB0.out.cell (p := ⟨b, off + q * 7 + 0, none⟩) hbl).trans (hcell 0 _ rfl)
          have d1 := (HB0.out.cell (p := ⟨b, off + q * 7 + 1, none⟩) hbl).trans (hcell 1 _ rfl)
          have d2 := (HB0.out.cell (p := ⟨b, off + q * 7 + 2, none⟩) hbl).trans (hcell 2 _ rfl)
          have d3 := (HB0.out.cell (p := ⟨b, off + q * 7 + 3, none⟩) hbl).trans (hcell 3 _ rfl)
          have d4 := (HB0.out.cell (p := ⟨b, off + q * 7 + 4, none⟩) hbl).trans (hcell 4 _ rfl)
          have d5 := (HB0.out.cell (p := ⟨b, off + q * 7 + 5, none⟩) hbl).trans (hcell 5 _ rfl)
          have d6 := (HB0.out.cell (p := ⟨b, off + q * 7 + 6, none⟩) hbl).trans (hcell 6 _ rfl)
          rw [Nat.add_zero] at d0
          have SR := Lib.hid (SnapR.stable _ _ _ _ HB0.out ⟨a2, n2, c2, rfl, hr2⟩)
          clear hcell hr2
          go_wp2_with fail
          refine (greatSnap _ s _ SR.out).mono ?_
          rintro e w1 ⟨g, rfl, hb1, hg⟩
          have HB1 := Lib.hid (HB.out.trans (hb1.mono (by have := HB.out.size; rw [WZ.out] at this; exact this)))
          have HG := Lib.hid hg
          clear hb1 hg
          cases g
          · go_wp2
            go_roundw
            case rel =>
              refine ⟨q + 1, by omega, by go_num, HB1.out, fun j s' hj hs' => ?_⟩
              by_cases hjk : j = q
              · subst hjk; rw [hf] at hs'; cases hs'; exact HG.out (by first | rfl | trivial)
              · exact HA.out j s' (by omega) hs'
            case measure => simp [intOf] <;> omega
          · go_wp2
            go_ret
            exact ⟨true, rfl, BA.out.trans (HB1.out.mono (Nat.le_succ _)), fun h => by cases h⟩
        · go_wp2
          go_ret
          exact ⟨false, rfl, HB0.out, fun _ => ⟨by have := HS.out.1; omega, by have := HS'.out.1; omega, all_of_index HS.out.1 (fun j s hj hs => HAA.out j s (by omega) hs), all_of_index HS'.out.1 (fun j s hj hs => HA.out j s (by omega) hs)⟩⟩
end Go.Proofs.Ytkofaoaglnjkgaa
