/- The first place where a test holds. The contract of slices.IndexFunc[[]catchment/api.Field,catchment/api.Field]: the first place where a test holds. -/
import Derived.Test.YtkofaoaglnjkgaaSk
import Derived.Test.YtkofaoaglnjkgaaProg
import Derived.Test.YtkofaoaglnjkgaaData
namespace Go.Proofs.Ytkofaoaglnjkgaa
open Go.RowKit Go.Deep
set_option linter.unusedVariables false
set_option linter.unusedSimpArgs false

def idxF {α : Type} (p : α → Bool) (xs : List α) : Int := match xs.findIdx? p with | some k => (k : Int) | none => -1
section
variable {α : Type} {p : α → Bool} {xs : List α} {k : Nat} {x : α}
theorem findIdx_hit (hx : xs[k]? = some x) (hp : p x = true) (hno : ∀ (j : Nat) (y : α), j < k → xs[j]? = some y → p y = false) : xs.findIdx? p = some k := by
  have hk : k < xs.length := (List.getElem?_eq_some_iff.1 hx).1
  rw [List.findIdx?_eq_some_iff_getElem]
  rw [List.getElem?_eq_getElem hk] at hx
  cases hx
  exact ⟨hk, hp, fun j hj => by rw [hno j _ hj (List.getElem?_eq_getElem (Nat.lt_trans hj hk))]; simp⟩
theorem idxF_hit (hx : xs[k]? = some x) (hp : p x = true) (hno : ∀ (j : Nat) (y : α), j < k → xs[j]? = some y → p y = false) : idxF p xs = (k : Int) := by
  unfold idxF; rw [findIdx_hit hx hp hno]
theorem findIdx_none (h : ∀ (j : Nat) (y : α), j < xs.length → xs[j]? = some y → p y = false) : xs.findIdx? p = none := by
  rw [List.findIdx?_eq_none_iff]
  intro y hy
  obtain ⟨j, hj, rfl⟩ := List.getElem_of_mem hy
  exact h j _ hj (List.getElem?_eq_getElem hj)
theorem idxF_none (h : ∀ (j : Nat) (y : α), j < xs.length → xs[j]? = some y → p y = false) : idxF p xs = -1 := by
  unfold idxF; rw [findIdx_none h]
theorem noHit_succ (hx : xs[k]? = some x) (hp : p x = false) (hno : ∀ (j : Nat) (y : α), j < k → xs[j]? = some y → p y = false) : ∀ (j : Nat) (y : α), j < k + 1 → xs[j]? = some y → p y = false := by
  intro j y hj hy
  by_cases hjk : j = k
  · subst hjk; rw [hx] at hy; cases hy; exact hp
  · exact hno j y (by omega) hy
theorem idxF_cases (p : α → Bool) (xs : List α) : (idxF p xs = -1 ∧ ∀ x ∈ xs, p x = false) ∨ ∃ (k : Nat) (x : α), idxF p xs = (k : Int) ∧ xs[k]? = some x ∧ p x = true ∧ ∀ (j : Nat) (y : α), j < k → xs[j]? = some y → p y = false := by
  unfold idxF
  cases h : xs.findIdx? p with
  | none =>
    rw [List.findIdx?_eq_none_iff] at h
    exact .inl ⟨rfl, h⟩
  | some k =>
    rw [List.findIdx?_eq_some_iff_getElem] at h
    obtain ⟨hk, hp, hno⟩ := h
    refine .inr ⟨k, xs[k], rfl, List.getElem?_eq_getElem hk, hp, fun j y hj hy => ?_⟩
    have := hno j hj
    have hjl : j < xs.length := by omega
    rw [List.getElem?_eq_getElem hjl] at hy
    cases hy
    simpa using this
end
/-- A call that says a truth, and leaves all that stood. -/
def BoolIs (b : Bool) (w : World) (e : Ending) (w' : World) : Prop := e = .returned (.bool b) ∧ Below w.heap.size w w'
def IntBelow (r : Int) (w : World) (e : Ending) (w' : World) : Prop := e = .returned (.int .i64 r) ∧ Below w.heap.size w w'
end Go.Proofs.Ytkofaoaglnjkgaa

namespace Go.Proofs.Ytkofaoaglnjkgaa
open Go.RowKit Go.Deep
set_option linter.unusedVariables false
set_option linter.unusedSimpArgs false

set_option maxRecDepth 100000 in
set_option maxHeartbeats 1000000 in
theorem index_field (f : FuncId) (cap : Value) (hcf : ∀ (args : Array Value) (W : World), (callFunc f args).run Try.prog W = .ok (.enter f args) W) (a : Option Addr) (n c : Nat) (xs : List FieldD) (p : FieldD → Bool) (w : World) (h : Sl 4 FieldR w a n xs) (hn : n ≤ 100000)
    (hf : ∀ (W : World) (cs : List Value) (x : FieldD), Below w.heap.size w W → FieldR W cs x → x ∈ xs → Calls Try.prog f #[.agg cs.toArray, cap] W (BoolIs (p x) W)) :
    Calls Try.prog 73 #[.slice a n c, .func (.func f) #[] #[cap]] w (IntBelow (idxF p xs) w) := by
  have HS := Lib.hid h
  have HF := Lib.hid hf
  have HLEN := Lib.hid h.1
  clear h hf
  go_enter Try.func73, Try.ntmps73
  go_wp2
  go_loopw [8] (fun i wr => ∃ k : Nat, k ≤ n ∧ i = .int .i64 k ∧ Below w.heap.size w wr ∧ ∀ (j : Nat) (y : FieldD), j < k → xs[j]? = some y → p y = false) (fun i _ => n - (intOf i).toNat)
  case atStart => exact ⟨0, Nat.zero_le _, rfl, Below.refl _ _, fun j s hj => absurd hj (by omega)⟩
  case round =>
    obtain ⟨k, hk, rfl, hb, hno⟩ := hrel
    have HN := Lib.hid hno
    have HB := Lib.hid hb
    have hwz := hb.size
    clear hno hb
    by_cases hlt : k < n
    · obtain ⟨b, off, s, cs, rfl, hbl, hx, hcl, hr, hcell⟩ := HS.out.at_ hlt
      match cs, hcl with
      | [v0, v1, v2, v3], _ =>
        have d0 := (HB.out.cell (p := ⟨b, off + k * 4 + 0, none⟩) hbl).trans (hcell 0 _ rfl)
        have d1 := (HB.out.cell (p := ⟨b, off + k * 4 + 1, none⟩) hbl).trans (hcell 1 _ rfl)
        have d2 := (HB.out.cell (p := ⟨b, off + k * 4 + 2, none⟩) hbl).trans (hcell 2 _ rfl)
        have d3 := (HB.out.cell (p := ⟨b, off + k * 4 + 3, none⟩) hbl).trans (hcell 3 _ rfl)
        rw [Nat.add_zero] at d0
        have SR := Lib.hid (FieldR.stable _ _ _ _ HB.out hr)
        have HX := Lib.hid hx
        clear hcell hr hx
        go_wp2_with fail
        refine (HF.out _ _ s HB.out SR.out (List.mem_of_getElem? HX.out)).mono ?_
        rintro e w1 ⟨rfl, hb1⟩
        have HB1 := Lib.hid (HB.out.trans (hb1.mono hwz))
        clear hb1 d0 d1 d2 d3
        cases hp : p s
        · have HP := Lib.hid hp
          clear hp
          go_wp2
          go_roundw
          case rel => exact ⟨k + 1, by omega, by go_num, HB1.out, noHit_succ HX.out HP.out HN.out⟩
          case measure => simp [intOf] <;> omega
        · have HP := Lib.hid hp
          clear hp
          have HI := Lib.hid (idxF_hit HX.out HP.out HN.out)
          go_wp2
          go_ret
          exact ⟨by rw [HI.out]; rfl, HB1.out⟩
    · have HI := Lib.hid (idxF_none (p := p) (xs := xs) fun j y hj hy => HN.out j y (by have := HLEN.out; omega) hy)
      go_wp2
      go_ret
      exact ⟨by rw [HI.out]; rfl, HB.out⟩
end Go.Proofs.Ytkofaoaglnjkgaa
