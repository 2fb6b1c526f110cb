/- The contract of catchmentref08.Great. The contracts of catchmentref14.GreatSnap and Great. -/
import Derived.Test.YtkildbpfondgcaaBase
import Derived.Test.YtkildbpfondgcaaProg
import Derived.Handy
namespace Go.Proofs.Ytkildbpfondgcaa
open Go.RowKit Go.Deep
set_option linter.unusedVariables false
set_option linter.unusedSimpArgs false

def Great08Post (s : SchemaD) (w : World) (e : Ending) (w' : World) : Prop :=
  ∃ b, e = .returned (.bool b) ∧ Below w.heap.size w w' ∧ (b = false → s.fields.length ≤ 100 ∧ ∀ f ∈ s.fields, f.name.size < 5000)

theorem great08_done {fs : List FieldD} {n k q : Nat} (hl : fs.length = n) (hn : n ≤ 100) (hq : q < 5000) (hall : ∀ j f, j < k → fs[j]? = some f → min f.name.size 5000 ≤ q) (hk : n ≤ k) : fs.length ≤ 100 ∧ ∀ f ∈ fs, f.name.size < 5000 := by
  refine ⟨by omega, fun f hf => ?_⟩
  obtain ⟨j, hj, rfl⟩ := List.getElem_of_mem hf
  have := hall j _ (by omega) (List.getElem?_eq_getElem hj)
  omega

set_option maxRecDepth 100000 in
set_option maxHeartbeats 1000000 in
theorem great08 (cs : List Value) (s : SchemaD) (w : World) (h : SchemaR w cs s) : Calls Try.prog 13 #[.agg cs.toArray] w (Great08Post s w) := by
  obtain ⟨a, n, c, rfl, h1, h2, h3, hs, hid⟩ := h
  have hm := h2
  unfold maxLen at hm
  have HS := Lib.hid hs
  clear hs h3 hid
  go_enter Try.func13, Try.ntmps13
  go_wp2
  go_loop [3, 4] (fun m i => ∃ k q : Nat, k ≤ n ∧ i = .int .i64 k ∧ m = .int .i64 q ∧ q ≤ 10000 ∧ ∀ j f, j < k → s.fields[j]? = some f → min f.name.size 5000 ≤ q) (fun _ i => n - (intOf i).toNat)
  case atStart => exact ⟨0, 0, Nat.zero_le _, rfl, rfl, by omega, fun j f h => absurd h (by omega)⟩
  case round =>
    obtain ⟨k, q, hk, rfl, rfl, hq, hall⟩ := hrel
    have HA := Lib.hid hall
    clear hall
    by_cases hlt : k < n
    · by_cases h100 : k < 100
      · by_cases hq5 : q < 5000
        · obtain ⟨b, off, f, cs, rfl, hbl, hf, hcl, hr, hcell⟩ := HS.out.at_ hlt
          obtain ⟨rfl, hfm, _, _⟩ := hr
          have hc1 := hcell 1 _ rfl
          clear hcell
          go_wp2
          go_round
          case rel =>
            refine ⟨k + 1, q + min f.name.size 5000, by omega, by go_num, by congr 1; omega, by omega, fun j g hj hg => ?_⟩
            by_cases hjk : j = k
            · subst hjk; rw [hf] at hg; cases hg; omega
            · have := HA.out j g (by omega) hg; omega
          case measure => simp [intOf] <;> omega
        · go_wp2
          all_goals (go_ret; refine ⟨_, rfl, (Below.refl _ _).alloc (Nat.le_refl _) _, fun hb => ?_⟩; first | (exfalso; revert hb; simp; done) | exact great08_done HS.out.1 (by first | omega | (simp at hb; omega)) (by first | omega | (simp at hb; omega)) HA.out (by first | omega | (simp at hb; omega)))
      · go_wp2
        all_goals (go_ret; refine ⟨_, rfl, (Below.refl _ _).alloc (Nat.le_refl _) _, fun hb => ?_⟩; first | (exfalso; revert hb; simp; done) | exact great08_done HS.out.1 (by first | omega | (simp at hb; omega)) (by first | omega | (simp at hb; omega)) HA.out (by first | omega | (simp at hb; omega)))
    · go_wp2
      all_goals (go_ret; refine ⟨_, rfl, (Below.refl _ _).alloc (Nat.le_refl _) _, fun hb => ?_⟩; first | (exfalso; revert hb; simp; done) | exact great08_done HS.out.1 (by first | omega | (simp at hb; omega)) (by first | omega | (simp at hb; omega)) HA.out (by first | omega | (simp at hb; omega)))
end Go.Proofs.Ytkildbpfondgcaa

namespace Go.Proofs.Ytkildbpfondgcaa
open Go.RowKit Go.Deep
set_option linter.unusedVariables false
set_option linter.unusedSimpArgs false

def SnapFine (s : SnapD) : Prop := s.mans.length ≤ 50 ∧ ∀ m ∈ s.mans, m.size ≤ 500
def GreatSnapPost (s : SnapD) (w : World) (e : Ending) (w' : World) : Prop :=
  ∃ b, e = .returned (.bool b) ∧ Below w.heap.size w w' ∧ (b = false → SnapFine s)
theorem snapFine_of {s : SnapD} {n k : Nat} (hl : s.mans.length = n) (hn : n ≤ 50) (hk : n ≤ k) (hall : ∀ j m, j < k → s.mans[j]? = some m → m.size ≤ 500) : SnapFine s := by
  refine ⟨by omega, fun m hm => ?_⟩
  obtain ⟨j, hj, rfl⟩ := List.getElem_of_mem hm
  exact hall j _ (by omega) (List.getElem?_eq_getElem hj)

def TableFine (t : TableD) : Prop := t.schemas.length ≤ 60 ∧ t.snaps.length ≤ 100 ∧ (∀ s ∈ t.schemas, s.fields.length ≤ 100 ∧ ∀ f ∈ s.fields, f.name.size < 5000) ∧ ∀ s ∈ t.snaps, SnapFine s
def GreatPost (t : TableD) (w : World) (e : Ending) (w' : World) : Prop :=
  ∃ b, e = .returned (.bool b) ∧ Below w.heap.size w w' ∧ (b = false → TableFine t)
theorem all_of_index {α : Type} {l : List α} {n : Nat} {p : α → Prop} (hl : l.length = n) (h : ∀ j x, j < n → l[j]? = some x → p x) : ∀ x ∈ l, p x := by
  intro x hx
  obtain ⟨j, hj, rfl⟩ := List.getElem_of_mem hx
  exact h j _ (by omega) (List.getElem?_eq_getElem hj)

end Go.Proofs.Ytkildbpfondgcaa
