/- Statistics of a column, in plain words. -/
import Derived.Test.YtkofaoaglnjkgaaBase
import Derived.Test.YtkofaoaglnjkgaaVlBase
import Derived.Test.YtkofaoaglnjkgaaSgAbove
import Derived.Test.YtkofaoaglnjkgaaSgBase
namespace Go.Proofs.Ytkofaoaglnjkgaa
open Go.RowKit Go.Deep
set_option linter.unusedVariables false
set_option linter.unusedSimpArgs false

structure StF where
  nulls : Nat
  some : Bool
  least : CellD
  most : CellD
  ok : Bool
noncomputable def StF.step (s : StF) (c : CellD) : StF :=
  if c.kind = 0 then ⟨s.nulls + 1, s.some, s.least, s.most, s.ok⟩
  else ⟨s.nulls, true, if s.some = false ∨ LessC c s.least then c else s.least, if s.some = false ∨ LessC s.most c then c else s.most, s.ok && (if c.kind = 3 then clean c.s else true)⟩
def StF.start : StF := ⟨0, false, zeroCell, zeroCell, true⟩
noncomputable def foldSt (l : List CellD) : StF := l.foldl StF.step StF.start
theorem foldSt_snoc {l : List CellD} {k : Nat} {c : CellD} (h : l[k]? = some c) : foldSt (l.take (k + 1)) = (foldSt (l.take k)).step c := by
  unfold foldSt
  rw [List.take_add_one, h, List.foldl_append]
  rfl
noncomputable def statsF (l : List CellD) : StatD :=
  let s := foldSt l
  if s.some = false then ⟨l.length, s.nulls, false, false, zeroCell, zeroCell⟩
  else if s.least.kind = 3 then
    if s.ok = true then ⟨l.length, s.nulls, true, (aboveF s.most.s 4).2, ⟨3, 0, firstF s.least.s 4⟩, if (aboveF s.most.s 4).2 = true then ⟨3, 0, (aboveF s.most.s 4).1⟩ else zeroCell⟩
    else ⟨l.length, s.nulls, true, false, ⟨3, 0, ByteArray.empty⟩, zeroCell⟩
  else ⟨l.length, s.nulls, true, true, s.least, s.most⟩
/-- What the fold keeps. -/
structure StInv (l : List CellD) (s : StF) : Prop where
  nulls : s.nulls ≤ l.length
  count : s.some = true → s.nulls < l.length
  none : s.some = false → s.nulls = l.length ∧ ∀ c ∈ l, c.kind = 0
  least : s.some = true → s.least ∈ l ∧ s.least.kind ≠ 0
  most : s.some = true → s.most ∈ l ∧ s.most.kind ≠ 0
  low : s.some = true → ∀ c ∈ l, c.kind ≠ 0 → ¬ LessC c s.least
  top : s.some = true → ∀ c ∈ l, c.kind ≠ 0 → ¬ LessC s.most c
  okc : s.ok = true → ∀ c ∈ l, c.kind = 3 → clean c.s = true
theorem LessC.not_trans {a b c : CellD} (h1 : ¬ LessC a b) (h2 : ¬ LessC b c) : ¬ LessC a c := by
  intro h
  by_cases hab : LessC b a
  · exact h2 (hab.trans h)
  · obtain rfl := LessC.tri hab h1
    exact h2 h
theorem stInv_snoc {l : List CellD} {s : StF} (h : StInv l s) (c : CellD) : StInv (l ++ [c]) (s.step c) := by
  unfold StF.step
  by_cases hk : c.kind = 0
  · rw [if_pos hk]
    refine ⟨by have := h.nulls; simp; omega, fun hs => by have := h.count hs; simp; omega, fun hs => ⟨by have := (h.none hs).1; simp; omega, fun x hx => ?_⟩, fun hs => ⟨List.mem_append_left _ (h.least hs).1, (h.least hs).2⟩, fun hs => ⟨List.mem_append_left _ (h.most hs).1, (h.most hs).2⟩, fun hs x hx hxk => ?_, fun hs x hx hxk => ?_, fun hs x hx hxk => ?_⟩
    · rcases List.mem_append.1 hx with hx | hx
      · exact (h.none hs).2 x hx
      · simp at hx; subst hx; exact hk
    · rcases List.mem_append.1 hx with hx | hx
      · exact h.low hs x hx hxk
      · simp at hx; subst hx; exact absurd hk hxk
    · rcases List.mem_append.1 hx with hx | hx
      · exact h.top hs x hx hxk
      · simp at hx; subst hx; exact absurd hk hxk
    · rcases List.mem_append.1 hx with hx | hx
      · exact h.okc hs x hx hxk
      · simp at hx; subst hx; omega
  · rw [if_neg hk]
    have hmem : c ∈ l ++ [c] := List.mem_append_right _ (by simp)
    refine ⟨by have := h.nulls; simp; omega, fun _ => by have := h.nulls; simp; omega, fun hs => (by cases hs), fun _ => ?_, fun _ => ?_, fun _ x hx hxk => ?_, fun _ x hx hxk => ?_, fun hs x hx hxk => ?_⟩
    · show (if s.some = false ∨ LessC c s.least then c else s.least) ∈ _ ∧ _
      by_cases hc : s.some = false ∨ LessC c s.least
      · simp only [if_pos hc]; exact ⟨hmem, hk⟩
      · simp only [if_neg hc]
        have hs : s.some = true := by cases hq : s.some; exact absurd (.inl hq) hc; rfl
        exact ⟨List.mem_append_left _ (h.least hs).1, (h.least hs).2⟩
    · by_cases hc : s.some = false ∨ LessC s.most c
      · simp only [if_pos hc]; exact ⟨hmem, hk⟩
      · simp only [if_neg hc]
        have hs : s.some = true := by cases hq : s.some; exact absurd (.inl hq) hc; rfl
        exact ⟨List.mem_append_left _ (h.most hs).1, (h.most hs).2⟩
    · by_cases hc : s.some = false ∨ LessC c s.least
      · simp only [if_pos hc]
        rcases List.mem_append.1 hx with hx | hx
        · cases hq : s.some with
          | false => exact absurd ((h.none hq).2 x hx) hxk
          | true =>
            rcases hc with hc | hc
            · rw [hq] at hc; cases hc
            · exact fun h2 => h.low hq x hx hxk (h2.trans hc)
        · simp at hx; subst hx; exact LessC.irrefl _
      · simp only [if_neg hc]
        have hs : s.some = true := by cases hq : s.some; exact absurd (.inl hq) hc; rfl
        rcases List.mem_append.1 hx with hx | hx
        · exact h.low hs x hx hxk
        · simp at hx; subst hx; exact fun h2 => hc (.inr h2)
    · by_cases hc : s.some = false ∨ LessC s.most c
      · simp only [if_pos hc]
        rcases List.mem_append.1 hx with hx | hx
        · cases hq : s.some with
          | false => exact absurd ((h.none hq).2 x hx) hxk
          | true =>
            rcases hc with hc | hc
            · rw [hq] at hc; cases hc
            · exact fun h2 => h.top hq x hx hxk (hc.trans h2)
        · simp at hx; subst hx; exact LessC.irrefl _
      · simp only [if_neg hc]
        have hs : s.some = true := by cases hq : s.some; exact absurd (.inl hq) hc; rfl
        rcases List.mem_append.1 hx with hx | hx
        · exact h.top hs x hx hxk
        · simp at hx; subst hx; exact fun h2 => hc (.inr h2)
    · have hs' : (s.ok && (if c.kind = 3 then clean c.s else true)) = true := hs
      rw [Bool.and_eq_true] at hs'
      rcases List.mem_append.1 hx with hx | hx
      · exact h.okc hs'.1 x hx hxk
      · simp at hx; subst hx
        rw [if_pos hxk] at hs'; exact hs'.2
theorem stInv_start : StInv [] StF.start := ⟨Nat.le_refl _, (fun h => by cases h), fun _ => ⟨rfl, fun _ h => by cases h⟩, (fun h => by cases h), (fun h => by cases h), (fun h => by cases h), (fun h => by cases h), fun _ _ h => by cases h⟩
theorem stInv : ∀ (l : List CellD) (k : Nat), k ≤ l.length → StInv (l.take k) (foldSt (l.take k))
  | l, 0, _ => by simp only [List.take_zero]; exact stInv_start
  | l, k + 1, h => by
    obtain ⟨c, hc⟩ : ∃ c, l[k]? = some c := ⟨_, List.getElem?_eq_getElem (by omega)⟩
    rw [foldSt_snoc hc, List.take_add_one, hc]
    exact stInv_snoc (stInv l k (by omega)) c
theorem stInv_all (l : List CellD) : StInv l (foldSt l) := by
  have := stInv l l.length (Nat.le_refl _)
  rwa [List.take_length] at this
end Go.Proofs.Ytkofaoaglnjkgaa
