/- Rows of cells (of structs) that a call grows for itself. Rows of fields that a call grows for itself. Rows of rows that a call grows for itself. Rows that a call has grown, all from a block on; a world that parts from another in one block. A region whose first operations keep all that stood, and whose last ones come in the order of the text. A goal at which the walk stands still. -/
import Derived.Test.YtkofaoaglnjkgaaVlBase
import Derived.Test.YtkofaoaglnjkgaaBase
import Derived.Deep.AppendLies
import Derived.Maps.AppendAt
import Derived.StillTail
namespace Go.Proofs.Ytkofaoaglnjkgaa
open Go.RowKit Go.Deep
set_option linter.unusedVariables false
set_option linter.unusedSimpArgs false

section
variable {α : Type} {f : α → List Value} {size : Nat}
theorem flat_len (hf : ∀ x, (f x).length = size) : ∀ xs : List α, (xs.flatMap f).length = xs.length * size
  | [] => by simp
  | x :: xs => by rw [List.flatMap_cons, List.length_append, flat_len hf xs, hf, List.length_cons, Nat.add_mul]; omega
theorem flat_get (hf : ∀ x, (f x).length = size) : ∀ (xs : List α) (i j : Nat) (x : α), xs[i]? = some x → j < size → (xs.flatMap f)[i * size + j]? = (f x)[j]?
  | [], i, j, x, h, hj => by simp at h
  | y :: xs, 0, j, x, h, hj => by
    simp at h; subst h
    rw [List.flatMap_cons, Nat.zero_mul, Nat.zero_add, List.getElem?_append_left (by rw [hf]; exact hj)]
  | y :: xs, i + 1, j, x, h, hj => by
    rw [List.getElem?_cons_succ] at h
    rw [List.flatMap_cons, Nat.add_mul, List.getElem?_append_right (by rw [hf]; omega), hf, ← flat_get hf xs i j x h hj]
    congr 1; omega
theorem own_sl {R : Rd α} {w : World} {B e n c : Nat} {ad : Option Addr} {xs : List α} (hs : 0 < size) (hf : ∀ x, (f x).length = size) (hr : ∀ x ∈ xs, R w (f x) x) (h : w.ownsRow B e size (.slice ad n c) n (xs.flatMap f)) : Sl size R w ad n xs := by
  have hl : xs.length = n := by
    have := h.1; rw [flat_len hf] at this
    exact Nat.eq_of_mul_eq_mul_right hs this
  refine ⟨hl, fun hn => ?_⟩
  rcases h.2 with ⟨_, h0⟩ | ⟨g, cap, cur, hv, hb, hg, _⟩
  · omega
  · simp only [Value.slice.injEq] at hv
    obtain ⟨rfl, _, rfl⟩ := hv
    refine ⟨g, 0, rfl, ?_, fun i x hi => ⟨f x, hf x, hr x (List.mem_of_getElem? hi), fun j v hj => ?_⟩⟩
    · rcases Nat.lt_or_ge g w.heap.size with hlt | hge
      · exact hlt
      · rw [Array.getElem?_eq_none hge] at hg; cases hg
    · have hil : i < n := by have := (List.getElem?_eq_some_iff.1 hi).1; omega
      have hjl : j < size := by have := (List.getElem?_eq_some_iff.1 hj).1; rw [hf] at this; exact this
      have hlt : i * size + j < n * size := by
        have h1 : (i + 1) * size ≤ n * size := Nat.mul_le_mul_right _ hil
        rw [Nat.add_mul] at h1; omega
      have := h.cellAt (i * size + j) hlt
      rw [flat_get hf xs i j x hi hjl, hj] at this
      simpa using this
theorem flat_snoc {xs : List α} {k : Nat} {x : α} (h : xs[k]? = some x) : (xs.take (k + 1)).flatMap f = (xs.take k).flatMap f ++ f x := by
  rw [List.take_add_one, h, List.flatMap_append]; simp
end
def cellV (c : CellD) : List Value := [.int .u8 c.kind, .int .i64 c.n, .string c.s]
theorem cellV_len (c : CellD) : (cellV c).length = 3 := rfl
theorem infoCell : (Try.prog.info? 26).map (fun i => (i.zero, i.size, i.bytes)) = some (some (.agg #[.int .u8 0, .int .i64 0, .string ByteArray.empty]), 3, 32) := by kernel_rfl
end Go.Proofs.Ytkofaoaglnjkgaa

namespace Go.Proofs.Ytkofaoaglnjkgaa
open Go.RowKit Go.Deep
set_option linter.unusedVariables false
set_option linter.unusedSimpArgs false

def fldV (f : FieldD) : List Value := [.int .u32 (f.id : Int), .string f.name, .int .u8 (f.kind : Int), .bool f.need]
theorem fldV_len (f : FieldD) : (fldV f).length = 4 := rfl
theorem fldV_one (f : FieldD) : ∀ u ∈ fldV f, u.oneCell' = true := by simp [fldV, Value.oneCell']
theorem flds_one (xs : List FieldD) : ∀ u ∈ xs.flatMap fldV, u.oneCell' = true := fun u hu => by
  obtain ⟨x, _, h⟩ := List.mem_flatMap.1 hu
  exact fldV_one x u h
theorem FieldR.flds {w : World} {cs : List Value} {f : FieldD} (h : FieldR w cs f) : cs = fldV f := h.1
theorem infoFld : (Try.prog.info? 85).map (fun i => (i.zero, i.size, i.bytes)) = some (some (.agg #[.int .u32 0, .string ByteArray.empty, .int .u8 0, .bool false]), 4, 32) := by kernel_rfl
/-- The cells of a row of structs, one behind the other. -/
theorem Sl.liesF {α : Type} {size : Nat} {R : Rd α} {f : α → List Value} {w : World} {a : Option Addr} {n : Nat} {xs : List α} (h : Sl size R w a n xs) (hs : 0 < size) (hf : ∀ x, (f x).length = size) (hR : ∀ cs x, R w cs x → cs = f x) : Lies w a n size (xs.flatMap f) := by
  refine ⟨by rw [flat_len hf, h.1], fun hn => ?_⟩
  obtain ⟨b, off, ha, hlt, hc⟩ := h.2 hn
  refine ⟨b, off, ha, fun j v hj => ?_⟩
  have hjl : j < xs.length * size := by have := (List.getElem?_eq_some_iff.1 hj).1; rwa [flat_len hf] at this
  have hi : j / size < xs.length := (Nat.div_lt_iff_lt_mul hs).2 hjl
  obtain ⟨cs, hcl, hr, hcell⟩ := hc (j / size) _ (List.getElem?_eq_getElem hi)
  have e := hR _ _ hr
  subst e
  have hm := Nat.mod_lt j hs
  have hdm : j / size * size + j % size = j := Nat.div_add_mod' j size
  have hg := flat_get hf xs (j / size) (j % size) _ (List.getElem?_eq_getElem hi) hm
  rw [hdm, hj] at hg
  have := hcell (j % size) v hg.symm
  rwa [show off + j / size * size + j % size = off + j by omega] at this
theorem ownF_set {w : World} {B e size n : Nat} {v : Value} {xs : List Value} {p : Addr} (h : w.ownsRow B e size v n xs) (hp : p.block < B) (u : Value) : (w.setCell p u).ownsRow B e size v n xs := by
  refine h.kept (row := some p.block) ⟨rfl, rfl, rfl, by simp [World.setCell], fun k hk hne => Below.heap_setCell _ _ _ _ (fun e => hne (by rw [e]))⟩ ?_
  cases hv : v.ownBlock with
  | none => exact .inl rfl
  | some b => exact .inr (fun e => by have := (h.lt b hv).1; simp at e; omega)
theorem ownF_le {w : World} {base base' size n : Nat} {e : TypeId} {v : Value} {xs : List Value} (h : w.ownsRow base e size v n xs) (hb : base' ≤ base) : w.ownsRow base' e size v n xs :=
  ⟨h.1, h.2.imp id fun ⟨g, cap, cur, hv, hg, r⟩ => ⟨g, cap, cur, hv, Nat.le_trans hb hg, r⟩⟩
theorem ownF_above {w : World} {B e size n c : Nat} {ad : Option Addr} {ys : List Value} (h : w.ownsRow B e size (.slice ad n c) n ys) : ∀ b off, ad = some ⟨b, off, none⟩ → B ≤ b ∧ b < w.heap.size := by
  rintro b off rfl
  rcases h.2 with ⟨h1, _⟩ | ⟨g, cap, cur, hv, hb, hg, _⟩
  · cases h1
  · simp only [Value.slice.injEq, Option.some.injEq] at hv
    obtain ⟨hv, _, _⟩ := hv
    cases hv
    exact ⟨hb, (Array.getElem?_eq_some_iff.1 hg).1⟩
theorem Sl.setFarF {α : Type} {size : Nat} {R : Rd α} {w : World} {a : Option Addr} {n : Nat} {xs : List α} {p : Addr} (h : Sl size R w a n xs) (hR : ∀ w w' cs x, R w cs x → R w' cs x) (hne : ∀ b off, a = some ⟨b, off, none⟩ → b ≠ p.block) (u : Value) : Sl size R (w.setCell p u) a n xs := by
  refine ⟨h.1, fun hn => ?_⟩
  obtain ⟨b, off, ha, hlt, hc⟩ := h.2 hn
  refine ⟨b, off, ha, by simpa using hlt, fun i x hx => ?_⟩
  obtain ⟨cs, hl, hr, hcell⟩ := hc i x hx
  refine ⟨cs, hl, hR _ _ _ _ hr, fun j v hj => ?_⟩
  rw [World.cell?_setCell_other _ _ _ _ (fun e => hne b off ha (congrArg Addr.block e).symm)]
  exact hcell j v hj
end Go.Proofs.Ytkofaoaglnjkgaa

namespace Go.Proofs.Ytkofaoaglnjkgaa
open Go.RowKit Go.Deep
set_option linter.unusedVariables false
set_option linter.unusedSimpArgs false

section
variable {α : Type} {size : Nat} {R : Rd α} {w w' : World} {a : Option Addr} {n : Nat} {xs : List α}
theorem Sl.grown {row : Option Nat} (h : Sl size R w a n xs) (hR : ∀ w w' cs x, R w cs x → R w' cs x) (hg : w.grownBy w' row) (hne : ∀ b off, a = some ⟨b, off, none⟩ → some b ≠ row) : Sl size R w' a n xs := by
  refine ⟨h.1, fun hn => ?_⟩
  obtain ⟨b, off, ha, hlt, hc⟩ := h.2 hn
  refine ⟨b, off, ha, Nat.lt_of_lt_of_le hlt hg.size, fun i x hx => ?_⟩
  obtain ⟨cs, hl, hr, hcell⟩ := hc i x hx
  exact ⟨cs, hl, hR _ _ _ _ hr, fun j v hj => (World.grownBy.cell_far hg ⟨b, off + i * size + j, none⟩ hlt (hne b off ha)).trans (hcell j v hj)⟩
end
/-- A row, as it lies in a row of rows. -/
def FRow : Rd (List CellD) := fun w cs xs => ∃ a n c, cs = [.slice a n c] ∧ Sl 3 CellR w a n xs
theorem FRow.stable : Stable FRow := by
  rintro w w' cs x hb ⟨a, n, c, rfl, h⟩
  exact ⟨a, n, c, rfl, h.below CellR.stable hb⟩
/-- Rows that a call has put into a row of its own; none of them lies in that row's own block. -/
def RowsOwn (w : World) (B : Nat) (e : TypeId) (v : Value) (m : Nat) (ls : List (List CellD)) : Prop :=
  ls.length = m ∧ ∃ vs : List Value, w.ownsRow B e 1 v m vs ∧ ∀ (i : Nat) (x : List CellD), ls[i]? = some x → ∃ a n c, vs[i]? = some (Value.slice a n c) ∧ Sl 3 CellR w a n x ∧ ∀ b off, a = some ⟨b, off, none⟩ → b < w.heap.size ∧ some b ≠ v.ownBlock
section
variable {w w' : World} {B m : Nat} {e : TypeId} {v : Value} {ls : List (List CellD)}
theorem RowsOwn.nil (w : World) (B : Nat) (e : TypeId) : RowsOwn w B e (.slice none 0 0) 0 [] := ⟨rfl, [], World.ownsRow_nil _ _ _ _, fun i x h => by simp at h⟩
theorem RowsOwn.call (h : RowsOwn w B e v m ls) (hb : Below w.heap.size w w') : RowsOwn w' B e v m ls := by
  obtain ⟨hl, vs, ho, hr⟩ := h
  refine ⟨hl, vs, own_below ho hb, fun i x hx => ?_⟩
  obtain ⟨a, n, c, h1, h2, h3⟩ := hr i x hx
  exact ⟨a, n, c, h1, h2.below CellR.stable hb, fun b off ha => ⟨Nat.lt_of_lt_of_le (h3 b off ha).1 hb.size, (h3 b off ha).2⟩⟩
theorem RowsOwn.alloc (h : RowsOwn w B e v m ls) (o : Obj) : RowsOwn (w.alloc o) B e v m ls := h.call ((Below.refl _ _).alloc (Nat.le_refl _) _)
theorem RowsOwn.snoc {g cap : Nat} {vs : List Value} {a : Option Addr} {n c : Nat} {x : List CellD} (h : RowsOwn w B e v m ls) (hvs : w.ownsRow B e 1 v m vs) (hown : w'.ownsRow B e 1 (.slice (some ⟨g, 0, none⟩) (m + 1) cap) (m + 1) (vs ++ [.slice a n c])) (hg : w.grownBy w' v.ownBlock) (hat : v.ownBlock = some g ∨ g = w.heap.size) (hx : Sl 3 CellR w a n x) (hxa : ∀ b off, a = some ⟨b, off, none⟩ → b < w.heap.size ∧ some b ≠ v.ownBlock) : RowsOwn w' B e (.slice (some ⟨g, 0, none⟩) (m + 1) cap) (m + 1) (ls ++ [x]) := by
  obtain ⟨hl, vs2, ho, hr⟩ := h
  obtain rfl : vs2 = vs := by
    rcases ho.2 with ⟨e1, e2⟩ | ⟨g1, cap1, cur1, e1, _, hg1, _, _, _, ht1⟩
    · subst e2
      have h1 := List.length_eq_zero_iff.1 (show vs2.length = 0 by rw [ho.1, Nat.zero_mul])
      have h2 := List.length_eq_zero_iff.1 (show vs.length = 0 by rw [hvs.1, Nat.zero_mul])
      rw [h1, h2]
    · rcases hvs.2 with ⟨e3, e4⟩ | ⟨g2, cap2, cur2, e3, _, hg2, _, _, _, ht2⟩
      · rw [e1] at e3; cases e3
      · rw [e1] at e3; cases e3
        rw [hg1] at hg2; cases hg2
        rw [← ht1, ← ht2]
  have hlv : vs2.length = m := by rw [ho.1, Nat.mul_one]
  have hne : ∀ b, (b < w.heap.size ∧ some b ≠ v.ownBlock) → b < w'.heap.size ∧ some b ≠ (Value.slice (some ⟨g, 0, none⟩) (m + 1) cap).ownBlock := fun b ⟨h1, h2⟩ => by
    refine ⟨Nat.lt_of_lt_of_le h1 hg.size, fun h => ?_⟩
    have : b = g := by simpa [Value.ownBlock] using h
    subst this
    rcases hat with h3 | h3
    · exact h2 h3.symm
    · omega
  refine ⟨by simp [hl], _, hown, fun i y hy => ?_⟩
  rcases Nat.lt_or_ge i m with h1 | h1
  · rw [List.getElem?_append_left (by omega)] at hy
    obtain ⟨a', n', c', h2, h3, h4⟩ := hr i y hy
    exact ⟨a', n', c', by rw [List.getElem?_append_left (by omega)]; exact h2, h3.grown (fun _ _ _ _ h => h) hg (fun b off ha => (h4 b off ha).2), fun b off ha => hne b (h4 b off ha)⟩
  · have hi : i = m := by
      have := (List.getElem?_eq_some_iff.1 hy).1
      simp [hl] at this; omega
    subst hi
    rw [List.getElem?_append_right (by omega), hl, Nat.sub_self] at hy
    simp at hy; subst hy
    exact ⟨a, n, c, by rw [List.getElem?_append_right (by omega), hlv]; simp, hx.grown (fun _ _ _ _ h => h) hg (fun b off ha => (hxa b off ha).2), fun b off ha => hne b (hxa b off ha)⟩
theorem RowsOwn.sl {ad : Option Addr} {c : Nat} (h : RowsOwn w B e (.slice ad m c) m ls) : Sl 1 FRow w ad m ls := by
  obtain ⟨hl, vs, ho, hr⟩ := h
  refine ⟨hl, fun hn => ?_⟩
  rcases ho.2 with ⟨_, h0⟩ | ⟨g, cap, cur, hv, hb, hg, _⟩
  · omega
  · simp only [Value.slice.injEq] at hv
    obtain ⟨rfl, _, rfl⟩ := hv
    refine ⟨g, 0, rfl, ?_, fun i x hi => ?_⟩
    · rcases Nat.lt_or_ge g w.heap.size with hlt | hge
      · exact hlt
      · rw [Array.getElem?_eq_none hge] at hg; cases hg
    · obtain ⟨a, n, c', h1, h2, _⟩ := hr i x hi
      refine ⟨[.slice a n c'], rfl, ⟨a, n, c', rfl, h2⟩, fun j u hj => ?_⟩
      have hj0 : j = 0 := by have := (List.getElem?_eq_some_iff.1 hj).1; simp at this; omega
      subst hj0
      simp at hj; subst hj
      have hil : i < m := by have := (List.getElem?_eq_some_iff.1 hi).1; omega
      have := ho.cellAt i (by omega)
      rw [h1] at this
      simpa using this
theorem RowsOwn.shape (h : RowsOwn w B e v m ls) : ∃ a c, v = .slice a m c := by
  obtain ⟨_, vs, ho, _⟩ := h
  obtain ⟨a, c, rfl, _⟩ := own_slice ho
  exact ⟨a, c, rfl⟩
/-- A row that a call has grown lies apart from all blocks that stood ahead of it. -/
theorem own_apart {w1 : World} {e' : TypeId} {size n c : Nat} {ad : Option Addr} {ys : List Value} (h : RowsOwn w B e v m ls) (hy : w1.ownsRow w.heap.size e' size (.slice ad n c) n ys) : ∀ b off, ad = some ⟨b, off, none⟩ → b < w1.heap.size ∧ some b ≠ v.ownBlock := by
  rintro b off rfl
  obtain ⟨_, vs, ho, _⟩ := h
  rcases hy.2 with ⟨h1, _⟩ | ⟨g, cap, cur, hv, hb, hg, _⟩
  · cases h1
  · simp only [Value.slice.injEq, Option.some.injEq] at hv
    obtain ⟨hv, _, _⟩ := hv
    cases hv
    refine ⟨(Array.getElem?_eq_some_iff.1 hg).1, fun h => ?_⟩
    have := (ho.lt b h.symm).2
    omega
end
end Go.Proofs.Ytkofaoaglnjkgaa

namespace Go.Proofs.Ytkofaoaglnjkgaa
open Go.RowKit Go.Deep
set_option linter.unusedVariables false
set_option linter.unusedSimpArgs false

/-- Rows that a call has put into a row of its own; none of them lies in that row's own block. -/
def RowsLo (w : World) (B : Nat) (e : TypeId) (v : Value) (m : Nat) (ls : List (List CellD)) : Prop :=
  ls.length = m ∧ ∃ vs : List Value, w.ownsRow B e 1 v m vs ∧ ∀ (i : Nat) (x : List CellD), ls[i]? = some x → ∃ a n c, vs[i]? = some (Value.slice a n c) ∧ Sl 3 CellR w a n x ∧ ∀ b off, a = some ⟨b, off, none⟩ → B ≤ b ∧ b < w.heap.size ∧ some b ≠ v.ownBlock
section
variable {w w' : World} {B m : Nat} {e : TypeId} {v : Value} {ls : List (List CellD)}
theorem RowsLo.nil (w : World) (B : Nat) (e : TypeId) : RowsLo w B e (.slice none 0 0) 0 [] := ⟨rfl, [], World.ownsRow_nil _ _ _ _, fun i x h => by simp at h⟩
theorem RowsLo.call (h : RowsLo w B e v m ls) (hb : Below w.heap.size w w') : RowsLo w' B e v m ls := by
  obtain ⟨hl, vs, ho, hr⟩ := h
  refine ⟨hl, vs, own_below ho hb, fun i x hx => ?_⟩
  obtain ⟨a, n, c, h1, h2, h3⟩ := hr i x hx
  exact ⟨a, n, c, h1, h2.below CellR.stable hb, fun b off ha => ⟨(h3 b off ha).1, Nat.lt_of_lt_of_le (h3 b off ha).2.1 hb.size, (h3 b off ha).2.2⟩⟩
theorem RowsLo.alloc (h : RowsLo w B e v m ls) (o : Obj) : RowsLo (w.alloc o) B e v m ls := h.call ((Below.refl _ _).alloc (Nat.le_refl _) _)
theorem RowsLo.snoc {g cap : Nat} {vs : List Value} {a : Option Addr} {n c : Nat} {x : List CellD} (h : RowsLo w B e v m ls) (hvs : w.ownsRow B e 1 v m vs) (hown : w'.ownsRow B e 1 (.slice (some ⟨g, 0, none⟩) (m + 1) cap) (m + 1) (vs ++ [.slice a n c])) (hg : w.grownBy w' v.ownBlock) (hat : v.ownBlock = some g ∨ g = w.heap.size) (hx : Sl 3 CellR w a n x) (hxa : ∀ b off, a = some ⟨b, off, none⟩ → B ≤ b ∧ b < w.heap.size ∧ some b ≠ v.ownBlock) : RowsLo w' B e (.slice (some ⟨g, 0, none⟩) (m + 1) cap) (m + 1) (ls ++ [x]) := by
  obtain ⟨hl, vs2, ho, hr⟩ := h
  obtain rfl : vs2 = vs := by
    rcases ho.2 with ⟨e1, e2⟩ | ⟨g1, cap1, cur1, e1, _, hg1, _, _, _, ht1⟩
    · subst e2
      have h1 := List.length_eq_zero_iff.1 (show vs2.length = 0 by rw [ho.1, Nat.zero_mul])
      have h2 := List.length_eq_zero_iff.1 (show vs.length = 0 by rw [hvs.1, Nat.zero_mul])
      rw [h1, h2]
    · rcases hvs.2 with ⟨e3, e4⟩ | ⟨g2, cap2, cur2, e3, _, hg2, _, _, _, ht2⟩
      · rw [e1] at e3; cases e3
      · rw [e1] at e3; cases e3
        rw [hg1] at hg2; cases hg2
        rw [← ht1, ← ht2]
  have hlv : vs2.length = m := by rw [ho.1, Nat.mul_one]
  have hne : ∀ b, (B ≤ b ∧ b < w.heap.size ∧ some b ≠ v.ownBlock) → B ≤ b ∧ b < w'.heap.size ∧ some b ≠ (Value.slice (some ⟨g, 0, none⟩) (m + 1) cap).ownBlock := fun b ⟨h0, h1, h2⟩ => by
    refine ⟨h0, Nat.lt_of_lt_of_le h1 hg.size, fun h => ?_⟩
    have : b = g := by simpa [Value.ownBlock] using h
    subst this
    rcases hat with h3 | h3
    · exact h2 h3.symm
    · omega
  refine ⟨by simp [hl], _, hown, fun i y hy => ?_⟩
  rcases Nat.lt_or_ge i m with h1 | h1
  · rw [List.getElem?_append_left (by omega)] at hy
    obtain ⟨a', n', c', h2, h3, h4⟩ := hr i y hy
    exact ⟨a', n', c', by rw [List.getElem?_append_left (by omega)]; exact h2, h3.grown (fun _ _ _ _ h => h) hg (fun b off ha => (h4 b off ha).2.2), fun b off ha => hne b (h4 b off ha)⟩
  · have hi : i = m := by
      have := (List.getElem?_eq_some_iff.1 hy).1
      simp [hl] at this; omega
    subst hi
    rw [List.getElem?_append_right (by omega), hl, Nat.sub_self] at hy
    simp at hy; subst hy
    exact ⟨a, n, c, by rw [List.getElem?_append_right (by omega), hlv]; simp, hx.grown (fun _ _ _ _ h => h) hg (fun b off ha => (hxa b off ha).2.2), fun b off ha => hne b (hxa b off ha)⟩
theorem RowsLo.sl {ad : Option Addr} {c : Nat} (h : RowsLo w B e (.slice ad m c) m ls) : Sl 1 FRow w ad m ls := by
  obtain ⟨hl, vs, ho, hr⟩ := h
  refine ⟨hl, fun hn => ?_⟩
  rcases ho.2 with ⟨_, h0⟩ | ⟨g, cap, cur, hv, hb, hg, _⟩
  · omega
  · simp only [Value.slice.injEq] at hv
    obtain ⟨rfl, _, rfl⟩ := hv
    refine ⟨g, 0, rfl, ?_, fun i x hi => ?_⟩
    · rcases Nat.lt_or_ge g w.heap.size with hlt | hge
      · exact hlt
      · rw [Array.getElem?_eq_none hge] at hg; cases hg
    · obtain ⟨a, n, c', h1, h2, _⟩ := hr i x hi
      refine ⟨[.slice a n c'], rfl, ⟨a, n, c', rfl, h2⟩, fun j u hj => ?_⟩
      have hj0 : j = 0 := by have := (List.getElem?_eq_some_iff.1 hj).1; simp at this; omega
      subst hj0
      simp at hj; subst hj
      have hil : i < m := by have := (List.getElem?_eq_some_iff.1 hi).1; omega
      have := ho.cellAt i (by omega)
      rw [h1] at this
      simpa using this
theorem RowsLo.shape (h : RowsLo w B e v m ls) : ∃ a c, v = .slice a m c := by
  obtain ⟨_, vs, ho, _⟩ := h
  obtain ⟨a, c, rfl, _⟩ := own_slice ho
  exact ⟨a, c, rfl⟩
/-- A row that a call has grown lies apart from all blocks that stood ahead of it. -/
theorem own_apartLo {w1 : World} {e' : TypeId} {size n c : Nat} {ad : Option Addr} {ys : List Value} (h : RowsLo w B e v m ls) (hB : B ≤ w.heap.size) (hy : w1.ownsRow w.heap.size e' size (.slice ad n c) n ys) : ∀ b off, ad = some ⟨b, off, none⟩ → B ≤ b ∧ b < w1.heap.size ∧ some b ≠ v.ownBlock := by
  rintro b off rfl
  obtain ⟨_, vs, ho, _⟩ := h
  rcases hy.2 with ⟨h1, _⟩ | ⟨g, cap, cur, hv, hb, hg, _⟩
  · cases h1
  · simp only [Value.slice.injEq, Option.some.injEq] at hv
    obtain ⟨hv, _, _⟩ := hv
    cases hv
    refine ⟨Nat.le_trans hB hb, (Array.getElem?_eq_some_iff.1 hg).1, fun h => ?_⟩
    have := (ho.lt b h.symm).2
    omega
end
/-- All that stood ahead of block H stands as it did, but for block x. -/
structure But (H x : Nat) (w w' : World) : Prop where
  os : w'.os = w.os
  tape : w'.tape = w.tape
  output : w'.output = w.output
  size : H ≤ w'.heap.size
  block : ∀ k, k < H → k ≠ x → w'.heap[k]? = w.heap[k]?
section
variable {H x : Nat} {w w' w'' : World}
theorem But.refl (h : H ≤ w.heap.size) : But H x w w := ⟨rfl, rfl, rfl, h, fun _ _ _ => rfl⟩
theorem But.below {B : Nat} (h : But H x w w') (hb : Below B w' w'') (hB : H ≤ B) : But H x w w'' :=
  ⟨hb.os.trans h.os, hb.tape.trans h.tape, hb.output.trans h.output, Nat.le_trans h.size hb.size, fun k hk hx => (hb.block k (by omega)).trans (h.block k hk hx)⟩
theorem But.call (h : But H x w w') (hb : Below w'.heap.size w' w'') : But H x w w'' := h.below hb h.size
theorem But.set (h : But H x w w') (j : Nat) (u : Value) : But H x w (w'.setCell ⟨x, j, none⟩ u) :=
  ⟨h.os, h.tape, h.output, by simpa using h.size, fun k hk hx => (Below.heap_setCell _ _ _ _ (fun e => hx (by first | exact e | exact e.symm))).trans (h.block k hk hx)⟩
theorem But.grown {row : Option Nat} (h : But H x w w') (hg : w'.grownBy w'' row) (hr : ∀ b, row = some b → H ≤ b) : But H x w w'' :=
  ⟨hg.os.trans h.os, hg.tape.trans h.tape, hg.output.trans h.output, Nat.le_trans h.size hg.size, fun k hk hx => (hg.block k (by have := h.size; omega) (fun e => by have := hr k e.symm; omega)).trans (h.block k hk hx)⟩
theorem But.cell (h : But H x w w') {b off : Nat} (hb : b < H) (hx : b ≠ x) : w'.cell? ⟨b, off, none⟩ = w.cell? ⟨b, off, none⟩ := by
  unfold World.cell?
  simp only [h.block b hb hx]
theorem Sl.but {α : Type} {size n : Nat} {R : Rd α} {a : Option Addr} {xs : List α} (h : Sl size R w a n xs) (hR : ∀ cs x, R w cs x → R w' cs x) (hb : But H x w w') (ha : ∀ b off, a = some ⟨b, off, none⟩ → b < H ∧ b ≠ x) : Sl size R w' a n xs := by
  refine ⟨h.1, fun hn => ?_⟩
  obtain ⟨b, off, e, hlt, hc⟩ := h.2 hn
  have h1 := ha b off e
  refine ⟨b, off, e, by have := hb.size; omega, fun i y hy => ?_⟩
  obtain ⟨cs, hl, hr, hcell⟩ := hc i y hy
  exact ⟨cs, hl, hR _ _ hr, fun j v hj => (hb.cell h1.1 h1.2).trans (hcell j v hj)⟩
/-- The rows, in a world that parts in a block ahead of them. -/
theorem RowsLo.but {B m : Nat} {e : TypeId} {v : Value} {ls : List (List CellD)} (h : RowsLo w B e v m ls) (hx : x < B) (hb : But w.heap.size x w w') : RowsLo w' B e v m ls := by
  obtain ⟨hl, vs, ho, hr⟩ := h
  refine ⟨hl, vs, ⟨ho.1, ?_⟩, fun i y hy => ?_⟩
  · rcases ho.2 with h0 | ⟨g, cap, cur, h1, h2, h3, rest⟩
    · exact .inl h0
    · exact .inr ⟨g, cap, cur, h1, h2, by rw [hb.block g (Array.getElem?_eq_some_iff.1 h3).1 (by omega)]; exact h3, rest⟩
  · obtain ⟨a, n, c, h1, h2, h3⟩ := hr i y hy
    exact ⟨a, n, c, h1, h2.but (fun _ _ h => h) hb (fun b off ha => ⟨(h3 b off ha).2.1, by have := (h3 b off ha).1; omega⟩), fun b off ha => ⟨(h3 b off ha).1, Nat.lt_of_lt_of_le (h3 b off ha).2.1 hb.size, (h3 b off ha).2.2⟩⟩
end
theorem Box.grown {w w' : World} {b : Nat} {cs : Array Value} {row : Option Nat} (h : Box w b cs) (hg : w.grownBy w' row) (hne : some b ≠ row) : Box w' b cs :=
  ⟨fun i v hv => by
    have e := h.cells i v hv
    unfold World.cell? at e ⊢
    simp only [hg.block b h.lt hne]
    exact e, fun i => by
    have e := h.soft i
    unfold World.frozen? at e ⊢
    simp only [hg.block b h.lt hne]
    exact e, Nat.lt_of_lt_of_le h.lt hg.size⟩
theorem Sl.drew1 {n : Nat} {w : World} {a : Option Addr} {xs : List CellD} (h : Sl 3 CellR w a n xs) : Sl 3 CellR w.drew a n xs := h.below CellR.stable (Below.refl _ _).drew
theorem Sl.mapOf {α β : Type} {size : Nat} {R : Rd β} {g : α → β} {w : World} {a : Option Addr} {n : Nat} {xs : List α} (h : Sl size (fun w cs x => R w cs (g x)) w a n xs) : Sl size R w a n (xs.map g) := by
  refine ⟨by rw [List.length_map]; exact h.1, fun hn => ?_⟩
  obtain ⟨b, off, ha, hlt, hc⟩ := h.2 hn
  refine ⟨b, off, ha, hlt, fun i y hy => ?_⟩
  rw [List.getElem?_map] at hy
  obtain ⟨x, hx, rfl⟩ := Option.map_eq_some_iff.1 hy
  exact hc i x hx
theorem own_far {w : World} {B e size n : Nat} {v : Value} {xs : List Value} {p : Addr} (h : w.ownsRow B e size v n xs) (hp : v.ownBlock ≠ some p.block) (u : Value) : (w.setCell p u).ownsRow B e size v n xs := by
  refine h.kept (row := some p.block) ⟨rfl, rfl, rfl, by simp [World.setCell], fun k hk hne => Below.heap_setCell _ _ _ _ (fun e => hne (by rw [e]))⟩ (.inr hp)
end Go.Proofs.Ytkofaoaglnjkgaa

namespace Go.Proofs.Ytkofaoaglnjkgaa
open Go.RowKit Go.Deep
set_option linter.unusedVariables false
set_option linter.unusedSimpArgs false

section
variable {P : Program} {ops : Array Oper} {md : Region.Mode} {C : World → Prop}
/-- The first operations, in whatever order. -/
def wpAnyK (P : Program) (md : Region.Mode) (ops : Array Oper) (C : World → Prop) (n : Nat) (L : Array Bool → Act → Prop) : Nat → Array Bool → Act → Prop
  | 0, listed, a => L listed a
  | f + 1, listed, a => Region.ready md ops listed ≠ [] ∧ ∀ i ∈ Region.ready md ops listed, i < n ∧ qOp P ops C i (wpAnyK P md ops C n L f (listed.setIfInBounds i true)) a
theorem wpAny_of_headK {n g : Nat} {L : Array Bool → Act → Prop} {Q' : Exit → Act → World → Prop} (hL : ∀ listed a w, C w → L listed a → wpAny P md ops Q' g listed a w) :
    ∀ (f : Nat) (listed : Array Bool) (a : Act) (w : World), C w → wpAnyK P md ops C n L f listed a → wpAny P md ops Q' (f + g) listed a w
  | 0, listed, a, w, hw, h => by rw [Nat.zero_add]; exact hL _ _ _ hw h
  | f + 1, listed, a, w, hw, h => by
    rw [show f + 1 + g = (f + g) + 1 by omega]
    exact ⟨fun h0 => absurd h0 h.1, fun i hi => wpOp_of_qOp hw (fun a' w' hw' h' => wpAny_of_headK hL f _ a' w' hw' h') (h.2 i hi).2⟩
theorem wpAnyK_first {n i : Nat} {oi : Oper} {v : Value} {L : Array Bool → Act → Prop} (hi : ops[i]? = some oi) (hsel : ∀ (j : Nat) (o : Oper) cs b, ops[j]? = some o → o.op ≠ .select cs b)
    (hs : Region.sinkB md ops n = true) (hc : Region.chainB md ops n = true) (hn : n < ops.size) (hin : i < n)
    (hdone : ∀ listed a, L listed a → ∀ j ∈ Region.ready md ops listed, n ≤ j) :
    ∀ (f : Nat) (listed : Array Bool) (a : Act), HeadInv md ops n listed →
      (∀ j oj, ops[j]? = some oj → j ≠ i → listed.getD j true = false → (∀ e ∈ oj.after, Region.binds md e = true → e.on ≠ i) → oi.apart ops oj = true) →
      i ∈ Region.ready md ops listed → YieldsIn P ops C oi v a →
      wpAnyK P md ops C n L f (listed.setIfInBounds i true) (a.put oi.dst v) → wpAnyK P md ops C n L (f + 1) listed a := by
  intro f
  induction f with
  | zero =>
    intro listed a inv _ hr hy H
    have hun := (mem_ready.1 hr).1
    refine ⟨fun h => (by rw [h] at hr; cases hr), fun j hj => ?_⟩
    have hjn : j < n := by
      rcases Nat.lt_or_ge j n with h | h
      · exact h
      · exact absurd hj (tail_waits hs hc hn inv _ i rfl hin hun j h)
    refine ⟨hjn, ?_⟩
    by_cases hji : j = i
    · subst hji; exact hy.qOp hi H
    · have := hdone _ _ H j (ready_mono hj hji)
      omega
  | succ f ih =>
    intro listed a inv hfree hr hy H
    have hun := (mem_ready.1 hr).1
    refine ⟨fun h => (by rw [h] at hr; cases hr), fun j hj => ?_⟩
    have hjn : j < n := by
      rcases Nat.lt_or_ge j n with h | h
      · exact h
      · exact absurd hj (tail_waits hs hc hn inv _ i rfl hin hun j h)
    refine ⟨hjn, ?_⟩
    by_cases hji : j = i
    · subst hji; exact hy.qOp hi H
    · have h1 := (H.2 j (ready_mono hj hji)).2
      obtain ⟨hjun, oj, hoj, hall⟩ := mem_ready.1 hj
      have hnot : ∀ e ∈ oj.after, Region.binds md e = true → e.on ≠ i := fun e he hb heq => by
        have h1 := hall e he hb
        rw [heq, getD_both hun] at h1
        cases h1
      have h2 := qOp_put hoj (hfree j oj hoj hji hjun hnot) (fun cs b => hsel i oi cs b hi) (fun cs b => hsel j oj cs b hoj) hy h1
      have hfree' : ∀ k ok, ops[k]? = some ok → k ≠ i → (listed.setIfInBounds j true).getD k true = false →
          (∀ e ∈ ok.after, Region.binds md e = true → e.on ≠ i) → oi.apart ops ok = true := fun k ok hk hki hun hno => by
        refine hfree k ok hk hki ?_ hno
        by_cases hjk : j = k
        · subst hjk; exact hjun
        · rw [getD_set_ne true hjk] at hun; exact hun
      refine qOp_mono (fun a' h3 => ih (listed.setIfInBounds j true) a' (inv.set hj hjn) hfree' (ready_mono hr (Ne.symm hji)) h3.1 ?_) h2
      rw [Array.setIfInBounds_comm _ _ hji]
      exact h3.2
theorem wpAnyK_lex {n g : Nat} {Lq : Act → Prop} (hsel : Region.noSelect ops = true) (hs : Region.sinkB md ops n = true) (hc : Region.chainB md ops n = true) (hn : n < ops.size) :
    ∀ (l : List Oper) (k : Nat) (listed : Array Bool) (a : Act), (∀ j, j < l.length → l[j]? = ops[k + j]?) → k + l.length = n → HeadInv md ops n listed →
    Region.lexHead md ops g l.length k listed = true → wpQuiet P ops C Lq l a →
    wpAnyK P md ops C n (fun listed' a' => Region.seqB md ops g n listed' = true ∧ Lq a') l.length listed a
  | [], k, listed, a, _, hk, _, hB, h => by
    have : k = n := by simpa using hk
    subst this
    exact ⟨by simpa [Region.lexHead] using hB, h⟩
  | o :: l, k, listed, a, hl, hk, inv, hB, h => by
    have h0 : ops[k]? = some o := by simpa using (hl 0 (by simp)).symm
    simp only [List.length_cons, Region.lexHead, Bool.and_eq_true] at hB
    obtain ⟨⟨hr, hf⟩, hB'⟩ := hB
    have hkn : k < n := by simp only [List.length_cons] at hk; omega
    have hr' : k ∈ Region.ready md ops listed := by simpa using hr
    have hst : qOp P ops C k (wpQuiet P ops C Lq l) a := by unfold qOp; simp only [h0]; exact h
    obtain ⟨v, hy, hK⟩ := yieldsIn_of_qOp h0 hst
    exact wpAnyK_first h0 (Region.noSelect_spec hsel) hs hc hn hkn (fun listed' a' hL => seqB_ready hL.1) l.length listed a inv (Region.free_spec h0 hf) hr' hy
      (wpAnyK_lex hsel hs hc hn l (k + 1) _ _ (fun j hj => by have := hl (j + 1) (by simp; omega); simpa [Nat.add_assoc, Nat.add_comm 1 j] using this) (by simp only [List.length_cons] at hk; omega) (inv.set hr' hkn) hB' hK)
theorem wp_region_class_tail {id : Nat} {Q : Exit → Act → World → Prop} {a : Act} {w : World} {l : List Oper} (n : Nat) (hm : P.follows .mixedOrders = true) (hB : Region.lexTailB .any l.toArray n = true) (hC : C { w with drawn := w.drawn + 1 })
    (h : wpQuiet P l.toArray C (fun a' => ∀ W, C W → wpList P l.toArray Q (l.drop n) a' W) (l.take n) a) : (Code.region id l.toArray true).wp P Q a w := by
  simp only [Region.lexTailB, Bool.and_eq_true, decide_eq_true_eq] at hB
  obtain ⟨⟨⟨⟨hsel, hn⟩, hs⟩, hc⟩, hlex⟩ := hB
  have hn' : n < l.length := by simpa using hn
  have htl : (l.take n).length = n := by simp; omega
  have hdl : (l.drop n).length = l.toArray.size - n := by simp
  have inv0 : HeadInv .any l.toArray n (Array.replicate l.toArray.size false) :=
    ⟨by simp, fun j oj _ hl => (by rw [getD_replicate_false] at hl; cases hl), fun t _ ht => getD_in (by simpa using ht) (getD_replicate_false _ _)⟩
  have H := wpAnyK_lex (md := .any) (g := l.toArray.size - n) hsel hs hc hn (l.take n) 0 _ a (fun j hj => by
    have hj' : j < n := by rw [htl] at hj; exact hj
    simp [hj']) (by simpa using htl) inv0 (by rw [htl]; exact hlex) h
  refine wp_region_any hm ?_
  have := wpAny_of_headK (Q' := Q) (g := l.toArray.size - n) (fun listed a' w' hw' hL => by
    have := wpAny_of_seq (md := .any) (Q' := Q) (l.drop n) n listed a' w' (fun j => by simp [List.getElem?_drop]) (by rw [hdl]; exact hL.1) (hL.2 w' hw')
    rwa [hdl] at this) _ _ _ _ hC H
  rw [htl, show n + (l.toArray.size - n) = l.toArray.size by omega] at this
  exact this
theorem wp_region_kept_tail {id : Nat} {Q : Exit → Act → World → Prop} {a : Act} {w : World} {l : List Oper} (n : Nat) (hm : P.follows .mixedOrders = true) (hB : Region.lexTailB .any l.toArray n = true)
    (h : wpQuiet P l.toArray (fun W => ∃ g : Kept w, W = g.W) (fun a' => ∀ W, Below w.heap.size w W → wpList P l.toArray Q (l.drop n) a' W) (l.take n) a) : (Code.region id l.toArray true).wp P Q a w := by
  refine wp_region_class_tail (C := fun W => ∃ g : Kept w, W = g.W) n hm hB ⟨⟨w.drew, (Below.refl _ _).drew⟩, rfl⟩ ?_
  have hf : (fun a' => ∀ W, (∃ g : Kept w, W = g.W) → wpList P l.toArray Q (l.drop n) a' W) = (fun a' => ∀ W, Below w.heap.size w W → wpList P l.toArray Q (l.drop n) a' W) := by
    funext a'
    apply propext
    constructor
    · intro h W hW; exact h W ⟨⟨W, hW⟩, rfl⟩
    · rintro h _ ⟨g, rfl⟩; exact h _ g.h
  rw [hf]
  exact h
end
end Go.Proofs.Ytkofaoaglnjkgaa

namespace Go.Proofs.Ytkofaoaglnjkgaa
open Go.RowKit Go.Deep
def Hold (p : Prop) : Prop := p
theorem Hold.out {p : Prop} (h : Hold p) : p := h
end Go.Proofs.Ytkofaoaglnjkgaa
