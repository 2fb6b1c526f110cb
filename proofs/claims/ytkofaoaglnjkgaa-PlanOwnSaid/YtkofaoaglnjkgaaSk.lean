/- Words for data in memory: numbers, strings, structs, slices of whatever. -/
import Derived.WalkKit
import Derived.ProofKit
import Derived.Lib.Hide
import Derived.Deep.Draws
import Derived.Deep.Slices
import Derived.ChangeSame
import Derived.OpenShut
namespace Go.Proofs.Ytkofaoaglnjkgaa
open Go.RowKit Go.Deep
set_option linter.unusedVariables false
set_option linter.unusedSimpArgs false

/-- What reads as a thing: cells, in a world. -/
abbrev Rd (α : Type) := World → List Value → α → Prop
def Stable {α : Type} (R : Rd α) : Prop := ∀ (w w' : World) (cs : List Value) (x : α), Below w.heap.size w w' → R w cs x → R w' cs x

def NatR (k : IntKind) : Rd Nat := fun _ cs x => cs = [.int k (x : Int)]
def IntR (k : IntKind) : Rd Int := fun _ cs x => cs = [.int k x]
def BoolR : Rd Bool := fun _ cs x => cs = [.bool x]
def StrR : Rd ByteArray := fun _ cs s => cs = [.string s] ∧ s.size ≤ maxLen
theorem NatR.stable {k : IntKind} : Stable (NatR k) := fun _ _ _ _ _ h => h
theorem IntR.stable {k : IntKind} : Stable (IntR k) := fun _ _ _ _ _ h => h
theorem BoolR.stable : Stable BoolR := fun _ _ _ _ _ h => h
theorem StrR.stable : Stable StrR := fun _ _ _ _ _ h => h

/-- A slice value that reads as a list: n elements of size cells. -/
def Sl {α : Type} (size : Nat) (R : Rd α) (w : World) (a : Option Addr) (n : Nat) (xs : List α) : Prop :=
  xs.length = n ∧ (0 < n → ∃ b off, a = some ⟨b, off, none⟩ ∧ b < w.heap.size ∧
    ∀ i x, xs[i]? = some x → ∃ cs : List Value, cs.length = size ∧ R w cs x ∧ ∀ j v, cs[j]? = some v → w.cell? ⟨b, off + i * size + j, none⟩ = some v)
/-- The cell of a slice. -/
def SlR {α : Type} (size : Nat) (R : Rd α) : Rd (List α) := fun w cs xs => ∃ a n c, cs = [.slice a n c] ∧ n ≤ c ∧ c ≤ maxLen ∧ (a = none → c = 0) ∧ Sl size R w a n xs

section
variable {α : Type} {size : Nat} {R : Rd α} {w w' : World} {a : Option Addr} {n : Nat} {xs : List α}
theorem Sl.below (h : Sl size R w a n xs) (hs : Stable R) (hb : Below w.heap.size w w') : Sl size R w' a n xs := by
  refine ⟨h.1, fun hn => ?_⟩
  obtain ⟨b, off, ha, hlt, hc⟩ := h.2 hn
  refine ⟨b, off, ha, Nat.lt_of_lt_of_le hlt hb.size, fun i x hx => ?_⟩
  obtain ⟨cs, hl, hr, hcell⟩ := hc i x hx
  exact ⟨cs, hl, hs _ _ _ _ hb hr, fun j v hj => (hb.cell (p := ⟨b, off + i * size + j, none⟩) hlt).trans (hcell j v hj)⟩
theorem Sl.nil_ (R : Rd α) (size : Nat) (w : World) : Sl size R w none 0 [] := ⟨rfl, fun h => absurd h (by omega)⟩
theorem Sl.empty (R : Rd α) (size : Nat) (w : World) (a : Option Addr) : Sl size R w a 0 [] := ⟨rfl, fun h => absurd h (by omega)⟩
theorem SlR.stable (hs : Stable R) : Stable (SlR size R) := by
  rintro w w' cs x hb ⟨a, n, c, rfl, h1, h2, h3, h⟩
  exact ⟨a, n, c, rfl, h1, h2, h3, h.below hs hb⟩
theorem Sl.at_ (h : Sl size R w a n xs) {i : Nat} (hi : i < n) : ∃ b off x cs, a = some ⟨b, off, none⟩ ∧ b < w.heap.size ∧ xs[i]? = some x ∧ cs.length = size ∧ R w cs x ∧ ∀ j v, cs[j]? = some v → w.cell? ⟨b, off + i * size + j, none⟩ = some v := by
  obtain ⟨b, off, ha, hlt, hc⟩ := h.2 (by omega)
  have hx : xs[i]? = some (xs[i]'(by rw [h.1]; exact hi)) := List.getElem?_eq_getElem _
  obtain ⟨cs, hl, hr, hcell⟩ := hc i _ hx
  exact ⟨b, off, _, cs, ha, hlt, hx, hl, hr, hcell⟩
theorem Sl.at1 {R : Rd α} (h : Sl 1 R w a n xs) {i : Nat} (hi : i < n) : ∃ b off x v, a = some ⟨b, off, none⟩ ∧ b < w.heap.size ∧ xs[i]? = some x ∧ R w [v] x ∧ w.cell? ⟨b, off + i, none⟩ = some v := by
  obtain ⟨b, off, x, cs, ha, hb, hx, hl, hr, hc⟩ := h.at_ hi
  match cs, hl with
  | [v], _ =>
    have := hc 0 v rfl
    rw [Nat.mul_one, Nat.add_zero] at this
    exact ⟨b, off, x, v, ha, hb, hx, hr, this⟩
theorem Sl.drewN (h : Sl size R w a n xs) (hs : Stable R) (q : Nat) : Sl size R (w.drewN q) a n xs := h.below hs ⟨rfl, rfl, rfl, Nat.le_refl _, fun _ _ => rfl⟩
theorem Sl.alloc (h : Sl size R w a n xs) (hs : Stable R) (o : Obj) : Sl size R (w.alloc o) a n xs := h.below hs ((Below.refl _ _).alloc (Nat.le_refl _) _)
end
theorem below_drewN {B : Nat} {a w : World} (h : Below B a w) (n : Nat) : Below B a (w.drewN n) := ⟨h.os, h.tape, h.output, h.size, h.block⟩
theorem below_append {w w1 wr : World} {e n size : Nat} {v : Value} {xs : List Value} {o : Obj} (hown : wr.ownsRow w.heap.size e size v n xs) (hb : Below w.heap.size w wr) (hg : (wr.alloc o).grownBy w1 v.ownBlock) : Below w.heap.size w w1 :=
  (hb.alloc hb.size o).grown hg (by simp; exact Nat.le_succ_of_le hb.size) (fun k hk => (hown.lt k hk).1)

/-- The program's own reading of a type gives ours. -/
def Opens {α : Type} (H : Type) (enc : TypeId × Value → H) (P : Program) (t : TypeId) (size : Nat) (R : Rd α) : Prop :=
  ∀ (w : World) (base : Nat) (spare : Nat → Bool) (held : Bool) (fuel : Nat) (cs : List Value) (y : DataW H × List MemPlace), DataW.trod enc P w base spare held fuel t cs = some y → cs.length = size ∧ ∃ x, R w cs x
section
variable {H : Type} {enc : TypeId × Value → H} {P : Program}
theorem opens_nat {t : TypeId} {k : IntKind} (ht : P.underlying t = some (.int k)) (hk : ∀ n, (Lit.int k n).wf = true → 0 ≤ n) : Opens H enc P t 1 (fun w cs x => NatR k w cs x ∧ (Lit.int k (x : Int)).wf = true) := by
  intro w base spare held fuel cs y h
  obtain ⟨n, rfl, _, hw⟩ := DataW.trod_int ht h
  exact ⟨rfl, n.toNat, by unfold NatR; rw [Int.toNat_of_nonneg (hk n hw)], by rw [Int.toNat_of_nonneg (hk n hw)]; exact hw⟩
theorem opens_int {t : TypeId} {k : IntKind} (ht : P.underlying t = some (.int k)) : Opens H enc P t 1 (fun w cs x => IntR k w cs x ∧ (Lit.int k x).wf = true) := by
  intro w base spare held fuel cs y h
  obtain ⟨n, rfl, _, hw⟩ := DataW.trod_int ht h
  exact ⟨rfl, n, rfl, hw⟩
theorem opens_bool {t : TypeId} (ht : P.underlying t = some .bool) : Opens H enc P t 1 BoolR := by
  intro w base spare held fuel cs y h
  obtain ⟨b, rfl, _⟩ := DataW.trod_bool ht h
  exact ⟨rfl, b, rfl⟩
theorem opens_str {t : TypeId} (ht : P.underlying t = some .string) : Opens H enc P t 1 StrR := by
  intro w base spare held fuel cs y h
  obtain ⟨s, rfl, _, hs⟩ := DataW.trod_string ht h
  exact ⟨rfl, s, rfl, hs⟩
theorem list_of_choice {α : Type} {p : Nat → α → Prop} : ∀ (n : Nat), (∀ i, i < n → ∃ x, p i x) → ∃ xs : List α, xs.length = n ∧ ∀ i x, xs[i]? = some x → p i x
  | 0, _ => ⟨[], rfl, fun i x h => by simp at h⟩
  | n + 1, h => by
    obtain ⟨xs, hl, hp⟩ := list_of_choice n (fun i hi => h i (by omega))
    obtain ⟨x, hx⟩ := h n (by omega)
    refine ⟨xs ++ [x], by simp [hl], fun i y hy => ?_⟩
    by_cases hi : i < n
    · rw [List.getElem?_append_left (by omega)] at hy; exact hp i y hy
    · have : i = n := by
        rcases Nat.lt_or_ge i (n + 1) with h1 | h1
        · omega
        · rw [List.getElem?_eq_none (by simp [hl]; omega)] at hy; cases hy
      subst this
      rw [List.getElem?_append_right (by omega)] at hy
      simp [hl] at hy; subst hy; exact hx
theorem opens_slice {α : Type} {R : Rd α} {t e : TypeId} {size : Nat} (ht : P.underlying t = some (.slice e)) (hc : P.cellsOf e = size) (hpos : 0 < size) (ho : Opens H enc P e size R) : Opens H enc P t 1 (SlR size R) := by
  intro w base spare held fuel cs y h
  rcases open_slice ht h with ⟨rfl, _⟩ | ⟨a, len, cap, m, n, D, Pl, rfl, hb, hl, hm, hmm, _, hi⟩
  · exact ⟨rfl, [], none, 0, 0, rfl, Nat.le_refl _, by unfold maxLen; omega, fun _ => rfl, Sl.nil_ _ _ _⟩
  · refine ⟨rfl, ?_⟩
    rw [hc] at hi
    have hlm : len ≤ m := by rw [hmm]; split <;> omega
    have key : ∀ i, i < len → ∃ x, ∃ cs : List Value, cs.length = size ∧ R w cs x ∧ ∀ j v, cs[j]? = some v → w.cell? ((a.add (i * size)).add j) = some v := by
      intro i hil
      obtain ⟨cs', hcs, htr⟩ := hi i (by omega)
      obtain ⟨hln, x, hx⟩ := ho _ _ _ _ _ _ _ htr
      obtain ⟨_, hcl, hat⟩ := World.cells?_some hcs
      exact ⟨x, cs', hln, hx, fun j v hj => by
        have hjl : j < size := by
          rcases Nat.lt_or_ge j size with h1 | h1
          · exact h1
          · rw [List.getElem?_eq_none (by omega)] at hj; cases hj
        exact (hat j hjl).trans hj⟩
    obtain ⟨xs, hxl, hxs⟩ := list_of_choice len key
    refine ⟨xs, some a, len, cap, rfl, hl, hm, (fun h => by cases h), hxl, fun hn => ?_⟩
    obtain ⟨b, off, spot⟩ := a
    have hspot : spot = none ∧ b < w.heap.size := by
      obtain ⟨cs, hcl, _, hcell⟩ := hxs 0 _ (List.getElem?_eq_getElem (by omega))
      have h0 := hcell 0 _ (List.getElem?_eq_getElem (by omega))
      have h1 : w.cell? ⟨b, off, spot⟩ = some (cs[0]'(by omega)) := by simpa [Addr.add] using h0
      exact ⟨World.cell?_spot h1, World.block_lt_of_cell? w _ h1⟩
    obtain ⟨rfl, hlt⟩ := hspot
    refine ⟨b, off, rfl, hlt, fun i x hx => ?_⟩
    obtain ⟨cs, hcl, hr, hcell⟩ := hxs i x hx
    refine ⟨cs, hcl, hr, fun j v hj => ?_⟩
    have := hcell j v hj
    rw [add_add] at this
    have hplain : (⟨b, off, none⟩ : Addr).add (i * size + j) = ⟨b, off + i * size + j, none⟩ := by unfold Addr.add; split <;> simp_all [Nat.add_assoc]
    rwa [hplain] at this
/-- A struct, field by field: what is known of each field's cells. -/
theorem opens_struct {α : Type} {R : Rd α} {t : TypeId} {fs : Array Field} {size : Nat} (ht : P.underlying t = some (.struct fs)) (hc : P.cellsOf t = size)
    (hR : ∀ (w : World) (base : Nat) (spare : Nat → Bool) (held : Bool) (n : Nat) (cs : List Value), cs.length = size → (∀ (i : Nat) (f : Field), fs[i]? = some f → ∃ y, DataW.trod enc P w base spare held n f.type ((cs.drop f.offset).take (P.cellsOf f.type)) = some y) → ∃ x, R w cs x) : Opens H enc P t size R := by
  intro w base spare held fuel cs y h
  obtain ⟨xs, n, _, _, hl, hxl, hf⟩ := DataW.trod_struct ht h
  refine ⟨hl.trans hc, hR w base spare held n cs (hl.trans hc) fun i f hi => ?_⟩
  have hil : i < fs.size := (Array.getElem?_eq_some_iff.1 hi).1
  exact ⟨_, (hf i f hi).trans (List.getElem?_eq_getElem (by omega))⟩
end

/-- Cells that a slice value leads to. -/
def Lies (w : World) (ad : Option Addr) (n size : Nat) (vs : List Value) : Prop :=
  vs.length = n * size ∧ (0 < n → ∃ b off, ad = some ⟨b, off, none⟩ ∧ ∀ j v, vs[j]? = some v → w.cell? ⟨b, off + j, none⟩ = some v)
/-- 'append(s, x...)': onto a row of the call's own, cells that lie somewhere. -/
theorem wpList_append_vals {P : Program} (w : World) {ops : Array Oper} {rest : List Oper} {o : Oper} {a : Act} {Q : Exit → Act → World → Prop} (hgd : o.guard = none) (s x : Operand) (t : TypeId)
    (ho : o.op = .call { callee := .builtin .append, args := #[s, x], argTypes := #[t, t] })
    (B : Nat) (e : TypeId) (i : TypeInfo) (z : Value) (size bytes : Nat) (ht : P.underlying t = some (.slice e)) (hi : P.info? e = some i) (hz : i.zero = some z)
    (hsize : i.size = size) (hby : i.bytes = bytes) (hzs : z.cells.size = size) (hpos : 0 < size)
    (v : Value) (n0 : Nat) (vs0 : List Value) (hs : a.eval s = v) (hown : w.ownsRow B e size v n0 vs0)
    (ad : Option Addr) (n c : Nat) (vs : List Value) (hx : a.eval x = .slice ad n c) (hn : Lies w ad n size vs) (h1 : ∀ u ∈ vs, u.oneCell' = true) (h63 : n0 + n ≤ maxLen) (hbytes : (n0 + n) * bytes ≤ 140737488355328) (hbase : B ≤ w.heap.size) (hnil : ad = none → c = 0)
    (h : ∀ v' w', w'.ownsRow B e size v' (n0 + n) (vs0 ++ vs) → w.grownBy w' v.ownBlock → (v ≠ .slice none 0 0 → v' ≠ .slice none 0 0) → wpList P ops Q rest (a.put o.dst v') w') : wpList P ops Q (o :: rest) a w := by
  refine wpList_plain hgd fun K hK => ?_
  have key : ∃ v' w', (Builtin.append_ #[t, t] o.type #[v, .slice ad n c]).run P w = .ok v' w' ∧ w'.ownsRow B e size v' (n0 + n) (vs0 ++ vs) ∧ w.grownBy w' v.ownBlock ∧ (v ≠ .slice none 0 0 → v' ≠ .slice none 0 0) := by
    cases ad with
    | none =>
      have hn0 : n = 0 := by
        rcases Nat.eq_zero_or_pos n with h0 | h0
        · exact h0
        · obtain ⟨_, _, e, _⟩ := hn.2 h0; cases e
      have hx0 : vs = [] := List.eq_nil_of_length_eq_zero (by rw [hn.1, hn0, Nat.zero_mul])
      have hc0 := hnil rfl
      subst hn0 hx0 hc0
      exact ⟨v, w, run_append_owned_none (P := P) w B t o.type e i size ht hi v n0 _ hown, by simpa using hown, ⟨rfl, rfl, rfl, Nat.le_refl _, fun _ _ _ => rfl⟩, fun h => h⟩
    | some ad =>
      obtain ⟨v', w', hr, h2, h3, h4⟩ := run_append_own (P := P) w B t o.type e i z size bytes ht hi hz hsize hby hzs hpos v n0 _ hown ad n c vs hn.1
        (fun j u hj => by
          have hjl : j < vs.length := by
            rcases Nat.lt_or_ge j vs.length with h | h
            · exact h
            · rw [List.getElem?_eq_none h] at hj; cases hj
          have hnp : 0 < n := by
            rcases Nat.eq_zero_or_pos n with h0 | h0
            · rw [hn.1, h0, Nat.zero_mul] at hjl; omega
            · exact h0
          obtain ⟨b, off, e, hc⟩ := hn.2 hnp
          cases e
          have hplain : (⟨b, off, none⟩ : Addr).add j = ⟨b, off + j, none⟩ := by unfold Addr.add; split <;> simp_all
          rw [hplain]; exact hc j u hj) h1 h63 hbytes hbase
      exact ⟨v', w', hr, h2, h3, fun hv hv' => hv (h4.1 hv').1⟩
  obtain ⟨v', w', hr, h2, h3, h4⟩ := key
  unfold Oper.wp execOp
  simp only [ho, resolve, invoke, builtin, Sem.run_bind, Sem.run_pure, Result.andThen_ok, List.map_toArray, List.map_cons, List.map_nil, hs, hx, hr]
  exact hK _ _ (h v' w' h2 h3 h4)

/-- Strings as cells. -/
def strsV (xs : List ByteArray) : List Value := xs.map Value.string
theorem lies_strs {w : World} {ad : Option Addr} {n : Nat} {xs : List ByteArray} (h : Sl 1 StrR w ad n xs) : Lies w ad n 1 (strsV xs) := by
  refine ⟨by rw [strsV, List.length_map, h.1, Nat.mul_one], fun hn => ?_⟩
  obtain ⟨b, off, e, _, hc⟩ := h.2 hn
  refine ⟨b, off, e, fun j v hj => ?_⟩
  unfold strsV at hj
  rw [List.getElem?_map] at hj
  obtain ⟨x, hx, rfl⟩ := Option.map_eq_some_iff.1 hj
  obtain ⟨cs, hl, hr, hcell⟩ := hc j x hx
  obtain ⟨hcs, _⟩ := hr
  have := hcell 0 _ (by rw [hcs]; rfl)
  simpa using this
theorem strs_oneCell (xs : List ByteArray) : ∀ u ∈ strsV xs, u.oneCell' = true := by
  intro u hu
  unfold strsV at hu
  obtain ⟨y, _, rfl⟩ := List.mem_map.1 hu
  rfl
/-- A row of the call's own that reads as strings. -/
theorem sl_of_own_strs {w : World} {B e n c : Nat} {ad : Option Addr} {xs : List ByteArray} (h : w.ownsRow B e 1 (.slice ad n c) n (strsV xs)) (hx : ∀ x ∈ xs, x.size ≤ maxLen) : Sl 1 StrR w ad n xs := by
  have hl : xs.length = n := by have := h.1; rw [strsV, List.length_map] at this; omega
  refine ⟨hl, fun hn => ?_⟩
  rcases h.2 with ⟨_, h0⟩ | ⟨g, cap, cur, hv, hb, hg, _⟩
  · omega
  · simp only [Value.slice.injEq] at hv
    obtain ⟨rfl, _, rfl⟩ := hv
    refine ⟨g, 0, rfl, ?_, fun i x hi => ⟨[.string x], rfl, ⟨rfl, hx x (List.mem_of_getElem? hi)⟩, fun j v hj => ?_⟩⟩
    · rcases Nat.lt_or_ge g w.heap.size with hlt | hge
      · exact hlt
      · rw [Array.getElem?_eq_none hge] at hg; cases hg
    · have hil : i < n := by
        rcases Nat.lt_or_ge i n with h1 | h1
        · exact h1
        · rw [List.getElem?_eq_none (by omega)] at hi; cases hi
      cases j with
      | zero =>
        simp at hj; subst hj
        have := h.cellAt i (by omega)
        rw [strsV, List.getElem?_map, hi] at this
        simpa using this
      | succ j => simp at hj
theorem own_slice {w : World} {B e size n : Nat} {v : Value} {vs : List Value} (h : w.ownsRow B e size v n vs) : ∃ ad c, v = .slice ad n c ∧ n ≤ c ∧ c ≤ maxLen ∧ (ad = none → c = 0) := by
  rcases h.2 with ⟨rfl, rfl⟩ | ⟨g, cap, cur, rfl, _, _, h1, h2, _⟩
  · exact ⟨none, 0, rfl, Nat.le_refl _, by unfold maxLen; omega, fun _ => rfl⟩
  · exact ⟨_, cap, rfl, h1, h2, fun h => by cases h⟩
theorem below_lit {v1 v2 : World} {cs : Array Value} {e : Nat} (hg : (v1.alloc (.cells cs e)).grownBy v2 (Value.slice (some ⟨v1.heap.size, 0, none⟩) 0 0).ownBlock) : Below v1.heap.size v1 v2 :=
  ((Below.refl _ _).alloc (Nat.le_refl _) _).grown hg (by simp) (by intro k hk; simp [Value.ownBlock] at hk; omega)
end Go.Proofs.Ytkofaoaglnjkgaa
