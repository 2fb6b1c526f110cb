/- Words for data in memory: numbers, strings, structs, slices of whatever. A cell as plain data. The shapes of the program's data: fields, schemas, snapshots, tables. Predicates and statistics as plain data, and how they lie in memory. The first place where a test holds. The contract of slices.IndexFunc[[]catchment/api.Field,catchment/api.Field]: the first place where a test holds. A region in whatever order whose operations keep all that stood: one walk in the order of the text. Cells of a block that the call itself holds. A block that the call itself holds, wherever it stands. The blocks that a call has made for itself, one behind the other. Where a field stands: schema.Place, catchmentref08.Place. -/
import Derived.WalkKit
import Derived.ProofKit
import Derived.Lib.Hide
import Derived.Deep.Draws
import Derived.Deep.Slices
import Derived.ChangeSame
import Derived.OpenShut
import Derived.Test.YtmdgljbgjhpmcaaProg
import Derived.BigRegion
import Derived.BigQuiet
import Derived.Deep.QuietTactic
import Derived.WalkLawsBesides
import Derived.Handy
namespace Go.Proofs.Ytmdgljbgjhpmcaa
open Go.RowKit Go.Deep
set_option linter.unusedVariables false
set_option linter.unusedSimpArgs false

/-- What reads as a thing: cells, in a world. -/
abbrev Rd (α : Type) := World → List Value → α → Prop
def Stable {α : Type} (R : Rd α) : Prop := ∀ (w w' : World) (cs : List Value) (x : α), Below w.heap.size w w' → R w cs x → R w' cs x

def NatR (k : IntKind) : Rd Nat := fun _ cs x => cs = [.int k (x : Int)]
def IntR (k : IntKind) : Rd Int := fun _ cs x => cs = [.int k x]
def BoolR : Rd Bool := fun _ cs x => cs = [.bool x]
def StrR : Rd ByteArray := fun _ cs s => cs = [.string s] ∧ s.size ≤ maxLen
theorem NatR.stable {k : IntKind} : Stable (NatR k) := fun _ _ _ _ _ h => h
theorem IntR.stable {k : IntKind} : Stable (IntR k) := fun _ _ _ _ _ h => h
theorem BoolR.stable : Stable BoolR := fun _ _ _ _ _ h => h
theorem StrR.stable : Stable StrR := fun _ _ _ _ _ h => h

/-- A slice value that reads as a list: n elements of size cells. -/
def Sl {α : Type} (size : Nat) (R : Rd α) (w : World) (a : Option Addr) (n : Nat) (xs : List α) : Prop :=
  xs.length = n ∧ (0 < n → ∃ b off, a = some ⟨b, off, none⟩ ∧ b < w.heap.size ∧
    ∀ i x, xs[i]? = some x → ∃ cs : List Value, cs.length = size ∧ R w cs x ∧ ∀ j v, cs[j]? = some v → w.cell? ⟨b, off + i * size + j, none⟩ = some v)
/-- The cell of a slice. -/
def SlR {α : Type} (size : Nat) (R : Rd α) : Rd (List α) := fun w cs xs => ∃ a n c, cs = [.slice a n c] ∧ n ≤ c ∧ c ≤ maxLen ∧ (a = none → c = 0) ∧ Sl size R w a n xs

section
variable {α : Type} {size : Nat} {R : Rd α} {w w' : World} {a : Option Addr} {n : Nat} {xs : List α}
theorem Sl.below (h : Sl size R w a n xs) (hs : Stable R) (hb : Below w.heap.size w w') : Sl size R w' a n xs := by
  refine ⟨h.1, fun hn => ?_⟩
  obtain ⟨b, off, ha, hlt, hc⟩ := h.2 hn
  refine ⟨b, off, ha, Nat.lt_of_lt_of_le hlt hb.size, fun i x hx => ?_⟩
  obtain ⟨cs, hl, hr, hcell⟩ := hc i x hx
  exact ⟨cs, hl, hs _ _ _ _ hb hr, fun j v hj => (hb.cell (p := ⟨b, off + i * size + j, none⟩) hlt).trans (hcell j v hj)⟩
theorem Sl.nil_ (R : Rd α) (size : Nat) (w : World) : Sl size R w none 0 [] := ⟨rfl, fun h => absurd h (by omega)⟩
theorem Sl.empty (R : Rd α) (size : Nat) (w : World) (a : Option Addr) : Sl size R w a 0 [] := ⟨rfl, fun h => absurd h (by omega)⟩
theorem SlR.stable (hs : Stable R) : Stable (SlR size R) := by
  rintro w w' cs x hb ⟨a, n, c, rfl, h1, h2, h3, h⟩
  exact ⟨a, n, c, rfl, h1, h2, h3, h.below hs hb⟩
theorem Sl.at_ (h : Sl size R w a n xs) {i : Nat} (hi : i < n) : ∃ b off x cs, a = some ⟨b, off, none⟩ ∧ b < w.heap.size ∧ xs[i]? = some x ∧ cs.length = size ∧ R w cs x ∧ ∀ j v, cs[j]? = some v → w.cell? ⟨b, off + i * size + j, none⟩ = some v := by
  obtain ⟨b, off, ha, hlt, hc⟩ := h.2 (by omega)
  have hx : xs[i]? = some (xs[i]'(by rw [h.1]; exact hi)) := List.getElem?_eq_getElem _
  obtain ⟨cs, hl, hr, hcell⟩ := hc i _ hx
  exact ⟨b, off, _, cs, ha, hlt, hx, hl, hr, hcell⟩
theorem Sl.at1 {R : Rd α} (h : Sl 1 R w a n xs) {i : Nat} (hi : i < n) : ∃ b off x v, a = some ⟨b, off, none⟩ ∧ b < w.heap.size ∧ xs[i]? = some x ∧ R w [v] x ∧ w.cell? ⟨b, off + i, none⟩ = some v := by
  obtain ⟨b, off, x, cs, ha, hb, hx, hl, hr, hc⟩ := h.at_ hi
  match cs, hl with
  | [v], _ =>
    have := hc 0 v rfl
    rw [Nat.mul_one, Nat.add_zero] at this
    exact ⟨b, off, x, v, ha, hb, hx, hr, this⟩
theorem Sl.drewN (h : Sl size R w a n xs) (hs : Stable R) (q : Nat) : Sl size R (w.drewN q) a n xs := h.below hs ⟨rfl, rfl, rfl, Nat.le_refl _, fun _ _ => rfl⟩
theorem Sl.alloc (h : Sl size R w a n xs) (hs : Stable R) (o : Obj) : Sl size R (w.alloc o) a n xs := h.below hs ((Below.refl _ _).alloc (Nat.le_refl _) _)
end
theorem below_drewN {B : Nat} {a w : World} (h : Below B a w) (n : Nat) : Below B a (w.drewN n) := ⟨h.os, h.tape, h.output, h.size, h.block⟩
theorem below_append {w w1 wr : World} {e n size : Nat} {v : Value} {xs : List Value} {o : Obj} (hown : wr.ownsRow w.heap.size e size v n xs) (hb : Below w.heap.size w wr) (hg : (wr.alloc o).grownBy w1 v.ownBlock) : Below w.heap.size w w1 :=
  (hb.alloc hb.size o).grown hg (by simp; exact Nat.le_succ_of_le hb.size) (fun k hk => (hown.lt k hk).1)

/-- The program's own reading of a type gives ours. -/
def Opens {α : Type} (H : Type) (enc : TypeId × Value → H) (P : Program) (t : TypeId) (size : Nat) (R : Rd α) : Prop :=
  ∀ (w : World) (base : Nat) (spare : Nat → Bool) (held : Bool) (fuel : Nat) (cs : List Value) (y : DataW H × List MemPlace), DataW.trod enc P w base spare held fuel t cs = some y → cs.length = size ∧ ∃ x, R w cs x
section
variable {H : Type} {enc : TypeId × Value → H} {P : Program}
theorem opens_nat {t : TypeId} {k : IntKind} (ht : P.underlying t = some (.int k)) (hk : ∀ n, (Lit.int k n).wf = true → 0 ≤ n) : Opens H enc P t 1 (fun w cs x => NatR k w cs x ∧ (Lit.int k (x : Int)).wf = true) := by
  intro w base spare held fuel cs y h
  obtain ⟨n, rfl, _, hw⟩ := DataW.trod_int ht h
  exact ⟨rfl, n.toNat, by unfold NatR; rw [Int.toNat_of_nonneg (hk n hw)], by rw [Int.toNat_of_nonneg (hk n hw)]; exact hw⟩
theorem opens_int {t : TypeId} {k : IntKind} (ht : P.underlying t = some (.int k)) : Opens H enc P t 1 (fun w cs x => IntR k w cs x ∧ (Lit.int k x).wf = true) := by
  intro w base spare held fuel cs y h
  obtain ⟨n, rfl, _, hw⟩ := DataW.trod_int ht h
  exact ⟨rfl, n, rfl, hw⟩
theorem opens_bool {t : TypeId} (ht : P.underlying t = some .bool) : Opens H enc P t 1 BoolR := by
  intro w base spare held fuel cs y h
  obtain ⟨b, rfl, _⟩ := DataW.trod_bool ht h
  exact ⟨rfl, b, rfl⟩
theorem opens_str {t : TypeId} (ht : P.underlying t = some .string) : Opens H enc P t 1 StrR := by
  intro w base spare held fuel cs y h
  obtain ⟨s, rfl, _, hs⟩ := DataW.trod_string ht h
  exact ⟨rfl, s, rfl, hs⟩
theorem list_of_choice {α : Type} {p : Nat → α → Prop} : ∀ (n : Nat), (∀ i, i < n → ∃ x, p i x) → ∃ xs : List α, xs.length = n ∧ ∀ i x, xs[i]? = some x → p i x
  | 0, _ => ⟨[], rfl, fun i x h => by simp at h⟩
  | n + 1, h => by
    obtain ⟨xs, hl, hp⟩ := list_of_choice n (fun i hi => h i (by omega))
    obtain ⟨x, hx⟩ := h n (by omega)
    refine ⟨xs ++ [x], by simp [hl], fun i y hy => ?_⟩
    by_cases hi : i < n
    · rw [List.getElem?_append_left (by omega)] at hy; exact hp i y hy
    · have : i = n := by
        rcases Nat.lt_or_ge i (n + 1) with h1 | h1
        · omega
        · rw [List.getElem?_eq_none (by simp [hl]; omega)] at hy; cases hy
      subst this
      rw [List.getElem?_append_right (by omega)] at hy
      simp [hl] at hy; subst hy; exact hx
theorem opens_slice {α : Type} {R : Rd α} {t e : TypeId} {size : Nat} (ht : P.underlying t = some (.slice e)) (hc : P.cellsOf e = size) (hpos : 0 < size) (ho : Opens H enc P e size R) : Opens H enc P t 1 (SlR size R) := by
  intro w base spare held fuel cs y h
  rcases open_slice ht h with ⟨rfl, _⟩ | ⟨a, len, cap, m, n, D, Pl, rfl, hb, hl, hm, hmm, _, hi⟩
  · exact ⟨rfl, [], none, 0, 0, rfl, Nat.le_refl _, by unfold maxLen; omega, fun _ => rfl, Sl.nil_ _ _ _⟩
  · refine ⟨rfl, ?_⟩
    rw [hc] at hi
    have hlm : len ≤ m := by rw [hmm]; split <;> omega
    have key : ∀ i, i < len → ∃ x, ∃ cs : List Value, cs.length = size ∧ R w cs x ∧ ∀ j v, cs[j]? = some v → w.cell? ((a.add (i * size)).add j) = some v := by
      intro i hil
      obtain ⟨cs', hcs, htr⟩ := hi i (by omega)
      obtain ⟨hln, x, hx⟩ := ho _ _ _ _ _ _ _ htr
      obtain ⟨_, hcl, hat⟩ := World.cells?_some hcs
      exact ⟨x, cs', hln, hx, fun j v hj => by
        have hjl : j < size := by
          rcases Nat.lt_or_ge j size with h1 | h1
          · exact h1
          · rw [List.getElem?_eq_none (by omega)] at hj; cases hj
        exact (hat j hjl).trans hj⟩
    obtain ⟨xs, hxl, hxs⟩ := list_of_choice len key
    refine ⟨xs, some a, len, cap, rfl, hl, hm, (fun h => by cases h), hxl, fun hn => ?_⟩
    obtain ⟨b, off, spot⟩ := a
    have hspot : spot = none ∧ b < w.heap.size := by
      obtain ⟨cs, hcl, _, hcell⟩ := hxs 0 _ (List.getElem?_eq_getElem (by omega))
      have h0 := hcell 0 _ (List.getElem?_eq_getElem (by omega))
      have h1 : w.cell? ⟨b, off, spot⟩ = some (cs[0]'(by omega)) := by simpa [Addr.add] using h0
      exact ⟨World.cell?_spot h1, World.block_lt_of_cell? w _ h1⟩
    obtain ⟨rfl, hlt⟩ := hspot
    refine ⟨b, off, rfl, hlt, fun i x hx => ?_⟩
    obtain ⟨cs, hcl, hr, hcell⟩ := hxs i x hx
    refine ⟨cs, hcl, hr, fun j v hj => ?_⟩
    have := hcell j v hj
    rw [add_add] at this
    have hplain : (⟨b, off, none⟩ : Addr).add (i * size + j) = ⟨b, off + i * size + j, none⟩ := by unfold Addr.add; split <;> simp_all [Nat.add_assoc]
    rwa [hplain] at this
/-- A struct, field by field: what is known of each field's cells. -/
theorem opens_struct {α : Type} {R : Rd α} {t : TypeId} {fs : Array Field} {size : Nat} (ht : P.underlying t = some (.struct fs)) (hc : P.cellsOf t = size)
    (hR : ∀ (w : World) (base : Nat) (spare : Nat → Bool) (held : Bool) (n : Nat) (cs : List Value), cs.length = size → (∀ (i : Nat) (f : Field), fs[i]? = some f → ∃ y, DataW.trod enc P w base spare held n f.type ((cs.drop f.offset).take (P.cellsOf f.type)) = some y) → ∃ x, R w cs x) : Opens H enc P t size R := by
  intro w base spare held fuel cs y h
  obtain ⟨xs, n, _, _, hl, hxl, hf⟩ := DataW.trod_struct ht h
  refine ⟨hl.trans hc, hR w base spare held n cs (hl.trans hc) fun i f hi => ?_⟩
  have hil : i < fs.size := (Array.getElem?_eq_some_iff.1 hi).1
  exact ⟨_, (hf i f hi).trans (List.getElem?_eq_getElem (by omega))⟩
end

/-- Cells that a slice value leads to. -/
def Lies (w : World) (ad : Option Addr) (n size : Nat) (vs : List Value) : Prop :=
  vs.length = n * size ∧ (0 < n → ∃ b off, ad = some ⟨b, off, none⟩ ∧ ∀ j v, vs[j]? = some v → w.cell? ⟨b, off + j, none⟩ = some v)
/-- 'append(s, x...)': onto a row of the call's own, cells that lie somewhere. -/
theorem wpList_append_vals {P : Program} (w : World) {ops : Array Oper} {rest : List Oper} {o : Oper} {a : Act} {Q : Exit → Act → World → Prop} (hgd : o.guard = none) (s x : Operand) (t : TypeId)
    (ho : o.op = .call { callee := .builtin .append, args := #[s, x], argTypes := #[t, t] })
    (B : Nat) (e : TypeId) (i : TypeInfo) (z : Value) (size bytes : Nat) (ht : P.underlying t = some (.slice e)) (hi : P.info? e = some i) (hz : i.zero = some z)
    (hsize : i.size = size) (hby : i.bytes = bytes) (hzs : z.cells.size = size) (hpos : 0 < size)
    (v : Value) (n0 : Nat) (vs0 : List Value) (hs : a.eval s = v) (hown : w.ownsRow B e size v n0 vs0)
    (ad : Option Addr) (n c : Nat) (vs : List Value) (hx : a.eval x = .slice ad n c) (hn : Lies w ad n size vs) (h1 : ∀ u ∈ vs, u.oneCell' = true) (h63 : n0 + n ≤ maxLen) (hbytes : (n0 + n) * bytes ≤ 140737488355328) (hbase : B ≤ w.heap.size) (hnil : ad = none → c = 0)
    (h : ∀ v' w', w'.ownsRow B e size v' (n0 + n) (vs0 ++ vs) → w.grownBy w' v.ownBlock → (v ≠ .slice none 0 0 → v' ≠ .slice none 0 0) → wpList P ops Q rest (a.put o.dst v') w') : wpList P ops Q (o :: rest) a w := by
  refine wpList_plain hgd fun K hK => ?_
  have key : ∃ v' w', (Builtin.append_ #[t, t] o.type #[v, .slice ad n c]).run P w = .ok v' w' ∧ w'.ownsRow B e size v' (n0 + n) (vs0 ++ vs) ∧ w.grownBy w' v.ownBlock ∧ (v ≠ .slice none 0 0 → v' ≠ .slice none 0 0) := by
    cases ad with
    | none =>
      have hn0 : n = 0 := by
        rcases Nat.eq_zero_or_pos n with h0 | h0
        · exact h0
        · obtain ⟨_, _, e, _⟩ := hn.2 h0; cases e
      have hx0 : vs = [] := List.eq_nil_of_length_eq_zero (by rw [hn.1, hn0, Nat.zero_mul])
      have hc0 := hnil rfl
      subst hn0 hx0 hc0
      exact ⟨v, w, run_append_owned_none (P := P) w B t o.type e i size ht hi v n0 _ hown, by simpa using hown, ⟨rfl, rfl, rfl, Nat.le_refl _, fun _ _ _ => rfl⟩, fun h => h⟩
    | some ad =>
      obtain ⟨v', w', hr, h2, h3, h4⟩ := run_append_own (P := P) w B t o.type e i z size bytes ht hi hz hsize hby hzs hpos v n0 _ hown ad n c vs hn.1
        (fun j u hj => by
          have hjl : j < vs.length := by
            rcases Nat.lt_or_ge j vs.length with h | h
            · exact h
            · rw [List.getElem?_eq_none h] at hj; cases hj
          have hnp : 0 < n := by
            rcases Nat.eq_zero_or_pos n with h0 | h0
            · rw [hn.1, h0, Nat.zero_mul] at hjl; omega
            · exact h0
          obtain ⟨b, off, e, hc⟩ := hn.2 hnp
          cases e
          have hplain : (⟨b, off, none⟩ : Addr).add j = ⟨b, off + j, none⟩ := by unfold Addr.add; split <;> simp_all
          rw [hplain]; exact hc j u hj) h1 h63 hbytes hbase
      exact ⟨v', w', hr, h2, h3, fun hv hv' => hv (h4.1 hv').1⟩
  obtain ⟨v', w', hr, h2, h3, h4⟩ := key
  unfold Oper.wp execOp
  simp only [ho, resolve, invoke, builtin, Sem.run_bind, Sem.run_pure, Result.andThen_ok, List.map_toArray, List.map_cons, List.map_nil, hs, hx, hr]
  exact hK _ _ (h v' w' h2 h3 h4)

/-- Strings as cells. -/
def strsV (xs : List ByteArray) : List Value := xs.map Value.string
theorem lies_strs {w : World} {ad : Option Addr} {n : Nat} {xs : List ByteArray} (h : Sl 1 StrR w ad n xs) : Lies w ad n 1 (strsV xs) := by
  refine ⟨by rw [strsV, List.length_map, h.1, Nat.mul_one], fun hn => ?_⟩
  obtain ⟨b, off, e, _, hc⟩ := h.2 hn
  refine ⟨b, off, e, fun j v hj => ?_⟩
  unfold strsV at hj
  rw [List.getElem?_map] at hj
  obtain ⟨x, hx, rfl⟩ := Option.map_eq_some_iff.1 hj
  obtain ⟨cs, hl, hr, hcell⟩ := hc j x hx
  obtain ⟨hcs, _⟩ := hr
  have := hcell 0 _ (by rw [hcs]; rfl)
  simpa using this
theorem strs_oneCell (xs : List ByteArray) : ∀ u ∈ strsV xs, u.oneCell' = true := by
  intro u hu
  unfold strsV at hu
  obtain ⟨y, _, rfl⟩ := List.mem_map.1 hu
  rfl
/-- A row of the call's own that reads as strings. -/
theorem sl_of_own_strs {w : World} {B e n c : Nat} {ad : Option Addr} {xs : List ByteArray} (h : w.ownsRow B e 1 (.slice ad n c) n (strsV xs)) (hx : ∀ x ∈ xs, x.size ≤ maxLen) : Sl 1 StrR w ad n xs := by
  have hl : xs.length = n := by have := h.1; rw [strsV, List.length_map] at this; omega
  refine ⟨hl, fun hn => ?_⟩
  rcases h.2 with ⟨_, h0⟩ | ⟨g, cap, cur, hv, hb, hg, _⟩
  · omega
  · simp only [Value.slice.injEq] at hv
    obtain ⟨rfl, _, rfl⟩ := hv
    refine ⟨g, 0, rfl, ?_, fun i x hi => ⟨[.string x], rfl, ⟨rfl, hx x (List.mem_of_getElem? hi)⟩, fun j v hj => ?_⟩⟩
    · rcases Nat.lt_or_ge g w.heap.size with hlt | hge
      · exact hlt
      · rw [Array.getElem?_eq_none hge] at hg; cases hg
    · have hil : i < n := by
        rcases Nat.lt_or_ge i n with h1 | h1
        · exact h1
        · rw [List.getElem?_eq_none (by omega)] at hi; cases hi
      cases j with
      | zero =>
        simp at hj; subst hj
        have := h.cellAt i (by omega)
        rw [strsV, List.getElem?_map, hi] at this
        simpa using this
      | succ j => simp at hj
theorem own_slice {w : World} {B e size n : Nat} {v : Value} {vs : List Value} (h : w.ownsRow B e size v n vs) : ∃ ad c, v = .slice ad n c ∧ n ≤ c ∧ c ≤ maxLen ∧ (ad = none → c = 0) := by
  rcases h.2 with ⟨rfl, rfl⟩ | ⟨g, cap, cur, rfl, _, _, h1, h2, _⟩
  · exact ⟨none, 0, rfl, Nat.le_refl _, by unfold maxLen; omega, fun _ => rfl⟩
  · exact ⟨_, cap, rfl, h1, h2, fun h => by cases h⟩
theorem below_lit {v1 v2 : World} {cs : Array Value} {e : Nat} (hg : (v1.alloc (.cells cs e)).grownBy v2 (Value.slice (some ⟨v1.heap.size, 0, none⟩) 0 0).ownBlock) : Below v1.heap.size v1 v2 :=
  ((Below.refl _ _).alloc (Nat.le_refl _) _).grown hg (by simp) (by intro k hk; simp [Value.ownBlock] at hk; omega)
end Go.Proofs.Ytmdgljbgjhpmcaa

namespace Go.Proofs.Ytmdgljbgjhpmcaa
open Go.RowKit Go.Deep
set_option linter.unusedVariables false
set_option linter.unusedSimpArgs false

structure CellD where
  kind : Int
  n : Int
  s : ByteArray
def CellR : Rd CellD := fun w cs c => cs = [.int .u8 c.kind, .int .i64 c.n, .string c.s] ∧ c.s.size ≤ maxLen ∧ (0 ≤ c.kind ∧ c.kind ≤ 255) ∧ (-9223372036854775808 ≤ c.n ∧ c.n ≤ 9223372036854775807)
theorem CellR.stable : Stable CellR := fun _ _ _ _ _ h => h
end Go.Proofs.Ytmdgljbgjhpmcaa

namespace Go.Proofs.Ytmdgljbgjhpmcaa
open Go.RowKit Go.Deep
set_option linter.unusedVariables false
set_option linter.unusedSimpArgs false

structure FieldD where
  id : Nat
  name : ByteArray
  kind : Nat
  need : Bool
def FieldR : Rd FieldD := fun w cs f => cs = [.int .u32 f.id, .string f.name, .int .u8 f.kind, .bool f.need] ∧ f.name.size ≤ maxLen ∧ f.id < 2 ^ 32 ∧ f.kind < 256
theorem FieldR.stable : Stable FieldR := fun _ _ _ _ _ h => h
structure SchemaD where
  id : Nat
  fields : List FieldD
def SchemaR : Rd SchemaD := fun w cs s => ∃ a n c, cs = [.int .u32 s.id, .slice a n c] ∧ n ≤ c ∧ c ≤ maxLen ∧ (a = none → c = 0) ∧ Sl 4 FieldR w a n s.fields ∧ s.id < 2 ^ 32
theorem SchemaR.stable : Stable SchemaR := by
  rintro w w' cs x hb ⟨a, n, c, rfl, h1, h2, h3, h, h4⟩
  exact ⟨a, n, c, rfl, h1, h2, h3, h.below FieldR.stable hb, h4⟩
structure SnapD where
  id : Nat
  parent : Nat
  seq : Nat
  offset : Nat
  time : Nat
  schema : Nat
  mans : List ByteArray
def SnapR : Rd SnapD := fun w cs s => ∃ a n c, cs = [.int .u64 s.id, .int .u64 s.parent, .int .u64 s.seq, .int .u64 s.offset, .int .u64 s.time, .int .u32 s.schema, .slice a n c] ∧ n ≤ c ∧ c ≤ maxLen ∧ (a = none → c = 0) ∧ Sl 1 StrR w a n s.mans ∧
  s.id < 2 ^ 64 ∧ s.parent < 2 ^ 64 ∧ s.seq < 2 ^ 64 ∧ s.offset < 2 ^ 64 ∧ s.time < 2 ^ 64 ∧ s.schema < 2 ^ 32
theorem SnapR.stable : Stable SnapR := by
  rintro w w' cs x hb ⟨a, n, c, rfl, h1, h2, h3, h, h4⟩
  exact ⟨a, n, c, rfl, h1, h2, h3, h.below StrR.stable hb, h4⟩
structure TableD where
  schemas : List SchemaD
  snaps : List SnapD
  current : Nat
def TableR : Rd TableD := fun w cs t => ∃ a n c a' n' c', cs = [.slice a n c, .slice a' n' c', .int .u64 t.current] ∧ n ≤ c ∧ c ≤ maxLen ∧ (a = none → c = 0) ∧ Sl 2 SchemaR w a n t.schemas ∧ n' ≤ c' ∧ c' ≤ maxLen ∧ (a' = none → c' = 0) ∧ Sl 7 SnapR w a' n' t.snaps ∧ t.current < 2 ^ 64
theorem TableR.stable : Stable TableR := by
  rintro w w' cs x hb ⟨a, n, c, a', n', c', rfl, h1, h2, h3, h, h4, h5, h6, h7, h8⟩
  exact ⟨a, n, c, a', n', c', rfl, h1, h2, h3, h.below SchemaR.stable hb, h4, h5, h6, h7.below SnapR.stable hb, h8⟩
end Go.Proofs.Ytmdgljbgjhpmcaa

namespace Go.Proofs.Ytmdgljbgjhpmcaa
open Go.RowKit Go.Deep
set_option linter.unusedVariables false
set_option linter.unusedSimpArgs false

inductive PredD where
  | mk (op field : Nat) (value : CellD) (kids : List PredD)
def PredD.op : PredD → Nat | .mk o _ _ _ => o
def PredD.field : PredD → Nat | .mk _ f _ _ => f
def PredD.value : PredD → CellD | .mk _ _ v _ => v
def PredD.kids : PredD → List PredD | .mk _ _ _ k => k
def CellOK (c : CellD) : Prop := c.s.size ≤ maxLen ∧ (0 ≤ c.kind ∧ c.kind ≤ 255) ∧ (-9223372036854775808 ≤ c.n ∧ c.n ≤ 9223372036854775807)
/-- A predicate that is at most so deep. -/
def PredR : Nat → Rd PredD
  | 0 => fun _ _ _ => False
  | d + 1 => fun w cs p => ∃ a n c, cs = [.int .u8 (p.op : Int), .int .u32 (p.field : Int), .int .u8 p.value.kind, .int .i64 p.value.n, .string p.value.s, .slice a n c] ∧ n ≤ c ∧ c ≤ maxLen ∧ (a = none → c = 0) ∧ Sl 6 (PredR d) w a n p.kids ∧ p.op < 256 ∧ p.field < 2 ^ 32 ∧ CellOK p.value
theorem PredR.stable : ∀ d, Stable (PredR d)
  | 0 => fun _ _ _ _ _ h => h
  | d + 1 => by
    rintro w w' cs x hb ⟨a, n, c, rfl, h1, h2, h3, h, h4⟩
    exact ⟨a, n, c, rfl, h1, h2, h3, h.below (PredR.stable d) hb, h4⟩
theorem Sl.imp {α : Type} {size : Nat} {R R' : Rd α} {w : World} {a : Option Addr} {n : Nat} {xs : List α} (h : Sl size R w a n xs) (hi : ∀ cs x, R w cs x → R' w cs x) : Sl size R' w a n xs := by
  refine ⟨h.1, fun hn => ?_⟩
  obtain ⟨b, off, ha, hlt, hc⟩ := h.2 hn
  refine ⟨b, off, ha, hlt, fun i x hx => ?_⟩
  obtain ⟨cs, hl, hr, hcell⟩ := hc i x hx
  exact ⟨cs, hl, hi _ _ hr, hcell⟩
theorem PredR.succ : ∀ (d : Nat) (w : World) (cs : List Value) (p : PredD), PredR d w cs p → PredR (d + 1) w cs p
  | 0, _, _, _, h => h.elim
  | d + 1, w, cs, p, ⟨a, n, c, e, h1, h2, h3, h, h4⟩ => ⟨a, n, c, e, h1, h2, h3, h.imp (fun cs x => PredR.succ d w cs x), h4⟩
theorem PredR.mono {d e : Nat} (h : d ≤ e) {w : World} {cs : List Value} {p : PredD} (hp : PredR d w cs p) : PredR e w cs p := by
  induction h with
  | refl => exact hp
  | step _ ih => exact PredR.succ _ _ _ _ ih
theorem PredR.shape : ∀ {d : Nat} {w : World} {cs : List Value} {p : PredD}, PredR d w cs p → ∃ a n c, cs = [.int .u8 (p.op : Int), .int .u32 (p.field : Int), .int .u8 p.value.kind, .int .i64 p.value.n, .string p.value.s, .slice a n c]
  | 0, _, _, _, h => h.elim
  | d + 1, w, cs, p, ⟨a, n, c, e, _⟩ => ⟨a, n, c, e⟩
/-- Bounds of a column, as they are handed in. -/
structure StatD where
  rows : Int
  nulls : Int
  some : Bool
  high : Bool
  min : CellD
  max : CellD
def StatD.cells (s : StatD) : Array Value := #[.int .i64 s.rows, .int .i64 s.nulls, .bool s.some, .bool s.high, .int .u8 s.min.kind, .int .i64 s.min.n, .string s.min.s, .int .u8 s.max.kind, .int .i64 s.max.n, .string s.max.s]
def IntOK (n : Int) : Prop := -9223372036854775808 ≤ n ∧ n ≤ 9223372036854775807
def StatOK (s : StatD) : Prop := IntOK s.rows ∧ IntOK s.nulls ∧ CellOK s.min ∧ CellOK s.max
def StatR : Rd StatD := fun _ cs s => cs = s.cells.toList ∧ StatOK s
theorem StatR.stable : Stable StatR := fun _ _ _ _ _ h => h
end Go.Proofs.Ytmdgljbgjhpmcaa

namespace Go.Proofs.Ytmdgljbgjhpmcaa
open Go.RowKit Go.Deep
set_option linter.unusedVariables false
set_option linter.unusedSimpArgs false

def idxF {α : Type} (p : α → Bool) (xs : List α) : Int := match xs.findIdx? p with | some k => (k : Int) | none => -1
section
variable {α : Type} {p : α → Bool} {xs : List α} {k : Nat} {x : α}
theorem findIdx_hit (hx : xs[k]? = some x) (hp : p x = true) (hno : ∀ (j : Nat) (y : α), j < k → xs[j]? = some y → p y = false) : xs.findIdx? p = some k := by
  have hk : k < xs.length := (List.getElem?_eq_some_iff.1 hx).1
  rw [List.findIdx?_eq_some_iff_getElem]
  rw [List.getElem?_eq_getElem hk] at hx
  cases hx
  exact ⟨hk, hp, fun j hj => by rw [hno j _ hj (List.getElem?_eq_getElem (Nat.lt_trans hj hk))]; simp⟩
theorem idxF_hit (hx : xs[k]? = some x) (hp : p x = true) (hno : ∀ (j : Nat) (y : α), j < k → xs[j]? = some y → p y = false) : idxF p xs = (k : Int) := by
  unfold idxF; rw [findIdx_hit hx hp hno]
theorem findIdx_none (h : ∀ (j : Nat) (y : α), j < xs.length → xs[j]? = some y → p y = false) : xs.findIdx? p = none := by
  rw [List.findIdx?_eq_none_iff]
  intro y hy
  obtain ⟨j, hj, rfl⟩ := List.getElem_of_mem hy
  exact h j _ hj (List.getElem?_eq_getElem hj)
theorem idxF_none (h : ∀ (j : Nat) (y : α), j < xs.length → xs[j]? = some y → p y = false) : idxF p xs = -1 := by
  unfold idxF; rw [findIdx_none h]
theorem noHit_succ (hx : xs[k]? = some x) (hp : p x = false) (hno : ∀ (j : Nat) (y : α), j < k → xs[j]? = some y → p y = false) : ∀ (j : Nat) (y : α), j < k + 1 → xs[j]? = some y → p y = false := by
  intro j y hj hy
  by_cases hjk : j = k
  · subst hjk; rw [hx] at hy; cases hy; exact hp
  · exact hno j y (by omega) hy
theorem idxF_cases (p : α → Bool) (xs : List α) : (idxF p xs = -1 ∧ ∀ x ∈ xs, p x = false) ∨ ∃ (k : Nat) (x : α), idxF p xs = (k : Int) ∧ xs[k]? = some x ∧ p x = true ∧ ∀ (j : Nat) (y : α), j < k → xs[j]? = some y → p y = false := by
  unfold idxF
  cases h : xs.findIdx? p with
  | none =>
    rw [List.findIdx?_eq_none_iff] at h
    exact .inl ⟨rfl, h⟩
  | some k =>
    rw [List.findIdx?_eq_some_iff_getElem] at h
    obtain ⟨hk, hp, hno⟩ := h
    refine .inr ⟨k, xs[k], rfl, List.getElem?_eq_getElem hk, hp, fun j y hj hy => ?_⟩
    have := hno j hj
    have hjl : j < xs.length := by omega
    rw [List.getElem?_eq_getElem hjl] at hy
    cases hy
    simpa using this
end
/-- A call that says a truth, and leaves all that stood. -/
def BoolIs (b : Bool) (w : World) (e : Ending) (w' : World) : Prop := e = .returned (.bool b) ∧ Below w.heap.size w w'
def IntBelow (r : Int) (w : World) (e : Ending) (w' : World) : Prop := e = .returned (.int .i64 r) ∧ Below w.heap.size w w'
end Go.Proofs.Ytmdgljbgjhpmcaa

namespace Go.Proofs.Ytmdgljbgjhpmcaa
open Go.RowKit Go.Deep
set_option linter.unusedVariables false
set_option linter.unusedSimpArgs false

end Go.Proofs.Ytmdgljbgjhpmcaa

namespace Go.Proofs.Ytmdgljbgjhpmcaa
open Go.RowKit Go.Deep
set_option linter.unusedVariables false
set_option linter.unusedSimpArgs false

/-- A world in which all that stood in w0 stands as it did. -/
structure Kept (w0 : World) where
  W : World
  h : Below w0.heap.size w0 W
instance {w0 : World} : Nonempty (Kept w0) := ⟨⟨w0, Below.refl _ _⟩⟩
theorem own_below {w w' : World} {B e size n : Nat} {v : Value} {xs : List Value} (h : w.ownsRow B e size v n xs) (hb : Below w.heap.size w w') : w'.ownsRow B e size v n xs := by
  refine ⟨h.1, ?_⟩
  rcases h.2 with hn | ⟨g, cap, cur, rfl, hg, hgg, rest⟩
  · exact .inl hn
  · exact .inr ⟨g, cap, cur, rfl, hg, by rw [hb.block g (Array.getElem?_eq_some_iff.1 hgg).1]; exact hgg, rest⟩
/-- A call that returns v, and leaves all that stood. -/
def ValIs (v : Value) (w : World) (e : Ending) (w' : World) : Prop := e = .returned v ∧ Below w.heap.size w w'
/-- .. and does nothing but draw. -/
def ValQ (v : Value) (w : World) (e : Ending) (w' : World) : Prop := e = .returned v ∧ ∃ m, w' = w.drewN m
theorem ValQ.is {v : Value} {w : World} {e : Ending} {w' : World} (h : ValQ v w e w') : ValIs v w e w' := by
  obtain ⟨h1, m, rfl⟩ := h
  exact ⟨h1, rfl, rfl, rfl, Nat.le_refl _, fun _ _ => rfl⟩
section
variable {P : Program}
theorem wp_region_kept {id : Nat} {Q : Exit → Act → World → Prop} {a : Act} {w : World} {l : List Oper} (hm : P.follows .mixedOrders = true) (hB : Region.lexB .any l.toArray = true)
    (h : wpQuiet P l.toArray (fun W => ∃ g : Kept w, W = g.W) (fun a' => ∀ W, Below w.heap.size w W → Q .normal a' W) l a) : (Code.region id l.toArray true).wp P Q a w := by
  refine wp_region_quiet (C := fun W => ∃ g : Kept w, W = g.W) hm hB ⟨⟨w.drew, (Below.refl _ _).drew⟩, rfl⟩ ?_
  have hf : (fun a' => ∀ w', (∃ g : Kept w, w' = g.W) → Q .normal a' w') = (fun a' => ∀ W, Below w.heap.size w W → Q .normal a' W) := by
    funext a'
    apply propext
    constructor
    · intro h W hW; exact h W ⟨⟨W, hW⟩, rfl⟩
    · rintro h _ ⟨g, rfl⟩; exact h _ g.h
  rw [hf]
  simpa using h
theorem kept_cell {w0 : World} {a : Addr} {v : Value} (h : w0.cell? a = some v) (g : Kept w0) : g.W.cell? a = some v :=
  (g.h.cell (World.block_lt_of_cell? w0 a h)).trans h
theorem kept_call {f : FuncId} {args : Array Value} {w0 : World} {g : Kept w0} {v : Value} (h : Calls P f args g.W (ValIs v g.W)) :
    Calls P f args g.W fun e w'' => e = .returned v ∧ ∃ g' : Kept w0, w'' = g'.W :=
  h.mono fun e w' ⟨he, hb⟩ => ⟨he, ⟨w', g.h.trans (hb.mono g.h.size)⟩, rfl⟩
theorem kept_callQ {f : FuncId} {args : Array Value} {w0 : World} {g : Kept w0} {v : Value} (h : Calls P f args g.W (ValQ v g.W)) :
    Calls P f args g.W fun e w'' => e = .returned v ∧ ∃ g' : Kept w0, w'' = g'.W :=
  kept_call (h.mono fun e w' h => h.is)
end
end Go.Proofs.Ytmdgljbgjhpmcaa

namespace Go.Proofs.Ytmdgljbgjhpmcaa
open Go.RowKit Go.Deep
set_option linter.unusedVariables false
set_option linter.unusedSimpArgs false

/-- The block's first cells. -/
def CellsAt (w : World) (b : Nat) (vs : Array Value) : Prop := ∀ i v, vs[i]? = some v → w.cell? ⟨b, i, none⟩ = some v
def Soft (w : World) (b : Nat) : Prop := ∀ i, w.frozen? ⟨b, i, none⟩ = false
section
variable {w w' : World} {b : Nat} {vs : Array Value}
theorem CellsAt.at_ (h : CellsAt w b vs) (i : Nat) (v : Value) (hv : vs[i]? = some v) : w.cell? ⟨b, i, none⟩ = some v := h i v hv
theorem CellsAt.below {B : Nat} (h : CellsAt w b vs) (hb : Below B w w') (hlt : b < B) : CellsAt w' b vs := fun i v hv => (hb.cell (p := ⟨b, i, none⟩) hlt).trans (h i v hv)
theorem Soft.below {B : Nat} (h : Soft w b) (hb : Below B w w') (hlt : b < B) : Soft w' b := fun i => (hb.frozen (p := ⟨b, i, none⟩) hlt).trans (h i)
theorem CellsAt.drewN (h : CellsAt w b vs) (q : Nat) : CellsAt (w.drewN q) b vs := h
theorem Soft.drewN (h : Soft w b) (q : Nat) : Soft (w.drewN q) b := h
theorem CellsAt.set (h : CellsAt w b vs) {j : Nat} (hj : j < vs.size) (u : Value) : CellsAt (w.setCell ⟨b, j, none⟩ u) b (vs.setIfInBounds j u) := by
  intro i v hv
  by_cases hij : i = j
  · subst hij
    rw [Array.getElem?_setIfInBounds_self_of_lt hj] at hv
    cases hv
    exact World.cell?_setCell_same _ _ _ (h i _ (Array.getElem?_eq_getElem hj))
  · rw [Array.getElem?_setIfInBounds_ne (fun e => hij e.symm)] at hv
    rw [World.cell?_setCell_other _ _ _ _ (fun e => hij (congrArg Addr.off e).symm)]
    exact h i v hv
theorem CellsAt.setFar (h : CellsAt w b vs) {p : Addr} (hp : p.block ≠ b) (u : Value) : CellsAt (w.setCell p u) b vs := fun i v hv => by
  rw [World.cell?_setCell_other _ _ _ _ (fun e => hp (congrArg Addr.block e))]
  exact h i v hv
theorem Soft.set (h : Soft w b) (p : Addr) (u : Value) : Soft (w.setCell p u) b := fun i => by simpa using h i
theorem CellsAt.alloc_new (w : World) (cs : Array Value) (t : TypeId) : CellsAt (w.alloc (.cells cs t)) w.heap.size cs := fun i v h => by rw [World.cell?_alloc_new]; exact h
theorem Soft.alloc_new (w : World) (cs : Array Value) (t : TypeId) : Soft (w.alloc (.cells cs t)) w.heap.size := fun i => by simp
theorem CellsAt.alloc_at (w : World) (cs : Array Value) (t : TypeId) (b : Nat) (hb : b = w.heap.size) : CellsAt (w.alloc (.cells cs t)) b cs := by subst hb; exact CellsAt.alloc_new w cs t
theorem Soft.alloc_at (w : World) (cs : Array Value) (t : TypeId) (b : Nat) (hb : b = w.heap.size) : Soft (w.alloc (.cells cs t)) b := by subst hb; exact Soft.alloc_new w cs t
theorem CellsAt.alloc (h : CellsAt w b vs) (hb : b < w.heap.size) (o : Obj) : CellsAt (w.alloc o) b vs := h.below ((Below.refl w.heap.size w).alloc (Nat.le_refl _) o) hb
theorem Soft.alloc (h : Soft w b) (hb : b < w.heap.size) (o : Obj) : Soft (w.alloc o) b := h.below ((Below.refl w.heap.size w).alloc (Nat.le_refl _) o) hb
end
end Go.Proofs.Ytmdgljbgjhpmcaa

namespace Go.Proofs.Ytmdgljbgjhpmcaa
open Go.RowKit Go.Deep
set_option linter.unusedVariables false
set_option linter.unusedSimpArgs false

structure Box (w : World) (b : Nat) (cs : Array Value) : Prop where
  cells : CellsAt w b cs
  soft : Soft w b
  lt : b < w.heap.size
section
variable {w w' : World} {b : Nat} {cs : Array Value}
theorem Box.below {B : Nat} (h : Box w b cs) (hb : Below B w w') (hlt : b < B) : Box w' b cs := ⟨h.cells.below hb hlt, h.soft.below hb hlt, Nat.lt_of_lt_of_le h.lt hb.size⟩
theorem Box.call (h : Box w b cs) (hb : Below w.heap.size w w') : Box w' b cs := h.below hb h.lt
theorem Box.alloc (h : Box w b cs) (o : Obj) : Box (w.alloc o) b cs := h.call ((Below.refl _ _).alloc (Nat.le_refl _) _)
theorem Box.drewN (h : Box w b cs) (q : Nat) : Box (w.drewN q) b cs := ⟨h.cells, h.soft, h.lt⟩
theorem Box.set (h : Box w b cs) {j : Nat} (hj : j < cs.size) (u : Value) : Box (w.setCell ⟨b, j, none⟩ u) b (cs.setIfInBounds j u) := ⟨h.cells.set hj u, h.soft.set _ _, by simpa using h.lt⟩
theorem Box.setFar (h : Box w b cs) {p : Addr} (hp : p.block ≠ b) (u : Value) : Box (w.setCell p u) b cs := ⟨h.cells.setFar hp u, h.soft.set _ _, by simpa using h.lt⟩
theorem Box.new (w : World) (cs : Array Value) (t : TypeId) : Box (w.alloc (.cells cs t)) w.heap.size cs := ⟨CellsAt.alloc_new _ _ _, Soft.alloc_new _ _ _, by simp⟩
theorem Box.at_ (w : World) (cs : Array Value) (t : TypeId) (b : Nat) (hb : b = w.heap.size) : Box (w.alloc (.cells cs t)) b cs := by subst hb; exact Box.new _ _ _
theorem Box.drew (h : Box w b cs) : Box w.drew b cs := h.call (Below.refl _ _).drew
theorem below_step {W0 W w2 : World} (h : Below W0.heap.size W0 W) (hp : Below W.heap.size W w2) : Below W0.heap.size W0 w2 := h.trans (hp.mono h.size)
theorem Box.use {P : Prop} (h : Box w b cs) (k : Box w b cs → P) : P := k h
theorem Box.cell (h : Box w b cs) (j : Nat) {v : Value} (hj : cs[j]? = some v) : w.cell? ⟨b, j, none⟩ = some v := h.cells j v hj
end
end Go.Proofs.Ytmdgljbgjhpmcaa

namespace Go.Proofs.Ytmdgljbgjhpmcaa
open Go.RowKit Go.Deep
set_option linter.unusedVariables false
set_option linter.unusedSimpArgs false

/-- From block number 'base' on stand these blocks; below it all is as it was in w0. -/
structure Mem (base : Nat) (bs : List (Array Value)) (w0 w : World) : Prop where
  below : Below base w0 w
  cells : ∀ i cs, bs[i]? = some cs → CellsAt w (base + i) cs
  soft : ∀ i cs, bs[i]? = some cs → Soft w (base + i)
  room : base + bs.length ≤ w.heap.size
section
variable {base : Nat} {bs : List (Array Value)} {w0 w w' : World}
theorem Mem.cell (h : Mem base bs w0 w) (i j : Nat) {cs : Array Value} {v : Value} (hi : bs[i]? = some cs) (hj : cs[j]? = some v) : w.cell? ⟨base + i, j, none⟩ = some v := h.cells i cs hi j v hj
theorem Mem.lt (h : Mem base bs w0 w) (i : Nat) (hi : i < bs.length) : base + i < w.heap.size := by have := h.room; omega
theorem Mem.frozen (h : Mem base bs w0 w) (i : Nat) {cs : Array Value} (hi : bs[i]? = some cs) : ∀ j, w.frozen? ⟨base + i, j, none⟩ = false := h.soft i cs hi
theorem lt_of_get {α : Type} {l : List α} {i : Nat} {x : α} (h : l[i]? = some x) : i < l.length := (List.getElem?_eq_some_iff.1 h).1
theorem Mem.call (h : Mem base bs w0 w) (hb : Below w.heap.size w w') : Mem base bs w0 w' := by
  have hr := h.room
  exact ⟨h.below.trans (hb.mono (by omega)), fun i cs hi => (h.cells i cs hi).below hb (by have := lt_of_get hi; omega), fun i cs hi => (h.soft i cs hi).below hb (by have := lt_of_get hi; omega), Nat.le_trans h.room hb.size⟩
theorem Mem.set (h : Mem base bs w0 w) (i j : Nat) (u : Value) {cs : Array Value} (hi : bs[i]? = some cs) (hj : j < cs.size) : Mem base (bs.set i (cs.setIfInBounds j u)) w0 (w.setCell ⟨base + i, j, none⟩ u) := by
  refine ⟨h.below.setCell (Nat.le_add_right _ _) _, fun k ks hk => ?_, fun k ks hk => ?_, by simpa using h.room⟩
  · by_cases hik : i = k
    · subst hik
      rw [List.getElem?_set_self (lt_of_get hi)] at hk
      cases hk
      exact (h.cells i cs hi).set hj u
    · rw [List.getElem?_set_ne hik] at hk
      exact (h.cells k ks hk).setFar (show base + i ≠ base + k by omega) u
  · have hk' : ∃ ks', bs[k]? = some ks' := by
      have := lt_of_get hk
      rw [List.length_set] at this
      exact ⟨_, List.getElem?_eq_getElem this⟩
    obtain ⟨ks', hk'⟩ := hk'
    exact (h.soft k ks' hk').set _ _
theorem Mem.setFar (h : Mem base bs w0 w) {p : Addr} (hp : base + bs.length ≤ p.block) (u : Value) : Mem base bs w0 (w.setCell p u) :=
  ⟨h.below.setCell (by omega) _, fun k ks hk => (h.cells k ks hk).setFar (by have := lt_of_get hk; omega) u, fun k ks hk => (h.soft k ks hk).set _ _, by simpa using h.room⟩
theorem Mem.alloc (h : Mem base bs w0 w) (o : Obj) : Mem base bs w0 (w.alloc o) := h.call ((Below.refl _ _).alloc (Nat.le_refl _) _)
theorem Mem.drewN (h : Mem base bs w0 w) (q : Nat) : Mem base bs w0 (w.drewN q) := h.call ⟨rfl, rfl, rfl, Nat.le_refl _, fun _ _ => rfl⟩
theorem Mem.drew (h : Mem base bs w0 w) : Mem base bs w0 w.drew := h.call (Below.refl _ _).drew
theorem Mem.nil (w : World) : Mem w.heap.size [] w w := ⟨Below.refl _ _, (fun i cs h => by simp at h), (fun i cs h => by simp at h), Nat.le_refl _⟩
theorem Mem.push (h : Mem base bs w0 w) (hs : base + bs.length = w.heap.size) (cs : Array Value) (t : TypeId) : Mem base (bs ++ [cs]) w0 (w.alloc (.cells cs t)) := by
  have hlt : ∀ k ks, (bs ++ [cs])[k]? = some ks → (k < bs.length ∧ bs[k]? = some ks) ∨ (k = bs.length ∧ ks = cs) := by
    intro k ks hk
    rcases Nat.lt_or_ge k bs.length with h1 | h1
    · rw [List.getElem?_append_left h1] at hk; exact .inl ⟨h1, hk⟩
    · rw [List.getElem?_append_right h1] at hk
      have h2 : k = bs.length := by
        have := lt_of_get hk; simp at this; omega
      subst h2; simp at hk; exact .inr ⟨rfl, hk.symm⟩
  refine ⟨(h.alloc _).below, fun k ks hk => ?_, fun k ks hk => ?_, by simp; omega⟩
  · rcases hlt k ks hk with ⟨_, h1⟩ | ⟨rfl, rfl⟩
    · exact (h.alloc _).cells k ks h1
    · exact CellsAt.alloc_at _ _ _ _ hs
  · rcases hlt k ks hk with ⟨_, h1⟩ | ⟨rfl, rfl⟩
    · exact (h.alloc _).soft k ks h1
    · exact Soft.alloc_at _ ks _ _ hs
/-- What stood ahead of the call, read behind it. -/
theorem Mem.old (h : Mem base bs w0 w) {p : Addr} (hp : p.block < base) {v : Value} (hv : w0.cell? p = some v) : w.cell? p = some v := (h.below.cell hp).trans hv
theorem Mem.own {e size n : Nat} {v : Value} {xs : List Value} {B : Nat} (h : Mem w0.heap.size bs w0 w) (ho : w0.ownsRow B e size v n xs) : w.ownsRow B e size v n xs := own_below ho h.below
end
end Go.Proofs.Ytmdgljbgjhpmcaa

namespace Go.Proofs.Ytmdgljbgjhpmcaa
open Go.RowKit Go.Deep
set_option linter.unusedVariables false
set_option linter.unusedSimpArgs false

def hasId (id : Nat) (f : FieldD) : Bool := decide (f.id = id)
def placeI (fs : List FieldD) (id : Nat) : Int := idxF (hasId id) fs
def PlacePost (i : Int) (w : World) (e : Ending) (w' : World) : Prop := e = .returned (.tuple #[.int .i64 (if i < 0 then 0 else i), .bool (decide (0 ≤ i))]) ∧ Below w.heap.size w w'
theorem idxF_lt {α : Type} (p : α → Bool) (xs : List α) : -1 ≤ idxF p xs ∧ idxF p xs < (xs.length : Int) := by
  rcases idxF_cases p xs with ⟨h, _⟩ | ⟨k, x, h, hx, _⟩
  · omega
  · have := (List.getElem?_eq_some_iff.1 hx).1; omega
end Go.Proofs.Ytmdgljbgjhpmcaa
