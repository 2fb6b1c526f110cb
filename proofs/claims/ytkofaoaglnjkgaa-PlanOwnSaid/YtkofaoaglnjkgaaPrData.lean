/- Predicates and statistics as plain data, and how they lie in memory. -/
import Derived.Test.YtkofaoaglnjkgaaVlCellD
import Derived.Test.YtkofaoaglnjkgaaData
namespace Go.Proofs.Ytkofaoaglnjkgaa
open Go.RowKit Go.Deep
set_option linter.unusedVariables false
set_option linter.unusedSimpArgs false

inductive PredD where
  | mk (op field : Nat) (value : CellD) (kids : List PredD)
def PredD.op : PredD → Nat | .mk o _ _ _ => o
def PredD.field : PredD → Nat | .mk _ f _ _ => f
def PredD.value : PredD → CellD | .mk _ _ v _ => v
def PredD.kids : PredD → List PredD | .mk _ _ _ k => k
def CellOK (c : CellD) : Prop := c.s.size ≤ maxLen ∧ (0 ≤ c.kind ∧ c.kind ≤ 255) ∧ (-9223372036854775808 ≤ c.n ∧ c.n ≤ 9223372036854775807)
/-- A predicate that is at most so deep. -/
def PredR : Nat → Rd PredD
  | 0 => fun _ _ _ => False
  | d + 1 => fun w cs p => ∃ a n c, cs = [.int .u8 (p.op : Int), .int .u32 (p.field : Int), .int .u8 p.value.kind, .int .i64 p.value.n, .string p.value.s, .slice a n c] ∧ n ≤ c ∧ c ≤ maxLen ∧ (a = none → c = 0) ∧ Sl 6 (PredR d) w a n p.kids ∧ p.op < 256 ∧ p.field < 2 ^ 32 ∧ CellOK p.value
theorem PredR.stable : ∀ d, Stable (PredR d)
  | 0 => fun _ _ _ _ _ h => h
  | d + 1 => by
    rintro w w' cs x hb ⟨a, n, c, rfl, h1, h2, h3, h, h4⟩
    exact ⟨a, n, c, rfl, h1, h2, h3, h.below (PredR.stable d) hb, h4⟩
theorem Sl.imp {α : Type} {size : Nat} {R R' : Rd α} {w : World} {a : Option Addr} {n : Nat} {xs : List α} (h : Sl size R w a n xs) (hi : ∀ cs x, R w cs x → R' w cs x) : Sl size R' w a n xs := by
  refine ⟨h.1, fun hn => ?_⟩
  obtain ⟨b, off, ha, hlt, hc⟩ := h.2 hn
  refine ⟨b, off, ha, hlt, fun i x hx => ?_⟩
  obtain ⟨cs, hl, hr, hcell⟩ := hc i x hx
  exact ⟨cs, hl, hi _ _ hr, hcell⟩
theorem PredR.succ : ∀ (d : Nat) (w : World) (cs : List Value) (p : PredD), PredR d w cs p → PredR (d + 1) w cs p
  | 0, _, _, _, h => h.elim
  | d + 1, w, cs, p, ⟨a, n, c, e, h1, h2, h3, h, h4⟩ => ⟨a, n, c, e, h1, h2, h3, h.imp (fun cs x => PredR.succ d w cs x), h4⟩
theorem PredR.mono {d e : Nat} (h : d ≤ e) {w : World} {cs : List Value} {p : PredD} (hp : PredR d w cs p) : PredR e w cs p := by
  induction h with
  | refl => exact hp
  | step _ ih => exact PredR.succ _ _ _ _ ih
theorem PredR.shape : ∀ {d : Nat} {w : World} {cs : List Value} {p : PredD}, PredR d w cs p → ∃ a n c, cs = [.int .u8 (p.op : Int), .int .u32 (p.field : Int), .int .u8 p.value.kind, .int .i64 p.value.n, .string p.value.s, .slice a n c]
  | 0, _, _, _, h => h.elim
  | d + 1, w, cs, p, ⟨a, n, c, e, _⟩ => ⟨a, n, c, e⟩
/-- Bounds of a column, as they are handed in. -/
structure StatD where
  rows : Int
  nulls : Int
  some : Bool
  high : Bool
  min : CellD
  max : CellD
def StatD.cells (s : StatD) : Array Value := #[.int .i64 s.rows, .int .i64 s.nulls, .bool s.some, .bool s.high, .int .u8 s.min.kind, .int .i64 s.min.n, .string s.min.s, .int .u8 s.max.kind, .int .i64 s.max.n, .string s.max.s]
def IntOK (n : Int) : Prop := -9223372036854775808 ≤ n ∧ n ≤ 9223372036854775807
def StatOK (s : StatD) : Prop := IntOK s.rows ∧ IntOK s.nulls ∧ CellOK s.min ∧ CellOK s.max
def StatR : Rd StatD := fun _ cs s => cs = s.cells.toList ∧ StatOK s
theorem StatR.stable : Stable StatR := fun _ _ _ _ _ h => h
end Go.Proofs.Ytkofaoaglnjkgaa
