/- Type assertions of a value that stands in a row. A value that stands in a row; its kind. The order of cells, in plain words. The contracts of catchmentref01.Check and value.Of. Check and Of of any cell. The contracts of catchmentref01.Fix, catchmentlaw01.Value, value.Cell. The cell of a good value. The contract of catchmentlaw01.Value. The contract of value.Cell. -/
import Derived.Test.YtlclhinianamhaaProg
import Derived.WalkKit
import Derived.WalkSpells
import Derived.WalkLawsBesides
import Derived.Handy
import Derived.Below
import Derived.Lib.Hide
import Derived.Test.YtlclhinianamhaaBase
import Derived.Lib.Strings
namespace Go.Proofs.Ytlclhinianamhaa
open Go.RowKit
set_option linter.unusedVariables false
set_option linter.unusedSimpArgs false

section
variable {P : Program} {w : World} {t xT asserted : TypeId} {v z : Value} {k : IntKind}
theorem ta_int_hit (hu : P.underlying asserted = some (.int k)) (v : Value) (xT : TypeId) (w : World) : (Instr.typeAssert (.iface asserted v) xT asserted true).run P w = .ok (.tuple #[v, .bool true]) w := by
  simp [Instr.typeAssert, run_underlying hu]
theorem ta_int_hit1 (hu : P.underlying asserted = some (.int k)) (v : Value) (xT : TypeId) (w : World) : (Instr.typeAssert (.iface asserted v) xT asserted false).run P w = .ok v w := by
  simp [Instr.typeAssert, run_underlying hu]
theorem ta_int_miss (hu : P.underlying asserted = some (.int k)) {i : TypeInfo} (hi : P.info? asserted = some i) (hz : i.zero = some z) (t : TypeId) (ht : t ≠ asserted) (v : Value) (xT : TypeId) (w : World) : (Instr.typeAssert (.iface t v) xT asserted true).run P w = .ok (.tuple #[z, .bool false]) w := by
  simp [Instr.typeAssert, run_underlying hu, ht, zeroValue, typeInfo, hi, hz]
theorem ta_int_nil (hu : P.underlying asserted = some (.int k)) {i : TypeInfo} (hi : P.info? asserted = some i) (hz : i.zero = some z) (xT : TypeId) (w : World) : (Instr.typeAssert .nilIface xT asserted true).run P w = .ok (.tuple #[z, .bool false]) w := by
  simp [Instr.typeAssert, run_underlying hu, zeroValue, typeInfo, hi, hz]
theorem ta_bool_hit (hu : P.underlying asserted = some .bool) (v : Value) (xT : TypeId) (w : World) : (Instr.typeAssert (.iface asserted v) xT asserted true).run P w = .ok (.tuple #[v, .bool true]) w := by
  simp [Instr.typeAssert, run_underlying hu]
theorem ta_bool_hit1 (hu : P.underlying asserted = some .bool) (v : Value) (xT : TypeId) (w : World) : (Instr.typeAssert (.iface asserted v) xT asserted false).run P w = .ok v w := by
  simp [Instr.typeAssert, run_underlying hu]
theorem ta_bool_miss (hu : P.underlying asserted = some .bool) {i : TypeInfo} (hi : P.info? asserted = some i) (hz : i.zero = some z) (t : TypeId) (ht : t ≠ asserted) (v : Value) (xT : TypeId) (w : World) : (Instr.typeAssert (.iface t v) xT asserted true).run P w = .ok (.tuple #[z, .bool false]) w := by
  simp [Instr.typeAssert, run_underlying hu, ht, zeroValue, typeInfo, hi, hz]
theorem ta_bool_nil (hu : P.underlying asserted = some .bool) {i : TypeInfo} (hi : P.info? asserted = some i) (hz : i.zero = some z) (xT : TypeId) (w : World) : (Instr.typeAssert .nilIface xT asserted true).run P w = .ok (.tuple #[z, .bool false]) w := by
  simp [Instr.typeAssert, run_underlying hu, zeroValue, typeInfo, hi, hz]
theorem ta_str_hit (hu : P.underlying asserted = some .string) (v : Value) (xT : TypeId) (w : World) : (Instr.typeAssert (.iface asserted v) xT asserted true).run P w = .ok (.tuple #[v, .bool true]) w := by
  simp [Instr.typeAssert, run_underlying hu]
theorem ta_str_hit1 (hu : P.underlying asserted = some .string) (v : Value) (xT : TypeId) (w : World) : (Instr.typeAssert (.iface asserted v) xT asserted false).run P w = .ok v w := by
  simp [Instr.typeAssert, run_underlying hu]
theorem ta_str_miss (hu : P.underlying asserted = some .string) {i : TypeInfo} (hi : P.info? asserted = some i) (hz : i.zero = some z) (t : TypeId) (ht : t ≠ asserted) (v : Value) (xT : TypeId) (w : World) : (Instr.typeAssert (.iface t v) xT asserted true).run P w = .ok (.tuple #[z, .bool false]) w := by
  simp [Instr.typeAssert, run_underlying hu, ht, zeroValue, typeInfo, hi, hz]
theorem ta_str_nil (hu : P.underlying asserted = some .string) {i : TypeInfo} (hi : P.info? asserted = some i) (hz : i.zero = some z) (xT : TypeId) (w : World) : (Instr.typeAssert .nilIface xT asserted true).run P w = .ok (.tuple #[z, .bool false]) w := by
  simp [Instr.typeAssert, run_underlying hu, zeroValue, typeInfo, hi, hz]
end
theorem zeroI64 : (Try.prog.info? 2).map (·.zero) = some (some (.int .i64 0)) := by kernel_rfl
theorem zeroBool : (Try.prog.info? 4).map (·.zero) = some (some (.bool false)) := by kernel_rfl
theorem zeroStr : (Try.prog.info? 9).map (·.zero) = some (some (.string ByteArray.empty)) := by kernel_rfl
def AssertsI (P : Program) (T : TypeId) (z : Value) : Prop :=
  (∀ (v : Value) (xT : TypeId) (w : World), (Instr.typeAssert (.iface T v) xT T true).run P w = .ok (.tuple #[v, .bool true]) w) ∧
  (∀ (v : Value) (xT : TypeId) (w : World), (Instr.typeAssert (.iface T v) xT T false).run P w = .ok v w) ∧
  (∀ (t : TypeId) (ht : t ≠ T) (v : Value) (xT : TypeId) (w : World), (Instr.typeAssert (.iface t v) xT T true).run P w = .ok (.tuple #[z, .bool false]) w) ∧
  (∀ (xT : TypeId) (w : World), (Instr.typeAssert .nilIface xT T true).run P w = .ok (.tuple #[z, .bool false]) w)
theorem assertsI64 : AssertsI Try.prog 2 (.int .i64 0) := by
  obtain ⟨i, hi, hz⟩ := Option.map_eq_some_iff.1 zeroI64
  exact ⟨ta_int_hit Try.underlying2, ta_int_hit1 Try.underlying2, fun t ht => ta_int_miss Try.underlying2 hi hz t ht, ta_int_nil Try.underlying2 hi hz⟩
theorem assertsBool : AssertsI Try.prog 4 (.bool false) := by
  obtain ⟨i, hi, hz⟩ := Option.map_eq_some_iff.1 zeroBool
  exact ⟨ta_bool_hit Try.underlying4, ta_bool_hit1 Try.underlying4, fun t ht => ta_bool_miss Try.underlying4 hi hz t ht, ta_bool_nil Try.underlying4 hi hz⟩
theorem assertsStr : AssertsI Try.prog 9 (.string ByteArray.empty) := by
  obtain ⟨i, hi, hz⟩ := Option.map_eq_some_iff.1 zeroStr
  exact ⟨ta_str_hit Try.underlying9, ta_str_hit1 Try.underlying9, fun t ht => ta_str_miss Try.underlying9 hi hz t ht, ta_str_nil Try.underlying9 hi hz⟩
end Go.Proofs.Ytlclhinianamhaa

namespace Go.Proofs.Ytlclhinianamhaa
open Go.RowKit Go.Deep
set_option linter.unusedVariables false
set_option linter.unusedSimpArgs false

/-- A value that stands in a row. -/
inductive ValD where
  | nil
  | whole (n : Int)
  | truth (b : Bool)
  | text (s : ByteArray)
def ValD.val : ValD → Value
  | .nil => .nilIface
  | .whole n => .iface 2 (.int .i64 n)
  | .truth b => .iface 4 (.bool b)
  | .text s => .iface 9 (.string s)
def ValD.cell : ValD → CellD
  | .nil => ⟨0, 0, ByteArray.empty⟩
  | .whole n => ⟨1, n, ByteArray.empty⟩
  | .truth b => ⟨2, if b then 1 else 0, ByteArray.empty⟩
  | .text s => ⟨3, 0, s⟩
def CellD.cells (c : CellD) : Array Value := #[.int .u8 c.kind, .int .i64 c.n, .string c.s]
set_option maxRecDepth 100000 in
set_option maxHeartbeats 1000000 in
theorem kindOf (v : ValD) (w : World) : Calls Try.prog 40 #[v.val] w (ValIs (.int .u8 v.cell.kind) w) := by
  obtain ⟨i1, i2, i3, i4⟩ := assertsI64
  obtain ⟨b1, b2, b3, b4⟩ := assertsBool
  obtain ⟨s1, s2, s3, s4⟩ := assertsStr
  cases v
  all_goals
    simp only [ValD.val, ValD.cell]
    go_enter Try.func40, Try.ntmps40
    go_wp2
    go_ret
    exact ⟨rfl, Below.refl _ _⟩
end Go.Proofs.Ytlclhinianamhaa

namespace Go.Proofs.Ytlclhinianamhaa
open Go.RowKit Go.Deep
set_option linter.unusedVariables false
set_option linter.unusedSimpArgs false

theorem bl_irrefl : ∀ l : List UInt8, Op.bytesLess l l = false
  | [] => rfl
  | a :: l => by simp [Op.bytesLess, bl_irrefl l]
theorem bl_trans : ∀ a b c : List UInt8, Op.bytesLess a b = true → Op.bytesLess b c = true → Op.bytesLess a c = true
  | _, [], _, h, _ => by simp [Op.bytesLess] at h
  | _, _ :: _, [], _, h => by simp [Op.bytesLess] at h
  | [], _ :: _, _ :: _, _, _ => by simp [Op.bytesLess]
  | x :: a, y :: b, z :: c, h1, h2 => by
    simp only [Op.bytesLess, Bool.or_eq_true, decide_eq_true_eq, Bool.and_eq_true, beq_iff_eq] at h1 h2 ⊢
    rcases h1 with h1 | ⟨rfl, h1⟩
    · rcases h2 with h2 | ⟨rfl, h2⟩
      · exact .inl (UInt8.lt_trans h1 h2)
      · exact .inl h1
    · rcases h2 with h2 | ⟨rfl, h2⟩
      · exact .inl h2
      · exact .inr ⟨rfl, bl_trans a b c h1 h2⟩
theorem bl_tri : ∀ a b : List UInt8, Op.bytesLess a b = false → Op.bytesLess b a = false → a = b
  | [], [], _, _ => rfl
  | [], _ :: _, h, _ => by simp [Op.bytesLess] at h
  | _ :: _, [], _, h => by simp [Op.bytesLess] at h
  | x :: a, y :: b, h1, h2 => by
    simp only [Op.bytesLess, Bool.or_eq_false_iff, decide_eq_false_iff_not, Bool.and_eq_false_iff, beq_eq_false_iff_ne] at h1 h2
    have hxy : x = y := UInt8.le_antisymm (UInt8.not_lt.1 h2.1) (UInt8.not_lt.1 h1.1)
    subst hxy
    rw [bl_tri a b (h1.2.resolve_left (by simp)) (h2.2.resolve_left (by simp))]
theorem vbytes_ext {a b : ByteArray} (h : a.toList = b.toList) : a = b := by
  rw [Lib.toList_data, Lib.toList_data] at h
  cases a; cases b
  congr
  exact Array.toList_inj.1 h
theorem bl_asymm {a b : List UInt8} (h : Op.bytesLess a b = true) : Op.bytesLess b a = false := by
  cases h2 : Op.bytesLess b a with
  | false => rfl
  | true => have := bl_trans _ _ _ h h2; rw [bl_irrefl] at this; cases this
/-- Is a cell ahead of another one? -/
def LessC (a b : CellD) : Prop := a.kind < b.kind ∨ a.kind = b.kind ∧ (a.n < b.n ∨ a.n = b.n ∧ Op.bytesLess a.s.toList b.s.toList = true)
instance (a b : CellD) : Decidable (LessC a b) := by unfold LessC; infer_instance
theorem LessC.irrefl (a : CellD) : ¬ LessC a a := by
  rintro (h | ⟨_, h | ⟨_, h⟩⟩)
  · omega
  · omega
  · rw [bl_irrefl] at h; cases h
theorem LessC.trans {a b c : CellD} (h1 : LessC a b) (h2 : LessC b c) : LessC a c := by
  rcases h1 with h1 | ⟨e1, h1 | ⟨f1, h1⟩⟩ <;> rcases h2 with h2 | ⟨e2, h2 | ⟨f2, h2⟩⟩
  · exact .inl (by omega)
  · exact .inl (by omega)
  · exact .inl (by omega)
  · exact .inl (by omega)
  · exact .inr ⟨by omega, .inl (by omega)⟩
  · exact .inr ⟨by omega, .inl (by omega)⟩
  · exact .inl (by omega)
  · exact .inr ⟨by omega, .inl (by omega)⟩
  · exact .inr ⟨by omega, .inr ⟨by omega, bl_trans _ _ _ h1 h2⟩⟩
theorem LessC.asymm {a b : CellD} (h1 : LessC a b) : ¬ LessC b a := fun h2 => LessC.irrefl _ (h1.trans h2)
theorem CellD.ext' {a b : CellD} (h1 : a.kind = b.kind) (h2 : a.n = b.n) (h3 : a.s = b.s) : a = b := by
  cases a; cases b; cases h1; cases h2; cases h3; rfl
theorem LessC.tri {a b : CellD} (h1 : ¬ LessC a b) (h2 : ¬ LessC b a) : a = b := by
  have hk : a.kind = b.kind := by
    rcases Int.lt_trichotomy a.kind b.kind with h | h | h
    · exact absurd (.inl h) h1
    · exact h
    · exact absurd (.inl h) h2
  have hn : a.n = b.n := by
    rcases Int.lt_trichotomy a.n b.n with h | h | h
    · exact absurd (.inr ⟨hk, .inl h⟩) h1
    · exact h
    · exact absurd (.inr ⟨hk.symm, .inl h⟩) h2
  refine CellD.ext' hk hn (vbytes_ext (bl_tri _ _ ?_ ?_))
  · cases h : Op.bytesLess a.s.toList b.s.toList with
    | false => rfl
    | true => exact absurd (.inr ⟨hk, .inr ⟨hn, h⟩⟩) h1
  · cases h : Op.bytesLess b.s.toList a.s.toList with
    | false => rfl
    | true => exact absurd (.inr ⟨hk.symm, .inr ⟨hn.symm, h⟩⟩) h2
/-- How two cells stand: -1, 0, 1. -/
def cmpC (a b : CellD) : Int := if LessC a b then -1 else if LessC b a then 1 else 0
theorem cmpC_neg (a b : CellD) : cmpC b a = - cmpC a b := by
  unfold cmpC
  by_cases h1 : LessC a b
  · rw [if_pos h1, if_pos h1, if_neg h1.asymm]; rfl
  · by_cases h2 : LessC b a
    · rw [if_pos h2, if_neg h1, if_pos h2]
    · rw [if_neg h2, if_neg h1, if_neg h1, if_neg h2]; rfl
theorem cmpC_zero (a b : CellD) : cmpC a b = 0 ↔ a = b := by
  unfold cmpC
  constructor
  · intro h
    by_cases h1 : LessC a b
    · rw [if_pos h1] at h; omega
    · by_cases h2 : LessC b a
      · rw [if_neg h1, if_pos h2] at h; omega
      · exact LessC.tri h1 h2
  · rintro rfl
    rw [if_neg (LessC.irrefl _), if_neg (LessC.irrefl _)]
theorem cmpC_pos (a b : CellD) : 0 < cmpC a b ↔ LessC b a := by
  unfold cmpC
  by_cases h1 : LessC a b
  · rw [if_pos h1]; exact ⟨fun h => by omega, fun h => absurd h h1.asymm⟩
  · by_cases h2 : LessC b a
    · rw [if_neg h1, if_pos h2]; exact ⟨fun _ => h2, fun _ => by omega⟩
    · rw [if_neg h1, if_neg h2]; exact ⟨fun h => by omega, fun h => absurd h h2⟩
theorem cmpC_lt (a b : CellD) : cmpC a b < 0 ↔ LessC a b := by
  rw [← cmpC_pos, cmpC_neg a b]; omega
theorem cmpC_trans {a b c : CellD} (h1 : ¬ 0 < cmpC a b) (h2 : ¬ 0 < cmpC b c) : ¬ 0 < cmpC a c := by
  rw [cmpC_pos] at *
  intro h3
  by_cases hab : LessC a b
  · exact h2 (h3.trans hab)
  · obtain rfl := LessC.tri hab h1
    exact h2 h3
end Go.Proofs.Ytlclhinianamhaa

namespace Go.Proofs.Ytlclhinianamhaa
open Go.RowKit Go.Deep
set_option linter.unusedVariables false
set_option linter.unusedSimpArgs false

/-- An error's number of a cell. -/
def chk (c : CellD) : Int :=
  if 3 < c.kind then 10
  else if (c.kind ≠ 3 ∧ c.s.size ≠ 0) ∨ (c.kind ≠ 1 ∧ c.kind ≠ 2 ∧ c.n ≠ 0) ∨ (c.kind = 2 ∧ c.n ≠ 0 ∧ c.n ≠ 1) then 1
  else if 64 < c.s.size then 5 else 0
def valOf (c : CellD) : ValD :=
  if c.kind = 1 then .whole c.n else if c.kind = 2 then .truth (decide (c.n = 1)) else if c.kind = 3 then .text c.s else .nil
theorem empty_of {s : ByteArray} (h : s.size = 0) : s = ByteArray.empty := ByteArray.size_eq_zero_iff.1 h
theorem list_empty {s : ByteArray} (h : s.size ≠ 0) : (s.toList == []) = false := by
  rw [beq_eq_false_iff_ne, Lib.toList_data]
  intro e
  apply h
  have : s.data.toList.length = 0 := by rw [e]; rfl
  have h2 : s.size = s.data.toList.length := (Array.length_toList (xs := s.data)).symm
  omega
theorem list_empty' : (ByteArray.empty.toList == ([] : List UInt8)) = true := by decide +kernel
set_option maxRecDepth 100000 in
set_option maxHeartbeats 1000000 in
theorem chk_big (k n : Int) (s : ByteArray) (hk : 3 < k) (w : World) : Calls Try.prog 42 #[.agg #[.int .u8 k, .int .i64 n, .string s]] w (ValIs (.int .i64 10) w) := by
  go_enter Try.func42, Try.ntmps42
  go_wp2
  all_goals (go_ret; exact ⟨rfl, by repeat (first | exact Below.refl _ _ | refine Below.alloc ?_ (by simp <;> omega) _)⟩)
set_option maxRecDepth 100000 in
set_option maxHeartbeats 1000000 in
theorem of_big (k n : Int) (s : ByteArray) (hk : 3 < k) (w : World) : Calls Try.prog 39 #[.agg #[.int .u8 k, .int .i64 n, .string s]] w (ValIs (.tuple #[.nilIface, .int .i64 10]) w) := by
  go_enter Try.func39, Try.ntmps39
  go_wp2
  all_goals (go_ret2; exact ⟨rfl, by repeat (first | exact Below.refl _ _ | refine Below.alloc ?_ (by simp <;> omega) _)⟩)
set_option maxRecDepth 100000 in
set_option maxHeartbeats 1000000 in
theorem chk_0s (n : Int) (s : ByteArray) (hs : s.size ≠ 0) (w : World) : Calls Try.prog 42 #[.agg #[.int .u8 0, .int .i64 n, .string s]] w (ValIs (.int .i64 1) w) := by
  have q0 := list_empty hs
  go_enter Try.func42, Try.ntmps42
  go_wp2
  all_goals (go_ret; exact ⟨rfl, by repeat (first | exact Below.refl _ _ | refine Below.alloc ?_ (by simp <;> omega) _)⟩)
set_option maxRecDepth 100000 in
set_option maxHeartbeats 1000000 in
theorem of_0s (n : Int) (s : ByteArray) (hs : s.size ≠ 0) (w : World) : Calls Try.prog 39 #[.agg #[.int .u8 0, .int .i64 n, .string s]] w (ValIs (.tuple #[.nilIface, .int .i64 1]) w) := by
  have q0 := list_empty hs
  go_enter Try.func39, Try.ntmps39
  go_wp2
  all_goals (go_ret2; exact ⟨rfl, by repeat (first | exact Below.refl _ _ | refine Below.alloc ?_ (by simp <;> omega) _)⟩)
set_option maxRecDepth 100000 in
set_option maxHeartbeats 1000000 in
theorem chk_1s (n : Int) (s : ByteArray) (hs : s.size ≠ 0) (w : World) : Calls Try.prog 42 #[.agg #[.int .u8 1, .int .i64 n, .string s]] w (ValIs (.int .i64 1) w) := by
  have q0 := list_empty hs
  go_enter Try.func42, Try.ntmps42
  go_wp2
  all_goals (go_ret; exact ⟨rfl, by repeat (first | exact Below.refl _ _ | refine Below.alloc ?_ (by simp <;> omega) _)⟩)
set_option maxRecDepth 100000 in
set_option maxHeartbeats 1000000 in
theorem of_1s (n : Int) (s : ByteArray) (hs : s.size ≠ 0) (w : World) : Calls Try.prog 39 #[.agg #[.int .u8 1, .int .i64 n, .string s]] w (ValIs (.tuple #[.nilIface, .int .i64 1]) w) := by
  have q0 := list_empty hs
  go_enter Try.func39, Try.ntmps39
  go_wp2
  all_goals (go_ret2; exact ⟨rfl, by repeat (first | exact Below.refl _ _ | refine Below.alloc ?_ (by simp <;> omega) _)⟩)
set_option maxRecDepth 100000 in
set_option maxHeartbeats 1000000 in
theorem chk_2s (n : Int) (s : ByteArray) (hs : s.size ≠ 0) (w : World) : Calls Try.prog 42 #[.agg #[.int .u8 2, .int .i64 n, .string s]] w (ValIs (.int .i64 1) w) := by
  have q0 := list_empty hs
  go_enter Try.func42, Try.ntmps42
  go_wp2
  all_goals (go_ret; exact ⟨rfl, by repeat (first | exact Below.refl _ _ | refine Below.alloc ?_ (by simp <;> omega) _)⟩)
set_option maxRecDepth 100000 in
set_option maxHeartbeats 1000000 in
theorem of_2s (n : Int) (s : ByteArray) (hs : s.size ≠ 0) (w : World) : Calls Try.prog 39 #[.agg #[.int .u8 2, .int .i64 n, .string s]] w (ValIs (.tuple #[.nilIface, .int .i64 1]) w) := by
  have q0 := list_empty hs
  go_enter Try.func39, Try.ntmps39
  go_wp2
  all_goals (go_ret2; exact ⟨rfl, by repeat (first | exact Below.refl _ _ | refine Below.alloc ?_ (by simp <;> omega) _)⟩)
set_option maxRecDepth 100000 in
set_option maxHeartbeats 1000000 in
theorem chk_0n (n : Int) (hn : (n == 0) = false) (w : World) : Calls Try.prog 42 #[.agg #[.int .u8 0, .int .i64 n, .string ByteArray.empty]] w (ValIs (.int .i64 1) w) := by
  have q0 := list_empty'
  have hn2 : (n != 0) = true := by rw [bne, hn]; rfl
  go_enter Try.func42, Try.ntmps42
  go_wp2
  all_goals (go_ret; exact ⟨rfl, by repeat (first | exact Below.refl _ _ | refine Below.alloc ?_ (by simp <;> omega) _)⟩)
set_option maxRecDepth 100000 in
set_option maxHeartbeats 1000000 in
theorem of_0n (n : Int) (hn : (n == 0) = false) (w : World) : Calls Try.prog 39 #[.agg #[.int .u8 0, .int .i64 n, .string ByteArray.empty]] w (ValIs (.tuple #[.nilIface, .int .i64 1]) w) := by
  have q0 := list_empty'
  have hn2 : (n != 0) = true := by rw [bne, hn]; rfl
  go_enter Try.func39, Try.ntmps39
  go_wp2
  all_goals (go_ret2; exact ⟨rfl, by repeat (first | exact Below.refl _ _ | refine Below.alloc ?_ (by simp <;> omega) _)⟩)
set_option maxRecDepth 100000 in
set_option maxHeartbeats 1000000 in
theorem chk_0  (w : World) : Calls Try.prog 42 #[.agg #[.int .u8 0, .int .i64 0, .string ByteArray.empty]] w (ValIs (.int .i64 0) w) := by
  have q0 := list_empty'
  go_enter Try.func42, Try.ntmps42
  go_wp2
  all_goals (go_ret; exact ⟨rfl, by repeat (first | exact Below.refl _ _ | refine Below.alloc ?_ (by simp <;> omega) _)⟩)
set_option maxRecDepth 100000 in
set_option maxHeartbeats 1000000 in
theorem of_0  (w : World) : Calls Try.prog 39 #[.agg #[.int .u8 0, .int .i64 0, .string ByteArray.empty]] w (ValIs (.tuple #[.nilIface, .int .i64 0]) w) := by
  have q0 := list_empty'
  go_enter Try.func39, Try.ntmps39
  go_wp2
  all_goals (go_ret2; exact ⟨rfl, by repeat (first | exact Below.refl _ _ | refine Below.alloc ?_ (by simp <;> omega) _)⟩)
set_option maxRecDepth 100000 in
set_option maxHeartbeats 1000000 in
theorem chk_1 (n : Int) (w : World) : Calls Try.prog 42 #[.agg #[.int .u8 1, .int .i64 n, .string ByteArray.empty]] w (ValIs (.int .i64 0) w) := by
  have q0 := list_empty'
  go_enter Try.func42, Try.ntmps42
  go_wp2
  all_goals (go_ret; exact ⟨rfl, by repeat (first | exact Below.refl _ _ | refine Below.alloc ?_ (by simp <;> omega) _)⟩)
set_option maxRecDepth 100000 in
set_option maxHeartbeats 1000000 in
theorem of_1 (n : Int) (w : World) : Calls Try.prog 39 #[.agg #[.int .u8 1, .int .i64 n, .string ByteArray.empty]] w (ValIs (.tuple #[.iface 2 (.int .i64 n), .int .i64 0]) w) := by
  have q0 := list_empty'
  go_enter Try.func39, Try.ntmps39
  go_wp2
  all_goals (go_ret2; exact ⟨rfl, by repeat (first | exact Below.refl _ _ | refine Below.alloc ?_ (by simp <;> omega) _)⟩)
set_option maxRecDepth 100000 in
set_option maxHeartbeats 1000000 in
theorem chk_2n (n : Int) (hn : (n == 0) = false) (hn1 : (n == 1) = false) (w : World) : Calls Try.prog 42 #[.agg #[.int .u8 2, .int .i64 n, .string ByteArray.empty]] w (ValIs (.int .i64 1) w) := by
  have q0 := list_empty'
  have hn2 : (n != 0) = true := by rw [bne, hn]; rfl
  have hn3 : (n != 1) = true := by rw [bne, hn1]; rfl
  go_enter Try.func42, Try.ntmps42
  go_wp2
  all_goals (go_ret; exact ⟨rfl, by repeat (first | exact Below.refl _ _ | refine Below.alloc ?_ (by simp <;> omega) _)⟩)
set_option maxRecDepth 100000 in
set_option maxHeartbeats 1000000 in
theorem of_2n (n : Int) (hn : (n == 0) = false) (hn1 : (n == 1) = false) (w : World) : Calls Try.prog 39 #[.agg #[.int .u8 2, .int .i64 n, .string ByteArray.empty]] w (ValIs (.tuple #[.nilIface, .int .i64 1]) w) := by
  have q0 := list_empty'
  have hn2 : (n != 0) = true := by rw [bne, hn]; rfl
  have hn3 : (n != 1) = true := by rw [bne, hn1]; rfl
  go_enter Try.func39, Try.ntmps39
  go_wp2
  all_goals (go_ret2; exact ⟨rfl, by repeat (first | exact Below.refl _ _ | refine Below.alloc ?_ (by simp <;> omega) _)⟩)
set_option maxRecDepth 100000 in
set_option maxHeartbeats 1000000 in
theorem chk_20  (w : World) : Calls Try.prog 42 #[.agg #[.int .u8 2, .int .i64 0, .string ByteArray.empty]] w (ValIs (.int .i64 0) w) := by
  have q0 := list_empty'
  go_enter Try.func42, Try.ntmps42
  go_wp2
  all_goals (go_ret; exact ⟨rfl, by repeat (first | exact Below.refl _ _ | refine Below.alloc ?_ (by simp <;> omega) _)⟩)
set_option maxRecDepth 100000 in
set_option maxHeartbeats 1000000 in
theorem of_20  (w : World) : Calls Try.prog 39 #[.agg #[.int .u8 2, .int .i64 0, .string ByteArray.empty]] w (ValIs (.tuple #[.iface 4 (.bool false), .int .i64 0]) w) := by
  have q0 := list_empty'
  go_enter Try.func39, Try.ntmps39
  go_wp2
  all_goals (go_ret2; exact ⟨rfl, by repeat (first | exact Below.refl _ _ | refine Below.alloc ?_ (by simp <;> omega) _)⟩)
set_option maxRecDepth 100000 in
set_option maxHeartbeats 1000000 in
theorem chk_21  (w : World) : Calls Try.prog 42 #[.agg #[.int .u8 2, .int .i64 1, .string ByteArray.empty]] w (ValIs (.int .i64 0) w) := by
  have q0 := list_empty'
  go_enter Try.func42, Try.ntmps42
  go_wp2
  all_goals (go_ret; exact ⟨rfl, by repeat (first | exact Below.refl _ _ | refine Below.alloc ?_ (by simp <;> omega) _)⟩)
set_option maxRecDepth 100000 in
set_option maxHeartbeats 1000000 in
theorem of_21  (w : World) : Calls Try.prog 39 #[.agg #[.int .u8 2, .int .i64 1, .string ByteArray.empty]] w (ValIs (.tuple #[.iface 4 (.bool true), .int .i64 0]) w) := by
  have q0 := list_empty'
  go_enter Try.func39, Try.ntmps39
  go_wp2
  all_goals (go_ret2; exact ⟨rfl, by repeat (first | exact Below.refl _ _ | refine Below.alloc ?_ (by simp <;> omega) _)⟩)
set_option maxRecDepth 100000 in
set_option maxHeartbeats 1000000 in
theorem chk_3n (n : Int) (s : ByteArray) (hn : (n == 0) = false) (w : World) : Calls Try.prog 42 #[.agg #[.int .u8 3, .int .i64 n, .string s]] w (ValIs (.int .i64 1) w) := by
  have hn2 : (n != 0) = true := by rw [bne, hn]; rfl
  go_enter Try.func42, Try.ntmps42
  go_wp2
  all_goals (go_ret; exact ⟨rfl, by repeat (first | exact Below.refl _ _ | refine Below.alloc ?_ (by simp <;> omega) _)⟩)
set_option maxRecDepth 100000 in
set_option maxHeartbeats 1000000 in
theorem of_3n (n : Int) (s : ByteArray) (hn : (n == 0) = false) (w : World) : Calls Try.prog 39 #[.agg #[.int .u8 3, .int .i64 n, .string s]] w (ValIs (.tuple #[.nilIface, .int .i64 1]) w) := by
  have hn2 : (n != 0) = true := by rw [bne, hn]; rfl
  go_enter Try.func39, Try.ntmps39
  go_wp2
  all_goals (go_ret2; exact ⟨rfl, by repeat (first | exact Below.refl _ _ | refine Below.alloc ?_ (by simp <;> omega) _)⟩)
set_option maxRecDepth 100000 in
set_option maxHeartbeats 1000000 in
theorem chk_3l (s : ByteArray) (hs : (64 : Int) < (s.size : Int)) (w : World) : Calls Try.prog 42 #[.agg #[.int .u8 3, .int .i64 0, .string s]] w (ValIs (.int .i64 5) w) := by
  go_enter Try.func42, Try.ntmps42
  go_wp2
  all_goals (go_ret; exact ⟨rfl, by repeat (first | exact Below.refl _ _ | refine Below.alloc ?_ (by simp <;> omega) _)⟩)
set_option maxRecDepth 100000 in
set_option maxHeartbeats 1000000 in
theorem of_3l (s : ByteArray) (hs : (64 : Int) < (s.size : Int)) (w : World) : Calls Try.prog 39 #[.agg #[.int .u8 3, .int .i64 0, .string s]] w (ValIs (.tuple #[.nilIface, .int .i64 5]) w) := by
  go_enter Try.func39, Try.ntmps39
  go_wp2
  all_goals (go_ret2; exact ⟨rfl, by repeat (first | exact Below.refl _ _ | refine Below.alloc ?_ (by simp <;> omega) _)⟩)
set_option maxRecDepth 100000 in
set_option maxHeartbeats 1000000 in
theorem chk_3 (s : ByteArray) (hs : (s.size : Int) ≤ 64) (w : World) : Calls Try.prog 42 #[.agg #[.int .u8 3, .int .i64 0, .string s]] w (ValIs (.int .i64 0) w) := by
  go_enter Try.func42, Try.ntmps42
  go_wp2
  all_goals (go_ret; exact ⟨rfl, by repeat (first | exact Below.refl _ _ | refine Below.alloc ?_ (by simp <;> omega) _)⟩)
set_option maxRecDepth 100000 in
set_option maxHeartbeats 1000000 in
theorem of_3 (s : ByteArray) (hs : (s.size : Int) ≤ 64) (w : World) : Calls Try.prog 39 #[.agg #[.int .u8 3, .int .i64 0, .string s]] w (ValIs (.tuple #[.iface 9 (.string s), .int .i64 0]) w) := by
  go_enter Try.func39, Try.ntmps39
  go_wp2
  all_goals (go_ret2; exact ⟨rfl, by repeat (first | exact Below.refl _ _ | refine Below.alloc ?_ (by simp <;> omega) _)⟩)
end Go.Proofs.Ytlclhinianamhaa

namespace Go.Proofs.Ytlclhinianamhaa
open Go.RowKit Go.Deep
set_option linter.unusedVariables false
set_option linter.unusedSimpArgs false

/-- The value of a cell, as it is handed in: of one that may not be, null. -/
def goodVal (c : CellD) : ValD := if chk c = 0 then valOf c else .nil
theorem both (c : CellD) (h0 : 0 ≤ c.kind) (w : World) :
    Calls Try.prog 42 #[.agg c.cells] w (ValIs (.int .i64 (chk c)) w) ∧ Calls Try.prog 39 #[.agg c.cells] w (ValIs (.tuple #[(goodVal c).val, .int .i64 (chk c)]) w) := by
  obtain ⟨k, n, s⟩ := c
  have h0 : 0 ≤ k := h0
  by_cases hk : 3 < k
  · have e : chk ⟨k, n, s⟩ = 10 := by simp [chk, hk]
    have g : goodVal ⟨k, n, s⟩ = .nil := by simp [goodVal, e]
    rw [e, g]
    exact ⟨chk_big k n s hk w, of_big k n s hk w⟩
  · have hk4 : k = 0 ∨ k = 1 ∨ k = 2 ∨ k = 3 := by omega
    by_cases hs : s.size = 0
    · rcases hk4 with rfl | rfl | rfl | rfl
      · by_cases hn : n = 0
        · subst hn
          have e : chk ⟨0, 0, s⟩ = 0 := by simp [chk, hs]
          have g : goodVal ⟨0, 0, s⟩ = .nil := by simp [goodVal, e, valOf]
          rw [e, g, empty_of hs]
          exact ⟨chk_0 w, of_0 w⟩
        · have e : chk ⟨0, n, s⟩ = 1 := by simp [chk, hn]
          have g : goodVal ⟨0, n, s⟩ = .nil := by simp [goodVal, e]
          rw [e, g, empty_of hs]
          exact ⟨chk_0n n (by simpa using hn) w, of_0n n (by simpa using hn) w⟩
      · have e : chk ⟨1, n, s⟩ = 0 := by simp [chk, hs]
        have g : goodVal ⟨1, n, s⟩ = .whole n := by simp [goodVal, e, valOf]
        rw [e, g, empty_of hs]
        exact ⟨chk_1 n w, of_1 n w⟩
      · by_cases hn : n = 0
        · subst hn
          have e : chk ⟨2, 0, s⟩ = 0 := by simp [chk, hs]
          have g : goodVal ⟨2, 0, s⟩ = .truth false := by simp [goodVal, e, valOf]
          rw [e, g, empty_of hs]
          exact ⟨chk_20 w, of_20 w⟩
        · by_cases hn1 : n = 1
          · subst hn1
            have e : chk ⟨2, 1, s⟩ = 0 := by simp [chk, hs]
            have g : goodVal ⟨2, 1, s⟩ = .truth true := by simp [goodVal, e, valOf]
            rw [e, g, empty_of hs]
            exact ⟨chk_21 w, of_21 w⟩
          · have e : chk ⟨2, n, s⟩ = 1 := by simp [chk, hn, hn1]
            have g : goodVal ⟨2, n, s⟩ = .nil := by simp [goodVal, e]
            rw [e, g, empty_of hs]
            exact ⟨chk_2n n (by simpa using hn) (by simpa using hn1) w, of_2n n (by simpa using hn) (by simpa using hn1) w⟩
      · by_cases hn : n = 0
        · subst hn
          have e : chk ⟨3, 0, s⟩ = 0 := by simp [chk, hs]
          have g : goodVal ⟨3, 0, s⟩ = .text s := by simp [goodVal, e, valOf]
          rw [e, g]
          exact ⟨chk_3 s (by omega) w, of_3 s (by omega) w⟩
        · have e : chk ⟨3, n, s⟩ = 1 := by simp [chk, hn]
          have g : goodVal ⟨3, n, s⟩ = .nil := by simp [goodVal, e]
          rw [e, g]
          exact ⟨chk_3n n s (by simpa using hn) w, of_3n n s (by simpa using hn) w⟩
    · rcases hk4 with rfl | rfl | rfl | rfl
      · have e : chk ⟨0, n, s⟩ = 1 := by simp [chk, hs]
        have g : goodVal ⟨0, n, s⟩ = .nil := by simp [goodVal, e]
        rw [e, g]
        exact ⟨chk_0s n s hs w, of_0s n s hs w⟩
      · have e : chk ⟨1, n, s⟩ = 1 := by simp [chk, hs]
        have g : goodVal ⟨1, n, s⟩ = .nil := by simp [goodVal, e]
        rw [e, g]
        exact ⟨chk_1s n s hs w, of_1s n s hs w⟩
      · have e : chk ⟨2, n, s⟩ = 1 := by simp [chk, hs]
        have g : goodVal ⟨2, n, s⟩ = .nil := by simp [goodVal, e]
        rw [e, g]
        exact ⟨chk_2s n s hs w, of_2s n s hs w⟩
      · by_cases hn : n = 0
        · subst hn
          by_cases hl : 64 < s.size
          · have e : chk ⟨3, 0, s⟩ = 5 := by simp [chk, hl]
            have g : goodVal ⟨3, 0, s⟩ = .nil := by simp [goodVal, e]
            rw [e, g]
            exact ⟨chk_3l s (by omega) w, of_3l s (by omega) w⟩
          · have e : chk ⟨3, 0, s⟩ = 0 := by simp [chk, hl]
            have g : goodVal ⟨3, 0, s⟩ = .text s := by simp [goodVal, e, valOf]
            rw [e, g]
            exact ⟨chk_3 s (by omega) w, of_3 s (by omega) w⟩
        · have e : chk ⟨3, n, s⟩ = 1 := by simp [chk, hn]
          have g : goodVal ⟨3, n, s⟩ = .nil := by simp [goodVal, e]
          rw [e, g]
          exact ⟨chk_3n n s (by simpa using hn) w, of_3n n s (by simpa using hn) w⟩
end Go.Proofs.Ytlclhinianamhaa

namespace Go.Proofs.Ytlclhinianamhaa
open Go.RowKit Go.Deep
set_option linter.unusedVariables false
set_option linter.unusedSimpArgs false

def zeroCell : CellD := ⟨0, 0, ByteArray.empty⟩
def fix (c : CellD) : CellD := if chk c = 0 then c else zeroCell
set_option maxRecDepth 100000 in
set_option maxHeartbeats 2000000 in
theorem fix_calls (c : CellD) (h0 : 0 ≤ c.kind) (w : World) : Calls Try.prog 28 #[.agg c.cells] w (ValIs (.agg (fix c).cells) w) := by
  have hb := fun w => (both c h0 w).1
  have HB := Lib.hid hb
  clear hb
  by_cases hc : chk c = 0
  · have hf : fix c = c := by unfold fix; rw [if_pos hc]
    have hq : (chk c == 0) = true := by rw [hc]; rfl
    rw [hf]
    obtain ⟨k, n, s⟩ := c
    simp only [CellD.cells] at *
    generalize chk ⟨k, n, s⟩ = q at *
    subst hc
    clear hf
    go_enter Try.func28, Try.ntmps28
    go_wp2_with fail
    refine (HB.out _).mono ?_
    rintro e w1 ⟨rfl, hb1⟩
    have c0 := (hb1.cell (p := ⟨w.heap.size, 0, none⟩) (by simp <;> omega)).trans (by rw [World.cell?_alloc_lt _ _ _ (by simp), World.cell?_alloc_new])
    have c1 := (hb1.cell (p := ⟨w.heap.size, 1, none⟩) (by simp <;> omega)).trans (by rw [World.cell?_alloc_lt _ _ _ (by simp), World.cell?_alloc_new])
    have c2 := (hb1.cell (p := ⟨w.heap.size, 2, none⟩) (by simp <;> omega)).trans (by rw [World.cell?_alloc_lt _ _ _ (by simp), World.cell?_alloc_new])
    have xx : ∀ i v, (#[Value.int IntKind.u8 0, Value.int IntKind.i64 0, Value.string ByteArray.empty] : Array Value)[i]? = some v → w1.cell? ⟨w.heap.size + 1, i, none⟩ = some v := fun i v hv =>
      (hb1.cell (p := ⟨w.heap.size + 1, i, none⟩) (by simp)).trans (by rw [World.cell?_alloc_at _ _ _ _ (by simp)]; exact hv)
    have x0 := xx 0 _ rfl
    have x1 := xx 1 _ rfl
    have x2 := xx 2 _ rfl
    have fx : ∀ i, w1.frozen? ⟨w.heap.size + 1, i, none⟩ = false := fun i => (hb1.frozen (p := ⟨w.heap.size + 1, i, none⟩) (by simp)).trans (by simp)
    have hz1 : w.heap.size + 1 < w1.heap.size := by have := hb1.size; simp at this; omega
    have hbb : Below w.heap.size w w1 := (((Below.refl _ _).alloc (Nat.le_refl _) _).alloc (by simp) _).trans (hb1.mono (by simp <;> omega))
    have HBB := Lib.hid hbb
    clear hb1 hbb xx
    go_wp2
    refine bodyPost_ret (v := .agg #[.int .u8 k, .int .i64 n, .string s]) (by simp [results, Try.results28, go_sem, x0, x1, x2]) rfl ?_
    refine ⟨rfl, ?_⟩
    repeat (refine Below.setCell ?_ (by first | (simp; done) | (simp; omega)) _)
    exact HBB.out
  · have hf : fix c = zeroCell := by unfold fix; rw [if_neg hc]
    have hq : (chk c == 0) = false := by rw [beq_eq_false_iff_ne]; exact hc
    have hq2 : (chk c != 0) = true := by rw [bne, hq]; rfl
    rw [hf]
    obtain ⟨k, n, s⟩ := c
    simp only [CellD.cells, zeroCell] at *
    generalize chk ⟨k, n, s⟩ = q at *
    clear hf hc
    go_enter Try.func28, Try.ntmps28
    go_wp2_with fail
    refine (HB.out _).mono ?_
    rintro e w1 ⟨rfl, hb1⟩
    have xx : ∀ i v, (#[Value.int IntKind.u8 0, Value.int IntKind.i64 0, Value.string ByteArray.empty] : Array Value)[i]? = some v → w1.cell? ⟨w.heap.size + 1, i, none⟩ = some v := fun i v hv =>
      (hb1.cell (p := ⟨w.heap.size + 1, i, none⟩) (by simp)).trans (by rw [World.cell?_alloc_at _ _ _ _ (by simp)]; exact hv)
    have x0 := xx 0 _ rfl
    have x1 := xx 1 _ rfl
    have x2 := xx 2 _ rfl
    have fx : ∀ i, w1.frozen? ⟨w.heap.size + 1, i, none⟩ = false := fun i => (hb1.frozen (p := ⟨w.heap.size + 1, i, none⟩) (by simp)).trans (by simp)
    have hz1 : w.heap.size + 1 < w1.heap.size := by have := hb1.size; simp at this; omega
    have hbb : Below w.heap.size w w1 := (((Below.refl _ _).alloc (Nat.le_refl _) _).alloc (by simp) _).trans (hb1.mono (by simp <;> omega))
    have HBB := Lib.hid hbb
    clear hb1 hbb xx
    go_wp2
    refine bodyPost_ret (v := .agg #[.int .u8 0, .int .i64 0, .string ⟨#[]⟩]) (by simp [results, Try.results28, go_sem, x0, x1, x2]) rfl ?_
    refine ⟨rfl, ?_⟩
    repeat (refine Below.setCell ?_ (by first | (simp; done) | (simp; omega)) _)
    exact HBB.out
end Go.Proofs.Ytlclhinianamhaa

namespace Go.Proofs.Ytlclhinianamhaa
open Go.RowKit Go.Deep
set_option linter.unusedVariables false
set_option linter.unusedSimpArgs false

theorem good_cell (c : CellD) (h0 : 0 ≤ c.kind) : (goodVal c).cell = fix c := by
  obtain ⟨k, n, s⟩ := c
  have h0 : 0 ≤ k := h0
  unfold goodVal fix
  by_cases hc : chk ⟨k, n, s⟩ = 0
  · rw [if_pos hc, if_pos hc]
    have hk : ¬ 3 < k := by intro h; simp [chk, h] at hc
    have hk4 : k = 0 ∨ k = 1 ∨ k = 2 ∨ k = 3 := by omega
    simp only [chk, if_neg hk] at hc
    by_cases hb : (k ≠ 3 ∧ s.size ≠ 0) ∨ (k ≠ 1 ∧ k ≠ 2 ∧ n ≠ 0) ∨ (k = 2 ∧ n ≠ 0 ∧ n ≠ 1)
    · rw [if_pos hb] at hc; omega
    · rcases hk4 with rfl | rfl | rfl | rfl
      · have hs : s = ByteArray.empty := empty_of (by omega)
        have hn : n = 0 := by omega
        subst hs hn
        rfl
      · have hs : s = ByteArray.empty := empty_of (by omega)
        subst hs
        rfl
      · have hs : s = ByteArray.empty := empty_of (by omega)
        have hn : n = 0 ∨ n = 1 := by omega
        subst hs
        rcases hn with rfl | rfl <;> rfl
      · have hn : n = 0 := by omega
        subst hn
        rfl
  · rw [if_neg hc, if_neg hc]
    rfl
theorem kindOf_same (v : ValD) (w : World) : Calls Try.prog 40 #[v.val] w (fun e w' => e = .returned (.int .u8 v.cell.kind) ∧ w' = w) := by
  obtain ⟨i1, i2, i3, i4⟩ := assertsI64
  obtain ⟨b1, b2, b3, b4⟩ := assertsBool
  obtain ⟨s1, s2, s3, s4⟩ := assertsStr
  cases v
  all_goals
    simp only [ValD.val, ValD.cell]
    go_enter Try.func40, Try.ntmps40
    go_wp2
    go_ret
    exact ⟨rfl, rfl⟩
end Go.Proofs.Ytlclhinianamhaa

namespace Go.Proofs.Ytlclhinianamhaa
open Go.RowKit Go.Deep
set_option linter.unusedVariables false
set_option linter.unusedSimpArgs false

/-- What a fixed cell is worth. -/
def valOfFix (c : CellD) : ValD := valOf (fix c)
theorem valOfFix_eq (c : CellD) : valOfFix c = goodVal c := by
  unfold valOfFix fix goodVal
  by_cases hc : chk c = 0
  · rw [if_pos hc, if_pos hc]
  · rw [if_neg hc, if_neg hc]; rfl
theorem fix_kinds (c : CellD) (h0 : 0 ≤ c.kind) : (fix c).kind = 0 ∨ (fix c).kind = 1 ∨ (fix c).kind = 2 ∨ (fix c).kind = 3 := by
  unfold fix
  by_cases hc : chk c = 0
  · rw [if_pos hc]
    have hk : ¬ 3 < c.kind := by intro h; simp [chk, h] at hc
    omega
  · rw [if_neg hc]; exact .inl rfl
set_option maxRecDepth 100000 in
set_option maxHeartbeats 2000000 in
theorem lawValue (c : CellD) (h0 : 0 ≤ c.kind) (w : World) : Calls Try.prog 31 #[.agg c.cells] w (ValIs (goodVal c).val w) := by
  rw [← valOfFix_eq]
  unfold valOfFix
  have hfk := fix_kinds c h0
  have hfx := fun w => fix_calls c h0 w
  obtain ⟨fk, fn, fs, hff⟩ : ∃ fk fn fs, fix c = ⟨fk, fn, fs⟩ := ⟨_, _, _, rfl⟩
  rw [hff] at hfk ⊢
  simp only [hff, CellD.cells] at hfx hfk ⊢
  have HFX := Lib.hid hfx
  have HN := Lib.hid (rfl : decide (fn = 1) = decide (fn = 1))
  have hb : (fn == 1) = decide (fn = 1) := by by_cases h : fn = 1 <;> simp [h]
  clear hfx hff
  rcases hfk with rfl | rfl | rfl | rfl
  all_goals
    go_enter Try.func31, Try.ntmps31
    go_wp2_with fail
    refine (HFX.out _).mono ?_
    rintro e w1 ⟨rfl, hb1⟩
    have hz1 : w.heap.size < w1.heap.size := by have := hb1.size; simp at this; omega
    have B1 := Lib.hid (((Below.refl w.heap.size w).alloc (Nat.le_refl _) _).trans (hb1.mono (by simp)))
    have c0 := (hb1.cell (p := ⟨w.heap.size, 0, none⟩) (by simp)).trans (by rw [World.cell?_alloc_new])
    have c1 := (hb1.cell (p := ⟨w.heap.size, 1, none⟩) (by simp)).trans (by rw [World.cell?_alloc_new])
    have c2 := (hb1.cell (p := ⟨w.heap.size, 2, none⟩) (by simp)).trans (by rw [World.cell?_alloc_new])
    have fz : ∀ i, w1.frozen? ⟨w.heap.size, i, none⟩ = false := fun i => (hb1.frozen (p := ⟨w.heap.size, i, none⟩) (by simp)).trans (by simp)
    clear hb1
    go_wp2
    go_ret
    refine ⟨rfl, ?_⟩
    repeat (refine Below.setCell ?_ (by first | (simp; done) | (simp; omega)) _)
    exact B1.out
end Go.Proofs.Ytlclhinianamhaa

namespace Go.Proofs.Ytlclhinianamhaa
open Go.RowKit Go.Deep
set_option linter.unusedVariables false
set_option linter.unusedSimpArgs false

set_option maxRecDepth 100000 in
set_option maxHeartbeats 2000000 in
theorem valueCell (v : ValD) (w : World) : Calls Try.prog 63 #[v.val] w (ValIs (.tuple #[.agg v.cell.cells, .bool true]) w) := by
  obtain ⟨i1, i2, i3, i4⟩ := assertsI64
  obtain ⟨b1, b2, b3, b4⟩ := assertsBool
  obtain ⟨s1, s2, s3, s4⟩ := assertsStr
  rcases v with _ | n | b | s
  · simp only [ValD.val, ValD.cell, CellD.cells]
    go_enter Try.func63, Try.ntmps63
    go_wp2
    go_returns
    exact ⟨rfl, by repeat (first | exact Below.refl _ _ | refine Below.alloc ?_ (by simp <;> omega) _)⟩
  · simp only [ValD.val, ValD.cell, CellD.cells]
    go_enter Try.func63, Try.ntmps63
    go_wp2
    go_returns
    exact ⟨rfl, by repeat (first | exact Below.refl _ _ | refine Below.alloc ?_ (by simp <;> omega) _)⟩
  · cases b
    all_goals
      simp only [ValD.val, ValD.cell, CellD.cells]
      go_enter Try.func63, Try.ntmps63
      go_wp2
      go_returns
      exact ⟨rfl, by repeat (first | exact Below.refl _ _ | refine Below.setCell ?_ (by simp <;> omega) _ | refine Below.alloc ?_ (by simp <;> omega) _)⟩
  · simp only [ValD.val, ValD.cell, CellD.cells]
    go_enter Try.func63, Try.ntmps63
    go_wp2
    go_returns
    exact ⟨rfl, by repeat (first | exact Below.refl _ _ | refine Below.alloc ?_ (by simp <;> omega) _)⟩
end Go.Proofs.Ytlclhinianamhaa
