/- Type assertions of a value that stands in a row. -/
import Derived.Test.YtkofaoaglnjkgaaProg
import Derived.WalkKit
import Derived.WalkSpells
import Derived.WalkLawsBesides
import Derived.Handy
import Derived.Below
import Derived.Lib.Hide
namespace Go.Proofs.Ytkofaoaglnjkgaa
open Go.RowKit
set_option linter.unusedVariables false
set_option linter.unusedSimpArgs false

section
variable {P : Program} {w : World} {t xT asserted : TypeId} {v z : Value} {k : IntKind}
theorem ta_int_hit (hu : P.underlying asserted = some (.int k)) (v : Value) (xT : TypeId) (w : World) : (Instr.typeAssert (.iface asserted v) xT asserted true).run P w = .ok (.tuple #[v, .bool true]) w := by
  simp [Instr.typeAssert, run_underlying hu]
theorem ta_int_hit1 (hu : P.underlying asserted = some (.int k)) (v : Value) (xT : TypeId) (w : World) : (Instr.typeAssert (.iface asserted v) xT asserted false).run P w = .ok v w := by
  simp [Instr.typeAssert, run_underlying hu]
theorem ta_int_miss (hu : P.underlying asserted = some (.int k)) {i : TypeInfo} (hi : P.info? asserted = some i) (hz : i.zero = some z) (t : TypeId) (ht : t ≠ asserted) (v : Value) (xT : TypeId) (w : World) : (Instr.typeAssert (.iface t v) xT asserted true).run P w = .ok (.tuple #[z, .bool false]) w := by
  simp [Instr.typeAssert, run_underlying hu, ht, zeroValue, typeInfo, hi, hz]
theorem ta_int_nil (hu : P.underlying asserted = some (.int k)) {i : TypeInfo} (hi : P.info? asserted = some i) (hz : i.zero = some z) (xT : TypeId) (w : World) : (Instr.typeAssert .nilIface xT asserted true).run P w = .ok (.tuple #[z, .bool false]) w := by
  simp [Instr.typeAssert, run_underlying hu, zeroValue, typeInfo, hi, hz]
theorem ta_bool_hit (hu : P.underlying asserted = some .bool) (v : Value) (xT : TypeId) (w : World) : (Instr.typeAssert (.iface asserted v) xT asserted true).run P w = .ok (.tuple #[v, .bool true]) w := by
  simp [Instr.typeAssert, run_underlying hu]
theorem ta_bool_hit1 (hu : P.underlying asserted = some .bool) (v : Value) (xT : TypeId) (w : World) : (Instr.typeAssert (.iface asserted v) xT asserted false).run P w = .ok v w := by
  simp [Instr.typeAssert, run_underlying hu]
theorem ta_bool_miss (hu : P.underlying asserted = some .bool) {i : TypeInfo} (hi : P.info? asserted = some i) (hz : i.zero = some z) (t : TypeId) (ht : t ≠ asserted) (v : Value) (xT : TypeId) (w : World) : (Instr.typeAssert (.iface t v) xT asserted true).run P w = .ok (.tuple #[z, .bool false]) w := by
  simp [Instr.typeAssert, run_underlying hu, ht, zeroValue, typeInfo, hi, hz]
theorem ta_bool_nil (hu : P.underlying asserted = some .bool) {i : TypeInfo} (hi : P.info? asserted = some i) (hz : i.zero = some z) (xT : TypeId) (w : World) : (Instr.typeAssert .nilIface xT asserted true).run P w = .ok (.tuple #[z, .bool false]) w := by
  simp [Instr.typeAssert, run_underlying hu, zeroValue, typeInfo, hi, hz]
theorem ta_str_hit (hu : P.underlying asserted = some .string) (v : Value) (xT : TypeId) (w : World) : (Instr.typeAssert (.iface asserted v) xT asserted true).run P w = .ok (.tuple #[v, .bool true]) w := by
  simp [Instr.typeAssert, run_underlying hu]
theorem ta_str_hit1 (hu : P.underlying asserted = some .string) (v : Value) (xT : TypeId) (w : World) : (Instr.typeAssert (.iface asserted v) xT asserted false).run P w = .ok v w := by
  simp [Instr.typeAssert, run_underlying hu]
theorem ta_str_miss (hu : P.underlying asserted = some .string) {i : TypeInfo} (hi : P.info? asserted = some i) (hz : i.zero = some z) (t : TypeId) (ht : t ≠ asserted) (v : Value) (xT : TypeId) (w : World) : (Instr.typeAssert (.iface t v) xT asserted true).run P w = .ok (.tuple #[z, .bool false]) w := by
  simp [Instr.typeAssert, run_underlying hu, ht, zeroValue, typeInfo, hi, hz]
theorem ta_str_nil (hu : P.underlying asserted = some .string) {i : TypeInfo} (hi : P.info? asserted = some i) (hz : i.zero = some z) (xT : TypeId) (w : World) : (Instr.typeAssert .nilIface xT asserted true).run P w = .ok (.tuple #[z, .bool false]) w := by
  simp [Instr.typeAssert, run_underlying hu, zeroValue, typeInfo, hi, hz]
end
theorem zeroI64 : (Try.prog.info? 2).map (·.zero) = some (some (.int .i64 0)) := by kernel_rfl
theorem zeroBool : (Try.prog.info? 4).map (·.zero) = some (some (.bool false)) := by kernel_rfl
theorem zeroStr : (Try.prog.info? 9).map (·.zero) = some (some (.string ByteArray.empty)) := by kernel_rfl
def AssertsI (P : Program) (T : TypeId) (z : Value) : Prop :=
  (∀ (v : Value) (xT : TypeId) (w : World), (Instr.typeAssert (.iface T v) xT T true).run P w = .ok (.tuple #[v, .bool true]) w) ∧
  (∀ (v : Value) (xT : TypeId) (w : World), (Instr.typeAssert (.iface T v) xT T false).run P w = .ok v w) ∧
  (∀ (t : TypeId) (ht : t ≠ T) (v : Value) (xT : TypeId) (w : World), (Instr.typeAssert (.iface t v) xT T true).run P w = .ok (.tuple #[z, .bool false]) w) ∧
  (∀ (xT : TypeId) (w : World), (Instr.typeAssert .nilIface xT T true).run P w = .ok (.tuple #[z, .bool false]) w)
theorem assertsI64 : AssertsI Try.prog 2 (.int .i64 0) := by
  obtain ⟨i, hi, hz⟩ := Option.map_eq_some_iff.1 zeroI64
  exact ⟨ta_int_hit Try.underlying2, ta_int_hit1 Try.underlying2, fun t ht => ta_int_miss Try.underlying2 hi hz t ht, ta_int_nil Try.underlying2 hi hz⟩
theorem assertsBool : AssertsI Try.prog 4 (.bool false) := by
  obtain ⟨i, hi, hz⟩ := Option.map_eq_some_iff.1 zeroBool
  exact ⟨ta_bool_hit Try.underlying4, ta_bool_hit1 Try.underlying4, fun t ht => ta_bool_miss Try.underlying4 hi hz t ht, ta_bool_nil Try.underlying4 hi hz⟩
theorem assertsStr : AssertsI Try.prog 9 (.string ByteArray.empty) := by
  obtain ⟨i, hi, hz⟩ := Option.map_eq_some_iff.1 zeroStr
  exact ⟨ta_str_hit Try.underlying9, ta_str_hit1 Try.underlying9, fun t ht => ta_str_miss Try.underlying9 hi hz t ht, ta_str_nil Try.underlying9 hi hz⟩
end Go.Proofs.Ytkofaoaglnjkgaa
