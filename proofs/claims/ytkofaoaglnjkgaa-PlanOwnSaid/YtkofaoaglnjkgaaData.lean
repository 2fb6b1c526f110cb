/- The shapes of the program's data: fields, schemas, snapshots, tables. -/
import Derived.Test.YtkofaoaglnjkgaaSk
namespace Go.Proofs.Ytkofaoaglnjkgaa
open Go.RowKit Go.Deep
set_option linter.unusedVariables false
set_option linter.unusedSimpArgs false

structure FieldD where
  id : Nat
  name : ByteArray
  kind : Nat
  need : Bool
def FieldR : Rd FieldD := fun w cs f => cs = [.int .u32 f.id, .string f.name, .int .u8 f.kind, .bool f.need] ∧ f.name.size ≤ maxLen ∧ f.id < 2 ^ 32 ∧ f.kind < 256
theorem FieldR.stable : Stable FieldR := fun _ _ _ _ _ h => h
structure SchemaD where
  id : Nat
  fields : List FieldD
def SchemaR : Rd SchemaD := fun w cs s => ∃ a n c, cs = [.int .u32 s.id, .slice a n c] ∧ n ≤ c ∧ c ≤ maxLen ∧ (a = none → c = 0) ∧ Sl 4 FieldR w a n s.fields ∧ s.id < 2 ^ 32
theorem SchemaR.stable : Stable SchemaR := by
  rintro w w' cs x hb ⟨a, n, c, rfl, h1, h2, h3, h, h4⟩
  exact ⟨a, n, c, rfl, h1, h2, h3, h.below FieldR.stable hb, h4⟩
structure SnapD where
  id : Nat
  parent : Nat
  seq : Nat
  offset : Nat
  time : Nat
  schema : Nat
  mans : List ByteArray
def SnapR : Rd SnapD := fun w cs s => ∃ a n c, cs = [.int .u64 s.id, .int .u64 s.parent, .int .u64 s.seq, .int .u64 s.offset, .int .u64 s.time, .int .u32 s.schema, .slice a n c] ∧ n ≤ c ∧ c ≤ maxLen ∧ (a = none → c = 0) ∧ Sl 1 StrR w a n s.mans ∧
  s.id < 2 ^ 64 ∧ s.parent < 2 ^ 64 ∧ s.seq < 2 ^ 64 ∧ s.offset < 2 ^ 64 ∧ s.time < 2 ^ 64 ∧ s.schema < 2 ^ 32
theorem SnapR.stable : Stable SnapR := by
  rintro w w' cs x hb ⟨a, n, c, rfl, h1, h2, h3, h, h4⟩
  exact ⟨a, n, c, rfl, h1, h2, h3, h.below StrR.stable hb, h4⟩
structure TableD where
  schemas : List SchemaD
  snaps : List SnapD
  current : Nat
def TableR : Rd TableD := fun w cs t => ∃ a n c a' n' c', cs = [.slice a n c, .slice a' n' c', .int .u64 t.current] ∧ n ≤ c ∧ c ≤ maxLen ∧ (a = none → c = 0) ∧ Sl 2 SchemaR w a n t.schemas ∧ n' ≤ c' ∧ c' ≤ maxLen ∧ (a' = none → c' = 0) ∧ Sl 7 SnapR w a' n' t.snaps ∧ t.current < 2 ^ 64
theorem TableR.stable : Stable TableR := by
  rintro w w' cs x hb ⟨a, n, c, a', n', c', rfl, h1, h2, h3, h, h4, h5, h6, h7, h8⟩
  exact ⟨a, n, c, a', n', c', rfl, h1, h2, h3, h.below SchemaR.stable hb, h4, h5, h6, h7.below SnapR.stable hb, h8⟩
end Go.Proofs.Ytkofaoaglnjkgaa
