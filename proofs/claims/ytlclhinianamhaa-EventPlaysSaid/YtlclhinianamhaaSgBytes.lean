/- The contracts of catchmentref02.Bytes and First. -/
import Derived.Test.YtlclhinianamhaaSgPre
import Derived.Test.YtlclhinianamhaaSgSigns
namespace Go.Proofs.Ytlclhinianamhaa
open Go.RowKit Go.Deep
set_option linter.unusedVariables false
set_option linter.unusedSimpArgs false

def encCells (c : Nat) : Array Value := ((Utf8.encode (c : Int)).data.toList.map fun b => Value.int .u8 (b.toNat : Int)).toArray
def BytesPost (c : Nat) (w : World) (e : Ending) (w' : World) : Prop :=
  e = .returned (.slice (some ⟨w.heap.size, 0, none⟩) (Utf8.encode (c : Int)).size (Utf8.encode (c : Int)).size) ∧ w' = w.alloc (.cells (encCells c) 5)
theorem u8_cell (n : Nat) (x : Int) (h : n < 256) (hx : x = (n : Int)) : Value.int .u8 ((UInt8.ofNat n).toNat : Int) = Value.int .u8 x := by
  rw [UInt8.toNat_ofNat', Nat.mod_eq_of_lt h, hx]
theorem size_list (b : ByteArray) : b.size = b.data.toList.length := (Array.length_toList (xs := b.data)).symm
theorem enc_size (c : Nat) : (Utf8.encode (c : Int)).size = (Utf8.encode (c : Int)).data.toList.length := size_list _
theorem enc1 (c : Nat) (hc : c < 128) : encCells c = #[.int .u8 (c : Int)] ∧ (Utf8.encode (c : Int)).size = 1 := by
  rw [enc_size, encCells, encode_list c (by omega) (by omega), if_pos hc]
  exact ⟨by rw [List.map_cons, List.map_nil, u8_cell c _ (by omega) rfl], rfl⟩
theorem enc2 (c : Nat) (h1 : ¬ c < 128) (h2 : c < 2048) : encCells c = #[.int .u8 (192 + (c : Int) / 64), .int .u8 (128 + (c : Int) % 64)] ∧ (Utf8.encode (c : Int)).size = 2 := by
  rw [enc_size, encCells, encode_list c (by omega) (by omega), if_neg h1, if_pos h2]
  exact ⟨by simp only [List.map_cons, List.map_nil]; rw [u8_cell _ (192 + (c : Int) / 64) (by omega) (by omega), u8_cell _ (128 + (c : Int) % 64) (by omega) (by omega)], rfl⟩
theorem enc3 (c : Nat) (h1 : ¬ c < 2048) (h2 : c < 65536) (hs : ¬ (55296 ≤ c ∧ c < 57344)) : encCells c = #[.int .u8 (224 + (c : Int) / 4096), .int .u8 (128 + (c : Int) / 64 % 64), .int .u8 (128 + (c : Int) % 64)] ∧ (Utf8.encode (c : Int)).size = 3 := by
  rw [enc_size, encCells, encode_list c (by omega) hs, if_neg (by omega), if_neg h1, if_pos h2]
  exact ⟨by simp only [List.map_cons, List.map_nil]; rw [u8_cell _ (224 + (c : Int) / 4096) (by omega) (by omega), u8_cell _ (128 + (c : Int) / 64 % 64) (by omega) (by omega), u8_cell _ (128 + (c : Int) % 64) (by omega) (by omega)], rfl⟩
theorem enc4 (c : Nat) (h1 : ¬ c < 65536) (h2 : c ≤ 1114111) : encCells c = #[.int .u8 (240 + (c : Int) / 262144), .int .u8 (128 + (c : Int) / 4096 % 64), .int .u8 (128 + (c : Int) / 64 % 64), .int .u8 (128 + (c : Int) % 64)] ∧ (Utf8.encode (c : Int)).size = 4 := by
  rw [enc_size, encCells, encode_list c (by omega) (by omega), if_neg (by omega), if_neg (by omega), if_neg h1]
  exact ⟨by simp only [List.map_cons, List.map_nil]; rw [u8_cell _ (240 + (c : Int) / 262144) (by omega) (by omega), u8_cell _ (128 + (c : Int) / 4096 % 64) (by omega) (by omega), u8_cell _ (128 + (c : Int) / 64 % 64) (by omega) (by omega), u8_cell _ (128 + (c : Int) % 64) (by omega) (by omega)], rfl⟩
theorem ats_at {s : ByteArray} {k : Nat} (h : k < N s) : (intsV (ats s))[k]? = some (.int .i64 (P s k : Nat)) := by
  simp [intsV, ats, atsK, h]
theorem rs_at {s : ByteArray} {k : Nat} (h : k < N s) : (intsV (rs s))[k]? = some (.int .i64 (rn s (P s k) : Nat)) := by
  simp [intsV, rs, rsK, h]
end Go.Proofs.Ytlclhinianamhaa
