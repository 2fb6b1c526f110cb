/- The contracts of catchmentref02.Bytes and First. -/
import Derived.Test.YtkildbpfondgcaaSgPre
import Derived.Test.YtkildbpfondgcaaSgSigns
namespace Go.Proofs.Ytkildbpfondgcaa
open Go.RowKit Go.Deep
set_option linter.unusedVariables false
set_option linter.unusedSimpArgs false

def encCells (c : Nat) : Array Value := ((Utf8.encode (c : Int)).data.toList.map fun b => Value.int .u8 (b.toNat : Int)).toArray
def BytesPost (c : Nat) (w : World) (e : Ending) (w' : World) : Prop :=
  e = .returned (.slice (some ⟨w.heap.size, 0, none⟩) (Utf8.encode (c : Int)).size (Utf8.encode (c : Int)).size) ∧ w' = w.alloc (.cells (encCells c) 5)
theorem u8_cell (n : Nat) (x : Int) (h : n < 256) (hx : x = (n : Int)) : Value.int .u8 ((UInt8.ofNat n).toNat : Int) = Value.int .u8 x := by
  rw [UInt8.toNat_ofNat', Nat.mod_eq_of_lt h, hx]
theorem size_list (b : ByteArray) : b.size = b.data.toList.length := (Array.length_toList (xs := b.data)).symm
theorem enc_size (c : Nat) : (Utf8.encode (c : Int)).size = (Utf8.encode (c : Int)).data.toList.length := size_list _
theorem enc1 (c : Nat) (hc : c < 128) : encCells c = #[.int .u8 (c : Int)] ∧ (Utf8.encode (c : Int)).size = 1 := by
  rw [enc_size, encCells, encode_list c (by omega) (by omega), if_pos hc]
  exact ⟨by rw [List.map_cons, List.map_nil, u8_cell c _ (by omega) rfl], rfl⟩
theorem enc2 (c : Nat) (h1 : ¬ c < 128) (h2 : c < 2048) : encCells c = #[.int .u8 (192 + (c : Int) / 64), .int .u8 (128 + (c : Int) % 64)] ∧ (Utf8.encode (c : Int)).size = 2 := by
  rw [enc_size, encCells, encode_list c (by omega) (by omega), if_neg h1, if_pos h2]
  exact ⟨by simp only [List.map_cons, List.map_nil]; rw [u8_cell _ (192 + (c : Int) / 64) (by omega) (by omega), u8_cell _ (128 + (c : Int) % 64) (by omega) (by omega)], rfl⟩
theorem enc3 (c : Nat) (h1 : ¬ c < 2048) (h2 : c < 65536) (hs : ¬ (55296 ≤ c ∧ c < 57344)) : encCells c = #[.int .u8 (224 + (c : Int) / 4096), .int .u8 (128 + (c : Int) / 64 % 64), .int .u8 (128 + (c : Int) % 64)] ∧ (Utf8.encode (c : Int)).size = 3 := by
  rw [enc_size, encCells, encode_list c (by omega) hs, if_neg (by omega), if_neg h1, if_pos h2]
  exact ⟨by simp only [List.map_cons, List.map_nil]; rw [u8_cell _ (224 + (c : Int) / 4096) (by omega) (by omega), u8_cell _ (128 + (c : Int) / 64 % 64) (by omega) (by omega), u8_cell _ (128 + (c : Int) % 64) (by omega) (by omega)], rfl⟩
theorem enc4 (c : Nat) (h1 : ¬ c < 65536) (h2 : c ≤ 1114111) : encCells c = #[.int .u8 (240 + (c : Int) / 262144), .int .u8 (128 + (c : Int) / 4096 % 64), .int .u8 (128 + (c : Int) / 64 % 64), .int .u8 (128 + (c : Int) % 64)] ∧ (Utf8.encode (c : Int)).size = 4 := by
  rw [enc_size, encCells, encode_list c (by omega) (by omega), if_neg (by omega), if_neg (by omega), if_neg h1]
  exact ⟨by simp only [List.map_cons, List.map_nil]; rw [u8_cell _ (240 + (c : Int) / 262144) (by omega) (by omega), u8_cell _ (128 + (c : Int) / 4096 % 64) (by omega) (by omega), u8_cell _ (128 + (c : Int) / 64 % 64) (by omega) (by omega), u8_cell _ (128 + (c : Int) % 64) (by omega) (by omega)], rfl⟩
set_option maxRecDepth 2000000 in
set_option maxHeartbeats 4000000 in
theorem bytes_calls (c : Nat) (w : World) (hc : c ≤ 1114111) (hs : ¬ (55296 ≤ c ∧ c < 57344)) : Calls Try.prog 52 #[.int .i64 (c : Int)] w (BytesPost c w) := by
  by_cases h1 : c < 128
  · have he := Lib.hid (enc1 c h1)
    clear hs
    go_enter Try.func52, Try.ntmps52
    go_wp2
    go_ret
    exact ⟨by rw [he.out.2]; rfl, by rw [he.out.1]⟩
  · by_cases h2 : c < 2048
    · have he := Lib.hid (enc2 c h1 h2)
      clear hs
      go_enter Try.func52, Try.ntmps52
      go_wp2
      go_ret
      exact ⟨by rw [he.out.2]; rfl, by rw [he.out.1]⟩
    · by_cases h3 : c < 65536
      · have he := Lib.hid (enc3 c h2 h3 hs)
        clear hs
        go_enter Try.func52, Try.ntmps52
        go_wp2
        go_ret
        exact ⟨by rw [he.out.2]; rfl, by rw [he.out.1]⟩
      · have he := Lib.hid (enc4 c h3 hc)
        clear hs
        go_enter Try.func52, Try.ntmps52
        go_wp2
        go_ret
        exact ⟨by rw [he.out.2]; rfl, by rw [he.out.1]⟩

theorem ats_at {s : ByteArray} {k : Nat} (h : k < N s) : (intsV (ats s))[k]? = some (.int .i64 (P s k : Nat)) := by
  simp [intsV, ats, atsK, h]
theorem rs_at {s : ByteArray} {k : Nat} (h : k < N s) : (intsV (rs s))[k]? = some (.int .i64 (rn s (P s k) : Nat)) := by
  simp [intsV, rs, rsK, h]
set_option maxRecDepth 100000 in
set_option maxHeartbeats 1000000 in
theorem refFirst (s : ByteArray) (n : Int) (w : World) (hm : s.size ≤ 1000000) : Calls Try.prog 29 #[.string s, .int .i64 n] w (FirstPost s n w) := by
  go_enter Try.func29, Try.ntmps29
  go_wp2_with fail
  refine (signs_calls _ _ hm).mono ?_
  rintro e w1 ⟨lv, av, rfl, hol, hoa, hb, hne⟩
  obtain ⟨ad, cp, rfl, h1, h2, h3⟩ := own_slice hoa
  have HOA := Lib.hid hoa
  have HB := Lib.hid hb
  have HNL := Lib.hid (N_le s)
  clear hol hoa hb hne
  by_cases hn1 : n < 1
  · go_wp2
    go_ret
    refine ⟨?_, HB.out⟩
    unfold firstF
    by_cases h : n < (N s : Int)
    · rw [if_pos h, show n.toNat = 0 by omega]
      exact congrArg (fun x => Ending.returned (Value.string x)) (by rw [P]; exact (ByteArray.size_eq_zero_iff.1 (by simp)).symm)
    · have : s.size = 0 := by have := P_N s; rw [show N s = 0 by omega] at this; exact this.symm
      rw [if_neg h, ByteArray.size_eq_zero_iff.1 this]
      rfl
  · have hn1' : 1 ≤ n := by omega
    by_cases hnN : (N s : Int) ≤ n
    · go_wp2
      go_ret
      refine ⟨?_, HB.out⟩
      unfold firstF
      rw [if_neg (by omega)]
      rfl
    · obtain ⟨m, rfl⟩ : ∃ m : Nat, n = (m : Int) := ⟨n.toNat, by omega⟩
      have hmN : m < N s := by omega
      obtain ⟨g, cp', hge, hg1, hg2⟩ := HOA.out.form (by omega)
      cases hge
      have hcl := HOA.out.cellAt m (by omega)
      rw [ats_at hmN] at hcl
      have hpl := P_lt hmN
      have hm0 : (0 : Int) ≤ (m : Int) := by omega
      have hm1 : (m : Int) < (N s : Int) := by omega
      have hp0 : (0 : Int) ≤ (P s m : Int) := by omega
      have hp1 : (P s m : Int) ≤ (s.size : Int) := by omega
      clear h3
      go_wp2
      go_ret
      refine ⟨?_, HB.out⟩
      unfold firstF
      rw [if_pos (by omega)]
      rfl
end Go.Proofs.Ytkildbpfondgcaa
