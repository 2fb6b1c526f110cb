/- The contracts of signs.Count, First, Clean and next. -/
import Derived.Test.YtkofaoaglnjkgaaSgCuts
import Derived.Test.YtkofaoaglnjkgaaProg
import Derived.Test.YtkofaoaglnjkgaaSk
import Derived.Laws.RangeAny
import Derived.WalkSpells
import Derived.Handy
import Derived.Lib.Strings
namespace Go.Proofs.Ytkofaoaglnjkgaa
open Go.RowKit Go.Deep
set_option linter.unusedVariables false
set_option linter.unusedSimpArgs false

theorem next_at (w : World) (s : ByteArray) (p : Nat) (h : p < s.size) (ty : TypeId) :
    (Instr.next (.pointer (some ⟨w.heap.size, 0, none⟩)) true ty).run Try.prog (w.iter s p) = .ok (.tuple #[.bool true, .int .i64 (p : Int), .int .i32 (rn s p : Nat)]) (w.iter s (p + wd s p)) :=
  run_next_any w s p ty h
theorem below_iter (w : World) (s : ByteArray) (p : Nat) : Below w.heap.size w (w.iter s p) := (Below.refl _ _).alloc (Nat.le_refl _) _

def CountPost (s : ByteArray) (w : World) (e : Ending) (w' : World) : Prop := e = .returned (.int .i64 (N s : Nat)) ∧ Below w.heap.size w w'
set_option maxRecDepth 100000 in
set_option maxHeartbeats 1000000 in
theorem count_calls (s : ByteArray) (w : World) (hm : s.size ≤ 1000000) : Calls Try.prog 75 #[.string s] w (CountPost s w) := by
  go_enter Try.func75, Try.ntmps75
  go_wp2_with fail
  go_loopw [3] (fun c wr => ∃ k : Nat, Upto s k ∧ c = .int .i64 (k : Int) ∧ wr = w.iter s (P s k)) (fun _ wr => s.size - wr.iterPos w.heap.size)
  case atStart => exact ⟨0, Upto.zero s, rfl, rfl⟩
  case round =>
    obtain ⟨k, hk, rfl, rfl⟩ := hrel
    have HK := Lib.hid hk
    have hkp := hk.k_le
    have hps := hk.1
    by_cases hlt : P s k < s.size
    · have HS := Lib.hid (hk.step hlt)
      have hnx := next_at w s (P s k) hlt
      have hwp := wd_pos s _ hlt
      have hsu := P_succ s k
      have HSU := Lib.hid hsu
      clear hk hsu
      generalize hp : P s k = p at *
      generalize hd : wd s p = d at *
      clear hp hd
      go_wp2
      go_roundw
      case rel => exact ⟨k + 1, HS.out, by go_num, by rw [HSU.out]⟩
      case measure => simp <;> omega
    · have hnx := fun ty => run_next_end (P := Try.prog) w s (P s k) ty hlt
      have hkn := hk.done hlt
      subst hkn
      clear hk HK
      go_wp2
      go_ret
      exact ⟨rfl, below_iter w s _⟩

/-- The first n signs. -/
noncomputable def firstF (s : ByteArray) (n : Int) : ByteArray := if n < (N s : Int) then s.extract 0 (P s n.toNat) else s
def FirstPost (s : ByteArray) (n : Int) (w : World) (e : Ending) (w' : World) : Prop := e = .returned (.string (firstF s n)) ∧ Below w.heap.size w w'
/-- The next sign. -/
def nextF (c : Nat) : Nat := if c = 55295 then 57344 else c + 1
def NextPost (c : Nat) (w : World) (e : Ending) (w' : World) : Prop := e = .returned (.tuple #[.int .i32 (nextF c : Nat), .bool (decide (c < 1114111))]) ∧ w' = w
/-- What a sign of the number 65533 is told by. -/
theorem bad_iff (s : ByteArray) (p : Nat) (h : p < s.size) (hr : rn s p = 65533) : (wd s p = 3 ∧ p + 3 ≤ s.size ∧ bt s p = 239 ∧ bt s (p + 1) = 191 ∧ bt s (p + 2) = 189) ∨ (wd s p = 1 ∧ ¬ (p + 3 ≤ s.size ∧ bt s p = 239 ∧ bt s (p + 1) = 191 ∧ bt s (p + 2) = 189)) := by
  have h1 := bt_lt s p
  have h2 := bt_lt s (p + 1)
  have h3 := bt_lt s (p + 2)
  have h4 := bt_lt s (p + 3)
  have hs := sign_at s p h
  rw [hr] at hs
  generalize wd s p = d at *
  generalize okAt s p = ob at *
  generalize bt s p = b0 at *
  generalize bt s (p + 1) = b1 at *
  generalize bt s (p + 2) = b2 at *
  generalize bt s (p + 3) = b3 at *
  unfold signN at hs
  repeat' split at hs
  all_goals (simp only [Prod.mk.injEq] at hs; obtain ⟨e1, e2, e3⟩ := hs; omega)
theorem get!_data (s : ByteArray) (i : Nat) (h : i < s.size) : s.data.toList[i]? = some (s.get! i) := by
  have h' : i < s.data.size := h
  simp only [ByteArray.get!, Array.getElem!_eq_getD, Array.getD_eq_getD_getElem?]
  rw [Array.getElem?_toList, Array.getElem?_eq_getElem h']
  rfl
theorem take3 (s : ByteArray) (p : Nat) (h : p + 3 ≤ s.size) : ((s.extract p s.size).extract 0 3).toList = [s.get! p, s.get! (p + 1), s.get! (p + 2)] := by
  rw [Lib.toList_data]
  have hsz : ((s.extract p s.size).extract 0 3).size = 3 := by rw [ByteArray.size_extract, ByteArray.size_extract]; omega
  apply List.ext_getElem?
  intro i
  by_cases hi : i < 3
  · rw [get!_data _ i (by omega)]
    have e : ((s.extract p s.size).extract 0 3).get! i = s.get! (p + i) := by
      have e1 : ((s.extract p s.size).extract 0 3).get! i = (s.extract p s.size).get! i := by
        simp only [ByteArray.get!, ByteArray.data_extract, Array.getElem!_eq_getD, Array.getD_eq_getD_getElem?, Array.getElem?_extract]
        have hz : s.size = s.data.size := rfl
        rw [if_pos (by simp; omega)]
        simp
      rw [e1, get!_extract]
    rw [e]
    have : i = 0 ∨ i = 1 ∨ i = 2 := by omega
    rcases this with rfl | rfl | rfl <;> rfl
  · rw [List.getElem?_eq_none (by simp; have : ((s.extract p s.size).extract 0 3).data.size = 3 := hsz; simp at this; omega), List.getElem?_eq_none (by simp; omega)]
theorem pre_true (s : ByteArray) (p : Nat) (h : p + 3 ≤ s.size) (h0 : bt s p = 239) (h1 : bt s (p + 1) = 191) (h2 : bt s (p + 2) = 189) : (((s.extract p s.size).extract 0 3).toList == [239, 191, 189]) = true := by
  rw [take3 s p h]
  have e0 : s.get! p = 239 := UInt8.toNat_inj.1 h0
  have e1 : s.get! (p + 1) = 191 := UInt8.toNat_inj.1 h1
  have e2 : s.get! (p + 2) = 189 := UInt8.toNat_inj.1 h2
  rw [e0, e1, e2]; rfl
theorem pre_false (s : ByteArray) (p : Nat) (h : p + 3 ≤ s.size) (hn : ¬ (p + 3 ≤ s.size ∧ bt s p = 239 ∧ bt s (p + 1) = 191 ∧ bt s (p + 2) = 189)) : (((s.extract p s.size).extract 0 3).toList == [239, 191, 189]) = false := by
  rw [take3 s p h, beq_eq_false_iff_ne]
  intro hc
  simp only [List.cons.injEq, and_true] at hc
  refine hn ⟨h, ?_, ?_, ?_⟩
  · unfold bt; rw [hc.1]; rfl
  · unfold bt; rw [hc.2.1]; rfl
  · unfold bt; rw [hc.2.2]; rfl
theorem clean_bad {s : ByteArray} {k : Nat} (hk : k < N s) (h : okAt s (P s k) = false) : clean s = false := by
  unfold clean cleanK
  rw [List.all_eq_false]
  exact ⟨k, by simpa using hk, by simp [h]⟩
def CleanPost (s : ByteArray) (w : World) (e : Ending) (w' : World) : Prop := e = .returned (.bool (clean s)) ∧ Below w.heap.size w w'
end Go.Proofs.Ytkofaoaglnjkgaa
