/- Contracts of catchmentref12.Named, catchmentref08.has, catchmentref14.Shape. -/
import Derived.Test.YtlclhinianamhaaSgSigns
import Derived.Test.YtlclhinianamhaaSame14
import Derived.WalkSpells
namespace Go.Proofs.Ytlclhinianamhaa
open Go.RowKit Go.Deep
set_option linter.unusedVariables false
set_option linter.unusedSimpArgs false

def SomeBool (w : World) (e : Ending) (w' : World) : Prop := ∃ b, e = .returned (.bool b) ∧ w' = w
def hasB (fs : List FieldD) (k : Nat) (name : ByteArray) : Bool := (List.range k).any fun j => match fs[j]? with | some f => decide (f.name = name) | none => false
theorem hasB_succ (fs : List FieldD) (k : Nat) (name : ByteArray) {f : FieldD} (h : fs[k]? = some f) : hasB fs (k + 1) name = (hasB fs k name || decide (f.name = name)) := by simp [hasB, List.range_succ, h]
def HasPost (fs : List FieldD) (n : Nat) (name : ByteArray) (w : World) (e : Ending) (w' : World) : Prop := e = .returned (.bool (hasB fs n name)) ∧ w' = w
theorem hasB_hit {fs : List FieldD} {k n : Nat} {name : ByteArray} {f : FieldD} (h : fs[k]? = some f) (hk : k < n) (he : f.name = name) : hasB fs n name = true := by
  unfold hasB
  rw [List.any_eq_true]
  exact ⟨k, by simpa using hk, by simp [h, he]⟩
set_option maxRecDepth 100000 in
set_option maxHeartbeats 2000000 in
theorem has08 (a : Option Addr) (n m c : Nat) (fs : List FieldD) (name : ByteArray) (w : World) (h : Sl 4 FieldR w a m fs) (hnm : n ≤ m) (hn : n ≤ 1000) : Calls Try.prog 46 #[.slice a n c, .string name] w (HasPost fs n name w) := by
  have HS := Lib.hid h
  clear h
  go_enter Try.func46, Try.ntmps46
  go_wp2
  go_loopw [5] (fun i wr => ∃ k : Nat, k ≤ n ∧ i = .int .i64 (k : Int) ∧ hasB fs k name = false ∧ wr = w) (fun i _ => n - (intOf i).toNat)
  case atStart => exact ⟨0, Nat.zero_le _, rfl, rfl, rfl⟩
  case round =>
    obtain ⟨k, hk, rfl, hno, rfl⟩ := hrel
    have HNO := Lib.hid hno
    clear hno
    by_cases hlt : k < n
    · obtain ⟨b, off, f, cs, rfl, hbl, hx, hcl, hr, hcell⟩ := HS.out.at_ (i := k) (by omega)
      obtain ⟨hcs, _⟩ := hr
      subst hcs
      have d1 := hcell 1 _ rfl
      have HX := Lib.hid hx
      have hk0 : (0 : Int) ≤ (k : Int) := by omega
      have hk1 : (k : Int) < (n : Int) := by omega
      clear hcell hx
      by_cases he : f.name = name
      · have hq : (f.name.toList == name.toList) = true := by rw [he]; simp
        have HH := Lib.hid (hasB_hit (n := n) HX.out hlt he)
        clear he
        go_wp2
        go_ret
        exact ⟨by rw [HH.out]; rfl, rfl⟩
      · have hq := bytes_ne he
        have HE := Lib.hid he
        clear he
        go_wp2
        go_roundw
        case rel => exact ⟨k + 1, by omega, by go_num, by rw [hasB_succ fs k name HX.out, HNO.out]; have := HE.out; simp [this], trivial⟩
        case measure => simp [intOf] <;> omega
    · obtain rfl : k = n := by omega
      go_wp2
      go_ret
      exact ⟨by rw [HNO.out]; rfl, rfl⟩

def SomeInt (w : World) (e : Ending) (w' : World) : Prop := ∃ r : Int, e = .returned (.int .i64 r) ∧ Below w.heap.size w w'
end Go.Proofs.Ytlclhinianamhaa
