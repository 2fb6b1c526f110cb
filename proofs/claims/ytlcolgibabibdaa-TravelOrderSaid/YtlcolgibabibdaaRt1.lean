/- Contracts of catchmentref12.Named, catchmentref08.has, catchmentref14.Shape. -/
import Derived.Test.YtlcolgibabibdaaSgSigns
import Derived.Test.YtlcolgibabibdaaSame14
import Derived.WalkSpells
namespace Go.Proofs.Ytlcolgibabibdaa
open Go.RowKit Go.Deep
set_option linter.unusedVariables false

def SomeBool (w : World) (e : Ending) (w' : World) : Prop := ∃ b, e = .returned (.bool b) ∧ w' = w
set_option maxRecDepth 100000 in
set_option maxHeartbeats 2000000 in
theorem named12 (t : ByteArray) (w : World) (ht : t.size ≤ maxLen) : Calls Try.prog 30 #[.string t] w (SomeBool w) := by
  have htm := ht
  unfold maxLen at htm
  go_enter Try.func30, Try.ntmps30
  go_wp2
  go_loopw [3] (fun i wr => ∃ k : Nat, k ≤ 30 ∧ i = .int .i64 (k : Int) ∧ wr = w) (fun i _ => 30 - (intOf i).toNat)
  case atStart => exact ⟨0, by omega, rfl, rfl⟩
  case round =>
    obtain ⟨k, hk, rfl, rfl⟩ := hrel
    by_cases hlt : k < t.size
    · by_cases h30 : k < 30
      · have hbe := bt_eq t k hlt
        generalize bt t k = c at *
        have hk0 : (0 : Int) ≤ (k : Int) := by omega
        have hk1 : (k : Int) < (t.size : Int) := by omega
        go_wp2
        all_goals first
          | (go_ret; exact ⟨_, rfl, rfl⟩)
          | (go_roundw
             case rel => exact ⟨k + 1, by omega, by go_num, trivial⟩
             case measure => simp [intOf] <;> omega)
      · go_wp2
        all_goals (go_ret; exact ⟨_, rfl, rfl⟩)
    · go_wp2
      all_goals (go_ret; exact ⟨_, rfl, rfl⟩)

def hasB (fs : List FieldD) (k : Nat) (name : ByteArray) : Bool := (List.range k).any fun j => match fs[j]? with | some f => decide (f.name = name) | none => false
theorem hasB_succ (fs : List FieldD) (k : Nat) (name : ByteArray) {f : FieldD} (h : fs[k]? = some f) : hasB fs (k + 1) name = (hasB fs k name || decide (f.name = name)) := by simp [hasB, List.range_succ, h]
def HasPost (fs : List FieldD) (n : Nat) (name : ByteArray) (w : World) (e : Ending) (w' : World) : Prop := e = .returned (.bool (hasB fs n name)) ∧ w' = w
theorem hasB_hit {fs : List FieldD} {k n : Nat} {name : ByteArray} {f : FieldD} (h : fs[k]? = some f) (hk : k < n) (he : f.name = name) : hasB fs n name = true := by
  unfold hasB
  rw [List.any_eq_true]
  exact ⟨k, by simpa using hk, by simp [h, he]⟩
set_option maxRecDepth 100000 in
set_option maxHeartbeats 2000000 in
theorem has08 (a : Option Addr) (n m c : Nat) (fs : List FieldD) (name : ByteArray) (w : World) (h : Sl 4 FieldR w a m fs) (hnm : n ≤ m) (hn : n ≤ 1000) : Calls Try.prog 34 #[.slice a n c, .string name] w (HasPost fs n name w) := by
  have HS := Lib.hid h
  clear h
  go_enter Try.func34, Try.ntmps34
  go_wp2
  go_loopw [5] (fun i wr => ∃ k : Nat, k ≤ n ∧ i = .int .i64 (k : Int) ∧ hasB fs k name = false ∧ wr = w) (fun i _ => n - (intOf i).toNat)
  case atStart => exact ⟨0, Nat.zero_le _, rfl, rfl, rfl⟩
  case round =>
    obtain ⟨k, hk, rfl, hno, rfl⟩ := hrel
    have HNO := Lib.hid hno
    clear hno
    by_cases hlt : k < n
    · obtain ⟨b, off, f, cs, rfl, hbl, hx, hcl, hr, hcell⟩ := HS.out.at_ (i := k) (by omega)
      obtain ⟨hcs, _⟩ := hr
      subst hcs
      have d1 := hcell 1 _ rfl
      have HX := Lib.hid hx
      have hk0 : (0 : Int) ≤ (k : Int) := by omega
      have hk1 : (k : Int) < (n : Int) := by omega
      clear hcell hx
      by_cases he : f.name = name
      · have hq : (f.name.toList == name.toList) = true := by rw [he]; simp
        have HH := Lib.hid (hasB_hit (n := n) HX.out hlt he)
        clear he
        go_wp2
        go_ret
        exact ⟨by rw [HH.out]; rfl, rfl⟩
      · have hq := bytes_ne he
        have HE := Lib.hid he
        clear he
        go_wp2
        go_roundw
        case rel => exact ⟨k + 1, by omega, by go_num, by rw [hasB_succ fs k name HX.out, HNO.out]; have := HE.out; simp [this], trivial⟩
        case measure => simp [intOf] <;> omega
    · obtain rfl : k = n := by omega
      go_wp2
      go_ret
      exact ⟨by rw [HNO.out]; rfl, rfl⟩

def SomeInt (w : World) (e : Ending) (w' : World) : Prop := ∃ r : Int, e = .returned (.int .i64 r) ∧ Below w.heap.size w w'
set_option maxRecDepth 100000 in
set_option maxHeartbeats 2000000 in
theorem shape14 (cs : List Value) (t : TableD) (id : Int) (w : World) (h : TableR w cs t) (hl : t.schemas.length ≤ 1000) : Calls Try.prog 29 #[.agg cs.toArray, .int .u32 id] w (SomeInt w) := by
  obtain ⟨a, n, c, a', n', c', rfl, h1, h2, h3, hs, _⟩ := h
  have HS := Lib.hid hs
  have hn : n ≤ 1000 := by have := hs.1; omega
  clear hs h3
  go_enter Try.func29, Try.ntmps29
  go_wp2
  have hbx : Below w.heap.size w (w.alloc (.cells #[Value.slice a n c, Value.slice a' n' c', Value.int IntKind.u64 t.current] 26)) := (Below.refl _ _).alloc (Nat.le_refl _) _
  have hcx : ∀ (i : Nat) (v : Value), (#[Value.slice a n c, Value.slice a' n' c', Value.int IntKind.u64 t.current] : Array Value)[i]? = some v → (w.alloc (.cells #[Value.slice a n c, Value.slice a' n' c', Value.int IntKind.u64 t.current] 26)).cell? ⟨w.heap.size, i, none⟩ = some v := fun i v h => by rw [World.cell?_alloc_new]; exact h
  generalize w.alloc (.cells #[Value.slice a n c, Value.slice a' n' c', Value.int IntKind.u64 t.current] 26) = W at *
  have x0 := hcx 0 _ rfl
  have HBX := Lib.hid hbx
  clear hcx hbx
  go_loopw [5] (fun i wr => ∃ k : Nat, k ≤ n ∧ i = .int .i64 (k : Int) ∧ wr = W) (fun i _ => n - (intOf i).toNat)
  case atStart => exact ⟨0, Nat.zero_le _, rfl, rfl⟩
  case round =>
    obtain ⟨k, hk, rfl, rfl⟩ := hrel
    by_cases hlt : k < n
    · obtain ⟨b, off, s, cs, rfl, hbl, hx, hcl, hr, hcell⟩ := HS.out.at_ hlt
      obtain ⟨a2, n2, c2, rfl, hr2⟩ := hr
      have d0 := (HBX.out.cell (p := ⟨b, off + k * 2 + 0, none⟩) hbl).trans (hcell 0 _ rfl)
      rw [Nat.add_zero] at d0
      have hk0 : (0 : Int) ≤ (k : Int) := by omega
      have hk1 : (k : Int) < (n : Int) := by omega
      clear hcell hr2 hx
      go_wp2
      all_goals first
        | (go_ret; exact ⟨_, rfl, HBX.out⟩)
        | (go_roundw
           case rel => exact ⟨k + 1, by omega, by go_num, trivial⟩
           case measure => simp [intOf] <;> omega)
    · go_wp2
      go_ret
      exact ⟨_, rfl, HBX.out⟩
end Go.Proofs.Ytlcolgibabibdaa
