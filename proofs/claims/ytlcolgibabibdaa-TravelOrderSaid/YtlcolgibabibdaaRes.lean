/- What a search tells, as found reads it. -/
import Derived.Test.YtlcolgibabibdaaAlive18
import Derived.Test.YtlcolgibabibdaaFound
import Derived.Test.YtlcolgibabibdaaGreat14
import Derived.Test.YtlcolgibabibdaaTravel4
namespace Go.Proofs.Ytlcolgibabibdaa
open Go.RowKit Go.Deep
set_option linter.unusedVariables false

def TruthPost (w : World) (e : Ending) (w' : World) : Prop := e = .returned (.bool true) ∧ Below w.heap.size w w'
def Res (sel : SnapD → Nat) (most : Nat) (xs : List SnapD) (w : World) (a : List Value) (er : Int) : Prop :=
  (Best sel most xs xs.length (-1) ∧ er = 2 ∧ a = zeroCs) ∨ ∃ (m : Nat) (s : SnapD), Best sel most xs xs.length (m : Int) ∧ xs[m]? = some s ∧ SnapR w a s ∧ er = 0
theorem Res.shape {sel : SnapD → Nat} {most : Nat} {xs : List SnapD} {w : World} {a : List Value} {er : Int} (h : Res sel most xs w a er) :
    ∃ (i0 i1 i2 i3 i4 i5 : Int) (ad : Option Addr) (n c : Nat), a = [.int .u64 i0, .int .u64 i1, .int .u64 i2, .int .u64 i3, .int .u64 i4, .int .u32 i5, .slice ad n c] := by
  rcases h with ⟨_, _, rfl⟩ | ⟨m, s, _, _, ⟨ad, n, c, rfl, _⟩, _⟩
  · exact ⟨0, 0, 0, 0, 0, 0, none, 0, 0, rfl⟩
  · exact ⟨_, _, _, _, _, _, ad, n, c, rfl⟩
theorem Res.below {sel : SnapD → Nat} {most : Nat} {xs : List SnapD} {w w' : World} {a : List Value} {er : Int} (h : Res sel most xs w a er) (hb : Below w.heap.size w w') : Res sel most xs w' a er := by
  rcases h with h | ⟨m, s, h1, h2, h3, h4⟩
  · exact .inl h
  · exact .inr ⟨m, s, h1, h2, SnapR.stable _ _ _ _ hb h3, h4⟩
theorem Res.er {sel : SnapD → Nat} {most : Nat} {xs : List SnapD} {w : World} {a : List Value} {er : Int} (h : Res sel most xs w a er) : er = 0 ∨ er = 2 := by
  rcases h with ⟨_, h, _⟩ | ⟨m, s, _, _, _, h⟩
  · exact .inr h
  · exact .inl h
theorem Sl.snap_bounds {w : World} {a : Option Addr} {n : Nat} {xs : List SnapD} (h : Sl 7 SnapR w a n xs) {m : Nat} {s : SnapD} (hs : xs[m]? = some s) :
    (∀ x ∈ s.mans, x.size ≤ maxLen) ∧ s.mans.length ≤ maxLen ∧ s.id < 2 ^ 64 ∧ s.parent < 2 ^ 64 ∧ s.seq < 2 ^ 64 ∧ s.offset < 2 ^ 64 ∧ s.time < 2 ^ 64 ∧ s.schema < 2 ^ 32 := by
  have hm : m < n := by
    rcases Nat.lt_or_ge m n with h1 | h1
    · exact h1
    · rw [List.getElem?_eq_none (by have := h.1; omega)] at hs; cases hs
  obtain ⟨b, off, x, cs, _, _, hx, _, hr, _⟩ := h.at_ hm
  rw [hs] at hx; cases hx
  obtain ⟨a2, n2, c2, rfl, h1, h2, h3, h4, h5⟩ := hr
  refine ⟨all_of_index h4.1 fun j y hj hy => ?_, by have := h4.1; omega, h5⟩
  obtain ⟨_, _, z, v, _, _, hz, hr, _⟩ := h4.at1 hj
  rw [hy] at hz; cases hz
  exact hr.2
theorem FoundPost.res {sel : SnapD → Nat} {most : Nat} {cs : List Value} {t : TableD} {w w' : World} {e : Ending} (h : FoundPost sel most t.snaps w e w') (ht : TableR w cs t) :
    Below w.heap.size w w' ∧ ∃ a er, e = .returned (.tuple #[.agg (List.toArray a), .int .i64 er]) ∧ Res sel most t.snaps w' a er := by
  obtain ⟨hbel, ⟨hn, rfl⟩ | ⟨m', s, v, hb', hs', hown, rfl⟩⟩ := h
  · exact ⟨hbel, zeroCs, 2, rfl, .inl ⟨hn, rfl, rfl⟩⟩
  · obtain ⟨_, _, _, a, n, c, rfl, _, _, _, _, _, _, _, hsl, _⟩ := ht
    obtain ⟨hm, hml, hbd⟩ := hsl.snap_bounds hs'
    obtain ⟨ad, cp, rfl, h1, h2, h3⟩ := own_slice hown
    exact ⟨hbel, [.int .u64 s.id, .int .u64 s.parent, .int .u64 s.seq, .int .u64 s.offset, .int .u64 s.time, .int .u32 s.schema, .slice ad s.mans.length cp], 0, rfl, .inr ⟨m', s, hb', hs', ⟨ad, _, cp, rfl, h1, h2, h3, sl_of_own_strs hown hm, hbd⟩, rfl⟩⟩
theorem found_res {sel : SnapD → Nat} {most : Nat} (cs a : List Value) (t : TableD) (er r : Int) (w : World) (h : TableR w cs t) (hf : t.snaps.length ≤ 100) (hr : Res sel most t.snaps w a er) (hb : Best sel most t.snaps t.snaps.length r) :
    Calls Try.prog 12 #[.agg cs.toArray, .agg a.toArray, .int .i64 er, .int .i64 r] w (TruePost w) := by
  rcases hr with ⟨hb', rfl, rfl⟩ | ⟨m, s, hb', hs, hsr, rfl⟩
  · rw [hb.unique hb']
    exact found_none cs t w h
  · rw [hb.unique hb']
    exact found_some cs a t s m w h hsr hs hf
end Go.Proofs.Ytlcolgibabibdaa
