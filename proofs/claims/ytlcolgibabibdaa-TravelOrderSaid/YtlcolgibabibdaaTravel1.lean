/- The contracts of slices.Clone at strings, and of travel's own. -/
import Derived.Test.YtlcolgibabibdaaGreat14
import Derived.Deep.AppendLies
import Derived.WalkSpells
namespace Go.Proofs.Ytlcolgibabibdaa
open Go.RowKit Go.Deep
set_option linter.unusedVariables false

theorem infoStr : (Try.prog.info? 9).map (fun i => (i.zero, i.size, i.bytes)) = some (some (.string ByteArray.empty), 1, 16) := by kernel_rfl

theorem ownsRow_le {w : World} {base base' size n : Nat} {e : TypeId} {v : Value} {xs : List Value} (h : w.ownsRow base e size v n xs) (hb : base' ≤ base) : w.ownsRow base' e size v n xs :=
  ⟨h.1, h.2.imp id fun ⟨g, cap, cur, hv, hg, r⟩ => ⟨g, cap, cur, hv, Nat.le_trans hb hg, r⟩⟩
/-- A copy: new memory; nil of nil. -/
def ClonePost (xs : List ByteArray) (w : World) (e : Ending) (w' : World) : Prop :=
  ∃ v, e = .returned v ∧ w'.ownsRow w.heap.size 9 1 v xs.length (strsV xs) ∧ Below w.heap.size w w'

set_option maxHeartbeats 400000 in
theorem clone_strs (a : Option Addr) (n c : Nat) (xs : List ByteArray) (w : World) (h : Sl 1 StrR w a n xs) (hn : n ≤ 100000) (hnil : a = none → c = 0) : Calls Try.prog 35 #[.slice a n c] w (ClonePost xs w) := by
  have hl := h.1
  cases a with
  | none =>
    have hc0 := hnil rfl
    have hn0 : n = 0 := by
      rcases Nat.eq_zero_or_pos n with h0 | h0
      · exact h0
      · obtain ⟨_, _, e, _⟩ := h.2 h0; cases e
    subst hc0 hn0
    have hx : xs = [] := List.eq_nil_of_length_eq_zero hl
    subst hx
    have hq := fun W : World => Lib.run_eql_slice_nil (P := Try.prog) W 30 9 none 0 0 0 0 Try.underlying30
    go_enter Try.func35, Try.ntmps35
    go_wp2
    go_ret
    exact ⟨_, rfl, World.ownsRow_nil _ _ _ _, Below.refl _ _⟩
  | some ad =>
    obtain ⟨i0, hi0, hz0, hz1, hz2⟩ := info_parts infoStr
    have hq := fun W : World => Lib.run_eql_slice_nil (P := Try.prog) W 30 9 (some ad) n c 0 0 Try.underlying30
    have HI := Lib.hid hi0
    have HZ0 := Lib.hid hz0
    have HZ1 := Lib.hid hz1
    have HZ2 := Lib.hid hz2
    have HH := Lib.hid h
    have HL := Lib.hid hl
    clear hi0 hz0 hz1 hz2 h hl hnil
    go_enter Try.func35, Try.ntmps35
    go_wp2_with (at_builtin; refine wpList_append_vals _ rfl _ _ _ rfl w.heap.size 9 i0 (.string ByteArray.empty) 1 16 Try.underlying30 HI.out HZ0.out HZ1.out HZ2.out rfl (by decide) _ _ [] rfl (World.ownsRow_lit w #[] 0 (Nat.le_refl _) (by decide) rfl) _ _ _ (strsV xs) rfl (lies_strs (HH.out.alloc StrR.stable _)) (strs_oneCell xs) (by unfold maxLen; omega) (by omega) (by simp) (fun h => by cases h) ?_; intro v w1 hown hg _; have ho1 := Lib.hid hown; have hg1 := Lib.hid hg; clear hown hg)
    go_ret
    exact ⟨_, rfl, by have := ho1.out; rw [Nat.zero_add] at this; rw [HL.out]; exact this, below_lit hg1.out⟩

/-- A snapshot whose list is the call's own. -/
def OwnPost (s : SnapD) (w : World) (e : Ending) (w' : World) : Prop :=
  ∃ v, e = .returned (.agg #[.int .u64 s.id, .int .u64 s.parent, .int .u64 s.seq, .int .u64 s.offset, .int .u64 s.time, .int .u32 s.schema, v]) ∧ w'.ownsRow w.heap.size 9 1 v s.mans.length (strsV s.mans) ∧ Below w.heap.size w w'

set_option maxRecDepth 100000 in
set_option maxHeartbeats 1000000 in
theorem own_calls (cs : List Value) (s : SnapD) (w : World) (h : SnapR w cs s) (hn : s.mans.length ≤ 100000) : Calls Try.prog 31 #[.agg cs.toArray] w (OwnPost s w) := by
  obtain ⟨a, n, c, rfl, h1, h2, h3, hs, _⟩ := h
  have HN := Lib.hid h3
  have HL := Lib.hid hs.1
  have HS := Lib.hid hs
  have hn' : n ≤ 100000 := by have := hs.1; omega
  clear hs h3 hn
  go_enter Try.func31, Try.ntmps31
  go_wp2_with fail
  refine (clone_strs _ _ _ _ _ ((HS.out.alloc StrR.stable _).alloc StrR.stable _) hn' HN.out).mono ?_
  rintro e w1 ⟨v, rfl, hown, hb⟩
  obtain ⟨ad, cv, rfl, _⟩ := own_slice hown
  simp only [World.size_alloc] at hown
  have HO := Lib.hid hown
  have HB := Lib.hid ((((Below.refl _ w).alloc (Nat.le_refl _) _).alloc (by simp) _).trans (hb.mono (by simp; omega)))
  have c0 : w1.cell? ⟨w.heap.size, 0, none⟩ = some (Value.int .u64 s.id) := (hb.cell (p := ⟨w.heap.size, 0, none⟩) (by simp; omega)).trans (by simp)
  have c1 : w1.cell? ⟨w.heap.size, 1, none⟩ = some (Value.int .u64 s.parent) := (hb.cell (p := ⟨w.heap.size, 1, none⟩) (by simp; omega)).trans (by simp)
  have c2 : w1.cell? ⟨w.heap.size, 2, none⟩ = some (Value.int .u64 s.seq) := (hb.cell (p := ⟨w.heap.size, 2, none⟩) (by simp; omega)).trans (by simp)
  have c3 : w1.cell? ⟨w.heap.size, 3, none⟩ = some (Value.int .u64 s.offset) := (hb.cell (p := ⟨w.heap.size, 3, none⟩) (by simp; omega)).trans (by simp)
  have c4 : w1.cell? ⟨w.heap.size, 4, none⟩ = some (Value.int .u64 s.time) := (hb.cell (p := ⟨w.heap.size, 4, none⟩) (by simp; omega)).trans (by simp)
  have c5 : w1.cell? ⟨w.heap.size, 5, none⟩ = some (Value.int .u32 s.schema) := (hb.cell (p := ⟨w.heap.size, 5, none⟩) (by simp; omega)).trans (by simp)
  have c6 : w1.cell? ⟨w.heap.size, 6, none⟩ = some (Value.slice a n c) := (hb.cell (p := ⟨w.heap.size, 6, none⟩) (by simp; omega)).trans (by simp)
  have r0 : w1.cell? ⟨w.heap.size + 1, 0, none⟩ = some (Value.int .u64 0) := (hb.cell (p := ⟨w.heap.size + 1, 0, none⟩) (by simp)).trans (by simp)
  have r1 : w1.cell? ⟨w.heap.size + 1, 1, none⟩ = some (Value.int .u64 0) := (hb.cell (p := ⟨w.heap.size + 1, 1, none⟩) (by simp)).trans (by simp)
  have r2 : w1.cell? ⟨w.heap.size + 1, 2, none⟩ = some (Value.int .u64 0) := (hb.cell (p := ⟨w.heap.size + 1, 2, none⟩) (by simp)).trans (by simp)
  have r3 : w1.cell? ⟨w.heap.size + 1, 3, none⟩ = some (Value.int .u64 0) := (hb.cell (p := ⟨w.heap.size + 1, 3, none⟩) (by simp)).trans (by simp)
  have r4 : w1.cell? ⟨w.heap.size + 1, 4, none⟩ = some (Value.int .u64 0) := (hb.cell (p := ⟨w.heap.size + 1, 4, none⟩) (by simp)).trans (by simp)
  have r5 : w1.cell? ⟨w.heap.size + 1, 5, none⟩ = some (Value.int .u32 0) := (hb.cell (p := ⟨w.heap.size + 1, 5, none⟩) (by simp)).trans (by simp)
  have r6 : w1.cell? ⟨w.heap.size + 1, 6, none⟩ = some (Value.slice none 0 0) := (hb.cell (p := ⟨w.heap.size + 1, 6, none⟩) (by simp)).trans (by simp)
  have fz : ∀ i, w1.frozen? ⟨w.heap.size, i, none⟩ = false := fun i => (hb.frozen (p := ⟨w.heap.size, i, none⟩) (by simp; omega)).trans (by simp)
  have fy : ∀ i, w1.frozen? ⟨w.heap.size + 1, i, none⟩ = false := fun i => (hb.frozen (p := ⟨w.heap.size + 1, i, none⟩) (by simp)).trans (by simp)
  have hz : w.heap.size + 1 < w1.heap.size := by have := hb.size; simp at this; omega
  clear hown hb
  go_wp2
  refine bodyPost_ret (v := .agg #[.int .u64 s.id, .int .u64 s.parent, .int .u64 s.seq, .int .u64 s.offset, .int .u64 s.time, .int .u32 s.schema, .slice ad s.mans.length cv]) (by simp [results, Try.results31, go_sem, r0, r1, r2, r3, r4, r5, r6]) rfl ?_
  refine ⟨_, rfl, ?_, ?_⟩
  · refine ownsRow_le (base := w.heap.size + 1 + 1) ?_ (by omega)
    repeat (refine ownsRow_setCell_below ?_ (by first | (simp; done) | (simp; omega)) _)
    exact HO.out
  · repeat (refine Below.setCell ?_ (by first | (simp; done) | (simp; omega)) _)
    exact HB.out
end Go.Proofs.Ytlcolgibabibdaa
