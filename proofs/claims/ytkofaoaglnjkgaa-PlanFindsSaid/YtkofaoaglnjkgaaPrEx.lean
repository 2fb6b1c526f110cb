/- Whether two arrays of three truths are alike. The closed probe of chapter 9: its small calls. Statistics bound what they are of, in plain words. The closed probe of chapter 9, in plain words. -/
import Derived.Test.YtkofaoaglnjkgaaBase
import Derived.Test.YtkofaoaglnjkgaaProg
import Derived.Test.YtkofaoaglnjkgaaVlBase
import Derived.Handy
import Derived.Test.YtkofaoaglnjkgaaPrPlain
import Derived.Test.YtkofaoaglnjkgaaSgTop
import Derived.Test.YtkofaoaglnjkgaaPrMayP
namespace Go.Proofs.Ytkofaoaglnjkgaa
open Go.RowKit Go.Deep
set_option linter.unusedVariables false
set_option linter.unusedSimpArgs false

theorem eq3 (a b c a' b' c' : Bool) (W : World) : (Op.equal 92 (.agg #[.bool a, .bool b, .bool c]) (.agg #[.bool a', .bool b', .bool c'])).run Try.prog W = .ok (a == a' && b == b' && c == c') W := by
  cases a <;> cases b <;> cases c <;> cases a' <;> cases b' <;> cases c' <;> kernel_rfl
theorem eqg3 (x y : Operand) (us vs : Array Value) (W : World) : (eqGuard .eql 92 x y (.agg us) (.agg vs)).run Try.prog W = .ok () W := by
  kernel_rfl
theorem bin3 (a b c a' b' c' : Bool) (W : World) : (binOp .eql 92 (.agg #[.bool a, .bool b, .bool c]) (.agg #[.bool a', .bool b', .bool c'])).run Try.prog W = .ok (.bool (a == a' && b == b' && c == c')) W := by
  cases a <;> cases b <;> cases c <;> cases a' <;> cases b' <;> cases c' <;> kernel_rfl
end Go.Proofs.Ytkofaoaglnjkgaa

namespace Go.Proofs.Ytkofaoaglnjkgaa
open Go.RowKit Go.Deep
set_option linter.unusedVariables false
set_option linter.unusedSimpArgs false

def eqCells : Array Value := #[.int .u8 1, .int .u32 1, .int .u8 1, .int .i64 7, .string ByteArray.empty, .slice none 0 0]
def c7 : CellD := ⟨1, 7, ByteArray.empty⟩
def twoS : SchemaD := ⟨1, [⟨1, ⟨#[105, 100]⟩, 1, true⟩, ⟨2, ⟨#[110, 97, 109, 101]⟩, 3, false⟩]⟩
def ErrIs (r : Int) (w : World) (e : Ending) (w' : World) : Prop := e = .returned (.int .i64 r) ∧ Below w.heap.size w w'
def TwoPost (w : World) (e : Ending) (w' : World) : Prop := ∃ a, e = .returned (.agg #[.int .u32 1, .slice a 2 2]) ∧ SchemaR w' [.int .u32 1, .slice a 2 2] twoS ∧ Below w.heap.size w w'
def twoCells : Array Value := #[.int .u32 1, .string ⟨#[105, 100]⟩, .int .u8 1, .bool true, .int .u32 2, .string ⟨#[110, 97, 109, 101]⟩, .int .u8 3, .bool false]
theorem two_sl (w : World) (b : Nat) (h : CellsAt w b twoCells) (hb : b < w.heap.size) : Sl 4 FieldR w (some ⟨b, 0, none⟩) 2 twoS.fields := by
  refine ⟨rfl, fun _ => ⟨b, 0, rfl, hb, fun i x hi => ?_⟩⟩
  have hi2 : i < 2 := (List.getElem?_eq_some_iff.1 hi).1
  have h4 : ∀ {l : List Value} {j : Nat} {v : Value}, l.length = 4 → l[j]? = some v → j < 4 := by
    intro l j v hl hj
    rcases Nat.lt_or_ge j 4 with h | h
    · exact h
    · rw [List.getElem?_eq_none (by omega)] at hj; cases hj
  have : i = 0 ∨ i = 1 := by omega
  rcases this with rfl | rfl
  all_goals
    cases hi
    refine ⟨_, rfl, ⟨rfl, by decide, by decide, by decide⟩, fun j v hj => ?_⟩
    have hj7 := h4 rfl hj
    have : j = 0 ∨ j = 1 ∨ j = 2 ∨ j = 3 := by omega
    rcases this with rfl | rfl | rfl | rfl <;> exact h _ _ hj
set_option maxRecDepth 100000 in
theorem two_calls (w : World) : Calls Try.prog 25 #[] w (TwoPost w) := by
  go_enter Try.func25, Try.ntmps25
  go_wp2
  refine bodyPost_ret (v := .agg #[.int .u32 1, .slice (some ⟨w.heap.size + 1, 0, none⟩) 2 2]) (by simp [results, Try.results25, go_sem]) rfl ⟨some ⟨w.heap.size + 1, 0, none⟩, rfl, ?_, ?_⟩
  · refine ⟨_, 2, 2, rfl, Nat.le_refl _, by decide, (fun h => by cases h), two_sl _ _ (fun i v h => ?_) (by simp), by decide⟩
    exact CellsAt.alloc_at _ _ _ _ (by simp) i v h
  · repeat (first | exact Below.refl _ _ | refine Below.setCell ?_ (by simp <;> omega) _ | refine Below.alloc ?_ (by simp <;> omega) _)
end Go.Proofs.Ytkofaoaglnjkgaa

namespace Go.Proofs.Ytkofaoaglnjkgaa
open Go.RowKit Go.Deep
set_option linter.unusedVariables false
set_option linter.unusedSimpArgs false

theorem bl_nil (a : List UInt8) : Op.bytesLess a [] = false := by cases a <;> rfl
theorem bl_prefix : ∀ (a p q : List UInt8), Op.bytesLess a p = true → Op.bytesLess a (p ++ q) = true
  | _, [], _, h => by rw [bl_nil] at h; cases h
  | [], _ :: _, _, _ => rfl
  | x :: a, y :: p, q, h => by
    simp only [Op.bytesLess, List.cons_append, Bool.or_eq_true, decide_eq_true_eq, Bool.and_eq_true, beq_iff_eq] at h ⊢
    rcases h with h | ⟨rfl, h⟩
    · exact .inl h
    · exact .inr ⟨rfl, bl_prefix a p q h⟩
theorem first_prefix (s : ByteArray) (n : Int) : ∃ q, s.toList = (firstF s n).toList ++ q := by
  unfold firstF
  split
  · refine ⟨(s.extract (P s n.toNat) s.size).toList, ?_⟩
    rw [Lib.toList_data, Lib.toList_data, Lib.toList_data]
    rw [← Array.toList_append, ← ByteArray.data_append, ByteArray.extract_append_extract]
    have h1 : P s n.toNat ≤ s.size := by
      have := P_mono (s := s) (j := n.toNat) (k := N s) (by omega)
      rwa [P_N] at this
    rw [show min 0 (P s n.toNat) = 0 by omega, show max (P s n.toNat) s.size = s.size by omega, ByteArray.extract_zero_size]
  · exact ⟨[], by simp⟩
theorem first_less {a s : ByteArray} {n : Int} (h : Op.bytesLess a.toList (firstF s n).toList = true) : Op.bytesLess a.toList s.toList = true := by
  obtain ⟨q, hq⟩ := first_prefix s n
  rw [hq]; exact bl_prefix _ _ _ h
theorem above_geq {s : ByteArray} {m : Nat} (h : (aboveF s (m : Int)).2 = true) : Op.bytesLess (aboveF s (m : Int)).1.toList s.toList = false := by
  unfold aboveF at h ⊢
  by_cases hc : clean s = false
  · rw [if_pos hc] at h; cases h
  · rw [if_neg hc] at h ⊢
    by_cases hn : (N s : Int) ≤ (m : Int)
    · rw [if_pos hn]; exact bl_irrefl _
    · rw [if_neg hn] at h ⊢
      rw [Int.toNat_natCast] at h ⊢
      cases ha : aboveK s m with
      | none => rw [ha] at h; cases h
      | some a => exact (above_bound (s := s) (by omega) (by simpa using hc) ha ByteArray.empty).1
/-- Cells that may be in a column. -/
def ColOK (l : List CellD) : Prop := ∀ c ∈ l, 0 ≤ c.kind ∧ c.kind ≤ 3 ∧ (c.kind = 3 → c.n = 0)
theorem most_text {l : List CellD} (hg : ColOK l) (hs : (foldSt l).some = true) (h3 : (foldSt l).least.kind = 3) : (foldSt l).most.kind = 3 := by
  have hst := stInv_all l
  obtain ⟨hm, hk⟩ := hst.most hs
  have h4 := hst.low hs _ hm hk
  have h5 : ¬ (foldSt l).most.kind < (foldSt l).least.kind := fun h => h4 (.inl h)
  have := hg _ hm
  omega
theorem stats_low {l : List CellD} (hg : ColOK l) {c : CellD} (hc : c ∈ l) (hk : c.kind ≠ 0) : ¬ LessC c (statsF l).min := by
  have hst := stInv_all l
  have hgc := hg c hc
  unfold statsF
  simp only []
  by_cases hs : (foldSt l).some = false
  · exact absurd ((hst.none hs).2 c hc) hk
  · rw [if_neg hs]
    have hs : (foldSt l).some = true := by simpa using hs
    have hlow := hst.low hs c hc hk
    obtain ⟨hlm, hlk⟩ := hst.least hs
    have hgl := hg _ hlm
    by_cases h3 : (foldSt l).least.kind = 3
    · rw [if_pos h3]
      have hck : c.kind = 3 := by
        have : ¬ c.kind < (foldSt l).least.kind := fun h => hlow (.inl h)
        omega
      have hcn := hgc.2.2 hck
      have hln := hgl.2.2 h3
      by_cases ho : (foldSt l).ok = true
      · rw [if_pos ho]
        rintro (h | ⟨h, h | ⟨_, h⟩⟩)
        · exact absurd h (by show ¬ c.kind < 3; omega)
        · exact absurd h (by show ¬ c.n < 0; omega)
        · have h : Op.bytesLess c.s.toList (firstF (foldSt l).least.s 4).toList = true := h
          exact hlow (.inr ⟨by omega, .inr ⟨by omega, first_less h⟩⟩)
      · rw [if_neg ho]
        rintro (h | ⟨h, h | ⟨_, h⟩⟩)
        · exact absurd h (by show ¬ c.kind < 3; omega)
        · exact absurd h (by show ¬ c.n < 0; omega)
        · have h : Op.bytesLess c.s.toList ByteArray.empty.toList = true := h
          rw [show ByteArray.empty.toList = [] from by decide +kernel, bl_nil] at h; cases h
    · rw [if_neg h3]
      exact hlow
theorem stats_top {l : List CellD} (hg : ColOK l) (hh : (statsF l).high = true) {c : CellD} (hc : c ∈ l) (hk : c.kind ≠ 0) : ¬ LessC (statsF l).max c := by
  have hst := stInv_all l
  have hgc := hg c hc
  unfold statsF at hh ⊢
  simp only [] at hh ⊢
  by_cases hs : (foldSt l).some = false
  · exact absurd ((hst.none hs).2 c hc) hk
  · rw [if_neg hs] at hh ⊢
    have hs : (foldSt l).some = true := by simpa using hs
    have htop := hst.top hs c hc hk
    have hlow := hst.low hs c hc hk
    by_cases h3 : (foldSt l).least.kind = 3
    · rw [if_pos h3] at hh ⊢
      have hm3 := most_text hg hs h3
      have hmn := (hg _ (hst.most hs).1).2.2 hm3
      have hck : c.kind = 3 := by
        have : ¬ c.kind < (foldSt l).least.kind := fun h => hlow (.inl h)
        omega
      have hcn := hgc.2.2 hck
      by_cases ho : (foldSt l).ok = true
      · rw [if_pos ho] at hh ⊢
        have hh2 : (aboveF (foldSt l).most.s 4).2 = true := hh
        simp only [if_pos hh2]
        have hge := above_geq (s := (foldSt l).most.s) (m := 4) hh2
        rintro (h | ⟨_, h | ⟨_, h⟩⟩)
        · exact absurd h (by show ¬ (3 : Int) < c.kind; omega)
        · exact absurd h (by show ¬ (0 : Int) < c.n; omega)
        · have h : Op.bytesLess (aboveF (foldSt l).most.s 4).1.toList c.s.toList = true := h
          refine htop (.inr ⟨by omega, .inr ⟨by omega, ?_⟩⟩)
          cases hq : Op.bytesLess (foldSt l).most.s.toList c.s.toList with
          | true => rfl
          | false =>
            exfalso
            cases hq2 : Op.bytesLess c.s.toList (foldSt l).most.s.toList with
            | true =>
              have := bl_trans _ _ _ h hq2
              have hge2 : Op.bytesLess (aboveF (foldSt l).most.s 4).1.toList (foldSt l).most.s.toList = false := hge
              rw [this] at hge2; cases hge2
            | false =>
              have := bl_tri _ _ hq hq2
              rw [← this] at h
              have hge2 : Op.bytesLess (aboveF (foldSt l).most.s 4).1.toList (foldSt l).most.s.toList = false := hge
              rw [h] at hge2; cases hge2
      · rw [if_neg ho] at hh; cases hh
    · rw [if_neg h3] at hh ⊢
      exact htop
theorem stats_rows (l : List CellD) : (statsF l).rows = (l.length : Int) := by
  unfold statsF; simp only []; split
  · rfl
  · split
    · split <;> rfl
    · rfl
theorem stats_nulls (l : List CellD) : (statsF l).nulls = ((foldSt l).nulls : Int) := by
  unfold statsF; simp only []; split
  · rfl
  · split
    · split <;> rfl
    · rfl
theorem stats_some (l : List CellD) : (statsF l).some = decide ((statsF l).nulls < (statsF l).rows) := by
  rw [stats_rows, stats_nulls]
  have hst := stInv_all l
  cases hs : (foldSt l).some with
  | false =>
    have h1 := (hst.none hs).1
    rw [show (statsF l).some = false by unfold statsF; simp [hs]]
    rw [eq_comm, decide_eq_false_iff_not]; omega
  | true =>
    have h1 := hst.count hs
    rw [show (statsF l).some = true by unfold statsF; simp only [hs]; simp only [Bool.true_eq_false, if_false]; split <;> (try split) <;> rfl]
    rw [eq_comm, decide_eq_true_iff]; omega
end Go.Proofs.Ytkofaoaglnjkgaa

namespace Go.Proofs.Ytkofaoaglnjkgaa
open Go.RowKit Go.Deep
set_option linter.unusedVariables false
set_option linter.unusedSimpArgs false

def cw (n : Int) : CellD := ⟨1, n, ByteArray.empty⟩
def exS : StatD := ⟨3, 1, true, true, cw 3, cw 5⟩
def eqP : PredD := .mk 1 1 c7 []
def ltP : PredD := .mk 2 1 (cw 9) []
def notP : PredD := .mk 8 0 zeroCell [eqP]
def tA : ByteArray := ⟨#[97, 98, 99, 100, 101, 102]⟩
def tB : ByteArray := ⟨#[98]⟩
theorem n_abcdef : N tA = 6 := N_unique (by decide +kernel) (by decide +kernel)
theorem n_b : N tB = 1 := N_unique (by decide +kernel) (by decide +kernel)
theorem clean_abcdef : clean tA = true := by unfold clean; rw [n_abcdef]; decide +kernel
theorem clean_b : clean tB = true := by unfold clean; rw [n_b]; decide +kernel
theorem first_abcdef : firstF tA 4 = ⟨#[97, 98, 99, 100]⟩ := by
  unfold firstF
  rw [n_abcdef, if_pos (by decide)]
  decide +kernel
theorem above_b : aboveF tB 4 = (tB, true) := by
  unfold aboveF
  rw [if_neg (by rw [clean_b]; simp), n_b, if_pos (by decide)]
theorem fold1 : foldSt [cw 3, cw 5, zeroCell] = ⟨1, true, cw 3, cw 5, true⟩ := by kernel_rfl
theorem stats1 : statsF [cw 3, cw 5, zeroCell] = exS := by
  unfold statsF
  rw [fold1]
  rfl
theorem stepA : StF.start.step ⟨3, 0, tA⟩ = ⟨0, true, ⟨3, 0, tA⟩, ⟨3, 0, tA⟩, true⟩ := by
  unfold StF.step
  rw [if_neg (by decide), if_pos (.inl rfl), if_pos (.inl rfl), if_pos (by rfl), clean_abcdef]
  rfl
theorem stepB : (StF.mk 0 true ⟨3, 0, tA⟩ ⟨3, 0, tA⟩ true).step ⟨3, 0, tB⟩ = ⟨0, true, ⟨3, 0, tA⟩, ⟨3, 0, tB⟩, true⟩ := by
  unfold StF.step
  rw [if_neg (by decide), if_neg (show ¬ ((StF.mk 0 true ⟨3, 0, tA⟩ ⟨3, 0, tA⟩ true).some = false ∨ LessC ⟨3, 0, tB⟩ ⟨3, 0, tA⟩) by decide +kernel), if_pos (show (StF.mk 0 true ⟨3, 0, tA⟩ ⟨3, 0, tA⟩ true).some = false ∨ LessC ⟨3, 0, tA⟩ ⟨3, 0, tB⟩ by decide +kernel), if_pos (by rfl), clean_b]
  rfl
theorem stats2 : statsF [⟨3, 0, tA⟩, ⟨3, 0, tB⟩] = ⟨2, 0, true, true, ⟨3, 0, ⟨#[97, 98, 99, 100]⟩⟩, ⟨3, 0, tB⟩⟩ := by
  have h : foldSt [⟨3, 0, tA⟩, ⟨3, 0, tB⟩] = ⟨0, true, ⟨3, 0, tA⟩, ⟨3, 0, tB⟩, true⟩ := by
    show (StF.start.step ⟨3, 0, tA⟩).step ⟨3, 0, tB⟩ = _
    rw [stepA, stepB]
  unfold statsF
  simp only [h]
  simp only [Bool.true_eq_false, if_false, if_true, first_abcdef, above_b]
  rfl
theorem ev_may1 : mayN twoS.fields [exS] 1 eqP = ⟨true, true, false⟩ := by kernel_rfl
theorem ev_may2 : mayN twoS.fields [exS] 1 ltP = ⟨false, true, true⟩ := by kernel_rfl
theorem ev_may3 : mayN twoS.fields [exS] 2 notP = ⟨false, true, true⟩ := by kernel_rfl
theorem ev_eval : evalN twoS.fields [c7, zeroCell] 1 eqP = 2 := by kernel_rfl
end Go.Proofs.Ytkofaoaglnjkgaa
