/- Two states side by side; a run of events as plain data. -/
import Derived.Test.YtlclhinianamhaaEvSame
namespace Go.Proofs.Ytlclhinianamhaa
open Go.RowKit Go.Deep
set_option linter.unusedVariables false
set_option linter.unusedSimpArgs false

/-- More blocks that may be turned: such as came behind the state. -/
theorem ImpSt.plus {S S' : Nat → Prop} {w w' : World} {b bm : Nat} {x : StD} (h : ImpSt S w b bm x) (hb : Below w.heap.size w w') (hS : ∀ k, S' k → S k ∨ w.heap.size ≤ k) (hsub : ∀ k, S k → S' k) (hlt : ∀ k, S' k → k < w'.heap.size) : ImpSt S' w' b bm x := by
  obtain ⟨fa, fn, fc, M, h⟩ := h
  exact ⟨fa, fn, fc, M, h.rows, h.box.call hb, h.f1, h.f2, h.f3, h.id, h.off, h.map.call hb, hsub _ h.sp, hsub _ h.sb, hlt, fun W hW => h.far W ⟨hW.os.trans hb.os, hW.tape.trans hb.tape, hW.output.trans hb.output, Nat.le_trans hb.size hW.size, fun k hk hs => (hW.block k (Nat.lt_of_lt_of_le hk hb.size) (fun h' => by
    rcases hS k h' with h'' | h''
    · exact hs h''
    · omega)).trans (hb.block k hk)⟩⟩
/-- The blocks of another state are turned. -/
theorem ImpSt.other {S S1 : Nat → Prop} {w w' : World} {b bm : Nat} {x : StD} (h : ImpSt S w b bm x) (hb : ButS S1 w.heap.size w w') (hsub : ∀ k, S1 k → S k) (h1 : ¬ S1 b) (h2 : ¬ S1 bm) : ImpSt S w' b bm x := by
  obtain ⟨fa, fn, fc, M, h⟩ := h
  exact ⟨fa, fn, fc, M, h.rows, h.box.butS hb h.box.lt h1, h.f1, h.f2, h.f3, h.id, h.off, h.map.kept (hb.block bm h.map.lt h2), h.sp, h.sb, fun k hk => Nat.lt_of_lt_of_le (h.slt k hk) hb.size, h.far.step (hb.mono fun k _ hk => hsub k hk)⟩
theorem ImpSt.slt {S : Nat → Prop} {w : World} {b bm : Nat} {x : StD} (h : ImpSt S w b bm x) : ∀ k, S k → k < w.heap.size := by
  obtain ⟨fa, fn, fc, M, h⟩ := h
  exact h.slt
noncomputable def runS (x : StD) (l : List EventD) : StD := l.foldl doS x
def AllOK : StD → List EventD → Prop
  | _, [] => True
  | x, e :: es => doE x e = 0 ∧ AllOK (doS x e) es
theorem wellF_all : ∀ (x : StD) (l : List EventD), AllOK x (wellF x l)
  | x, [] => trivial
  | x, d :: es => by
    rw [wellF]
    split
    · rename_i hc
      exact ⟨hc.2, wellF_all _ es⟩
    · exact wellF_all x es
theorem drop_ev {WP : List EvPair} {k : Nat} {q : EvPair} (h : WP[k]? = some q) : (WP.map Prod.fst).drop k = q.1 :: (WP.map Prod.fst).drop (k + 1) := by
  have h' : (WP.map Prod.fst)[k]? = some q.1 := by rw [List.getElem?_map, h]; rfl
  rw [List.drop_eq_getElem_cons (List.getElem?_eq_some_iff.1 h').1, (List.getElem?_eq_some_iff.1 h').2]
theorem drop_end {WP : List EvPair} : (WP.map Prod.fst).drop WP.length = [] := List.drop_of_length_le (by rw [List.length_map]; exact Nat.le_refl _)
/-- The blocks of two states. -/
def Four (b bm b2 bm2 k : Nat) : Prop := Two b bm k ∨ Two b2 bm2 k
theorem fit_zero {s : SchemaD} {scs : List Value} {a : Option Addr} {n c : Nat} {xs : List CellD} {W : World} (hs : SchemaR W scs s) (h : Sl 3 CellR W a n xs) (hn : n ≤ 100000) (hf : fitE s xs = 0) : Calls Try.prog 23 #[.agg scs.toArray, .slice a n c] W (ValIs (.int .i64 0) W) := by
  have h' := rfit_calls s scs a n c xs W hs h hn
  rw [hf] at h'
  exact h'
theorem cmp_less {a b : CellD} {W : World} (h : LessC a b) : Calls Try.prog 25 #[.agg #[.int .u8 a.kind, .int .i64 a.n, .string a.s], .agg #[.int .u8 b.kind, .int .i64 b.n, .string b.s]] W (ValIs (.int .i64 (-1)) W) := by
  have h' := refCompare a b W
  rw [show cmpC a b = -1 by unfold cmpC; rw [if_pos h]] at h'
  exact h'
theorem rises_at {l : List (List CellD)} (h : RisesK l) {k : Nat} {x y : List CellD} (hx : l[k]? = some x) (hy : l[k + 1]? = some y) : LessC (keyOf x) (keyOf y) := by
  obtain ⟨h1, e1⟩ := List.getElem?_eq_some_iff.1 hx
  obtain ⟨h2, e2⟩ := List.getElem?_eq_some_iff.1 hy
  have := List.pairwise_iff_getElem.1 h k (k + 1) h1 h2 (Nat.lt_succ_self k)
  rw [e1, e2] at this
  exact this
theorem wrap_pred {k km : Nat} (h : k = km + 1) (hk : k ≤ 1000) : RowKit.wrap64 ((k : Int) - 1) = (km : Int) := by unfold RowKit.wrap64; omega
theorem wrap_pred2 {km : Nat} (hk : km ≤ 1000) : RowKit.wrap64 (km : Int) = (km : Int) ∧ IntKind.i64.wrap (km : Int) = (km : Int) := ⟨by unfold RowKit.wrap64; omega, IntWalk.i64_in _ (by omega)⟩
theorem wrap_pred1 {k km : Nat} (h : k = km + 1) (hk : k ≤ 1000) : IntKind.i64.wrap ((k : Int) - 1) = (km : Int) := by
  rw [show (k : Int) - 1 = (km : Int) by omega]
  exact (wrap_pred2 (by omega)).2
end Go.Proofs.Ytlclhinianamhaa
