/- Maps keyed by cells whose elements are rows of values: what a map's block holds; looking up, storing, deleting, ranging. Ranging over a map keyed by cells: the places that were handed out. -/
import Derived.Maps.RangeRun
import Derived.Maps.Keyed
import Derived.Maps.Range
import Derived.DeepKeys4
import Derived.Test.YtlclhinianamhaaEvStA
import Derived.Maps.RangeWalk
namespace Go.Proofs.Ytlclhinianamhaa
open Go.RowKit Go.Deep
open Go.ChangeMaps (setBlock heap_setBlock_same heap_setBlock_other)
open Go.Maps (Keyed)
set_option linter.unusedVariables false
set_option linter.unusedSimpArgs false

theorem laidOutM : laidOutB Try.prog = true := by kernel_rfl
theorem rowCellM : (30 : TypeId) < Try.prog.types.size := of_decide_eq_true (by kernel_rfl)
theorem wideCellM : (match Try.prog.underlying 30 with | some (.array _ _) | some (.struct _) => true | _ => false) = true := by kernel_rfl
theorem deepCellM : Try.prog.keyTypeAt 2 30 = true := by kernel_rfl
set_option maxRecDepth 100000 in
theorem cellKeyed : Keyed Try.prog 30 := Keyed.of_law (deep_law_laid laidOutM (m := 2) (by decide) rowCellM deepCellM wideCellM)
theorem keyTypeM : Try.prog.keyType 30 = true := by kernel_rfl
theorem cellsCellM : Try.prog.cellsOf 30 = 3 := by kernel_rfl
theorem cellsKindM : Try.prog.cellsOf 28 = 1 := by kernel_rfl
theorem cellsI64M : Try.prog.cellsOf 2 = 1 := by kernel_rfl
theorem cellsStrM : Try.prog.cellsOf 9 = 1 := by kernel_rfl
theorem sizeTypesM : ∃ d, Try.prog.types.size + 1 = d + 2 := ⟨Try.prog.types.size - 1, by have h : 0 < Try.prog.types.size := Nat.lt_of_le_of_lt (Nat.zero_le _) rowCellM; omega⟩
theorem keyLits_cell (d : Nat) {c : CellD} (h : CellB c) : Try.prog.keyLits (d + 2) 30 c.cells.toList = some [.int .u8 c.kind, .int .i64 c.n, .string c.s.data.toList] := by
  obtain ⟨h1, ⟨h2, h3⟩, h4, h5⟩ := h
  have w1 : (Lit.int .u8 c.kind).wf = true := by simp [Lit.wf, IntKind.min, IntKind.max, IntKind.signed, IntKind.bits]; omega
  have w2 : (Lit.int .i64 c.n).wf = true := by simp [Lit.wf, IntKind.min, IntKind.max, IntKind.signed, IntKind.bits]; omega
  have e1 : Try.prog.keyLits (d + 1) 28 [.int .u8 c.kind] = some [.int .u8 c.kind] := by
    unfold Program.keyLits
    simp [Try.underlying28, w1]
  have e2 : Try.prog.keyLits (d + 1) 2 [.int .i64 c.n] = some [.int .i64 c.n] := by
    unfold Program.keyLits
    simp [Try.underlying2, w2]
  have e3 : Try.prog.keyLits (d + 1) 9 [.string c.s] = some [.string c.s.data.toList] := by
    unfold Program.keyLits
    simp [Try.underlying9, h1]
  unfold Program.keyLits CellD.cells
  simp [Try.underlying30, cellsCellM, cellsKindM, cellsI64M, cellsStrM, e1, e2, e3]
theorem formedCell (c : CellD) : (Value.agg c.cells).formed Try.prog 30 = true := by
  simp [Value.formed, Try.underlying30, cellsCellM, CellD.cells]
theorem cellKey {c : CellD} (h : CellB c) : ∃ l, Go.keyOf Try.prog 30 (.agg c.cells) = some l := by
  obtain ⟨d, hd⟩ := sizeTypesM
  have hk := keyLits_cell d h
  unfold Go.keyOf
  rw [Try.underlying30]
  simp only [keyTypeM, formedCell, hd, Bool.and_self, if_true, Value.cells, hk, Option.map_some]
  exact ⟨_, rfl⟩
theorem cells_inj {a b : CellD} (h : (Value.agg a.cells) = .agg b.cells) : a = b := by
  obtain ⟨ak, an, a3⟩ := a
  obtain ⟨bk, bn, b3⟩ := b
  simp [CellD.cells] at h
  obtain ⟨rfl, rfl, rfl⟩ := h
  rfl
noncomputable instance : DecidableEq CellD := fun a b => decidable_of_iff (cmpC a b = 0) (cmpC_zero a b)
theorem ne_cmp (a b : CellD) : decide (a ≠ b) = decide (cmpC a b ≠ 0) := by rw [decide_eq_decide, Ne, Ne, cmpC_zero]
/-- A row of values, and the slice that it lies in. -/
abbrev VPair := List ValD × Value
def keyV (q : VPair) : CellD := (q.1.headD .nil).cell
def kvOf (q : VPair) : Value × Value := (.agg (keyV q).cells, q.2)
structure MapAt (w : World) (bm : Nat) (M : List VPair) (es : Array MapEntry) (clock : Nat) : Prop where
  at_ : w.heap[bm]? = some (.map es clock)
  reads : es.toList.map (fun e => (e.key, e.val)) = M.map kvOf
  born : (es.toList.map (·.born)).Nodup
  old : ∀ e ∈ es.toList, e.born < clock
  keys : (M.map keyV).Nodup
  good : ∀ q ∈ M, CellB (keyV q)
def MapIs (w : World) (bm : Nat) (M : List VPair) : Prop := ∃ es clock, MapAt w bm M es clock
/-- A list in which no key stands twice: all but the one at j. -/
theorem filter_key {α β : Type} [DecidableEq β] {f : α → β} : ∀ {M : List α} {j : Nat} {q : α}, (M.map f).Nodup → M[j]? = some q → M.filter (fun x => decide (f x ≠ f q)) = M.eraseIdx j
  | [], j, q, _, h => by simp at h
  | x :: xs, 0, q, hn, h => by
    simp at h
    subst h
    rw [List.map_cons, List.nodup_cons] at hn
    rw [List.filter_cons, if_neg (by simp), List.eraseIdx_cons_zero, List.filter_eq_self.2]
    intro y hy
    simp only [decide_eq_true_eq]
    exact fun e => hn.1 (e ▸ List.mem_map.2 ⟨y, hy, rfl⟩)
  | x :: xs, j + 1, q, hn, h => by
    rw [List.map_cons, List.nodup_cons] at hn
    simp at h
    rw [List.filter_cons, if_pos, List.eraseIdx_cons_succ, filter_key hn.2 h]
    simp only [decide_eq_true_eq]
    exact fun e => hn.1 (e ▸ List.mem_map.2 ⟨q, List.mem_of_getElem? h, rfl⟩)
section
variable {w w' : World} {bm : Nat} {M : List VPair} {es : Array MapEntry} {clock : Nat} {c : CellD}
theorem MapAt.len (h : MapAt w bm M es clock) : es.toList.length = M.length := by
  have := congrArg List.length h.reads
  simpa using this
theorem MapAt.lt (h : MapAt w bm M es clock) : bm < w.heap.size := (Array.getElem?_eq_some_iff.1 h.at_).1
theorem MapAt.kept (h : MapAt w bm M es clock) (e : w'.heap[bm]? = w.heap[bm]?) : MapAt w' bm M es clock := ⟨e.trans h.at_, h.reads, h.born, h.old, h.keys, h.good⟩
theorem MapAt.entry (h : MapAt w bm M es clock) {j : Nat} {e : MapEntry} (he : es.toList[j]? = some e) : ∃ q, M[j]? = some q ∧ e.key = .agg (keyV q).cells ∧ e.val = q.2 := by
  have h1 := congrArg (·[j]?) h.reads
  simp only [List.getElem?_map, he, Option.map_some] at h1
  cases hq : M[j]? with
  | none => rw [hq] at h1; simp at h1
  | some q =>
    rw [hq] at h1
    simp [kvOf] at h1
    exact ⟨q, rfl, h1.1, h1.2⟩
theorem MapAt.entry' (h : MapAt w bm M es clock) {j : Nat} {q : VPair} (hq : M[j]? = some q) : ∃ e, es.toList[j]? = some e ∧ e.key = .agg (keyV q).cells ∧ e.val = q.2 := by
  have h1 := congrArg (·[j]?) h.reads
  simp only [List.getElem?_map, hq, Option.map_some] at h1
  cases he : es.toList[j]? with
  | none => rw [he] at h1; simp at h1
  | some e =>
    rw [he] at h1
    simp [kvOf] at h1
    exact ⟨e, rfl, h1.1, h1.2⟩
theorem MapAt.isKeys (h : MapAt w bm M es clock) : ∀ e ∈ es.toList, ∃ l, Go.keyOf Try.prog 30 e.key = some l := by
  intro e he
  obtain ⟨j, hj⟩ := List.getElem?_of_mem he
  obtain ⟨q, hq, hk, _⟩ := h.entry hj
  rw [hk]
  exact cellKey (h.good q (List.mem_of_getElem? hq))
theorem MapAt.find (h : MapAt w bm M es clock) (hc : CellB c) (W : World) :
    ((Instr.findKey 30 (.agg c.cells) es.toList).run Try.prog W = .ok none W ∧ ∀ q ∈ M, keyV q ≠ c) ∨
    ∃ j e q, (Instr.findKey 30 (.agg c.cells) es.toList).run Try.prog W = .ok (some (j, e.val)) W ∧ es.toList[j]? = some e ∧ M[j]? = some q ∧ keyV q = c ∧ e.key = .agg c.cells ∧ e.val = q.2 := by
  obtain ⟨l, hl⟩ := cellKey hc
  rcases cellKeyed.find W hl es.toList h.isKeys with ⟨h1, h2⟩ | ⟨j, e, h1, h2, h3⟩
  · refine .inl ⟨h1, fun q hq e => ?_⟩
    obtain ⟨j, hj⟩ := List.getElem?_of_mem hq
    obtain ⟨en, he, hk, _⟩ := h.entry' hj
    exact h2 en (List.mem_of_getElem? he) (by rw [hk, e])
  · obtain ⟨q, hq, hk, hv⟩ := h.entry h2
    exact .inr ⟨j, e, q, h1, h2, hq, cells_inj (hk.symm.trans h3), h3, hv⟩
theorem MapAt.lookup (h : MapAt w bm M es clock) (hc : CellB c) :
    ((Instr.lookup 91 (.map (some bm)) (.agg c.cells) true).run Try.prog w = .ok (.tuple #[.slice none 0 0, .bool false]) w ∧ ∀ q ∈ M, keyV q ≠ c) ∨
    ∃ q ∈ M, keyV q = c ∧ (Instr.lookup 91 (.map (some bm)) (.agg c.cells) true).run Try.prog w = .ok (.tuple #[q.2, .bool true]) w := by
  obtain ⟨l, hl⟩ := cellKey hc
  have hz : (zeroValue 61).run Try.prog w = .ok (.slice none 0 0) w := by kernel_rfl
  rcases h.find hc w with ⟨h1, h2⟩ | ⟨j, e, q, h1, h2, h3, h4, h5, h6⟩
  · refine .inl ⟨?_, h2⟩
    simp [Instr.lookup, run_underlying Try.underlying91, MapKept.run_getObj_map h.at_, cellKeyed.check w _ hl, h1, hz, Result.andThen]
  · refine .inr ⟨q, List.mem_of_getElem? h3, h4, ?_⟩
    simp [Instr.lookup, run_underlying Try.underlying91, MapKept.run_getObj_map h.at_, cellKeyed.check w _ hl, h1, h6, Result.andThen]
theorem MapAt.store_at (h : MapAt w bm M es clock) {j : Nat} {q r : VPair} (hq : M[j]? = some q) (hk : keyV r = keyV q) :
    ∃ es', (Instr.mapUpdate 91 (.map (some bm)) (.agg (keyV r).cells) r.2).run Try.prog w = .ok () (setBlock w bm (.map es' clock)) ∧ MapAt (setBlock w bm (.map es' clock)) bm (M.set j r) es' clock ∧ es'.toList.map (·.born) = es.toList.map (·.born) := by
  have hc : CellB (keyV r) := by rw [hk]; exact h.good q (List.mem_of_getElem? hq)
  obtain ⟨l, hl⟩ := cellKey hc
  rcases h.find hc w with ⟨h1, h2⟩ | ⟨j', e, q', h1, h2, h3, h4, h5, h6⟩
  · exact absurd hk.symm (h2 q (List.mem_of_getElem? hq))
  · have hjj : j' = j := by
      have hl1 : (M.map keyV)[j']? = some (keyV r) := by rw [List.getElem?_map, h3, Option.map_some, h4]
      have hl2 : (M.map keyV)[j]? = some (keyV r) := by rw [List.getElem?_map, hq, Option.map_some, hk]
      exact (List.getElem?_inj (List.getElem?_eq_some_iff.1 hl1).1 h.keys).1 (hl1.trans hl2.symm)
    subst hjj
    have hj : es[j']? = some e := by simpa using h2
    have hlist : (es.modify j' (fun e' => { e' with key := .agg (keyV r).cells, val := r.2 })).toList = es.toList.set j' { e with key := .agg (keyV r).cells, val := r.2 } := by rw [Array.toList_modify, ChangeMaps.modify_eq_set _ _ _ _ h2]
    have hborn : (es.toList.set j' { e with key := .agg (keyV r).cells, val := r.2 }).map (·.born) = es.toList.map (·.born) := by
      rw [List.map_set]
      apply List.ext_getElem?
      intro i
      rw [List.getElem?_set]
      split
      · rename_i hi
        subst hi
        rw [List.getElem?_map, h2]
        have := (List.getElem?_eq_some_iff.1 h2).1
        simp only [Array.length_toList] at this
        simp [this]
      · rfl
    refine ⟨es.modify j' (fun e' => { e' with key := .agg (keyV r).cells, val := r.2 }), ?_, ⟨heap_setBlock_same h.at_ _, ?_, ?_, ?_, ?_, ?_⟩, ?_⟩
    · simp [Instr.mapUpdate, run_underlying Try.underlying91, MapKept.run_getObj_map h.at_, cellKeyed.check w false hl, h1, hj, h5, cellKeyed.stays w hl, MapKept.run_setObj_map _ h.at_, Result.andThen, setBlock]
    · rw [hlist, List.map_set, List.map_set, h.reads]; rfl
    · rw [hlist, hborn]; exact h.born
    · rw [hlist]
      intro x hx
      rcases List.mem_or_eq_of_mem_set hx with hx | rfl
      · exact h.old x hx
      · exact h.old e (List.mem_of_getElem? h2)
    · rw [List.map_set, hk]
      have : (M.map keyV).set j' (keyV q) = M.map keyV := by
        apply List.ext_getElem?
        intro i
        rw [List.getElem?_set]
        split
        · rename_i hi
          subst hi
          rw [List.getElem?_map, hq]
          simp [(List.getElem?_eq_some_iff.1 hq).1]
        · rfl
      rw [this]; exact h.keys
    · intro x hx
      rcases List.mem_or_eq_of_mem_set hx with hx | rfl
      · exact h.good x hx
      · exact hc
    · rw [hlist, hborn]
theorem grown_setBlock {o : Obj} {e0 : Array MapEntry} {c0 : Nat} (h : w.heap[bm]? = some (.map e0 c0)) : w.grownBy (setBlock w bm o) (some bm) :=
  ⟨rfl, rfl, rfl, by simp [setBlock], fun i _ hi => heap_setBlock_other h _ (fun e => hi (by rw [e]))⟩
theorem MapAt.update (h : MapAt w bm M es clock) {r : VPair} (hc : CellB (keyV r)) :
    ∃ es' clock' M', (Instr.mapUpdate 91 (.map (some bm)) (.agg (keyV r).cells) r.2).run Try.prog w = .ok () (setBlock w bm (.map es' clock')) ∧ MapAt (setBlock w bm (.map es' clock')) bm M' es' clock' ∧
      M'.Perm (r :: M.filter (fun q => decide (keyV q ≠ keyV r))) := by
  obtain ⟨l, hl⟩ := cellKey hc
  rcases h.find hc w with ⟨h1, h2⟩ | ⟨j, e, q, h1, h2, h3, h4, h5, h6⟩
  · refine ⟨es.push ⟨.agg (keyV r).cells, r.2, clock⟩, clock + 1, M ++ [r], ?_, ⟨heap_setBlock_same h.at_ _, ?_, ?_, ?_, ?_, ?_⟩, ?_⟩
    · simp [Instr.mapUpdate, run_underlying Try.underlying91, MapKept.run_getObj_map h.at_, cellKeyed.check w false hl, h1, MapKept.run_setObj_map _ h.at_, Result.andThen, setBlock]
    · rw [Array.toList_push, List.map_append, List.map_append, h.reads]; rfl
    · rw [Array.toList_push, List.map_append, List.map_singleton]
      refine List.nodup_append.2 ⟨h.born, by simp, ?_⟩
      intro a ha b hb e
      obtain ⟨x, hx, rfl⟩ := List.mem_map.1 ha
      have := h.old x hx
      simp at hb
      omega
    · intro x hx
      rw [Array.toList_push, List.mem_append] at hx
      rcases hx with hx | hx
      · have := h.old x hx; omega
      · simp at hx; subst hx; exact Nat.lt_succ_self _
    · rw [List.map_append, List.map_singleton]
      refine List.nodup_append.2 ⟨h.keys, by simp, ?_⟩
      intro a ha b hb e
      obtain ⟨x, hx, rfl⟩ := List.mem_map.1 ha
      simp at hb
      exact h2 x hx (e.trans hb)
    · intro x hx
      rcases List.mem_append.1 hx with hx | hx
      · exact h.good x hx
      · simp at hx; subst hx; exact hc
    · rw [List.filter_eq_self.2 (fun q hq => by simpa using h2 q hq)]
      exact List.perm_append_singleton _ _
  · obtain ⟨es', hrun, hm, _⟩ := h.store_at h3 h4.symm
    refine ⟨es', clock, _, hrun, hm, ?_⟩
    rw [← h4, filter_key h.keys h3]
    exact ChangeMaps.set_perm _ _ (List.getElem?_eq_some_iff.1 h3).1 _
theorem MapAt.drop (h : MapAt w bm M es clock) (hc : CellB c) (ty : TypeId) :
    ∃ es', (Builtin.delete_ #[91, 30] ty #[.map (some bm), .agg c.cells]).run Try.prog w = .ok (.tuple #[]) (setBlock w bm (.map es' clock)) ∧ MapAt (setBlock w bm (.map es' clock)) bm (M.filter (fun q => decide (keyV q ≠ c))) es' clock := by
  obtain ⟨l, hl⟩ := cellKey hc
  rcases h.find hc w with ⟨h1, h2⟩ | ⟨j, e, q, h1, h2, h3, h4, h5, h6⟩
  · refine ⟨es, ?_, ?_⟩
    · simp [Builtin.delete_, run_underlying Try.underlying91, MapKept.run_getObj_map h.at_, cellKeyed.check w _ hl, h1, MapKept.run_setObj_map _ h.at_, Result.andThen, setBlock]
    · rw [List.filter_eq_self.2 (fun q hq => by simpa using h2 q hq)]
      exact ⟨heap_setBlock_same h.at_ _, h.reads, h.born, h.old, h.keys, h.good⟩
  · have hjs : j < es.size := by simpa using (List.getElem?_eq_some_iff.1 h2).1
    have hsub : (es.eraseIdxIfInBounds j).toList = es.toList.eraseIdx j := by
      unfold Array.eraseIdxIfInBounds
      rw [dif_pos hjs]
      simp
    refine ⟨es.eraseIdxIfInBounds j, ?_, ?_⟩
    · simp [Builtin.delete_, run_underlying Try.underlying91, MapKept.run_getObj_map h.at_, cellKeyed.check w _ hl, h1, MapKept.run_setObj_map _ h.at_, Result.andThen, setBlock]
    · subst h4
      rw [filter_key h.keys h3]
      refine ⟨heap_setBlock_same h.at_ _, ?_, ?_, ?_, ?_, ?_⟩
      · rw [hsub, ChangeMaps.map_eraseIdx, h.reads, ← ChangeMaps.map_eraseIdx]
      · rw [hsub, ChangeMaps.map_eraseIdx]
        exact h.born.sublist (List.eraseIdx_sublist _ _)
      · rw [hsub]
        exact fun x hx => h.old x ((List.eraseIdx_sublist _ _).subset hx)
      · rw [ChangeMaps.map_eraseIdx]
        exact h.keys.sublist (List.eraseIdx_sublist _ _)
      · exact fun x hx => h.good x ((List.eraseIdx_sublist _ _).subset hx)
end
end Go.Proofs.Ytlclhinianamhaa

namespace Go.Proofs.Ytlclhinianamhaa
open Go.RowKit Go.Deep
open Go.ChangeMaps (setBlock heap_setBlock_same heap_setBlock_other)
set_option linter.unusedVariables false
set_option linter.unusedSimpArgs false

def bornAt (es : Array MapEntry) (j : Nat) : Nat := ((es.toList[j]?).map (·.born)).getD 0
theorem bornAt_some {es : Array MapEntry} {j : Nat} {e : MapEntry} (h : es.toList[j]? = some e) : bornAt es j = e.born := by simp [bornAt, h]
def seenOf (es : Array MapEntry) (vis : List Nat) : Array Nat := (vis.map (bornAt es)).toArray
/-- 'for k, v := range m' under way: the places vis have been handed out, in this order. -/
structure IterAt (w : World) (bm r : Nat) (M : List VPair) (vis : List Nat) : Prop where
  ex : ∃ es clock since c0, MapAt w bm M es clock ∧ w.heap[r]? = some (.mapIter (some bm) since (seenOf es vis) c0) ∧ (∀ e ∈ es.toList, e.born < since) ∧ since ≤ c0 ∧ since ≤ clock
  nd : vis.Nodup
  lt : ∀ j ∈ vis, j < M.length
section
variable {w w' : World} {bm r : Nat} {M : List VPair} {vis : List Nat}
theorem IterAt.map (h : IterAt w bm r M vis) : MapIs w bm M := by
  obtain ⟨es, clock, _, _, hm, _⟩ := h.ex
  exact ⟨es, clock, hm⟩
theorem IterAt.ltr (h : IterAt w bm r M vis) : r < w.heap.size := by
  obtain ⟨es, clock, _, _, _, hr, _⟩ := h.ex
  exact (Array.getElem?_eq_some_iff.1 hr).1
theorem IterAt.ltm (h : IterAt w bm r M vis) : bm < w.heap.size := by
  obtain ⟨es, clock, _, _, hm, _⟩ := h.ex
  exact hm.lt
theorem IterAt.ne (h : IterAt w bm r M vis) : r ≠ bm := by
  obtain ⟨es, clock, _, _, hm, hr, _⟩ := h.ex
  intro e
  rw [e, hm.at_] at hr
  cases hr
theorem MapIs.kept (h : MapIs w bm M) (e : w'.heap[bm]? = w.heap[bm]?) : MapIs w' bm M := by
  obtain ⟨es, clock, hm⟩ := h
  exact ⟨es, clock, hm.kept e⟩
theorem MapIs.lt (h : MapIs w bm M) : bm < w.heap.size := by
  obtain ⟨es, clock, hm⟩ := h
  exact hm.lt
theorem MapIs.call (h : MapIs w bm M) (hb : Below w.heap.size w w') : MapIs w' bm M := h.kept (hb.block bm h.lt)
theorem IterAt.kept (h : IterAt w bm r M vis) (e1 : w'.heap[bm]? = w.heap[bm]?) (e2 : w'.heap[r]? = w.heap[r]?) : IterAt w' bm r M vis := by
  obtain ⟨es, clock, since, c0, hm, hr, rest⟩ := h.ex
  exact ⟨⟨es, clock, since, c0, hm.kept e1, e2.trans hr, rest⟩, h.nd, h.lt⟩
theorem IterAt.call (h : IterAt w bm r M vis) (hb : Below w.heap.size w w') : IterAt w' bm r M vis := h.kept (hb.block bm h.ltm) (hb.block r h.ltr)
theorem left_kept (e1 : w'.heap[bm]? = w.heap[bm]?) (e2 : w'.heap[r]? = w.heap[r]?) : w'.rangeLeft bm r = w.rangeLeft bm r := by
  unfold World.rangeLeft
  rw [e1, e2]
theorem IterAt.left_call (h : IterAt w bm r M vis) (hb : Below w.heap.size w w') : w'.rangeLeft bm r = w.rangeLeft bm r := left_kept (hb.block bm h.ltm) (hb.block r h.ltr)
theorem mem_seen {es : Array MapEntry} {clock : Nat} (hm : MapAt w bm M es clock) (hlt : ∀ j ∈ vis, j < M.length) {j : Nat} {e : MapEntry} (he : es.toList[j]? = some e) : (seenOf es vis).contains e.born = true ↔ j ∈ vis := by
  unfold seenOf
  rw [Array.contains_iff_mem, List.mem_toArray, List.mem_map]
  constructor
  · rintro ⟨i, hi, hb⟩
    have hil : i < es.toList.length := by rw [hm.len]; exact hlt i hi
    rw [bornAt_some (List.getElem?_eq_getElem hil)] at hb
    have h1 : (es.toList.map (·.born))[i]? = some e.born := by rw [List.getElem?_map, List.getElem?_eq_getElem hil, Option.map_some, hb]
    have h2 : (es.toList.map (·.born))[j]? = some e.born := by rw [List.getElem?_map, he, Option.map_some]
    have := (List.getElem?_inj (List.getElem?_eq_some_iff.1 h1).1 hm.born).1 (h1.trans h2.symm)
    rw [← this]; exact hi
  · intro hj
    exact ⟨j, hj, bornAt_some he⟩
theorem MapIs.range (h : MapIs w bm M) : ∃ w', (Instr.range 91 (.map (some bm))).run Try.prog w = .ok (.pointer (some ⟨w.heap.size, 0, none⟩)) w' ∧ IterAt w' bm w.heap.size M [] ∧ Below w.heap.size w w' ∧ w'.heap.size = w.heap.size + 1 := by
  obtain ⟨es, clock, hm⟩ := h
  refine ⟨_, run_range_map w _ _ _ bm es clock Try.underlying91 hm.at_, ⟨⟨es, clock, clock, clock, hm.kept (((Below.refl w.heap.size w).alloc (Nat.le_refl _) _).block bm hm.lt), by show (w.heap.push _)[w.heap.size]? = _; simp [seenOf], hm.old, Nat.le_refl _, Nat.le_refl _⟩, by simp, by simp⟩, (Below.refl _ _).alloc (Nat.le_refl _) _, by simp⟩
theorem IterAt.next (h : IterAt w bm r M vis) (ty : TypeId) :
    ((∀ j, j < M.length → j ∈ vis) ∧ (Instr.next (.pointer (some ⟨r, 0, none⟩)) false ty).run Try.prog w = .ok (.tuple #[.bool false]) w) ∨
    ∃ j q w', M[j]? = some q ∧ j ∉ vis ∧ (Instr.next (.pointer (some ⟨r, 0, none⟩)) false ty).run Try.prog w = .ok (.tuple #[.bool true, .agg (keyV q).cells, q.2]) w' ∧ IterAt w' bm r M (vis ++ [j]) ∧ w'.rangeLeft bm r < w.rangeLeft bm r ∧
      w.grownBy w' (some r) ∧ w'.heap.size = w.heap.size ∧ (Instr.entry (.pointer (some ⟨r, 0, none⟩))).run Try.prog w' = .ok (.tuple #[.agg (keyV q).cells, q.2]) w' := by
  have hne := h.ne
  obtain ⟨es, clock, since, c0, hm, hr, hold, hsc, hsk⟩ := h.ex
  rcases run_next_at (P := Try.prog) w ty r bm since c0 (seenOf es vis) es clock hr hm.at_ hold hsc with ⟨h0, hrun⟩ | ⟨e, he, w1, hal, hrun⟩
  · refine .inl ⟨fun j hj => ?_, hrun⟩
    have hjl : j < es.toList.length := by rw [hm.len]; exact hj
    exact (mem_seen hm h.lt (List.getElem?_eq_getElem hjl)).1 (by
      have := all_seen es (seenOf es vis) h0 (es.toList[j]) (List.getElem_mem hjl)
      exact this)
  · obtain ⟨hem, hes⟩ := mem_left he
    obtain ⟨j, hj⟩ := List.getElem?_of_mem hem
    obtain ⟨q, hq, hk, hv⟩ := hm.entry hj
    have hjv : j ∉ vis := fun hj' => by
      have := (mem_seen hm h.lt hj).2 hj'
      rw [this] at hes; cases hes
    have hr1 : w1.heap[r]? = some (.mapIter (some bm) since (seenOf es vis) c0) := by rcases hal with rfl | rfl <;> exact hr
    have hb1 : w1.heap[bm]? = some (.map es clock) := by rcases hal with rfl | rfl <;> exact hm.at_
    have hset := MapKept.heap_set (o' := .mapIter (some bm) since ((seenOf es vis).push e.born) clock) hr1
    have hb' : (setBlock w1 r (.mapIter (some bm) since ((seenOf es vis).push e.born) clock)).heap[bm]? = some (.map es clock) := (hset.2 bm (fun e1 => hne e1.symm)).trans hb1
    have hset1 : (setBlock w1 r (.mapIter (some bm) since ((seenOf es vis).push e.born) clock)).heap[r]? = some (.mapIter (some bm) since ((seenOf es vis).push e.born) clock) := hset.1
    have hseen : (seenOf es vis).push e.born = seenOf es (vis ++ [j]) := by
      unfold seenOf
      rw [List.map_append, List.map_singleton, bornAt_some hj]
      simp
    refine .inr ⟨j, q, _, hq, hjv, by rw [← hk, ← hv]; exact hrun, ⟨⟨es, clock, since, clock, hm.kept (hb'.trans hm.at_.symm), by rw [← hseen]; exact hset.1, hold, hsk, hsk⟩, ?_, ?_⟩, ?_, ?_, ?_, ?_⟩
    · rw [List.nodup_append]
      exact ⟨h.nd, by simp, fun a ha b hb => by simp at hb; subst hb; exact fun e => hjv (e ▸ ha)⟩
    · intro i hi
      rcases List.mem_append.1 hi with hi | hi
      · exact h.lt i hi
      · simp at hi; subst hi; exact (List.getElem?_eq_some_iff.1 hq).1
    · simp only [World.rangeLeft, hb', hset1, hm.at_, hr]
      exact left_shrinks es (seenOf es vis) e he
    · rcases hal with rfl | rfl <;> exact ⟨rfl, rfl, rfl, by simp [setBlock], fun i _ hi => hset.2 i (fun e1 => hi (by rw [e1]))⟩
    · rcases hal with rfl | rfl <;> simp [setBlock]
    · rw [← hk, ← hv]
      exact run_entry_at _ r bm since (seenOf es vis) es clock e hset.1 hb' hem hm.born
theorem IterAt.store (h : IterAt w bm r M vis) {j : Nat} {q q' : VPair} (hq : M[j]? = some q) (hk : keyV q' = keyV q) :
    ∃ w', (Instr.mapUpdate 91 (.map (some bm)) (.agg (keyV q').cells) q'.2).run Try.prog w = .ok () w' ∧ IterAt w' bm r (M.set j q') vis ∧ w'.rangeLeft bm r = w.rangeLeft bm r ∧ w.grownBy w' (some bm) ∧ w'.heap.size = w.heap.size := by
  have hne := h.ne
  obtain ⟨es, clock, since, c0, hm, hr, hold, hsc, hsk⟩ := h.ex
  obtain ⟨es', hrun, hm', hb⟩ := hm.store_at hq hk
  have hl : es'.toList.length = es.toList.length := by have := congrArg List.length hb; simpa using this
  have hbj : ∀ j, bornAt es' j = bornAt es j := fun j => by
    have := congrArg (·[j]?) hb
    simp only [List.getElem?_map] at this
    unfold bornAt
    rw [this]
  have hseen : seenOf es' vis = seenOf es vis := by unfold seenOf; rw [List.map_congr_left fun j _ => hbj j]
  have hr' : (setBlock w bm (.map es' clock)).heap[r]? = some (.mapIter (some bm) since (seenOf es vis) c0) := (heap_setBlock_other hm.at_ _ hne).trans hr
  refine ⟨_, hrun, ⟨⟨es', clock, since, c0, hm', by rw [hseen]; exact hr', ?_, hsc, hsk⟩, h.nd, by simpa using h.lt⟩, ?_, grown_setBlock hm.at_, by simp [setBlock]⟩
  · intro e he
    have : e.born ∈ es'.toList.map (·.born) := List.mem_map.2 ⟨e, he, rfl⟩
    rw [hb] at this
    obtain ⟨e0, h0, h1⟩ := List.mem_map.1 this
    rw [← h1]
    exact hold e0 h0
  · simp only [World.rangeLeft, hm'.at_, hr', hm.at_, hr]
    have e1 : ∀ a : Array MapEntry, (leftOf a (seenOf es vis)).size = ((a.toList.map (·.born)).filter fun b => !(seenOf es vis).contains b).length := fun a => by
      unfold leftOf
      rw [List.filter_map, List.length_map, ← Array.length_toList, Array.toList_filter]
      rfl
    rw [e1, e1, hb]
end
section
variable (w : World) {ops : Array Oper} {rest : List Oper} {o : Oper} {a : Act} {Q : Exit → Act → World → Prop}
theorem wpList_rangeM (hg : o.guard = none) (m : Operand) (hop : o.op = Op.range 91 m) (bm : Nat) (M : List VPair) (hm : a.eval m = .map (some bm)) (h : MapIs w bm M)
    (hK : ∀ w', IterAt w' bm w.heap.size M [] → Below w.heap.size w w' → w'.heap.size = w.heap.size + 1 → wpList Try.prog ops Q rest (a.put o.dst (.pointer (some ⟨w.heap.size, 0, none⟩))) w') :
    wpList Try.prog ops Q (o :: rest) a w := by
  refine wpList_plain hg fun K' hK' => ?_
  obtain ⟨w', hrun, r1, r2, r3⟩ := h.range
  unfold Oper.wp
  simp [execOp, hop, hm, hrun, Result.andThen]
  exact hK' _ _ (hK w' r1 r2 r3)
theorem wpList_nextM (hg : o.guard = none) (it : Operand) (hop : o.op = Op.next it false) (bm r : Nat) (M : List VPair) (vis : List Nat) (hit : a.eval it = .pointer (some ⟨r, 0, none⟩)) (h : IterAt w bm r M vis)
    (hDone : (∀ j, j < M.length → j ∈ vis) → wpList Try.prog ops Q rest (a.put o.dst (.tuple #[.bool false])) w)
    (hMore : ∀ (j : Nat) (rw : List ValD) (v : Value) (ck cn : Int) (cs : ByteArray) (w' : World), M[j]? = some (rw, v) → j ∉ vis → keyV (rw, v) = ⟨ck, cn, cs⟩ → IterAt w' bm r M (vis ++ [j]) → w'.rangeLeft bm r < w.rangeLeft bm r → w.grownBy w' (some r) → w'.heap.size = w.heap.size →
      (Instr.entry (.pointer (some ⟨r, 0, none⟩))).run Try.prog w' = .ok (.tuple #[.agg #[.int .u8 ck, .int .i64 cn, .string cs], v]) w' → wpList Try.prog ops Q rest (a.put o.dst (.tuple #[.bool true, .agg #[.int .u8 ck, .int .i64 cn, .string cs], v])) w') :
    wpList Try.prog ops Q (o :: rest) a w := by
  refine wpList_plain hg fun K' hK' => ?_
  unfold Oper.wp
  rcases h.next o.type with ⟨h0, hrun⟩ | ⟨j, q, w', h1, h2, hrun, h3, h4, h5, h6, h7⟩
  · simp [execOp, hop, hit, hrun, Result.andThen]
    exact hK' _ _ (hDone h0)
  · obtain ⟨rw, v⟩ := q
    obtain ⟨c, hc⟩ : ∃ c, keyV (rw, v) = c := ⟨_, rfl⟩
    rw [hc] at hrun h7
    obtain ⟨ck, cn, cs⟩ := c
    simp [execOp, hop, hit, hrun, Result.andThen]
    exact hK' _ _ (hMore j rw v ck cn cs w' h1 h2 hc h3 h4 h5 h6 h7)
end
end Go.Proofs.Ytlclhinianamhaa
