/- What predicates, schemas, statistics and cells, handed in by whoever calls, read as. -/
import Derived.Test.YtlclhinianamhaaBase
import Derived.Test.YtlclhinianamhaaVlOpen
namespace Go.Proofs.Ytlclhinianamhaa
open Go.RowKit Go.Deep
set_option linter.unusedVariables false
set_option linter.unusedSimpArgs false

theorem cells_u32 : Try.prog.cellsOf 22 = 1 := by kernel_rfl
theorem cells_bool : Try.prog.cellsOf 4 = 1 := by kernel_rfl
theorem cells_int : Try.prog.cellsOf 3 = 1 := by kernel_rfl
theorem cells_u8 : Try.prog.cellsOf 5 = 1 := by kernel_rfl
theorem cells_cellrow : Try.prog.cellsOf 27 = 1 := by kernel_rfl
theorem cells_fields : Try.prog.cellsOf 23 = 1 := by kernel_rfl
theorem cells_field : Try.prog.cellsOf 59 = 4 := by kernel_rfl
theorem cells_schema : Try.prog.cellsOf 25 = 2 := by kernel_rfl
theorem wf_u32 {n : Int} (h : (Lit.int .u32 n).wf = true) : 0 ≤ n ∧ n < 2 ^ 32 := by have := bounds_u32 h; omega
theorem wf_u8 {n : Int} (h : (Lit.int .u8 n).wf = true) : 0 ≤ n ∧ n < 2 ^ 8 := by have := bounds_u8 h; omega
section
variable {H : Type} {enc : TypeId × Value → H}
theorem opens_u32 : Opens H enc Try.prog 22 1 (fun w cs x => NatR .u32 w cs x ∧ (Lit.int .u32 (x : Int)).wf = true) := opens_nat Try.underlying22 fun n h => (wf_u32 h).1
theorem opens_kind : Opens H enc Try.prog 28 1 (fun w cs x => NatR .u8 w cs x ∧ (Lit.int .u8 (x : Int)).wf = true) := opens_nat Try.underlying28 fun n h => (wf_u8 h).1
theorem opens_op : Opens H enc Try.prog 5 1 (fun w cs x => NatR .u8 w cs x ∧ (Lit.int .u8 (x : Int)).wf = true) := opens_nat Try.underlying5 fun n h => (wf_u8 h).1
set_option maxRecDepth 100000 in
theorem opens_fieldD : Opens H enc Try.prog 59 4 FieldR := by
  refine opens_struct Try.underlying59 cells_field fun w base spare held n cs hl hf => ?_
  match cs, hl with
  | [v0, v1, v2, v3], _ =>
    obtain ⟨x0, h0, w0⟩ := opens_field opens_u32 cells_u32 (cs' := [v0]) (hf 0 _ rfl) rfl
    obtain ⟨x1, h1, w1⟩ := opens_field (opens_str Try.underlying9) cells_str (cs' := [v1]) (hf 1 _ rfl) rfl
    obtain ⟨x2, h2, w2⟩ := opens_field opens_kind cells_kind (cs' := [v2]) (hf 2 _ rfl) rfl
    obtain ⟨x3, h3⟩ := opens_field (opens_bool Try.underlying4) cells_bool (cs' := [v3]) (hf 3 _ rfl) rfl
    cases h0; cases h1; cases h2; cases h3
    have b0 : x0 < 2 ^ 32 := by have := wf_u32 w0; omega
    have b2 : x2 < 256 := by have := wf_u8 w2; omega
    exact ⟨⟨x0, x1, x2, x3⟩, rfl, w1, b0, b2⟩
set_option maxRecDepth 100000 in
theorem opens_schema : Opens H enc Try.prog 25 2 SchemaR := by
  refine opens_struct Try.underlying25 cells_schema fun w base spare held n cs hl hf => ?_
  match cs, hl with
  | [v0, v1], _ =>
    obtain ⟨x0, h0, w0⟩ := opens_field opens_u32 cells_u32 (cs' := [v0]) (hf 0 _ rfl) rfl
    obtain ⟨x1, a, m, c, h1, k1, k2, k3, hsl⟩ := opens_field (opens_slice Try.underlying23 cells_field (by decide) opens_fieldD) cells_fields (cs' := [v1]) (hf 1 _ rfl) rfl
    cases h0; cases h1
    have b0 : x0 < 2 ^ 32 := by have := wf_u32 w0; omega
    exact ⟨⟨x0, x1⟩, a, m, c, rfl, k1, k2, k3, hsl, b0⟩
theorem struct_fields {P : Program} {t : TypeId} {fs : Array Field} {w : World} {base : Nat} {spare : Nat → Bool} {held : Bool} {fuel : Nat} {cs : List Value} {y : DataW H × List MemPlace} (ht : P.underlying t = some (.struct fs)) (h : DataW.trod enc P w base spare held fuel t cs = some y) :
    ∃ n, fuel = n + 1 ∧ cs.length = P.cellsOf t ∧ ∀ (i : Nat) (f : Field), fs[i]? = some f → ∃ y, DataW.trod enc P w base spare held n f.type ((cs.drop f.offset).take (P.cellsOf f.type)) = some y := by
  obtain ⟨xs, n, hfn, _, hl, hxl, hf⟩ := DataW.trod_struct ht h
  refine ⟨n, hfn, hl, fun i f hi => ?_⟩
  have hil : i < xs.length := by rw [hxl]; exact (Array.getElem?_eq_some_iff.1 hi).1
  exact ⟨_, (hf i f hi).trans (List.getElem?_eq_getElem hil)⟩
theorem opens_slice_at {α : Type} {P : Program} {R : Rd α} {t e : TypeId} {size fuel : Nat} (ht : P.underlying t = some (.slice e)) (hc : P.cellsOf e = size) (hpos : 0 < size) {w : World} {base : Nat} {spare : Nat → Bool} {held : Bool} {cs : List Value} {y : DataW H × List MemPlace}
    (ho : ∀ n, n < fuel → ∀ (cs : List Value) (y : DataW H × List MemPlace), DataW.trod enc P w base spare held n e cs = some y → cs.length = size ∧ ∃ x, R w cs x) (h : DataW.trod enc P w base spare held fuel t cs = some y) : cs.length = 1 ∧ ∃ xs, SlR size R w cs xs := by
  rcases DataW.trod_slice ht h with ⟨rfl, _⟩ | ⟨a, len, cap, elems, rest, n, hfn, rfl, _, hb, hl, hm, hel, hi, _⟩
  · exact ⟨rfl, [], none, 0, 0, rfl, Nat.le_refl _, by unfold maxLen; omega, fun _ => rfl, Sl.nil_ _ _ _⟩
  · refine ⟨rfl, ?_⟩
    rw [hc] at hi
    have key : ∀ i, i < len → ∃ x, ∃ cs : List Value, cs.length = size ∧ R w cs x ∧ ∀ j v, cs[j]? = some v → w.cell? ((a.add (i * size)).add j) = some v := by
      intro i hil
      have h1 := (hi i hil).trans (List.getElem?_eq_getElem (show i < elems.length by omega))
      obtain ⟨cs', hcs, htr⟩ := Option.bind_eq_some_iff.1 h1
      obtain ⟨hln, x, hx⟩ := ho n (by omega) _ _ htr
      obtain ⟨_, hcl, hat⟩ := World.cells?_some hcs
      exact ⟨x, cs', hln, hx, fun j v hj => (hat j (by have := (List.getElem?_eq_some_iff.1 hj).1; omega)).trans hj⟩
    obtain ⟨xs, hxl, hxs⟩ := list_of_choice len key
    refine ⟨xs, some a, len, cap, rfl, hl, hm, (fun h => by cases h), hxl, fun hn => ?_⟩
    obtain ⟨b, off, spot⟩ := a
    have hspot : spot = none ∧ b < w.heap.size := by
      obtain ⟨cs, hcl, _, hcell⟩ := hxs 0 _ (List.getElem?_eq_getElem (by omega))
      have h0 := hcell 0 _ (List.getElem?_eq_getElem (by omega))
      have h1 : w.cell? ⟨b, off, spot⟩ = some (cs[0]'(by omega)) := by simpa [Addr.add] using h0
      exact ⟨World.cell?_spot h1, World.block_lt_of_cell? w _ h1⟩
    obtain ⟨rfl, hlt⟩ := hspot
    refine ⟨b, off, rfl, hlt, fun i x hx => ?_⟩
    obtain ⟨cs, hcl, hr, hcell⟩ := hxs i x hx
    refine ⟨cs, hcl, hr, fun j v hj => ?_⟩
    have := hcell j v hj
    rw [add_add] at this
    have hplain : (⟨b, off, none⟩ : Addr).add (i * size + j) = ⟨b, off + i * size + j, none⟩ := by unfold Addr.add; split <;> simp_all [Nat.add_assoc]
    rwa [hplain] at this
theorem field_at {P : Program} {t : TypeId} {size : Nat} (hc : P.cellsOf t = size) {w : World} {base : Nat} {spare : Nat → Bool} {held : Bool} {n off : Nat} {cs cs' : List Value}
    (h : ∃ y, DataW.trod enc P w base spare held n t ((cs.drop off).take (P.cellsOf t)) = some y) (e : (cs.drop off).take size = cs') : ∃ y, DataW.trod enc P w base spare held n t cs' = some y := by
  obtain ⟨y, hy⟩ := h
  rw [hc, e] at hy
  exact ⟨y, hy⟩
end
set_option maxRecDepth 100000 in
theorem open_schema {H : Type} {enc : TypeId × Value → H} {w : World} {r : Reach} {b base : Nat} {spare : Nat → Bool} {held : Bool} {v : Value} {d : DataW H} {ps : List MemPlace} (h : Value.okWide Try.prog w r b 25 v) (ht : DataW.Trod enc Try.prog w base spare held 25 v d ps) :
    ∃ cs s, v = .agg (List.toArray cs) ∧ SchemaR w cs s := by
  obtain ⟨cs, hv, hcs⟩ := open_agg Try.underlying25 h
  obtain ⟨fuel, hf⟩ := ht
  rw [hcs] at hf
  obtain ⟨_, s, hr⟩ := opens_schema _ _ _ _ _ _ _ hf
  exact ⟨cs, s, hv, hr⟩
set_option maxRecDepth 100000 in
theorem open_rows {H : Type} {enc : TypeId × Value → H} {w : World} {r : Reach} {b base : Nat} {spare : Nat → Bool} {held : Bool} {v : Value} {d : DataW H} {ps : List MemPlace} (h : Value.okWide Try.prog w r b 52 v) (ht : DataW.Trod enc Try.prog w base spare held 52 v d ps) :
    ∃ a n c xs, v = .slice a n c ∧ Sl 1 (SlR 3 CellR) w a n xs := by
  obtain ⟨fuel, hf⟩ := ht
  obtain ⟨_, xs, a, n, c, hcs, _, _, _, hs⟩ := opens_slice Try.underlying52 cells_cellrow (by decide) (opens_slice Try.underlying27 cells_cell (by decide) opens_cell) _ _ _ _ _ _ _ hf
  exact ⟨a, n, c, xs, slice_val Try.underlying52 h hcs, hs⟩
end Go.Proofs.Ytlclhinianamhaa
