/- What predicates, schemas, statistics and cells, handed in by whoever calls, read as. -/
import Derived.Test.YtkofaoaglnjkgaaBase
import Derived.Test.YtkofaoaglnjkgaaVlOpen
namespace Go.Proofs.Ytkofaoaglnjkgaa
open Go.RowKit Go.Deep
set_option linter.unusedVariables false
set_option linter.unusedSimpArgs false

theorem cells_u32 : Try.prog.cellsOf 34 = 1 := by kernel_rfl
theorem cells_bool : Try.prog.cellsOf 4 = 1 := by kernel_rfl
theorem cells_int : Try.prog.cellsOf 3 = 1 := by kernel_rfl
theorem cells_u8 : Try.prog.cellsOf 5 = 1 := by kernel_rfl
theorem cells_cellrow : Try.prog.cellsOf 22 = 1 := by kernel_rfl
theorem cells_fields : Try.prog.cellsOf 35 = 1 := by kernel_rfl
theorem cells_field : Try.prog.cellsOf 85 = 4 := by kernel_rfl
theorem cells_schema : Try.prog.cellsOf 37 = 2 := by kernel_rfl
theorem cells_stat : Try.prog.cellsOf 31 = 10 := by kernel_rfl
theorem cells_pred : Try.prog.cellsOf 42 = 6 := by kernel_rfl
theorem cells_kids : Try.prog.cellsOf 40 = 1 := by kernel_rfl
theorem wf_u32 {n : Int} (h : (Lit.int .u32 n).wf = true) : 0 ≤ n ∧ n < 2 ^ 32 := by have := bounds_u32 h; omega
theorem wf_u8 {n : Int} (h : (Lit.int .u8 n).wf = true) : 0 ≤ n ∧ n < 2 ^ 8 := by have := bounds_u8 h; omega
section
variable {H : Type} {enc : TypeId × Value → H}
theorem opens_u32 : Opens H enc Try.prog 34 1 (fun w cs x => NatR .u32 w cs x ∧ (Lit.int .u32 (x : Int)).wf = true) := opens_nat Try.underlying34 fun n h => (wf_u32 h).1
theorem opens_kind : Opens H enc Try.prog 24 1 (fun w cs x => NatR .u8 w cs x ∧ (Lit.int .u8 (x : Int)).wf = true) := opens_nat Try.underlying24 fun n h => (wf_u8 h).1
theorem opens_op : Opens H enc Try.prog 5 1 (fun w cs x => NatR .u8 w cs x ∧ (Lit.int .u8 (x : Int)).wf = true) := opens_nat Try.underlying5 fun n h => (wf_u8 h).1
set_option maxRecDepth 100000 in
theorem opens_fieldD : Opens H enc Try.prog 85 4 FieldR := by
  refine opens_struct Try.underlying85 cells_field fun w base spare held n cs hl hf => ?_
  match cs, hl with
  | [v0, v1, v2, v3], _ =>
    obtain ⟨x0, h0, w0⟩ := opens_field opens_u32 cells_u32 (cs' := [v0]) (hf 0 _ rfl) rfl
    obtain ⟨x1, h1, w1⟩ := opens_field (opens_str Try.underlying9) cells_str (cs' := [v1]) (hf 1 _ rfl) rfl
    obtain ⟨x2, h2, w2⟩ := opens_field opens_kind cells_kind (cs' := [v2]) (hf 2 _ rfl) rfl
    obtain ⟨x3, h3⟩ := opens_field (opens_bool Try.underlying4) cells_bool (cs' := [v3]) (hf 3 _ rfl) rfl
    cases h0; cases h1; cases h2; cases h3
    have b0 : x0 < 2 ^ 32 := by have := wf_u32 w0; omega
    have b2 : x2 < 256 := by have := wf_u8 w2; omega
    exact ⟨⟨x0, x1, x2, x3⟩, rfl, w1, b0, b2⟩
set_option maxRecDepth 100000 in
theorem opens_schema : Opens H enc Try.prog 37 2 SchemaR := by
  refine opens_struct Try.underlying37 cells_schema fun w base spare held n cs hl hf => ?_
  match cs, hl with
  | [v0, v1], _ =>
    obtain ⟨x0, h0, w0⟩ := opens_field opens_u32 cells_u32 (cs' := [v0]) (hf 0 _ rfl) rfl
    obtain ⟨x1, a, m, c, h1, k1, k2, k3, hsl⟩ := opens_field (opens_slice Try.underlying35 cells_field (by decide) opens_fieldD) cells_fields (cs' := [v1]) (hf 1 _ rfl) rfl
    cases h0; cases h1
    have b0 : x0 < 2 ^ 32 := by have := wf_u32 w0; omega
    exact ⟨⟨x0, x1⟩, a, m, c, rfl, k1, k2, k3, hsl, b0⟩
set_option maxRecDepth 100000 in
theorem opens_stat : Opens H enc Try.prog 31 10 StatR := by
  refine opens_struct Try.underlying31 cells_stat fun w base spare held n cs hl hf => ?_
  match cs, hl with
  | [v0, v1, v2, v3, v4, v5, v6, v7, v8, v9], _ =>
    obtain ⟨x0, h0, w0⟩ := opens_field (opens_int Try.underlying3) cells_int (cs' := [v0]) (hf 0 _ rfl) rfl
    obtain ⟨x1, h1, w1⟩ := opens_field (opens_int Try.underlying3) cells_int (cs' := [v1]) (hf 1 _ rfl) rfl
    obtain ⟨x2, h2⟩ := opens_field (opens_bool Try.underlying4) cells_bool (cs' := [v2]) (hf 2 _ rfl) rfl
    obtain ⟨x3, h3⟩ := opens_field (opens_bool Try.underlying4) cells_bool (cs' := [v3]) (hf 3 _ rfl) rfl
    obtain ⟨x4, h4, w4, b4, c4⟩ := opens_field opens_cell cells_cell (cs' := [v4, v5, v6]) (hf 4 _ rfl) rfl
    obtain ⟨x5, h5, w5, b5, c5⟩ := opens_field opens_cell cells_cell (cs' := [v7, v8, v9]) (hf 5 _ rfl) rfl
    cases h0; cases h1; cases h2; cases h3; cases h4; cases h5
    exact ⟨⟨x0, x1, x2, x3, x4, x5⟩, rfl, bounds_i64 w0, bounds_i64 w1, ⟨w4, b4, c4⟩, ⟨w5, b5, c5⟩⟩
theorem struct_fields {P : Program} {t : TypeId} {fs : Array Field} {w : World} {base : Nat} {spare : Nat → Bool} {held : Bool} {fuel : Nat} {cs : List Value} {y : DataW H × List MemPlace} (ht : P.underlying t = some (.struct fs)) (h : DataW.trod enc P w base spare held fuel t cs = some y) :
    ∃ n, fuel = n + 1 ∧ cs.length = P.cellsOf t ∧ ∀ (i : Nat) (f : Field), fs[i]? = some f → ∃ y, DataW.trod enc P w base spare held n f.type ((cs.drop f.offset).take (P.cellsOf f.type)) = some y := by
  obtain ⟨xs, n, hfn, _, hl, hxl, hf⟩ := DataW.trod_struct ht h
  refine ⟨n, hfn, hl, fun i f hi => ?_⟩
  have hil : i < xs.length := by rw [hxl]; exact (Array.getElem?_eq_some_iff.1 hi).1
  exact ⟨_, (hf i f hi).trans (List.getElem?_eq_getElem hil)⟩
theorem opens_slice_at {α : Type} {P : Program} {R : Rd α} {t e : TypeId} {size fuel : Nat} (ht : P.underlying t = some (.slice e)) (hc : P.cellsOf e = size) (hpos : 0 < size) {w : World} {base : Nat} {spare : Nat → Bool} {held : Bool} {cs : List Value} {y : DataW H × List MemPlace}
    (ho : ∀ n, n < fuel → ∀ (cs : List Value) (y : DataW H × List MemPlace), DataW.trod enc P w base spare held n e cs = some y → cs.length = size ∧ ∃ x, R w cs x) (h : DataW.trod enc P w base spare held fuel t cs = some y) : cs.length = 1 ∧ ∃ xs, SlR size R w cs xs := by
  rcases DataW.trod_slice ht h with ⟨rfl, _⟩ | ⟨a, len, cap, elems, rest, n, hfn, rfl, _, hb, hl, hm, hel, hi, _⟩
  · exact ⟨rfl, [], none, 0, 0, rfl, Nat.le_refl _, by unfold maxLen; omega, fun _ => rfl, Sl.nil_ _ _ _⟩
  · refine ⟨rfl, ?_⟩
    rw [hc] at hi
    have key : ∀ i, i < len → ∃ x, ∃ cs : List Value, cs.length = size ∧ R w cs x ∧ ∀ j v, cs[j]? = some v → w.cell? ((a.add (i * size)).add j) = some v := by
      intro i hil
      have h1 := (hi i hil).trans (List.getElem?_eq_getElem (show i < elems.length by omega))
      obtain ⟨cs', hcs, htr⟩ := Option.bind_eq_some_iff.1 h1
      obtain ⟨hln, x, hx⟩ := ho n (by omega) _ _ htr
      obtain ⟨_, hcl, hat⟩ := World.cells?_some hcs
      exact ⟨x, cs', hln, hx, fun j v hj => (hat j (by have := (List.getElem?_eq_some_iff.1 hj).1; omega)).trans hj⟩
    obtain ⟨xs, hxl, hxs⟩ := list_of_choice len key
    refine ⟨xs, some a, len, cap, rfl, hl, hm, (fun h => by cases h), hxl, fun hn => ?_⟩
    obtain ⟨b, off, spot⟩ := a
    have hspot : spot = none ∧ b < w.heap.size := by
      obtain ⟨cs, hcl, _, hcell⟩ := hxs 0 _ (List.getElem?_eq_getElem (by omega))
      have h0 := hcell 0 _ (List.getElem?_eq_getElem (by omega))
      have h1 : w.cell? ⟨b, off, spot⟩ = some (cs[0]'(by omega)) := by simpa [Addr.add] using h0
      exact ⟨World.cell?_spot h1, World.block_lt_of_cell? w _ h1⟩
    obtain ⟨rfl, hlt⟩ := hspot
    refine ⟨b, off, rfl, hlt, fun i x hx => ?_⟩
    obtain ⟨cs, hcl, hr, hcell⟩ := hxs i x hx
    refine ⟨cs, hcl, hr, fun j v hj => ?_⟩
    have := hcell j v hj
    rw [add_add] at this
    have hplain : (⟨b, off, none⟩ : Addr).add (i * size + j) = ⟨b, off + i * size + j, none⟩ := by unfold Addr.add; split <;> simp_all [Nat.add_assoc]
    rwa [hplain] at this
theorem field_at {P : Program} {t : TypeId} {size : Nat} (hc : P.cellsOf t = size) {w : World} {base : Nat} {spare : Nat → Bool} {held : Bool} {n off : Nat} {cs cs' : List Value}
    (h : ∃ y, DataW.trod enc P w base spare held n t ((cs.drop off).take (P.cellsOf t)) = some y) (e : (cs.drop off).take size = cs') : ∃ y, DataW.trod enc P w base spare held n t cs' = some y := by
  obtain ⟨y, hy⟩ := h
  rw [hc, e] at hy
  exact ⟨y, hy⟩
set_option maxRecDepth 100000 in
theorem pred_trod : ∀ (fuel : Nat) (w : World) (base : Nat) (spare : Nat → Bool) (held : Bool) (cs : List Value) (y : DataW H × List MemPlace), DataW.trod enc Try.prog w base spare held fuel 42 cs = some y → cs.length = 6 ∧ ∃ p, PredR (fuel + 1) w cs p := by
  intro fuel
  induction fuel using Nat.strongRecOn with
  | _ fuel ih =>
    intro w base spare held cs y h
    obtain ⟨n, hfn, hl, hf⟩ := struct_fields Try.underlying42 h
    have hl6 : cs.length = 6 := hl.trans cells_pred
    refine ⟨hl6, ?_⟩
    match cs, hl6 with
    | [v0, v1, v2, v3, v4, v5], _ =>
      obtain ⟨x0, h0, w0⟩ := opens_field opens_op cells_u8 (cs' := [v0]) (hf 0 _ rfl) rfl
      obtain ⟨x1, h1, w1⟩ := opens_field opens_u32 cells_u32 (cs' := [v1]) (hf 1 _ rfl) rfl
      obtain ⟨x2, h2, w2, b2, c2⟩ := opens_field opens_cell cells_cell (cs' := [v2, v3, v4]) (hf 2 _ rfl) rfl
      obtain ⟨z, hz⟩ := field_at cells_kids (cs' := [v5]) (hf 3 _ rfl) rfl
      obtain ⟨_, ks, a, m, c, h3, k1, k2, k3, hsl⟩ := opens_slice_at (R := PredR fuel) Try.underlying40 cells_pred (by decide) (fun q hq cs y htr => by
        obtain ⟨e1, p, hp⟩ := ih q (by omega) w base spare held cs y htr
        exact ⟨e1, p, hp.mono (by omega)⟩) hz
      cases h0; cases h1; cases h2
      have h3' : v5 = .slice a m c := by simpa using h3
      subst h3'
      refine ⟨.mk x0 x1 x2 ks, a, m, c, rfl, k1, k2, k3, hsl, ?_, ?_, w2, b2, c2⟩
      · have := wf_u8 w0; show x0 < 256; omega
      · have := wf_u32 w1; show x1 < 2 ^ 32; omega
end
set_option maxRecDepth 100000 in
theorem open_pred {H : Type} {enc : TypeId × Value → H} {w : World} {r : Reach} {b base : Nat} {spare : Nat → Bool} {held : Bool} {v : Value} {d : DataW H} {ps : List MemPlace} (h : Value.okWide Try.prog w r b 42 v) (ht : DataW.Trod enc Try.prog w base spare held 42 v d ps) :
    ∃ cs, ∃ q : Nat × PredD, v = .agg (List.toArray cs) ∧ PredR q.1 w cs q.2 := by
  obtain ⟨cs, hv, hcs⟩ := open_agg Try.underlying42 h
  obtain ⟨fuel, hf⟩ := ht
  rw [hcs] at hf
  obtain ⟨_, p, hr⟩ := pred_trod _ _ _ _ _ _ _ hf
  exact ⟨cs, (fuel + 1, p), hv, hr⟩
set_option maxRecDepth 100000 in
theorem open_schema {H : Type} {enc : TypeId × Value → H} {w : World} {r : Reach} {b base : Nat} {spare : Nat → Bool} {held : Bool} {v : Value} {d : DataW H} {ps : List MemPlace} (h : Value.okWide Try.prog w r b 37 v) (ht : DataW.Trod enc Try.prog w base spare held 37 v d ps) :
    ∃ cs s, v = .agg (List.toArray cs) ∧ SchemaR w cs s := by
  obtain ⟨cs, hv, hcs⟩ := open_agg Try.underlying37 h
  obtain ⟨fuel, hf⟩ := ht
  rw [hcs] at hf
  obtain ⟨_, s, hr⟩ := opens_schema _ _ _ _ _ _ _ hf
  exact ⟨cs, s, hv, hr⟩
set_option maxRecDepth 100000 in
theorem open_stats {H : Type} {enc : TypeId × Value → H} {w : World} {r : Reach} {b base : Nat} {spare : Nat → Bool} {held : Bool} {v : Value} {d : DataW H} {ps : List MemPlace} (h : Value.okWide Try.prog w r b 50 v) (ht : DataW.Trod enc Try.prog w base spare held 50 v d ps) :
    ∃ a n c xs, v = .slice a n c ∧ Sl 10 StatR w a n xs := by
  obtain ⟨fuel, hf⟩ := ht
  obtain ⟨_, xs, a, n, c, hcs, _, _, _, hs⟩ := opens_slice Try.underlying50 cells_stat (by decide) opens_stat _ _ _ _ _ _ _ hf
  exact ⟨a, n, c, xs, slice_val Try.underlying50 h hcs, hs⟩
set_option maxRecDepth 100000 in
theorem open_rows {H : Type} {enc : TypeId × Value → H} {w : World} {r : Reach} {b base : Nat} {spare : Nat → Bool} {held : Bool} {v : Value} {d : DataW H} {ps : List MemPlace} (h : Value.okWide Try.prog w r b 39 v) (ht : DataW.Trod enc Try.prog w base spare held 39 v d ps) :
    ∃ a n c xs, v = .slice a n c ∧ Sl 1 (SlR 3 CellR) w a n xs := by
  obtain ⟨fuel, hf⟩ := ht
  obtain ⟨_, xs, a, n, c, hcs, _, _, _, hs⟩ := opens_slice Try.underlying39 cells_cellrow (by decide) (opens_slice Try.underlying22 cells_cell (by decide) opens_cell) _ _ _ _ _ _ _ hf
  exact ⟨a, n, c, xs, slice_val Try.underlying39 h hcs, hs⟩
end Go.Proofs.Ytkofaoaglnjkgaa
