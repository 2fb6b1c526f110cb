/- What holds of every state that events lead to, as plain data. -/
import Derived.Test.YtlclhinianamhaaEvRowsm
namespace Go.Proofs.Ytlclhinianamhaa
open Go.RowKit Go.Deep
set_option linter.unusedVariables false
set_option linter.unusedSimpArgs false

theorem firstBad_zero {g : Nat → Int} : ∀ {n : Nat}, (∀ k, k < n → g k = 0) → firstBad g n = 0
  | 0, _ => rfl
  | n + 1, h => firstBad_next (firstBad_zero fun k hk => h k (by omega)) (h n (Nat.lt_succ_self _))
structure EventOK (e : EventD) : Prop where
  cells : ∀ c ∈ e.row, CellB c
  key : CellB e.key
  off : e.offset < 2 ^ 64
theorem EventR.ok {w : World} {ecs : List Value} {e : EventD} (h : EventR w ecs e) : EventOK e := by
  obtain ⟨a, n, c, rfl, _, _, _, hs, ho, _, hk, _⟩ := h
  exact ⟨hs.cellsB, hk, ho⟩
structure RowOK (s : SchemaD) (r : List CellD) : Prop where
  len : r.length = s.fields.length
  good : ∀ c ∈ r, CellB c ∧ fix c = c
  fit : fitE s r = 0
structure StOK (x : StD) : Prop where
  chk : schemaChk x.s = 0
  rises : RisesK x.l
  rows : ∀ r ∈ x.l, RowOK x.s r
  few : x.l.length ≤ x.off
  off : x.off < 2 ^ 64
  id : x.s.id < 2 ^ 32
theorem StOK.start {s : SchemaD} (h : schemaChk s = 0) (hi : s.id < 2 ^ 32) : StOK ⟨s, [], 0⟩ := ⟨h, List.Pairwise.nil, (fun r hr => by cases hr), Nat.le_refl _, by simp, hi⟩
theorem StOK.fields {x : StD} (h : StOK x) : 1 ≤ x.s.fields.length ∧ x.s.fields.length ≤ 8 := schemaChk_len h.chk
theorem StOK.lens {x : StD} (h : StOK x) : ∀ r ∈ x.l, 1 ≤ r.length ∧ r.length ≤ 1000 := fun r hr => by
  have h1 := (h.rows r hr).len
  have h2 := h.fields
  omega
theorem putAux_true {k : CellD} {r : List CellD} : ∀ {xs : List (List CellD)}, (∀ y ∈ xs, LessC k (keyOf y)) → putAux k keyOf r true xs = xs
  | [], _ => rfl
  | q :: qs, h => by
    have h0 : cmpC k (keyOf q) = -1 := cmpC_less (h q (by simp))
    rw [putAux, if_neg (by simp), if_pos (by rw [h0]; decide)]
    have := putAux_true (k := k) (r := r) (xs := qs) (fun y hy => h y (by simp [hy]))
    simp [this]
theorem putAux_rises {r : List CellD} : ∀ {xs : List (List CellD)}, RisesK xs → RisesK (putAux (keyOf r) keyOf r false xs)
  | [], _ => by simp [putAux, RisesK]
  | q :: qs, h => by
    obtain ⟨h1, h2⟩ := List.pairwise_cons.1 h
    by_cases hl : LessC (keyOf r) (keyOf q)
    · have h0 : cmpC (keyOf r) (keyOf q) = -1 := cmpC_less hl
      have h3 := putAux_true (k := keyOf r) (r := r) (xs := qs) (fun y hy => hl.trans (h1 y hy))
      rw [putAux, h0]
      simp [h3]
      exact List.pairwise_cons.2 ⟨fun y hy => by
        rcases List.mem_cons.1 hy with rfl | hy
        · exact hl
        · exact hl.trans (h1 y hy), h⟩
    · by_cases hm : LessC (keyOf q) (keyOf r)
      · have h0 : cmpC (keyOf r) (keyOf q) = 1 := cmpC_more hm
        rw [putAux, h0]
        simp
        refine List.pairwise_cons.2 ⟨fun y hy => ?_, putAux_rises h2⟩
        rcases putAux_mem hy with rfl | hy
        · exact hm
        · exact h1 y hy
      · have he := LessC.tri hl hm
        have h0 : cmpC (keyOf r) (keyOf q) = 0 := (cmpC_zero _ _).2 he
        have h3 := putAux_true (k := keyOf r) (r := r) (xs := qs) (fun y hy => by rw [he]; exact h1 y hy)
        rw [putAux, h0]
        simp [h3]
        exact List.pairwise_cons.2 ⟨fun y hy => by rw [he]; exact h1 y hy, h2⟩
theorem putL_len (r : List CellD) (l : List (List CellD)) : (putL r l).length ≤ l.length + 1 := by
  have h := (putL_perm r l).length_eq
  rw [List.length_cons] at h
  have := List.length_filter_le (fun q => decide (cmpC (keyOf q) (keyOf r) ≠ 0)) l
  omega
theorem keyOf_snoc {r : List CellD} (h : 1 ≤ r.length) (z : CellD) : keyOf (r ++ [z]) = keyOf r := by
  cases r with
  | nil => simp at h
  | cons a t => rfl
theorem fit_snoc {s : SchemaD} {r : List CellD} {f : FieldD} {i : Nat} (h : fitE s r = 0) (hf : f.need = false) : fitE ⟨i, s.fields ++ [f]⟩ (r ++ [zeroCell]) = 0 := by
  unfold fitE at h ⊢
  by_cases hl : r.length = s.fields.length
  · rw [if_neg (by simp [hl])] at h
    rw [if_neg (by simp [hl])]
    refine firstBad_zero fun k hk => ?_
    rw [List.length_append, List.length_singleton] at hk
    have h0 := fun k hk => firstBad_all h k hk
    by_cases hk' : k < r.length
    · have := h0 k hk'
      unfold fitAt at this ⊢
      rw [List.getElem?_append_left (by omega), List.getElem?_append_left hk']
      exact this
    · have : k = r.length := by omega
      subst this
      unfold fitAt
      rw [List.getElem?_append_right (by omega), List.getElem?_append_right (Nat.le_refl _), hl]
      simp [fitOf, hf, zeroCell]
  · rw [if_pos hl] at h
    exact absurd h (by decide)
theorem hasB_false {fs : List FieldD} {n : Nat} {name : ByteArray} (h : hasB fs n name = false) : ∀ j f, j < n → fs[j]? = some f → f.name ≠ name := fun j f hj hf e => by
  rw [hasB_hit hf hj e] at h
  cases h
theorem hasB_append (fs : List FieldD) (g : FieldD) {k : Nat} (hk : k ≤ fs.length) (name : ByteArray) : hasB (fs ++ [g]) k name = hasB fs k name := by
  unfold hasB
  apply Bool.eq_iff_iff.2
  rw [List.any_eq_true, List.any_eq_true]
  constructor
  · rintro ⟨j, hj, h⟩
    have hjl : j < fs.length := by have := List.mem_range.1 hj; omega
    exact ⟨j, hj, by rw [List.getElem?_append_left hjl] at h; exact h⟩
  · rintro ⟨j, hj, h⟩
    have hjl : j < fs.length := by have := List.mem_range.1 hj; omega
    exact ⟨j, hj, by rw [List.getElem?_append_left hjl]; exact h⟩
theorem fieldChk_append (fs : List FieldD) (g : FieldD) {k : Nat} (hk : k < fs.length) : fieldChk (fs ++ [g]) k = fieldChk fs k := by
  have hh : ∀ name, hasB (fs ++ [g]) k name = hasB fs k name := fun name => hasB_append fs g (Nat.le_of_lt hk) name
  have hp : (fs ++ [g])[k - 1]? = fs[k - 1]? := List.getElem?_append_left (by omega)
  unfold fieldChk
  rw [List.getElem?_append_left hk]
  simp only [hh, hp]
theorem chk_wide {s : SchemaD} {name : ByteArray} {k : Nat} (h : addE s name (k : Int) = 0) : schemaChk (addS s name (k : Int)) = 0 ∧ (addS s name (k : Int)) = ⟨s.id + 1, s.fields ++ [⟨lastId s + 1, name, k, false⟩]⟩ := by
  have he : addS s name (k : Int) = ⟨s.id + 1, s.fields ++ [⟨lastId s + 1, name, k, false⟩]⟩ := by unfold addS; rw [if_pos h]; simp
  refine ⟨?_, he⟩
  rw [he]
  unfold addE at h
  by_cases hc : schemaChk s = 0
  · obtain ⟨hl1, hl8⟩ := schemaChk_len hc
    rw [if_neg (by rw [hc]; simp)] at h
    split at h
    · exact absurd h (by decide)
    · rename_i h1
      split at h
      · exact absurd h (by decide)
      · rename_i h2
        split at h
        · exact absurd h (by decide)
        · rename_i h3
          split at h
          · exact absurd h (by decide)
          · rename_i h4
            split at h
            · exact absurd h (by decide)
            · rename_i h5
              have hn : namedB name = true := by cases hq : namedB name; exact absurd hq h2; rfl
              unfold schemaChk at hc ⊢
              split at hc
              · exact absurd hc (by decide)
              · rw [if_neg (by simp; omega)]
                have h0 := fun k hk => firstBad_all hc k hk
                refine firstBad_zero fun j hj => ?_
                simp only [List.length_append, List.length_singleton] at hj
                by_cases hjl : j < s.fields.length
                · simp only []
                  rw [fieldChk_append _ _ hjl]
                  exact h0 j hjl
                · have hje : j = s.fields.length := by omega
                  subst hje
                  unfold fieldChk
                  simp only []
                  rw [List.getElem?_append_right (Nat.le_refl _), Nat.sub_self]
                  simp only [List.getElem?_cons_zero]
                  rw [hasB_append _ _ (Nat.le_refl _)]
                  have hlast : (((s.fields ++ [(⟨lastId s + 1, name, k, false⟩ : FieldD)])[s.fields.length - 1]?).map FieldD.id).getD 0 = lastId s := by
                    rw [List.getElem?_append_left (by omega)]; rfl
                  rw [hlast]
                  have hh : hasB s.fields s.fields.length name = false := by cases hq : hasB s.fields s.fields.length name; rfl; exact absurd hq h3
                  have hne : s.fields ≠ [] := fun e => by rw [e] at hl1; simp at hl1
                  simp [hn, hh, hne]
                  rw [if_neg (by omega), if_neg (by omega), if_neg (by omega)]
  · rw [if_pos hc] at h
    exact absurd h hc
theorem doS_ok {x : StD} {e : EventD} (hx : StOK x) (he : EventOK e) (hd : doE x e = 0) : StOK (doS x e) ∧ (doS x e).off = x.off + 1 := by
  have hdd : ∃ h : True, doE x e = 0 := ⟨trivial, hd⟩
  have h3 : x.off ≠ 18446744073709551615 ∧ e.offset = x.off + 1 ∧ checkE x.s e = 0 := doE_ok hd
  obtain ⟨hm, ho, hc⟩ := h3
  obtain ⟨hs, ho1, ho3, _⟩ := checkE_op hc
  have hoff : e.offset < 2 ^ 64 := he.off
  have hfl := hx.fields
  unfold doS
  rw [if_neg (by rw [hd]; simp)]
  by_cases h1 : e.op = 1
  · rw [if_pos h1]
    obtain ⟨hl1, hf⟩ := put_len hc h1
    have hrow : RowOK x.s (e.row.map fix) := ⟨by
      unfold fitE at hf
      split at hf
      · exact absurd hf (by decide)
      · rename_i h; exact Classical.not_not.1 h, fun c hc => by
      obtain ⟨d, hd, rfl⟩ := List.mem_map.1 hc
      exact ⟨fix_B (he.cells d hd), fix_fix d⟩, hf⟩
    refine ⟨⟨hx.chk, putAux_rises hx.rises, fun r hr => ?_, ?_, hoff, hx.id⟩, ho⟩
    · rcases putAux_mem hr with rfl | hr
      · exact hrow
      · exact hx.rows r hr
    · have := putL_len (e.row.map fix) x.l
      have := hx.few
      simp only []
      omega
  · rw [if_neg h1]
    by_cases h2 : e.op = 2
    · rw [if_pos h2]
      refine ⟨⟨hx.chk, hx.rises.filter _, fun r hr => hx.rows r (List.mem_filter.1 hr).1, ?_, hoff, hx.id⟩, ho⟩
      have := List.length_filter_le (fun r => decide (cmpC (keyOf r) (fix e.key) ≠ 0)) x.l
      have := hx.few
      simp only [delL]
      omega
    · rw [if_neg h2]
      have hae := wide_ok hc (by omega)
      obtain ⟨hck, hse⟩ := chk_wide hae
      have hid : x.s.id ≠ 4294967295 := by
        unfold addE at hae
        rw [if_neg (by rw [hx.chk]; simp)] at hae
        split at hae
        · exact absurd hae (by decide)
        · rename_i h; omega
      have := hx.id
      refine ⟨⟨hck, ?_, fun r hr => ?_, ?_, hoff, ?_⟩, ho⟩
      · show RisesK (wideL x.l)
        unfold wideL RisesK
        rw [List.pairwise_map]
        refine List.Pairwise.imp_of_mem ?_ hx.rises
        intro a b ha hb h
        rw [keyOf_snoc (hx.lens a ha).1, keyOf_snoc (hx.lens b hb).1]
        exact h
      · obtain ⟨q, hq, rfl⟩ := List.mem_map.1 hr
        have hq' := hx.rows q hq
        refine ⟨?_, fun c hc => ?_, ?_⟩
        · simp only [hse, List.length_append, List.length_singleton]; rw [hq'.len]
        · rcases List.mem_append.1 hc with hc | hc
          · exact hq'.good c hc
          · simp at hc
            subst hc
            exact ⟨⟨by show (0 : Nat) ≤ maxLen; omega, by simp [zeroCell], by simp [zeroCell]⟩, by kernel_rfl⟩
        · simp only [hse]
          exact fit_snoc hq'.fit rfl
      · have := hx.few
        simp only [wideL, List.length_map]
        omega
      · simp only [hse]; omega
end Go.Proofs.Ytlclhinianamhaa
