/- What predicates say of a row is one of three. What statistics leave: the plain law of PredPrunes. -/
import Derived.Test.YtkildbpfondgcaaPrMayP
import Derived.Test.YtkildbpfondgcaaPrEx
import Derived.Test.YtkildbpfondgcaaPrColumn
namespace Go.Proofs.Ytkildbpfondgcaa
open Go.RowKit Go.Deep
set_option linter.unusedVariables false
set_option linter.unusedSimpArgs false

noncomputable def accE (g : Nat → Nat → Nat) (fs : List FieldD) (row : List CellD) (d : Nat) (b : Nat) (l : List PredD) : Nat := l.foldl (fun n k => g n (evalN fs row d k)) b
theorem accE_succ {g : Nat → Nat → Nat} {fs : List FieldD} {row : List CellD} {d b : Nat} {l : List PredD} {k : Nat} {x : PredD} (h : l[k]? = some x) : accE g fs row d b (l.take (k + 1)) = g (accE g fs row d b (l.take k)) (evalN fs row d x) := by
  unfold accE; rw [List.take_add_one, h, List.foldl_append]; rfl
theorem fits_le (op : Nat) (v x : CellD) : fitsF op v x ≤ 2 := by unfold fitsF; repeat' split
                                                                  all_goals omega
theorem accE_le {g : Nat → Nat → Nat} {fs : List FieldD} {row : List CellD} {d : Nat} (hg : ∀ a b, a ≤ 2 → b ≤ 2 → g a b ≤ 2) (he : ∀ p, evalN fs row d p ≤ 2) : ∀ (l : List PredD) (b : Nat), b ≤ 2 → accE g fs row d b l ≤ 2
  | [], b, hb => hb
  | x :: l, b, hb => accE_le hg he l _ (hg _ _ hb (he x))
theorem evalN_le (fs : List FieldD) (row : List CellD) : ∀ (d : Nat) (p : PredD), evalN fs row d p ≤ 2
  | 0, p => by unfold evalN; omega
  | d + 1, p => by
    have ih := evalN_le fs row d
    unfold evalN
    split
    · exact accE_le (g := min) (fun a b h1 h2 => by omega) ih _ _ (Nat.le_refl _)
    · split
      · exact accE_le (g := max) (fun a b h1 h2 => by omega) ih _ _ (by omega)
      · split
        · split
          · omega
          · omega
        · unfold leafF
          split
          · omega
          · split
            · omega
            · exact fits_le _ _ _
end Go.Proofs.Ytkildbpfondgcaa

namespace Go.Proofs.Ytkildbpfondgcaa
open Go.RowKit Go.Deep
set_option linter.unusedVariables false
set_option linter.unusedSimpArgs false

theorem encode_le4 (n : Int) : (Utf8.encode n).size ≤ 4 := by
  unfold Utf8.encode
  simp only []
  repeat' split
  all_goals exact by show Array.size _ ≤ 4; simp
theorem P_le4 {s : ByteArray} : ∀ {k : Nat}, k ≤ N s → P s k ≤ 4 * k
  | 0, _ => Nat.le_refl _
  | k + 1, h => by
    have h1 := P_le4 (s := s) (k := k) (by omega)
    have h2 := wd_le4 s (P s k) (P_lt (by omega))
    rw [P_succ]; omega
theorem aboveF_size {s : ByteArray} (h : s.size ≤ 64) : (aboveF s 4).1.size ≤ 64 := by
  unfold aboveF
  split
  · exact Nat.zero_le _
  · split
    · exact h
    · rename_i hn
      cases ha : aboveK s (Int.toNat 4) with
      | none => exact Nat.zero_le _
      | some a =>
        have hN : 4 < N s := by omega
        obtain ⟨k, hk, _, e⟩ := aboveK_some (s := s) (m := 4) (by omega) ha
        show a.size ≤ 64
        rw [e, ByteArray.size_append, ByteArray.size_extract]
        have h1 := P_le4 (s := s) (k := k) (by omega)
        have h2 := encode_le4 (nextF (rn s (P s k)) : Nat)
        omega
theorem firstF_size {s : ByteArray} (h : s.size ≤ 64) : (firstF s 4).size ≤ 64 := by
  unfold firstF
  split
  · rw [ByteArray.size_extract]; omega
  · exact h
theorem fix_text {s : ByteArray} (h : s.size ≤ 64) : fix ⟨3, 0, s⟩ = ⟨3, 0, s⟩ := by
  have : chk ⟨3, 0, s⟩ = 0 := by
    unfold chk
    simp
    omega
  unfold fix; rw [if_pos this]
/-- The bounds of good cells are good themselves. -/
theorem stats_fix {l : List CellD} (hg : GoodCol l) : fix (statsF l).min = (statsF l).min ∧ fix (statsF l).max = (statsF l).max := by
  have hst := stInv_all l
  unfold statsF
  simp only []
  by_cases hs : (foldSt l).some = false
  · rw [if_pos hs]; exact ⟨fix_zero, fix_zero⟩
  · rw [if_neg hs]
    have hs : (foldSt l).some = true := by simpa using hs
    have hl := (hst.least hs).1
    have hm := (hst.most hs).1
    by_cases h3 : (foldSt l).least.kind = 3
    · rw [if_pos h3]
      by_cases ho : (foldSt l).ok = true
      · rw [if_pos ho]
        refine ⟨fix_text (firstF_size (hg.size _ hl)), ?_⟩
        show fix (if _ then _ else _) = (if _ then _ else _)
        split
        · exact fix_text (aboveF_size (hg.size _ hm))
        · exact fix_zero
      · rw [if_neg ho]
        exact ⟨fix_text (by decide), fix_zero⟩
    · rw [if_neg h3]
      exact ⟨(hg _ hl).1, (hg _ hm).1⟩
/-- A null that stands in a column is counted. -/
theorem fold_nulls {c : CellD} (hk : c.kind = 0) : ∀ {l : List CellD} {s : StF}, (c ∈ l ∨ 0 < s.nulls) → 0 < (l.foldl StF.step s).nulls
  | [], s, h => by simpa using h
  | x :: l, s, h => by
    rw [List.foldl_cons]
    refine fold_nulls hk ?_
    rcases h with h | h
    · rcases List.mem_cons.1 h with rfl | h
      · right; unfold StF.step; rw [if_pos hk]; exact Nat.succ_pos _
      · exact .inl h
    · right; unfold StF.step; split
      · exact Nat.succ_pos _
      · exact h
theorem nulls_pos {l : List CellD} {c : CellD} (hc : c ∈ l) (hk : c.kind = 0) : 0 < (statsF l).nulls := by
  rw [stats_nulls]
  have : 0 < (foldSt l).nulls := fold_nulls hk (.inl hc)
  omega
theorem some_of {l : List CellD} {c : CellD} (hc : c ∈ l) (hk : c.kind ≠ 0) : (statsF l).some = true := by
  have hst := stInv_all l
  have hs : (foldSt l).some = true := by
    cases h : (foldSt l).some with
    | true => rfl
    | false => exact absurd ((hst.none h).2 c hc) hk
  unfold statsF
  simp only []
  rw [if_neg (by rw [hs]; decide)]
  repeat' split
  all_goals rfl
theorem cmpC_le {a b : CellD} : 0 ≤ cmpC a b ↔ ¬ LessC a b := by
  rw [← cmpC_lt]; omega
/-- A node with a field: what holds of a cell of the column is left. -/
theorem may_sound {l : List CellD} (hg : GoodCol l) {x : CellD} (hx : x ∈ l) (op : Nat) (v : CellD) : (mayF op v (statsF l)).get (fitsF op v x) = true := by
  obtain ⟨hf1, hf2⟩ := stats_fix hg
  by_cases hk : x.kind = 0
  · have hn := nulls_pos hx hk
    unfold mayF fitsF
    by_cases h5 : op = 5
    · simp [h5, hk, B3.get, hn]
    · rw [if_neg h5, if_neg h5, if_pos hk]
      by_cases hs : (statsF l).some = false
      · simp [hs, B3.get, hn]
      · rw [if_neg hs]
        repeat' split
        all_goals simp [B3.get, hn]
  · have hs := some_of hx hk
    have hlow := stats_low hg.col hx hk
    have htop := fun hh => stats_top hg.col hh hx hk
    unfold mayF fitsF
    rw [hf1, hf2]
    generalize statsF l = st at *
    obtain ⟨rw_, nl, sm, hi, mn, mx⟩ := st
    simp only [] at *
    subst hs
    by_cases h5 : op = 5
    · simp [h5, hk, B3.get]
    · rw [if_neg h5, if_neg h5, if_neg hk, if_neg (fun h => by cases h)]
      have hover : ¬ LessC mx x ∨ hi = false := by cases hi; exact .inr rfl; exact .inl (htop rfl)
      by_cases h1 : op = 1
      · rw [if_pos h1, if_pos h1]
        by_cases hc : cmpC x v = 0
        · rw [if_pos hc]
          have e := (cmpC_zero _ _).1 hc
          subst e
          have ha : 0 ≤ cmpC x mn := cmpC_le.2 hlow
          have hb : 0 ≤ (if hi = true then cmpC mx x else 1) := by
            cases hi
            · simp
            · exact cmpC_le.2 (htop rfl)
          simp [B3.get, ha, hb]
        · rw [if_neg hc]
          show (decide (cmpC v mn ≠ 0) || decide ((if hi = true then cmpC mx v else 1) ≠ 0) || _) = true
          by_cases hu : cmpC v mn = 0
          · by_cases ho : (if hi = true then cmpC mx v else 1) = 0
            · exfalso
              cases hi
              · simp at ho
              · rw [if_pos rfl] at ho
                have e1 := (cmpC_zero _ _).1 hu
                have e2 := (cmpC_zero _ _).1 ho
                have e3 := LessC.tri (hlow) (by rw [← e1, ← e2]; exact htop rfl)
                exact hc ((cmpC_zero _ _).2 (e3.trans e1.symm))
            · simp [ho]
          · simp [hu]
      · rw [if_neg h1, if_neg h1]
        by_cases h2 : op = 2
        · rw [if_pos h2, if_pos h2]
          by_cases hc : LessC x v
          · rw [if_pos hc]
            have : 0 < cmpC v mn := (cmpC_pos _ _).2 (by
              by_cases hm : LessC mn x
              · exact hm.trans hc
              · have e := LessC.tri hlow hm
                rw [← e]; exact hc)
            simp [B3.get, this]
          · rw [if_neg hc]
            have : 0 ≤ (if hi = true then cmpC mx v else 1) := by
              cases hi
              · simp
              · rw [if_pos rfl]
                exact cmpC_le.2 (LessC.not_trans (htop rfl) hc)
            simp [B3.get, this]
        · rw [if_neg h2, if_neg h2]
          by_cases h3 : op = 3
          · rw [if_pos h3, if_pos h3]
            by_cases hc : LessC v x
            · rw [if_pos hc]
              have : 0 < (if hi = true then cmpC mx v else 1) := by
                cases hi
                · simp
                · rw [if_pos rfl]
                  refine (cmpC_pos _ _).2 ?_
                  by_cases hm : LessC x mx
                  · exact hc.trans hm
                  · have e := LessC.tri hm (htop rfl)
                    rw [← e]; exact hc
              simp [B3.get, this]
            · rw [if_neg hc]
              have : 0 ≤ cmpC v mn := cmpC_le.2 (LessC.not_trans hc hlow)
              simp [B3.get, this]
          · rw [if_neg h3, if_neg h3]
            by_cases h4 : op = 4
            · rw [if_pos h4, if_pos h4]
              split <;> simp [B3.get]
            · rw [if_neg h4, if_neg h4]
              simp [B3.get]
theorem both_sound {g : Nat → Nat → Nat} {a b : B3} {x y : Nat} (hx : x ≤ 2) (hy : y ≤ 2) (hg : g x y ≤ 2) (ha : a.get x = true) (hb : b.get y = true) : (bothB g a b).get (g x y) = true := by
  have hq : x * 3 + y < 9 := by omega
  have h1 : (x * 3 + y) / 3 = x := by omega
  have h2 : (x * 3 + y) % 3 = y := by omega
  have key : ∀ r, g x y = r → ((List.range 9).any fun q => a.get (q / 3) && b.get (q % 3) && decide (g (q / 3) (q % 3) = r)) = true := fun r hr =>
    List.any_eq_true.2 ⟨x * 3 + y, List.mem_range.2 hq, by rw [h1, h2, ha, hb, hr]; simp⟩
  have h3 : g x y = 0 ∨ g x y = 1 ∨ g x y = 2 := by omega
  unfold bothB partB
  rcases h3 with h3 | h3 | h3 <;> rw [h3] <;> exact key _ h3
/-- Rows that fit a schema's fields in number, of good cells. -/
def GoodRows (n : Nat) (rows : List (List CellD)) : Prop := ∀ r ∈ rows, r.length = n ∧ GoodCol r
def colAt (rows : List (List CellD)) (k : Nat) : List CellD := rows.map fun r => (r[k]?).getD zeroCell
noncomputable def statsAt (n : Nat) (rows : List (List CellD)) : List StatD := (List.range n).map fun k => statsF (colAt rows k)
theorem statsAt_get {n k : Nat} {rows : List (List CellD)} (hk : k < n) : (statsAt n rows)[k]? = some (statsF (colAt rows k)) := by
  unfold statsAt
  rw [List.getElem?_map, List.getElem?_range hk]; rfl
theorem GoodRows.col {n : Nat} {rows : List (List CellD)} (h : GoodRows n rows) {k : Nat} (hk : k < n) : GoodCol (colAt rows k) := by
  intro c hc
  obtain ⟨r, hr, rfl⟩ := List.mem_map.1 hc
  obtain ⟨hl, hg⟩ := h r hr
  rw [List.getElem?_eq_getElem (by omega)]
  exact hg _ (List.getElem_mem _)
theorem leaf_sound {fs : List FieldD} {rows : List (List CellD)} (hg : GoodRows fs.length rows) {r : List CellD} (hr : r ∈ rows) (p : PredD) : (mleafF fs (statsAt fs.length rows) p).get (leafF fs r p) = true := by
  have hl := (hg r hr).1
  have hall : ∀ i, (⟨true, true, true⟩ : B3).get i = true := fun i => by unfold B3.get; simp
  unfold mleafF leafF
  by_cases hp : placeI fs p.field < 0
  · rw [if_pos hp]; exact hall _
  · rw [if_neg hp, if_neg hp]
    generalize (placeI fs p.field).toNat = k
    by_cases hk : k < fs.length
    · rw [statsAt_get hk, List.getElem?_eq_getElem (by omega : k < r.length)]
      refine may_sound (hg.col hk) ?_ _ _
      refine List.mem_map.2 ⟨r, hr, ?_⟩
      rw [List.getElem?_eq_getElem (by omega)]; rfl
    · have : (statsAt fs.length rows)[k]? = none := List.getElem?_eq_none (by unfold statsAt; simp; omega)
      rw [this]; exact hall _
theorem foldl_sound {g : Nat → Nat → Nat} (hgl : ∀ x y, x ≤ 2 → y ≤ 2 → g x y ≤ 2) {e : PredD → Nat} {m : PredD → B3} : ∀ (ps : List PredD) (a : B3) (x : Nat), (∀ p ∈ ps, e p ≤ 2 ∧ (m p).get (e p) = true) → x ≤ 2 → a.get x = true → (ps.foldl (fun n k => bothB g n (m k)) a).get (ps.foldl (fun n k => g n (e k)) x) = true
  | [], a, x, _, _, h => h
  | p :: ps, a, x, hp, hx, h => by
    rw [List.foldl_cons, List.foldl_cons]
    obtain ⟨h1, h2⟩ := hp p List.mem_cons_self
    exact foldl_sound hgl ps _ _ (fun q hq => hp q (List.mem_cons_of_mem _ hq)) (hgl _ _ hx h1) (both_sound hx h1 (hgl _ _ hx h1) h h2)
theorem prunes {fs : List FieldD} {rows : List (List CellD)} (hg : GoodRows fs.length rows) {r : List CellD} (hr : r ∈ rows) : ∀ (d : Nat) (p : PredD), (mayN fs (statsAt fs.length rows) d p).get (evalN fs r d p) = true
  | 0, p => by unfold mayN B3.get; simp
  | d + 1, p => by
    have ih := prunes hg hr d
    have hle : ∀ q, evalN fs r d q ≤ 2 := evalN_le fs r d
    unfold mayN evalN
    by_cases h6 : p.op = 6
    · rw [if_pos h6, if_pos h6]
      exact foldl_sound (fun x y hx hy => by omega) _ _ _ (fun q _ => ⟨hle q, ih q⟩) (by omega) rfl
    · rw [if_neg h6, if_neg h6]
      by_cases h7 : p.op = 7
      · rw [if_pos h7, if_pos h7]
        exact foldl_sound (fun x y hx hy => by omega) _ _ _ (fun q _ => ⟨hle q, ih q⟩) (by omega) rfl
      · rw [if_neg h7, if_neg h7]
        by_cases h8 : p.op = 8
        · rw [if_pos h8, if_pos h8]
          cases p.kids with
          | nil => rfl
          | cons k ks =>
            have h := ih k
            have hk := hle k
            show B3.get ⟨(mayN fs (statsAt fs.length rows) d k).ye, (mayN fs (statsAt fs.length rows) d k).un, (mayN fs (statsAt fs.length rows) d k).no⟩ (2 - evalN fs r d k) = true
            generalize evalN fs r d k = e at *
            generalize mayN fs (statsAt fs.length rows) d k = b at *
            have h3 : e = 0 ∨ e = 1 ∨ e = 2 := by omega
            rcases h3 with rfl | rfl | rfl <;> simpa [B3.get] using h
        · rw [if_neg h8, if_neg h8]
          exact leaf_sound hg hr p
end Go.Proofs.Ytkildbpfondgcaa
