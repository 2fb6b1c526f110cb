/- The closed probe of chapter 18 says true. -/
import Derived.Test.YtlcolgibabibdaaTravel7
import Derived.Test.YtlcolgibabibdaaTravel3
namespace Go.Proofs.Ytlcolgibabibdaa
open Go.RowKit Go.Deep
set_option linter.unusedVariables false

theorem FoundPost.at_ {sel : SnapD → Nat} {most : Nat} {xs : List SnapD} {w w' : World} {e : Ending} {m : Nat} {s : SnapD} (h : FoundPost sel most xs w e w') (hb : Best sel most xs xs.length (m : Int)) (hs : xs[m]? = some s) :
    Below w.heap.size w w' ∧ ∃ v, w'.ownsRow w.heap.size 9 1 v s.mans.length (strsV s.mans) ∧
      e = .returned (.tuple #[.agg #[.int .u64 s.id, .int .u64 s.parent, .int .u64 s.seq, .int .u64 s.offset, .int .u64 s.time, .int .u32 s.schema, v], .int .i64 0]) := by
  obtain ⟨hbel, ⟨hn, rfl⟩ | ⟨m', s', v, hb', hs', hown, rfl⟩⟩ := h
  · have := hb.unique hn; omega
  · have := hb.unique hb'
    obtain rfl : m = m' := by omega
    rw [hs] at hs'; cases hs'
    exact ⟨hbel, v, hown, rfl⟩
theorem FoundPost.none_ {sel : SnapD → Nat} {most : Nat} {xs : List SnapD} {w w' : World} {e : Ending} (h : FoundPost sel most xs w e w') (hb : Best sel most xs xs.length (-1)) :
    Below w.heap.size w w' ∧ e = .returned (.tuple #[.agg #[.int .u64 0, .int .u64 0, .int .u64 0, .int .u64 0, .int .u64 0, .int .u32 0, .slice none 0 0], .int .i64 2]) := by
  obtain ⟨hbel, ⟨hn, rfl⟩ | ⟨m', s', v, hb', hs', hown, rfl⟩⟩ := h
  · exact ⟨hbel, rfl⟩
  · have := hb.unique hb'; omega

def exSnaps : List SnapD := [⟨1, 0, 0, 5, 1, 0, []⟩, ⟨2, 1, 0, 9, 3, 0, []⟩, ⟨3, 2, 0, 9, 4, 0, []⟩]
def exTable : TableD := ⟨[], exSnaps, 0⟩
theorem ex_fine : TableFine exTable := by
  refine ⟨by decide, by decide, fun s hs => absurd hs List.not_mem_nil, fun s hs => ?_⟩
  simp [exTable, exSnaps] at hs
  rcases hs with rfl | rfl | rfl <;> exact ⟨by decide, fun m hm => absurd hm List.not_mem_nil⟩
theorem best_check {sel : SnapD → Nat} {most m : Nat} {x : SnapD} (hm : m < 3) (hx : exSnaps[m]? = some x) (hle : sel x ≤ most)
    (h : ∀ j : Fin 3, sel (exSnaps[j.val]'j.isLt) ≤ most → sel (exSnaps[j.val]'j.isLt) ≤ sel x ∧ (sel (exSnaps[j.val]'j.isLt) = sel x → j.val ≤ m)) : Best sel most exSnaps exSnaps.length (m : Int) := by
  refine .inr ⟨m, x, rfl, hm, hx, hle, fun j y hj hy hyl => ?_⟩
  obtain ⟨hj', rfl⟩ := List.getElem?_eq_some_iff.mp hy
  exact h ⟨j, hj⟩ hyl
theorem ex_at8 : Best SnapD.offset 8 exSnaps exSnaps.length ((0 : Nat) : Int) := best_check (x := ⟨1, 0, 0, 5, 1, 0, []⟩) (by decide) rfl (by decide) (by decide)
theorem ex_at9 : Best SnapD.offset 9 exSnaps exSnaps.length ((2 : Nat) : Int) := best_check (x := ⟨3, 2, 0, 9, 4, 0, []⟩) (by decide) rfl (by decide) (by decide)
theorem ex_when3 : Best SnapD.time 3 exSnaps exSnaps.length ((1 : Nat) : Int) := best_check (x := ⟨2, 1, 0, 9, 3, 0, []⟩) (by decide) rfl (by decide) (by decide)
theorem ex_at4 : Best SnapD.offset 4 exSnaps exSnaps.length (-1) := by
  refine .inl ⟨rfl, fun j y hj hy => ?_⟩
  obtain ⟨hj', rfl⟩ := List.getElem?_eq_some_iff.mp hy
  have : ∀ j : Fin 3, 4 < (exSnaps[j.val]'j.isLt).offset := by decide
  exact this ⟨j, hj⟩
theorem ex_chain : chain exSnaps 3 = [3, 2, 1] := by decide
theorem ex_between : between 5 9 exSnaps = [2, 3] := by decide
def exCells : Array Value := #[.int .u64 1, .int .u64 0, .int .u64 0, .int .u64 5, .int .u64 1, .int .u32 0, .slice none 0 0,
  .int .u64 2, .int .u64 1, .int .u64 0, .int .u64 9, .int .u64 3, .int .u32 0, .slice none 0 0,
  .int .u64 3, .int .u64 2, .int .u64 0, .int .u64 9, .int .u64 4, .int .u32 0, .slice none 0 0]
theorem ex_sl (w : World) (t : TypeId) : Sl 7 SnapR (w.alloc (.cells exCells t)) (some ⟨w.heap.size, 0, none⟩) 3 exSnaps := by
  refine ⟨rfl, fun _ => ⟨w.heap.size, 0, rfl, by simp, fun i x hi => ?_⟩⟩
  have hc : ∀ k v, exCells[k]? = some v → (w.alloc (.cells exCells t)).cell? ⟨w.heap.size, k, none⟩ = some v := fun k v h => by rw [World.cell?_alloc_new]; exact h
  have hsn : ∀ s : SnapD, s.mans = [] → s.id < 2 ^ 64 → s.parent < 2 ^ 64 → s.seq < 2 ^ 64 → s.offset < 2 ^ 64 → s.time < 2 ^ 64 → s.schema < 2 ^ 32 → SnapR (w.alloc (.cells exCells t)) [.int .u64 s.id, .int .u64 s.parent, .int .u64 s.seq, .int .u64 s.offset, .int .u64 s.time, .int .u32 s.schema, .slice none 0 0] s := fun s h0 h1 h2 h3 h4 h5 h6 =>
    ⟨none, 0, 0, rfl, Nat.le_refl _, Nat.zero_le _, fun _ => rfl, by rw [h0]; exact Sl.nil_ _ _ _, h1, h2, h3, h4, h5, h6⟩
  have hi3 : i < 3 := by
    rcases Nat.lt_or_ge i 3 with h | h
    · exact h
    · rw [List.getElem?_eq_none (by simpa [exSnaps] using h)] at hi; cases hi
  have h7 : ∀ {l : List Value} {j : Nat} {v : Value}, l.length = 7 → l[j]? = some v → j < 7 := by
    intro l j v hl hj
    rcases Nat.lt_or_ge j 7 with h | h
    · exact h
    · rw [List.getElem?_eq_none (by omega)] at hj; cases hj
  have : i = 0 ∨ i = 1 ∨ i = 2 := by omega
  rcases this with rfl | rfl | rfl
  all_goals
    cases hi
    refine ⟨_, rfl, hsn _ rfl (by decide) (by decide) (by decide) (by decide) (by decide) (by decide), fun j v hj => ?_⟩
    have hj7 := h7 rfl hj
    have : j = 0 ∨ j = 1 ∨ j = 2 ∨ j = 3 ∨ j = 4 ∨ j = 5 ∨ j = 6 := by omega
    rcases this with rfl | rfl | rfl | rfl | rfl | rfl | rfl <;> exact hc _ _ hj

theorem ex_post {sel : SnapD → Nat} {most m : Nat} {s : SnapD} {w w' : World} {e : Ending} (h : FoundPost sel most exTable.snaps w e w') (hb : Best sel most exSnaps exSnaps.length (m : Int)) (hs : exSnaps[m]? = some s) (a1 a2 a3 a4 a5 a6 : Int)
    (h1 : (s.id : Int) = a1) (h2 : (s.parent : Int) = a2) (h3 : (s.seq : Int) = a3) (h4 : (s.offset : Int) = a4) (h5 : (s.time : Int) = a5) (h6 : (s.schema : Int) = a6) :
    Below w.heap.size w w' ∧ ∃ ad c n, e = .returned (.tuple #[.agg #[.int .u64 a1, .int .u64 a2, .int .u64 a3, .int .u64 a4, .int .u64 a5, .int .u32 a6, .slice ad n c], .int .i64 0]) := by
  obtain ⟨hbel, v, hown, rfl⟩ := FoundPost.at_ h hb hs
  obtain ⟨ad, c, rfl, _⟩ := own_slice hown
  exact ⟨hbel, ad, c, _, by rw [h1, h2, h3, h4, h5, h6]⟩

set_option maxRecDepth 100000 in
set_option maxHeartbeats 2000000 in
theorem alive_calls (w : World) :
    Calls Try.prog 8 #[] w (fun e w' => e = .returned (.bool true) ∧ Below w.heap.size w w') := by
  go_enter Try.func8, Try.ntmps8
  go_wp2_with fail
  have hsl := ex_sl w 32
  rw [exCells] at hsl
  have hba : Below w.heap.size w ((w.alloc (.cells exCells 32)).alloc (.cells #[Value.slice none 0 0, Value.slice (some ⟨w.heap.size, 0, none⟩) 3 3, Value.int .u64 0] 26)) := ((Below.refl _ _).alloc (Nat.le_refl _) _).alloc (by simp) _
  have hT : TableR ((w.alloc (.cells exCells 32)).alloc (.cells #[Value.slice none 0 0, Value.slice (some ⟨w.heap.size, 0, none⟩) 3 3, Value.int .u64 0] 26)) [Value.slice none 0 0, Value.slice (some ⟨w.heap.size, 0, none⟩) 3 3, Value.int .u64 0] exTable :=
    ⟨none, 0, 0, _, 3, 3, rfl, Nat.le_refl _, Nat.zero_le _, fun _ => rfl, Sl.nil_ _ _ _, Nat.le_refl _, by decide, (by intro h; cases h), (ex_sl w 32).alloc SnapR.stable _, by decide⟩
  have hc : ∀ (i : Nat) (v : Value), (#[Value.slice none 0 0, Value.slice (some ⟨w.heap.size, 0, none⟩) 3 3, Value.int .u64 0] : Array Value)[i]? = some v → ((w.alloc (.cells exCells 32)).alloc (.cells #[Value.slice none 0 0, Value.slice (some ⟨w.heap.size, 0, none⟩) 3 3, Value.int .u64 0] 26)).cell? ⟨w.heap.size + 1, i, none⟩ = some v := fun i v h => by
    rw [World.cell?_alloc_at _ _ _ _ (by simp)]; exact h
  have hz : ((w.alloc (.cells exCells 32)).alloc (.cells #[Value.slice none 0 0, Value.slice (some ⟨w.heap.size, 0, none⟩) 3 3, Value.int .u64 0] 26)).heap.size = w.heap.size + 2 := by simp
  rw [exCells] at hba hT hc hz
  generalize (w.alloc (.cells _ 32)).alloc (.cells _ 26) = W0 at *
  have c0 := hc 0 _ rfl
  have c1 := hc 1 _ rfl
  have c2 := hc 2 _ rfl
  clear hc hsl
  have HB0 := Lib.hid hba
  have HT0 := Lib.hid hT
  have hz0 : w.heap.size + 2 ≤ W0.heap.size := by omega
  clear hba hT hz
  refine (at_calls _ exTable 8 _ HT0.out ex_fine).mono ?_
  rintro e w1 hp
  obtain ⟨hb1, ad1, cp1, n1, rfl⟩ := ex_post hp ex_at8 rfl 1 0 0 5 1 0 rfl rfl rfl rfl rfl rfl
  have d0 := (hb1.cell (p := ⟨w.heap.size + 1, 0, none⟩) (by show w.heap.size + 1 < _; omega)).trans c0
  have d1 := (hb1.cell (p := ⟨w.heap.size + 1, 1, none⟩) (by show w.heap.size + 1 < _; omega)).trans c1
  have d2 := (hb1.cell (p := ⟨w.heap.size + 1, 2, none⟩) (by show w.heap.size + 1 < _; omega)).trans c2
  have HT1 := Lib.hid (TableR.stable _ _ _ _ hb1 HT0.out)
  have HB1 := Lib.hid (HB0.out.trans (hb1.mono (by omega)))
  have hz1 : w.heap.size + 1 < w1.heap.size := by have := hb1.size; omega
  clear hp hb1 c0 c1 c2
  go_wp2_with fail
  refine (at_calls _ exTable 9 _ (TableR.stable _ _ _ _ ((Below.refl _ _).alloc (Nat.le_refl _) _) HT1.out) ex_fine).mono ?_
  rintro e w2 hp
  obtain ⟨hb2, ad2, cp2, n2, rfl⟩ := ex_post hp ex_at9 rfl 3 2 0 9 4 0 rfl rfl rfl rfl rfl rfl
  have e12 : w2.cell? ⟨w1.heap.size, 0, none⟩ = some (.int .u64 1) := (hb2.cell (p := ⟨w1.heap.size, 0, none⟩) (by simp)).trans (by rw [World.cell?_alloc_new]; rfl)
  have hbb2 : Below w1.heap.size w1 w2 := ((Below.refl _ _).alloc (Nat.le_refl _) _).trans (hb2.mono (by simp))
  have hzz2 : w1.heap.size < w2.heap.size := by have := hb2.size; simp at this; omega
  have d02 := (hbb2.cell (p := ⟨w.heap.size + 1, 0, none⟩) (by show w.heap.size + 1 < _; omega)).trans d0
  have d12 := (hbb2.cell (p := ⟨w.heap.size + 1, 1, none⟩) (by show w.heap.size + 1 < _; omega)).trans d1
  have d22 := (hbb2.cell (p := ⟨w.heap.size + 1, 2, none⟩) (by show w.heap.size + 1 < _; omega)).trans d2
  have HT2 := Lib.hid (TableR.stable _ _ _ _ hbb2 HT1.out)
  have HB2 := Lib.hid (HB1.out.trans (hbb2.mono (by omega)))
  have hz2 : w.heap.size + 1 < w2.heap.size := by omega
  clear hp hb2 hbb2 d0 d1 d2 
  go_wp2_with fail
  refine (at_calls _ exTable 4 _ (TableR.stable _ _ _ _ ((Below.refl _ _).alloc (Nat.le_refl _) _) HT2.out) ex_fine).mono ?_
  rintro e w3 hp
  obtain ⟨hb3, rfl⟩ := FoundPost.none_ hp ex_at4
  have e23 : w3.cell? ⟨w2.heap.size, 0, none⟩ = some (.int .u64 3) := (hb3.cell (p := ⟨w2.heap.size, 0, none⟩) (by simp)).trans (by rw [World.cell?_alloc_new]; rfl)
  have hbb3 : Below w2.heap.size w2 w3 := ((Below.refl _ _).alloc (Nat.le_refl _) _).trans (hb3.mono (by simp))
  have hzz3 : w2.heap.size < w3.heap.size := by have := hb3.size; simp at this; omega
  have e13 := (hbb3.cell (p := ⟨w1.heap.size, 0, none⟩) (by show w1.heap.size < _; omega)).trans e12
  have hz13 : w1.heap.size < w3.heap.size := by omega
  have d03 := (hbb3.cell (p := ⟨w.heap.size + 1, 0, none⟩) (by show w.heap.size + 1 < _; omega)).trans d02
  have d13 := (hbb3.cell (p := ⟨w.heap.size + 1, 1, none⟩) (by show w.heap.size + 1 < _; omega)).trans d12
  have d23 := (hbb3.cell (p := ⟨w.heap.size + 1, 2, none⟩) (by show w.heap.size + 1 < _; omega)).trans d22
  have HT3 := Lib.hid (TableR.stable _ _ _ _ hbb3 HT2.out)
  have HB3 := Lib.hid (HB2.out.trans (hbb3.mono (by omega)))
  have hz3 : w.heap.size + 1 < w3.heap.size := by omega
  clear hp hb3 hbb3 d02 d12 d22 e12
  go_wp2_with fail
  refine (when_calls _ exTable 3 _ (TableR.stable _ _ _ _ ((Below.refl _ _).alloc (Nat.le_refl _) _) HT3.out) ex_fine).mono ?_
  rintro e w4 hp
  obtain ⟨hb4, ad4, cp4, n4, rfl⟩ := ex_post hp ex_when3 rfl 2 1 0 9 3 0 rfl rfl rfl rfl rfl rfl
  have e34 : w4.cell? ⟨w3.heap.size, 0, none⟩ = some (.int .u64 0) := (hb4.cell (p := ⟨w3.heap.size, 0, none⟩) (by simp)).trans (by rw [World.cell?_alloc_new]; rfl)
  have hbb4 : Below w3.heap.size w3 w4 := ((Below.refl _ _).alloc (Nat.le_refl _) _).trans (hb4.mono (by simp))
  have hzz4 : w3.heap.size < w4.heap.size := by have := hb4.size; simp at this; omega
  have e14 := (hbb4.cell (p := ⟨w1.heap.size, 0, none⟩) (by show w1.heap.size < _; omega)).trans e13
  have hz14 : w1.heap.size < w4.heap.size := by omega
  have e24 := (hbb4.cell (p := ⟨w2.heap.size, 0, none⟩) (by show w2.heap.size < _; omega)).trans e23
  have hz24 : w2.heap.size < w4.heap.size := by omega
  have d04 := (hbb4.cell (p := ⟨w.heap.size + 1, 0, none⟩) (by show w.heap.size + 1 < _; omega)).trans d03
  have d14 := (hbb4.cell (p := ⟨w.heap.size + 1, 1, none⟩) (by show w.heap.size + 1 < _; omega)).trans d13
  have d24 := (hbb4.cell (p := ⟨w.heap.size + 1, 2, none⟩) (by show w.heap.size + 1 < _; omega)).trans d23
  have HT4 := Lib.hid (TableR.stable _ _ _ _ hbb4 HT3.out)
  have HB4 := Lib.hid (HB3.out.trans (hbb4.mono (by omega)))
  have hz4 : w.heap.size + 1 < w4.heap.size := by omega
  clear hp hb4 hbb4 d03 d13 d23 e13 e23
  go_wp2_with fail
  refine (chain_calls _ exTable 3 _ (TableR.stable _ _ _ _ ((Below.refl _ _).alloc (Nat.le_refl _) _) HT4.out) (by decide)).mono ?_
  rintro e w5 ⟨v5, rfl, hown5, hb5⟩
  rw [show chain exTable.snaps 3 = [3, 2, 1] from ex_chain] at hown5
  obtain ⟨ad5, cp5, rfl, hcp5, hcq5, _⟩ := own_slice hown5
  have hs5 := sl_of_own_nats hown5
  have hbb5 : Below w4.heap.size w4 w5 := ((Below.refl _ _).alloc (Nat.le_refl _) _).trans (hb5.mono (by simp))
  have HT5 := Lib.hid (TableR.stable _ _ _ _ hbb5 HT4.out)
  have HB5 := Lib.hid (HB4.out.trans (hbb5.mono (by omega)))
  have hz5 : w.heap.size + 1 < w5.heap.size := by have := hbb5.size; omega
  have d05 := (hbb5.cell (p := ⟨w.heap.size + 1, 0, none⟩) (by show w.heap.size + 1 < _; omega)).trans d04
  have d15 := (hbb5.cell (p := ⟨w.heap.size + 1, 1, none⟩) (by show w.heap.size + 1 < _; omega)).trans d14
  have d25 := (hbb5.cell (p := ⟨w.heap.size + 1, 2, none⟩) (by show w.heap.size + 1 < _; omega)).trans d24
  have HS5 := Lib.hid hs5
  clear hown5 hbb5 hb5 hs5 d04 d14 d24
  go_wp2_with fail
  refine (ids_calls _ _ 3 3 _ _ [3, 2, 1] [3, 2, 1] _ (HS5.out.alloc NatR.stable _) (sl_lit_nats .u64 _ _ [3, 2, 1] 3 rfl _ rfl _ rfl) (by decide) (by decide)).mono ?_
  rintro e w6 ⟨rfl, q6, rfl⟩
  go_wp2_with fail
  refine (between_calls _ exTable 5 9 _ (TableR.stable _ _ _ _ (below_drewN ((Below.refl _ _).alloc (Nat.le_refl _) _) q6) HT5.out) (by decide)).mono ?_
  rintro e w7 ⟨v7, rfl, hown7, hb7⟩
  rw [show between 5 9 exTable.snaps = [2, 3] from ex_between] at hown7
  obtain ⟨ad7, cp7, rfl, hcp7, hcq7, _⟩ := own_slice hown7
  have hs7 := sl_of_own_nats hown7
  have HS7 := Lib.hid hs7
  have hbb7 : Below w5.heap.size w5 w7 := (below_drewN ((Below.refl _ _).alloc (Nat.le_refl _) _) q6).trans (hb7.mono (by simp))
  have HB7 := Lib.hid (HB5.out.trans (hbb7.mono (by omega)))
  have hz7 : w.heap.size + 1 < w7.heap.size := by have := hbb7.size; omega
  clear hown7 hbb7 hb7 hs7 d05 d15 d25
  go_wp2_with fail
  refine (ids_calls _ _ 2 2 _ _ [2, 3] [2, 3] _ (HS7.out.alloc NatR.stable _) (sl_lit_nats .u64 _ _ [2, 3] 2 rfl _ rfl _ rfl) (by decide) (by decide)).mono ?_
  rintro e w8 ⟨rfl, q8, rfl⟩
  go_wp2_with fail
  go_ret
  exact ⟨rfl, below_drewN (HB7.out.alloc (by omega) _) q8⟩
end Go.Proofs.Ytlcolgibabibdaa
