/- Words for slices of numbers, used by all walks of this seat. -/
import Derived.WalkKit
import Derived.Laws.BytesArg
import Derived.Laws.IdiomStrings
import Derived.Lib.Hide
import Derived.Deep.Draws
namespace Go.Proofs.Ytfcejeopfodeoaa
open Go.RowKit

theorem getD_mem (l : List Nat) (i : Nat) (h : i < l.length) : l.getD i 0 ∈ l := by
  have : l.getD i 0 = l[i] := by simp [List.getD, h]
  rw [this]; exact List.getElem_mem _

/-- A slice value that reads as the numbers xs of kind k. -/
def Nums (k : IntKind) (w : World) (a : Option Addr) (n : Nat) (xs : List Nat) : Prop :=
  xs.length = n ∧ (0 < n → ∃ b off, a = some ⟨b, off, none⟩ ∧ b < w.heap.size ∧ ∀ i, i < n → w.cell? ⟨b, off + i, none⟩ = some (.int k ((xs.getD i 0 : Nat) : Int)))

theorem Nums.below {k : IntKind} {w w' : World} {a : Option Addr} {n : Nat} {xs : List Nat} (h : Nums k w a n xs) (hb : Below w.heap.size w w') : Nums k w' a n xs := by
  refine ⟨h.1, fun hn => ?_⟩
  obtain ⟨b, off, rfl, hlt, hc⟩ := h.2 hn
  refine ⟨b, off, rfl, Nat.lt_of_lt_of_le hlt hb.size, fun i hi => ?_⟩
  rw [← hc i hi]
  exact hb.cell (p := ⟨b, off + i, none⟩) hlt

/-- A row of numbers of the call's own: block g, from B on, may be written. -/
def Own (B : Nat) (k : IntKind) (w : World) (g : Nat) (n : Nat) (xs : List Nat) : Prop :=
  B ≤ g ∧ g < w.heap.size ∧ xs.length = n ∧ ∀ i, i < n → w.cell? ⟨g, i, none⟩ = some (.int k ((xs.getD i 0 : Nat) : Int)) ∧ w.frozen? ⟨g, i, none⟩ = false

theorem Own.drew {B : Nat} {k : IntKind} {w : World} {g n : Nat} {xs : List Nat} (h : Own B k w g n xs) : Own B k w.drew g n xs := h
theorem Own.nums {B : Nat} {k : IntKind} {w : World} {g n : Nat} {xs : List Nat} (h : Own B k w g n xs) : Nums k w (some ⟨g, 0, none⟩) n xs :=
  ⟨h.2.2.1, fun _ => ⟨g, 0, rfl, h.2.1, fun i hi => by simpa using (h.2.2.2 i hi).1⟩⟩
theorem Own.set {B : Nat} {k : IntKind} {w : World} {g n : Nat} {xs : List Nat} (h : Own B k w g n xs) (j v : Nat) (hj : j < n) :
    Own B k (w.setCell ⟨g, j, none⟩ (.int k (v : Int))) g n (xs.set j v) := by
  obtain ⟨h1, h2, h3, h4⟩ := h
  refine ⟨h1, by simpa [World.setCell] using h2, by simpa using h3, fun i hi => ?_⟩
  have h5 := h4 i hi
  have h6 := h4 j hj
  have hf : (w.setCell ⟨g, j, none⟩ (.int k (v : Int))).frozen? ⟨g, i, none⟩ = w.frozen? ⟨g, i, none⟩ := by simp
  rw [hf]
  refine ⟨?_, h5.2⟩
  by_cases e : j = i
  · subst e
    rw [World.cell?_setCell_same _ _ _ h6.1]
    simp [List.getD, h3, hi]
  · rw [World.cell?_setCell_other _ _ _ _ (by intro hc; injection hc; omega), h5.1]
    simp [List.getD, e]
theorem Own.below {B : Nat} {k : IntKind} {w w' : World} {g n : Nat} {xs : List Nat} (h : Own B k w g n xs) (hb : Below w.heap.size w w') : Own B k w' g n xs := by
  obtain ⟨h1, h2, h3, h4⟩ := h
  refine ⟨h1, Nat.lt_of_lt_of_le h2 hb.size, h3, fun i hi => ?_⟩
  rw [← (h4 i hi).1, ← (h4 i hi).2]
  exact ⟨hb.cell (p := ⟨g, i, none⟩) h2, hb.frozen (p := ⟨g, i, none⟩) h2⟩

/-- Numbers as values. -/
def numsV (k : IntKind) (xs : List Nat) : List Value := xs.map fun x : Nat => Value.int k (x : Int)
theorem numsV_length (k : IntKind) (xs : List Nat) : (numsV k xs).length = xs.length := by simp [numsV]
theorem numsV_snoc (k : IntKind) (xs : List Nat) (x : Nat) : numsV k xs ++ [Value.int k (x : Int)] = numsV k (xs ++ [x]) := by simp [numsV]
theorem numsV_set (k : IntKind) (xs : List Nat) (i x : Nat) : (numsV k xs).set i (Value.int k (x : Int)) = numsV k (xs.set i x) := by simp [numsV]
theorem numsV_get (k : IntKind) (xs : List Nat) (i : Nat) (h : i < xs.length) : (numsV k xs)[i]? = some (Value.int k ((xs.getD i 0 : Nat) : Int)) := by simp [numsV, h]
theorem Nums.of_own {w : World} {B e c n : Nat} {k : IntKind} {a : Option Addr} {xs : List Nat} (h : w.ownsRow B e 1 (.slice a n c) n (numsV k xs)) : Nums k w a n xs := by
  have hl : xs.length = n := by have := h.1; rw [numsV_length] at this; omega
  refine ⟨hl, fun hn => ?_⟩
  rcases h.2 with ⟨_, h0⟩ | ⟨g, cap, cur, hv, hb, hg, _⟩
  · omega
  · simp only [Value.slice.injEq] at hv
    obtain ⟨rfl, _, rfl⟩ := hv
    refine ⟨g, 0, rfl, ?_, fun i hi => ?_⟩
    · rcases Nat.lt_or_ge g w.heap.size with hlt | hge
      · exact hlt
      · rw [Array.getElem?_eq_none hge] at hg; cases hg
    · rw [Nat.zero_add, h.cellAt i (by omega), numsV_get _ _ _ (by omega)]

theorem below_append {w w1 wr : World} {e n size : Nat} {v : Value} {xs : List Value} {o : Obj} (hown : wr.ownsRow w.heap.size e size v n xs) (hb : Below w.heap.size w wr) (hg : (wr.alloc o).grownBy w1 v.ownBlock) : Below w.heap.size w w1 :=
  (hb.alloc hb.size o).grown hg (by simp; exact Nat.le_succ_of_le hb.size) (fun k hk => (hown.lt k hk).1)
theorem row_facts {w : World} {B e g cap n j : Nat} {k : IntKind} {xs : List Nat} (h : w.ownsRow B e 1 (.slice (some ⟨g, 0, none⟩) n cap) n (numsV k xs)) (hj : j < n) :
    w.cell? ⟨g, j, none⟩ = some (.int k ((xs.getD j 0 : Nat) : Int)) ∧ w.frozen? ⟨g, j, none⟩ = false := by
  have hl : xs.length = n := by have := h.1; rw [numsV_length] at this; omega
  exact ⟨by rw [h.cellAt j (by omega), numsV_get _ _ _ (by omega)], h.frozenAt j⟩
theorem row_snoc {w : World} {B e n : Nat} {v : Value} {k : IntKind} {xs : List Nat} {x : Int} (h : w.ownsRow B e 1 v n (numsV k xs ++ [Value.int k x])) (hx : 0 ≤ x) : w.ownsRow B e 1 v n (numsV k (xs ++ [x.toNat])) := by
  rw [← numsV_snoc, Int.toNat_of_nonneg hx]; exact h

/-- Bytes as a string. -/
def strB (bs : List Nat) : ByteArray := ⟨(bs.map UInt8.ofNat).toArray⟩
theorem conv_bytes {P : Program} {w : World} {a : Option Addr} {n c : Nat} {bs : List Nat} (h : Nums .u8 w a n bs) (hb : ∀ b ∈ bs, b < 256) (src dst e : TypeId) (hs : P.underlying src = some (.slice e)) (he : P.underlying e = some (.int .u8)) (hd : P.underlying dst = some .string) :
    (convert src dst (.slice a n c)).run P w = .ok (.string (strB bs)) w := by
  have hl := h.1
  subst hl
  have hlm : (bs.map UInt8.ofNat).length = bs.length := List.length_map _
  cases a with
  | none =>
    have : bs.length = 0 := by
      rcases Nat.eq_zero_or_pos bs.length with h0 | h0
      · exact h0
      · obtain ⟨_, _, e, _⟩ := h.2 h0; cases e
    have hbs : bs = [] := List.eq_nil_of_length_eq_zero this
    subst hbs
    exact run_convert_bytes_nil w src e hs he _ _ dst hd
  | some x =>
    have := run_convert_bytes_back (P := P) w src dst e x c (bs.map UInt8.ofNat) hs he hd (fun j hj => by
      rw [hlm] at hj
      obtain ⟨b, off, e, _, hc⟩ := h.2 (by omega)
      cases e
      have hplain : (⟨b, off, none⟩ : Addr).add j = ⟨b, off + j, none⟩ := by unfold Addr.add; split <;> simp_all
      rw [hplain, hc j hj]
      have hbj := hb bs[j] (List.getElem_mem _)
      simp [List.getD, hj, UInt8.toNat_ofNat', Nat.mod_eq_of_lt hbj])
    rw [hlm] at this
    exact this
/-- A slice that a literal lays. -/
theorem Nums.lit (k : IntKind) (w : World) (t : TypeId) (xs : List Nat) (n : Nat) (hn : xs.length = n) (cs : Array Value) (hc : cs = (numsV k xs).toArray) (B : Nat) (hB : B = w.heap.size) : Nums k (w.alloc (.cells cs t)) (some ⟨B, 0, none⟩) n xs := by
  subst hc
  subst hB
  refine ⟨hn, fun _ => ⟨w.heap.size, 0, rfl, by simp, fun i hi => ?_⟩⟩
  rw [Nat.zero_add, World.cell?_alloc_new]
  simpa using numsV_get k xs i (by omega)

theorem Nums.alloc {k : IntKind} {w : World} {a : Option Addr} {n : Nat} {xs : List Nat} (h : Nums k w a n xs) (o : Obj) : Nums k (w.alloc o) a n xs := h.below ((Below.refl _ _).alloc (Nat.le_refl _) _)
theorem Nums.drewN {k : IntKind} {w : World} {a : Option Addr} {n : Nat} {xs : List Nat} (h : Nums k w a n xs) (q : Nat) : Nums k (w.drewN q) a n xs := h
theorem below_drewN {B : Nat} {a w : World} (h : Below B a w) (n : Nat) : Below B a (w.drewN n) := ⟨h.os, h.tape, h.output, h.size, h.block⟩

end Go.Proofs.Ytfcejeopfodeoaa
