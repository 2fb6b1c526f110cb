/- What EventOwn needs beside the contracts: rows that are written over, a block that is turned, the program's rows beside the reference's. -/
import Derived.Test.YtlclhinianamhaaEvBehind
namespace Go.Proofs.Ytlclhinianamhaa
open Go.RowKit Go.Deep
set_option linter.unusedVariables false
set_option linter.unusedSimpArgs false

theorem own_some {w : World} {B size n : Nat} {e : TypeId} {v : Value} {xs : List Value} (h : w.ownsRow B e size v n xs) (hn : 1 ≤ n) : ∃ g cap, v = .slice (some ⟨g, 0, none⟩) n cap ∧ B ≤ g ∧ g < w.heap.size := by
  have h' := h
  rcases h.2 with ⟨hv, h0⟩ | ⟨g, cap, cur, rfl, hg, rest⟩
  · omega
  · exact ⟨g, cap, rfl, hg, (h'.lt g rfl).2⟩
theorem grown_setE (w : World) (p : Addr) (u : Value) : w.grownBy (w.setCell p u) (some p.block) :=
  ⟨rfl, rfl, rfl, by simp [World.setCell], fun k hk hne => Below.heap_setCell _ _ _ _ (fun e => hne (by rw [e]))⟩
/-- A row of the call's own, whatever it holds. -/
def WRowE (w : World) (B e size : Nat) (v : Value) (n : Nat) : Prop := ∃ xs, w.ownsRow B e size v n xs
theorem WRowE.set {w : World} {B e size n : Nat} {v : Value} (h : WRowE w B e size v n) (g j : Nat) (u : Value) : WRowE (w.setCell ⟨g, j, none⟩ u) B e size v n := by
  obtain ⟨xs, h⟩ := h
  cases hv : v.ownBlock with
  | none => exact ⟨xs, h.kept (grown_setE w ⟨g, j, none⟩ u) (.inl hv)⟩
  | some b =>
    by_cases hb : b = g
    · subst hb
      rcases h.2 with ⟨rfl, _⟩ | ⟨g', cap, cur, rfl, rest⟩
      · simp [Value.ownBlock] at hv
      · simp [Value.ownBlock] at hv
        subst hv
        exact ⟨_, (h.stored j u).1⟩
    · exact ⟨xs, h.kept (grown_setE w ⟨g, j, none⟩ u) (.inr (by rw [hv]; simp; exact hb))⟩
def RowsX (w : World) (B : Nat) (v : Value) (L : List VPair) : Prop :=
  w.ownsRow B 61 1 v L.length (L.map Prod.snd) ∧ ∀ q ∈ L, 1 ≤ q.1.length ∧ WRowE w B 60 1 q.2 q.1.length ∧ ∀ b, q.2.ownBlock = some b → some b ≠ v.ownBlock
theorem RowsX.of {w : World} {B : Nat} {v : Value} {L : List VPair} (h : w.ownsRow B 61 1 v L.length (L.map Prod.snd)) (hr : RowsV w B v L) (hl : ∀ q ∈ L, 1 ≤ q.1.length) : RowsX w B v L :=
  ⟨h, fun q hq => ⟨hl q hq, ⟨_, (hr q hq).1⟩, fun b hb e => (hr q hq).2 b hb e.symm⟩⟩
theorem RowsX.set {w : World} {B : Nat} {v : Value} {L : List VPair} (h : RowsX w B v L) {g : Nat} (hne : some g ≠ v.ownBlock) (j : Nat) (u : Value) : RowsX (w.setCell ⟨g, j, none⟩ u) B v L := by
  refine ⟨h.1.kept (grown_setE w ⟨g, j, none⟩ u) ?_, fun q hq => by obtain ⟨h0, h1, h2⟩ := h.2 q hq; exact ⟨h0, h1.set g j u, h2⟩⟩
  cases hv : v.ownBlock with
  | none => exact .inl rfl
  | some b => exact .inr (by rw [hv] at hne; exact fun e => hne (by simpa using e.symm))
theorem lit_at {w : World} {B b : Nat} {e : TypeId} (hb : b = w.heap.size) (hB : B ≤ b) : (w.alloc (.cells #[] e)).ownsRow B e 4 (.slice (some ⟨b, 0, none⟩) 0 0) 0 [] := by
  subst hb
  exact own_leE (World.ownsRow_lit w #[] 0 (by simp) (by decide) rfl) hB
theorem own_ne_box {w : World} {B g n c pb : Nat} {fs : List FieldD} (h : w.ownsRow B 59 4 (.slice (some ⟨g, 0, none⟩) n c) n (fs.flatMap fldV)) (hn : 1 ≤ n) (hx : Box w pb #[.int .u32 0, .slice none 0 0]) : g ≠ pb := by
  rintro rfl
  obtain ⟨fd, fds, rfl⟩ : ∃ fd fds, fs = fd :: fds := by
    cases hq : fs with
    | nil => have := h.1; rw [hq] at this; simp at this; omega
    | cons x y => exact ⟨x, y, rfl⟩
  have h1 : w.cell? ⟨g, 1, none⟩ = some (.string fd.name) := by rw [h.cellAt 1 (by omega)]; rfl
  have h2 := hx.cell 1 rfl
  rw [h1] at h2
  cases h2
theorem box_two {w : World} {pb B g n c i : Nat} {fs : List FieldD} {w3 : World} (ho : w.ownsRow B 59 4 (.slice (some ⟨g, 0, none⟩) n c) n (fs.flatMap fldV)) (hn : 1 ≤ n) (hx : Box w pb #[.int .u32 0, .slice none 0 0]) (hB : B ≤ pb) (hb : Below B w3 w) :
    ∃ (p' g' cap : Nat), Value.pointer (some ⟨pb, 0, none⟩) = Value.pointer (some ⟨p', 0, none⟩) ∧ Box ((w.setCell ⟨pb, 0, none⟩ (.int .u32 (i : Int))).setCell ⟨pb, 1, none⟩ (.slice (some ⟨g, 0, none⟩) n c)) p' #[.int .u32 (i : Int), .slice (some ⟨g', 0, none⟩) n cap] ∧ ((w.setCell ⟨pb, 0, none⟩ (.int .u32 (i : Int))).setCell ⟨pb, 1, none⟩ (.slice (some ⟨g, 0, none⟩) n c)).ownsRow B 59 4 (.slice (some ⟨g', 0, none⟩) n cap) n (fs.flatMap fldV) ∧ g' ≠ p' ∧ B ≤ p' ∧ Below B w3 ((w.setCell ⟨pb, 0, none⟩ (.int .u32 (i : Int))).setCell ⟨pb, 1, none⟩ (.slice (some ⟨g, 0, none⟩) n c)) := by
  have hne := own_ne_box ho hn hx
  refine ⟨pb, g, c, rfl, ?_, ?_, hne, hB, (hb.setCell (p := ⟨pb, 0, none⟩) hB _).setCell (p := ⟨pb, 1, none⟩) hB _⟩
  · have := (hx.set (j := 0) (by simp) (.int .u32 (i : Int))).set (j := 1) (by simp) (.slice (some ⟨g, 0, none⟩) n c)
    exact this
  · exact own_far (p := ⟨pb, 1, none⟩) (own_far (p := ⟨pb, 0, none⟩) ho (by simp [Value.ownBlock]; exact hne) _) (by simp [Value.ownBlock]; exact hne) _
/-- The blocks of a state, and one more. -/
def Three (g b bm k : Nat) : Prop := k = g ∨ Two b bm k
def Only (g k : Nat) : Prop := k = g
theorem ButS.set1 {w : World} {g j : Nat} {u : Value} : ButS (Only g) w.heap.size w (w.setCell ⟨g, j, none⟩ u) :=
  ⟨rfl, rfl, rfl, by simp [World.setCell], fun k hk hs => Below.heap_setCell _ _ _ _ (fun e => hs e)⟩
theorem is_ref {x : StD} (hx : StOK x) (hl : x.l.length ≤ 1000) {a la : Option Addr} {c ln lc B : Nat} {L : List VPair} {P : List Pair} (W : World) (ho : W.ownsRow B 61 1 (.slice a L.length c) L.length (L.map Prod.snd)) (hv : RowsV W B (.slice a L.length c) L) (hL : L.map cellsOfV = x.l)
    (hP : P.map Prod.fst = x.l) (hs : Sl 1 PairV W la ln P) (hr : ∀ q ∈ P, RowAt W q) : Calls Try.prog 20 #[.slice a L.length c, .slice la ln lc] W (BoolIs true W) := by
  have h := lawIs a la L.length c ln lc L P W (own_vpairs ho) hv.reads (hx.good hL) (by have := congrArg List.length hL; rw [List.length_map] at this; omega) hs hr (fun q hq => (hx.lens q.1 (by rw [← hP]; exact List.mem_map.2 ⟨q, hq, rfl⟩)).2)
  rw [show decide (L.map cellsOfV = P.map Prod.fst) = true from decide_eq_true (hL.trans hP.symm)] at h
  exact h
theorem runS_ok : ∀ {l : List EventD} {x : StD}, StOK x → (∀ e ∈ l, EventOK e) → AllOK x l → StOK (runS x l)
  | [], x, h, _, _ => h
  | e :: es, x, h, he, ha => runS_ok (l := es) (doS_ok h (he e (by simp)) ha.1).1 (fun d hd => he d (by simp [hd])) ha.2
end Go.Proofs.Ytlclhinianamhaa
