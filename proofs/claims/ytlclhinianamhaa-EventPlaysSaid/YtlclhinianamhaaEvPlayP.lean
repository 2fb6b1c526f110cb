/- What EventPlays needs beside the contracts: the program's state and the reference's side by side; a region's condition that is made stronger midway; whether a key was found. -/
import Derived.Test.YtlclhinianamhaaEvRun
namespace Go.Proofs.Ytlclhinianamhaa
open Go.RowKit Go.Deep
set_option linter.unusedVariables false
set_option linter.unusedSimpArgs false

theorem evSet {w : World} {qo qop qkind o : Nat} {qrow : List CellD} {qkk qkn : Int} {qks qnm : ByteArray} {a : Option Addr} {n c : Nat}
    (h : EventR w [.int .u64 (qo : Int), .int .u8 (qop : Int), .slice a n c, .int .u8 qkk, .int .i64 qkn, .string qks, .string qnm, .int .u8 (qkind : Int)] ⟨qo, qop, qrow, ⟨qkk, qkn, qks⟩, qnm, qkind⟩) (ho : o < 2 ^ 64) :
    EventR w [.int .u64 (o : Int), .int .u8 (qop : Int), .slice a n c, .int .u8 qkk, .int .i64 qkn, .string qks, .string qnm, .int .u8 (qkind : Int)] (setOff ⟨qo, qop, qrow, ⟨qkk, qkn, qks⟩, qnm, qkind⟩ o) := by
  obtain ⟨a', n', c', he, h1, h2, h3, h4, h5, h6⟩ := h
  unfold EventD.cells at he
  simp only [List.cons.injEq, Value.slice.injEq, true_and, and_true] at he
  obtain ⟨rfl, rfl, rfl⟩ := he
  exact ⟨_, _, _, rfl, h1, h2, h3, h4, ho, h6⟩
theorem is_ref {x : StD} (hx : StOK x) (hl : x.l.length ≤ 1000) {a la : Option Addr} {c ln lc B : Nat} {L : List VPair} {P : List Pair} (W : World) (ho : W.ownsRow B 61 1 (.slice a L.length c) L.length (L.map Prod.snd)) (hv : RowsV W B (.slice a L.length c) L) (hL : L.map cellsOfV = x.l)
    (hP : P.map Prod.fst = x.l) (hs : Sl 1 PairV W la ln P) (hr : ∀ q ∈ P, RowAt W q) : Calls Try.prog 20 #[.slice a L.length c, .slice la ln lc] W (BoolIs true W) := by
  have h := lawIs a la L.length c ln lc L P W (own_vpairs ho) hv.reads (hx.good hL) (by have := congrArg List.length hL; rw [List.length_map] at this; omega) hs hr (fun q hq => (hx.lens q.1 (by rw [← hP]; exact List.mem_map.2 ⟨q, hq, rfl⟩)).2)
  rw [show decide (L.map cellsOfV = P.map Prod.fst) = true from decide_eq_true (hL.trans hP.symm)] at h
  exact h
theorem cell_eq_dec (a b : CellD) : (a.kind == b.kind && a.n == b.n && a.s.toList == b.s.toList) = decide (a = b) := by
  have h := cell_ne_dec a b
  by_cases e : a = b
  · subst e; simp
  · rw [decide_eq_false e]
    rw [decide_eq_true e] at h
    revert h
    generalize (a.kind == b.kind && a.n == b.n && a.s.toList == b.s.toList) = X
    intro h
    cases X
    · rfl
    · simp at h
/-- The blocks of the program's state and the one of the reference's. -/
def Tri (p b bm k : Nat) : Prop := k = p ∨ Two b bm k
theorem RefSt.other {S S1 : Nat → Prop} {w w' : World} {p : Nat} {x : StD} (h : RefSt S w p x) (hb : ButS S1 w.heap.size w w') (hsub : ∀ k, S1 k → S k) (h1 : ¬ S1 p) : RefSt S w' p x := by
  obtain ⟨fa, fn, fc, la, ln, lc, P, h⟩ := h
  exact ⟨fa, fn, fc, la, ln, lc, P, h.rows, h.box.butS hb h.box.lt h1, h.f1, h.f2, h.f3, h.l1, h.l2, h.id, h.off, h.sp, fun k hk => Nat.lt_of_lt_of_le (h.slt k hk) hb.size, h.far.step (hb.mono fun k _ hk => hsub k hk)⟩
theorem wpAnyH_mono {P : Program} {ops : Array Oper} {Q : Exit → Act → World → Prop} {md : Region.Mode} {S S' : World → Prop} (hS : ∀ w, S' w → S w) :
    ∀ (fuel : Nat) (listed : Array Bool) (a : Act) (w : World), wpAnyH P md ops Q S' fuel listed a w → wpAnyH P md ops Q S fuel listed a w
  | 0, _, _, _, h => h
  | fuel + 1, _, _, _, h => ⟨h.1, fun i hi => wpOp_mono (fun a' w' h' => ⟨hS _ h'.1, wpAnyH_mono hS fuel _ a' w' h'.2⟩) (h.2 i hi)⟩
/-- Whether one of the first k rows has the key. -/
def FoundR (l : List (List CellD)) (c : CellD) (k : Nat) (f : Bool) : Prop := f = true ↔ ∃ r ∈ l.take k, keyOf r = c
theorem FoundR.start (l : List (List CellD)) (c : CellD) : FoundR l c 0 false := by unfold FoundR; simp
theorem FoundR.miss {l : List (List CellD)} {c : CellD} {k : Nat} {f : Bool} {r : List CellD} (h : FoundR l c k f) (hr : l[k]? = some r) (hk : keyOf r ≠ c) : FoundR l c (k + 1) f := by
  unfold FoundR at *
  rw [h, List.take_add_one, hr]
  constructor
  · rintro ⟨q, hq, e⟩
    exact ⟨q, List.mem_append_left _ hq, e⟩
  · rintro ⟨q, hq, e⟩
    rcases List.mem_append.1 hq with hq | hq
    · exact ⟨q, hq, e⟩
    · simp at hq
      subst hq
      exact absurd e hk
theorem FoundR.hit {l : List (List CellD)} {c : CellD} {k : Nat} {r : List CellD} (hr : l[k]? = some r) (hk : keyOf r = c) : FoundR l c (k + 1) true := by
  unfold FoundR
  refine ⟨fun _ => ⟨r, ?_, hk⟩, fun _ => rfl⟩
  rw [List.take_add_one, hr]
  exact List.mem_append_right _ (by simp)
theorem FoundR.ends {l : List (List CellD)} {c : CellD} {f : Bool} (h : FoundR l c l.length f) {r : List CellD} (hr : r ∈ l) (hk : keyOf r = c) : f = true :=
  h.2 ⟨r, by rw [List.take_length]; exact hr, hk⟩
theorem rises_one {l : List (List CellD)} (h : RisesK l) {a b : List CellD} (ha : a ∈ l) (hb : b ∈ l) (e : keyOf a = keyOf b) : a = b := by
  induction l with
  | nil => cases ha
  | cons x xs ih =>
    obtain ⟨h1, h2⟩ := List.pairwise_cons.1 h
    rcases List.mem_cons.1 ha with e1 | ha'
    · rcases List.mem_cons.1 hb with e2 | hb'
      · rw [e1, e2]
      · have h3 := h1 b hb'; rw [← e1, e] at h3; exact absurd h3 (LessC.irrefl _)
    · rcases List.mem_cons.1 hb with e2 | hb'
      · have h3 := h1 a ha'; rw [← e2, e] at h3; exact absurd h3 (LessC.irrefl _)
      · exact ih h2 ha' hb'
end Go.Proofs.Ytlclhinianamhaa
