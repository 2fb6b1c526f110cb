/- The state of a table as plain data, and how it lies. How the state's new rows are stored. -/
import Derived.Test.YtlclhinianamhaaEvRefChk
namespace Go.Proofs.Ytlclhinianamhaa
open Go.RowKit Go.Deep
set_option linter.unusedVariables false
set_option linter.unusedSimpArgs false

structure StD where
  s : SchemaD
  l : List (List CellD)
  off : Nat
def keyOf (r : List CellD) : CellD := r.headD zeroCell
/-- A row put among rows, as the reference's loop does it. -/
noncomputable def putAux {α : Type} (k : CellD) (kf : α → CellD) (r : α) : Bool → List α → List α
  | done, [] => if done = true then [] else [r]
  | done, q :: qs => (if done = false ∧ cmpC k (kf q) ≤ 0 then [r] else []) ++ (if cmpC k (kf q) ≠ 0 then [q] else []) ++ putAux k kf r (done || decide (cmpC k (kf q) ≤ 0)) qs
theorem putAux_map {α β : Type} (f : α → β) (k : CellD) (kf : α → CellD) (kg : β → CellD) (hk : ∀ a, kg (f a) = kf a) (r : α) : ∀ (done : Bool) (xs : List α), (putAux k kf r done xs).map f = putAux k kg (f r) done (xs.map f)
  | done, [] => by cases done <;> rfl
  | done, q :: qs => by
    rw [putAux, List.map_append, List.map_append, putAux_map f k kf kg hk r _ qs, List.map_cons, putAux, hk]
    congr 1
    congr 1
    · split <;> rfl
    · split <;> rfl
noncomputable def putL (r : List CellD) (l : List (List CellD)) : List (List CellD) := putAux (keyOf r) keyOf r false l
noncomputable def delL (k : CellD) (l : List (List CellD)) : List (List CellD) := l.filter fun r => decide (cmpC (keyOf r) k ≠ 0)
def wideL (l : List (List CellD)) : List (List CellD) := l.map (· ++ [zeroCell])
noncomputable def doE (x : StD) (e : EventD) : Int := if x.off = 18446744073709551615 ∨ e.offset ≠ x.off + 1 then 220 else checkE x.s e
noncomputable def doS (x : StD) (e : EventD) : StD :=
  if doE x e ≠ 0 then x
  else if e.op = 1 then ⟨x.s, putL (e.row.map fix) x.l, e.offset⟩
  else if e.op = 2 then ⟨x.s, delL (fix e.key) x.l, e.offset⟩
  else ⟨addS x.s e.name (e.kind : Int), wideL x.l, e.offset⟩
/-- All that stood ahead of block H stands as it did, but for blocks of S. -/
structure ButS (S : Nat → Prop) (H : Nat) (w w' : World) : Prop where
  os : w'.os = w.os
  tape : w'.tape = w.tape
  output : w'.output = w.output
  size : H ≤ w'.heap.size
  block : ∀ k, k < H → ¬ S k → w'.heap[k]? = w.heap[k]?
section
variable {S : Nat → Prop} {H H' p : Nat} {w w' w'' : World}
theorem But.s (h : But H p w w') (hp : S p) : ButS S H w w' := ⟨h.os, h.tape, h.output, h.size, fun k hk hs => h.block k hk (fun e => hs (by rw [e]; exact hp))⟩
theorem ButS.refl (h : H ≤ w.heap.size) : ButS S H w w := ⟨rfl, rfl, rfl, h, fun _ _ _ => rfl⟩
theorem ButS.step (h : ButS S H w w') (h' : ButS S H' w' w'') (hH : H ≤ H') : ButS S H w w'' :=
  ⟨h'.os.trans h.os, h'.tape.trans h.tape, h'.output.trans h.output, Nat.le_trans hH h'.size, fun k hk hs => (h'.block k (Nat.lt_of_lt_of_le hk hH) hs).trans (h.block k hk hs)⟩
theorem ButS.below {B : Nat} (h : ButS S H w w') (hb : Below B w' w'') (hB : H ≤ B) : ButS S H w w'' :=
  ⟨hb.os.trans h.os, hb.tape.trans h.tape, hb.output.trans h.output, Nat.le_trans h.size hb.size, fun k hk hs => (hb.block k (by omega)).trans (h.block k hk hs)⟩
theorem ButS.call (h : ButS S H w w') (hb : Below w'.heap.size w' w'') : ButS S H w w'' := h.below hb h.size
theorem ButS.mono {S' : Nat → Prop} (h : ButS S H w w') (hS : ∀ k, k < H → S k → S' k) : ButS S' H w w' := ⟨h.os, h.tape, h.output, h.size, fun k hk hs => h.block k hk (fun e => hs (hS k hk e))⟩
theorem ButS.le (h : ButS S H w w') (hH : H' ≤ H) : ButS S H' w w' := ⟨h.os, h.tape, h.output, Nat.le_trans hH h.size, fun k hk hs => h.block k (Nat.lt_of_lt_of_le hk hH) hs⟩
theorem ButS.cell (h : ButS S H w w') {b off : Nat} (hb : b < H) (hx : ¬ S b) : w'.cell? ⟨b, off, none⟩ = w.cell? ⟨b, off, none⟩ := by
  unfold World.cell?
  simp only [h.block b hb hx]
theorem Sl.butS {α : Type} {size n : Nat} {R : Rd α} {a : Option Addr} {xs : List α} (h : Sl size R w a n xs) (hR : ∀ cs x, R w cs x → R w' cs x) (hb : ButS S H w w') (ha : ∀ b off, a = some ⟨b, off, none⟩ → b < w.heap.size → b < H ∧ ¬ S b) : Sl size R w' a n xs := by
  refine ⟨h.1, fun hn => ?_⟩
  obtain ⟨b, off, e, hlt, hc⟩ := h.2 hn
  have h1 := ha b off e hlt
  refine ⟨b, off, e, by have := hb.size; omega, fun i y hy => ?_⟩
  obtain ⟨cs, hl, hr, hcell⟩ := hc i y hy
  exact ⟨cs, hl, hR _ _ hr, fun j v hj => (hb.cell h1.1 h1.2).trans (hcell j v hj)⟩
theorem But.step (h : But H p w w') (h' : But H' p w' w'') (hH : H ≤ H') : But H p w w'' :=
  ⟨h'.os.trans h.os, h'.tape.trans h.tape, h'.output.trans h.output, Nat.le_trans hH h'.size, fun k hk hne => (h'.block k (Nat.lt_of_lt_of_le hk hH) hne).trans (h.block k hk hne)⟩
end
/-- Of a world in which blocks of S alone may be written: what holds of whatever comes of it. -/
def Far (S : Nat → Prop) (w : World) (Q : World → Prop) : Prop := ∀ W, ButS S w.heap.size w W → Q W
section
variable {S : Nat → Prop} {w w' : World} {Q Q' : World → Prop}
theorem Far.now (h : Far S w Q) : Q w := h w (ButS.refl (Nat.le_refl _))
theorem Far.step (h : Far S w Q) (hb : ButS S w.heap.size w w') : Far S w' Q := fun W hW => h W (hb.step hW hb.size)
theorem Far.call (h : Far S w Q) (hb : Below w.heap.size w w') : Far S w' Q := h.step ((ButS.refl (Nat.le_refl _)).call hb)
theorem Far.imp (h : Far S w Q) (hi : ∀ W, Q W → Q' W) : Far S w Q' := fun W hW => hi W (h W hW)
theorem Far.and (h : Far S w Q) (h' : Far S w Q') : Far S w (fun W => Q W ∧ Q' W) := fun W hW => ⟨h W hW, h' W hW⟩
end
/-- A row, and the slice that it lies in. -/
abbrev Pair := List CellD × Value
def PairV : Rd Pair := fun _ cs q => cs = [q.2]
def RowAt (W : World) (q : Pair) : Prop := ∃ a n c, q.2 = .slice a n c ∧ Sl 3 CellR W a n q.1
structure RefBox (S : Nat → Prop) (w : World) (p : Nat) (x : StD) (fa : Option Addr) (fn fc : Nat) (la : Option Addr) (ln lc : Nat) (P : List Pair) : Prop where
  rows : P.map Prod.fst = x.l
  box : Box w p #[.int .u32 (x.s.id : Int), .slice fa fn fc, .slice la ln lc, .int .u64 (x.off : Int)]
  f1 : fn ≤ fc
  f2 : fc ≤ maxLen
  f3 : fa = none → fc = 0
  l1 : ln ≤ lc
  l2 : lc ≤ maxLen
  id : x.s.id < 2 ^ 32
  off : x.off < 2 ^ 64
  sp : S p
  slt : ∀ k, S k → k < w.heap.size
  far : Far S w fun W => Sl 4 FieldR W fa fn x.s.fields ∧ Sl 1 PairV W la ln P ∧ ∀ q ∈ P, RowAt W q
def RefSt (S : Nat → Prop) (w : World) (p : Nat) (x : StD) : Prop := ∃ fa fn fc la ln lc P, RefBox S w p x fa fn fc la ln lc P
theorem RefBox.call {S : Nat → Prop} {w w' : World} {p : Nat} {x : StD} {fa la : Option Addr} {fn fc ln lc : Nat} {P : List Pair} (h : RefBox S w p x fa fn fc la ln lc P) (hb : Below w.heap.size w w') : RefBox S w' p x fa fn fc la ln lc P :=
  ⟨h.rows, h.box.call hb, h.f1, h.f2, h.f3, h.l1, h.l2, h.id, h.off, h.sp, fun k hk => Nat.lt_of_lt_of_le (h.slt k hk) hb.size, h.far.call hb⟩
theorem RefBox.schema {S : Nat → Prop} {w : World} {p : Nat} {x : StD} {fa la : Option Addr} {fn fc ln lc : Nat} {P : List Pair} (h : RefBox S w p x fa fn fc la ln lc P) : SchemaR w [.int .u32 (x.s.id : Int), .slice fa fn fc] x.s :=
  ⟨fa, fn, fc, rfl, h.f1, h.f2, h.f3, h.far.now.1, h.id⟩
theorem RefSt.call {S : Nat → Prop} {w w' : World} {p : Nat} {x : StD} (h : RefSt S w p x) (hb : Below w.heap.size w w') : RefSt S w' p x := by
  obtain ⟨fa, fn, fc, la, ln, lc, P, h⟩ := h
  exact ⟨_, _, _, _, _, _, _, h.call hb⟩
end Go.Proofs.Ytlclhinianamhaa

namespace Go.Proofs.Ytlclhinianamhaa
open Go.RowKit Go.Deep
set_option linter.unusedVariables false
set_option linter.unusedSimpArgs false

theorem flat_snd (P : List Pair) : P.flatMap (fun q : Pair => [q.2]) = P.map Prod.snd := by induction P <;> simp_all
theorem own_pairs {w : World} {B n c : Nat} {ad : Option Addr} {P : List Pair} (h : w.ownsRow B 27 1 (.slice ad n c) n (P.map Prod.snd)) : Sl 1 PairV w ad n P :=
  own_sl (f := fun q : Pair => [q.2]) (by decide) (fun _ => rfl) (fun x _ => rfl) (by rw [flat_snd]; exact h)
theorem RefBox.stored {S : Nat → Prop} {w0 w : World} {p B : Nat} {x : StD} {fa la : Option Addr} {fn fc ln lc : Nat} {P P' : List Pair} {v : Value} {o : Nat}
    (h : RefBox S w0 p x fa fn fc la ln lc P) (hb : Below w0.heap.size w0 w) (hown : w.ownsRow B 27 1 v P'.length (P'.map Prod.snd)) (hB : w0.heap.size ≤ B) (ho : o < 2 ^ 64)
    (hr : Far S w fun W => ∀ q ∈ P', RowAt W q) :
    RefSt S ((w.setCell ⟨p, 2, none⟩ v).setCell ⟨p, 3, none⟩ (.int .u64 (o : Int))) p ⟨x.s, P'.map Prod.fst, o⟩ ∧ But w0.heap.size p w0 ((w.setCell ⟨p, 2, none⟩ v).setCell ⟨p, 3, none⟩ (.int .u64 (o : Int))) := by
  obtain ⟨a5, c5, rfl, h1, h2, h3⟩ := own_slice hown
  have hbut : But w.heap.size p w ((w.setCell ⟨p, 2, none⟩ (.slice a5 P'.length c5)).setCell ⟨p, 3, none⟩ (.int .u64 (o : Int))) := ((But.refl (Nat.le_refl _)).set 2 _).set 3 _
  have hc := h.call hb
  refine ⟨⟨fa, fn, fc, a5, P'.length, c5, P', rfl, ?_, h.f1, h.f2, h.f3, h1, h2, h.id, ho, h.sp, fun k hk => Nat.lt_of_lt_of_le (hc.slt k hk) hbut.size, ?_⟩, ?_⟩
  · have := (hc.box.set (j := 2) (by simp) (.slice a5 P'.length c5)).set (j := 3) (by simp) (.int .u64 (o : Int))
    simpa using this
  · intro W hW
    have hW' : ButS S w.heap.size w W := (hbut.s h.sp).step hW hbut.size
    refine ⟨(hc.far W hW').1, ?_, hr W hW'⟩
    refine (own_pairs hown).butS (fun _ _ h => h) hW' (fun b off e _ => ?_)
    have := ownF_above hown b off e
    exact ⟨this.2, fun hs => by have := h.slt b hs; omega⟩
  · exact ((But.refl (Nat.le_refl _)).call hb).step hbut hb.size
theorem Far.rows_of {S : Nat → Prop} {w : World} {P P' : List Pair} (h : Far S w fun W => ∀ q ∈ P, RowAt W q) (hs : ∀ q ∈ P', q ∈ P) : Far S w fun W => ∀ q ∈ P', RowAt W q := fun W hW q hq => h W hW q (hs q hq)
theorem RowAt.far {S : Nat → Prop} {w : World} {B n c : Nat} {ad : Option Addr} {r : List CellD} (hown : w.ownsRow B 30 3 (.slice ad n c) n (r.flatMap cellV)) (hB : ∀ k, S k → k < B) (hr : ∀ y ∈ r, CellR w (cellV y) y) : Far S w fun W => RowAt W (r, .slice ad n c) := fun W hW =>
  ⟨ad, n, c, rfl, (own_sl (R := CellR) (by decide) cellV_len hr hown).butS (fun _ _ h => h) hW (fun b off e _ => by
    have := ownF_above hown b off e
    exact ⟨this.2, fun hs => by have := hB b hs; omega⟩)⟩
theorem putAux_mem {α : Type} {k : CellD} {kf : α → CellD} {r : α} : ∀ {done : Bool} {xs : List α} {y : α}, y ∈ putAux k kf r done xs → y = r ∨ y ∈ xs
  | done, [], y, h => by
    cases done
    · exact .inl (by simpa [putAux] using h)
    · simp [putAux] at h
  | done, q :: qs, y, h => by
    rw [putAux, List.mem_append, List.mem_append] at h
    rcases h with (h | h) | h
    · split at h
      · exact .inl (by simpa using h)
      · simp at h
    · split at h
      · exact .inr (by simp at h; simp [h])
      · simp at h
    · rcases putAux_mem h with h | h
      · exact .inl h
      · exact .inr (List.mem_cons_of_mem _ h)
theorem cell_ne_bool (a b : CellD) : (!(a.kind == b.kind && a.n == b.n && a.s.toList == b.s.toList)) = decide (cmpC a b ≠ 0) := by
  by_cases h : a = b
  · subst h
    simp [(cmpC_zero a a).2 rfl]
  · have h0 : cmpC a b ≠ 0 := fun h' => h ((cmpC_zero a b).1 h')
    rw [decide_eq_true h0]
    cases hk : (a.kind == b.kind && a.n == b.n && a.s.toList == b.s.toList)
    · rfl
    · exfalso
      simp only [Bool.and_eq_true, beq_iff_eq] at hk
      exact h (CellD.ext' hk.1.1 hk.1.2 (vbytes_ext hk.2))
end Go.Proofs.Ytlclhinianamhaa
