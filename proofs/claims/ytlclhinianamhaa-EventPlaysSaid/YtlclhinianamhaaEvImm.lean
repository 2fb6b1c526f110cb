/- Rows that grow beside a list that grows; a state whose schema was stored. The program's state in memory, beside the reference's as plain data; slices.Clone of a row. How the program's state is turned: another map, another offset, another schema. -/
import Derived.Test.YtlclhinianamhaaEvStA
import Derived.Test.YtlclhinianamhaaEvRefD0
import Derived.Test.YtlclhinianamhaaEvMapm
import Derived.Test.YtlclhinianamhaaEvAdd
namespace Go.Proofs.Ytlclhinianamhaa
open Go.RowKit Go.Deep
set_option linter.unusedVariables false
set_option linter.unusedSimpArgs false

theorem Far.mono {S S' : Nat → Prop} {w : World} {Q : World → Prop} (h : Far S' w Q) (hS : ∀ k, S k → S' k) : Far S w Q := fun W hW => h W (hW.mono fun k _ hk => hS k hk)
/-- Blocks of S, and the one that a slice has for its own. -/
def OwnS (S : Nat → Prop) (v : Value) (k : Nat) : Prop := S k ∨ v.ownBlock = some k
theorem Far.grow {S : Nat → Prop} {v v' : Value} {wr w1 w7 : World} {Q : World → Prop} (h : Far (OwnS S v) wr Q) (hb : Below wr.heap.size wr w1) (hg : w1.grownBy w7 v.ownBlock) (hv : ∀ k, v'.ownBlock = some k → v.ownBlock = some k ∨ wr.heap.size ≤ k) : Far (OwnS S v') w7 Q := fun W hW => by
  refine h W ⟨hW.os.trans (hg.os.trans hb.os), hW.tape.trans (hg.tape.trans hb.tape), hW.output.trans (hg.output.trans hb.output), Nat.le_trans hb.size (Nat.le_trans hg.size hW.size), fun k hk hs => ?_⟩
  have h1 := hb.block k hk
  have h2 := hg.block k (Nat.lt_of_lt_of_le hk hb.size) (fun e => hs (.inr e.symm))
  have h3 := hW.block k (Nat.lt_of_lt_of_le (Nat.lt_of_lt_of_le hk hb.size) hg.size) (fun e => by
    rcases e with e | e
    · exact hs (.inl e)
    · rcases hv k e with e | e
      · exact hs (.inr e)
      · omega)
  exact h3.trans (h2.trans h1)
theorem Far.own0 {S : Nat → Prop} {w : World} {Q : World → Prop} (h : Far S w Q) : Far (OwnS S (.slice none 0 0)) w Q := h.mono fun k hk => by
  rcases hk with hk | hk
  · exact hk
  · cases hk
theorem own_lt {S : Nat → Prop} {w : World} {B size n : Nat} {e : TypeId} {v : Value} {xs : List Value} (h : w.ownsRow B e size v n xs) (hS : ∀ k, S k → k < w.heap.size) : ∀ k, OwnS S v k → k < w.heap.size := fun k hk => by
  rcases hk with hk | hk
  · exact hS k hk
  · exact (h.lt k hk).2
theorem wide_ok {s : SchemaD} {e : EventD} (h : checkE s e = 0) (ho : e.op = 3) : addE s e.name (e.kind : Int) = 0 := by
  unfold checkE at h
  by_cases hc : schemaChk s = 0
  · rw [if_neg (by rw [hc]; simp), if_neg (by omega), if_neg (by omega)] at h
    split at h
    · exact absurd h (by decide)
    · rw [if_neg (by omega), if_neg (by omega)] at h
      exact h
  · rw [if_pos hc] at h
    exact absurd h hc
theorem RefBox.widened {S : Nat → Prop} {w0 w : World} {p : Nat} {x : StD} {fa la : Option Addr} {fn fc ln lc : Nat} {P : List Pair} {s : SchemaD} {a : Option Addr} {n c : Nat}
    (h : RefBox S w0 p x fa fn fc la ln lc P) (hb : Below w0.heap.size w0 w) (hs : SchemaR w [.int .u32 (s.id : Int), .slice a n c] s) (ha : ∀ b off, a = some ⟨b, off, none⟩ → w0.heap.size ≤ b) :
    RefBox S ((w.setCell ⟨p, 0, none⟩ (.int .u32 (s.id : Int))).setCell ⟨p, 1, none⟩ (.slice a n c)) p ⟨s, x.l, x.off⟩ a n c la ln lc P ∧ But w0.heap.size p w0 ((w.setCell ⟨p, 0, none⟩ (.int .u32 (s.id : Int))).setCell ⟨p, 1, none⟩ (.slice a n c)) := by
  have hbut : But w.heap.size p w ((w.setCell ⟨p, 0, none⟩ (.int .u32 (s.id : Int))).setCell ⟨p, 1, none⟩ (.slice a n c)) := ((But.refl (Nat.le_refl _)).set 0 _).set 1 _
  have hc := h.call hb
  obtain ⟨a', n', c', he, h1, h2, h3, h4, h5⟩ := hs
  simp only [List.cons.injEq, Value.slice.injEq, and_true, true_and] at he
  obtain ⟨rfl, rfl, rfl⟩ := he
  refine ⟨⟨h.rows, ?_, h1, h2, h3, h.l1, h.l2, h5, h.off, h.sp, fun k hk => Nat.lt_of_lt_of_le (hc.slt k hk) hbut.size, ?_⟩, ?_⟩
  · have := (hc.box.set (j := 0) (by simp) (.int .u32 (s.id : Int))).set (j := 1) (by simp) (.slice a n c)
    simpa using this
  · intro W hW
    have hW' : ButS S w.heap.size w W := (hbut.s h.sp).step hW hbut.size
    refine ⟨?_, (hc.far W hW').2⟩
    exact h4.butS (fun _ _ h => h) hW' (fun b off e hlt => ⟨hlt, fun hs => by have := ha b off e; have := h.slt b hs; omega⟩)
  · exact ((But.refl (Nat.le_refl _)).call hb).step hbut hb.size
theorem cells_newE (w : World) (l : List Value) (t : TypeId) : ∀ j u, l[j]? = some u → (w.alloc (.cells l.toArray t)).cell? ((⟨w.heap.size, 0, none⟩ : Addr).add j) = some u := fun j u hj => by
  have := CellsAt.alloc_at w l.toArray t w.heap.size rfl j u (by simpa using hj)
  rw [show ((⟨w.heap.size, 0, none⟩ : Addr).add j) = ⟨w.heap.size, j, none⟩ by (simp [Addr.add] <;> omega)]
  exact this
theorem cells_oneE (xs : List CellD) : ∀ u ∈ xs.flatMap cellV, u.oneCell' = true := fun u hu => by
  obtain ⟨c, _, hc⟩ := List.mem_flatMap.1 hu
  simp only [cellV, List.mem_cons, List.not_mem_nil, or_false] at hc
  rcases hc with rfl | rfl | rfl <;> rfl
theorem row_room {n : Nat} (h : n ≤ 1000) : 0 + n ≤ maxLen ∧ (0 + n) * 32 ≤ 140737488355328 ∧ n + 1 ≤ maxLen ∧ (n + 1) * 32 ≤ 140737488355328 := by unfold maxLen; omega
theorem wide_room {k ln : Nat} (h : ln ≤ 1000) (hk : k < ln) : k + 1 ≤ maxLen ∧ (k + 1) * 24 ≤ 140737488355328 := by unfold maxLen; omega
theorem take_snocE {α β : Type} {f : α → β} {xs : List α} {k : Nat} {x : α} (h : xs[k]? = some x) : (xs.take (k + 1)).map f = (xs.take k).map f ++ [f x] := by
  rw [List.take_add_one, h, List.map_append]
  rfl
end Go.Proofs.Ytlclhinianamhaa

namespace Go.Proofs.Ytlclhinianamhaa
open Go.RowKit Go.Deep
open Go.ChangeMaps (setBlock heap_setBlock_same heap_setBlock_other)
set_option linter.unusedVariables false
set_option linter.unusedSimpArgs false

def VRowAt (W : World) (q : VPair) : Prop := ∃ a n c, q.2 = .slice a n c ∧ (a = none → c = 0) ∧ Sl 1 ValRE W a n q.1
def cellsOfV (q : VPair) : List CellD := q.1.map ValD.cell
theorem keyV_of (q : VPair) : keyV q = keyOf (cellsOfV q) := by
  obtain ⟨r, v⟩ := q
  cases r <;> rfl
structure ImpBox (S : Nat → Prop) (w : World) (p bm : Nat) (x : StD) (fa : Option Addr) (fn fc : Nat) (M : List VPair) : Prop where
  rows : (M.map cellsOfV).Perm x.l
  box : Box w p #[.int .u32 (x.s.id : Int), .slice fa fn fc, .map (some bm), .int .u64 (x.off : Int)]
  f1 : fn ≤ fc
  f2 : fc ≤ maxLen
  f3 : fa = none → fc = 0
  id : x.s.id < 2 ^ 32
  off : x.off < 2 ^ 64
  map : MapIs w bm M
  sp : S p
  sb : S bm
  slt : ∀ k, S k → k < w.heap.size
  far : Far S w fun W => Sl 4 FieldR W fa fn x.s.fields ∧ ∀ q ∈ M, VRowAt W q
def ImpSt (S : Nat → Prop) (w : World) (p bm : Nat) (x : StD) : Prop := ∃ fa fn fc M, ImpBox S w p bm x fa fn fc M
section
variable {S : Nat → Prop} {w w' : World} {p bm : Nat} {x : StD} {fa : Option Addr} {fn fc : Nat} {M : List VPair}
theorem ImpBox.call (h : ImpBox S w p bm x fa fn fc M) (hb : Below w.heap.size w w') : ImpBox S w' p bm x fa fn fc M :=
  ⟨h.rows, h.box.call hb, h.f1, h.f2, h.f3, h.id, h.off, h.map.call hb, h.sp, h.sb, fun k hk => Nat.lt_of_lt_of_le (h.slt k hk) hb.size, h.far.call hb⟩
theorem ImpBox.schema (h : ImpBox S w p bm x fa fn fc M) : SchemaR w [.int .u32 (x.s.id : Int), .slice fa fn fc] x.s :=
  ⟨fa, fn, fc, rfl, h.f1, h.f2, h.f3, h.far.now.1, h.id⟩
theorem ImpBox.ne (h : ImpBox S w p bm x fa fn fc M) : bm ≠ p := by
  intro e
  obtain ⟨es, clock, hm⟩ := h.map
  have h1 := h.box.cell 0 rfl
  have h2 := hm.at_
  rw [e] at h2
  unfold World.cell? at h1
  rw [h2] at h1
  simp at h1
theorem ImpSt.call (h : ImpSt S w p bm x) (hb : Below w.heap.size w w') : ImpSt S w' p bm x := by
  obtain ⟨fa, fn, fc, M, h⟩ := h
  exact ⟨_, _, _, _, h.call hb⟩
end
/-- The two blocks that the program's state turns. -/
def Two (p bm : Nat) (k : Nat) : Prop := k = p ∨ k = bm
theorem putAux_perm {α : Type} (k : CellD) (kf : α → CellD) (r : α) : ∀ (done : Bool) (xs : List α), (putAux k kf r done xs).Perm ((if done = true then [] else [r]) ++ xs.filter fun q => decide (cmpC k (kf q) ≠ 0))
  | done, [] => by rw [putAux]; simp
  | done, q :: qs => by
    have ih := putAux_perm k kf r (done || decide (cmpC k (kf q) ≤ 0)) qs
    rw [putAux, List.filter_cons]
    have h1 : (if decide (cmpC k (kf q) ≠ 0) = true then q :: List.filter (fun q => decide (cmpC k (kf q) ≠ 0)) qs else List.filter (fun q => decide (cmpC k (kf q) ≠ 0)) qs) = (if cmpC k (kf q) ≠ 0 then [q] else []) ++ List.filter (fun q => decide (cmpC k (kf q) ≠ 0)) qs := by
      by_cases h : cmpC k (kf q) = 0 <;> simp [h]
    rw [h1]
    generalize (if cmpC k (kf q) ≠ 0 then [q] else []) = Q
    generalize List.filter (fun q => decide (cmpC k (kf q) ≠ 0)) qs = F at *
    generalize putAux k kf r (done || decide (cmpC k (kf q) ≤ 0)) qs = A at *
    cases done
    · by_cases h : cmpC k (kf q) ≤ 0
      · simp [h] at ih ⊢
        first | exact ih.append_left Q | exact (ih.append_left Q).cons r | exact ih
      · simp [h] at ih ⊢
        refine (ih.append_left Q).trans ?_
        exact List.perm_middle
    · simp at ih ⊢
      exact ih.append_left Q
theorem cmpC_symm0 (a b : CellD) : decide (cmpC a b ≠ 0) = decide (cmpC b a ≠ 0) := by
  rw [decide_eq_decide, Ne, Ne, cmpC_zero, cmpC_zero]
  exact not_congr eq_comm
theorem putL_perm (r : List CellD) (l : List (List CellD)) : (putL r l).Perm (r :: l.filter fun q => decide (cmpC (keyOf q) (keyOf r) ≠ 0)) := by
  have h := putAux_perm (keyOf r) keyOf r false l
  rw [List.filter_congr (fun q _ => cmpC_symm0 (keyOf r) (keyOf q))] at h
  simpa [putL] using h
theorem filter_cells (M : List VPair) (c : CellD) : (M.filter fun q => decide (keyV q ≠ c)).map cellsOfV = (M.map cellsOfV).filter fun r => decide (cmpC (keyOf r) c ≠ 0) := by
  rw [List.filter_map]
  congr 1
  apply List.filter_congr
  intro q _
  show decide (keyV q ≠ c) = decide (cmpC (keyOf (cellsOfV q)) c ≠ 0)
  rw [ne_cmp, keyV_of]
theorem put_rows {M M' : List VPair} {l : List (List CellD)} {r : VPair} (h : (M.map cellsOfV).Perm l) (hm : M'.Perm (r :: M.filter (fun q => decide (keyV q ≠ keyV r)))) : (M'.map cellsOfV).Perm (putL (cellsOfV r) l) := by
  refine ((hm.map cellsOfV).trans ?_).trans (putL_perm _ _).symm
  rw [List.map_cons, filter_cells, keyV_of]
  exact (h.filter _).cons _
theorem del_rows {M : List VPair} {l : List (List CellD)} {c : CellD} (h : (M.map cellsOfV).Perm l) : ((M.filter (fun q => decide (keyV q ≠ c))).map cellsOfV).Perm (delL c l) := by
  rw [filter_cells]
  exact h.filter _
set_option maxRecDepth 100000 in
set_option maxHeartbeats 1000000 in
theorem clone_vals (a : Option Addr) (n c : Nat) (xs : List ValD) (w : World) (h : Sl 1 ValRE w a n xs) (hn : n ≤ 1000) (hnil : a = none → c = 0) :
    Calls Try.prog 49 #[.slice a n c] w (fun e w' => ∃ v, e = .returned v ∧ w'.ownsRow w.heap.size 60 1 v n (xs.map ValD.val) ∧ Below w.heap.size w w') := by
  have hl := h.1
  cases a with
  | none =>
    have hc0 := hnil rfl
    have hn0 : n = 0 := by
      rcases Nat.eq_zero_or_pos n with h0 | h0
      · exact h0
      · obtain ⟨_, _, e, _⟩ := h.2 h0; cases e
    subst hc0 hn0
    have hx : xs = [] := List.eq_nil_of_length_eq_zero hl
    subst hx
    have hq := fun W : World => Lib.run_eql_slice_nil (P := Try.prog) W 61 60 none 0 0 0 0 Try.underlying61
    go_enter Try.func49, Try.ntmps49
    go_wp2
    go_ret
    exact ⟨_, rfl, World.ownsRow_nil _ _ _ _, Below.refl _ _⟩
  | some ad =>
    obtain ⟨i0, hi0, hz0, hz1, hz2⟩ := info_parts infoVal
    have hq := fun W : World => Lib.run_eql_slice_nil (P := Try.prog) W 61 60 (some ad) n c 0 0 Try.underlying61
    have HI := Lib.hid hi0
    have HZ0 := Lib.hid hz0
    have HZ1 := Lib.hid hz1
    have HZ2 := Lib.hid hz2
    have HLI := Lib.hid (show Lies (w.alloc (.cells #[] 60)) (some ad) n 1 (xs.map ValD.val) by
      have := (h.alloc ValRE.stable (.cells #[] 60)).liesF (f := fun d : ValD => [d.val]) (by decide) (fun _ => rfl) (fun _ _ hr => hr)
      rw [flat_vals] at this
      exact this)
    have HON := Lib.hid (show ∀ u ∈ xs.map ValD.val, u.oneCell' = true from fun u hu => by
      obtain ⟨d, _, rfl⟩ := List.mem_map.1 hu
      exact val_oneCell d)
    clear hi0 hz0 hz1 hz2 h hl hnil
    go_enter Try.func49, Try.ntmps49
    go_wp2_with (at_builtin; refine wpList_append_vals _ rfl _ _ _ rfl w.heap.size 60 i0 .nilIface 1 16 Try.underlying61 HI.out HZ0.out HZ1.out HZ2.out rfl (by decide) _ _ [] rfl (World.ownsRow_lit w #[] 0 (Nat.le_refl _) (by decide) rfl) _ _ _ (xs.map ValD.val) rfl HLI.out HON.out (by unfold maxLen; omega) (by omega) (by simp) (fun h => by cases h) ?_; intro v w1 hown hg _; have ho1 := Lib.hid hown; have hg1 := Lib.hid hg; clear hown hg)
    go_ret
    exact ⟨_, rfl, by have := ho1.out; rw [Nat.zero_add] at this; exact this, below_litE hg1.out⟩
end Go.Proofs.Ytlclhinianamhaa

namespace Go.Proofs.Ytlclhinianamhaa
open Go.RowKit Go.Deep
open Go.ChangeMaps (setBlock heap_setBlock_same heap_setBlock_other)
set_option linter.unusedVariables false
set_option linter.unusedSimpArgs false

section
variable {S : Nat → Prop} {w w' : World} {p bm : Nat} {x : StD} {fa : Option Addr} {fn fc : Nat} {M M' : List VPair}
theorem Box.kept {b : Nat} {cs : Array Value} (h : Box w b cs) (hz : b < w'.heap.size) (e : w'.heap[b]? = w.heap[b]?) : Box w' b cs :=
  ⟨fun i v hv => by
    have e1 := h.cells i v hv
    unfold World.cell? at e1 ⊢
    simp only [e]
    exact e1, fun i => by
    have e1 := h.soft i
    unfold World.frozen? at e1 ⊢
    simp only [e]
    exact e1, hz⟩
theorem Box.but {b H k : Nat} {cs : Array Value} (h : Box w b cs) (hb : But H k w w') (hH : b < H) (hne : b ≠ k) : Box w' b cs := h.kept (Nat.lt_of_lt_of_le hH hb.size) (hb.block b hH hne)
theorem But.of_grown {k : Nat} (h : w.grownBy w' (some k)) : But w.heap.size k w w' := ⟨h.os, h.tape, h.output, h.size, fun i hi hne => h.block i hi (fun e => hne (by cases e; rfl))⟩
theorem But.two {H : Nat} (h : But H bm w w') : ButS (Two p bm) H w w' := h.s (.inr rfl)
theorem But.two' {H : Nat} (h : But H p w w') : ButS (Two p bm) H w w' := h.s (.inl rfl)
theorem ImpBox.remap (h : ImpBox S w p bm x fa fn fc M) {l : List (List CellD)} (hb : But w.heap.size bm w w') (hm : MapIs w' bm M') (hr : (M'.map cellsOfV).Perm l) (hf : Far S w' fun W => ∀ q ∈ M', VRowAt W q) : ImpBox S w' p bm ⟨x.s, l, x.off⟩ fa fn fc M' :=
  ⟨hr, h.box.but hb h.box.lt h.ne.symm, h.f1, h.f2, h.f3, h.id, h.off, hm, h.sp, h.sb, fun k hk => Nat.lt_of_lt_of_le (h.slt k hk) hb.size, fun W hW => ⟨(h.far.step (hb.s h.sb) W hW).1, hf W hW⟩⟩
theorem ImpBox.reoff (h : ImpBox S w p bm x fa fn fc M) {o : Nat} (ho : o < 2 ^ 64) : ImpBox S (w.setCell ⟨p, 3, none⟩ (.int .u64 (o : Int))) p bm ⟨x.s, x.l, o⟩ fa fn fc M := by
  have hb : But w.heap.size p w (w.setCell ⟨p, 3, none⟩ (.int .u64 (o : Int))) := (But.refl (Nat.le_refl _)).set 3 _
  refine ⟨h.rows, ?_, h.f1, h.f2, h.f3, h.id, ho, h.map.kept (hb.block bm h.map.lt h.ne), h.sp, h.sb, fun k hk => Nat.lt_of_lt_of_le (h.slt k hk) hb.size, h.far.step (hb.s h.sp)⟩
  have := h.box.set (j := 3) (by simp) (.int .u64 (o : Int))
  simpa using this
theorem ImpBox.widened (h : ImpBox S w p bm x fa fn fc M) {s : SchemaD} {a : Option Addr} {n c : Nat} {w0 : World} (hw : ∀ k, S k → k < w0.heap.size) (hs : SchemaR w [.int .u32 (s.id : Int), .slice a n c] s) (ha : ∀ b off, a = some ⟨b, off, none⟩ → w0.heap.size ≤ b) :
    ImpBox S ((w.setCell ⟨p, 0, none⟩ (.int .u32 (s.id : Int))).setCell ⟨p, 1, none⟩ (.slice a n c)) p bm ⟨s, x.l, x.off⟩ a n c M := by
  have hb : But w.heap.size p w ((w.setCell ⟨p, 0, none⟩ (.int .u32 (s.id : Int))).setCell ⟨p, 1, none⟩ (.slice a n c)) := ((But.refl (Nat.le_refl _)).set 0 _).set 1 _
  obtain ⟨a', n', c', he, h1, h2, h3, h4, h5⟩ := hs
  simp only [List.cons.injEq, Value.slice.injEq, and_true, true_and] at he
  obtain ⟨rfl, rfl, rfl⟩ := he
  refine ⟨h.rows, ?_, h1, h2, h3, h5, h.off, h.map.kept (hb.block bm h.map.lt h.ne), h.sp, h.sb, fun k hk => Nat.lt_of_lt_of_le (h.slt k hk) hb.size, fun W hW => ?_⟩
  · have := (h.box.set (j := 0) (by simp) (.int .u32 (s.id : Int))).set (j := 1) (by simp) (.slice a n c)
    simpa using this
  · have hW' : ButS S w.heap.size w W := (hb.s h.sp).step hW hb.size
    exact ⟨h4.butS (fun _ _ h => h) hW' (fun b off e hlt => ⟨hlt, fun hs => by have := ha b off e; have := hw b hs; omega⟩), (h.far W hW').2⟩
theorem VRowAt.far {B n c : Nat} {ad : Option Addr} {r : List ValD} (hown : w.ownsRow B 60 1 (.slice ad n c) n (r.map ValD.val)) (hB : ∀ k, S k → k < B) : Far S w fun W => VRowAt W (r, .slice ad n c) := fun W hW => by
  obtain ⟨ad', c', he, _, _, h3⟩ := own_slice hown
  simp only [Value.slice.injEq, true_and] at he
  obtain ⟨rfl, rfl⟩ := he
  exact ⟨ad, n, c, rfl, h3, (own_vals hown).butS (fun _ _ h => h) hW (fun b off e _ => by
    have := ownF_above hown b off e
    exact ⟨this.2, fun hs => by have := hB b hs; omega⟩)⟩
theorem MapIs.update (h : MapIs w bm M) {r : List ValD} {v : Value} {ck cn : Int} {cs : ByteArray} (hk : keyV (r, v) = ⟨ck, cn, cs⟩) (hc : CellB ⟨ck, cn, cs⟩) :
    ∃ w6 M', (Instr.mapUpdate 91 (.map (some bm)) (.agg #[.int .u8 ck, .int .i64 cn, .string cs]) v).run Try.prog w = .ok () w6 ∧ MapIs w6 bm M' ∧ M'.Perm ((r, v) :: M.filter (fun q => decide (keyV q ≠ keyV (r, v)))) ∧ But w.heap.size bm w w6 := by
  obtain ⟨es, clock, hm⟩ := h
  rw [← hk] at hc
  obtain ⟨es', clock', M', hrun, hm', hp⟩ := hm.update hc
  rw [hk] at hrun
  exact ⟨_, M', hrun, ⟨es', clock', hm'⟩, hp, But.of_grown (grown_setBlock hm.at_)⟩
theorem MapIs.drop (h : MapIs w bm M) {ck cn : Int} {cs : ByteArray} (hc : CellB ⟨ck, cn, cs⟩) :
    ∃ w6, (∀ ty, (Builtin.delete_ #[91, 30] ty #[.map (some bm), .agg #[.int .u8 ck, .int .i64 cn, .string cs]]).run Try.prog w = .ok (.tuple #[]) w6) ∧ MapIs w6 bm (M.filter (fun q => decide (keyV q ≠ ⟨ck, cn, cs⟩))) ∧ But w.heap.size bm w w6 := by
  obtain ⟨es, clock, hm⟩ := h
  obtain ⟨es', hrun, hm'⟩ := hm.drop hc 0
  refine ⟨_, fun ty => ?_, ⟨es', clock, hm'⟩, But.of_grown (grown_setBlock hm.at_)⟩
  exact hrun
end
theorem val_nil_cell : ValD.nil.cell = zeroCell := rfl
theorem wide_cells (r : List ValD) (v v' : Value) : cellsOfV (r ++ [.nil], v) = cellsOfV (r, v') ++ [zeroCell] := by unfold cellsOfV; rw [List.map_append]; rfl
theorem wide_keyV {r : List ValD} {v v' : Value} (h : 1 ≤ r.length) : keyV (r ++ [.nil], v) = keyV (r, v') := by
  cases r with
  | nil => simp at h
  | cons a t => rfl
/-- The rows of a map, of which those at the places vis have grown. -/
def Grown1 (M cur : List VPair) (vis : List Nat) : Prop := cur.length = M.length ∧ ∀ j q, M[j]? = some q → (j ∈ vis → ∃ v, cur[j]? = some (q.1 ++ [.nil], v)) ∧ (j ∉ vis → cur[j]? = some q)
theorem Grown1.start (M : List VPair) : Grown1 M M [] := ⟨rfl, fun j q h => ⟨fun h' => by simp at h', fun _ => h⟩⟩
theorem Grown1.next {M cur : List VPair} {vis : List Nat} (h : Grown1 M cur vis) {j : Nat} {q : VPair} (hq : M[j]? = some q) (v : Value) : Grown1 M (cur.set j (q.1 ++ [.nil], v)) (vis ++ [j]) := by
  have hjl : j < cur.length := by rw [h.1]; exact (List.getElem?_eq_some_iff.1 hq).1
  refine ⟨by rw [List.length_set]; exact h.1, fun i y hy => ⟨fun hi => ?_, fun hi => ?_⟩⟩
  · by_cases hij : i = j
    · subst hij
      rw [hq] at hy
      cases hy
      exact ⟨v, by rw [List.getElem?_set_self hjl]⟩
    · rw [List.getElem?_set_ne (fun e => hij e.symm)]
      rcases List.mem_append.1 hi with hi | hi
      · exact (h.2 i y hy).1 hi
      · simp at hi; exact absurd hi hij
  · rw [List.mem_append] at hi
    have hij : i ≠ j := fun e => hi (.inr (by simp [e]))
    rw [List.getElem?_set_ne (fun e => hij e.symm)]
    exact (h.2 i y hy).2 (fun h' => hi (.inl h'))
theorem Grown1.end_ {M cur : List VPair} {vis : List Nat} (h : Grown1 M cur vis) (hv : ∀ j, j < cur.length → j ∈ vis) : cur.map cellsOfV = (M.map cellsOfV).map (· ++ [zeroCell]) := by
  apply List.ext_getElem?
  intro j
  rw [List.getElem?_map, List.getElem?_map, List.getElem?_map]
  cases hq : M[j]? with
  | none =>
    have : cur[j]? = none := by rw [List.getElem?_eq_none_iff, h.1]; exact List.getElem?_eq_none_iff.1 hq
    rw [this]; rfl
  | some q =>
    obtain ⟨v, hc⟩ := (h.2 j q hq).1 (hv j (by rw [h.1]; exact (List.getElem?_eq_some_iff.1 hq).1))
    rw [hc]
    obtain ⟨r, v'⟩ := q
    simp only [Option.map_some]
    rw [wide_cells r v v']
theorem wide_rows {M cur : List VPair} {l : List (List CellD)} (h : (M.map cellsOfV).Perm l) (he : cur.map cellsOfV = (M.map cellsOfV).map (· ++ [zeroCell])) : (cur.map cellsOfV).Perm (wideL l) := by
  rw [he]
  exact h.map _
end Go.Proofs.Ytlclhinianamhaa
