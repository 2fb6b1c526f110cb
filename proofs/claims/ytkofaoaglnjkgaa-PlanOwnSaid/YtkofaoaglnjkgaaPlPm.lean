/- The contract of slices.IndexFunc[[]catchment/api.Schema,catchment/api.Schema]: the first place where a test holds. Entries as plain data; which of them a plan reads, and what it holds against them. Is one bound behind another; do two columns' bounds overlap. slices.Clone at bounds, at fields. -/
import Derived.Test.YtkofaoaglnjkgaaBase
import Derived.Test.YtkofaoaglnjkgaaProg
import Derived.Test.YtkofaoaglnjkgaaPrMayP
import Derived.Test.YtkofaoaglnjkgaaCellRowm
import Derived.Test.YtkofaoaglnjkgaaVlCmpm
import Derived.Deep.AppendLies
import Derived.WalkSpells
namespace Go.Proofs.Ytkofaoaglnjkgaa
open Go.RowKit Go.Deep
set_option linter.unusedVariables false
set_option linter.unusedSimpArgs false

set_option maxRecDepth 100000 in
set_option maxHeartbeats 1000000 in
theorem index_schema (f : FuncId) (cap : Value) (hcf : ∀ (args : Array Value) (W : World), (callFunc f args).run Try.prog W = .ok (.enter f args) W) (a : Option Addr) (n c : Nat) (xs : List SchemaD) (p : SchemaD → Bool) (w : World) (h : Sl 2 SchemaR w a n xs) (hn : n ≤ 100000)
    (hf : ∀ (W : World) (cs : List Value) (x : SchemaD), Below w.heap.size w W → SchemaR W cs x → x ∈ xs → Calls Try.prog f #[.agg cs.toArray, cap] W (BoolIs (p x) W)) :
    Calls Try.prog 56 #[.slice a n c, .func (.func f) #[] #[cap]] w (IntBelow (idxF p xs) w) := by
  have HS := Lib.hid h
  have HF := Lib.hid hf
  have HLEN := Lib.hid h.1
  clear h hf
  go_enter Try.func56, Try.ntmps56
  go_wp2
  go_loopw [8] (fun i wr => ∃ k : Nat, k ≤ n ∧ i = .int .i64 k ∧ Below w.heap.size w wr ∧ ∀ (j : Nat) (y : SchemaD), j < k → xs[j]? = some y → p y = false) (fun i _ => n - (intOf i).toNat)
  case atStart => exact ⟨0, Nat.zero_le _, rfl, Below.refl _ _, fun j s hj => absurd hj (by omega)⟩
  case round =>
    obtain ⟨k, hk, rfl, hb, hno⟩ := hrel
    have HN := Lib.hid hno
    have HB := Lib.hid hb
    have hwz := hb.size
    clear hno hb
    by_cases hlt : k < n
    · obtain ⟨b, off, s, cs, rfl, hbl, hx, hcl, hr, hcell⟩ := HS.out.at_ hlt
      match cs, hcl with
      | [v0, v1], _ =>
        have d0 := (HB.out.cell (p := ⟨b, off + k * 2 + 0, none⟩) hbl).trans (hcell 0 _ rfl)
        have d1 := (HB.out.cell (p := ⟨b, off + k * 2 + 1, none⟩) hbl).trans (hcell 1 _ rfl)
        rw [Nat.add_zero] at d0
        have SR := Lib.hid (SchemaR.stable _ _ _ _ HB.out hr)
        have HX := Lib.hid hx
        clear hcell hr hx
        go_wp2_with fail
        refine (HF.out _ _ s HB.out SR.out (List.mem_of_getElem? HX.out)).mono ?_
        rintro e w1 ⟨rfl, hb1⟩
        have HB1 := Lib.hid (HB.out.trans (hb1.mono hwz))
        clear hb1 d0 d1
        cases hp : p s
        · have HP := Lib.hid hp
          clear hp
          go_wp2
          go_roundw
          case rel => exact ⟨k + 1, by omega, by go_num, HB1.out, noHit_succ HX.out HP.out HN.out⟩
          case measure => simp [intOf] <;> omega
        · have HP := Lib.hid hp
          clear hp
          have HI := Lib.hid (idxF_hit HX.out HP.out HN.out)
          go_wp2
          go_ret
          exact ⟨by rw [HI.out]; rfl, HB1.out⟩
    · have HI := Lib.hid (idxF_none (p := p) (xs := xs) fun j y hj hy => HN.out j y (by have := HLEN.out; omega) hy)
      go_wp2
      go_ret
      exact ⟨by rw [HI.out]; rfl, HB.out⟩
end Go.Proofs.Ytkofaoaglnjkgaa

namespace Go.Proofs.Ytkofaoaglnjkgaa
open Go.RowKit Go.Deep
set_option linter.unusedVariables false
set_option linter.unusedSimpArgs false

structure EntryD where
  name : ByteArray
  keys : Bool
  seq : Nat
  rows : Int
  schema : Nat
  stats : List StatD
def EntryD.cells (x : EntryD) (v : Value) : List Value := [.string x.name, .bool x.keys, .int .u64 (x.seq : Int), .int .i64 x.rows, .int .u32 (x.schema : Int), v]
def EntryOK (x : EntryD) : Prop := x.name.size ≤ maxLen ∧ x.seq < 2 ^ 64 ∧ IntOK x.rows ∧ x.schema < 2 ^ 32
def EntryR : Rd EntryD := fun w cs x => ∃ a n c, cs = x.cells (.slice a n c) ∧ n ≤ c ∧ c ≤ maxLen ∧ (a = none → c = 0) ∧ Sl 10 StatR w a n x.stats ∧ EntryOK x
theorem EntryR.stable : Stable EntryR := by
  rintro w w' cs x hb ⟨a, n, c, rfl, h1, h2, h3, h, h4⟩
  exact ⟨a, n, c, rfl, h1, h2, h3, h.below StatR.stable hb, h4⟩
def statV (s : StatD) : List Value := s.cells.toList
theorem statV_len (s : StatD) : (statV s).length = 10 := rfl
def fieldV (f : FieldD) : List Value := [.int .u32 (f.id : Int), .string f.name, .int .u8 (f.kind : Int), .bool f.need]
theorem fieldV_len (f : FieldD) : (fieldV f).length = 4 := rfl
theorem StatR.cells {w : World} {cs : List Value} {s : StatD} (h : StatR w cs s) : cs = statV s := h.1
theorem FieldR.cells {w : World} {cs : List Value} {f : FieldD} (h : FieldR w cs f) : cs = fieldV f := h.1
/-- Is a min behind a max? -/
def behindF (a b : StatD) : Bool := b.high && decide (0 < cmpC (fix a.min) (fix b.max))
def overF (a b : StatD) : Bool := a.some && b.some && !behindF a b && !behindF b a
def idIs (id : Nat) (s : SchemaD) : Bool := decide (s.id = id)
def shapeF (ss : List SchemaD) (id : Nat) : Option SchemaD := if idxF (idIs id) ss < 0 then none else ss[(idxF (idIs id) ss).toNat]?
def noStat (r : Int) : StatD := ⟨r, r, false, false, zeroCell, zeroCell⟩
def liftAt (x : EntryD) (f : SchemaD) (y : FieldD) : StatD :=
  if 0 ≤ placeI f.fields y.id ∧ placeI f.fields y.id < (x.stats.length : Int) then (x.stats[(placeI f.fields y.id).toNat]?).getD (noStat x.rows) else noStat x.rows
def liftF (x : EntryD) (f s : SchemaD) : List StatD := s.fields.map (liftAt x f)
def firstOver (k x : EntryD) : Bool := match k.stats, x.stats with | a :: _, b :: _ => overF a b | _, _ => false
def agB (x k : EntryD) : Bool := k.keys && decide (x.seq < k.seq) && firstOver k x
def againstF (l : List EntryD) (x : EntryD) : List ByteArray := (l.filter (agB x)).map EntryD.name
noncomputable def takeB (ss : List SchemaD) (s : SchemaD) (d : Nat) (p : PredD) (x : EntryD) : Bool :=
  !x.keys && (match shapeF ss x.schema with | none => false | some f => (mayN s.fields (liftF x f s) d p).ye)
noncomputable def tasksF (ss : List SchemaD) (l : List EntryD) (s : SchemaD) (d : Nat) (p : PredD) : List (EntryD × List ByteArray) :=
  (l.filter (takeB ss s d p)).map fun x => (x, againstF l x)
def aloneB (l : List EntryD) (k : EntryD) : Bool := k.keys && !(l.any fun x => !x.keys && decide (x.seq < k.seq))
def aloneF (l : List EntryD) : List ByteArray := (l.filter (aloneB l)).map EntryD.name
theorem filter_take {α : Type} {p : α → Bool} {l : List α} {k : Nat} {x : α} (h : l[k]? = some x) : (l.take (k + 1)).filter p = (l.take k).filter p ++ (if p x = true then [x] else []) := by
  rw [List.take_add_one, h, List.filter_append]
  simp [List.filter_cons]
/-- The cells of a row of structs, one behind the other. -/
theorem Sl.lies {α : Type} {size : Nat} {R : Rd α} {f : α → List Value} {w : World} {a : Option Addr} {n : Nat} {xs : List α} (h : Sl size R w a n xs) (hs : 0 < size) (hf : ∀ x, (f x).length = size) (hR : ∀ cs x, R w cs x → cs = f x) : Lies w a n size (xs.flatMap f) := by
  refine ⟨by rw [flat_len hf, h.1], fun hn => ?_⟩
  obtain ⟨b, off, ha, hlt, hc⟩ := h.2 hn
  refine ⟨b, off, ha, fun j v hj => ?_⟩
  have hjl : j < xs.length * size := by have := (List.getElem?_eq_some_iff.1 hj).1; rwa [flat_len hf] at this
  have hi : j / size < xs.length := (Nat.div_lt_iff_lt_mul hs).2 hjl
  obtain ⟨cs, hcl, hr, hcell⟩ := hc (j / size) _ (List.getElem?_eq_getElem hi)
  have e := hR _ _ hr
  subst e
  have hm := Nat.mod_lt j hs
  have hdm : j / size * size + j % size = j := Nat.div_add_mod' j size
  have hg := flat_get hf xs (j / size) (j % size) _ (List.getElem?_eq_getElem hi) hm
  rw [hdm, hj] at hg
  have := hcell (j % size) v hg.symm
  rwa [show off + j / size * size + j % size = off + j by omega] at this
theorem sl_each {α : Type} {size : Nat} {R : Rd α} {w : World} {a : Option Addr} {n : Nat} {xs : List α} (h : Sl size R w a n xs) : ∀ x ∈ xs, ∃ cs, R w cs x := by
  intro x hx
  obtain ⟨i, hi, rfl⟩ := List.getElem_of_mem hx
  have hn : i < n := by have := h.1; omega
  obtain ⟨b, off, _, _, hc⟩ := h.2 (by omega)
  obtain ⟨cs, _, hr, _⟩ := hc i _ (List.getElem?_eq_getElem hi)
  exact ⟨cs, hr⟩
theorem Sl.setFar {α : Type} {size : Nat} {R : Rd α} {w : World} {a : Option Addr} {n : Nat} {xs : List α} {p : Addr} (h : Sl size R w a n xs) (hR : ∀ w w' cs x, R w cs x → R w' cs x) (hne : ∀ b off, a = some ⟨b, off, none⟩ → b ≠ p.block) (u : Value) : Sl size R (w.setCell p u) a n xs := by
  refine ⟨h.1, fun hn => ?_⟩
  obtain ⟨b, off, ha, hlt, hc⟩ := h.2 hn
  refine ⟨b, off, ha, by simpa using hlt, fun i x hx => ?_⟩
  obtain ⟨cs, hl, hr, hcell⟩ := hc i x hx
  refine ⟨cs, hl, hR _ _ _ _ hr, fun j v hj => ?_⟩
  rw [World.cell?_setCell_other _ _ _ _ (fun e => hne b off ha (congrArg Addr.block e).symm)]
  exact hcell j v hj
theorem own_le {w : World} {base base' size n : Nat} {e : TypeId} {v : Value} {xs : List Value} (h : w.ownsRow base e size v n xs) (hb : base' ≤ base) : w.ownsRow base' e size v n xs :=
  ⟨h.1, h.2.imp id fun ⟨g, cap, cur, hv, hg, r⟩ => ⟨g, cap, cur, hv, Nat.le_trans hb hg, r⟩⟩
theorem own_above {w : World} {B e size n c : Nat} {ad : Option Addr} {ys : List Value} (h : w.ownsRow B e size (.slice ad n c) n ys) : ∀ b off, ad = some ⟨b, off, none⟩ → B ≤ b ∧ b < w.heap.size := by
  rintro b off rfl
  rcases h.2 with ⟨h1, _⟩ | ⟨g, cap, cur, hv, hb, hg, _⟩
  · cases h1
  · simp only [Value.slice.injEq, Option.some.injEq] at hv
    obtain ⟨hv, _, _⟩ := hv
    cases hv
    exact ⟨hb, (Array.getElem?_eq_some_iff.1 hg).1⟩
theorem own_cap {w : World} {B e size n c : Nat} {ad : Option Addr} {ys : List Value} (h : w.ownsRow B e size (.slice ad n c) n ys) : n ≤ c ∧ c ≤ maxLen ∧ (ad = none → c = 0) := by
  rcases h.2 with ⟨h1, h2⟩ | ⟨g, cap, cur, hv, hb, hg, h1, h2, _⟩
  · cases h1; exact ⟨Nat.le_refl _, Nat.zero_le _, fun _ => rfl⟩
  · simp only [Value.slice.injEq] at hv
    obtain ⟨rfl, _, rfl⟩ := hv
    exact ⟨h1, h2, fun h => by cases h⟩
end Go.Proofs.Ytkofaoaglnjkgaa

namespace Go.Proofs.Ytkofaoaglnjkgaa
open Go.RowKit Go.Deep
set_option linter.unusedVariables false
set_option linter.unusedSimpArgs false

set_option maxRecDepth 100000 in
set_option maxHeartbeats 4000000 in
theorem behind_calls (a b : StatD) (w : World) (h0 : 0 ≤ a.min.kind) (h1 : 0 ≤ b.max.kind) :
    Calls Try.prog 30 #[.agg a.cells, .agg b.cells] w (ValIs (.bool (behindF a b)) w) := by
  have HO1 := Lib.hid (fun W => (both a.min h0 W).2)
  have HO2 := Lib.hid (fun W => (both b.max h1 W).2)
  have HC := Lib.hid (fun W => (compare_calls (goodVal a.min) (goodVal b.max) W).mono fun e w' h => ValQ.is h)
  rw [good_cell a.min h0, good_cell b.max h1] at HC
  obtain ⟨R, hR⟩ : ∃ R, behindF a b = R := ⟨_, rfl⟩
  rw [hR]
  unfold behindF at hR
  generalize goodVal a.min = ga at *
  generalize goodVal b.max = gb at *
  generalize cmpC (fix a.min) (fix b.max) = r at *
  obtain ⟨ar, an, asm, ah, ⟨alk, aln, als⟩, ⟨ahk, ahn, ahs⟩⟩ := a
  obtain ⟨br, bn, bsm, bh, ⟨blk, bln, bls⟩, ⟨bhk, bhn, bhs⟩⟩ := b
  simp only [StatD.cells] at *
  generalize chk ⟨alk, aln, als⟩ = e1 at *
  generalize chk ⟨bhk, bhn, bhs⟩ = e2 at *
  simp only [CellD.cells] at HO1 HO2
  generalize ga.val = va at *
  generalize gb.val = vb at *
  clear h0 h1
  cases bh
  · obtain rfl : R = false := by rw [← hR]; rfl
    clear hR
    go_enter Try.func30, Try.ntmps30
    go_wp2
    go_ret
    exact ⟨rfl, ((Below.refl _ _).alloc (Nat.le_refl _) _).alloc (by simp) _⟩
  · rw [Bool.true_and] at hR
    subst hR
    go_enter Try.func30, Try.ntmps30
    go_wp2_with fail
    obtain ⟨W0, hWW⟩ : ∃ W0 : World, W0 = ((w.alloc (.cells #[.int .i64 ar, .int .i64 an, .bool asm, .bool ah, .int .u8 alk, .int .i64 aln, .string als, .int .u8 ahk, .int .i64 ahn, .string ahs] 31)).alloc (.cells #[.int .i64 br, .int .i64 bn, .bool bsm, .bool true, .int .u8 blk, .int .i64 bln, .string bls, .int .u8 bhk, .int .i64 bhn, .string bhs] 31)) := ⟨_, rfl⟩
    have hm : Mem w.heap.size [#[.int .i64 ar, .int .i64 an, .bool asm, .bool ah, .int .u8 alk, .int .i64 aln, .string als, .int .u8 ahk, .int .i64 ahn, .string ahs], #[.int .i64 br, .int .i64 bn, .bool bsm, .bool true, .int .u8 blk, .int .i64 bln, .string bls, .int .u8 bhk, .int .i64 bhn, .string bhs]] w W0 := by rw [hWW]; exact (((Mem.nil w).push (by simp) #[.int .i64 ar, .int .i64 an, .bool asm, .bool ah, .int .u8 alk, .int .i64 aln, .string als, .int .u8 ahk, .int .i64 ahn, .string ahs] 31).push (by simp) #[.int .i64 br, .int .i64 bn, .bool bsm, .bool true, .int .u8 blk, .int .i64 bln, .string bls, .int .u8 bhk, .int .i64 bhn, .string bhs] 31)
    rw [← hWW]
    clear hWW
    have M0 := Lib.hid hm
    clear hm
    have q0_4 : W0.cell? ⟨w.heap.size, 4, none⟩ = some (.int .u8 alk) := M0.out.cell 0 4 rfl rfl
    have q0_5 : W0.cell? ⟨w.heap.size, 5, none⟩ = some (.int .i64 aln) := M0.out.cell 0 5 rfl rfl
    have q0_6 : W0.cell? ⟨w.heap.size, 6, none⟩ = some (.string als) := M0.out.cell 0 6 rfl rfl
    refine (HO1.out _).mono ?_
    rintro e w1 ⟨rfl, hb⟩
    clear q0_4 q0_5 q0_6
    have hm : Mem w.heap.size [#[.int .i64 ar, .int .i64 an, .bool asm, .bool ah, .int .u8 alk, .int .i64 aln, .string als, .int .u8 ahk, .int .i64 ahn, .string ahs], #[.int .i64 br, .int .i64 bn, .bool bsm, .bool true, .int .u8 blk, .int .i64 bln, .string bls, .int .u8 bhk, .int .i64 bhn, .string bhs]] w w1 := by have := (M0.out.call hb); first | exact this | simpa using this
    have Mw1 := Lib.hid hm
    clear hm
    clear hb
    have q1_7 : w1.cell? ⟨w.heap.size + 1, 7, none⟩ = some (.int .u8 bhk) := Mw1.out.cell 1 7 rfl rfl
    have q1_8 : w1.cell? ⟨w.heap.size + 1, 8, none⟩ = some (.int .i64 bhn) := Mw1.out.cell 1 8 rfl rfl
    have q1_9 : w1.cell? ⟨w.heap.size + 1, 9, none⟩ = some (.string bhs) := Mw1.out.cell 1 9 rfl rfl
    have z0 : w.heap.size < w1.heap.size := Mw1.out.lt 0 (by simp)
    have z1 : w.heap.size + 1 < w1.heap.size := Mw1.out.lt 1 (by simp)
    go_wp2_with fail
    refine (HO2.out _).mono ?_
    rintro e w2 ⟨rfl, hb⟩
    clear q1_7 q1_8 q1_9 z0 z1
    have hm : Mem w.heap.size [#[.int .i64 ar, .int .i64 an, .bool asm, .bool ah, .int .u8 alk, .int .i64 aln, .string als, .int .u8 ahk, .int .i64 ahn, .string ahs], #[.int .i64 br, .int .i64 bn, .bool bsm, .bool true, .int .u8 blk, .int .i64 bln, .string bls, .int .u8 bhk, .int .i64 bhn, .string bhs]] w w2 := Mw1.out.call hb
    have Mw2 := Lib.hid hm
    clear hm
    clear hb
    go_wp2_with fail
    refine (HC.out _).mono ?_
    rintro e w3 ⟨rfl, hb⟩
    have hm : Mem w.heap.size [#[.int .i64 ar, .int .i64 an, .bool asm, .bool ah, .int .u8 alk, .int .i64 aln, .string als, .int .u8 ahk, .int .i64 ahn, .string ahs], #[.int .i64 br, .int .i64 bn, .bool bsm, .bool true, .int .u8 blk, .int .i64 bln, .string bls, .int .u8 bhk, .int .i64 bhn, .string bhs]] w w3 := Mw2.out.call hb
    have Mw3 := Lib.hid hm
    clear hm
    clear hb
    go_wp2
    go_ret
    exact ⟨rfl, Mw3.out.below⟩
set_option maxRecDepth 100000 in
set_option maxHeartbeats 4000000 in
theorem over_calls (a b : StatD) (w : World) (ha : StatOK a) (hb : StatOK b) :
    Calls Try.prog 9 #[.agg a.cells, .agg b.cells] w (ValIs (.bool (overF a b)) w) := by
  have H1 := Lib.hid (fun W => behind_calls a b W ha.2.2.1.2.1.1 hb.2.2.2.2.1.1)
  have H2 := Lib.hid (fun W => behind_calls b a W hb.2.2.1.2.1.1 ha.2.2.2.2.1.1)
  obtain ⟨R, hR⟩ : ∃ R, overF a b = R := ⟨_, rfl⟩
  rw [hR]
  unfold overF at hR
  generalize behindF a b = x at *
  generalize behindF b a = y at *
  obtain ⟨ar, an, asm, ah, ⟨alk, aln, als⟩, ⟨ahk, ahn, ahs⟩⟩ := a
  obtain ⟨br, bn, bsm, bh, ⟨blk, bln, bls⟩, ⟨bhk, bhn, bhs⟩⟩ := b
  simp only [StatD.cells] at *
  clear ha hb
  cases asm
  · obtain rfl : R = false := by rw [← hR]; rfl
    clear hR
    go_enter Try.func9, Try.ntmps9
    go_wp2
    go_ret
    exact ⟨rfl, ((Below.refl _ _).alloc (Nat.le_refl _) _).alloc (by simp) _⟩
  · cases bsm
    · obtain rfl : R = false := by rw [← hR]; rfl
      clear hR
      go_enter Try.func9, Try.ntmps9
      go_wp2
      go_ret
      exact ⟨rfl, ((Below.refl _ _).alloc (Nat.le_refl _) _).alloc (by simp) _⟩
    · obtain rfl : R = (!x && !y) := by rw [← hR]; rfl
      clear hR
      go_enter Try.func9, Try.ntmps9
      go_wp2_with fail
      obtain ⟨W0, hWW⟩ : ∃ W0 : World, W0 = ((w.alloc (.cells #[.int .i64 ar, .int .i64 an, .bool true, .bool ah, .int .u8 alk, .int .i64 aln, .string als, .int .u8 ahk, .int .i64 ahn, .string ahs] 31)).alloc (.cells #[.int .i64 br, .int .i64 bn, .bool true, .bool bh, .int .u8 blk, .int .i64 bln, .string bls, .int .u8 bhk, .int .i64 bhn, .string bhs] 31)) := ⟨_, rfl⟩
      have hm : Mem w.heap.size [#[.int .i64 ar, .int .i64 an, .bool true, .bool ah, .int .u8 alk, .int .i64 aln, .string als, .int .u8 ahk, .int .i64 ahn, .string ahs], #[.int .i64 br, .int .i64 bn, .bool true, .bool bh, .int .u8 blk, .int .i64 bln, .string bls, .int .u8 bhk, .int .i64 bhn, .string bhs]] w W0 := by rw [hWW]; exact (((Mem.nil w).push (by simp) #[.int .i64 ar, .int .i64 an, .bool true, .bool ah, .int .u8 alk, .int .i64 aln, .string als, .int .u8 ahk, .int .i64 ahn, .string ahs] 31).push (by simp) #[.int .i64 br, .int .i64 bn, .bool true, .bool bh, .int .u8 blk, .int .i64 bln, .string bls, .int .u8 bhk, .int .i64 bhn, .string bhs] 31)
      rw [← hWW]
      clear hWW
      have M0 := Lib.hid hm
      clear hm
      refine (H1.out _).mono ?_
      rintro e w1 ⟨rfl, hb⟩
      have hm : Mem w.heap.size [#[.int .i64 ar, .int .i64 an, .bool true, .bool ah, .int .u8 alk, .int .i64 aln, .string als, .int .u8 ahk, .int .i64 ahn, .string ahs], #[.int .i64 br, .int .i64 bn, .bool true, .bool bh, .int .u8 blk, .int .i64 bln, .string bls, .int .u8 bhk, .int .i64 bhn, .string bhs]] w w1 := by have := (M0.out.call hb); first | exact this | simpa using this
      have Mw1 := Lib.hid hm
      clear hm
      clear hb
      cases x
      · have q0_0 : w1.cell? ⟨w.heap.size, 0, none⟩ = some (.int .i64 ar) := Mw1.out.cell 0 0 rfl rfl
        have q0_1 : w1.cell? ⟨w.heap.size, 1, none⟩ = some (.int .i64 an) := Mw1.out.cell 0 1 rfl rfl
        have q0_2 : w1.cell? ⟨w.heap.size, 2, none⟩ = some (.bool true) := Mw1.out.cell 0 2 rfl rfl
        have q0_3 : w1.cell? ⟨w.heap.size, 3, none⟩ = some (.bool ah) := Mw1.out.cell 0 3 rfl rfl
        have q0_4 : w1.cell? ⟨w.heap.size, 4, none⟩ = some (.int .u8 alk) := Mw1.out.cell 0 4 rfl rfl
        have q0_5 : w1.cell? ⟨w.heap.size, 5, none⟩ = some (.int .i64 aln) := Mw1.out.cell 0 5 rfl rfl
        have q0_6 : w1.cell? ⟨w.heap.size, 6, none⟩ = some (.string als) := Mw1.out.cell 0 6 rfl rfl
        have q0_7 : w1.cell? ⟨w.heap.size, 7, none⟩ = some (.int .u8 ahk) := Mw1.out.cell 0 7 rfl rfl
        have q0_8 : w1.cell? ⟨w.heap.size, 8, none⟩ = some (.int .i64 ahn) := Mw1.out.cell 0 8 rfl rfl
        have q0_9 : w1.cell? ⟨w.heap.size, 9, none⟩ = some (.string ahs) := Mw1.out.cell 0 9 rfl rfl
        have q1_0 : w1.cell? ⟨w.heap.size + 1, 0, none⟩ = some (.int .i64 br) := Mw1.out.cell 1 0 rfl rfl
        have q1_1 : w1.cell? ⟨w.heap.size + 1, 1, none⟩ = some (.int .i64 bn) := Mw1.out.cell 1 1 rfl rfl
        have q1_2 : w1.cell? ⟨w.heap.size + 1, 2, none⟩ = some (.bool true) := Mw1.out.cell 1 2 rfl rfl
        have q1_3 : w1.cell? ⟨w.heap.size + 1, 3, none⟩ = some (.bool bh) := Mw1.out.cell 1 3 rfl rfl
        have q1_4 : w1.cell? ⟨w.heap.size + 1, 4, none⟩ = some (.int .u8 blk) := Mw1.out.cell 1 4 rfl rfl
        have q1_5 : w1.cell? ⟨w.heap.size + 1, 5, none⟩ = some (.int .i64 bln) := Mw1.out.cell 1 5 rfl rfl
        have q1_6 : w1.cell? ⟨w.heap.size + 1, 6, none⟩ = some (.string bls) := Mw1.out.cell 1 6 rfl rfl
        have q1_7 : w1.cell? ⟨w.heap.size + 1, 7, none⟩ = some (.int .u8 bhk) := Mw1.out.cell 1 7 rfl rfl
        have q1_8 : w1.cell? ⟨w.heap.size + 1, 8, none⟩ = some (.int .i64 bhn) := Mw1.out.cell 1 8 rfl rfl
        have q1_9 : w1.cell? ⟨w.heap.size + 1, 9, none⟩ = some (.string bhs) := Mw1.out.cell 1 9 rfl rfl
        have z0 : w.heap.size < w1.heap.size := Mw1.out.lt 0 (by simp)
        have z1 : w.heap.size + 1 < w1.heap.size := Mw1.out.lt 1 (by simp)
        go_wp2_with fail
        refine (H2.out _).mono ?_
        rintro e w2 ⟨rfl, hb⟩
        clear q0_0 q0_1 q0_2 q0_3 q0_4 q0_5 q0_6 q0_7 q0_8 q0_9 q1_0 q1_1 q1_2 q1_3 q1_4 q1_5 q1_6 q1_7 q1_8 q1_9 z0 z1
        have hm : Mem w.heap.size [#[.int .i64 ar, .int .i64 an, .bool true, .bool ah, .int .u8 alk, .int .i64 aln, .string als, .int .u8 ahk, .int .i64 ahn, .string ahs], #[.int .i64 br, .int .i64 bn, .bool true, .bool bh, .int .u8 blk, .int .i64 bln, .string bls, .int .u8 bhk, .int .i64 bhn, .string bhs]] w w2 := Mw1.out.call hb
        have Mw2 := Lib.hid hm
        clear hm
        clear hb
        go_wp2
        go_ret
        exact ⟨by simp, Mw2.out.below⟩
      · have q0_0 : w1.cell? ⟨w.heap.size, 0, none⟩ = some (.int .i64 ar) := Mw1.out.cell 0 0 rfl rfl
        have q0_1 : w1.cell? ⟨w.heap.size, 1, none⟩ = some (.int .i64 an) := Mw1.out.cell 0 1 rfl rfl
        have q0_2 : w1.cell? ⟨w.heap.size, 2, none⟩ = some (.bool true) := Mw1.out.cell 0 2 rfl rfl
        have q0_3 : w1.cell? ⟨w.heap.size, 3, none⟩ = some (.bool ah) := Mw1.out.cell 0 3 rfl rfl
        have q0_4 : w1.cell? ⟨w.heap.size, 4, none⟩ = some (.int .u8 alk) := Mw1.out.cell 0 4 rfl rfl
        have q0_5 : w1.cell? ⟨w.heap.size, 5, none⟩ = some (.int .i64 aln) := Mw1.out.cell 0 5 rfl rfl
        have q0_6 : w1.cell? ⟨w.heap.size, 6, none⟩ = some (.string als) := Mw1.out.cell 0 6 rfl rfl
        have q0_7 : w1.cell? ⟨w.heap.size, 7, none⟩ = some (.int .u8 ahk) := Mw1.out.cell 0 7 rfl rfl
        have q0_8 : w1.cell? ⟨w.heap.size, 8, none⟩ = some (.int .i64 ahn) := Mw1.out.cell 0 8 rfl rfl
        have q0_9 : w1.cell? ⟨w.heap.size, 9, none⟩ = some (.string ahs) := Mw1.out.cell 0 9 rfl rfl
        have q1_0 : w1.cell? ⟨w.heap.size + 1, 0, none⟩ = some (.int .i64 br) := Mw1.out.cell 1 0 rfl rfl
        have q1_1 : w1.cell? ⟨w.heap.size + 1, 1, none⟩ = some (.int .i64 bn) := Mw1.out.cell 1 1 rfl rfl
        have q1_2 : w1.cell? ⟨w.heap.size + 1, 2, none⟩ = some (.bool true) := Mw1.out.cell 1 2 rfl rfl
        have q1_3 : w1.cell? ⟨w.heap.size + 1, 3, none⟩ = some (.bool bh) := Mw1.out.cell 1 3 rfl rfl
        have q1_4 : w1.cell? ⟨w.heap.size + 1, 4, none⟩ = some (.int .u8 blk) := Mw1.out.cell 1 4 rfl rfl
        have q1_5 : w1.cell? ⟨w.heap.size + 1, 5, none⟩ = some (.int .i64 bln) := Mw1.out.cell 1 5 rfl rfl
        have q1_6 : w1.cell? ⟨w.heap.size + 1, 6, none⟩ = some (.string bls) := Mw1.out.cell 1 6 rfl rfl
        have q1_7 : w1.cell? ⟨w.heap.size + 1, 7, none⟩ = some (.int .u8 bhk) := Mw1.out.cell 1 7 rfl rfl
        have q1_8 : w1.cell? ⟨w.heap.size + 1, 8, none⟩ = some (.int .i64 bhn) := Mw1.out.cell 1 8 rfl rfl
        have q1_9 : w1.cell? ⟨w.heap.size + 1, 9, none⟩ = some (.string bhs) := Mw1.out.cell 1 9 rfl rfl
        have z0 : w.heap.size < w1.heap.size := Mw1.out.lt 0 (by simp)
        have z1 : w.heap.size + 1 < w1.heap.size := Mw1.out.lt 1 (by simp)
        go_wp2
        go_ret
        exact ⟨rfl, Mw1.out.below⟩
end Go.Proofs.Ytkofaoaglnjkgaa

namespace Go.Proofs.Ytkofaoaglnjkgaa
open Go.RowKit Go.Deep
set_option linter.unusedVariables false
set_option linter.unusedSimpArgs false

theorem infoStat : (Try.prog.info? 31).map (fun i => (i.zero, i.size, i.bytes)) = some (some (.agg #[.int .i64 0, .int .i64 0, .bool false, .bool false, .int .u8 0, .int .i64 0, .string ByteArray.empty, .int .u8 0, .int .i64 0, .string ByteArray.empty]), 10, 88) := by kernel_rfl
theorem infoField : (Try.prog.info? 85).map (fun i => (i.zero, i.size, i.bytes)) = some (some (.agg #[.int .u32 0, .string ByteArray.empty, .int .u8 0, .bool false]), 4, 32) := by kernel_rfl
theorem one_flat {α : Type} {f : α → List Value} (h : ∀ x, ∀ u ∈ f x, u.oneCell' = true) (xs : List α) : ∀ u ∈ xs.flatMap f, u.oneCell' = true := fun u hu => by
  obtain ⟨x, _, hx⟩ := List.mem_flatMap.1 hu
  exact h x u hx
theorem statV_one (s : StatD) : ∀ u ∈ statV s, u.oneCell' = true := by simp [statV, StatD.cells, Value.oneCell']
theorem fieldV_one (f : FieldD) : ∀ u ∈ fieldV f, u.oneCell' = true := by simp [fieldV, Value.oneCell']
set_option maxRecDepth 100000 in
set_option maxHeartbeats 1000000 in
theorem clone_stats (a : Option Addr) (n c : Nat) (xs : List StatD) (w : World) (h : Sl 10 StatR w a n xs) (hn : n ≤ 100000) (hnil : a = none → c = 0) :
    Calls Try.prog 44 #[.slice a n c] w (fun e w' => ∃ v, e = .returned v ∧ w'.ownsRow w.heap.size 31 10 v n (xs.flatMap statV) ∧ Below w.heap.size w w') := by
  have hl := h.1
  cases a with
  | none =>
    have hc0 := hnil rfl
    have hn0 : n = 0 := by
      rcases Nat.eq_zero_or_pos n with h0 | h0
      · exact h0
      · obtain ⟨_, _, e, _⟩ := h.2 h0; cases e
    subst hc0 hn0
    have hx : xs = [] := List.eq_nil_of_length_eq_zero hl
    subst hx
    have hq := fun W : World => Lib.run_eql_slice_nil (P := Try.prog) W 50 31 none 0 0 0 0 Try.underlying50
    go_enter Try.func44, Try.ntmps44
    go_wp2
    go_ret
    exact ⟨_, rfl, World.ownsRow_nil _ _ _ _, Below.refl _ _⟩
  | some ad =>
    obtain ⟨i0, hi0, hz0, hz1, hz2⟩ := info_parts infoStat
    have hq := fun W : World => Lib.run_eql_slice_nil (P := Try.prog) W 50 31 (some ad) n c 0 0 Try.underlying50
    have HI := Lib.hid hi0
    have HZ0 := Lib.hid hz0
    have HZ1 := Lib.hid hz1
    have HZ2 := Lib.hid hz2
    have HH := Lib.hid h
    clear hi0 hz0 hz1 hz2 h hl hnil
    go_enter Try.func44, Try.ntmps44
    go_wp2_with (at_builtin; refine wpList_append_vals _ rfl _ _ _ rfl w.heap.size 31 i0 (.agg #[.int .i64 0, .int .i64 0, .bool false, .bool false, .int .u8 0, .int .i64 0, .string ByteArray.empty, .int .u8 0, .int .i64 0, .string ByteArray.empty]) 10 88 Try.underlying50 HI.out HZ0.out HZ1.out HZ2.out rfl (by decide) _ _ [] rfl (World.ownsRow_lit w #[] 0 (Nat.le_refl _) (by decide) rfl) _ _ _ (xs.flatMap statV) rfl ((HH.out.alloc StatR.stable _).lies (by decide) statV_len (fun _ _ hr => hr.1)) (one_flat statV_one xs) (by unfold maxLen; omega) (by omega) (by simp) (fun h => by cases h) ?_; intro v w1 hown hg _; have ho1 := Lib.hid hown; have hg1 := Lib.hid hg; clear hown hg)
    go_ret
    exact ⟨_, rfl, by have := ho1.out; rw [Nat.zero_add] at this; exact this, below_lit hg1.out⟩
set_option maxRecDepth 100000 in
set_option maxHeartbeats 1000000 in
theorem clone_fields (a : Option Addr) (n c : Nat) (xs : List FieldD) (w : World) (h : Sl 4 FieldR w a n xs) (hn : n ≤ 100000) (hnil : a = none → c = 0) :
    Calls Try.prog 58 #[.slice a n c] w (fun e w' => ∃ v, e = .returned v ∧ w'.ownsRow w.heap.size 85 4 v n (xs.flatMap fieldV) ∧ Below w.heap.size w w') := by
  have hl := h.1
  cases a with
  | none =>
    have hc0 := hnil rfl
    have hn0 : n = 0 := by
      rcases Nat.eq_zero_or_pos n with h0 | h0
      · exact h0
      · obtain ⟨_, _, e, _⟩ := h.2 h0; cases e
    subst hc0 hn0
    have hx : xs = [] := List.eq_nil_of_length_eq_zero hl
    subst hx
    have hq := fun W : World => Lib.run_eql_slice_nil (P := Try.prog) W 35 85 none 0 0 0 0 Try.underlying35
    go_enter Try.func58, Try.ntmps58
    go_wp2
    go_ret
    exact ⟨_, rfl, World.ownsRow_nil _ _ _ _, Below.refl _ _⟩
  | some ad =>
    obtain ⟨i0, hi0, hz0, hz1, hz2⟩ := info_parts infoField
    have hq := fun W : World => Lib.run_eql_slice_nil (P := Try.prog) W 35 85 (some ad) n c 0 0 Try.underlying35
    have HI := Lib.hid hi0
    have HZ0 := Lib.hid hz0
    have HZ1 := Lib.hid hz1
    have HZ2 := Lib.hid hz2
    have HH := Lib.hid h
    clear hi0 hz0 hz1 hz2 h hl hnil
    go_enter Try.func58, Try.ntmps58
    go_wp2_with (at_builtin; refine wpList_append_vals _ rfl _ _ _ rfl w.heap.size 85 i0 (.agg #[.int .u32 0, .string ByteArray.empty, .int .u8 0, .bool false]) 4 32 Try.underlying35 HI.out HZ0.out HZ1.out HZ2.out rfl (by decide) _ _ [] rfl (World.ownsRow_lit w #[] 0 (Nat.le_refl _) (by decide) rfl) _ _ _ (xs.flatMap fieldV) rfl ((HH.out.alloc FieldR.stable _).lies (by decide) fieldV_len (fun _ _ hr => hr.1)) (one_flat fieldV_one xs) (by unfold maxLen; omega) (by omega) (by simp) (fun h => by cases h) ?_; intro v w1 hown hg _; have ho1 := Lib.hid hown; have hg1 := Lib.hid hg; clear hown hg)
    go_ret
    exact ⟨_, rfl, by have := ho1.out; rw [Nat.zero_add] at this; exact this, below_lit hg1.out⟩
end Go.Proofs.Ytkofaoaglnjkgaa
