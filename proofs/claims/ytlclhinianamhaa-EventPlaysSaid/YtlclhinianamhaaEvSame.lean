/- catchmentref08.Same of a schema with itself; catchmentlaw22.key; catchmentref22.Behind. -/
import Derived.Test.YtlclhinianamhaaEvWell
namespace Go.Proofs.Ytlclhinianamhaa
open Go.RowKit Go.Deep
set_option linter.unusedVariables false
set_option linter.unusedSimpArgs false

theorem measE1 {n k : Nat} (h : k < n) : n - (intOf (.int .i64 ((k : Int) + 1))).toNat < n - (intOf (.int .i64 (k : Int))).toNat := by simp [intOf]; omega
theorem numE {k : Nat} (hw : RowKit.wrap64 ((k : Int) + 1) = (k : Int) + 1) : Value.int .i64 (RowKit.wrap64 ((k : Int) + 1)) = .int .i64 ((k + 1 : Nat) : Int) := by rw [hw]; rfl
theorem numE1 {k : Nat} : Value.int .i64 ((k : Int) + 1) = .int .i64 ((k + 1 : Nat) : Int) := rfl
theorem w64E {k n : Nat} (h : k < n) (hn : n ≤ maxLen) : RowKit.wrap64 ((k : Int) + 1) = (k : Int) + 1 := by unfold RowKit.wrap64; unfold maxLen at hn; omega
theorem fieldneq (i k : Int) (s : ByteArray) (b : Bool) (W : World) : (binOp .neq 59 (.agg #[.int .u32 i, .string s, .int .u8 k, .bool b]) (.agg #[.int .u32 i, .string s, .int .u8 k, .bool b])).run Try.prog W = .ok (.bool false) W := by
  cases b <;> go_simp
set_option maxRecDepth 100000 in
set_option maxHeartbeats 4000000 in
theorem same_calls (c1 c2 : List Value) (s : SchemaD) (w : World) (h1 : SchemaR w c1 s) (h2 : SchemaR w c2 s) : Calls Try.prog 27 #[.agg c1.toArray, .agg c2.toArray] w (BoolIs true w) := by
  obtain ⟨fa, n, fc, rfl, hf1, hf2, hf3, hsl, hi⟩ := h1
  obtain ⟨ga, gn, gc, rfl, hg1, hg2, hg3, hsl', _⟩ := h2
  have hgn : gn = n := hsl'.1.symm.trans hsl.1
  subst hgn
  have HS := Lib.hid hsl
  have HS' := Lib.hid hsl'
  have HN := Lib.hid (show gn ≤ maxLen by omega)
  have HQ := Lib.hid fieldneq
  clear hsl hsl' hf1 hf2 hf3 hg1 hg2 hg3 hi
  have hnb : ((gn : Int) != (gn : Int)) = false := by simp
  go_enter Try.func27, Try.ntmps27
  go_upto_region 1 with fail
  obtain ⟨W1, hWW⟩ : ∃ W1 : World, W1 = (w.alloc (.cells #[.int .u32 (s.id : Int), .slice fa gn fc] 25)).alloc (.cells #[.int .u32 (s.id : Int), .slice ga gn gc] 25) := ⟨_, rfl⟩
  have hm : Mem w.heap.size [#[.int .u32 (s.id : Int), .slice fa gn fc], #[.int .u32 (s.id : Int), .slice ga gn gc]] w W1 := by rw [hWW]; exact ((Mem.nil w).push (by simp) _ _).push (by simp) _ _
  rw [← hWW]
  clear hWW
  have M1 := Lib.hid hm
  clear hm
  have s0 : W1.cell? ⟨w.heap.size, 0, none⟩ = some (.int .u32 (s.id : Int)) := M1.out.cell 0 0 rfl rfl
  have s1 : W1.cell? ⟨w.heap.size, 1, none⟩ = some (.slice fa gn fc) := M1.out.cell 0 1 rfl rfl
  have t0 : W1.cell? ⟨w.heap.size + 1, 0, none⟩ = some (.int .u32 (s.id : Int)) := M1.out.cell 1 0 rfl rfl
  have t1 : W1.cell? ⟨w.heap.size + 1, 1, none⟩ = some (.slice ga gn gc) := M1.out.cell 1 1 rfl rfl
  go_wp2_with fail
  go_loopw [5] (fun i wr => ∃ k : Nat, k ≤ gn ∧ i = .int .i64 k ∧ Below W1.heap.size W1 wr) (fun i _ => gn - (intOf i).toNat)
  case atStart => exact ⟨0, Nat.zero_le _, rfl, Below.refl _ _⟩
  case round =>
    obtain ⟨k, hk, rfl, hb⟩ := hrel
    have M2 := Lib.hid (M1.out.call hb)
    have HBR := Lib.hid hb
    clear hb s0 s1 t0 t1
    have hki : (0 : Int) ≤ (k : Int) := by omega
    have s1 : wr.cell? ⟨w.heap.size, 1, none⟩ = some (.slice fa gn fc) := M2.out.cell 0 1 rfl rfl
    have t1 : wr.cell? ⟨w.heap.size + 1, 1, none⟩ = some (.slice ga gn gc) := M2.out.cell 1 1 rfl rfl
    by_cases hlt : k < gn
    · have hkn : (k : Int) < (gn : Int) := by omega
      have HW := Lib.hid (w64E hlt HN.out)
      obtain ⟨b, off, ce, cs, rfl, hbl, hx, hcl, hr, hcell⟩ := (HS.out.below FieldR.stable M2.out.below).at_ hlt
      obtain ⟨b', off', de, cs', rfl, hbl', hx', hcl', hr', hcell'⟩ := (HS'.out.below FieldR.stable M2.out.below).at_ hlt
      rw [hx] at hx'
      obtain rfl : ce = de := by simpa using hx'
      obtain ⟨rfl, _⟩ := hr
      obtain ⟨rfl, _⟩ := hr'
      have d0 := hcell 0 _ rfl
      have d1 := hcell 1 _ rfl
      have d2 := hcell 2 _ rfl
      have d3 := hcell 3 _ rfl
      have c0 := hcell' 0 _ rfl
      have c1 := hcell' 1 _ rfl
      have c2 := hcell' 2 _ rfl
      have c3 := hcell' 3 _ rfl
      rw [Nat.add_zero] at d0 c0
      have hq := HQ.out ce.id ce.kind ce.name ce.need
      clear hcell hcell' hx hx' hcl hcl'
      go_upto_region 6 with fail
      go_quiet (fail)
      go_wp2
      go_roundw
      case rel => exact ⟨k + 1, hlt, by first | exact numE HW.out | exact numE1, below_drewN HBR.out _⟩
      case measure =>
        try rw [HW.out]
        exact measE1 hlt
    · go_wp2
      go_ret
      exact ⟨rfl, M2.out.below⟩
theorem wellF_great : ∀ {x : StD} {l : List EventD} {e : EventD}, e ∈ wellF x l → greatE e = false
  | x, [], e, h => by cases h
  | x, d :: es, e, h => by
    rw [wellF] at h
    split at h
    · rename_i hc
      rcases List.mem_cons.1 h with rfl | h
      · exact hc.1
      · exact wellF_great h
    · exact wellF_great h
theorem doS_any {x : StD} {e : EventD} (hx : StOK x) (he : EventOK e) : StOK (doS x e) ∧ (doS x e).off ≤ x.off + 1 := by
  by_cases hd : doE x e = 0
  · have h := doS_ok hx he hd
    exact ⟨h.1, by omega⟩
  · rw [doS_refused hd]
    exact ⟨hx, by omega⟩
theorem Box.butS {S : Nat → Prop} {H b : Nat} {w w' : World} {cs : Array Value} (h : Box w b cs) (hb : ButS S H w w') (hH : b < H) (hs : ¬ S b) : Box w' b cs := h.kept (Nat.lt_of_lt_of_le hH hb.size) (hb.block b hH hs)
theorem own_evs {w : World} {B n c : Nat} {ad : Option Addr} {WP : List EvPair} (h : w.ownsRow B 32 8 (.slice ad n c) n (WP.flatMap evV)) : Sl 8 EvC w ad n WP :=
  own_sl (f := evV) (by decide) (fun _ => rfl) (fun x _ => rfl) h
theorem two_not {b bm k H : Nat} (hb : H ≤ b) (hm : H ≤ bm) (hk : k < H) : ¬ Two b bm k := fun h => by rcases h with rfl | rfl <;> omega
/-- The events that were well made can be read, and are small. -/
def EvsOK (w : World) (WP : List EvPair) : Prop := ∀ q ∈ WP, EventR w (evV q) q.1 ∧ q.1.row.length ≤ 1000
theorem WellPost.evs {x : StD} {m : Nat} {LP WP : List EvPair} {w : World} (h : WP.map Prod.fst = wellF x ((LP.take m).map Prod.fst)) (hr : ∀ q ∈ WP, EventR w (evV q) q.1) : EvsOK w WP := fun q hq => ⟨hr q hq, by
  have h1 : q.1 ∈ wellF x ((LP.take m).map Prod.fst) := by rw [← h]; exact List.mem_map.2 ⟨q, hq, rfl⟩
  have := greatE_row (wellF_great h1)
  omega⟩
theorem EvsOK.at_ {w W : World} {WP : List EvPair} (h : EvsOK w WP) (hb : Below w.heap.size w W) {q : EvPair} (hq : q ∈ WP) : EventR W (evV q) q.1 ∧ q.1.row.length ≤ 1000 := ⟨EventR.stable _ _ _ _ hb (h q hq).1, (h q hq).2⟩
theorem Mem.butS {S : Nat → Prop} {base : Nat} {bs : List (Array Value)} {w0 w w' : World} (h : Mem base bs w0 w) (hb : ButS S w.heap.size w w') (hS : ∀ k, S k → base + bs.length ≤ k) : Mem base bs w0 w' := by
  have key : ∀ i cs, bs[i]? = some cs → Box w' (base + i) cs := fun i cs hi => by
    have hlt := (List.getElem?_eq_some_iff.1 hi).1
    exact Box.butS (S := S) ⟨h.cells i cs hi, h.soft i cs hi, h.lt i hlt⟩ hb (h.lt i hlt) (fun hs => by have := hS _ hs; omega)
  exact ⟨⟨hb.os.trans h.below.os, hb.tape.trans h.below.tape, hb.output.trans h.below.output, Nat.le_trans h.below.size hb.size, fun k hk => (hb.block k (by have := h.room; omega) (fun hs => by have := hS _ hs; omega)).trans (h.below.block k hk)⟩, fun i cs hi => (key i cs hi).cells, fun i cs hi => (key i cs hi).soft, Nat.le_trans h.room hb.size⟩
theorem StOK.good {x : StD} (hx : StOK x) {L : List VPair} (h : L.map cellsOfV = x.l) : ∀ q ∈ L, GoodRow q :=
  good_of_rows h (fun r hr => (hx.lens r hr).2) (fun r hr c hc => ((hx.rows r hr).good c hc).1)
theorem is_rows {x : StD} (hx : StOK x) (hl : x.l.length ≤ 1000) {a a' : Option Addr} {c n' c' B B' : Nat} {L : List VPair} {P : List Pair} (W : World) (ho : W.ownsRow B 61 1 (.slice a L.length c) L.length (L.map Prod.snd)) (hv : RowsV W B (.slice a L.length c) L) (hL : L.map cellsOfV = x.l)
    (ho' : W.ownsRow B' 27 1 (.slice a' n' c') n' (P.map Prod.snd)) (hP : P.map Prod.fst = x.l) (hr : ∀ q ∈ P, RowAt W q) : Calls Try.prog 20 #[.slice a L.length c, .slice a' n' c'] W (BoolIs true W) := by
  have h := lawIs a a' L.length c n' c' L P W (own_vpairs ho) hv.reads (hx.good hL) (by have := congrArg List.length hL; rw [List.length_map] at this; omega) (own_pairs ho') hr (fun q hq => (hx.lens q.1 (by rw [← hP]; exact List.mem_map.2 ⟨q, hq, rfl⟩)).2)
  rw [show decide (L.map cellsOfV = P.map Prod.fst) = true from decide_eq_true (hL.trans hP.symm)] at h
  exact h
end Go.Proofs.Ytlclhinianamhaa
