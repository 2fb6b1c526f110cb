/- Events in memory; catchmentref22.Well. -/
import Derived.Test.YtlclhinianamhaaEvPlain
import Derived.Test.YtlclhinianamhaaEvRefDo
import Derived.Test.YtlclhinianamhaaEvAlive
namespace Go.Proofs.Ytlclhinianamhaa
open Go.RowKit Go.Deep
set_option linter.unusedVariables false
set_option linter.unusedSimpArgs false

/-- An event, and the slice of its row. -/
abbrev EvPair := EventD × Value
def evV (q : EvPair) : List Value := q.1.cells q.2
theorem evV_len (q : EvPair) : (evV q).length = 8 := rfl
def EvC : Rd EvPair := fun _ cs q => cs = evV q
theorem EvC.stable : Stable EvC := fun _ _ _ _ _ h => h
theorem events_pairs {w : World} {a : Option Addr} {n : Nat} {l : List EventD} (h : Sl 8 EventR w a n l) : ∃ LP : List EvPair, LP.map Prod.fst = l ∧ Sl 8 EvC w a n LP ∧ ∀ q ∈ LP, EventR w (evV q) q.1 := by
  have key : ∀ i, i < n → ∃ q : EvPair, l[i]? = some q.1 ∧ EventR w (evV q) q.1 ∧ ∀ b off, a = some ⟨b, off, none⟩ → ∀ j v, (evV q)[j]? = some v → w.cell? ⟨b, off + i * 8 + j, none⟩ = some v := fun i hi => by
    obtain ⟨b, off, x, cs, ha, _, hx, _, hr, hc⟩ := h.at_ hi
    obtain ⟨v, hv⟩ := EventR.agg hr
    exact ⟨(x, v), hx, by unfold evV; rw [← hv]; exact hr, fun b' off' e j u hj => by
      rw [ha] at e
      cases e
      exact hc j u (by rw [hv]; exact hj)⟩
  obtain ⟨LP, hl, hp⟩ := list_of_choice n key
  refine ⟨LP, ?_, ⟨hl, fun hn => ?_⟩, fun q hq => ?_⟩
  · apply List.ext_getElem?
    intro i
    rw [List.getElem?_map]
    by_cases hi : i < n
    · have hx : LP[i]? = some (LP[i]'(by omega)) := List.getElem?_eq_getElem _
      rw [hx, Option.map_some, (hp i _ hx).1]
    · rw [List.getElem?_eq_none (by omega), List.getElem?_eq_none (by have := h.1; omega)]
      rfl
  · obtain ⟨b, off, e, hlt, _⟩ := h.2 hn
    exact ⟨b, off, e, hlt, fun i q hq => ⟨evV q, rfl, rfl, (hp i q hq).2.2 b off e⟩⟩
  · obtain ⟨i, hi⟩ := List.getElem?_of_mem hq
    exact (hp i q hi).2.1
def setOff (e : EventD) (o : Nat) : EventD := ⟨o, e.op, e.row, e.key, e.name, e.kind⟩
def setOffP (q : EvPair) (o : Nat) : EvPair := (setOff q.1 o, q.2)
theorem setOff_R {w : World} {q : EvPair} (h : EventR w (evV q) q.1) {o : Nat} (ho : o < 2 ^ 64) : EventR w (evV (setOffP q o)) (setOff q.1 o) := by
  obtain ⟨a, n, c, he, h1, h2, h3, h4, h5, h6⟩ := h
  have hv : q.2 = .slice a n c := by
    unfold evV EventD.cells at he
    simp at he
    exact he
  refine ⟨a, n, c, ?_, h1, h2, h3, h4, ho, h6⟩
  unfold evV setOffP
  rw [hv]
theorem setOff_great (e : EventD) (o : Nat) : greatE (setOff e o) = greatE e := rfl
/-- Well-made events, numbered; the state behind them. -/
noncomputable def wellF : StD → List EventD → List EventD
  | _, [] => []
  | x, e :: es => if greatE e = false ∧ doE x (setOff e (x.off + 1)) = 0 then setOff e (x.off + 1) :: wellF (doS x (setOff e (x.off + 1))) es else wellF x es
theorem base_but {S : Nat → Prop} {H : Nat} {w0 w W : World} (hB : Below H w0 w) (hH : H ≤ w.heap.size) (hS : ∀ k, S k → H ≤ k) (hW : ButS S w.heap.size w W) : Below H w0 W :=
  ⟨hW.os.trans hB.os, hW.tape.trans hB.tape, hW.output.trans hB.output, Nat.le_trans hB.size (hW.size), fun k hk => (hW.block k (Nat.lt_of_lt_of_le hk hH) (fun e => by have := hS k e; omega)).trans (hB.block k hk)⟩
theorem But.below_base {H p : Nat} {w w' : World} (h : But w.heap.size p w w') (hH : H ≤ w.heap.size) (hp : H ≤ p) : Below H w w' :=
  ⟨h.os, h.tape, h.output, h.size, fun k hk => h.block k (by omega) (by omega)⟩
/-- A state at its beginning, whose fields lie in blocks that nobody turns. -/
theorem RefSt.start {S : Nat → Prop} {w0 w : World} {p : Nat} {s : SchemaD} {fa : Option Addr} {fn fc : Nat} (hs : SchemaR w0 [.int .u32 (s.id : Int), .slice fa fn fc] s) (hB : Below w0.heap.size w0 w) (hx : Box w p #[.int .u32 (s.id : Int), .slice fa fn fc, .slice none 0 0, .int .u64 0]) (hp : S p) (hS : ∀ k, S k → w0.heap.size ≤ k ∧ k < w.heap.size) : RefSt S w p ⟨s, [], 0⟩ := by
  have hs' := hs
  obtain ⟨a', n', c', he, h1, h2, h3, h4, h5⟩ := hs
  simp only [List.cons.injEq, Value.slice.injEq, and_true, true_and] at he
  obtain ⟨rfl, rfl, rfl⟩ := he
  exact ⟨fa, fn, fc, none, 0, 0, [], rfl, hx, h1, h2, h3, Nat.le_refl _, by unfold maxLen; omega, h5, by simp, hp, fun k hk => (hS k hk).2, fun W hW => ⟨h4.below FieldR.stable (base_but hB hB.size (fun k hk => (hS k hk).1) hW), Sl.nil_ _ _ _, fun q hq => by cases hq⟩⟩
def One (p k : Nat) : Prop := k = p
theorem RefSt.box {S : Nat → Prop} {w : World} {p : Nat} {x : StD} (h : RefSt S w p x) : ∃ u v, Box w p #[.int .u32 (x.s.id : Int), u, v, .int .u64 (x.off : Int)] := by
  obtain ⟨fa, fn, fc, la, ln, lc, P, h⟩ := h
  exact ⟨_, _, h.box⟩
theorem infoEv : (Try.prog.info? 32).map (fun i => (i.zero, i.size, i.bytes)) = some (some (.agg #[.int .u64 0, .int .u8 0, .slice none 0 0, .int .u8 0, .int .i64 0, .string ByteArray.empty, .string ByteArray.empty, .int .u8 0]), 8, 96) := by kernel_rfl
/-- A slice that grows, apart from a state. -/
theorem RefSt.grow {S : Nat → Prop} {v v' : Value} {wr w1 w7 : World} {p : Nat} {x : StD} (h : RefSt (OwnS S v) wr p x) (hb : Below wr.heap.size wr w1) (hg : w1.grownBy w7 v.ownBlock) (hv : ∀ k, v'.ownBlock = some k → v.ownBlock = some k ∨ wr.heap.size ≤ k) (hp : S p) (hne : v.ownBlock ≠ some p) (hlt : ∀ k, v'.ownBlock = some k → k < w7.heap.size) : RefSt (OwnS S v') w7 p x := by
  obtain ⟨fa, fn, fc, la, ln, lc, P, h⟩ := h
  exact ⟨fa, fn, fc, la, ln, lc, P, h.rows, (h.box.call hb).grown hg (fun e => hne e.symm), h.f1, h.f2, h.f3, h.l1, h.l2, h.id, h.off, .inl hp, fun k hk => by
    rcases hk with hk | hk
    · exact Nat.lt_of_lt_of_le (h.slt k (.inl hk)) (Nat.le_trans hb.size hg.size)
    · exact hlt k hk, h.far.grow hb hg hv⟩
theorem own_base {w : World} {B B' size n : Nat} {e : TypeId} {v : Value} {xs : List Value} (h : w.ownsRow B e size v n xs) (hB : B' ≤ B) : w.ownsRow B' e size v n xs := by
  refine ⟨h.1, ?_⟩
  rcases h.2 with hn | ⟨g, cap, cur, rfl, hg, rest⟩
  · exact .inl hn
  · exact .inr ⟨g, cap, cur, rfl, Nat.le_trans hB hg, rest⟩
def WellPost (x : StD) (m : Nat) (LP : List EvPair) (w0 w : World) (e : Ending) (w' : World) : Prop :=
  ∃ (v : Value) (WP : List EvPair), e = .returned v ∧ w'.ownsRow w.heap.size 32 8 v WP.length (WP.flatMap evV) ∧ WP.map Prod.fst = wellF x ((LP.take m).map Prod.fst) ∧ (∀ q ∈ WP, EventR w0 (evV q) q.1) ∧ WP.length ≤ m ∧ Below w.heap.size w w'
theorem oneEv (q : EvPair) : ∀ u ∈ evV q, u.oneCell' = true ∨ q.2.oneCell' = false := fun u hu => by
  cases h : q.2.oneCell'
  · exact .inr rfl
  · refine .inl ?_
    simp only [evV, EventD.cells, List.mem_cons, List.not_mem_nil, or_false] at hu
    rcases hu with rfl | rfl | rfl | rfl | rfl | rfl | rfl | rfl <;> first | rfl | exact h
theorem ev_slice {w : World} {q : EvPair} (h : EventR w (evV q) q.1) : ∃ ra rn rc, q.2 = .slice ra rn rc := by
  obtain ⟨a, n, c, he, _⟩ := h
  unfold evV EventD.cells at he
  simp at he
  exact ⟨a, n, c, he⟩
theorem measE {n k : Nat} (h : k < n) (hw : RowKit.wrap64 ((k : Int) + 1) = (k : Int) + 1) : n - (intOf (.int .i64 (RowKit.wrap64 ((k : Int) + 1)))).toNat < n - (intOf (.int .i64 (k : Int))).toNat := by rw [hw]; simp [intOf]; omega
theorem ev_room {n m k : Nat} (h : n ≤ k) (hk : k < m) (hm : m ≤ 60) : n + 1 ≤ maxLen ∧ (n + 1) * 96 ≤ 140737488355328 := by unfold maxLen; omega
set_option maxRecDepth 100000 in
set_option maxHeartbeats 8000000 in
theorem well_calls (scs : List Value) (s : SchemaD) (a : Option Addr) (n c : Nat) (LP : List EvPair) (m : Nat) (w0 w : World) (hB0 : Below w0.heap.size w0 w) (hs : SchemaR w scs s) (hsl : Sl 8 EvC w a n LP) (hev : ∀ q ∈ LP, EventR w0 (evV q) q.1) (hm : m ≤ 60) (hok : StOK ⟨s, [], 0⟩) :
    Calls Try.prog 15 #[.agg scs.toArray, .slice a n c, .int .i64 (m : Int)] w (WellPost ⟨s, [], 0⟩ m LP w0 w) := by
  have HB0 := Lib.hid hB0
  clear hB0
  have HS := Lib.hid hs
  obtain ⟨fa, fn, fc, rfl, hsr⟩ := hs
  clear hsr
  have HSL := Lib.hid hsl
  have HEV := Lib.hid hev
  have HM := Lib.hid hm
  have HOK := Lib.hid hok
  obtain ⟨i0, hi0, hz0, hz1, hz2⟩ := info_parts infoEv
  have HI := Lib.hid hi0
  have HZ0 := Lib.hid hz0
  have HZ1 := Lib.hid hz1
  have HZ2 := Lib.hid hz2
  clear hi0 hz0 hz1 hz2
  clear hsl hev hm hok
  go_enter Try.func15, Try.ntmps15
  go_upto_region 2 with fail
  obtain ⟨W1, hWW⟩ : ∃ W1 : World, W1 = (w.alloc (.cells #[.int .u32 (s.id : Int), .slice fa fn fc] 25)).alloc (.cells #[.int .u32 (s.id : Int), .slice fa fn fc, .slice none 0 0, .int .u64 0] 65) := ⟨_, rfl⟩
  have hb1 : Below w.heap.size w W1 := by rw [hWW]; exact ((Below.refl _ _).alloc (Nat.le_refl _) _).alloc (by simp) _
  have hx1 : Box W1 (w.heap.size + 1) #[.int .u32 (s.id : Int), .slice fa fn fc, .slice none 0 0, .int .u64 0] := by rw [hWW]; exact Box.at_ _ _ _ _ (by simp)
  rw [← hWW]
  clear hWW
  have HB1 := Lib.hid hb1
  have HST1 := Lib.hid (RefSt.start (S := OwnS (One (w.heap.size + 1)) (.slice none 0 0)) HS.out hb1 hx1 (.inl rfl) (fun k hk => by
    have := hx1.lt
    rcases hk with hk | hk
    · unfold One at hk; omega
    · cases hk))
  generalize hp : w.heap.size + 1 = p at *
  have HP := Lib.hid hp
  have HPL := Lib.hid hx1.lt
  clear hb1 hx1 hp
  obtain ⟨WS, hws⟩ : ∃ WS, wellF ⟨s, [], 0⟩ ((LP.take m).map Prod.fst) = WS := ⟨_, rfl⟩
  have HWS := Lib.hid hws
  clear hws
  have HLN := Lib.hid HSL.out.1
  go_wp2_with fail
  go_loopw [8, 9, 10] (fun v i d wr => ∃ (k : Nat) (acc : List EvPair) (x : StD), k ≤ n ∧ k ≤ m ∧ i = .int .i64 k ∧ wr.ownsRow W1.heap.size 32 8 v acc.length (acc.flatMap evV) ∧ acc.map Prod.fst ++ wellF x (((LP.take m).drop k).map Prod.fst) = WS ∧ (∀ q ∈ acc, EventR w0 (evV q) q.1) ∧ x.off = acc.length ∧ acc.length ≤ k ∧ StOK x ∧ RefSt (OwnS (One p) v) wr p x ∧ W1.heap.size ≤ wr.heap.size ∧ Below w.heap.size w wr) (fun _ i _ _ => n - (intOf i).toNat)
  case atStart => exact ⟨0, [], ⟨s, [], 0⟩, Nat.zero_le _, Nat.zero_le _, rfl, World.ownsRow_nil _ _ _ _, by rw [← HWS.out]; rfl, fun q hq => (by cases hq), rfl, Nat.le_refl _, HOK.out, HST1.out, Nat.le_refl _, HB1.out⟩
  case round =>
    obtain ⟨k, acc, x, hkn, hkm, rfl, hown, htot, hev, hoff, hacc, hxo, hst, hsz, hb⟩ := hrel
    have HO := Lib.hid hown
    have HTOT := Lib.hid htot
    have HAE := Lib.hid hev
    have HOFF := Lib.hid hoff
    have HAC := Lib.hid hacc
    have HXO := Lib.hid hxo
    have HST := Lib.hid hst
    have HSZ := Lib.hid hsz
    have HB := Lib.hid hb
    have hki : (0 : Int) ≤ (k : Int) := by omega
    clear hown htot hev hoff hacc hxo hst hsz hb
    by_cases hlt : k < n ∧ k < m
    · obtain ⟨hlt, hltm⟩ := hlt
      have hkni : (k : Int) < (n : Int) := by omega
      have hkmi : (k : Int) < (m : Int) := by omega
      have hw64 : RowKit.wrap64 ((k : Int) + 1) = (k : Int) + 1 := by have := HM.out; unfold RowKit.wrap64; omega
      obtain ⟨b, off, q, u, rfl, hbl, hx, hcl, hr, hcell⟩ := (HSL.out.below EvC.stable HB.out).at_ hlt
      have hr' : u = evV q := hr
      subst hr'
      have HQ := Lib.hid (HEV.out q (List.mem_of_getElem? hx))
      have HX := Lib.hid hx
      obtain ⟨ra, rn, rc, hqv⟩ := ev_slice HQ.out
      obtain ⟨⟨o, op, row, ⟨kk, kn, ks⟩, nm, kind⟩, qv⟩ := q
      obtain rfl : qv = .slice ra rn rc := hqv
      have c0 := hcell 0 _ rfl
      have c1 := hcell 1 _ rfl
      have c2 := hcell 2 _ rfl
      have c3 := hcell 3 _ rfl
      have c4 := hcell 4 _ rfl
      have c5 := hcell 5 _ rfl
      have c6 := hcell 6 _ rfl
      have c7 := hcell 7 _ rfl
      simp only [Nat.add_zero] at c0
      clear hcell hr hcl hx
      go_upto_region 7 with fail
      obtain ⟨o1, ho1⟩ : ∃ o1 : Nat, o1 = x.off + 1 := ⟨_, rfl⟩
      have HO1 := Lib.hid ho1
      have ho64 : o1 < 2 ^ 64 := by have := HOFF.out; have := HAC.out; have := HM.out; omega
      obtain ⟨E, hE⟩ : ∃ E : EventD, E = ⟨o1, op, row, ⟨kk, kn, ks⟩, nm, kind⟩ := ⟨_, rfl⟩
      have HEE := Lib.hid (show setOff (⟨o, op, row, ⟨kk, kn, ks⟩, nm, kind⟩ : EventD) (x.off + 1) = E by rw [hE, ho1]; rfl)
      have HER := Lib.hid (show EventR w0 [.int .u64 (o1 : Int), .int .u8 (op : Int), .slice ra rn rc, .int .u8 kk, .int .i64 kn, .string ks, .string nm, .int .u8 (kind : Int)] E by rw [hE]; exact setOff_R HQ.out (o := o1) ho64)
      have HEV1 := Lib.hid (show evV (E, .slice ra rn rc) = [.int .u64 (o1 : Int), .int .u8 (op : Int), .slice ra rn rc, .int .u8 kk, .int .i64 kn, .string ks, .string nm, .int .u8 (kind : Int)] by rw [hE]; rfl)
      have HGR := Lib.hid (show greatE (⟨o, op, row, ⟨kk, kn, ks⟩, nm, kind⟩ : EventD) = greatE E by rw [hE]; rfl)
      have HGE := Lib.hid (fun W (h : Below w.heap.size w W) => greatE_calls [.int .u64 (o1 : Int), .int .u8 (op : Int), .slice ra rn rc, .int .u8 kk, .int .i64 kn, .string ks, .string nm, .int .u8 (kind : Int)] E W (EventR.stable _ _ _ _ (HB0.out.trans (h.mono HB0.out.size)) HER.out))
      generalize hxo : x.off = xo at *
      have HXOF := Lib.hid hxo
      have hxw : IntKind.u64.wrap ((xo : Int) + 1) = (o1 : Int) := by rw [IntWalk.u64_in _ (by omega), ho1]; rfl
      have HDROP := Lib.hid (show (LP.take m).drop k = ((⟨o, op, row, ⟨kk, kn, ks⟩, nm, kind⟩, .slice ra rn rc) : EvPair) :: (LP.take m).drop (k + 1) by
        have hx' : (LP.take m)[k]? = some ((⟨o, op, row, ⟨kk, kn, ks⟩, nm, kind⟩, .slice ra rn rc) : EvPair) := by rw [List.getElem?_take, if_pos hltm]; exact HX.out
        rw [List.drop_eq_getElem_cons (List.getElem?_eq_some_iff.1 hx').1, (List.getElem?_eq_some_iff.1 hx').2])
      have hwf := HTOT.out
      rw [HDROP.out, List.map_cons, wellF] at hwf
      simp only [] at hwf
      rw [hxo, HEE.out, HGR.out] at hwf
      have HWF := Lib.hid hwf
      obtain ⟨W2, hWW⟩ : ∃ W2 : World, W2 = wr.alloc (.cells #[.int .u64 (o : Int), .int .u8 (op : Int), .slice ra rn rc, .int .u8 kk, .int .i64 kn, .string ks, .string nm, .int .u8 (kind : Int)] 32) := ⟨_, rfl⟩
      have hb2 : Below wr.heap.size wr W2 := by rw [hWW]; exact (Below.refl _ _).alloc (Nat.le_refl _) _
      have hx2 : Box W2 wr.heap.size #[.int .u64 (o : Int), .int .u8 (op : Int), .slice ra rn rc, .int .u8 kk, .int .i64 kn, .string ks, .string nm, .int .u8 (kind : Int)] := by rw [hWW]; exact Box.new _ _ _
      rw [← hWW]
      clear hWW
      have hbw2 := HB.out.trans (hb2.mono HB.out.size)
      have HST2 := Lib.hid (HST.out.call hb2)
      have HOW2 := Lib.hid (own_below HO.out hb2)
      have hpz : p ≠ wr.heap.size := by have := HPL.out; have := HSZ.out; omega
      have hpb : ∃ u v, Box W2 p #[.int .u32 (x.s.id : Int), u, v, .int .u64 (x.off : Int)] := HST2.out.box
      obtain ⟨u1, u2, hpb⟩ := hpb
      rw [hxo] at hpb
      have p3 : W2.cell? ⟨p, 3, none⟩ = some (.int .u64 (xo : Int)) := hpb.cell 3 rfl
      have e0 : W2.cell? ⟨wr.heap.size, 0, none⟩ = some (.int .u64 (o : Int)) := hx2.cell 0 rfl
      have ef : ∀ j, W2.frozen? ⟨wr.heap.size, j, none⟩ = false := hx2.soft
      have hpl2 : p < W2.heap.size := hpb.lt
      have hzl2 : wr.heap.size < W2.heap.size := hx2.lt
      have HX2 := Lib.hid hx2
      have HB2 := Lib.hid hb2
      clear hpb hx2 hb2 hbw2 hwf c0 c1 c2 c3 c4 c5 c6 c7 hxo ho1 hE
      go_upto_region 8 with fail
      obtain ⟨W3, hWW⟩ : ∃ W3 : World, W3 = W2.setCell ⟨wr.heap.size, 0, none⟩ (.int .u64 (o1 : Int)) := ⟨_, rfl⟩
      have hb3 : Below wr.heap.size wr W3 := by rw [hWW]; exact HB2.out.setCell (Nat.le_refl _) _
      have hx3 : Box W3 wr.heap.size #[.int .u64 (o1 : Int), .int .u8 (op : Int), .slice ra rn rc, .int .u8 kk, .int .i64 kn, .string ks, .string nm, .int .u8 (kind : Int)] := by rw [hWW]; exact HX2.out.set (j := 0) (by simp) _
      rw [← hWW]
      clear hWW p3 e0 ef hpl2 hzl2 HST2 HOW2 HX2
      have HB3 := Lib.hid (HB.out.trans (hb3.mono HB.out.size))
      have HST3 := Lib.hid (HST.out.call hb3)
      have HOW3 := Lib.hid (own_below HO.out hb3)
      have HX3 := Lib.hid hx3
      have HZ3 := Lib.hid (Nat.le_trans HSZ.out hb3.size)
      have hzl3 : wr.heap.size < W3.heap.size := hx3.lt
      clear hx3 hb3
      have d0 : W3.cell? ⟨wr.heap.size, 0, none⟩ = some (.int .u64 (o1 : Int)) := HX3.out.cell 0 rfl
      have d1 : W3.cell? ⟨wr.heap.size, 1, none⟩ = some (.int .u8 (op : Int)) := HX3.out.cell 1 rfl
      have d2 : W3.cell? ⟨wr.heap.size, 2, none⟩ = some (.slice ra rn rc) := HX3.out.cell 2 rfl
      have d3 : W3.cell? ⟨wr.heap.size, 3, none⟩ = some (.int .u8 kk) := HX3.out.cell 3 rfl
      have d4 : W3.cell? ⟨wr.heap.size, 4, none⟩ = some (.int .i64 kn) := HX3.out.cell 4 rfl
      have d5 : W3.cell? ⟨wr.heap.size, 5, none⟩ = some (.string ks) := HX3.out.cell 5 rfl
      have d6 : W3.cell? ⟨wr.heap.size, 6, none⟩ = some (.string nm) := HX3.out.cell 6 rfl
      have d7 : W3.cell? ⟨wr.heap.size, 7, none⟩ = some (.int .u8 (kind : Int)) := HX3.out.cell 7 rfl
      go_wp2_with fail
      refine (HGE.out _ HB3.out).mono ?_
      rintro e w4 ⟨rfl, hb4⟩
      have HB4 := Lib.hid (HB3.out.trans (hb4.mono HB3.out.size))
      have HST4 := Lib.hid (HST3.out.call hb4)
      have HOW4 := Lib.hid (own_below HOW3.out hb4)
      have HX4 := Lib.hid (HX3.out.call hb4)
      have HZ4 := Lib.hid (Nat.le_trans HZ3.out hb4.size)
      clear hb4 d0 d1 d2 d3 d4 d5 d6 d7 hzl3 HST3 HOW3 HX3 HB3 HST HB HO HGE
      have HWF := Lib.hid HWF.out
      generalize hg : greatE E = g at *
      cases g
      · have hzl4 : wr.heap.size < w4.heap.size := HX4.out.lt
        have d0 : w4.cell? ⟨wr.heap.size, 0, none⟩ = some (.int .u64 (o1 : Int)) := HX4.out.cell 0 rfl
        have d1 : w4.cell? ⟨wr.heap.size, 1, none⟩ = some (.int .u8 (op : Int)) := HX4.out.cell 1 rfl
        have d2 : w4.cell? ⟨wr.heap.size, 2, none⟩ = some (.slice ra rn rc) := HX4.out.cell 2 rfl
        have d3 : w4.cell? ⟨wr.heap.size, 3, none⟩ = some (.int .u8 kk) := HX4.out.cell 3 rfl
        have d4 : w4.cell? ⟨wr.heap.size, 4, none⟩ = some (.int .i64 kn) := HX4.out.cell 4 rfl
        have d5 : w4.cell? ⟨wr.heap.size, 5, none⟩ = some (.string ks) := HX4.out.cell 5 rfl
        have d6 : w4.cell? ⟨wr.heap.size, 6, none⟩ = some (.string nm) := HX4.out.cell 6 rfl
        have d7 : w4.cell? ⟨wr.heap.size, 7, none⟩ = some (.int .u8 (kind : Int)) := HX4.out.cell 7 rfl
        go_wp2_with fail
        refine (refdo_calls (OwnS (One p) u8) p x [.int .u64 (o1 : Int), .int .u8 (op : Int), .slice ra rn rc, .int .u8 kk, .int .i64 kn, .string ks, .string nm, .int .u8 (kind : Int)] E _ HST4.out (EventR.stable _ _ _ _ (HB0.out.trans (HB4.out.mono HB0.out.size)) HER.out) (by have := greatE_row hg; omega) (by have := HXO.out.few; have := HXOF.out; have := HOFF.out; have := HAC.out; have := HM.out; omega) HXO.out.lens).mono ?_
        rintro e w5 ⟨rfl, hst5, hbu5⟩
        have HST5 := Lib.hid hst5
        have HB5 := Lib.hid (HB4.out.trans (hbu5.below_base HB4.out.size (by have := HP.out; omega)))
        have HOW5 := Lib.hid (own_butS HOW4.out (S := One p) (hbu5.s rfl) (fun k hk => by have h : k = p := hk; have := HPL.out; omega))
        have HX5 := Lib.hid (HX4.out.but hbu5 HX4.out.lt (fun h => hpz h.symm))
        have HZ5 := Lib.hid (Nat.le_trans HZ4.out hbu5.size)
        clear hst5 hbu5 d0 d1 d2 d3 d4 d5 d6 d7 hzl4 HST4 HOW4 HX4
        by_cases hd : doE x E = 0
        · have hdi : (doE x E == 0) = true := by rw [beq_iff_eq]; exact hd
          have hzl5 : wr.heap.size < w5.heap.size := HX5.out.lt
          have d0 : w5.cell? ⟨wr.heap.size, 0, none⟩ = some (.int .u64 (o1 : Int)) := HX5.out.cell 0 rfl
          have d1 : w5.cell? ⟨wr.heap.size, 1, none⟩ = some (.int .u8 (op : Int)) := HX5.out.cell 1 rfl
          have d2 : w5.cell? ⟨wr.heap.size, 2, none⟩ = some (.slice ra rn rc) := HX5.out.cell 2 rfl
          have d3 : w5.cell? ⟨wr.heap.size, 3, none⟩ = some (.int .u8 kk) := HX5.out.cell 3 rfl
          have d4 : w5.cell? ⟨wr.heap.size, 4, none⟩ = some (.int .i64 kn) := HX5.out.cell 4 rfl
          have d5 : w5.cell? ⟨wr.heap.size, 5, none⟩ = some (.string ks) := HX5.out.cell 5 rfl
          have d6 : w5.cell? ⟨wr.heap.size, 6, none⟩ = some (.string nm) := HX5.out.cell 6 rfl
          have d7 : w5.cell? ⟨wr.heap.size, 7, none⟩ = some (.int .u8 (kind : Int)) := HX5.out.cell 7 rfl
          have hrm := ev_room HAC.out hltm HM.out
          have HCL7 := Lib.hid (cells_newE w5 [.int .u64 (o1 : Int), .int .u8 (op : Int), .slice ra rn rc, .int .u8 kk, .int .i64 kn, .string ks, .string nm, .int .u8 (kind : Int)] 32)
          have HBASE7 := Lib.hid (show W1.heap.size ≤ (w5.alloc (.cells #[.int .u64 (o1 : Int), .int .u8 (op : Int), .slice ra rn rc, .int .u8 kk, .int .i64 kn, .string ks, .string nm, .int .u8 (kind : Int)] 32)).heap.size by have := HZ5.out; simp; omega)
          have HON := Lib.hid (show ∀ u ∈ ([.int .u64 (o1 : Int), .int .u8 (op : Int), .slice ra rn rc, .int .u8 kk, .int .i64 kn, .string ks, .string nm, .int .u8 (kind : Int)] : List Value), u.oneCell' = true from by simp [Value.oneCell'])
          go_wp2_with (at_builtin; refine wpList_append_lies _ rfl _ _ _ rfl W1.heap.size 32 i0 (.agg #[.int .u64 0, .int .u8 0, .slice none 0 0, .int .u8 0, .int .i64 0, .string ByteArray.empty, .string ByteArray.empty, .int .u8 0]) 8 96 Try.underlying40 HI.out HZ0.out HZ1.out HZ2.out rfl (by decide) _ _ _ rfl (HOW5.out.alloc _) ⟨w5.heap.size, 0, none⟩ 1 1 [.int .u64 (o1 : Int), .int .u8 (op : Int), .slice ra rn rc, .int .u8 kk, .int .i64 kn, .string ks, .string nm, .int .u8 (kind : Int)] rfl rfl HCL7.out HON.out (by decide) hrm.1 hrm.2 HBASE7.out _ rfl ?_; intro g7 cap7 w7 hown7 hgrow7 hat7 hglt7; refine Hold.out ?_)
          unfold Hold
          have HB7 := Lib.hid (below_append (own_base HOW5.out (show w.heap.size ≤ W1.heap.size from HB1.out.size)) HB5.out hgrow7)
          have HST7 := Lib.hid (RefSt.grow (v' := .slice (some ⟨g7, 0, none⟩) (acc.length + 1) cap7) HST5.out ((Below.refl _ _).alloc (Nat.le_refl _) _) hgrow7 (fun j e => by
            simp [Value.ownBlock] at e
            subst e
            rcases hat7 with h | h
            · exact .inl h
            · exact .inr (by rw [h]; simp)) rfl (fun e => by have := (HOW5.out.lt _ e).1; have := HPL.out; omega) (fun j e => by
            simp [Value.ownBlock] at e
            subst e
            exact hglt7))
          have HO7 := Lib.hid (show w7.ownsRow W1.heap.size 32 8 (.slice (some ⟨g7, 0, none⟩) (acc.length + 1) cap7) (acc ++ [((E, .slice ra rn rc) : EvPair)]).length ((acc ++ [((E, .slice ra rn rc) : EvPair)]).flatMap evV) by
            rw [List.flatMap_append, List.length_append, List.flatMap_cons, List.flatMap_nil, List.append_nil, HEV1.out]
            exact hown7)
          have HZ7 := Lib.hid (show W1.heap.size ≤ w7.heap.size by have := hgrow7.size; have := HBASE7.out; omega)
          clear hown7 hgrow7 hat7 hglt7
          have HTK := Lib.hid (show (acc ++ [((E, .slice ra rn rc) : EvPair)]).map Prod.fst ++ wellF (doS x E) (((LP.take m).drop (k + 1)).map Prod.fst) = WS by
            rw [← HWF.out, if_pos ⟨trivial, hd⟩, List.map_append, List.append_assoc]; rfl)
          have HOKX := Lib.hid (doS_ok HXO.out HER.out.ok hd)
          go_wp2
          have hm60 : m ≤ 60 := HM.out
          go_roundw
          case rel => exact ⟨k + 1, acc ++ [((E, .slice ra rn rc) : EvPair)], doS x E, by omega, by omega, by go_num, HO7.out, HTK.out, (fun q hq => by
            rcases List.mem_append.1 hq with h | h
            · exact HAE.out q h
            · rw [List.mem_singleton] at h
              subst h
              rw [HEV1.out]
              exact HER.out), by rw [HOKX.out.2, HXOF.out, HOFF.out, List.length_append]; rfl, by have := HAC.out; simp only [List.length_append, List.length_cons, List.length_nil]; omega, HOKX.out.1, HST7.out, HZ7.out, HB7.out⟩
          case measure => exact measE hlt hw64
        · have hdi : (doE x E == 0) = false := by rw [beq_eq_false_iff_ne]; exact hd
          have HTK := Lib.hid (show acc.map Prod.fst ++ wellF x (((LP.take m).drop (k + 1)).map Prod.fst) = WS by rw [← HWF.out, if_neg (fun h => hd h.2)])
          have HSX := Lib.hid (show RefSt (OwnS (One p) u8) w5 p x by rw [← doS_refused hd]; exact HST5.out)
          go_wp2
          have hm60 : m ≤ 60 := HM.out
          go_roundw
          case rel => exact ⟨k + 1, acc, x, by omega, by omega, by go_num, HOW5.out, HTK.out, HAE.out, by rw [HXOF.out]; exact HOFF.out, by have := HAC.out; omega, HXO.out, HSX.out, HZ5.out, HB5.out⟩
          case measure => exact measE hlt hw64
      · have HTK := Lib.hid (show acc.map Prod.fst ++ wellF x (((LP.take m).drop (k + 1)).map Prod.fst) = WS by rw [← HWF.out, if_neg (fun h => by cases h.1)])
        go_wp2
        have hm60 : m ≤ 60 := HM.out
        go_roundw
        case rel => exact ⟨k + 1, acc, x, by omega, by omega, by go_num, HOW4.out, HTK.out, HAE.out, by rw [HXOF.out]; exact HOFF.out, by have := HAC.out; omega, HXO.out, HST4.out, HZ4.out, HB4.out⟩
        case measure => exact measE hlt hw64
    · obtain ⟨a5, c5, rfl, _⟩ := own_slice HO.out
      have HFIN := Lib.hid (show acc.map Prod.fst = WS by
        rw [← HTOT.out, List.drop_of_length_le (by rw [List.length_take]; have := HLN.out; omega)]
        show _ = acc.map Prod.fst ++ []
        rw [List.append_nil])
      rcases Decidable.em (k < n) with hlt1 | hlt1
      · have hkni : (k : Int) < (n : Int) := by omega
        have hkmi : ¬ (k : Int) < (m : Int) := by omega
        go_wp2
        go_ret
        exact ⟨_, acc, rfl, own_base HO.out HB1.out.size, HFIN.out.trans HWS.out.symm, HAE.out, by have := HAC.out; omega, HB.out⟩
      · have hkni : ¬ (k : Int) < (n : Int) := by omega
        go_wp2
        go_ret
        exact ⟨_, acc, rfl, own_base HO.out HB1.out.size, HFIN.out.trans HWS.out.symm, HAE.out, by have := HAC.out; omega, HB.out⟩
end Go.Proofs.Ytlclhinianamhaa
