/- (*event.State).Do: what is refused. -/
import Derived.Test.YtlclhinianamhaaEvImm
namespace Go.Proofs.Ytlclhinianamhaa
open Go.RowKit Go.Deep
set_option linter.unusedVariables false
set_option linter.unusedSimpArgs false

def IDoPost (S : Nat → Prop) (p bm : Nat) (x : StD) (e : EventD) (w : World) (r : Ending) (w' : World) : Prop := r = .returned (.int .i64 (doE x e)) ∧ ImpSt S w' p bm (doS x e) ∧ ButS (Two p bm) w.heap.size w w'
theorem IDoPost.refused {S : Nat → Prop} {p bm : Nat} {x : StD} {e : EventD} {w W : World} {r : Int} (hd : doE x e = r) (h0 : r ≠ 0) {fa : Option Addr} {fn fc : Nat} {M : List VPair} (h : ImpBox S W p bm x fa fn fc M) (hb : Below w.heap.size w W) : IDoPost S p bm x e w (.returned (.int .i64 r)) W := by
  refine ⟨by rw [hd], ?_, (ButS.refl (Nat.le_refl _)).call hb⟩
  rw [doS_refused (by rw [hd]; exact h0)]
  exact ⟨_, _, _, _, h⟩
theorem del_key {s : SchemaD} {e : EventD} (h : checkE s e = 0) (ho : e.op = 2) : fix e.key = e.key := by
  unfold checkE at h
  by_cases hc : schemaChk s = 0
  · rw [if_neg (by rw [hc]; simp), if_neg (by omega), if_neg (by omega)] at h
    split at h
    · exact absurd h (by decide)
    · rw [if_neg (by rw [ho]; decide)] at h
      unfold keyE at h
      split at h
      · rename_i h'; exact absurd h h'
      · rename_i h'; have h2 := Classical.not_not.1 h'; unfold fix; simp [h2]
  · rw [if_pos hc] at h
    exact absurd h hc
theorem step_deleteM {ops : Array Oper} {o : Oper} {a : Act} {w : World} {K : Act → World → Prop} {Q : Exit → Act → World → Prop} {E : Prop} (hg : o.guard = none) (m x : Operand)
    (hop : o.op = Op.call { callee := Callee.builtin Builtin.delete, args := #[m, x], argTypes := #[91, 30] }) (bm : Nat) (key : Value) (w6 : World) (hm : a.eval m = .map (some bm)) (hx : a.eval x = key)
    (hrun : ∀ ty, (Builtin.delete_ #[91, 30] ty #[.map (some bm), key]).run Try.prog w = .ok (.tuple #[]) w6) (hK : K (a.put o.dst (.tuple #[])) w6) :
    if Region.wanted o (yielded ops a.tmps) = true then Oper.wp Try.prog o a w K Q else E := by
  have hw : Region.wanted o (yielded ops a.tmps) = true := by simp [Region.wanted, hg]
  rw [if_pos hw]
  unfold Oper.wp
  simp [execOp, hop, resolve, invoke, builtin, hm, hx, hrun, Result.andThen]
  exact hK
theorem put_vals {s : SchemaD} {e : EventD} (h : checkE s e = 0) (ho : e.op = 1) : valuesE s e.row = 0 ∧ chkRow e.row = 0 := by
  have h0 := h
  unfold checkE at h
  by_cases hc : schemaChk s = 0
  · rw [if_neg (by rw [hc]; simp), if_neg (by omega), if_neg (by omega)] at h
    split at h
    · exact absurd h (by decide)
    · try rw [if_pos ho] at h
      refine ⟨h, ?_⟩
      unfold valuesE at h
      split at h
      · rename_i h'; exact absurd h h'
      · rename_i h'; exact Classical.not_not.1 h'
  · rw [if_pos hc] at h
    exact absurd h hc
/-- Blocks of S, and one more. -/
def AndS (S : Nat → Prop) (r k : Nat) : Prop := S k ∨ k = r
theorem Far.plus {S : Nat → Prop} {w w' : World} {Q : World → Prop} {r : Nat} (h : Far S w Q) (hb : Below w.heap.size w w') (hr : w.heap.size ≤ r) : Far (AndS S r) w' Q := fun W hW =>
  h W ⟨hW.os.trans hb.os, hW.tape.trans hb.tape, hW.output.trans hb.output, Nat.le_trans hb.size hW.size, fun k hk hs => (hW.block k (Nat.lt_of_lt_of_le hk hb.size) (fun e => by rcases e with e | e; exact hs e; omega)).trans (hb.block k hk)⟩
theorem ButS.plus {S : Nat → Prop} {r : Nat} {w w' : World} (h : w.grownBy w' (some r)) : ButS (AndS S r) w.heap.size w w' := ⟨h.os, h.tape, h.output, h.size, fun k hk hs => h.block k hk (fun e => hs (.inr (by cases e; rfl)))⟩
theorem below_grown_own {w0 w w' : World} {e : TypeId} {size n : Nat} {v : Value} {xs : List Value} (hb : Below w0.heap.size w0 w) (hown : w.ownsRow w0.heap.size e size v n xs) (hg : w.grownBy w' v.ownBlock) : Below w0.heap.size w0 w' := hb.grown hg hb.size (fun k hk => (hown.lt k hk).1)
theorem IterAt.store2 {w : World} {bm r : Nat} {M : List VPair} {vis : List Nat} {j : Nat} {row : List ValD} {v v' : Value} {ck cn : Int} {cs : ByteArray} (h : IterAt w bm r M vis) (hq : M[j]? = some (row, v)) (hw : ∀ v', keyV (row ++ [.nil], v') = keyV (row, v)) (hk : keyV (row, v) = ⟨ck, cn, cs⟩) :
    ∃ w7, (Instr.mapUpdate 91 (.map (some bm)) (.agg #[.int .u8 ck, .int .i64 cn, .string cs]) v').run Try.prog w = .ok () w7 ∧ IterAt w7 bm r (M.set j (row ++ [.nil], v')) vis ∧ w7.rangeLeft bm r = w.rangeLeft bm r ∧ But w.heap.size bm w w7 := by
  obtain ⟨w7, hrun, h1, h2, h3, _⟩ := h.store (q' := (row ++ [.nil], v')) hq (hw v')
  rw [hw v', hk] at hrun
  exact ⟨w7, hrun, h1, h2, But.of_grown h3⟩
theorem one_of_box {w : World} {b : Nat} {x : Value} (h : Box w b #[x]) : ∀ j u, [x][j]? = some u → w.cell? ((⟨b, 0, none⟩ : Addr).add j) = some u := fun j u hj => by
  rw [show ((⟨b, 0, none⟩ : Addr).add j) = ⟨b, j, none⟩ by (simp [Addr.add] <;> omega)]
  exact h.cells j u (by simpa using hj)
theorem wide_room16 {n : Nat} (h : n ≤ 1000) : n + 1 ≤ maxLen ∧ (n + 1) * 16 ≤ 140737488355328 := by unfold maxLen; omega
set_option maxRecDepth 100000 in
set_option maxHeartbeats 16000000 in
theorem ido_refused (S : Nat → Prop) (p bm : Nat) (x : StD) (ecs : List Value) (e : EventD) (w : World) (hst : ImpSt S w p bm x) (he : EventR w ecs e) (hrl : e.row.length ≤ 1000) (hl : x.l.length ≤ 1000) (hbad : doE x e ≠ 0) :
    Calls Try.prog 17 #[.pointer (some ⟨p, 0, none⟩), .agg ecs.toArray] w (IDoPost S p bm x e w) := by
  obtain ⟨fa, fn, fc, M, hst⟩ := hst
  have HST := Lib.hid hst
  have HEV := Lib.hid he
  obtain ⟨ra, rn, rc, rfl, he1, he2, he3, hrow, ho, hop, hk, hnm, hkd⟩ := he
  have HROW := Lib.hid hrow
  have HK := Lib.hid hk
  have HNM := Lib.hid hnm
  have hrn : rn ≤ 1000 := by rw [← hrow.1]; exact hrl
  have hoff := hst.off
  obtain ⟨R, hR⟩ : ∃ R, checkE x.s e = R := ⟨_, rfl⟩
  have HCHK := Lib.hid (fun W h1 h2 => echeck_calls [.int .u32 (x.s.id : Int), .slice fa fn fc] (e.cells (.slice ra rn rc)) x.s e W h1 h2 (by omega))
  rw [hR] at HCHK
  have HR := Lib.hid hR
  have HL := Lib.hid hl
  have HBAD := Lib.hid hbad
  clear hbad
  obtain ⟨o, op, row, key, nm, kind⟩ := e
  obtain ⟨kk, kn, ks⟩ := key
  simp only [] at ho hop hkd HNM HROW HK
  unfold EventD.cells at HEV HCHK ⊢
  try simp only [] at HCHK
  try simp only [] at HEV
  try simp only []
  have hpl : p < w.heap.size := hst.box.lt
  generalize hxo : x.off = xo at *
  have HXO := Lib.hid hxo
  have HD := Lib.hid (show doE x ⟨o, op, row, ⟨kk, kn, ks⟩, nm, kind⟩ = if xo = 18446744073709551615 ∨ o ≠ xo + 1 then 220 else R by unfold doE; rw [hxo, hR])
  clear hst hrow he1 he2 he3 hk hnm hrl hR hl hxo
  go_enter Try.func17, Try.ntmps17
  go_upto_region 1 with fail
  obtain ⟨W0, hWW⟩ : ∃ W0 : World, W0 = w.alloc (.cells #[.int .u64 (o : Int), .int .u8 (op : Int), .slice ra rn rc, .int .u8 kk, .int .i64 kn, .string ks, .string nm, .int .u8 (kind : Int)] 32) := ⟨_, rfl⟩
  have hb0 : Below w.heap.size w W0 := by rw [hWW]; exact (Below.refl _ _).alloc (Nat.le_refl _) _
  have hx0 : Box W0 w.heap.size #[.int .u64 (o : Int), .int .u8 (op : Int), .slice ra rn rc, .int .u8 kk, .int .i64 kn, .string ks, .string nm, .int .u8 (kind : Int)] := by rw [hWW]; exact Box.new _ _ _
  rw [← hWW]
  clear hWW
  have HB0 := Lib.hid hb0
  have X0 := Lib.hid hx0
  have hst0 := HST.out.call hb0
  have hpb := hst0.box
  rw [HXO.out] at hpb
  have HST0 := Lib.hid hst0
  have PB0 := Lib.hid hpb
  have hpl0 : p < W0.heap.size := hpb.lt
  have hzl0 : w.heap.size < W0.heap.size := hx0.lt
  clear hb0 hx0 hst0 hpb hpl
  have p3 : W0.cell? ⟨p, 3, none⟩ = some (.int .u64 (xo : Int)) := PB0.out.cell 3 rfl
  have e0 : W0.cell? ⟨w.heap.size, 0, none⟩ = some (.int .u64 (o : Int)) := X0.out.cell 0 rfl
  by_cases hz : o = 0
  · have hzi : ((o : Int) == 0) = true := by rw [beq_iff_eq]; omega
    have HD1 := Lib.hid (show doE x ⟨o, op, row, ⟨kk, kn, ks⟩, nm, kind⟩ = 220 by rw [HD.out, if_pos (Or.inr (by omega))])
    go_quiet (fail)
    go_wp2
    go_ret
    exact IDoPost.refused HD1.out (by decide) (HST0.out.call (below_drewN (Below.refl _ _) _)) (below_drewN HB0.out _)
  · have hzi : ((o : Int) == 0) = false := by rw [beq_eq_false_iff_ne]; omega
    have hxw : IntKind.u64.wrap ((o : Int) - 1) = (o : Int) - 1 := IntWalk.u64_in _ (by omega)
    by_cases hoe : o = xo + 1
    · have hoi : ((o : Int) - 1 != (xo : Int)) = false := by simp; omega
      have HD1 := Lib.hid (show doE x ⟨o, op, row, ⟨kk, kn, ks⟩, nm, kind⟩ = R by rw [HD.out, if_neg (by omega)])
      have hr0 : R ≠ 0 := fun h => HBAD.out (HD1.out.trans h)
      have HOE := Lib.hid hoe
      clear hoe
      go_quiet (fail)
      go_wp2_with fail
      generalize hW1 : W0.drewN nq = W1 at *
      have hb1 : Below W0.heap.size W0 W1 := by rw [← hW1]; exact below_drewN (Below.refl _ _) _
      have HB1 := Lib.hid (HB0.out.trans (hb1.mono HB0.out.size))
      have X1 := Lib.hid (X0.out.call hb1)
      have PB1 := Lib.hid (PB0.out.call hb1)
      have HST1 := Lib.hid (HST0.out.call hb1)
      clear hb1 hW1 p3 e0 hpl0 hzl0
      have hS : ∀ W, Below W1.heap.size W1 W → W.cell? ⟨p, 0, none⟩ = some (.int .u32 (x.s.id : Int)) ∧ W.cell? ⟨p, 1, none⟩ = some (.slice fa fn fc) ∧ W.cell? ⟨p, 2, none⟩ = some (.map (some bm)) ∧ W.cell? ⟨p, 3, none⟩ = some (.int .u64 (xo : Int)) ∧ W.cell? ⟨w.heap.size, 0, none⟩ = some (.int .u64 (o : Int)) ∧ W.cell? ⟨w.heap.size, 1, none⟩ = some (.int .u8 (op : Int)) ∧ W.cell? ⟨w.heap.size, 2, none⟩ = some (.slice ra rn rc) ∧ W.cell? ⟨w.heap.size, 3, none⟩ = some (.int .u8 kk) ∧ W.cell? ⟨w.heap.size, 4, none⟩ = some (.int .i64 kn) ∧ W.cell? ⟨w.heap.size, 5, none⟩ = some (.string ks) ∧ W.cell? ⟨w.heap.size, 6, none⟩ = some (.string nm) ∧ W.cell? ⟨w.heap.size, 7, none⟩ = some (.int .u8 (kind : Int)) := fun W h => ⟨(PB1.out.call h).cell 0 rfl, (PB1.out.call h).cell 1 rfl, (PB1.out.call h).cell 2 rfl, (PB1.out.call h).cell 3 rfl, (X1.out.call h).cell 0 rfl, (X1.out.call h).cell 1 rfl, (X1.out.call h).cell 2 rfl, (X1.out.call h).cell 3 rfl, (X1.out.call h).cell 4 rfl, (X1.out.call h).cell 5 rfl, (X1.out.call h).cell 6 rfl, (X1.out.call h).cell 7 rfl⟩
      have HSS := Lib.hid hS
      clear hS
      have HCK2 := Lib.hid (fun W (h : Below W1.heap.size W1 W) => HCHK.out W (HST1.out.call h).schema (EventR.stable _ _ _ _ (below_step HB1.out h) HEV.out))
      go_region_held3 (fun W => W.cell? ⟨p, 0, none⟩ = some (.int .u32 (x.s.id : Int)) ∧ W.cell? ⟨p, 1, none⟩ = some (.slice fa fn fc) ∧ W.cell? ⟨p, 2, none⟩ = some (.map (some bm)) ∧ W.cell? ⟨p, 3, none⟩ = some (.int .u64 (xo : Int)) ∧ W.cell? ⟨w.heap.size, 0, none⟩ = some (.int .u64 (o : Int)) ∧ W.cell? ⟨w.heap.size, 1, none⟩ = some (.int .u8 (op : Int)) ∧ W.cell? ⟨w.heap.size, 2, none⟩ = some (.slice ra rn rc) ∧ W.cell? ⟨w.heap.size, 3, none⟩ = some (.int .u8 kk) ∧ W.cell? ⟨w.heap.size, 4, none⟩ = some (.int .i64 kn) ∧ W.cell? ⟨w.heap.size, 5, none⟩ = some (.string ks) ∧ W.cell? ⟨w.heap.size, 6, none⟩ = some (.string nm) ∧ W.cell? ⟨w.heap.size, 7, none⟩ = some (.int .u8 (kind : Int)))
        (first | exact HSS.out _ K2.out | exact HSS.out _ (Below.refl _ _).drew)
        (first
          | (go_at_call 12; (with_reducible refine (HCK2.out _ (Below.drew (Below.refl _ _))).mono ?_); rintro e w2 ⟨rfl, hp2⟩; have K2 := Lib.hid (below_step (W0 := W1) (Below.drew (Below.refl _ _)) hp2); clear hp2)
          | fail)
      have hb2 := HB1.out.trans (K2.out.mono HB1.out.size)
      have HB2 := Lib.hid hb2
      have X2 := Lib.hid (X1.out.call K2.out)
      have PB2 := Lib.hid (PB1.out.call K2.out)
      have HST2 := Lib.hid (HST1.out.call K2.out)
      clear hb2 K2 HSS HCK2
      have hrb : (R != 0) = true := by simpa using hr0
      go_wp2
      go_ret
      exact IDoPost.refused HD1.out hr0 HST2.out HB2.out
    · have hoi : ((o : Int) - 1 != (xo : Int)) = true := by simp; omega
      have HD1 := Lib.hid (show doE x ⟨o, op, row, ⟨kk, kn, ks⟩, nm, kind⟩ = 220 by rw [HD.out, if_pos (Or.inr hoe)])
      go_quiet (fail)
      go_wp2
      go_ret
      exact IDoPost.refused HD1.out (by decide) (HST0.out.call (below_drewN (Below.refl _ _) _)) (below_drewN HB0.out _)
end Go.Proofs.Ytlclhinianamhaa
