/- (*catchmentref22.State).Do: what is refused. -/
import Derived.Test.YtlclhinianamhaaEvStA
import Derived.Test.YtlclhinianamhaaVlRefCmp
namespace Go.Proofs.Ytlclhinianamhaa
open Go.RowKit Go.Deep
set_option linter.unusedVariables false
set_option linter.unusedSimpArgs false

theorem checkE_op {s : SchemaD} {e : EventD} (h : checkE s e = 0) : schemaChk s = 0 ∧ 1 ≤ e.op ∧ e.op ≤ 3 ∧ onlyB e = true := by
  unfold checkE at h
  by_cases hc : schemaChk s = 0
  · rw [if_neg (by rw [hc]; simp)] at h
    split at h
    · exact absurd h (by decide)
    · split at h
      · exact absurd h (by decide)
      · split at h
        · exact absurd h (by decide)
        · rename_i h3
          refine ⟨hc, by omega, by omega, ?_⟩
          cases ho : onlyB e
          · exact absurd ho h3
          · rfl
  · rw [if_pos hc] at h
    exact absurd h hc
theorem doE_ok {x : StD} {e : EventD} (h : doE x e = 0) : x.off ≠ 18446744073709551615 ∧ e.offset = x.off + 1 ∧ checkE x.s e = 0 := by
  unfold doE at h
  split at h
  · exact absurd h (by decide)
  · rename_i h'
    exact ⟨fun e => h' (.inl e), by omega, h⟩
theorem room1 {n k ln : Nat} (h1 : ln ≤ 1000) (h2 : n ≤ k + 1) (h3 : k ≤ ln) : n + 1 ≤ maxLen ∧ (n + 1) * 24 ≤ 140737488355328 := by unfold maxLen; omega
theorem room2 {n k ln : Nat} (h1 : ln ≤ 1000) (h2 : n ≤ k + 1) (h3 : k ≤ ln) : n + 1 + 1 ≤ maxLen ∧ (n + 1 + 1) * 24 ≤ 140737488355328 := by unfold maxLen; omega
theorem infoRowE : (Try.prog.info? 27).map (fun i => (i.zero, i.size, i.bytes)) = some (some (.slice none 0 0), 1, 24) := by kernel_rfl
theorem put_len {s : SchemaD} {e : EventD} (h : checkE s e = 0) (ho : e.op = 1) : 1 ≤ e.row.length ∧ fitE s (e.row.map fix) = 0 := by
  unfold checkE at h
  by_cases hc : schemaChk s = 0
  · rw [if_neg (by rw [hc]; simp), if_neg (by omega), if_neg (by omega)] at h
    split at h
    · exact absurd h (by decide)
    · try rw [if_pos ho] at h
      unfold valuesE at h
      split at h
      · rename_i h'; exact absurd h h'
      · refine ⟨?_, h⟩
        have h1 := (schemaChk_len hc).1
        unfold fitE at h
        split at h
        · exact absurd h (by decide)
        · rename_i h2
          rw [List.length_map] at h2
          omega
  · rw [if_pos hc] at h
    exact absurd h hc
def DoPost (S : Nat → Prop) (p : Nat) (x : StD) (e : EventD) (w : World) (r : Ending) (w' : World) : Prop := r = .returned (.int .i64 (doE x e)) ∧ RefSt S w' p (doS x e) ∧ But w.heap.size p w w'
theorem doS_refused {x : StD} {e : EventD} (h : doE x e ≠ 0) : doS x e = x := by unfold doS; rw [if_pos h]
theorem DoPost.refused {S : Nat → Prop} {p : Nat} {x : StD} {e : EventD} {w W : World} {r : Int} (hd : doE x e = r) (h0 : r ≠ 0) {fa la : Option Addr} {fn fc ln lc : Nat} {P : List Pair} (h : RefBox S W p x fa fn fc la ln lc P) (hb : Below w.heap.size w W) (n : Nat) : DoPost S p x e w (.returned (.int .i64 r)) (W.drewN n) := by
  refine ⟨by rw [hd], ?_, (But.refl (Nat.le_refl _)).call (below_drewN hb _)⟩
  rw [doS_refused (by rw [hd]; exact h0)]
  exact ⟨_, _, _, _, _, _, _, h.call (below_drewN (Below.refl _ _) _)⟩
theorem DoPost.refused0 {S : Nat → Prop} {p : Nat} {x : StD} {e : EventD} {w W : World} {r : Int} (hd : doE x e = r) (h0 : r ≠ 0) {fa la : Option Addr} {fn fc ln lc : Nat} {P : List Pair} (h : RefBox S W p x fa fn fc la ln lc P) (hb : Below w.heap.size w W) : DoPost S p x e w (.returned (.int .i64 r)) W := by
  refine ⟨by rw [hd], ?_, (But.refl (Nat.le_refl _)).call hb⟩
  rw [doS_refused (by rw [hd]; exact h0)]
  exact ⟨_, _, _, _, _, _, _, h⟩
set_option maxRecDepth 100000 in
set_option maxHeartbeats 16000000 in
theorem refdo_refused (S : Nat → Prop) (p : Nat) (x : StD) (ecs : List Value) (e : EventD) (w : World) (hst : RefSt S w p x) (he : EventR w ecs e) (hrl : e.row.length ≤ 100000) (hl : x.l.length ≤ 1000) (hne : ∀ r ∈ x.l, 1 ≤ r.length) (hbad : doE x e ≠ 0) :
    Calls Try.prog 29 #[.pointer (some ⟨p, 0, none⟩), .agg ecs.toArray] w (DoPost S p x e w) := by
  obtain ⟨fa, fn, fc, la, ln, lc, P, hst⟩ := hst
  have HST := Lib.hid hst
  have HEV := Lib.hid he
  obtain ⟨ra, rn, rc, rfl, he1, he2, he3, hrow, ho, hop, hk, hnm, hkd⟩ := he
  have HROW := Lib.hid hrow
  have HK := Lib.hid hk
  have HNM := Lib.hid hnm
  have hrn : rn ≤ 100000 := by rw [← hrow.1]; exact hrl
  have hoff := hst.off
  obtain ⟨i0, hi0, hz0, hz1, hz2⟩ := info_parts infoRowE
  have HI := Lib.hid hi0
  have HZ0 := Lib.hid hz0
  have HZ1 := Lib.hid hz1
  have HZ2 := Lib.hid hz2
  clear hi0 hz0 hz1 hz2
  obtain ⟨R, hR⟩ : ∃ R, checkE x.s e = R := ⟨_, rfl⟩
  have HCHK := Lib.hid (fun W h1 h2 => refchk_calls [.int .u32 (x.s.id : Int), .slice fa fn fc] (e.cells (.slice ra rn rc)) x.s e W h1 h2 hrl)
  rw [hR] at HCHK
  have HR := Lib.hid hR
  have HNE := Lib.hid hne
  have HL := Lib.hid hl
  have HBAD := Lib.hid hbad
  clear hbad
  obtain ⟨o, op, row, key, nm, kind⟩ := e
  obtain ⟨kk, kn, ks⟩ := key
  simp only [] at ho hop hkd HNM HROW HK
  unfold EventD.cells at HEV HCHK ⊢
  try simp only [] at HCHK
  try simp only [] at HEV
  try simp only []
  have hpl : p < w.heap.size := hst.box.lt
  generalize hxo : x.off = xo at *
  have HXO := Lib.hid hxo
  have HD := Lib.hid (show doE x ⟨o, op, row, ⟨kk, kn, ks⟩, nm, kind⟩ = if xo = 18446744073709551615 ∨ o ≠ xo + 1 then 220 else R by unfold doE; rw [hxo, hR])
  clear hst hrow he1 he2 he3 hk hnm hrl hR hne hl hxo
  go_enter Try.func29, Try.ntmps29
  go_upto_region 1 with fail
  obtain ⟨W0, hWW⟩ : ∃ W0 : World, W0 = w.alloc (.cells #[.int .u64 (o : Int), .int .u8 (op : Int), .slice ra rn rc, .int .u8 kk, .int .i64 kn, .string ks, .string nm, .int .u8 (kind : Int)] 32) := ⟨_, rfl⟩
  have hb0 : Below w.heap.size w W0 := by rw [hWW]; exact (Below.refl _ _).alloc (Nat.le_refl _) _
  have hx0 : Box W0 w.heap.size #[.int .u64 (o : Int), .int .u8 (op : Int), .slice ra rn rc, .int .u8 kk, .int .i64 kn, .string ks, .string nm, .int .u8 (kind : Int)] := by rw [hWW]; exact Box.new _ _ _
  rw [← hWW]
  clear hWW
  have HB0 := Lib.hid hb0
  have X0 := Lib.hid hx0
  have hst0 := HST.out.call hb0
  have hpb := hst0.box
  rw [HXO.out] at hpb
  have HST0 := Lib.hid hst0
  have PB0 := Lib.hid hpb
  have hpl0 : p < W0.heap.size := hpb.lt
  have hzl0 : w.heap.size < W0.heap.size := hx0.lt
  clear hb0 hx0 hst0 hpb hpl
  have p3 : W0.cell? ⟨p, 3, none⟩ = some (.int .u64 (xo : Int)) := PB0.out.cell 3 rfl
  have e0 : W0.cell? ⟨w.heap.size, 0, none⟩ = some (.int .u64 (o : Int)) := X0.out.cell 0 rfl
  by_cases hmax : xo = 18446744073709551615
  · have hmi : ((xo : Int) == 18446744073709551615) = true := by rw [beq_iff_eq]; omega
    have HD1 := Lib.hid (show doE x ⟨o, op, row, ⟨kk, kn, ks⟩, nm, kind⟩ = 220 by rw [HD.out, if_pos (Or.inl hmax)])
    go_quiet (fail)
    go_wp2
    go_ret
    exact DoPost.refused HD1.out (by decide) HST0.out HB0.out nq
  · have hmi : ((xo : Int) == 18446744073709551615) = false := by rw [beq_eq_false_iff_ne]; omega
    have hxw : IntKind.u64.wrap ((xo : Int) + 1) = (xo : Int) + 1 := IntWalk.u64_in _ (by omega)
    by_cases hoe : o = xo + 1
    · have hoi : ((o : Int) != (xo : Int) + 1) = false := by simp; omega
      have HD1 := Lib.hid (show doE x ⟨o, op, row, ⟨kk, kn, ks⟩, nm, kind⟩ = R by rw [HD.out, if_neg (by omega)])
      have hr0 : R ≠ 0 := fun h => HBAD.out (HD1.out.trans h)
      have HOE := Lib.hid hoe
      clear hoe
      go_quiet (fail)
      go_wp2_with fail
      generalize hW1 : W0.drewN nq = W1 at *
      have hb1 : Below W0.heap.size W0 W1 := by rw [← hW1]; exact below_drewN (Below.refl _ _) _
      have HB1 := Lib.hid (HB0.out.trans (hb1.mono HB0.out.size))
      have X1 := Lib.hid (X0.out.call hb1)
      have PB1 := Lib.hid (PB0.out.call hb1)
      have HST1 := Lib.hid (HST0.out.call hb1)
      clear hb1 hW1 p3 e0 hpl0 hzl0
      have hS : ∀ W, Below W1.heap.size W1 W → W.cell? ⟨p, 0, none⟩ = some (.int .u32 (x.s.id : Int)) ∧ W.cell? ⟨p, 1, none⟩ = some (.slice fa fn fc) ∧ W.cell? ⟨w.heap.size, 0, none⟩ = some (.int .u64 (o : Int)) ∧ W.cell? ⟨w.heap.size, 1, none⟩ = some (.int .u8 (op : Int)) ∧ W.cell? ⟨w.heap.size, 2, none⟩ = some (.slice ra rn rc) ∧ W.cell? ⟨w.heap.size, 3, none⟩ = some (.int .u8 kk) ∧ W.cell? ⟨w.heap.size, 4, none⟩ = some (.int .i64 kn) ∧ W.cell? ⟨w.heap.size, 5, none⟩ = some (.string ks) ∧ W.cell? ⟨w.heap.size, 6, none⟩ = some (.string nm) ∧ W.cell? ⟨w.heap.size, 7, none⟩ = some (.int .u8 (kind : Int)) := fun W h => ⟨(PB1.out.call h).cell 0 rfl, (PB1.out.call h).cell 1 rfl, (X1.out.call h).cell 0 rfl, (X1.out.call h).cell 1 rfl, (X1.out.call h).cell 2 rfl, (X1.out.call h).cell 3 rfl, (X1.out.call h).cell 4 rfl, (X1.out.call h).cell 5 rfl, (X1.out.call h).cell 6 rfl, (X1.out.call h).cell 7 rfl⟩
      have HSS := Lib.hid hS
      clear hS
      have HCK2 := Lib.hid (fun W (h : Below W1.heap.size W1 W) => HCHK.out W (HST1.out.call h).schema (EventR.stable _ _ _ _ (below_step HB1.out h) HEV.out))
      go_region_held3 (fun W => W.cell? ⟨p, 0, none⟩ = some (.int .u32 (x.s.id : Int)) ∧ W.cell? ⟨p, 1, none⟩ = some (.slice fa fn fc) ∧ W.cell? ⟨w.heap.size, 0, none⟩ = some (.int .u64 (o : Int)) ∧ W.cell? ⟨w.heap.size, 1, none⟩ = some (.int .u8 (op : Int)) ∧ W.cell? ⟨w.heap.size, 2, none⟩ = some (.slice ra rn rc) ∧ W.cell? ⟨w.heap.size, 3, none⟩ = some (.int .u8 kk) ∧ W.cell? ⟨w.heap.size, 4, none⟩ = some (.int .i64 kn) ∧ W.cell? ⟨w.heap.size, 5, none⟩ = some (.string ks) ∧ W.cell? ⟨w.heap.size, 6, none⟩ = some (.string nm) ∧ W.cell? ⟨w.heap.size, 7, none⟩ = some (.int .u8 (kind : Int)))
        (first | exact HSS.out _ K2.out | exact HSS.out _ (Below.refl _ _).drew)
        (first
          | (go_at_call 13; (with_reducible refine (HCK2.out _ (Below.drew (Below.refl _ _))).mono ?_); rintro e w2 ⟨rfl, hp2⟩; have K2 := Lib.hid (below_step (W0 := W1) (Below.drew (Below.refl _ _)) hp2); clear hp2)
          | fail)
      have hb2 := HB1.out.trans (K2.out.mono HB1.out.size)
      have HB2 := Lib.hid hb2
      have X2 := Lib.hid (X1.out.call K2.out)
      have PB2 := Lib.hid (PB1.out.call K2.out)
      have HST2 := Lib.hid (HST1.out.call K2.out)
      clear hb2 K2 HSS HCK2
      have hrb : (R == 0) = false := by rw [beq_eq_false_iff_ne]; exact hr0
      go_wp2
      go_ret
      exact DoPost.refused0 HD1.out hr0 HST2.out HB2.out
    · have hoi : ((o : Int) != (xo : Int) + 1) = true := by simp; omega
      have HD1 := Lib.hid (show doE x ⟨o, op, row, ⟨kk, kn, ks⟩, nm, kind⟩ = 220 by rw [HD.out, if_pos (Or.inr hoe)])
      go_quiet (fail)
      go_wp2
      go_ret
      exact DoPost.refused HD1.out (by decide) HST0.out HB0.out nq
end Go.Proofs.Ytlclhinianamhaa
