/- The contract of catchmentref18.Chain, which calls itself. -/
import Derived.Test.YtlcolgibabibdaaTravel7
import Derived.Deep.RegionHeld3
import Derived.Deep.AppendLies
namespace Go.Proofs.Ytlcolgibabibdaa
open Go.RowKit Go.Deep
set_option linter.unusedVariables false

theorem chain_facts (l : List SnapD) (id : Nat) : (chain l id).Pairwise (fun a b => b < a) ∧ ∀ x ∈ chain l id, x ≤ id ∧ x ∈ l.map SnapD.id := by
  induction id using Nat.strongRecOn with
  | ind id ih =>
    cases hs : snapOf l id with
    | none => rw [chain_none hs]; exact ⟨List.Pairwise.nil, by simp⟩
    | some s =>
      by_cases hp : id ≤ s.parent
      · rw [chain_last hs hp]
        refine ⟨by simp, fun x hx => ?_⟩
        simp at hx; subst hx
        exact ⟨Nat.le_refl _, snapOf_mem hs⟩
      · rw [chain_on hs (by omega)]
        obtain ⟨h1, h2⟩ := ih s.parent (by omega)
        refine ⟨List.pairwise_cons.2 ⟨fun x hx => by have := (h2 x hx).1; omega, h1⟩, fun x hx => ?_⟩
        rcases List.mem_cons.1 hx with rfl | hx
        · exact ⟨Nat.le_refl _, snapOf_mem hs⟩
        · have := h2 x hx; exact ⟨by omega, this.2⟩
theorem chain_len (l : List SnapD) (id : Nat) : (chain l id).length ≤ l.length := by
  obtain ⟨h1, h2⟩ := chain_facts l id
  have := length_le_of_subset _ (l.map SnapD.id) (h1.imp fun h => by omega) (fun x hx => (h2 x hx).2)
  simpa using this
theorem lies_nats {w : World} {ad : Option Addr} {n : Nat} {xs : List Nat} (h : Sl 1 (NatR .u64) w ad n xs) : Lies w ad n 1 (natsV .u64 xs) := by
  refine ⟨by rw [natsV_length, h.1, Nat.mul_one], fun hn => ?_⟩
  obtain ⟨b, off, e, _, hc⟩ := h.2 hn
  refine ⟨b, off, e, fun j v hj => ?_⟩
  unfold natsV at hj
  rw [List.getElem?_map] at hj
  obtain ⟨x, hx, rfl⟩ := Option.map_eq_some_iff.1 hj
  obtain ⟨cs, hl, hr, hcell⟩ := hc j x hx
  have hcs : cs = [.int .u64 (x : Int)] := hr
  have := hcell 0 _ (by rw [hcs]; rfl)
  simpa using this
/-- 'append(s, x...)' at a step of a region that draws: onto a row of the call's own, cells that lie somewhere. -/
theorem step_append_vals {P : Program} {ops : Array Oper} {o : Oper} {a : Act} {w : World} {K : Act → World → Prop} {Q : Exit → Act → World → Prop} {E : Prop} (hgd : o.guard = none) (s x : Operand) (t : TypeId)
    (ho : o.op = .call { callee := .builtin .append, args := #[s, x], argTypes := #[t, t] })
    (B : Nat) (e : TypeId) (i : TypeInfo) (z : Value) (size bytes : Nat) (ht : P.underlying t = some (.slice e)) (hi : P.info? e = some i) (hz : i.zero = some z)
    (hsize : i.size = size) (hby : i.bytes = bytes) (hzs : z.cells.size = size) (hpos : 0 < size)
    (v : Value) (n0 : Nat) (vs0 : List Value) (hs : a.eval s = v) (hown : w.ownsRow B e size v n0 vs0)
    (ad : Option Addr) (n c : Nat) (vs : List Value) (hx : a.eval x = .slice ad n c) (hn : Lies w ad n size vs) (h1 : ∀ u ∈ vs, u.oneCell' = true) (h63 : n0 + n ≤ maxLen) (hbytes : (n0 + n) * bytes ≤ 140737488355328) (hbase : B ≤ w.heap.size) (hnil : ad = none → c = 0)
    (h : ∀ v' w', w'.ownsRow B e size v' (n0 + n) (vs0 ++ vs) → w.grownBy w' v.ownBlock → K (a.put o.dst v') w') :
    if Region.wanted o (yielded ops a.tmps) = true then Oper.wp P o a w K Q else E := by
  have hw : Region.wanted o (yielded ops a.tmps) = true := by simp [Region.wanted, hgd]
  rw [if_pos hw]
  have key : ∃ v' w', (Builtin.append_ #[t, t] o.type #[v, .slice ad n c]).run P w = .ok v' w' ∧ w'.ownsRow B e size v' (n0 + n) (vs0 ++ vs) ∧ w.grownBy w' v.ownBlock := by
    cases ad with
    | none =>
      have hn0 : n = 0 := by
        rcases Nat.eq_zero_or_pos n with h0 | h0
        · exact h0
        · obtain ⟨_, _, e, _⟩ := hn.2 h0; cases e
      have hx0 : vs = [] := List.eq_nil_of_length_eq_zero (by rw [hn.1, hn0, Nat.zero_mul])
      have hc0 := hnil rfl
      subst hn0 hx0 hc0
      exact ⟨v, w, run_append_owned_none (P := P) w B t o.type e i size ht hi v n0 _ hown, by simpa using hown, ⟨rfl, rfl, rfl, Nat.le_refl _, fun _ _ _ => rfl⟩⟩
    | some ad =>
      obtain ⟨v', w', hr, h2, h3, h4⟩ := run_append_own (P := P) w B t o.type e i z size bytes ht hi hz hsize hby hzs hpos v n0 _ hown ad n c vs hn.1
        (fun j u hj => by
          have hjl : j < vs.length := by
            rcases Nat.lt_or_ge j vs.length with h | h
            · exact h
            · rw [List.getElem?_eq_none h] at hj; cases hj
          have hnp : 0 < n := by
            rcases Nat.eq_zero_or_pos n with h0 | h0
            · rw [hn.1, h0, Nat.zero_mul] at hjl; omega
            · exact h0
          obtain ⟨b, off, e, hc⟩ := hn.2 hnp
          cases e
          have hplain : (⟨b, off, none⟩ : Addr).add j = ⟨b, off + j, none⟩ := by unfold Addr.add; split <;> simp_all
          rw [hplain]; exact hc j u hj) h1 h63 hbytes hbase
      exact ⟨v', w', hr, h2, h3⟩
  obtain ⟨v', w', hr, h2, h3⟩ := key
  unfold Oper.wp execOp
  simp only [ho, resolve, invoke, builtin, Sem.run_bind, Sem.run_pure, Result.andThen_ok, List.map_toArray, List.map_cons, List.map_nil, hs, hx, hr]
  exact h v' w' h2 h3
theorem below_grown_lit {B g n c : Nat} {a w w' : World} (hb : Below B a w) (hg : w.grownBy w' (Value.slice (some ⟨g, 0, none⟩) n c).ownBlock) (hB : B ≤ w.heap.size) (hgB : B ≤ g) : Below B a w' :=
  hb.grown hg hB (by intro k hk; simp [Value.ownBlock] at hk; omega)
theorem nats_oneCell (xs : List Nat) : ∀ u ∈ natsV .u64 xs, u.oneCell' = true := by
  intro u hu
  unfold natsV at hu
  obtain ⟨y, _, rfl⟩ := List.mem_map.1 hu
  rfl

set_option maxRecDepth 100000 in
set_option maxHeartbeats 4000000 in
theorem refChain (id : Nat) : ∀ (cs : List Value) (t : TableD) (w : World), TableR w cs t → t.snaps.length ≤ 100 → id < 2 ^ 64 →
    Calls Try.prog 16 #[.agg cs.toArray, .int .u64 (id : Int)] w (ListPost (chain t.snaps id) w) := by
  induction id using Nat.strongRecOn with
  | ind id ih =>
    intro cs t w h hfine hid64
    have HT := Lib.hid h
    have IH := Lib.hid ih
    obtain ⟨a', n', c', a, n, c, rfl, _, _, _, _, h4, h5, h6, hs, _⟩ := h
    have HS := Lib.hid hs
    have HLEN := Lib.hid hs.1
    have HF := Lib.hid hfine
    have hn : n ≤ 100 := by have := hs.1; omega
    obtain ⟨i0, hi0, hz0, hz1, hz2⟩ := info_parts infoU64
    have HI := Lib.hid hi0
    have HZ0 := Lib.hid hz0
    have HZ1 := Lib.hid hz1
    have HZ2 := Lib.hid hz2
    clear hs h6 hi0 hz0 hz1 hz2 ih hfine
    go_enter Try.func16, Try.ntmps16
    go_wp2
    have hbx : Below w.heap.size w (w.alloc (.cells #[Value.slice a' n' c', Value.slice a n c, Value.int IntKind.u64 t.current] 26)) := (Below.refl _ _).alloc (Nat.le_refl _) _
    have hcx : ∀ (i : Nat) (v : Value), (#[Value.slice a' n' c', Value.slice a n c, Value.int IntKind.u64 t.current] : Array Value)[i]? = some v → (w.alloc (.cells #[Value.slice a' n' c', Value.slice a n c, Value.int IntKind.u64 t.current] 26)).cell? ⟨w.heap.size, i, none⟩ = some v := fun i v h => by rw [World.cell?_alloc_new]; exact h
    have hzx : w.heap.size < (w.alloc (.cells #[Value.slice a' n' c', Value.slice a n c, Value.int IntKind.u64 t.current] 26)).heap.size := by simp
    generalize w.alloc (.cells #[Value.slice a' n' c', Value.slice a n c, Value.int IntKind.u64 t.current] 26) = W at *
    have x0 := hcx 0 _ rfl
    have x1 := hcx 1 _ rfl
    have x2 := hcx 2 _ rfl
    have HTX := Lib.hid (TableR.stable _ _ _ _ hbx HT.out)
    have HBX := Lib.hid hbx
    clear hcx hbx
    go_loopw [5] (fun i wr => ∃ k : Nat, k ≤ n ∧ i = .int .i64 k ∧ wr = W ∧ ∀ (j : Nat) (s : SnapD), j < k → t.snaps[j]? = some s → s.id ≠ id) (fun i _ => n - (intOf i).toNat)
    case atStart => exact ⟨0, Nat.zero_le _, rfl, rfl, fun j s hj => absurd hj (by omega)⟩
    case round =>
      obtain ⟨k, hk, rfl, rfl, hno⟩ := hrel
      have HN := Lib.hid hno
      clear hno
      by_cases hlt : k < n
      · obtain ⟨b, off, s, cs, rfl, hbl, hx, hcl, hr, hcell⟩ := HS.out.at_ hlt
        obtain ⟨a2, n2, c2, rfl, hr2⟩ := hr
        have d0 := (HBX.out.cell (p := ⟨b, off + k * 7 + 0, none⟩) hbl).trans (hcell 0 _ rfl)
        have d1 := (HBX.out.cell (p := ⟨b, off + k * 7 + 1, none⟩) hbl).trans (hcell 1 _ rfl)
        have hp64 : s.parent < 2 ^ 64 := hr2.2.2.2.2.2.1
        rw [Nat.add_zero] at d0
        have HX := Lib.hid hx
        have HPP := Lib.hid hp64
        have hblx : b < wr.heap.size := by have := HBX.out.size; omega
        clear hcell hr2 hx hp64
        by_cases hid : s.id = id
        · have hsn := snapOf_first HX.out hid HN.out
          have HSN := Lib.hid hsn
          have hbq : ((s.id : Int) == (id : Int)) = true := by rw [beq_iff_eq]; omega
          clear hsn
          by_cases hp : id ≤ s.parent
          · have HP := Lib.hid hp
            go_wp2
            go_ret
            refine ⟨_, rfl, ?_, HBX.out.alloc HBX.out.size _⟩
            rw [chain_last HSN.out HP.out]
            exact World.ownsRow_lit wr #[.int .u64 (id : Int)] 1 HBX.out.size (by unfold maxLen; omega) rfl
          · have HP := Lib.hid (show s.parent < id by omega)
            have hlen := chain_len t.snaps s.parent
            have HLN := Lib.hid hlen
            clear hlen
            go_wp2_with fail
            have hS : ∀ W, Below wr.heap.size wr W → W.cell? ⟨w.heap.size, 0, none⟩ = some (Value.slice a' n' c') ∧ W.cell? ⟨w.heap.size, 1, none⟩ = some (Value.slice (some ⟨b, off, none⟩) n c) ∧ W.cell? ⟨w.heap.size, 2, none⟩ = some (Value.int IntKind.u64 t.current) ∧ W.cell? ⟨b, off + k * 7 + 1, none⟩ = some (Value.int IntKind.u64 s.parent) :=
              fun W hb => ⟨(hb.cell (p := ⟨w.heap.size, 0, none⟩) hzx).trans x0, (hb.cell (p := ⟨w.heap.size, 1, none⟩) hzx).trans x1, (hb.cell (p := ⟨w.heap.size, 2, none⟩) hzx).trans x2, (hb.cell (p := ⟨b, off + k * 7 + 1, none⟩) hblx).trans d1⟩
            have HSS := Lib.hid hS
            clear hS
            go_region_held3 (fun W => W.cell? ⟨w.heap.size, 0, none⟩ = some (Value.slice a' n' c') ∧ W.cell? ⟨w.heap.size, 1, none⟩ = some (Value.slice (some ⟨b, off, none⟩) n c) ∧ W.cell? ⟨w.heap.size, 2, none⟩ = some (Value.int IntKind.u64 t.current) ∧ W.cell? ⟨b, off + k * 7 + 1, none⟩ = some (Value.int IntKind.u64 s.parent))
              (first | exact HSS.out _ k3 | exact HSS.out _ (k2.alloc k2.size _) | exact HSS.out _ k2 | exact HSS.out _ (Below.refl _ _).drew | exact HSS.out _ ((Below.refl _ _).drew.alloc (Nat.le_refl _) _))
              (first
                | (go_at_call 16; refine (IH.out s.parent HP.out _ t _ (TableR.stable _ _ _ _ (by first | exact (Below.refl _ _).drew | exact (Below.refl _ _).drew.alloc (Nat.le_refl _) _) HTX.out) HF.out HPP.out).mono ?_; rintro e w2 ⟨v2, rfl, hown2, hb2⟩; obtain ⟨ad2, cp2, rfl, hcp2, hcq2, hcn2⟩ := own_slice hown2; have HO2 := Lib.hid hown2; have HB2 := Lib.hid hb2; have k2 : Below wr.heap.size wr w2 := (by first | exact (Below.refl _ _).drew.trans hb2 | exact ((Below.refl _ _).drew.alloc (Nat.le_refl _) _).trans (hb2.mono (by simp))))
                | (refine step_append_vals (by rfl) _ _ _ (by rfl) w.heap.size 24 i0 (.int .u64 0) 1 8 Try.underlying39 HI.out HZ0.out HZ1.out HZ2.out rfl (by decide) _ 1 [.int .u64 (id : Int)] (by rfl) (by first | exact ownsRow_below (World.ownsRow_lit wr.drew #[.int .u64 (id : Int)] 1 HBX.out.size (by unfold maxLen; omega) rfl) HB2.out | exact World.ownsRow_lit _ #[.int .u64 (id : Int)] 1 (Nat.le_trans HBX.out.size k2.size) (by unfold maxLen; omega) rfl) _ _ _ (natsV .u64 (chain t.snaps s.parent)) (by rfl) (lies_nats (by first | exact sl_of_own_nats HO2.out | exact (sl_of_own_nats HO2.out).alloc NatR.stable _)) (nats_oneCell _) (by have := HLN.out; have := HF.out; unfold maxLen; omega) (by have := HLN.out; have := HF.out; omega) (by first | exact Nat.le_trans HBX.out.size k2.size | exact Nat.le_trans HBX.out.size (k2.alloc k2.size _).size) hcn2 ?_; intro v3 w3 hown3 hg3; have HO3 := Lib.hid hown3; have HG3 := Lib.hid hg3; have k3 : Below wr.heap.size wr w3 := (by first | exact below_grown_lit k2 hg3 k2.size (Nat.le_refl _) | exact below_grown_lit (k2.alloc k2.size _) hg3 (k2.alloc k2.size _).size k2.size)))
            all_goals
              go_wp2
              go_ret
              refine ⟨_, rfl, ?_, HBX.out.trans (k3.mono HBX.out.size)⟩
              rw [chain_on HSN.out HP.out]
              have ho := HO3.out
              rw [Nat.add_comm] at ho
              exact ho
        · have hbq : ((s.id : Int) == (id : Int)) = false := by rw [beq_eq_false_iff_ne]; omega
          have HID := Lib.hid hid
          clear hid
          go_wp2
          go_roundw
          case rel =>
            refine ⟨k + 1, by omega, by go_num, trivial, fun j x hj hx => ?_⟩
            by_cases hjk : j = k
            · subst hjk; have := HX.out.symm.trans hx; cases this; exact HID.out
            · exact HN.out j x (by omega) hx
          case measure => simp [intOf] <;> omega
      · go_wp2
        go_ret
        have hno := snapOf_none (l := t.snaps) (id := id) fun j s hs => HN.out j s (by
          rcases Nat.lt_or_ge j k with h | h
          · exact h
          · rw [List.getElem?_eq_none (by have := HLEN.out; omega)] at hs; cases hs) hs
        exact ⟨_, rfl, by rw [chain_none hno]; exact World.ownsRow_nil _ _ _ _, HBX.out⟩
end Go.Proofs.Ytlcolgibabibdaa
