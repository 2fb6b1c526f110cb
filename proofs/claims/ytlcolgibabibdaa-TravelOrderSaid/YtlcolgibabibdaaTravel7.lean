/- The contract of travel.Chain. -/
import Derived.Test.YtlcolgibabibdaaTravel6
import Derived.Deep.LoopGhost
import Derived.Deep.Light
namespace Go.Proofs.Ytlcolgibabibdaa
open Go.RowKit Go.Deep
set_option linter.unusedVariables false

theorem ownsRow_below {w w' : World} {B size n : Nat} {e : TypeId} {v : Value} {xs : List Value} (h : w.ownsRow B e size v n xs) (hb : Below w.heap.size w w') : w'.ownsRow B e size v n xs :=
  h.kept (row := none) ⟨hb.os, hb.tape, hb.output, hb.size, fun k hk _ => hb.block k hk⟩ (by cases v.ownBlock <;> simp)
theorem below_grown {B : Nat} {wr w1 : World} {e n size : Nat} {v : Value} {xs : List Value} {o : Obj} (hown : wr.ownsRow B e size v n xs) (hB : B ≤ wr.heap.size) (hg : (wr.alloc o).grownBy w1 v.ownBlock) : Below B wr w1 :=
  ((Below.refl _ _).alloc hB o).grown hg (by simp; omega) (fun k hk => (hown.lt k hk).1)

set_option maxRecDepth 100000 in
set_option maxHeartbeats 2000000 in
theorem chain_calls (cs : List Value) (t : TableD) (id : Nat) (w : World) (h : TableR w cs t) (hfine : t.snaps.length ≤ 100) :
    Calls Try.prog 14 #[.agg cs.toArray, .int .u64 (id : Int)] w (ListPost (chain t.snaps id) w) := by
  obtain ⟨a', n', c', a, n, c, rfl, _, _, _, _, h4, h5, h6, hs, _⟩ := h
  have HS := Lib.hid hs
  have HLEN := Lib.hid hs.1
  have hn : n ≤ 100 := by have := hs.1; omega
  obtain ⟨i0, hi0, hz0, hz1, hz2⟩ := info_parts infoU64
  have HI := Lib.hid hi0
  have HZ0 := Lib.hid hz0
  have HZ1 := Lib.hid hz1
  have HZ2 := Lib.hid hz2
  clear hs h6 hi0 hz0 hz1 hz2
  go_enter Try.func14, Try.ntmps14
  go_wp2
  generalize hbox : Obj.cells #[Value.slice a' n' c', Value.slice a n c, Value.int IntKind.u64 t.current] 26 = box
  have hw1 : ((w.alloc box).alloc (.cells #[Value.int .u64 id] 24)).cell? ⟨w.heap.size, 1, none⟩ = some (.slice a n c) := by rw [← hbox]; simp
  have hw2 : ((w.alloc box).alloc (.cells #[Value.int .u64 id] 24)).cell? ⟨w.heap.size + 1, 0, none⟩ = some (.int .u64 id) := by simp
  have hf2 : ((w.alloc box).alloc (.cells #[Value.int .u64 id] 24)).frozen? ⟨w.heap.size + 1, 0, none⟩ = false := by simp
  have hsz : ((w.alloc box).alloc (.cells #[Value.int .u64 id] 24)).heap.size = w.heap.size + 2 := by simp
  have hba : Below w.heap.size w ((w.alloc box).alloc (.cells #[Value.int .u64 id] 24)) := ((Below.refl _ _).alloc (Nat.le_refl _) _).alloc (by simp) _
  generalize (w.alloc box).alloc (.cells #[Value.int .u64 id] 24) = W0 at *
  have W1 := Lib.hid hw1
  have WZ := Lib.hid hsz
  have BA := Lib.hid hba
  have HW2 := Lib.hid hw2
  have HF2 := Lib.hid hf2
  clear hbox hw1 hsz hba hw2 hf2
  go_loopg [5] id (fun cur v wr => ∃ acc : List Nat, Gone t.snaps id acc cur ∧ wr.ownsRow (w.heap.size + 2) 24 1 v acc.length (natsV .u64 acc) ∧ Below (w.heap.size + 1) W0 wr ∧ wr.cell? ⟨w.heap.size + 1, 0, none⟩ = some (.int .u64 (cur : Int)) ∧ wr.frozen? ⟨w.heap.size + 1, 0, none⟩ = false)
  case atStart => exact ⟨[], Gone.start _ _, World.ownsRow_nil _ _ _ _, Below.refl _ _, HW2.out, HF2.out⟩
  case round =>
    obtain ⟨acc, hgone, hown, hb, hcur, hfz⟩ := hrel
    have hlen := hgone.len
    have HG := Lib.hid hgone
    have HO := Lib.hid hown
    have HB := Lib.hid hb
    have HB0 := Lib.hid (BA.out.trans (hb.mono (Nat.le_succ _)))
    have HC := Lib.hid hcur
    have HF := Lib.hid hfz
    have c1 := (hb.cell (p := ⟨w.heap.size, 1, none⟩) (Nat.lt_succ_self _)).trans W1.out
    have hwz : w.heap.size + 2 ≤ wr.heap.size := by have := hb.size; rw [WZ.out] at this; exact this
    clear hgone hown hb hcur hfz
    go_wp2_with fail
    refine (index_calls _ _ _ t.snaps gk (w.heap.size + 1) _ (HS.out.below SnapR.stable HB0.out) hn (by omega) HC.out).mono ?_
    rintro e w1 ⟨r, rfl, hfirst, hb1⟩
    have c2 := (hb1.cell (p := ⟨w.heap.size, 1, none⟩) (by show w.heap.size < _; omega)).trans c1
    have c3 := (hb1.cell (p := ⟨w.heap.size + 1, 0, none⟩) (by show w.heap.size + 1 < _; omega)).trans HC.out
    have f3 := (hb1.frozen (p := ⟨w.heap.size + 1, 0, none⟩) (by show w.heap.size + 1 < _; omega)).trans HF.out
    have HO1 := Lib.hid (ownsRow_below HO.out hb1)
    have HB1 := Lib.hid (HB.out.trans (hb1.mono (by omega)))
    have hwz1 : w.heap.size + 2 ≤ w1.heap.size := by have := hb1.size; omega
    clear hb1 c1
    rcases hfirst with ⟨rfl, hnone⟩ | ⟨m, s, rfl, hm, hsome⟩
    · have HN := Lib.hid hnone
      clear hnone
      go_wp2
      go_ret
      refine ⟨_, rfl, ?_, BA.out.trans (HB1.out.mono (Nat.le_succ _))⟩
      have e : chain t.snaps id = acc := by rw [HG.out.1, chain_none HN.out, List.append_nil]
      rw [e]
      exact ownsRow_le HO1.out (by omega)
    · have HN := Lib.hid hsome
      have HM := Lib.hid hm
      have hmn : m < n := by
        rcases Nat.lt_or_ge m n with h | h
        · exact h
        · rw [List.getElem?_eq_none (by have := HLEN.out; omega)] at hm; cases hm
      obtain ⟨b, off, x, cs, rfl, hbl, hx, hcl, hr, hcell⟩ := HS.out.at_ hmn
      rw [hm] at hx
      cases hx
      obtain ⟨a2, n2, c2', rfl, _, _, _, _, _, hpar, _⟩ := hr
      have hp1 := hcell 1 _ rfl
      have HP1 := Lib.hid hp1
      clear hcell hp1 hsome hm
      have hm0 : (0 : Int) ≤ (m : Int) := by omega
      have hmi : (m : Int) < (n : Int) := by omega
      have h63 : acc.length + 1 ≤ maxLen := by unfold maxLen; omega
      have hby : (acc.length + 1) * 8 ≤ 140737488355328 := by omega
      have hbase : w.heap.size + 2 ≤ (w1.alloc (.cells #[Value.int .u64 gk] 24)).heap.size := by simp; omega
      go_wp2_with (at_builtin; go_must (refine wpList_append_lies _ rfl _ _ _ rfl (w.heap.size + 2) 24 i0 (.int .u64 0) 1 8 Try.underlying39 HI.out HZ0.out HZ1.out HZ2.out rfl (by decide) _ _ _ rfl (HO1.out.alloc _) ⟨w1.heap.size, 0, none⟩ 1 1 [.int .u64 gk] rfl rfl (cell_one_new _ _ _) (by simp [Value.oneCell']) (by decide) h63 hby hbase _ rfl ?_; intro g cap w2 hown2 hgrow hat hglt))
      have hb2 := below_grown HO1.out hwz1 hgrow
      have HO2 := Lib.hid hown2
      have HB2 := Lib.hid (HB1.out.trans (hb2.mono (Nat.le_succ _)))
      have HB3 := Lib.hid (BA.out.trans (HB2.out.mono (Nat.le_succ _)))
      have c4 := (hb2.cell (p := ⟨w.heap.size, 1, none⟩) (by show w.heap.size < _; omega)).trans c2
      have c5 := (hb2.cell (p := ⟨w.heap.size + 1, 0, none⟩) (by show w.heap.size + 1 < _; omega)).trans c3
      have f5 := (hb2.frozen (p := ⟨w.heap.size + 1, 0, none⟩) (by show w.heap.size + 1 < _; omega)).trans f3
      have c6 := (HB3.out.cell (p := ⟨b, off + m * 7 + 1, none⟩) hbl).trans HP1.out
      have hwz2 : w.heap.size + 2 ≤ w2.heap.size := by have := hb2.size; omega
      clear hown2 hgrow hat hb2 c2 c3 f3
      go_quiet (fail)
      by_cases hp : gk ≤ s.parent
      · go_wp2
        go_ret
        refine ⟨_, rfl, ?_, below_drewN HB3.out _⟩
        have e : chain t.snaps id = acc ++ [gk] := by rw [HG.out.1, chain_last HN.out hp]
        rw [e, ← natsV_snoc, List.length_append]
        exact ownsRow_le HO2.out (by omega)
      · go_wp2
        go_roundg s.parent
        case measure => omega
        case rel =>
          refine ⟨acc ++ [gk], HG.out.on HN.out (by omega), ?_, ?_, ?_, ?_⟩
          · rw [← natsV_snoc, List.length_append]
            exact ownsRow_setCell_below HO2.out (by simp) _
          · exact (below_drewN HB2.out _).setCell (by simp) _
          · have e : ∀ k, (w2.drewN k).cell? ⟨w.heap.size + 1, 0, none⟩ = some (.int .u64 gk) := fun k => by simp [c5]
            exact World.cell?_setCell_same' _ _ _ (by rw [e]; rfl)
          · simp [f5]
end Go.Proofs.Ytlcolgibabibdaa
