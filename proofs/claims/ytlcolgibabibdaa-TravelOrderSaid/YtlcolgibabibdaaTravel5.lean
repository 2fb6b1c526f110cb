/- Lists of numbers; the contracts of catchmentref18.Ids and of travel.Between. -/
import Derived.Test.YtlcolgibabibdaaSame14
import Derived.Test.YtlcolgibabibdaaTravel1
namespace Go.Proofs.Ytlcolgibabibdaa
open Go.RowKit Go.Deep
set_option linter.unusedVariables false

def natsV (k : IntKind) (xs : List Nat) : List Value := xs.map fun x : Nat => Value.int k (x : Int)
theorem natsV_length (k : IntKind) (xs : List Nat) : (natsV k xs).length = xs.length := by simp [natsV]
theorem natsV_snoc (k : IntKind) (xs : List Nat) (x : Nat) : natsV k xs ++ [Value.int k (x : Int)] = natsV k (xs ++ [x]) := by simp [natsV]
theorem sl_of_own_nats {w : World} {B e n c : Nat} {k : IntKind} {ad : Option Addr} {xs : List Nat} (h : w.ownsRow B e 1 (.slice ad n c) n (natsV k xs)) : Sl 1 (NatR k) w ad n xs := by
  have hl : xs.length = n := by have := h.1; rw [natsV_length] at this; omega
  refine ⟨hl, fun hn => ?_⟩
  rcases h.2 with ⟨_, h0⟩ | ⟨g, cap, cur, hv, hb, hg, _⟩
  · omega
  · simp only [Value.slice.injEq] at hv
    obtain ⟨rfl, _, rfl⟩ := hv
    refine ⟨g, 0, rfl, ?_, fun i x hi => ⟨[.int k (x : Int)], rfl, rfl, fun j v hj => ?_⟩⟩
    · rcases Nat.lt_or_ge g w.heap.size with hlt | hge
      · exact hlt
      · rw [Array.getElem?_eq_none hge] at hg; cases hg
    · have hil : i < n := by
        rcases Nat.lt_or_ge i n with h1 | h1
        · exact h1
        · rw [List.getElem?_eq_none (by omega)] at hi; cases hi
      cases j with
      | zero =>
        simp at hj; subst hj
        have := h.cellAt i (by omega)
        rw [natsV, List.getElem?_map, hi] at this
        simpa using this
      | succ j => simp at hj
/-- A literal of numbers. -/
theorem sl_lit_nats (k : IntKind) (w : World) (t : TypeId) (xs : List Nat) (n : Nat) (hn : xs.length = n) (cs : Array Value) (hc : cs = (natsV k xs).toArray) (B : Nat) (hB : B = w.heap.size) : Sl 1 (NatR k) (w.alloc (.cells cs t)) (some ⟨B, 0, none⟩) n xs := by
  subst hc hB
  refine ⟨hn, fun _ => ⟨w.heap.size, 0, rfl, by simp, fun i x hi => ⟨[.int k (x : Int)], rfl, rfl, fun j v hj => ?_⟩⟩⟩
  cases j with
  | zero =>
    simp at hj; subst hj
    rw [Nat.zero_add, World.cell?_alloc_new]
    simp [natsV, hi]
  | succ j => simp at hj

def IdsIs (w : World) (xs ys : List Nat) (e : Ending) (w' : World) : Prop := e = .returned (.bool (decide (xs = ys))) ∧ ∃ k, w' = w.drewN k
set_option maxHeartbeats 400000 in
theorem ids_calls (a b : Option Addr) (n m c d : Nat) (xs ys : List Nat) (w : World) (ha : Sl 1 (NatR .u64) w a n xs) (hb : Sl 1 (NatR .u64) w b m ys) (hn : n ≤ maxLen) (hm : m ≤ maxLen) :
    Calls Try.prog 15 #[.slice a n c, .slice b m d] w (IdsIs w xs ys) := by
  unfold maxLen at hn hm
  by_cases hnm : n = m
  · have hne : ((n : Int) != (m : Int)) = false := by rw [bne_eq_false_iff_eq]; omega
    have HA := Lib.hid ha
    have HB := Lib.hid hb
    have hnm1 : n ≤ m := by omega
    have hnm2 : m ≤ n := by omega
    clear ha hb hnm
    go_enter Try.func15, Try.ntmps15
    go_wp2
    go_loopw [5] (fun s wr => ∃ k : Nat, k ≤ n ∧ s = .int .i64 k ∧ xs.take k = ys.take k ∧ ∃ q, wr = w.drewN q) (fun s _ => n - (intOf s).toNat)
    case atStart => exact ⟨0, Nat.zero_le _, rfl, rfl, 0, rfl⟩
    case round =>
      obtain ⟨k, hk, rfl, htk, q, rfl⟩ := hrel
      have HT := Lib.hid htk
      clear htk
      by_cases hlt : k < n
      · obtain ⟨ba, oa, x, vx, rfl, _, hx, hrx, h1⟩ := HA.out.at1 hlt
        obtain ⟨bb, ob, y, vy, rfl, _, hy, hry, h2⟩ := HB.out.at1 (i := k) (by omega)
        cases hrx
        cases hry
        have HX := Lib.hid hx
        have HY := Lib.hid hy
        have hk0 : (0 : Int) ≤ (k : Int) := by omega
        have hk1 : (k : Int) < (n : Int) := by omega
        have hk2 : (k : Int) < (m : Int) := by omega
        clear hx hy
        by_cases hxy : x = y
        · subst hxy
          have hxb : ((x : Int) != (x : Int)) = false := by simp
          go_wp2
          go_quiet (fail)
          go_wp2
          go_roundw
          case rel => exact ⟨k + 1, by omega, by go_num, take_step HT.out HX.out HY.out, _, rfl⟩
          case measure => simp [intOf] <;> omega
        · have hxb : ((x : Int) != (y : Int)) = true := by rw [bne_iff_ne]; omega
          have hne2 : xs ≠ ys := by
            rintro rfl
            have := HX.out.symm.trans HY.out
            exact hxy (by injection this)
          have HXY := Lib.hid hne2
          clear hxy hne2
          go_wp2
          go_quiet (fail)
          go_wp2
          go_ret
          exact ⟨by simp [HXY.out], _, World.drewN_drewN _ _ _⟩
      · go_wp2
        go_ret
        have hxy : xs = ys := by
          have e := HT.out
          rwa [List.take_of_length_le (by have := HA.out.1; omega), List.take_of_length_le (by have := HB.out.1; omega)] at e
        exact ⟨by simp [hxy], q, rfl⟩
  · have hne : ((n : Int) != (m : Int)) = true := by rw [bne_iff_ne]; omega
    have hxy : xs ≠ ys := by
      rintro rfl
      exact hnm (ha.1.symm.trans hb.1)
    go_enter Try.func15, Try.ntmps15
    go_wp2
    go_ret
    exact ⟨by simp [hxy], 0, rfl⟩


theorem infoU64 : (Try.prog.info? 24).map (fun i => (i.zero, i.size, i.bytes)) = some (some (.int .u64 0), 1, 8) := by kernel_rfl
def between (low high : Nat) (l : List SnapD) : List Nat := (l.filter fun s => decide (low < s.offset) && decide (s.offset ≤ high)).map SnapD.id
def ListPost (xs : List Nat) (w : World) (e : Ending) (w' : World) : Prop := ∃ v, e = .returned v ∧ w'.ownsRow w.heap.size 24 1 v xs.length (natsV .u64 xs) ∧ Below w.heap.size w w'
theorem between_snoc (low high : Nat) (l : List SnapD) (k : Nat) (s : SnapD) (h : l[k]? = some s) : between low high (l.take (k + 1)) = between low high (l.take k) ++ if low < s.offset ∧ s.offset ≤ high then [s.id] else [] := by
  rw [List.take_add_one, h]
  unfold between
  rw [List.filter_append, List.map_append]
  congr 1
  by_cases h1 : low < s.offset <;> by_cases h2 : s.offset ≤ high <;> simp [h1, h2]
theorem between_len (low high : Nat) (l : List SnapD) : (between low high l).length ≤ l.length := by
  unfold between; rw [List.length_map]; exact List.length_filter_le _ _

set_option maxRecDepth 100000 in
set_option maxHeartbeats 1000000 in
theorem between_calls (cs : List Value) (t : TableD) (low high : Nat) (w : World) (h : TableR w cs t) (hfine : t.snaps.length ≤ 100) :
    Calls Try.prog 17 #[.agg cs.toArray, .int .u64 (low : Int), .int .u64 (high : Int)] w (ListPost (between low high t.snaps) w) := by
  obtain ⟨a', n', c', a, n, c, rfl, _, _, _, _, h4, h5, h6, hs, _⟩ := h
  have HS := Lib.hid hs
  have HLEN := Lib.hid hs.1
  have hn : n ≤ 100 := by have := hs.1; omega
  obtain ⟨i0, hi0, hz0, hz1, hz2⟩ := info_parts infoU64
  have HI := Lib.hid hi0
  have HZ0 := Lib.hid hz0
  have HZ1 := Lib.hid hz1
  have HZ2 := Lib.hid hz2
  clear hs h6 hi0 hz0 hz1 hz2
  go_enter Try.func17, Try.ntmps17
  go_wp2
  go_loopw [7, 13] (fun v i wr => ∃ k : Nat, k ≤ n ∧ i = .int .i64 k ∧ wr.ownsRow w.heap.size 24 1 v (between low high (t.snaps.take k)).length (natsV .u64 (between low high (t.snaps.take k))) ∧ Below w.heap.size w wr) (fun _ i _ => n - (intOf i).toNat)
  case atStart => exact ⟨0, Nat.zero_le _, rfl, World.ownsRow_nil _ _ _ _, (Below.refl _ _).alloc (Nat.le_refl _) _⟩
  case round =>
    obtain ⟨k, hk, rfl, hown, hb⟩ := hrel
    have HO := Lib.hid hown
    have HB := Lib.hid hb
    clear hown hb
    by_cases hlt : k < n
    · obtain ⟨b, off, s, cs, rfl, hbl, hx, hcl, hr, hcell⟩ := HS.out.at_ hlt
      obtain ⟨a2, n2, c2, rfl, hr2⟩ := hr
      have d0 := (HB.out.cell (p := ⟨b, off + k * 7 + 0, none⟩) hbl).trans (hcell 0 _ rfl)
      have d1 := (HB.out.cell (p := ⟨b, off + k * 7 + 1, none⟩) hbl).trans (hcell 1 _ rfl)
      have d2 := (HB.out.cell (p := ⟨b, off + k * 7 + 2, none⟩) hbl).trans (hcell 2 _ rfl)
      have d3 := (HB.out.cell (p := ⟨b, off + k * 7 + 3, none⟩) hbl).trans (hcell 3 _ rfl)
      have d4 := (HB.out.cell (p := ⟨b, off + k * 7 + 4, none⟩) hbl).trans (hcell 4 _ rfl)
      have d5 := (HB.out.cell (p := ⟨b, off + k * 7 + 5, none⟩) hbl).trans (hcell 5 _ rfl)
      have d6 := (HB.out.cell (p := ⟨b, off + k * 7 + 6, none⟩) hbl).trans (hcell 6 _ rfl)
      rw [Nat.add_zero] at d0
      have hsn := between_snoc low high t.snaps k s hx
      have hbl2 := between_len low high (t.snaps.take k)
      have hbl3 : (t.snaps.take k).length ≤ k := List.length_take_le _ _
      generalize between low high (t.snaps.take k) = acc at *
      have HSN := Lib.hid hsn
      clear hcell hr2 hsn hx
      by_cases h1 : low < s.offset
      · by_cases h2 : s.offset ≤ high
        · have h63 : acc.length + 1 ≤ maxLen := by unfold maxLen; omega
          have hby : (acc.length + 1) * 8 ≤ 140737488355328 := by omega
          have hbase := Nat.le_trans HB.out.size (Nat.le_of_lt (show wr.heap.size < ((wr.alloc (.cells #[Value.int .u64 s.id, Value.int .u64 s.parent, Value.int .u64 s.seq, Value.int .u64 s.offset, Value.int .u64 s.time, Value.int .u32 s.schema, Value.slice a2 n2 c2] 32)).alloc (.cells #[Value.int .u64 s.id] 24)).heap.size by simp; omega))
          go_wp2_with (at_builtin; refine wpList_append_lies _ rfl _ _ _ rfl w.heap.size 24 i0 (.int .u64 0) 1 8 Try.underlying39 HI.out HZ0.out HZ1.out HZ2.out rfl (by decide) _ _ _ rfl ((HO.out.alloc _).alloc _) ⟨wr.heap.size + 1, 0, none⟩ 1 1 [.int .u64 s.id] rfl rfl (by have := cell_one_new (wr.alloc (.cells #[Value.int .u64 s.id, Value.int .u64 s.parent, Value.int .u64 s.seq, Value.int .u64 s.offset, Value.int .u64 s.time, Value.int .u32 s.schema, Value.slice a2 n2 c2] 32)) (.int .u64 s.id) 24; simpa using this) (by simp [Value.oneCell']) (by decide) h63 hby hbase _ rfl ?_; intro g cap w1 hown1 hgrow hat hglt; have hb1 := Lib.hid (below_append (HO.out.alloc _) (HB.out.alloc HB.out.size _) hgrow); have ho1 := Lib.hid hown1; clear hown1 hgrow hat)
          go_roundw
          case rel =>
            refine ⟨k + 1, by omega, by go_num, ?_, hb1.out⟩
            rw [HSN.out, if_pos ⟨h1, h2⟩, ← natsV_snoc, List.length_append]
            exact ho1.out
          case measure => simp [intOf] <;> omega
        · go_wp2
          go_roundw
          case rel =>
            refine ⟨k + 1, by omega, by go_num, ?_, HB.out.alloc HB.out.size _⟩
            rw [HSN.out, if_neg (by omega), List.append_nil]
            exact HO.out.alloc _
          case measure => simp [intOf] <;> omega
      · go_wp2
        go_roundw
        case rel =>
          refine ⟨k + 1, by omega, by go_num, ?_, HB.out.alloc HB.out.size _⟩
          rw [HSN.out, if_neg (by omega), List.append_nil]
          exact HO.out.alloc _
        case measure => simp [intOf] <;> omega
    · have hkn : t.snaps.take k = t.snaps := List.take_of_length_le (by have := HLEN.out; omega)
      rw [hkn] at HO
      go_wp2
      go_ret
      exact ⟨_, rfl, HO.out, HB.out⟩
end Go.Proofs.Ytlcolgibabibdaa
