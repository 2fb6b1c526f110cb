/- The contract of slices.IndexFunc[[]catchment/api.Entry,catchment/api.Entry]: the first place where a test holds. Which keys stand alone: plan.Alone. -/
import Derived.Test.YtkofaoaglnjkgaaBase
import Derived.Test.YtkofaoaglnjkgaaProg
import Derived.Test.YtkofaoaglnjkgaaPlPm
import Derived.Test.YtkofaoaglnjkgaaPlTaskm
namespace Go.Proofs.Ytkofaoaglnjkgaa
open Go.RowKit Go.Deep
set_option linter.unusedVariables false
set_option linter.unusedSimpArgs false

set_option maxRecDepth 100000 in
set_option maxHeartbeats 1000000 in
theorem index_entry (f : FuncId) (cap : Value) (hcf : ∀ (args : Array Value) (W : World), (callFunc f args).run Try.prog W = .ok (.enter f args) W) (a : Option Addr) (n c : Nat) (xs : List EntryD) (p : EntryD → Bool) (w : World) (h : Sl 6 EntryR w a n xs) (hn : n ≤ 100000)
    (hf : ∀ (W : World) (cs : List Value) (x : EntryD), Below w.heap.size w W → EntryR W cs x → x ∈ xs → Calls Try.prog f #[.agg cs.toArray, cap] W (BoolIs (p x) W)) :
    Calls Try.prog 65 #[.slice a n c, .func (.func f) #[] #[cap]] w (IntBelow (idxF p xs) w) := by
  have HS := Lib.hid h
  have HF := Lib.hid hf
  have HLEN := Lib.hid h.1
  clear h hf
  go_enter Try.func65, Try.ntmps65
  go_wp2
  go_loopw [8] (fun i wr => ∃ k : Nat, k ≤ n ∧ i = .int .i64 k ∧ Below w.heap.size w wr ∧ ∀ (j : Nat) (y : EntryD), j < k → xs[j]? = some y → p y = false) (fun i _ => n - (intOf i).toNat)
  case atStart => exact ⟨0, Nat.zero_le _, rfl, Below.refl _ _, fun j s hj => absurd hj (by omega)⟩
  case round =>
    obtain ⟨k, hk, rfl, hb, hno⟩ := hrel
    have HN := Lib.hid hno
    have HB := Lib.hid hb
    have hwz := hb.size
    clear hno hb
    by_cases hlt : k < n
    · obtain ⟨b, off, s, cs, rfl, hbl, hx, hcl, hr, hcell⟩ := HS.out.at_ hlt
      match cs, hcl with
      | [v0, v1, v2, v3, v4, v5], _ =>
        have d0 := (HB.out.cell (p := ⟨b, off + k * 6 + 0, none⟩) hbl).trans (hcell 0 _ rfl)
        have d1 := (HB.out.cell (p := ⟨b, off + k * 6 + 1, none⟩) hbl).trans (hcell 1 _ rfl)
        have d2 := (HB.out.cell (p := ⟨b, off + k * 6 + 2, none⟩) hbl).trans (hcell 2 _ rfl)
        have d3 := (HB.out.cell (p := ⟨b, off + k * 6 + 3, none⟩) hbl).trans (hcell 3 _ rfl)
        have d4 := (HB.out.cell (p := ⟨b, off + k * 6 + 4, none⟩) hbl).trans (hcell 4 _ rfl)
        have d5 := (HB.out.cell (p := ⟨b, off + k * 6 + 5, none⟩) hbl).trans (hcell 5 _ rfl)
        rw [Nat.add_zero] at d0
        have SR := Lib.hid (EntryR.stable _ _ _ _ HB.out hr)
        have HX := Lib.hid hx
        clear hcell hr hx
        go_wp2_with fail
        refine (HF.out _ _ s HB.out SR.out (List.mem_of_getElem? HX.out)).mono ?_
        rintro e w1 ⟨rfl, hb1⟩
        have HB1 := Lib.hid (HB.out.trans (hb1.mono hwz))
        clear hb1 d0 d1 d2 d3 d4 d5
        cases hp : p s
        · have HP := Lib.hid hp
          clear hp
          go_wp2
          go_roundw
          case rel => exact ⟨k + 1, by omega, by go_num, HB1.out, noHit_succ HX.out HP.out HN.out⟩
          case measure => simp [intOf] <;> omega
        · have HP := Lib.hid hp
          clear hp
          have HI := Lib.hid (idxF_hit HX.out HP.out HN.out)
          go_wp2
          go_ret
          exact ⟨by rw [HI.out]; rfl, HB1.out⟩
    · have HI := Lib.hid (idxF_none (p := p) (xs := xs) fun j y hj hy => HN.out j y (by have := HLEN.out; omega) hy)
      go_wp2
      go_ret
      exact ⟨by rw [HI.out]; rfl, HB.out⟩
end Go.Proofs.Ytkofaoaglnjkgaa

namespace Go.Proofs.Ytkofaoaglnjkgaa
open Go.RowKit Go.Deep
set_option linter.unusedVariables false
set_option linter.unusedSimpArgs false

def ahead (q : Nat) (x : EntryD) : Bool := !x.keys && decide (x.seq < q)
theorem idx_any {α : Type} (p : α → Bool) (xs : List α) : decide (0 ≤ idxF p xs) = xs.any p := by
  rcases idxF_cases p xs with ⟨h, hno⟩ | ⟨k, x, h, hx, hp, _⟩
  · rw [h]
    have : xs.any p = false := by rw [List.any_eq_false]; intro x hx; rw [hno x hx]; decide
    rw [this]; decide
  · rw [h]
    have : xs.any p = true := List.any_eq_true.2 ⟨x, List.mem_of_getElem? hx, hp⟩
    rw [this]; simp
set_option maxRecDepth 100000 in
set_option maxHeartbeats 1000000 in
theorem contains_entry (f : FuncId) (cap : Value) (hcf : ∀ (args : Array Value) (W : World), (callFunc f args).run Try.prog W = .ok (.enter f args) W) (a : Option Addr) (n c : Nat) (xs : List EntryD) (p : EntryD → Bool) (w : World) (h : Sl 6 EntryR w a n xs) (hn : n ≤ 100000)
    (hf : ∀ (W : World) (cs : List Value) (x : EntryD), Below w.heap.size w W → EntryR W cs x → x ∈ xs → Calls Try.prog f #[.agg cs.toArray, cap] W (BoolIs (p x) W)) :
    Calls Try.prog 50 #[.slice a n c, .func (.func f) #[] #[cap]] w (BoolIs (xs.any p) w) := by
  have HC := Lib.hid (index_entry f cap hcf a n c xs p w h hn hf)
  rw [← idx_any p xs]
  generalize idxF p xs = r at *
  clear h hf hcf
  go_enter Try.func50, Try.ntmps50
  go_wp2_with fail
  refine HC.out.mono ?_
  rintro e w1 ⟨rfl, hb⟩
  go_wp2
  go_ret
  exact ⟨rfl, hb⟩
theorem alone1 (cs : List Value) (x : EntryD) (q g : Nat) (w : World) (h : EntryR w cs x) (hg : g < w.heap.size) (hc : w.cell? ⟨g, 2, none⟩ = some (.int .u64 (q : Int))) :
    Calls Try.prog 51 #[.agg cs.toArray, .pointer (some ⟨g, 0, none⟩)] w (BoolIs (ahead q x) w) := by
  obtain ⟨a, n, c, rfl, _⟩ := h
  unfold ahead
  simp only [EntryD.cells]
  cases x.keys
  · by_cases hq : x.seq < q
    · have hqi : (x.seq : Int) < (q : Int) := by omega
      rw [show (!false && decide (x.seq < q)) = true by simp [hq]]
      clear hq
      go_enter Try.func51, Try.ntmps51
      go_wp2
      go_ret
      exact ⟨rfl, (Below.refl _ _).alloc (Nat.le_refl _) _⟩
    · have hqi : (q : Int) ≤ (x.seq : Int) := by omega
      have hqn : ¬ (x.seq : Int) < (q : Int) := by omega
      rw [show (!false && decide (x.seq < q)) = false by simp [hq]]
      clear hq
      go_enter Try.func51, Try.ntmps51
      go_wp2
      go_ret
      exact ⟨rfl, (Below.refl _ _).alloc (Nat.le_refl _) _⟩
  · rw [Bool.not_true, Bool.false_and]
    go_enter Try.func51, Try.ntmps51
    go_wp2
    go_ret
    exact ⟨rfl, (Below.refl _ _).alloc (Nat.le_refl _) _⟩
theorem alone_take {l : List EntryD} {z : EntryD} {k : Nat} (h : l[k]? = some z) : ((l.take (k + 1)).filter (aloneB l)).map EntryD.name = ((l.take k).filter (aloneB l)).map EntryD.name ++ (if aloneB l z = true then [z.name] else []) := by
  rw [filter_take h, List.map_append]
  split <;> rfl
set_option maxRecDepth 100000 in
set_option maxHeartbeats 4000000 in
theorem alonel_calls (la : Option Addr) (ln lc : Nat) (l : List EntryD) (w : World) (hl : Sl 6 EntryR w la ln l) (hn : ln ≤ 1000) :
    Calls Try.prog 28 #[.slice la ln lc] w (NamesPost (aloneF l) w) := by
  have HLS := Lib.hid hl
  have HLL := Lib.hid hl.1
  obtain ⟨l0, hl0, hz0, hz1, hz2⟩ := info_parts infoString
  have HL := Lib.hid hl0
  have HX0 := Lib.hid hz0
  have HX1 := Lib.hid hz1
  have HX2 := Lib.hid hz2
  have hxs : aloneF l = ((l.take ln).filter (aloneB l)).map EntryD.name := by
    unfold aloneF
    rw [List.take_of_length_le (by rw [hl.1]; exact Nat.le_refl _)]
  rw [hxs]
  unfold NamesPost
  clear hl hl0 hz0 hz1 hz2 hxs
  go_enter Try.func28, Try.ntmps28
  go_wp2
  go_loopw [3, 8] (fun v i wr => ∃ (k : Nat) (ns : List ByteArray), k ≤ ln ∧ i = .int .i64 (k : Int) ∧ ns = ((l.take k).filter (aloneB l)).map EntryD.name ∧ wr.ownsRow w.heap.size 9 1 v ns.length (strsV ns) ∧ Below w.heap.size w wr) (fun _ i _ => ln - (intOf i).toNat)
  case atStart => exact ⟨0, [], Nat.zero_le _, rfl, by simp, World.ownsRow_nil _ _ _ _, Below.refl _ _⟩
  case round =>
    obtain ⟨k, ns, hk, rfl, hns, hown, hb⟩ := hrel
    have HO := Lib.hid hown
    have HB := Lib.hid hb
    have HNS := Lib.hid hns
    have hlen : ns.length ≤ k := by
      rw [hns, List.length_map]
      exact Nat.le_trans (List.length_filter_le _ _) (by rw [List.length_take]; exact Nat.min_le_left _ _)
    clear hown hb hns
    have hki : (0 : Int) ≤ (k : Int) := by omega
    by_cases hlt : k < ln
    · have hkn : (k : Int) < (ln : Int) := by omega
      obtain ⟨b, off, z, zcs, rfl, hbl, hz, hcl, hzr, hcell⟩ := HLS.out.at_ hlt
      obtain ⟨za, zn, zc, rfl, _⟩ := hzr
      have htk := alone_take hz
      rw [← HNS.out] at htk
      have HTK := Lib.hid htk
      obtain ⟨tb, htb⟩ : ∃ r, aloneB l z = r := ⟨_, rfl⟩
      rw [htb] at HTK
      have htd : aloneB l z = (z.keys && !(l.any (ahead z.seq))) := rfl
      rw [htd] at htb
      simp only [EntryD.cells] at hcell
      have e0 := (HB.out.cell (p := ⟨b, off + k * 6 + 0, none⟩) hbl).trans (hcell 0 _ rfl)
      have e1 := (HB.out.cell (p := ⟨b, off + k * 6 + 1, none⟩) hbl).trans (hcell 1 _ rfl)
      have e2 := (HB.out.cell (p := ⟨b, off + k * 6 + 2, none⟩) hbl).trans (hcell 2 _ rfl)
      have e3 := (HB.out.cell (p := ⟨b, off + k * 6 + 3, none⟩) hbl).trans (hcell 3 _ rfl)
      have e4 := (HB.out.cell (p := ⟨b, off + k * 6 + 4, none⟩) hbl).trans (hcell 4 _ rfl)
      have e5 := (HB.out.cell (p := ⟨b, off + k * 6 + 5, none⟩) hbl).trans (hcell 5 _ rfl)
      rw [Nat.add_zero] at e0
      have hbw : b < wr.heap.size := by have := HB.out.size; omega
      clear hcell hcl hz htk htd
      cases hzk : z.keys
      · rw [hzk] at htb e1
        obtain rfl : tb = false := by rw [← htb]; rfl
        go_wp2
        go_roundw
        case rel => exact ⟨k + 1, ns, by omega, by go_num, by have := HTK.out; simp at this; exact this.symm, own_below HO.out ((Below.refl _ _).alloc (Nat.le_refl _) _), HB.out.alloc HB.out.size _⟩
        case measure => simp [intOf] <;> omega
      · rw [hzk, Bool.true_and] at htb
        rw [hzk] at e1
        go_wp2_with fail
        obtain ⟨V0, hWW⟩ : ∃ W0 : World, W0 = (wr.alloc (.cells #[.string z.name, .bool true, .int .u64 (z.seq : Int), .int .i64 z.rows, .int .u32 (z.schema : Int), .slice za zn zc] 52)) := ⟨_, rfl⟩
        have hm : Mem wr.heap.size [#[.string z.name, .bool true, .int .u64 (z.seq : Int), .int .i64 z.rows, .int .u32 (z.schema : Int), .slice za zn zc]] wr V0 := by rw [hWW]; exact ((Mem.nil wr).push (by simp) #[.string z.name, .bool true, .int .u64 (z.seq : Int), .int .i64 z.rows, .int .u32 (z.schema : Int), .slice za zn zc] 52)
        rw [← hWW]
        clear hWW
        have N0 := Lib.hid hm
        clear hm
        clear e0 e1 e2 e3 e4 e5
        have HBV := Lib.hid (HB.out.trans (N0.out.below.mono HB.out.size))
        refine (contains_entry 51 _ (by intro args W; kernel_rfl) _ _ _ l (ahead z.seq) _ (HLS.out.below EntryR.stable HBV.out) (by omega) (fun W cs x hb hr _ => alone1 cs x z.seq _ W hr ((N0.out.call hb).lt 0 (by simp)) ((N0.out.call hb).cell 0 2 rfl rfl))).mono ?_
        rintro e w1 ⟨rfl, hb1⟩
        have N1 := Lib.hid (N0.out.call hb1)
        have HB1 := Lib.hid (HBV.out.trans (hb1.mono HBV.out.size))
        have HO1 := Lib.hid (own_below HO.out N1.out.below)
        clear hb1
        generalize l.any (ahead z.seq) = r at *
        cases r
        · obtain rfl : tb = true := by rw [← htb]; rfl
          clear htb
          have q0 : w1.cell? ⟨wr.heap.size, 0, none⟩ = some (.string z.name) := N1.out.cell 0 0 rfl rfl
          have z0 : wr.heap.size < w1.heap.size := N1.out.lt 0 (by simp)
          have h63 : ns.length + 1 ≤ maxLen := by unfold maxLen; omega
          have hby : (ns.length + 1) * 16 ≤ 140737488355328 := by omega
          have hbase : w.heap.size ≤ (w1.alloc (.cells #[.string z.name] 9)).heap.size := by have := HB1.out.size; simp; omega
          have hone : ∀ u ∈ ([.string z.name] : List Value), u.oneCell' = true := by simp [Value.oneCell']
          have hcl : ∀ j u, ([.string z.name] : List Value)[j]? = some u → (w1.alloc (.cells #[.string z.name] 9)).cell? ((⟨w1.heap.size, 0, none⟩ : Addr).add j) = some u := fun j u hj => by
            have := CellsAt.alloc_at w1 #[.string z.name] 9 w1.heap.size rfl j u (by simpa using hj)
            rw [show ((⟨w1.heap.size, 0, none⟩ : Addr).add j) = ⟨w1.heap.size, j, none⟩ by (simp [Addr.add] <;> omega)]
            exact this
          have HBASE := Lib.hid hbase
          have HONE := Lib.hid hone
          have HCL := Lib.hid hcl
          clear hbase hone hcl
          go_wp2_with (at_builtin; refine wpList_append_lies _ rfl _ _ _ rfl w.heap.size 9 l0 (.string ByteArray.empty) 1 16 Try.underlying38 HL.out HX0.out HX1.out HX2.out rfl (by decide) _ _ _ rfl (HO1.out.alloc _) ⟨w1.heap.size, 0, none⟩ 1 1 [.string z.name] rfl rfl HCL.out HONE.out (by decide) h63 hby HBASE.out _ rfl ?_; intro g cap w5 hown5 hgrow5 hat5 hglt5)
          have hb5 := below_append HO1.out HB1.out hgrow5
          clear hgrow5 hat5
          go_roundw
          case rel =>
            refine ⟨k + 1, ns ++ [z.name], by omega, by go_num, by have := HTK.out; simp at this; simp [this], ?_, hb5⟩
            rw [List.length_append]
            unfold strsV
            rw [List.map_append]
            exact hown5
          case measure => simp [intOf] <;> omega
        · obtain rfl : tb = false := by rw [← htb]; rfl
          clear htb
          go_wp2
          go_roundw
          case rel => exact ⟨k + 1, ns, by omega, by go_num, by have := HTK.out; simp at this; exact this.symm, HO1.out, HB1.out⟩
          case measure => simp [intOf] <;> omega
    · obtain rfl : k = ln := by omega
      go_wp2
      go_ret
      refine ⟨_, rfl, ?_, HB.out⟩
      have := HO.out
      rw [← HNS.out]
      exact this
end Go.Proofs.Ytkofaoaglnjkgaa
