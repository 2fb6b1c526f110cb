/- catchmentlaw01.Cells, All, Is; catchmentref01.SameRow, SameRows; catchmentref08.Same. catchmentlaw01.All, Is; catchmentref01.SameRows; catchmentref08.Same. -/
import Derived.Test.YtlclhinianamhaaEvImm
import Derived.Deep.RegionHeld3
namespace Go.Proofs.Ytlclhinianamhaa
open Go.RowKit Go.Deep
set_option linter.unusedVariables false
set_option linter.unusedSimpArgs false

set_option maxRecDepth 100000 in
set_option maxHeartbeats 2000000 in
theorem lawCellE (v : ValD) (w : World) : Calls Try.prog 55 #[v.val] w (ValIs (.agg v.cell.cells) w) := by
  obtain ⟨i1, i2, i3, i4⟩ := assertsI64
  obtain ⟨b1, b2, b3, b4⟩ := assertsBool
  obtain ⟨s1, s2, s3, s4⟩ := assertsStr
  cases v with
  | nil =>
    simp only [ValD.val, ValD.cell, CellD.cells]
    go_enter Try.func55, Try.ntmps55
    go_wp2
    go_returns
    exact ⟨rfl, by repeat (first | exact Below.refl _ _ | refine Below.alloc ?_ (by simp <;> omega) _)⟩
  | whole n =>
    simp only [ValD.val, ValD.cell, CellD.cells]
    go_enter Try.func55, Try.ntmps55
    go_wp2
    go_returns
    exact ⟨rfl, by repeat (first | exact Below.refl _ _ | refine Below.alloc ?_ (by simp <;> omega) _)⟩
  | truth b =>
    cases b
    all_goals
      simp only [ValD.val, ValD.cell, CellD.cells]
      go_enter Try.func55, Try.ntmps55
      go_wp2
      go_returns
      exact ⟨rfl, by repeat (first | exact Below.refl _ _ | refine Below.alloc ?_ (by simp <;> omega) _)⟩
  | text s =>
    simp only [ValD.val, ValD.cell, CellD.cells]
    go_enter Try.func55, Try.ntmps55
    go_wp2
    go_returns
    exact ⟨rfl, by repeat (first | exact Below.refl _ _ | refine Below.alloc ?_ (by simp <;> omega) _)⟩
set_option maxRecDepth 100000 in
set_option maxHeartbeats 4000000 in
theorem lawCells (a : Option Addr) (n c : Nat) (xs : List ValD) (w : World) (h : Sl 1 ValRE w a n xs) (hn : n ≤ 1000) :
    Calls Try.prog 33 #[.slice a n c] w (fun e w' => ∃ v, e = .returned v ∧ w'.ownsRow w.heap.size 30 3 v n ((xs.map ValD.cell).flatMap cellV) ∧ Below w.heap.size w w') := by
  have HS := Lib.hid h
  have HLEN := Lib.hid h.1
  obtain ⟨i0, hi0, hz0, hz1, hz2⟩ := info_parts infoCell
  have HI := Lib.hid hi0
  have HZ0 := Lib.hid hz0
  have HZ1 := Lib.hid hz1
  have HZ2 := Lib.hid hz2
  obtain ⟨ys, hys⟩ : ∃ ys, xs.map ValD.cell = ys := ⟨_, rfl⟩
  have hyl : ys.length = n := by rw [← hys, List.length_map]; exact h.1
  rw [hys]
  have HYL := Lib.hid hyl
  have HYS := Lib.hid hys
  clear h hi0 hz0 hz1 hz2 hyl hys
  go_enter Try.func33, Try.ntmps33
  go_wp2
  go_loopw [3, 4] (fun v i wr => ∃ k : Nat, k ≤ n ∧ i = .int .i64 k ∧ wr.ownsRow w.heap.size 30 3 v k ((ys.take k).flatMap cellV) ∧ Below w.heap.size w wr) (fun _ i _ => n - (intOf i).toNat)
  case atStart => exact ⟨0, Nat.zero_le _, rfl, World.ownsRow_nil _ _ _ _, Below.refl _ _⟩
  case round =>
    obtain ⟨k, hk, rfl, hown, hb⟩ := hrel
    have HO := Lib.hid hown
    have HB := Lib.hid hb
    clear hown hb
    have hki : (0 : Int) ≤ (k : Int) := by omega
    by_cases hlt : k < n
    · have hkn : (k : Int) < (n : Int) := by omega
      obtain ⟨b, off, ce, u, rfl, hbl, hx, hr, hcell⟩ := HS.out.at1 hlt
      have hu : ce.val = u := by
        have : [u] = [ce.val] := hr
        simp at this
        exact this.symm
      have d0 := (HB.out.cell (p := ⟨b, off + k, none⟩) hbl).trans hcell
      have hyk : ys[k]? = some ce.cell := by rw [← HYS.out, List.getElem?_map, hx]; rfl
      have hsn := flat_snoc (f := cellV) hyk
      have hv := lawCellE ce
      rw [hu] at hv
      generalize ce.cell = d at *
      unfold CellD.cells at hv
      have HVC := Lib.hid hv
      have h63 : k + 1 ≤ maxLen := by unfold maxLen; omega
      have hby : (k + 1) * 32 ≤ 140737488355328 := by omega
      clear hcell hx hv hyk hr hu
      obtain ⟨dk, dn, ds⟩ := d
      have HSN := Lib.hid (show (ys.take (k + 1)).flatMap cellV = (ys.take k).flatMap cellV ++ [.int .u8 dk, .int .i64 dn, .string ds] by rw [hsn]; rfl)
      clear hsn
      go_wp2_with fail
      refine (HVC.out _).mono ?_
      rintro e w1 ⟨rfl, hb1⟩
      have HO1 := Lib.hid (own_below HO.out hb1)
      have HB1 := Lib.hid (HB.out.trans (hb1.mono HB.out.size))
      clear hb1 HO HB d0
      have hbase : w.heap.size ≤ (w1.alloc (.cells #[.int .u8 dk, .int .i64 dn, .string ds] 30)).heap.size := by have := HB1.out.size; simp; omega
      have hone : ∀ u ∈ ([.int .u8 dk, .int .i64 dn, .string ds] : List Value), u.oneCell' = true := by simp [Value.oneCell']
      have hcl : ∀ j u, ([.int .u8 dk, .int .i64 dn, .string ds] : List Value)[j]? = some u → (w1.alloc (.cells #[.int .u8 dk, .int .i64 dn, .string ds] 30)).cell? ((⟨w1.heap.size, 0, none⟩ : Addr).add j) = some u := fun j u hj => by
        have := CellsAt.alloc_at w1 #[.int .u8 dk, .int .i64 dn, .string ds] 30 w1.heap.size rfl j u (by simpa using hj)
        rw [show ((⟨w1.heap.size, 0, none⟩ : Addr).add j) = ⟨w1.heap.size, j, none⟩ by (simp [Addr.add] <;> omega)]
        exact this
      have HBASE := Lib.hid hbase
      have HONE := Lib.hid hone
      have HCL := Lib.hid hcl
      clear hbase hone hcl
      go_wp2_with (at_builtin; refine wpList_append_lies _ rfl _ _ _ rfl w.heap.size 30 i0 (.agg #[.int .u8 0, .int .i64 0, .string ByteArray.empty]) 3 32 Try.underlying27 HI.out HZ0.out HZ1.out HZ2.out rfl (by decide) _ _ _ rfl (HO1.out.alloc _) ⟨w1.heap.size, 0, none⟩ 1 1 [.int .u8 dk, .int .i64 dn, .string ds] rfl rfl HCL.out HONE.out (by decide) h63 hby HBASE.out _ rfl ?_; intro g cap w2 hown2 hgrow hat hglt)
      have hb2 := below_append HO1.out HB1.out hgrow
      clear hgrow hat
      go_roundw
      case rel =>
        refine ⟨k + 1, by omega, by go_num, ?_, hb2⟩
        rw [HSN.out]
        exact hown2
      case measure => simp [intOf] <;> omega
    · obtain rfl : k = n := by omega
      go_wp2
      go_ret
      refine ⟨_, rfl, ?_, HB.out⟩
      have h1 : ys.take k = ys := List.take_of_length_le (by have := HYL.out; omega)
      have := HO.out
      rw [h1] at this
      exact this
theorem cell_ne_dec (a b : CellD) : (!(a.kind == b.kind && a.n == b.n && a.s.toList == b.s.toList)) = decide (a ≠ b) := by rw [cell_ne_bool, ne_cmp]
theorem list_ne_at {α : Type} {xs ys : List α} {k : Nat} {x y : α} (hx : xs[k]? = some x) (hy : ys[k]? = some y) (h : x ≠ y) : xs ≠ ys := fun e => by
  rw [e, hy] at hx
  cases hx
  exact h rfl
theorem list_eq_of {α : Type} {xs ys : List α} {n : Nat} (hl : xs.length = n) (hl' : ys.length = n) (h : ∀ (j : Nat) (x y : α), j < n → xs[j]? = some x → ys[j]? = some y → x = y) : xs = ys := by
  apply List.ext_getElem?
  intro j
  by_cases hj : j < n
  · have h1 : xs[j]? = some (xs[j]'(by omega)) := List.getElem?_eq_getElem _
    have h2 : ys[j]? = some (ys[j]'(by omega)) := List.getElem?_eq_getElem _
    rw [h1, h2, h j _ _ hj h1 h2]
  · rw [List.getElem?_eq_none (by omega), List.getElem?_eq_none (by omega)]
theorem same_next {α : Type} {xs ys : List α} {k : Nat} (h : ∀ (j : Nat) (x y : α), j < k → xs[j]? = some x → ys[j]? = some y → x = y) {x y : α} (hx : xs[k]? = some x) (hy : ys[k]? = some y) (e : x = y) : ∀ (j : Nat) (x y : α), j < k + 1 → xs[j]? = some x → ys[j]? = some y → x = y := by
  intro j x' y' hj hx' hy'
  by_cases hjk : j = k
  · subst hjk
    rw [hx] at hx'; rw [hy] at hy'
    cases hx'; cases hy'
    exact e
  · exact h j x' y' (by omega) hx' hy'
set_option maxRecDepth 100000 in
set_option maxHeartbeats 4000000 in
theorem sameRow (a a' : Option Addr) (n c n' c' : Nat) (xs ys : List CellD) (w : World) (h : Sl 3 CellR w a n xs) (h' : Sl 3 CellR w a' n' ys) (hn : n ≤ 100000) (hn' : n' ≤ 100000) :
    Calls Try.prog 32 #[.slice a n c, .slice a' n' c'] w (BoolIs (decide (xs = ys)) w) := by
  have HS := Lib.hid h
  have HS' := Lib.hid h'
  have hl := h.1
  have hl' := h'.1
  clear h h'
  by_cases hnn : n = n'
  · subst hnn
    have hnb : ((n : Int) != (n : Int)) = false := by simp
    have HL := Lib.hid hl
    have HL' := Lib.hid hl'
    have HQ := Lib.hid cellneq
    clear hl hl'
    go_enter Try.func32, Try.ntmps32
    go_wp2
    go_loopw [5] (fun i wr => ∃ k : Nat, k ≤ n ∧ i = .int .i64 k ∧ (∀ (j : Nat) (x y : CellD), j < k → xs[j]? = some x → ys[j]? = some y → x = y) ∧ Below w.heap.size w wr) (fun i _ => n - (intOf i).toNat)
    case atStart => exact ⟨0, Nat.zero_le _, rfl, fun j x y hj => absurd hj (by omega), Below.refl _ _⟩
    case round =>
      obtain ⟨k, hk, rfl, hall, hb⟩ := hrel
      have HAL := Lib.hid hall
      have HB := Lib.hid hb
      clear hall hb
      have hki : (0 : Int) ≤ (k : Int) := by omega
      by_cases hlt : k < n
      · have hkn : (k : Int) < (n : Int) := by omega
        obtain ⟨b, off, ce, cs, rfl, hbl, hx, hcl, hr, hcell⟩ := HS.out.at_ hlt
        obtain ⟨rfl, _⟩ := hr
        obtain ⟨b', off', de, cs', rfl, hbl', hx', hcl', hr', hcell'⟩ := HS'.out.at_ hlt
        obtain ⟨rfl, _⟩ := hr'
        have d0 := (HB.out.cell (p := ⟨b, off + k * 3 + 0, none⟩) hbl).trans (hcell 0 _ rfl)
        have d1 := (HB.out.cell (p := ⟨b, off + k * 3 + 1, none⟩) hbl).trans (hcell 1 _ rfl)
        have d2 := (HB.out.cell (p := ⟨b, off + k * 3 + 2, none⟩) hbl).trans (hcell 2 _ rfl)
        have c0 := (HB.out.cell (p := ⟨b', off' + k * 3 + 0, none⟩) hbl').trans (hcell' 0 _ rfl)
        have c1 := (HB.out.cell (p := ⟨b', off' + k * 3 + 1, none⟩) hbl').trans (hcell' 1 _ rfl)
        have c2 := (HB.out.cell (p := ⟨b', off' + k * 3 + 2, none⟩) hbl').trans (hcell' 2 _ rfl)
        rw [Nat.add_zero] at d0 c0
        have HX := Lib.hid hx
        have HX' := Lib.hid hx'
        have hq := HQ.out ce.kind ce.n ce.s de.kind de.n de.s
        rw [cell_ne_dec ce de] at hq
        have HEQ : ce = de ∨ ce ≠ de := Classical.em _
        by_cases heq : ce = de
        · have HE := Lib.hid heq
          rw [show decide (ce ≠ de) = false by simp [heq]] at hq
          clear hcell hcell' hx hx' heq HEQ
          go_upto_region 6 with fail
          go_quiet (fail)
          go_wp2
          go_roundw
          case rel => exact ⟨k + 1, by omega, by go_num, same_next HAL.out HX.out HX'.out HE.out, below_drewN HB.out _⟩
          case measure => simp [intOf] <;> omega
        · have HNE := Lib.hid (list_ne_at hx hx' heq)
          rw [show decide (ce ≠ de) = true by simp [heq]] at hq
          clear hcell hcell' hx hx' heq HEQ
          go_upto_region 6 with fail
          go_quiet (fail)
          go_wp2
          go_ret
          exact ⟨by rw [show decide (xs = ys) = false from decide_eq_false HNE.out]; rfl, below_drewN HB.out _⟩
      · obtain rfl : k = n := by omega
        have HE := Lib.hid (list_eq_of HL.out HL'.out HAL.out)
        go_wp2
        go_ret
        exact ⟨by rw [show decide (xs = ys) = true from decide_eq_true HE.out]; rfl, HB.out⟩
  · have hnb : ((n : Int) != (n' : Int)) = true := by simp; omega
    have HNE := Lib.hid (show xs ≠ ys from fun e => hnn (by rw [← hl, ← hl', e]))
    clear hl hl'
    go_enter Try.func32, Try.ntmps32
    go_wp2
    go_ret
    exact ⟨by rw [show decide (xs = ys) = false from decide_eq_false HNE.out]; rfl, Below.refl _ _⟩
end Go.Proofs.Ytlclhinianamhaa

namespace Go.Proofs.Ytlclhinianamhaa
open Go.RowKit Go.Deep
set_option linter.unusedVariables false
set_option linter.unusedSimpArgs false

def VPairV : Rd VPair := fun _ cs q => cs = [q.2]
theorem VRowAt.below {w w' : World} {q : VPair} (h : VRowAt w q) (hb : Below w.heap.size w w') : VRowAt w' q := by
  obtain ⟨a, n, c, h1, h2, h3⟩ := h
  exact ⟨a, n, c, h1, h2, h3.below ValRE.stable hb⟩
theorem RowAt.below {w w' : World} {q : Pair} (h : RowAt w q) (hb : Below w.heap.size w w') : RowAt w' q := by
  obtain ⟨a, n, c, h1, h3⟩ := h
  exact ⟨a, n, c, h1, h3.below CellR.stable hb⟩
theorem VPairV.stable : Stable VPairV := fun _ _ _ _ _ h => h
theorem PairV.stable : Stable PairV := fun _ _ _ _ _ h => h
def NoS (k : Nat) : Prop := False
def GoodRow (q : VPair) : Prop := q.1.length ≤ 1000 ∧ ∀ d ∈ q.1, CellB d.cell
def AllPost (L : List VPair) (n : Nat) (w : World) (e : Ending) (w' : World) : Prop :=
  ∃ v P, e = .returned v ∧ w'.ownsRow w.heap.size 27 1 v n ((P : List Pair).map Prod.snd) ∧ P.map Prod.fst = L.map cellsOfV ∧ (∀ q ∈ P, RowAt w' q) ∧ Below w.heap.size w w'
set_option maxRecDepth 100000 in
set_option maxHeartbeats 4000000 in
theorem lawAll (a : Option Addr) (n c : Nat) (L : List VPair) (w : World) (h : Sl 1 VPairV w a n L) (hr : ∀ q ∈ L, VRowAt w q) (hg : ∀ q ∈ L, GoodRow q) (hn : n ≤ 1000) :
    Calls Try.prog 22 #[.slice a n c] w (AllPost L n w) := by
  have HS := Lib.hid h
  have HR := Lib.hid hr
  have HG := Lib.hid hg
  have HLEN := Lib.hid h.1
  obtain ⟨i0, hi0, hz0, hz1, hz2⟩ := info_parts infoRowE
  have HI := Lib.hid hi0
  have HZ0 := Lib.hid hz0
  have HZ1 := Lib.hid hz1
  have HZ2 := Lib.hid hz2
  clear h hr hg hi0 hz0 hz1 hz2
  go_enter Try.func22, Try.ntmps22
  go_wp2
  go_loopw [3, 4] (fun v i wr => ∃ (k : Nat) (acc : List Pair), k ≤ n ∧ i = .int .i64 k ∧ wr.ownsRow w.heap.size 27 1 v k (acc.map Prod.snd) ∧ acc.map Prod.fst = (L.take k).map cellsOfV ∧ Far (OwnS NoS v) wr (fun W => ∀ q ∈ acc, RowAt W q) ∧ Below w.heap.size w wr) (fun _ i _ => n - (intOf i).toNat)
  case atStart => exact ⟨0, [], Nat.zero_le _, rfl, World.ownsRow_nil _ _ _ _, rfl, (fun _ _ q hq => by cases hq), Below.refl _ _⟩
  case round =>
    obtain ⟨k, acc, hk, rfl, hown, hacc, hfar, hb⟩ := hrel
    have HO := Lib.hid hown
    have HAC := Lib.hid hacc
    have HFA := Lib.hid hfar
    have HB := Lib.hid hb
    clear hown hacc hfar hb
    have hki : (0 : Int) ≤ (k : Int) := by omega
    by_cases hlt : k < n
    · have hkn : (k : Int) < (n : Int) := by omega
      obtain ⟨b, off, q, u, rfl, hbl, hx, hr, hcell⟩ := (HS.out.below VPairV.stable HB.out).at1 hlt
      cases hr
      obtain ⟨qa, qn, qc, hqv, hqnil, hqs⟩ := (HR.out q (List.mem_of_getElem? hx)).below HB.out
      have hgq := HG.out q (List.mem_of_getElem? hx)
      have hqn : qn ≤ 1000 := by rw [← hqs.1]; exact hgq.1
      rw [hqv] at hcell
      have HGQ := Lib.hid hgq
      have HQL := Lib.hid hqs.1
      have HX := Lib.hid (take_snocE (f := cellsOfV) hx)
      have HCL := Lib.hid (fun (W : World) (h : Below wr.heap.size wr W) => lawCells qa qn qc q.1 W (hqs.below ValRE.stable h) hqn)
      have WM := Lib.hid (wide_room hn hlt)
      clear hqs hgq hqnil hx
      go_wp2_with fail
      refine (HCL.out _ (Below.refl _ _)).mono ?_
      rintro e w5 ⟨v5, rfl, hown5, hb5⟩
      obtain ⟨a5, c5, rfl, hc5⟩ := own_slice hown5
      have K5 := Lib.hid hb5
      have HO5 := Lib.hid (own_below HO.out hb5)
      have HRN := Lib.hid (RowAt.far (S := OwnS NoS u3) hown5 (own_lt HO.out (fun k h => h.elim)) (fun y hy => by
        obtain ⟨d, hd, rfl⟩ := List.mem_map.1 hy
        exact ⟨rfl, HGQ.out.2 d hd⟩))
      have HF5 := Lib.hid (HFA.out.call hb5)
      have HCL7 := Lib.hid (cell_one_new w5 (.slice a5 qn c5) 27)
      have HBASE7 := Lib.hid (show w.heap.size ≤ (w5.alloc (.cells #[.slice a5 qn c5] 27)).heap.size by have := K5.out.size; have := HB.out.size; simp; omega)
      clear hown5 hb5 hc5 hcell
      go_wp2_with (at_builtin; refine wpList_append_lies _ rfl _ _ _ rfl w.heap.size 27 i0 (.slice none 0 0) 1 24 Try.underlying52 HI.out HZ0.out HZ1.out HZ2.out rfl (by decide) _ _ _ rfl (HO5.out.alloc _) ⟨w5.heap.size, 0, none⟩ 1 1 [.slice a5 qn c5] rfl rfl HCL7.out (by simp [Value.oneCell']) (by decide) WM.out.1 WM.out.2 HBASE7.out _ rfl ?_; intro g7 cap7 w7 hown7 hgrow7 hat7 hglt7; refine Hold.out ?_)
      unfold Hold
      have HB7 := Lib.hid (below_append HO5.out (HB.out.trans (K5.out.mono HB.out.size)) hgrow7)
      have HO7 := Lib.hid hown7
      have HF7 := Lib.hid (Far.grow (v' := .slice (some ⟨g7, 0, none⟩) (k + 1) cap7) (HF5.out.and HRN.out) ((Below.refl _ _).alloc (Nat.le_refl _) _) hgrow7 (fun j e => by
        simp [Value.ownBlock] at e
        subst e
        rcases hat7 with h | h
        · exact .inl h
        · exact .inr (by rw [h]; simp)))
      clear hown7 hgrow7 hat7 hglt7
      go_wp2
      go_roundw
      case rel =>
        refine ⟨k + 1, acc ++ [((q.1.map ValD.cell, .slice a5 qn c5) : Pair)], by omega, by go_num, by have := HO7.out; simpa using this, by rw [HX.out, List.map_append, HAC.out]; rfl, HF7.out.imp (fun W h y hy => ?_), HB7.out⟩
        rcases List.mem_append.1 hy with hy | hy
        · exact h.1 y hy
        · simp at hy
          subst hy
          exact h.2
      case measure => simp [intOf] <;> omega
    · obtain rfl : k = n := by omega
      have HTK := Lib.hid (show L.take k = L from List.take_of_length_le (by rw [HLEN.out]; exact Nat.le_refl _))
      go_wp2
      go_ret
      exact ⟨_, acc, rfl, HO.out, by rw [HAC.out, HTK.out], HFA.out.now, HB.out⟩
theorem fst_at {α β : Type} {P : List (α × β)} {k : Nat} {q : α × β} (h : P[k]? = some q) : (P.map Prod.fst)[k]? = some q.1 := by rw [List.getElem?_map, h]; rfl
set_option maxRecDepth 100000 in
set_option maxHeartbeats 4000000 in
theorem sameRows (a a' : Option Addr) (n c n' c' : Nat) (P Q : List Pair) (w : World) (h : Sl 1 PairV w a n P) (h' : Sl 1 PairV w a' n' Q) (hr : ∀ q ∈ P, RowAt w q) (hr' : ∀ q ∈ Q, RowAt w q) (hg : ∀ q ∈ P, q.1.length ≤ 1000) (hg' : ∀ q ∈ Q, q.1.length ≤ 1000) (hn : n ≤ 1000) :
    Calls Try.prog 50 #[.slice a n c, .slice a' n' c'] w (BoolIs (decide (P.map Prod.fst = Q.map Prod.fst)) w) := by
  have HS := Lib.hid h
  have HS' := Lib.hid h'
  have HR := Lib.hid hr
  have HR' := Lib.hid hr'
  have HG := Lib.hid hg
  have HG' := Lib.hid hg'
  have hl := h.1
  have hl' := h'.1
  clear h h' hr hr' hg hg'
  by_cases hnn : n = n'
  · subst hnn
    have hnb : ((n : Int) != (n : Int)) = false := by simp
    have HL := Lib.hid hl
    have HL' := Lib.hid hl'
    clear hl hl'
    go_enter Try.func50, Try.ntmps50
    go_wp2
    go_loopw [5] (fun i wr => ∃ k : Nat, k ≤ n ∧ i = .int .i64 k ∧ (∀ (j : Nat) (x y : List CellD), j < k → (P.map Prod.fst)[j]? = some x → (Q.map Prod.fst)[j]? = some y → x = y) ∧ Below w.heap.size w wr) (fun i _ => n - (intOf i).toNat)
    case atStart => exact ⟨0, Nat.zero_le _, rfl, fun j x y hj => absurd hj (by omega), Below.refl _ _⟩
    case round =>
      obtain ⟨k, hk, rfl, hall, hb⟩ := hrel
      have HAL := Lib.hid hall
      have HB := Lib.hid hb
      clear hall hb
      have hki : (0 : Int) ≤ (k : Int) := by omega
      by_cases hlt : k < n
      · have hkn : (k : Int) < (n : Int) := by omega
        obtain ⟨b, off, q, u, rfl, hbl, hx, hru, hcell⟩ := (HS.out.below PairV.stable HB.out).at1 hlt
        cases hru
        obtain ⟨b', off', q', u', rfl, hbl', hx', hru', hcell'⟩ := (HS'.out.below PairV.stable HB.out).at1 hlt
        cases hru'
        obtain ⟨qa, qn, qc, hqv, hqs⟩ := (HR.out q (List.mem_of_getElem? hx)).below HB.out
        obtain ⟨qa', qn', qc', hqv', hqs'⟩ := (HR'.out q' (List.mem_of_getElem? hx')).below HB.out
        have hq1 : qn ≤ 1000 := by rw [← hqs.1]; exact HG.out q (List.mem_of_getElem? hx)
        have hq1' : qn' ≤ 1000 := by rw [← hqs'.1]; exact HG'.out q' (List.mem_of_getElem? hx')
        rw [hqv] at hcell
        rw [hqv'] at hcell'
        have HX := Lib.hid (fst_at hx)
        have HX' := Lib.hid (fst_at hx')
        obtain ⟨r1, hr1⟩ : ∃ r, q.1 = r := ⟨_, rfl⟩
        obtain ⟨r2, hr2⟩ : ∃ r, q'.1 = r := ⟨_, rfl⟩
        rw [hr1] at HX hqs
        rw [hr2] at HX' hqs'
        have HSR := Lib.hid (fun (W : World) (h : Below wr.heap.size wr W) => sameRow qa qa' qn qc qn' qc' r1 r2 W (hqs.below CellR.stable h) (hqs'.below CellR.stable h) (by omega) (by omega))
        obtain ⟨eb, heb⟩ : ∃ eb, decide (r1 = r2) = eb := ⟨_, rfl⟩
        rw [heb] at HSR
        have HEB := Lib.hid heb
        have hS : ∀ W, Below wr.heap.size wr W → W.cell? ⟨b, off + k, none⟩ = some (.slice qa qn qc) ∧ W.cell? ⟨b', off' + k, none⟩ = some (.slice qa' qn' qc') := fun W h => ⟨(h.cell (p := ⟨b, off + k, none⟩) hbl).trans hcell, (h.cell (p := ⟨b', off' + k, none⟩) hbl').trans hcell'⟩
        have HSS := Lib.hid hS
        clear hS hqs hqs' hcell hcell' hx hx' hr1 hr2 heb hqv hqv'
        go_upto_region 6 with fail
        go_region_held3 (fun W => W.cell? ⟨b, off + k, none⟩ = some (.slice qa qn qc) ∧ W.cell? ⟨b', off' + k, none⟩ = some (.slice qa' qn' qc'))
          (first | exact HSS.out _ K5.out | exact HSS.out _ (Below.refl _ _).drew)
          (first
            | (go_at_call 32; (with_reducible refine (HSR.out _ (Below.drew (Below.refl _ _))).mono ?_); rintro e w5 ⟨rfl, hp5⟩; have K5 := Lib.hid (below_step (W0 := wr) (Below.drew (Below.refl _ _)) hp5); clear hp5)
            | fail)
        have HB5 := Lib.hid (below_step HB.out K5.out)
        have HLT := Lib.hid hlt
        cases eb
        · have HNE := Lib.hid (list_ne_at HX.out HX'.out (of_decide_eq_false HEB.out))
          go_wp2
          go_ret
          exact ⟨by rw [show decide (P.map Prod.fst = Q.map Prod.fst) = false from decide_eq_false HNE.out]; rfl, HB5.out⟩
        · have HE := Lib.hid (of_decide_eq_true HEB.out)
          go_wp2
          go_roundw
          case rel => exact ⟨k + 1, by have := HLT.out; omega, by go_num, same_next HAL.out HX.out HX'.out HE.out, HB5.out⟩
          case measure =>
            have := HLT.out
            simp [intOf] <;> omega
      · obtain rfl : k = n := by omega
        have HE := Lib.hid (list_eq_of (xs := P.map Prod.fst) (ys := Q.map Prod.fst) (by rw [List.length_map]; exact HL.out) (by rw [List.length_map]; exact HL'.out) HAL.out)
        go_wp2
        go_ret
        exact ⟨by rw [show decide (P.map Prod.fst = Q.map Prod.fst) = true from decide_eq_true HE.out]; rfl, HB.out⟩
  · have hnb : ((n : Int) != (n' : Int)) = true := by simp; omega
    have HNE := Lib.hid (show P.map Prod.fst ≠ Q.map Prod.fst from fun e => hnn (by have := congrArg List.length e; rw [List.length_map, List.length_map] at this; omega))
    clear hl hl'
    go_enter Try.func50, Try.ntmps50
    go_wp2
    go_ret
    exact ⟨by rw [show decide (P.map Prod.fst = Q.map Prod.fst) = false from decide_eq_false HNE.out]; rfl, Below.refl _ _⟩
set_option maxRecDepth 100000 in
set_option maxHeartbeats 4000000 in
theorem lawIs (a a' : Option Addr) (n c n' c' : Nat) (L : List VPair) (Q : List Pair) (w : World) (h : Sl 1 VPairV w a n L) (hr : ∀ q ∈ L, VRowAt w q) (hg : ∀ q ∈ L, GoodRow q) (hn : n ≤ 1000) (h' : Sl 1 PairV w a' n' Q) (hr' : ∀ q ∈ Q, RowAt w q) (hg' : ∀ q ∈ Q, q.1.length ≤ 1000) :
    Calls Try.prog 20 #[.slice a n c, .slice a' n' c'] w (BoolIs (decide (L.map cellsOfV = Q.map Prod.fst)) w) := by
  have HA := Lib.hid (fun W => lawAll a n c L W)
  have HS := Lib.hid h
  have HR := Lib.hid hr
  have HG := Lib.hid hg
  have HS' := Lib.hid h'
  have HR' := Lib.hid hr'
  have HG' := Lib.hid hg'
  have HSR := Lib.hid sameRows
  clear h hr hg h' hr' hg'
  go_enter Try.func20, Try.ntmps20
  go_wp2_with fail
  refine (HA.out _ HS.out HR.out HG.out hn).mono ?_
  rintro e w1 ⟨v, P, rfl, hown, hP, hrow, hb⟩
  obtain ⟨a5, c5, rfl, hc5⟩ := own_slice hown
  have hlen : P.length = n := by have := hown.1; simpa using this
  have HO := Lib.hid (show w1.ownsRow w.heap.size 27 1 (.slice a5 n c5) n (P.map Prod.snd) from hown)
  have HP := Lib.hid hP
  have HRW := Lib.hid hrow
  have HB := Lib.hid hb
  have HGP := Lib.hid (show ∀ q ∈ P, q.1.length ≤ 1000 from fun q hq => by
    have : q.1 ∈ L.map cellsOfV := by rw [← hP]; exact List.mem_map.2 ⟨q, hq, rfl⟩
    obtain ⟨y, hy, he⟩ := List.mem_map.1 this
    have := (HG.out y hy).1
    rw [← he]
    unfold cellsOfV
    rw [List.length_map]
    exact this)
  clear hown hP hrow hb hc5
  go_wp2_with fail
  refine (HSR.out a5 a' n c5 n' c' P Q _ (own_pairs HO.out) (HS'.out.below PairV.stable HB.out) HRW.out (fun q hq => (HR'.out q hq).below HB.out) HGP.out HG'.out hn).mono ?_
  rintro e w2 ⟨rfl, hb2⟩
  have HB2 := Lib.hid (HB.out.trans (hb2.mono HB.out.size))
  rw [HP.out]
  go_wp2
  go_ret
  exact ⟨rfl, HB2.out⟩
end Go.Proofs.Ytlclhinianamhaa
