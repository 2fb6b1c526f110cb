/- The contracts of travel.Chain and of what it calls. -/
import Derived.Test.YtlcolgibabibdaaTravel5
namespace Go.Proofs.Ytlcolgibabibdaa
open Go.RowKit Go.Deep
set_option linter.unusedVariables false

/-- The snapshot with a number. -/
def snapOf (l : List SnapD) (id : Nat) : Option SnapD := l.find? fun s => decide (s.id = id)
/-- Whence a snapshot came. -/
def chainF (l : List SnapD) : Nat → Nat → List Nat
  | 0, _ => []
  | f + 1, id => match snapOf l id with
    | none => []
    | some s => if id ≤ s.parent then [id] else id :: chainF l f s.parent
def chain (l : List SnapD) (id : Nat) : List Nat := chainF l (id + 1) id
theorem chainF_more (l : List SnapD) : ∀ f g id, id < f → id < g → chainF l f id = chainF l g id
  | 0, g, id, h, _ => by omega
  | f + 1, 0, id, _, h => by omega
  | f + 1, g + 1, id, h, h' => by
    simp only [chainF]
    cases hs : snapOf l id with
    | none => rfl
    | some s =>
      simp only []
      by_cases hp : id ≤ s.parent
      · rw [if_pos hp, if_pos hp]
      · rw [if_neg hp, if_neg hp, chainF_more l f g s.parent (by omega) (by omega)]
theorem chain_none {l : List SnapD} {id : Nat} (h : snapOf l id = none) : chain l id = [] := by simp [chain, chainF, h]
theorem chain_last {l : List SnapD} {id : Nat} {s : SnapD} (h : snapOf l id = some s) (hp : id ≤ s.parent) : chain l id = [id] := by simp [chain, chainF, h, hp]
theorem chain_on {l : List SnapD} {id : Nat} {s : SnapD} (h : snapOf l id = some s) (hp : s.parent < id) : chain l id = id :: chain l s.parent := by
  have hn : ¬ id ≤ s.parent := by omega
  unfold chain
  rw [chainF_more l (s.parent + 1) id s.parent (by omega) hp]
  simp [chainF, h, hn]

/-- What was found by going through: the first place with a number; -1. -/
def First (l : List SnapD) (id : Nat) (r : Int) : Prop :=
  (r = -1 ∧ snapOf l id = none) ∨ ∃ (m : Nat) (s : SnapD), r = (m : Int) ∧ l[m]? = some s ∧ snapOf l id = some s
theorem snapOf_none {l : List SnapD} {id : Nat} (h : ∀ (j : Nat) (s : SnapD), l[j]? = some s → s.id ≠ id) : snapOf l id = none := by
  unfold snapOf
  rw [List.find?_eq_none]
  intro s hs
  obtain ⟨j, hj, rfl⟩ := List.getElem_of_mem hs
  simpa using h j _ (List.getElem?_eq_getElem hj)
theorem snapOf_first {l : List SnapD} {id m : Nat} {s : SnapD} (hs : l[m]? = some s) (hid : s.id = id) (h : ∀ (j : Nat) (x : SnapD), j < m → l[j]? = some x → x.id ≠ id) : snapOf l id = some s := by
  unfold snapOf
  have hm : m < l.length := (List.getElem?_eq_some_iff.1 hs).1
  rw [List.find?_eq_some_iff_getElem]
  refine ⟨by simpa using hid, m, hm, ?_, fun j hj => ?_⟩
  · rw [List.getElem?_eq_getElem hm] at hs; exact Option.some.inj hs
  · simpa using h j _ hj (List.getElem?_eq_getElem (by omega))

def IsIdPost (b : Bool) (w : World) (e : Ending) (w' : World) : Prop := e = .returned (.bool b) ∧ Below w.heap.size w w'
theorem isId (cs : List Value) (s : SnapD) (id g : Nat) (w : World) (h : SnapR w cs s) (hg : g < w.heap.size) (hc : w.cell? ⟨g, 0, none⟩ = some (.int .u64 (id : Int))) :
    Calls Try.prog 27 #[.agg cs.toArray, .pointer (some ⟨g, 0, none⟩)] w (IsIdPost (decide (s.id = id)) w) := by
  obtain ⟨a, n, c, rfl, h1, h2, h3, hs, _⟩ := h
  by_cases hid : s.id = id
  · have hb : ((s.id : Int) == (id : Int)) = true := by rw [beq_iff_eq]; omega
    have HI := Lib.hid hid
    clear hid
    go_enter Try.func27, Try.ntmps27
    go_wp2
    go_ret
    exact ⟨by simp [HI.out], (Below.refl _ _).alloc (Nat.le_refl _) _⟩
  · have hb : ((s.id : Int) == (id : Int)) = false := by rw [beq_eq_false_iff_ne]; omega
    have HI := Lib.hid hid
    clear hid
    go_enter Try.func27, Try.ntmps27
    go_wp2
    go_ret
    exact ⟨by simp [HI.out], (Below.refl _ _).alloc (Nat.le_refl _) _⟩

def IndexPost (l : List SnapD) (id : Nat) (w : World) (e : Ending) (w' : World) : Prop := ∃ r, e = .returned (.int .i64 r) ∧ First l id r ∧ Below w.heap.size w w'
set_option maxRecDepth 100000 in
set_option maxHeartbeats 1000000 in
theorem index_calls (a : Option Addr) (n c : Nat) (l : List SnapD) (id g : Nat) (w : World) (h : Sl 7 SnapR w a n l) (hn : n ≤ 100) (hg : g < w.heap.size) (hc : w.cell? ⟨g, 0, none⟩ = some (.int .u64 (id : Int))) :
    Calls Try.prog 26 #[.slice a n c, .func (.func 27) #[] #[.pointer (some ⟨g, 0, none⟩)]] w (IndexPost l id w) := by
  have HS := Lib.hid h
  have HC := Lib.hid hc
  clear h hc
  go_enter Try.func26, Try.ntmps26
  go_wp2
  go_loopw [8] (fun i wr => ∃ k : Nat, k ≤ n ∧ i = .int .i64 k ∧ Below w.heap.size w wr ∧ ∀ (j : Nat) (s : SnapD), j < k → l[j]? = some s → s.id ≠ id) (fun i _ => n - (intOf i).toNat)
  case atStart => exact ⟨0, Nat.zero_le _, rfl, Below.refl _ _, fun j s hj => absurd hj (by omega)⟩
  case round =>
    obtain ⟨k, hk, rfl, hb, hno⟩ := hrel
    have HN := Lib.hid hno
    have HB := Lib.hid hb
    have hwz := hb.size
    clear hno hb
    by_cases hlt : k < n
    · obtain ⟨b, off, s, cs, rfl, hbl, hx, hcl, hr, hcell⟩ := HS.out.at_ hlt
      obtain ⟨a2, n2, c2, rfl, hr2⟩ := hr
      have d0 := (HB.out.cell (p := ⟨b, off + k * 7 + 0, none⟩) hbl).trans (hcell 0 _ rfl)
      have d1 := (HB.out.cell (p := ⟨b, off + k * 7 + 1, none⟩) hbl).trans (hcell 1 _ rfl)
      have d2 := (HB.out.cell (p := ⟨b, off + k * 7 + 2, none⟩) hbl).trans (hcell 2 _ rfl)
      have d3 := (HB.out.cell (p := ⟨b, off + k * 7 + 3, none⟩) hbl).trans (hcell 3 _ rfl)
      have d4 := (HB.out.cell (p := ⟨b, off + k * 7 + 4, none⟩) hbl).trans (hcell 4 _ rfl)
      have d5 := (HB.out.cell (p := ⟨b, off + k * 7 + 5, none⟩) hbl).trans (hcell 5 _ rfl)
      have d6 := (HB.out.cell (p := ⟨b, off + k * 7 + 6, none⟩) hbl).trans (hcell 6 _ rfl)
      rw [Nat.add_zero] at d0
      have SR := Lib.hid (SnapR.stable _ _ _ _ HB.out ⟨a2, n2, c2, rfl, hr2⟩)
      have cg := Lib.hid ((HB.out.cell (p := ⟨g, 0, none⟩) hg).trans HC.out)
      clear hcell hr2
      go_wp2_with fail
      refine (isId _ s id g _ SR.out (by omega) cg.out).mono ?_
      rintro e w1 ⟨rfl, hb1⟩
      have HB1 := Lib.hid (HB.out.trans (hb1.mono hwz))
      clear hb1 d0 d1 d2 d3 d4 d5 d6
      have HX := Lib.hid hx
      clear hx
      by_cases hid : s.id = id
      · have HI := Lib.hid hid
        rw [show decide (s.id = id) = true by simp [hid]]
        clear hid
        go_wp2
        go_ret
        exact ⟨_, rfl, .inr ⟨k, s, rfl, HX.out, snapOf_first HX.out HI.out HN.out⟩, HB1.out⟩
      · have HI := Lib.hid hid
        rw [show decide (s.id = id) = false by simp [hid]]
        clear hid
        go_wp2
        go_roundw
        case rel =>
          refine ⟨k + 1, by omega, by go_num, HB1.out, fun j x hj hx => ?_⟩
          by_cases hjk : j = k
          · subst hjk; have := HX.out.symm.trans hx; cases this; exact HI.out
          · exact HN.out j x (by omega) hx
        case measure => simp [intOf] <;> omega
    · go_wp2
      go_ret
      refine ⟨_, rfl, .inl ⟨rfl, snapOf_none fun j s hs => HN.out j s ?_ hs⟩, HB.out⟩
      rcases Nat.lt_or_ge j k with h | h
      · exact h
      · rw [List.getElem?_eq_none (by have := HS.out.1; omega)] at hs; cases hs

theorem length_le_of_subset : ∀ (l xs : List Nat), l.Pairwise (· ≠ ·) → (∀ x ∈ l, x ∈ xs) → l.length ≤ xs.length
  | [], xs, _, _ => Nat.zero_le _
  | a :: l, xs, hp, hm => by
    have ha := hm a (by simp)
    have hp' := List.pairwise_cons.1 hp
    have := length_le_of_subset l (xs.erase a) hp'.2 (fun x hx => (List.mem_erase_of_ne (Ne.symm (hp'.1 x hx))).2 (hm x (by simp [hx])))
    rw [List.length_erase_of_mem ha] at this
    have hpos : 0 < xs.length := List.length_pos_of_mem ha
    simp; omega
/-- What has been gathered on the way: falling numbers, each of a snapshot. -/
def Gone (l : List SnapD) (id : Nat) (acc : List Nat) (cur : Nat) : Prop :=
  chain l id = acc ++ chain l cur ∧ acc.Pairwise (fun a b => b < a) ∧ (∀ x ∈ acc, cur < x) ∧ ∀ x ∈ acc, x ∈ l.map SnapD.id
theorem snapOf_mem {l : List SnapD} {id : Nat} {s : SnapD} (h : snapOf l id = some s) : id ∈ l.map SnapD.id := by
  unfold snapOf at h
  have h1 := List.mem_of_find?_eq_some h
  have h2 := List.find?_some h
  simp at h2
  exact List.mem_map.2 ⟨s, h1, h2⟩
theorem Gone.start (l : List SnapD) (id : Nat) : Gone l id [] id := ⟨rfl, List.Pairwise.nil, by simp, by simp⟩
theorem Gone.on {l : List SnapD} {id cur : Nat} {acc : List Nat} {s : SnapD} (h : Gone l id acc cur) (hs : snapOf l cur = some s) (hp : s.parent < cur) : Gone l id (acc ++ [cur]) s.parent := by
  obtain ⟨h1, h2, h3, h4⟩ := h
  refine ⟨by rw [h1, chain_on hs hp]; simp, ?_, fun x hx => ?_, fun x hx => ?_⟩
  · rw [List.pairwise_append]
    exact ⟨h2, by simp, fun a ha b hb => by simp at hb; subst hb; exact h3 a ha⟩
  · rcases List.mem_append.1 hx with hx | hx
    · have := h3 x hx; omega
    · simp at hx; omega
  · rcases List.mem_append.1 hx with hx | hx
    · exact h4 x hx
    · simp at hx; subst hx; exact snapOf_mem hs
theorem Gone.len {l : List SnapD} {id cur : Nat} {acc : List Nat} (h : Gone l id acc cur) : acc.length ≤ l.length := by
  have := length_le_of_subset acc (l.map SnapD.id) (h.2.1.imp fun h => by omega) h.2.2.2
  simpa using this
end Go.Proofs.Ytlcolgibabibdaa
