/- Of the events of a key the last one alone counts: what holds of two states' plain data, where one did all events and the other left some out. -/
import Derived.Test.YtlclhinianamhaaEvRun
namespace Go.Proofs.Ytlclhinianamhaa
open Go.RowKit Go.Deep
set_option linter.unusedVariables false
set_option linter.unusedSimpArgs false

/-- The key of an event that puts or removes. -/
def keyEv (e : EventD) : CellD := if e.op = 1 then fix (keyOf e.row) else fix e.key
theorem key_row {e : EventD} (h : 1 ≤ e.row.length) : keyOf (e.row.map fix) = fix (keyOf e.row) := by
  obtain ⟨o, op, row, k, nm, kd⟩ := e
  cases row with
  | nil => simp at h
  | cons a t => rfl
theorem ne_cmpC {a b : CellD} : cmpC a b ≠ 0 ↔ a ≠ b := not_congr (cmpC_zero a b)
theorem mem_put {r q : List CellD} {l : List (List CellD)} : q ∈ putL r l ↔ q = r ∨ (q ∈ l ∧ keyOf q ≠ keyOf r) := by
  rw [(putL_perm r l).mem_iff, List.mem_cons, List.mem_filter, decide_eq_true_iff, ne_cmpC]
theorem mem_del {q : List CellD} {k : CellD} {l : List (List CellD)} : q ∈ delL k l ↔ q ∈ l ∧ keyOf q ≠ k := by
  unfold delL
  rw [List.mem_filter, decide_eq_true_iff, ne_cmpC]
theorem RisesK.nodup {l : List (List CellD)} (h : RisesK l) : l.Nodup := List.Pairwise.imp (fun {a b} hl e => by rw [e] at hl; exact LessC.irrefl _ hl) h
theorem rises_mem {l l' : List (List CellD)} (h : RisesK l) (h' : RisesK l') (hm : ∀ r, r ∈ l ↔ r ∈ l') : l = l' :=
  rises_eq ((List.perm_ext_iff_of_nodup h.nodup h'.nodup).2 hm) (List.Pairwise.imp (fun hl hr => hl.asymm hr) h) h'
theorem doS_put {x : StD} {e : EventD} (hd : doE x e = 0) (h : e.op = 1) : doS x e = ⟨x.s, putL (e.row.map fix) x.l, e.offset⟩ := by
  unfold doS
  rw [if_neg (by rw [hd]; simp), if_pos h]
theorem doS_del {x : StD} {e : EventD} (hd : doE x e = 0) (h : e.op = 2) : doS x e = ⟨x.s, delL (fix e.key) x.l, e.offset⟩ := by
  unfold doS
  rw [if_neg (by rw [hd]; simp), if_neg (by omega), if_pos h]
theorem doS_wide {x : StD} {e : EventD} (hd : doE x e = 0) (h : e.op = 3) : doS x e = ⟨addS x.s e.name (e.kind : Int), wideL x.l, e.offset⟩ := by
  unfold doS
  rw [if_neg (by rw [hd]; simp), if_neg (by omega), if_neg (by omega)]
theorem set_mem {x : StD} {e : EventD} (hd : doE x e = 0) (h3 : e.op ≠ 3) : (doS x e).s = x.s ∧ ∀ r, keyOf r ≠ keyEv e → (r ∈ (doS x e).l ↔ r ∈ x.l) := by
  obtain ⟨_, _, hc⟩ := doE_ok hd
  obtain ⟨_, ho1, ho3, _⟩ := checkE_op hc
  by_cases h1 : e.op = 1
  · rw [doS_put hd h1]
    refine ⟨rfl, fun r hr => ?_⟩
    have hk : keyOf (e.row.map fix) = keyEv e := by unfold keyEv; rw [if_pos h1]; exact key_row (put_len hc h1).1
    show r ∈ putL (e.row.map fix) x.l ↔ _
    rw [mem_put, hk]
    constructor
    · rintro (rfl | h)
      · exact absurd hk hr
      · exact h.1
    · exact fun h => .inr ⟨h, hr⟩
  · rw [doS_del hd (by omega)]
    refine ⟨rfl, fun r hr => ?_⟩
    have hk : fix e.key = keyEv e := by unfold keyEv; rw [if_neg h1]
    show r ∈ delL (fix e.key) x.l ↔ _
    rw [mem_del, hk]
    exact ⟨fun h => h.1, fun h => ⟨h, hr⟩⟩
theorem setOff_doE {x y : StD} {e : EventD} (hs : x.s = y.s) (hd : doE x e = 0) (ho : y.off ≤ x.off) (hx : x.off < 2 ^ 64) : doE y (setOff e (y.off + 1)) = 0 := by
  obtain ⟨h1, h2, hc⟩ := doE_ok hd
  unfold doE
  have hy : y.off ≠ 18446744073709551615 := by omega
  rw [if_neg (by simp [setOff, hy])]
  rw [← hs]
  exact hc
theorem set_both {x y : StD} {e : EventD} (hd : doE x e = 0) (hd' : doE y (setOff e (y.off + 1)) = 0) (h3 : e.op ≠ 3) : ∀ r, keyOf r = keyEv e → (r ∈ (doS x e).l ↔ r ∈ (doS y (setOff e (y.off + 1))).l) := by
  obtain ⟨_, _, hc⟩ := doE_ok hd
  obtain ⟨_, ho1, ho3, _⟩ := checkE_op hc
  intro r hr
  by_cases h1 : e.op = 1
  · rw [doS_put hd h1, doS_put hd' h1]
    have hk : keyOf (e.row.map fix) = keyEv e := by unfold keyEv; rw [if_pos h1]; exact key_row (put_len hc h1).1
    show r ∈ putL (e.row.map fix) x.l ↔ r ∈ putL (e.row.map fix) y.l
    rw [mem_put, mem_put, hk]
    constructor
    · rintro (h | h)
      · exact .inl h
      · exact absurd hr h.2
    · rintro (h | h)
      · exact .inl h
      · exact absurd hr h.2
  · have h2 : e.op = 2 := by omega
    rw [doS_del hd h2, doS_del hd' h2]
    have hk : fix e.key = keyEv e := by unfold keyEv; rw [if_neg h1]
    show r ∈ delL (fix e.key) x.l ↔ r ∈ delL (fix e.key) y.l
    rw [mem_del, mem_del, hk]
    exact ⟨fun h => absurd hr h.2, fun h => absurd hr h.2⟩
structure LastR (x y : StD) (es : List EventD) : Prop where
  s : x.s = y.s
  ag : ∀ c, ((∃ e ∈ es, e.op = 3) ∨ ¬ ∃ e ∈ es, e.op ≠ 3 ∧ keyEv e = c) → ∀ r, keyOf r = c → (r ∈ x.l ↔ r ∈ y.l)
  okx : StOK x
  oky : StOK y
  off : y.off ≤ x.off
theorem LastR.start {x : StD} (h : StOK x) (es : List EventD) : LastR x x es := ⟨rfl, fun _ _ _ _ => Iff.rfl, h, h, Nat.le_refl _⟩
theorem LastR.ends {x y : StD} (h : LastR x y []) : x.l = y.l :=
  rises_mem h.okx.rises h.oky.rises fun r => h.ag (keyOf r) (.inr (fun ⟨_, hm, _⟩ => by cases hm)) r rfl
theorem LastR.doE {x y : StD} {e : EventD} {es : List EventD} (h : LastR x y (e :: es)) (hd : doE x e = 0) : Go.Proofs.Ytlclhinianamhaa.doE y (setOff e (y.off + 1)) = 0 := setOff_doE h.s hd h.off h.okx.off
theorem LastR.skip {x y : StD} {e : EventD} {es : List EventD} (h : LastR x y (e :: es)) (hd : Go.Proofs.Ytlclhinianamhaa.doE x e = 0) (he : EventOK e) (h3 : e.op ≠ 3) (ha : ∃ d ∈ es, d.op ≠ 3 ∧ keyEv d = keyEv e) (hw : ¬ ∃ d ∈ es, d.op = 3) : LastR (doS x e) y es := by
  have hx := doS_ok h.okx he hd
  have hm := set_mem hd h3
  refine ⟨hm.1.trans h.s, fun c hc r hr => ?_, hx.1, h.oky, by have := h.off; omega⟩
  have hc' : ¬ ∃ d ∈ es, d.op ≠ 3 ∧ keyEv d = c := by
    rcases hc with hc | hc
    · exact absurd hc hw
    · exact hc
  have hne : keyEv e ≠ c := fun e' => hc' (by rw [← e']; exact ha)
  rw [hm.2 r (by rw [hr]; exact hne.symm)]
  exact h.ag c (.inr (fun ⟨d, hd', h1, h2⟩ => by
    rcases List.mem_cons.1 hd' with rfl | hd'
    · exact hne h2
    · exact hc' ⟨d, hd', h1, h2⟩)) r hr
theorem LastR.keep {x y : StD} {e : EventD} {es : List EventD} (h : LastR x y (e :: es)) (hd : Go.Proofs.Ytlclhinianamhaa.doE x e = 0) (he : EventOK e) : LastR (doS x e) (doS y (setOff e (y.off + 1))) es := by
  have hd' := h.doE hd
  have hx := doS_ok h.okx he hd
  have heo : EventOK (setOff e (y.off + 1)) := ⟨he.cells, he.key, by
    show y.off + 1 < 2 ^ 64
    have h1 := (doE_ok hd).2.1
    have h2 := he.off
    have h3 := h.off
    omega⟩
  have hy := doS_ok h.oky heo hd'
  have hoff : (doS y (setOff e (y.off + 1))).off ≤ (doS x e).off := by have := h.off; omega
  by_cases h3 : e.op = 3
  · have hall : x.l = y.l := rises_mem h.okx.rises h.oky.rises fun r => h.ag (keyOf r) (.inl ⟨e, by simp, h3⟩) r rfl
    have hs : (doS x e).s = (doS y (setOff e (y.off + 1))).s ∧ (doS x e).l = (doS y (setOff e (y.off + 1))).l := by
      rw [doS_wide hd h3, doS_wide hd' h3]
      exact ⟨by show addS x.s e.name (e.kind : Int) = addS y.s e.name (e.kind : Int); rw [h.s], by show wideL x.l = wideL y.l; rw [hall]⟩
    exact ⟨hs.1, fun c _ r _ => by rw [hs.2], hx.1, hy.1, hoff⟩
  · have hm := set_mem hd h3
    have hm' := set_mem hd' (show (setOff e (y.off + 1)).op ≠ 3 from h3)
    refine ⟨by rw [hm.1, hm'.1]; exact h.s, fun c hc r hr => ?_, hx.1, hy.1, hoff⟩
    by_cases hk : keyEv e = c
    · exact set_both hd hd' h3 r (hr.trans hk.symm)
    · rw [hm.2 r (by rw [hr]; exact fun e' => hk e'.symm), hm'.2 r (by rw [hr]; exact fun e' => hk e'.symm)]
      refine h.ag c ?_ r hr
      rcases hc with ⟨d, hd1, hd2⟩ | hc
      · exact .inl ⟨d, List.mem_cons_of_mem _ hd1, hd2⟩
      · exact .inr (fun ⟨d, hd1, h1, h2⟩ => by
          rcases List.mem_cons.1 hd1 with rfl | hd1
          · exact hk h2
          · exact hc ⟨d, hd1, h1, h2⟩)
/-- The law's own flags, over the events that are left to look at. -/
noncomputable def widB (es : List EventD) : Bool := es.any fun d => decide (d.op = 3)
noncomputable def agB (e : EventD) (es : List EventD) : Bool := es.any fun d => decide (e.op ≠ 3) && decide (d.op ≠ 3) && decide (keyEv e = keyEv d)
theorem widB_iff {es : List EventD} : widB es = true ↔ ∃ d ∈ es, d.op = 3 := by unfold widB; simp
theorem agB_iff {e : EventD} {es : List EventD} : agB e es = true ↔ e.op ≠ 3 ∧ ∃ d ∈ es, d.op ≠ 3 ∧ keyEv d = keyEv e := by
  unfold agB
  rw [List.any_eq_true]
  constructor
  · rintro ⟨d, hd, h⟩
    simp only [Bool.and_eq_true, decide_eq_true_eq] at h
    exact ⟨h.1.1, d, hd, h.1.2, h.2.symm⟩
  · rintro ⟨h3, d, hd, h1, h2⟩
    exact ⟨d, hd, by simp only [Bool.and_eq_true, decide_eq_true_eq]; exact ⟨⟨h3, h1⟩, h2.symm⟩⟩
theorem LastR.skipB {x y : StD} {e : EventD} {es : List EventD} (h : LastR x y (e :: es)) (hd : Go.Proofs.Ytlclhinianamhaa.doE x e = 0) (he : EventOK e) (ha : agB e es = true) (hw : widB es = false) : LastR (doS x e) y es := by
  obtain ⟨h3, h4⟩ := agB_iff.1 ha
  exact h.skip hd he h3 h4 (fun h' => by rw [widB_iff.2 h'] at hw; cases hw)
end Go.Proofs.Ytlclhinianamhaa
