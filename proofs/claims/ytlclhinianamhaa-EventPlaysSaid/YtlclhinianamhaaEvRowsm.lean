/- slices.SortFunc over the rows of a state, by their keys. (*event.State).Rows: the rows by rising keys. -/
import Derived.Test.YtlclhinianamhaaEvLay
import Derived.Test.YtlclhinianamhaaEvIsm
import Derived.Test.YtlclhinianamhaaEvDo
namespace Go.Proofs.Ytlclhinianamhaa
open Go.RowKit Go.Deep
open Go.Sort (Holds putRow putCells grow SWO PermIn SortedIn)
open Go.Proofs (sortWorld ltOf CmpReads)
set_option linter.unusedVariables false
set_option linter.unusedSimpArgs false

theorem drew_drewN (W : World) (m : Nat) : W.drew.drewN m = W.drewN (m + 1) := by
  unfold World.drewN World.drew
  congr 1
  simp
  omega
set_option maxRecDepth 100000 in
set_option maxHeartbeats 2000000 in
theorem irows1 (x y : VPair) (W : World) (hx : VRowAt W x) (hy : VRowAt W y) (hx1 : 1 ≤ x.1.length) (hy1 : 1 ≤ y.1.length) :
    Calls Try.prog 52 #[x.2, y.2] W (ValQ (.int .i64 (cmpC (keyV x) (keyV y))) W) := by
  obtain ⟨r, v⟩ := x
  obtain ⟨r', v'⟩ := y
  obtain ⟨a, n, c, hv, _, hs⟩ := hx
  obtain ⟨a', n', c', hv', _, hs'⟩ := hy
  simp only [] at hv hv' hs hs' hx1 hy1
  subst hv hv'
  have hn : 0 < n := by rw [← hs.1]; exact hx1
  have hn' : 0 < n' := by rw [← hs'.1]; exact hy1
  obtain ⟨b, off, d, u, rfl, hb, hd, hr, hc⟩ := hs.at1 hn
  obtain ⟨b', off', d', u', rfl, hb', hd', hr', hc'⟩ := hs'.at1 hn'
  have hu : u = d.val := by have : [u] = [d.val] := hr; simpa using this
  have hu' : u' = d'.val := by have : [u'] = [d'.val] := hr'; simpa using this
  rw [Nat.add_zero] at hc hc'
  have hk : keyV (r, (.slice (some ⟨b, off, none⟩) n c : Value)) = d.cell := by
    unfold keyV
    simp only []
    rw [List.headD_eq_head?_getD, List.head?_eq_getElem?, hd]
    rfl
  have hk' : keyV (r', (.slice (some ⟨b', off', none⟩) n' c' : Value)) = d'.cell := by
    unfold keyV
    simp only []
    rw [List.headD_eq_head?_getD, List.head?_eq_getElem?, hd']
    rfl
  rw [hk, hk']
  have hcmp := fun W => compare_calls d d' W
  rw [← hu, ← hu'] at hcmp
  generalize cmpC d.cell d'.cell = cc at *
  have HC := Lib.hid hcmp
  have hni : (0 : Int) < (n : Int) := by omega
  have hni' : (0 : Int) < (n' : Int) := by omega
  clear hs hs' hd hd' hr hr' hu hu' hk hk' hcmp hx1 hy1
  go_enter Try.func52, Try.ntmps52
  go_upto_region 1 with fail
  go_region_held3 (fun w => w.cell? ⟨b, off, none⟩ = some u ∧ w.cell? ⟨b', off', none⟩ = some u')
    (first | exact ⟨hc, hc'⟩)
    (first
      | (go_at_call 53; (with_reducible refine (HC.out _).mono ?_); rintro e w5 ⟨rfl, m, rfl⟩)
      | fail)
  go_wp2
  go_ret
  exact ⟨rfl, _, rfl⟩
section
variable {α : Type} [Inhabited α] {enc : α → Value}
theorem heap_sortedE {w : World} {g n : Nat} {os : Array Obj} {cur : Array Value} {e : TypeId} {fr : Nat × Nat} (d : Array α) (hb : w.heap[g]? = some (.cells cur e fr)) :
    (grow (putRow enc (Sort.ahead w n) g 0 d) os).heap[g]? = some (.cells (putCells enc 0 d cur) e fr) := by
  have hg : g < w.heap.size := (Array.getElem?_eq_some_iff.1 hb).1
  rw [Sort.heap_grow_old _ _ (by simpa using hg)]
  simp [putRow, Sort.mapBlock, Sort.ahead, Array.getElem?_modify, hb, Sort.onCells]
theorem grownBy_sortedE {w : World} {g n : Nat} {os : Array Obj} (d : Array α) : w.grownBy (grow (putRow enc (Sort.ahead w n) g 0 d) os) (some g) := by
  refine ⟨rfl, rfl, rfl, by simp, fun k hk hne => ?_⟩
  rw [Sort.heap_grow_old _ _ (by simpa using hk)]
  have : g ≠ k := fun e => hne (by rw [e])
  simp [putRow, Sort.mapBlock, Sort.ahead, Array.getElem?_modify, this]
theorem take_putCellsE (cur : Array Value) (ts : List α) (h : ts.length ≤ cur.size) : (putCells enc 0 ts.toArray cur).toList.take ts.length = ts.map enc := by
  apply List.ext_getElem?
  intro j
  by_cases hj : j < ts.length
  · rw [List.getElem?_take_of_lt hj, Array.getElem?_toList]
    simp [putCells, hj, show j < cur.size by omega]
  · rw [List.getElem?_take_eq_none (by omega), List.getElem?_eq_none (by simp; omega)]
theorem ownsRow_sortedE {w : World} {base g cap n m : Nat} {e : TypeId} {os : Array Obj} {cur : Array Value} {ts : List α} (hl : ts.length = n) (hbase : base ≤ g) (hb : w.heap[g]? = some (.cells cur e (0, 0)))
    (h1 : n ≤ cap) (h2 : cap ≤ maxLen) (h3 : cur.size = cap * 1) :
    (grow (putRow enc (Sort.ahead w m) g 0 ts.toArray) os).ownsRow base e 1 (.slice (some ⟨g, 0, none⟩) n cap) n (ts.map enc) :=
  ⟨by simp [hl], .inr ⟨g, cap, _, rfl, hbase, heap_sortedE _ hb, h1, h2, by simp [putCells, h3], by rw [Nat.mul_one, ← hl]; exact take_putCellsE cur ts (by omega)⟩⟩
end
theorem LessC.ntrans {a b c : CellD} (h1 : ¬ LessC a b) (h2 : ¬ LessC b c) : ¬ LessC a c := fun h => by
  by_cases h3 : LessC b a
  · exact h2 (h3.trans h)
  · obtain rfl := LessC.tri h1 h3
    exact h2 h
theorem VRowAt.grown {w w' : World} {q : VPair} {row : Option Nat} (h : VRowAt w q) (hg : w.grownBy w' row) (hne : ∀ b off n c, q.2 = .slice (some ⟨b, off, none⟩) n c → row ≠ some b) : VRowAt w' q := by
  obtain ⟨a, n, c, h1, h2, h3⟩ := h
  exact ⟨a, n, c, h1, h2, h3.grown (fun _ _ _ _ h => h) hg (fun b off e h => hne b off n c (by rw [h1, e]) h.symm)⟩
def SortPost (B n : Nat) (v : Value) (acc : List VPair) (w : World) (e : Ending) (w' : World) : Prop :=
  e = .returned (.tuple #[]) ∧ ∃ L : List VPair, L.Perm acc ∧ L.Pairwise (fun a b => ¬ LessC (keyV b) (keyV a)) ∧ w'.ownsRow B 61 1 v n (L.map Prod.snd) ∧ w.grownBy w' v.ownBlock
theorem isort (B n : Nat) (v : Value) (acc : List VPair) (w : World) (hown : w.ownsRow B 61 1 v n (acc.map Prod.snd)) (hrows : ∀ q ∈ acc, VRowAt w q ∧ 1 ≤ q.1.length) (hap : ∀ q ∈ acc, ∀ b off n c, q.2 = .slice (some ⟨b, off, none⟩) n c → v.ownBlock ≠ some b) (hn : n ≤ 1000) :
    Calls Try.prog 51 #[v, .func (.func 52) #[] #[]] w (SortPost B n v acc w) := by
  have hlen : acc.length = n := by have := hown.1; simpa using this
  obtain ⟨p, cap, rfl, _⟩ := own_slice hown
  by_cases h0 : n = 0
  · subst h0
    have hS := AnyF.slices_SortFunc_none (P := Try.prog) (ρ := Try.sortF_ren) { Try.sortF with } p cap (.func (.func 52) #[] #[]) w
    change Calls Try.prog 51 _ _ _ at hS
    refine hS.mono ?_
    rintro e w' ⟨rfl, rfl⟩
    obtain rfl : acc = [] := List.eq_nil_of_length_eq_zero hlen
    exact ⟨rfl, [], List.Perm.refl _, List.Pairwise.nil, hown, ⟨rfl, rfl, rfl, Nat.le_refl _, fun _ _ _ => rfl⟩⟩
  · obtain ⟨_, hO⟩ := hown
    rcases hO with ⟨_, hz⟩ | ⟨g, cap', cur, hv, hB, hg, hc1, hc2, hc3, hct⟩
    · exact absurd hz h0
    · simp only [Value.slice.injEq, true_and] at hv
      obtain ⟨rfl, rfl⟩ := hv
      have hgl : g < w.heap.size := (Array.getElem?_eq_some_iff.1 hg).1
      have h0l : 0 < acc.length := by omega
      letI : Inhabited {q : VPair // q ∈ acc} := ⟨⟨acc[0], List.getElem_mem h0l⟩⟩
      let enc : {q : VPair // q ∈ acc} → Value := fun x => x.1.2
      let cf : {q : VPair // q ∈ acc} → {q : VPair // q ∈ acc} → Int := fun x y => cmpC (keyV x.1) (keyV y.1)
      have hlt : ∀ x y, ltOf cf x y = decide (LessC (keyV x.1) (keyV y.1)) := fun x y => by
        show decide (cmpC (keyV x.1) (keyV y.1) < 0) = _
        rw [decide_eq_decide, cmpC_lt]
      have hO : SWO (ltOf cf) := ⟨fun x => by rw [hlt]; exact decide_eq_false (LessC.irrefl _), fun x y z h1 h2 => by
        rw [hlt] at *
        exact decide_eq_true ((of_decide_eq_true h1).trans (of_decide_eq_true h2)), fun x y z h1 h2 => by
        rw [hlt] at *
        exact decide_eq_false (LessC.ntrans (of_decide_eq_false h1) (of_decide_eq_false h2))⟩
      have h1 : OneCell enc := fun x => by
        obtain ⟨_, _, _, e, _⟩ := (hrows x.1 x.2).1
        show x.1.2.oneCell' = true
        rw [e]; rfl
      let d : Array {q : VPair // q ∈ acc} := acc.attach.toArray
      have hds : d.size = n := by simp [d, hlen]
      have hkeep : ∀ (m : Nat) (os : Array Obj) (dk : Array {q : VPair // q ∈ acc}) (x : {q : VPair // q ∈ acc}), VRowAt (sortWorld enc w g 0 m dk os) x.1 := fun m os dk x =>
        (hrows x.1 x.2).1.grown (grownBy_sortedE dk) (fun b off n' c' e h => hap x.1 x.2 b off n' c' e h)
      have hcmp : CmpReads Try.prog 52 #[] enc cf g 0 d.size w := fun m os dk _ x y => irows1 x.1 y.1 _ (hkeep m os dk x) (hkeep m os dk y) (hrows x.1 x.2).2 (hrows y.1 y.2).2
      have hH : Holds enc w g 0 d := fun j hj => by
        have hjn : j < acc.length := by rw [hds] at hj; omega
        have hjc : j < cur.size := by omega
        have e1 : cur[j]? = some (acc[j]).2 := by
          have := congrArg (·[j]?) hct
          simp only [List.getElem?_map, List.getElem?_eq_getElem hjn, Option.map_some] at this
          rw [List.getElem?_take_of_lt (by omega), Array.getElem?_toList] at this
          exact this
        refine ⟨?_, by simp [World.frozen?, hg]⟩
        simp only [World.cell?, hg, Nat.zero_add, Option.isSome_none, Bool.false_eq_true, if_false, e1]
        show _ = some (enc d[j]!)
        rw [getElem!_pos d j hj]
        simp [d, enc]
      have eg : ∀ args w, (callFunc 52 args).run Try.prog w = .ok (.enter 52 args) w := enters_of Try.func52 (by kernel_rfl) rfl
      have hS := Any.slices_SortFunc (P := Try.prog) (ρ := Try.sortF_ren) Try.sortF enc h1 cf hO 52 #[] g 0 cap d w eg hcmp.lays hH hgl (by rw [hds]; omega)
      rw [hds] at hS
      change Calls Try.prog 51 _ _ _ at hS
      refine hS.mono ?_
      rintro e w' ⟨rfl, d', m, os, ⟨hp1, _, hp3⟩, hsort, rfl⟩
      have hd's : d'.size = n := by rw [hp1, hds]
      rw [show d'.extract 0 n = d' by rw [← hd's]; simp, show d.extract 0 n = d by rw [← hds]; simp] at hp3
      refine ⟨rfl, d'.toList.map Subtype.val, ?_, ?_, ?_, grownBy_sortedE d'⟩
      · have h5 : (d'.toList.map Subtype.val).Perm (acc.attach.map Subtype.val) := hp3.map Subtype.val
        rw [List.attach_map_subtype_val] at h5
        exact h5
      · rw [List.pairwise_map, List.pairwise_iff_getElem]
        intro i j hi hj hij
        have hi' : i < d'.size := by simpa using hi
        have hj' : j < d'.size := by simpa using hj
        have := hsort i j (Nat.zero_le _) hij (by omega)
        rw [hlt, getElem!_pos d' j hj', getElem!_pos d' i hi'] at this
        simpa using of_decide_eq_false this
      · have := ownsRow_sortedE (enc := enc) (m := m) (os := os) (ts := d'.toList) (by simpa using hd's) hB hg hc1 hc2 hc3
        rw [List.map_map]
        have h6 : d'.toList.toArray = d' := by simp
        rw [h6] at this
        exact this
end Go.Proofs.Ytlclhinianamhaa

namespace Go.Proofs.Ytlclhinianamhaa
open Go.RowKit Go.Deep
set_option linter.unusedVariables false
set_option linter.unusedSimpArgs false

theorem own_grownE {w w' : World} {B size n : Nat} {e : TypeId} {v : Value} {xs : List Value} {row : Option Nat} (h : w.ownsRow B e size v n xs) (hg : w.grownBy w' row) (hne : ∀ b, v.ownBlock = some b → row ≠ some b) : w'.ownsRow B e size v n xs := by
  refine ⟨h.1, ?_⟩
  rcases h.2 with hn | ⟨g, cap, cur, rfl, hg1, hgg, rest⟩
  · exact .inl hn
  · exact .inr ⟨g, cap, cur, rfl, hg1, by rw [hg.block g (Array.getElem?_eq_some_iff.1 hgg).1 (fun e => hne g rfl e.symm)]; exact hgg, rest⟩
def RowsV (w : World) (B : Nat) (v : Value) (acc : List VPair) : Prop := ∀ q ∈ acc, w.ownsRow B 60 1 q.2 q.1.length (q.1.map ValD.val) ∧ ∀ b, q.2.ownBlock = some b → v.ownBlock ≠ some b
theorem RowsV.below {w w' : World} {B : Nat} {v : Value} {acc : List VPair} (h : RowsV w B v acc) (hb : Below w.heap.size w w') : RowsV w' B v acc := fun q hq => ⟨own_below (h q hq).1 hb, (h q hq).2⟩
theorem RowsV.iter {w w' : World} {B r : Nat} {v : Value} {acc : List VPair} (h : RowsV w B v acc) (hg : w.grownBy w' (some r)) (hr : r < B) : RowsV w' B v acc := fun q hq => ⟨own_grownE (h q hq).1 hg (fun b e h' => by
  cases h'
  have := ((h q hq).1.lt _ e).1
  omega), (h q hq).2⟩
theorem RowsV.reads {w : World} {B : Nat} {v : Value} {acc : List VPair} (h : RowsV w B v acc) : ∀ q ∈ acc, VRowAt w q := fun q hq => by
  have h1 := (h q hq).1
  obtain ⟨a, c, e, _, _, h3⟩ := own_slice h1
  obtain ⟨r, s⟩ := q
  simp only [] at e h1
  subst e
  exact ⟨a, r.length, c, rfl, h3, own_vals h1⟩
theorem nodup_len : ∀ (n : Nat) (l : List Nat), l.Nodup → (∀ j ∈ l, j < n) → l.length ≤ n
  | 0, l, _, h => by
    cases l with
    | nil => exact Nat.le_refl _
    | cons a t => exact absurd (h a (by simp)) (by omega)
  | n + 1, l, hn, h => by
    by_cases hm : n ∈ l
    · have h1 := nodup_len n (l.erase n) (hn.erase n) (fun j hj => by
        have h2 := (hn.mem_erase_iff).1 hj
        have := h j h2.2
        omega)
      rw [List.length_erase_of_mem hm] at h1
      omega
    · have := nodup_len n l hn (fun j hj => by
        have := h j hj
        have h3 : j ≠ n := fun e => hm (e ▸ hj)
        omega)
      omega
def rowOf (M : List VPair) (j : Nat) : List ValD := ((M[j]?).map Prod.fst).getD []
theorem rowOf_some {M : List VPair} {j : Nat} {q : VPair} (h : M[j]? = some q) : rowOf M j = q.1 := by simp [rowOf, h]
theorem rows_all (M : List VPair) : (List.range M.length).map (rowOf M) = M.map Prod.fst := by
  apply List.ext_getElem?
  intro j
  rw [List.getElem?_map, List.getElem?_map]
  by_cases hj : j < M.length
  · rw [List.getElem?_range hj, List.getElem?_eq_getElem hj]
    simp [rowOf, List.getElem?_eq_getElem hj]
  · rw [List.getElem?_eq_none (by simp; omega), List.getElem?_eq_none (by omega)]
    rfl
theorem vis_perm {M : List VPair} {vis : List Nat} (hn : vis.Nodup) (hlt : ∀ j ∈ vis, j < M.length) (hall : ∀ j, j < M.length → j ∈ vis) : (vis.map (rowOf M)).Perm (M.map Prod.fst) := by
  rw [← rows_all M]
  refine List.Perm.map _ ((List.perm_ext_iff_of_nodup hn List.nodup_range).2 fun j => ?_)
  rw [List.mem_range]
  exact ⟨hlt j, hall j⟩
def RisesK (l : List (List CellD)) : Prop := l.Pairwise fun a b => LessC (keyOf a) (keyOf b)
theorem rises_eq {l l' : List (List CellD)} (hp : l'.Perm l) (hs : l'.Pairwise fun a b => ¬ LessC (keyOf b) (keyOf a)) (hr : RisesK l) : l' = l := by
  have hinj : ∀ a b, a ∈ l → b ∈ l → keyOf a = keyOf b → a = b := by
    intro a b ha hb e
    by_cases h : a = b
    · exact h
    · exfalso
      obtain ⟨i, hi, rfl⟩ := List.getElem_of_mem ha
      obtain ⟨j, hj, rfl⟩ := List.getElem_of_mem hb
      rw [RisesK, List.pairwise_iff_getElem] at hr
      rcases Nat.lt_trichotomy i j with h1 | h1 | h1
      · have := hr i j hi hj h1; rw [e] at this; exact LessC.irrefl _ this
      · subst h1; exact h rfl
      · have := hr j i hj hi h1; rw [e] at this; exact LessC.irrefl _ this
  refine List.Perm.eq_of_pairwise (le := fun a b => ¬ LessC (keyOf b) (keyOf a)) (fun a b ha hb h1 h2 => hinj a b (hp.mem_iff.1 ha) hb (LessC.tri h2 h1)) hs (hr.imp fun h => h.asymm) hp
def RowsPost (x : StD) (w : World) (e : Ending) (w' : World) : Prop :=
  ∃ v L, e = .returned v ∧ w'.ownsRow w.heap.size 61 1 v (L : List VPair).length (L.map Prod.snd) ∧ L.map cellsOfV = x.l ∧ RowsV w' w.heap.size v L ∧ Below w.heap.size w w'
set_option maxRecDepth 100000 in
set_option maxHeartbeats 8000000 in
theorem irows (S : Nat → Prop) (p bm : Nat) (x : StD) (w : World) (hst : ImpSt S w p bm x) (hl : x.l.length ≤ 1000) (hne : ∀ r ∈ x.l, 1 ≤ r.length ∧ r.length ≤ 1000) (hri : RisesK x.l) :
    Calls Try.prog 21 #[.pointer (some ⟨p, 0, none⟩)] w (RowsPost x w) := by
  obtain ⟨fa, fn, fc, M, h⟩ := hst
  have HST := Lib.hid h
  have HMP := Lib.hid h.map
  have HRI := Lib.hid hri
  have HML := Lib.hid (show M.length ≤ 1000 by have := h.rows.length_eq; rw [List.length_map] at this; omega)
  have HWID := Lib.hid hne
  have p2 : w.cell? ⟨p, 2, none⟩ = some (.map (some bm)) := h.box.cell 2 rfl
  have hbl : bm < w.heap.size := h.map.lt
  obtain ⟨i0, hi0, hz0, hz1, hz2⟩ := info_parts (show (Try.prog.info? 61).map (fun i => (i.zero, i.size, i.bytes)) = some (some (.slice none 0 0), 1, 24) by kernel_rfl)
  have HI := Lib.hid hi0
  have HZ0 := Lib.hid hz0
  have HZ1 := Lib.hid hz1
  have HZ2 := Lib.hid hz2
  clear h hl hne hri hi0 hz0 hz1 hz2
  go_enter Try.func21, Try.ntmps21
  go_wp2_with (first
    | (at_range; refine wpList_rangeM _ rfl _ rfl bm M rfl HMP.out ?_; intro w4 hit4 hb4 hs4)
    | go_in)
  go_frame
  have HB4 := Lib.hid hb4
  clear hb4 p2
  go_loopw [3, 5] (fun v r9 wr => ∃ (acc : List VPair) (vis : List Nat), IterAt wr bm w.heap.size M vis ∧ acc.map Prod.fst = vis.map (rowOf M) ∧ wr.ownsRow (w.heap.size + 1) 61 1 v acc.length (acc.map Prod.snd) ∧ RowsV wr (w.heap.size + 1) v acc ∧ Below w.heap.size w wr) (fun _ _ wr => wr.rangeLeft bm w.heap.size)
  case atStart => exact ⟨[], [], hit4, rfl, World.ownsRow_nil _ _ _ _, (fun q hq => by cases hq), HB4.out⟩
  case round =>
    obtain ⟨acc, vis, hit, hav, hown, hrv, hb⟩ := hrel
    have HIT := Lib.hid hit
    have HAV := Lib.hid hav
    have HO := Lib.hid hown
    have HRV := Lib.hid hrv
    have HB := Lib.hid hb
    clear hit hav hown hrv hb
    go_wp2_with (first
      | (at_next; refine wpList_nextM _ rfl _ rfl bm w.heap.size _ _ rfl HIT.out ?_ ?_)
      | go_in)
    · intro hall
      have hperm := vis_perm HIT.out.nd HIT.out.lt hall
      rw [← HAV.out] at hperm
      have HPM := Lib.hid (show (acc.map cellsOfV).Perm x.l by
        have h1 : (acc.map cellsOfV) = (acc.map Prod.fst).map (fun r => r.map ValD.cell) := by rw [List.map_map]; rfl
        have h2 : (M.map cellsOfV) = (M.map Prod.fst).map (fun r => r.map ValD.cell) := by rw [List.map_map]; rfl
        rw [h1]
        refine (hperm.map _).trans ?_
        rw [← h2]
        exact HST.out.rows)
      have hlen : acc.length ≤ 1000 := by have := hperm.length_eq; rw [List.length_map, List.length_map] at this; have := HML.out; omega
      have HSRT := Lib.hid (isort (w.heap.size + 1) acc.length u3 acc wr HO.out (fun q hq => ⟨HRV.out.reads q hq, by
        have := (HWID.out (cellsOfV q) (HPM.out.mem_iff.1 (List.mem_map.2 ⟨q, hq, rfl⟩))).1
        unfold cellsOfV at this
        rw [List.length_map] at this
        exact this⟩) (fun q hq b off n c e => (HRV.out q hq).2 b (by
          rw [e]; rfl)) hlen)
      clear hperm hlen
      go_wp2_with fail
      refine HSRT.out.mono ?_
      rintro e w7 ⟨rfl, L, hp7, hs7, hown7, hg7⟩
      have HO7 := Lib.hid hown7
      have hrv7 : RowsV w7 (w.heap.size + 1) u3 L := fun q hq => by
        have h1 := HRV.out q (hp7.mem_iff.1 hq)
        exact ⟨own_grownE h1.1 hg7 (fun b e h' => h1.2 b e h'), h1.2⟩
      have HRV7 := Lib.hid hrv7
      have HL7 := Lib.hid (show L.map cellsOfV = x.l from rises_eq ((hp7.map _).trans HPM.out) (by
        rw [List.pairwise_map]
        exact hs7.imp fun {a b} h => by rw [← keyV_of, ← keyV_of]; exact h) HRI.out)
      have HLN := Lib.hid hp7.length_eq
      have HB7 := Lib.hid (show Below w.heap.size w w7 from HB.out.grown hg7 HB.out.size (fun k hk => by have := (HO.out.lt k hk).1; omega))
      clear hp7 hs7 hown7 hg7 hrv7
      go_wp2
      go_ret
      exact ⟨_, L, rfl, by rw [HLN.out]; exact own_leV HO7.out (Nat.le_succ _), HL7.out, (fun q hq => ⟨own_leV (HRV7.out q hq).1 (Nat.le_succ _), (HRV7.out q hq).2⟩), HB7.out⟩
    · intro j row1 v1 ck cn cs w1 hq hjv hkv hit1 hlf1 hg1 hs1 hen
      have HKQ := Lib.hid (rowOf_some hq)
      have HIT1 := Lib.hid hit1
      have HLF1 := Lib.hid hlf1
      have HB1 := Lib.hid (show Below w.heap.size w w1 from HB.out.grown hg1 HB.out.size (fun k hk => by cases hk; exact Nat.le_refl _))
      have hmq : (row1, v1) ∈ M := List.mem_of_getElem? hq
      have hr1 : row1.length ≤ 1000 := by
        have := (HWID.out (cellsOfV (row1, v1)) (HST.out.rows.mem_iff.1 (List.mem_map.2 ⟨_, hmq, rfl⟩))).2
        unfold cellsOfV at this
        rw [List.length_map] at this
        exact this
      obtain ⟨qa, qn, qc, rfl, hqnil, hqs⟩ := ((HST.out.far w1 ((ButS.refl (Nat.le_refl _)).call HB1.out)).2 _ hmq)
      have HQL := Lib.hid hqs.1
      have HCL := Lib.hid (fun (W : World) (h : Below w1.heap.size w1 W) => clone_vals qa qn qc row1 W (hqs.below ValRE.stable h) (by rw [← hqs.1]; exact hr1) hqnil)
      have HO1 := Lib.hid (own_grownE HO.out hg1 (fun b e h' => by
        cases h'
        have := (HO.out.lt _ e).1
        omega))
      have HRV1 := Lib.hid (HRV.out.iter hg1 (Nat.lt_succ_self _))
      have hvl : vis.length + 1 ≤ M.length := by
        have := nodup_len _ _ hit1.nd hit1.lt
        rw [List.length_append] at this
        exact this
      have hal : acc.length = vis.length := by have := congrArg List.length HAV.out; rw [List.length_map, List.length_map] at this; exact this
      have WM := Lib.hid (wide_room (k := acc.length) (ln := M.length) HML.out (by omega))
      clear hq hit1 hlf1 hg1 hjv hkv hmq hr1 hqnil hqs hvl hal
      go_wp2_with fail
      refine (HCL.out _ (Below.refl _ _)).mono ?_
      rintro e w5 ⟨v5, rfl, hown5, hb5⟩
      obtain ⟨a5, c5, rfl, hc5⟩ := own_slice hown5
      have K5 := Lib.hid hb5
      have HV5 := Lib.hid hown5
      have HO5 := Lib.hid (own_below HO1.out hb5)
      have HRV5 := Lib.hid (HRV1.out.below hb5)
      have HCL7 := Lib.hid (cell_one_new w5 (.slice a5 qn c5) 61)
      have HBASE7 := Lib.hid (show w.heap.size + 1 ≤ (w5.alloc (.cells #[.slice a5 qn c5] 61)).heap.size by have := K5.out.size; have := HB1.out.size; simp; omega)
      clear hown5 hb5 hc5
      go_wp2_with (at_builtin; refine wpList_append_lies _ rfl _ _ _ rfl (w.heap.size + 1) 61 i0 (.slice none 0 0) 1 24 Try.underlying50 HI.out HZ0.out HZ1.out HZ2.out rfl (by decide) _ _ _ rfl (HO5.out.alloc _) ⟨w5.heap.size, 0, none⟩ 1 1 [.slice a5 qn c5] rfl rfl HCL7.out (by simp [Value.oneCell']) (by decide) WM.out.1 WM.out.2 HBASE7.out _ rfl ?_; intro g7 cap7 w7 hown7 hgrow7 hat7 hglt7; refine Hold.out ?_)
      unfold Hold
      have HB5 := Lib.hid (HB1.out.trans (K5.out.mono HB1.out.size))
      have HB7 := Lib.hid (show Below w.heap.size w w7 from (HB5.out.alloc HB5.out.size _).grown hgrow7 (by have := HB5.out.size; simp; omega) (fun k hk => by have := (HO5.out.lt k hk).1; omega))
      have HO7 := Lib.hid hown7
      have hbw : ∀ {b : Nat} {X : List Value} {s n B : Nat} {e : TypeId} {v : Value}, w5.ownsRow B e s v n X → v.ownBlock = some b → b < w5.heap.size := fun h e => (h.lt _ e).2
      have hrow : ∀ (r : List ValD) (u : Value), w5.ownsRow (w.heap.size + 1) 60 1 u r.length (r.map ValD.val) → (∀ b, u.ownBlock = some b → u3.ownBlock ≠ some b) → w7.ownsRow (w.heap.size + 1) 60 1 u r.length (r.map ValD.val) ∧ ∀ b, u.ownBlock = some b → (Value.slice (some ⟨g7, 0, none⟩) (acc.length + 1) cap7).ownBlock ≠ some b := fun r u h1 h2 => by
        refine ⟨own_grownE (h1.alloc _) hgrow7 h2, fun b e h' => ?_⟩
        simp [Value.ownBlock] at h'
        subst h'
        rcases hat7 with h | h
        · exact h2 _ e h
        · have := hbw h1 e
          rw [h] at this
          simp at this
          omega
      have HRV7 := Lib.hid (show RowsV w7 (w.heap.size + 1) (.slice (some ⟨g7, 0, none⟩) (acc.length + 1) cap7) (acc ++ [((row1, .slice a5 qn c5) : VPair)]) from fun q hq => by
        rcases List.mem_append.1 hq with hq | hq
        · exact hrow q.1 q.2 (HRV5.out q hq).1 (HRV5.out q hq).2
        · simp at hq
          subst hq
          refine hrow row1 _ (by rw [HQL.out]; exact own_leV HV5.out (by have := HIT1.out.ltr; omega)) (fun b e h' => ?_)
          have h1 := (HV5.out.lt b e).1
          have h2 := (HO1.out.lt b h').2
          omega)
      have HIT7 := Lib.hid (show IterAt w7 bm w.heap.size M (vis ++ [j]) from (HIT1.out.call (K5.out.alloc K5.out.size (.cells #[.slice a5 qn c5] 61))).kept (hgrow7.block bm (by have := HIT1.out.ltm; have := K5.out.size; simp; omega) (fun e => by have := (HO5.out.lt bm e.symm).1; omega)) (hgrow7.block _ (by have := HIT1.out.ltr; have := K5.out.size; simp; omega) (fun e => by have := (HO5.out.lt _ e.symm).1; omega)))
      have HLF7 := Lib.hid (show w7.rangeLeft bm w.heap.size < wr.rangeLeft bm w.heap.size by
        have e1 : w7.rangeLeft bm w.heap.size = w1.rangeLeft bm w.heap.size := by
          rw [← HIT1.out.left_call (K5.out.alloc K5.out.size (.cells #[.slice a5 qn c5] 61))]
          exact left_kept (hgrow7.block bm (by have := HIT1.out.ltm; have := K5.out.size; simp; omega) (fun e => by have := (HO5.out.lt bm e.symm).1; omega)) (hgrow7.block _ (by have := HIT1.out.ltr; have := K5.out.size; simp; omega) (fun e => by have := (HO5.out.lt _ e.symm).1; omega))
        rw [e1]
        exact HLF1.out)
      clear hown7 hgrow7 hat7 hglt7 hrow hbw
      go_wp2
      go_roundw
      case rel => exact ⟨acc ++ [((row1, .slice a5 qn c5) : VPair)], vis ++ [j], HIT7.out, by rw [List.map_append, List.map_append, HAV.out]; simp [HKQ.out], by have := HO7.out; simpa using this, HRV7.out, HB7.out⟩
      case measure => exact HLF7.out
end Go.Proofs.Ytlclhinianamhaa
