/- The law PlanOwn. -/
import Derived.Test.YtkofaoaglnjkgaaPlAlivem
import Derived.Test.YtkofaoaglnjkgaaPl13
import Derived.Test.YtkofaoaglnjkgaaGreat14m
import Derived.Test.YtkofaoaglnjkgaaCellRowm
import Derived.Deep.DeepCutAuto
import Derived.Deep.CutBlock
namespace Go.Proofs.Ytkofaoaglnjkgaa
open Go.RowKit Go.Deep
set_option linter.unusedVariables false
set_option linter.unusedSimpArgs false

structure EntH where
  file : EntryD
  sv : Value
def entHV (t : EntH) : List Value := t.file.cells t.sv
theorem entHV_len (t : EntH) : (entHV t).length = 6 := rfl
def EntOwn (w : World) (B : Nat) (v : Value) (t : EntH) : Prop :=
  w.ownsRow B 31 10 t.sv t.file.stats.length (t.file.stats.flatMap statV) ∧ (∀ b, t.sv.ownBlock = some b → some b ≠ v.ownBlock)
def EntsOwn (w : World) (B : Nat) (v : Value) (ts : List EntH) : Prop :=
  w.ownsRow B 52 6 v ts.length (ts.flatMap entHV) ∧ ∀ t ∈ ts, EntOwn w B v t
section
variable {w w' : World} {B : Nat} {v : Value} {ts : List EntH} {t : EntH}
theorem EntOwn.call (h : EntOwn w B v t) (hb : Below w.heap.size w w') : EntOwn w' B v t := ⟨own_below h.1 hb, h.2⟩
theorem EntOwn.of {w0 : World} {B1 : Nat} (h : EntsOwn w0 B v ts) (hs : w.ownsRow B1 31 10 t.sv t.file.stats.length (t.file.stats.flatMap statV)) (h1 : w0.heap.size ≤ B1) (hB : B ≤ w0.heap.size) : EntOwn w B v t := by
  refine ⟨own_le hs (by omega), fun b hb e => ?_⟩
  have := (hs.lt b hb).1
  have := (h.1.lt b e.symm).2
  omega
theorem EntsOwn.nil (w : World) (B : Nat) : EntsOwn w B (.slice none 0 0) [] := ⟨World.ownsRow_nil _ _ _ _, fun t h => by simp at h⟩
theorem EntsOwn.call (h : EntsOwn w B v ts) (hb : Below w.heap.size w w') : EntsOwn w' B v ts :=
  ⟨own_below h.1 hb, fun t ht => (h.2 t ht).call hb⟩
theorem EntsOwn.alloc (h : EntsOwn w B v ts) (o : Obj) : EntsOwn (w.alloc o) B v ts := h.call ((Below.refl _ _).alloc (Nat.le_refl _) _)
theorem EntsOwn.snoc {g cap : Nat} (h : EntsOwn w B v ts) (hown : w'.ownsRow B 52 6 (.slice (some ⟨g, 0, none⟩) (ts.length + 1) cap) (ts.length + 1) (ts.flatMap entHV ++ entHV t)) (hg : w.grownBy w' v.ownBlock) (hat : v.ownBlock = some g ∨ g = w.heap.size)
    (ht : EntOwn w B v t) : EntsOwn w' B (.slice (some ⟨g, 0, none⟩) (ts.length + 1) cap) (ts ++ [t]) := by
  have hne : ∀ b, b < w.heap.size → some b ≠ v.ownBlock → some b ≠ (Value.slice (some ⟨g, 0, none⟩) (ts.length + 1) cap).ownBlock := fun b h1 h2 h => by
    have : b = g := by simpa [Value.ownBlock] using h
    subst this
    rcases hat with h3 | h3
    · exact h2 h3.symm
    · omega
  have key : ∀ u, EntOwn w B v u → EntOwn w' B (.slice (some ⟨g, 0, none⟩) (ts.length + 1) cap) u := fun u ⟨h1, h3⟩ => by
    refine ⟨h1.kept hg ?_, fun b hb => hne b (h1.lt b hb).2 (h3 b hb)⟩
    cases hs : u.sv.ownBlock with
    | none => exact .inl rfl
    | some b => exact .inr (h3 b hs)
  refine ⟨by rw [List.length_append, List.flatMap_append]; simpa using hown, fun u hu => ?_⟩
  rcases List.mem_append.1 hu with hu | hu
  · exact key u (h.2 u hu)
  · simp at hu; subst hu; exact key _ ht
theorem Sl.mapTo {α β : Type} {size : Nat} {R : Rd β} {g : α → β} {w : World} {a : Option Addr} {n : Nat} {xs : List α} (h : Sl size (fun w cs x => R w cs (g x)) w a n xs) : Sl size R w a n (xs.map g) := by
  refine ⟨by rw [List.length_map]; exact h.1, fun hn => ?_⟩
  obtain ⟨b, off, ha, hlt, hc⟩ := h.2 hn
  refine ⟨b, off, ha, hlt, fun i y hy => ?_⟩
  rw [List.getElem?_map] at hy
  obtain ⟨x, hx, rfl⟩ := Option.map_eq_some_iff.1 hy
  exact hc i x hx
theorem EntsOwn.sl {ad : Option Addr} {c : Nat} (h : EntsOwn w B (.slice ad ts.length c) ts) (hok : ∀ t ∈ ts, EntryOK t.file ∧ ∀ s ∈ t.file.stats, StatOK s) : Sl 6 EntryR w ad ts.length (ts.map EntH.file) := by
  refine Sl.mapTo (own_sl (R := fun w cs (t : EntH) => EntryR w cs t.file) (by decide) entHV_len (fun t ht => ?_) h.1)
  obtain ⟨h1, _⟩ := h.2 t ht
  obtain ⟨a, c, hv, hc1, hc2, hc3⟩ := own_slice h1
  refine ⟨a, t.file.stats.length, c, by unfold entHV; rw [hv], hc1, hc2, hc3, ?_, (hok t ht).1⟩
  rw [hv] at h1
  exact own_sl (R := StatR) (by decide) statV_len (fun s hs => ⟨rfl, (hok t ht).2 s hs⟩) h1
/-- A row of the call's own, whatever it holds. -/
def WRow (w : World) (B e size : Nat) (v : Value) (n : Nat) : Prop := ∃ xs, w.ownsRow B e size v n xs
theorem WRow.set {e size n : Nat} (h : WRow w B e size v n) (g j : Nat) (u : Value) : WRow (w.setCell ⟨g, j, none⟩ u) B e size v n := by
  obtain ⟨xs, h⟩ := h
  cases hv : v.ownBlock with
  | none => exact ⟨xs, h.kept (grown_set w ⟨g, j, none⟩ u) (.inl hv)⟩
  | some b =>
    by_cases hb : b = g
    · subst hb
      rcases h.2 with ⟨rfl, _⟩ | ⟨g', cap, cur, rfl, rest⟩
      · simp [Value.ownBlock] at hv
      · simp [Value.ownBlock] at hv
        subst hv
        exact ⟨_, (h.stored j u).1⟩
    · exact ⟨xs, h.kept (grown_set w ⟨g, j, none⟩ u) (.inr (by rw [hv]; simp; exact hb))⟩
def TasksW (w : World) (B : Nat) (v : Value) (ts : List TaskH) : Prop :=
  w.ownsRow B 69 7 v ts.length (ts.flatMap taskV) ∧ ∀ t ∈ ts, WRow w B 31 10 t.sv t.file.stats.length ∧ WRow w B 9 1 t.kv t.names.length ∧
    (∀ b, t.sv.ownBlock = some b → some b ≠ v.ownBlock) ∧ (∀ b, t.kv.ownBlock = some b → some b ≠ v.ownBlock)
theorem TasksOwn.tw {us : List TaskH} (h : TasksOwn w B v us) : TasksW w B v us := ⟨h.1, fun t ht => by obtain ⟨h1, h2, h3, h4⟩ := h.2 t ht; exact ⟨⟨_, h1⟩, ⟨_, h2⟩, h3, h4⟩⟩
theorem TasksW.set {us : List TaskH} (h : TasksW w B v us) {g : Nat} (hne : some g ≠ v.ownBlock) (j : Nat) (u : Value) : TasksW (w.setCell ⟨g, j, none⟩ u) B v us := by
  refine ⟨h.1.kept (grown_set w ⟨g, j, none⟩ u) ?_, fun t ht => by obtain ⟨h1, h2, h3, h4⟩ := h.2 t ht; exact ⟨h1.set g j u, h2.set g j u, h3, h4⟩⟩
  cases hv : v.ownBlock with
  | none => exact .inl rfl
  | some b => exact .inr (by rw [hv] at hne; exact fun e => hne (by simpa using e.symm))
end
theorem infoEntry : (Try.prog.info? 52).map (fun i => (i.zero, i.size, i.bytes)) = some (some (.agg #[.string ByteArray.empty, .bool false, .int .u64 0, .int .i64 0, .int .u32 0, .slice none 0 0]), 6, 72) := by kernel_rfl
set_option maxRecDepth 100000 in
set_option maxHeartbeats 16000000 in
theorem planOwn_calls (ct : List Value) (t : TableD) (la : Option Addr) (ln lc : Nat) (l : List EntryD) (w : World) (ht : TableR w ct t) (hl : Sl 6 EntryR w la ln l) :
    Calls Try.prog 5 #[.agg ct.toArray, .slice la ln lc] w (TruePost w) := by
  have HT := Lib.hid ht
  have HLS := Lib.hid hl
  have HLL := Lib.hid hl.1
  obtain ⟨ta, tn, tc, ta', tn', tc', rfl, _⟩ := ht
  obtain ⟨i0, hi0, hz0, hz1, hz2⟩ := info_parts infoStat
  have HI := Lib.hid hi0
  have HZ0 := Lib.hid hz0
  have HZ1 := Lib.hid hz1
  have HZ2 := Lib.hid hz2
  clear hi0 hz0 hz1 hz2
  obtain ⟨l0, hl0, hz0, hz1, hz2⟩ := info_parts infoEntry
  have HJ := Lib.hid hl0
  have HY0 := Lib.hid hz0
  have HY1 := Lib.hid hz1
  have HY2 := Lib.hid hz2
  have hand : ∀ W : World, PredR 1 W [.int .u8 6, .int .u32 0, .int .u8 0, .int .i64 0, .string ⟨#[]⟩, .slice none 0 0] andP := fun W =>
    ⟨none, 0, 0, rfl, Nat.le_refl _, by decide, fun _ => rfl, Sl.nil_ _ _ _, by decide, by decide, cellOK0⟩
  have hsch : ∀ W : World, SchemaR W [.int .u32 0, .slice none 0 0] ⟨0, []⟩ := fun W => ⟨none, 0, 0, rfl, Nat.le_refl _, by decide, fun _ => rfl, Sl.nil_ _ _ _, by decide⟩
  have HAND := Lib.hid hand
  have HSCH := Lib.hid hsch
  clear hl hz0 hz1 hz2 hl0 hand hsch
  go_enter Try.func5, Try.ntmps5
  go_wp2_with fail
  obtain ⟨W0, hWW⟩ : ∃ W0 : World, W0 = (w.alloc (.cells #[.slice ta tn tc, .slice ta' tn' tc', .int .u64 t.current] 59)) := ⟨_, rfl⟩
  have hm : Mem w.heap.size [#[.slice ta tn tc, .slice ta' tn' tc', .int .u64 t.current]] w W0 := by rw [hWW]; exact ((Mem.nil w).push (by simp) #[.slice ta tn tc, .slice ta' tn' tc', .int .u64 t.current] 59)
  rw [← hWW]
  clear hWW
  have M0 := Lib.hid hm
  clear hm
  refine (alive16_calls _).mono ?_
  rintro e w1 ⟨rfl, hb⟩
  have M1 := Lib.hid (M0.out.call hb)
  clear hb
  have q0_0 : w1.cell? ⟨w.heap.size, 0, none⟩ = some (.slice ta tn tc) := M1.out.cell 0 0 rfl rfl
  have q0_1 : w1.cell? ⟨w.heap.size, 1, none⟩ = some (.slice ta' tn' tc') := M1.out.cell 0 1 rfl rfl
  have q0_2 : w1.cell? ⟨w.heap.size, 2, none⟩ = some (.int .u64 t.current) := M1.out.cell 0 2 rfl rfl
  have z0 : w.heap.size < w1.heap.size := M1.out.lt 0 (by simp)
  go_wp2_with fail
  refine (great14 _ t _ (TableR.stable _ _ _ _ M1.out.below HT.out)).mono ?_
  rintro e w2 ⟨b, rfl, hb, hfine⟩
  have M2 := Lib.hid (M1.out.call hb)
  clear hb
  clear q0_0 q0_1 q0_2 z0
  cases b with
  | true =>
    go_wp2
    go_ret
    exact ⟨rfl, M2.out.below⟩
  | false =>
    have HF := Lib.hid (hfine rfl)
    clear hfine
    go_wp2_with fail
    refine (great13 la ln lc l _ (HLS.out.below EntryR.stable M2.out.below)).mono ?_
    rintro e w2' ⟨b, rfl, rfl, hgr⟩
    cases b with
    | true =>
      go_wp2
      go_ret
      exact ⟨rfl, M2.out.below⟩
    | false =>
      have HG := Lib.hid (hgr rfl)
      clear hgr
      have hln : ln ≤ 200 := by have := HG.out.1; have := HLL.out; omega
      have hlni : (ln : Int) ≤ 200 := by omega
      have HL2 := Lib.hid (HLS.out.below EntryR.stable M2.out.below)
      go_upto_block 0 with fail
      go_cut [5] (fun v wx => ∃ ts : List EntH, EntsOwn wx w2.heap.size v ts ∧ ts.map EntH.file = l ∧ Below w2.heap.size w2 wx)
      case first =>
        go_wp2_with fail
        go_loopw [5, 6] (fun v i wr => ∃ (k : Nat) (ts : List EntH), k ≤ ln ∧ i = .int .i64 (k : Int) ∧ EntsOwn wr w2.heap.size v ts ∧ ts.map EntH.file = l.take k ∧ Below w2.heap.size w2 wr) (fun _ i _ => ln - (intOf i).toNat)
        case atStart => exact ⟨0, [], Nat.zero_le _, rfl, EntsOwn.nil _ _, by simp, Below.refl _ _⟩
        case round =>
          obtain ⟨k, ts, hk, rfl, hown, hts, hb⟩ := hrel
          have HO := Lib.hid hown
          have hlen : ts.length ≤ k := by
            have h1 := congrArg List.length hts
            rw [List.length_map, List.length_take] at h1
            omega
          have HTS := Lib.hid hts
          have HB := Lib.hid hb
          clear hown hb hts
          have hki : (0 : Int) ≤ (k : Int) := by omega
          by_cases hlt : k < ln
          · have hkn : (k : Int) < (ln : Int) := by omega
            obtain ⟨b, off, x, xcs, rfl, hbl, hx, hcl, hxr, hcell⟩ := HL2.out.at_ hlt
            obtain ⟨xa, xn, xc, rfl, hx1, hx2, hx3, hxs, hxo⟩ := hxr
            have hxn : xn ≤ 50 := by have := HG.out.2 x (List.mem_of_getElem? hx); have := hxs.1; omega
            have HX3 := Lib.hid hx3
            have HXS := Lib.hid (hxs.below StatR.stable HB.out)
            have HXL := Lib.hid hxs.1
            have HTK := Lib.hid (show l.take (k + 1) = (ts.map EntH.file) ++ [x] by rw [HTS.out, List.take_add_one, hx]; rfl)
            simp only [EntryD.cells] at hcell
            have e0 := (HB.out.cell (p := ⟨b, off + k * 6 + 0, none⟩) hbl).trans (hcell 0 _ rfl)
            have e1 := (HB.out.cell (p := ⟨b, off + k * 6 + 1, none⟩) hbl).trans (hcell 1 _ rfl)
            have e2 := (HB.out.cell (p := ⟨b, off + k * 6 + 2, none⟩) hbl).trans (hcell 2 _ rfl)
            have e3 := (HB.out.cell (p := ⟨b, off + k * 6 + 3, none⟩) hbl).trans (hcell 3 _ rfl)
            have e4 := (HB.out.cell (p := ⟨b, off + k * 6 + 4, none⟩) hbl).trans (hcell 4 _ rfl)
            have e5 := (HB.out.cell (p := ⟨b, off + k * 6 + 5, none⟩) hbl).trans (hcell 5 _ rfl)
            rw [Nat.add_zero] at e0
            have hbw : b < wr.heap.size := by have := HB.out.size; omega
            clear hcell hcl hx hx1 hx2 hx3 hxs hxo
            go_upto_region 10 with fail
            obtain ⟨V0, hWW⟩ : ∃ W0 : World, W0 = (wr.alloc (.cells #[.string x.name, .bool x.keys, .int .u64 (x.seq : Int), .int .i64 x.rows, .int .u32 (x.schema : Int), .slice xa xn xc] 52)) := ⟨_, rfl⟩
            have hm : Mem wr.heap.size [#[.string x.name, .bool x.keys, .int .u64 (x.seq : Int), .int .i64 x.rows, .int .u32 (x.schema : Int), .slice xa xn xc]] wr V0 := by rw [hWW]; exact ((Mem.nil wr).push (by simp) #[.string x.name, .bool x.keys, .int .u64 (x.seq : Int), .int .i64 x.rows, .int .u32 (x.schema : Int), .slice xa xn xc] 52)
            rw [← hWW]
            clear hWW
            have N0 := Lib.hid hm
            clear hm
            have hbv : b < V0.heap.size := by have := N0.out.below.size; omega
            have f5 := (N0.out.below.cell (p := ⟨b, off + k * 6 + 5, none⟩) hbw).trans e5
            have hsl := HXS.out.below StatR.stable N0.out.below
            have HSL := Lib.hid hsl
            clear e0 e1 e2 e3 e4 e5 hsl
            go_wp2_with (at_builtin; refine wpList_append_vals _ rfl _ _ _ rfl V0.heap.size 31 i0 (.agg #[.int .i64 0, .int .i64 0, .bool false, .bool false, .int .u8 0, .int .i64 0, .string ByteArray.empty, .int .u8 0, .int .i64 0, .string ByteArray.empty]) 10 88 Try.underlying50 HI.out HZ0.out HZ1.out HZ2.out rfl (by decide) _ _ [] rfl (World.ownsRow_lit V0 #[] 0 (Nat.le_refl _) (by decide) rfl) _ _ _ (x.stats.flatMap statV) rfl ((HSL.out.alloc StatR.stable _).lies (by decide) statV_len (fun _ _ hr => hr.1)) (one_flat statV_one x.stats) (by unfold maxLen; omega) (by omega) (by simp) HX3.out ?_; intro v5 w5 hown5 hg5 hnil5; refine Hold.out ?_)
            unfold Hold
            rw [Nat.zero_add, List.nil_append] at hown5
            have hb5 := below_lit hg5
            obtain ⟨a5, c5, rfl, _⟩ := own_slice hown5
            have N5 := Lib.hid (N0.out.call hb5)
            have HS5 := Lib.hid hown5
            clear hown5 hg5 hb5 f5
            have q0_5 : w5.cell? ⟨wr.heap.size, 5, none⟩ = some (.slice xa xn xc) := N5.out.cell 0 5 rfl rfl
            have g0 : ∀ j, w5.frozen? ⟨wr.heap.size, j, none⟩ = false := N5.out.frozen 0 rfl
            have z0 : wr.heap.size < w5.heap.size := N5.out.lt 0 (by simp)
            go_upto_region 11 with (fail)
            have hst_0 : Mem wr.heap.size [#[.string x.name, .bool x.keys, .int .u64 (x.seq : Int), .int .i64 x.rows, .int .u32 (x.schema : Int), .slice a5 xn c5]] wr (w5.setCell ⟨wr.heap.size, 5, none⟩ (.slice a5 xn c5)) := N5.out.set 0 5 (.slice a5 xn c5) rfl (by simp)
            have hm := hst_0
            obtain ⟨W9, hWW⟩ : ∃ W : World, W = (w5.setCell ⟨wr.heap.size, 5, none⟩ (.slice a5 xn c5)) := ⟨_, rfl⟩
            have hs9 : W9.ownsRow V0.heap.size 31 10 (.slice a5 xn c5) xn (x.stats.flatMap statV) := by rw [hWW]; exact own_set HS5.out (N0.out.lt 0 (by simp)) _
            rw [← hWW] at hm ⊢
            clear hWW hst_0
            clear q0_5 g0 z0
            have MW9 := Lib.hid hm
            clear hm
            have HB9 := Lib.hid (HB.out.trans (MW9.out.below.mono HB.out.size))
            have HO9 := Lib.hid (HO.out.call MW9.out.below)
            have ht9 : EntOwn W9 w2.heap.size _ ⟨x, .slice a5 xn c5⟩ := EntOwn.of HO.out (by simp only []; rw [HXL.out]; exact hs9) N0.out.below.size HB.out.size
            have HT9 := Lib.hid ht9
            have HR9 := Lib.hid HO9.out.1
            clear ht9 hs9
            have q0 : W9.cell? ⟨wr.heap.size, 0, none⟩ = some (.string x.name) := MW9.out.cell 0 0 rfl rfl
            have q1 : W9.cell? ⟨wr.heap.size, 1, none⟩ = some (.bool x.keys) := MW9.out.cell 0 1 rfl rfl
            have q2 : W9.cell? ⟨wr.heap.size, 2, none⟩ = some (.int .u64 (x.seq : Int)) := MW9.out.cell 0 2 rfl rfl
            have q3 : W9.cell? ⟨wr.heap.size, 3, none⟩ = some (.int .i64 x.rows) := MW9.out.cell 0 3 rfl rfl
            have q4 : W9.cell? ⟨wr.heap.size, 4, none⟩ = some (.int .u32 (x.schema : Int)) := MW9.out.cell 0 4 rfl rfl
            have q5 : W9.cell? ⟨wr.heap.size, 5, none⟩ = some (.slice a5 xn c5) := MW9.out.cell 0 5 rfl rfl
            have z0 : wr.heap.size < W9.heap.size := MW9.out.lt 0 (by simp)
            have h63 : ts.length + 1 ≤ maxLen := by unfold maxLen; omega
            have hby : (ts.length + 1) * 72 ≤ 140737488355328 := by omega
            have hbase : w2.heap.size ≤ (W9.alloc (.cells #[.string x.name, .bool x.keys, .int .u64 (x.seq : Int), .int .i64 x.rows, .int .u32 (x.schema : Int), .slice a5 xn c5] 52)).heap.size := by have := HB9.out.size; simp; omega
            have hone : ∀ u ∈ ([.string x.name, .bool x.keys, .int .u64 (x.seq : Int), .int .i64 x.rows, .int .u32 (x.schema : Int), .slice a5 xn c5] : List Value), u.oneCell' = true := by simp [Value.oneCell']
            have hcl : ∀ j u, ([.string x.name, .bool x.keys, .int .u64 (x.seq : Int), .int .i64 x.rows, .int .u32 (x.schema : Int), .slice a5 xn c5] : List Value)[j]? = some u → (W9.alloc (.cells #[.string x.name, .bool x.keys, .int .u64 (x.seq : Int), .int .i64 x.rows, .int .u32 (x.schema : Int), .slice a5 xn c5] 52)).cell? ((⟨W9.heap.size, 0, none⟩ : Addr).add j) = some u := fun j u hj => by
              have := CellsAt.alloc_at W9 #[.string x.name, .bool x.keys, .int .u64 (x.seq : Int), .int .i64 x.rows, .int .u32 (x.schema : Int), .slice a5 xn c5] 52 W9.heap.size rfl j u (by simpa using hj)
              rw [show ((⟨W9.heap.size, 0, none⟩ : Addr).add j) = ⟨W9.heap.size, j, none⟩ by (simp [Addr.add] <;> omega)]
              exact this
            have HBASE := Lib.hid hbase
            have HONE := Lib.hid hone
            have HCL := Lib.hid hcl
            clear hbase hone hcl
            go_wp2_with (at_builtin; refine wpList_append_lies _ rfl _ _ _ rfl w2.heap.size 52 l0 (.agg #[.string ByteArray.empty, .bool false, .int .u64 0, .int .i64 0, .int .u32 0, .slice none 0 0]) 6 72 Try.underlying62 HJ.out HY0.out HY1.out HY2.out rfl (by decide) _ _ _ rfl (HR9.out.alloc _) ⟨W9.heap.size, 0, none⟩ 1 1 [.string x.name, .bool x.keys, .int .u64 (x.seq : Int), .int .i64 x.rows, .int .u32 (x.schema : Int), .slice a5 xn c5] rfl rfl HCL.out HONE.out (by decide) h63 hby HBASE.out _ rfl ?_; intro g cap w10 hown5 hgrow5 hat5 hglt5)
            have hro := EntsOwn.snoc (HO9.out.alloc (.cells #[.string x.name, .bool x.keys, .int .u64 (x.seq : Int), .int .i64 x.rows, .int .u32 (x.schema : Int), .slice a5 xn c5] 52)) (t := ⟨x, .slice a5 xn c5⟩) hown5 hgrow5 (by first | exact hat5 | simpa using hat5) (HT9.out.call ((Below.refl _ _).alloc (Nat.le_refl _) _))
            have hb10 := below_append HR9.out HB9.out hgrow5
            clear hgrow5 hat5 hown5
            go_roundw
            case rel => exact ⟨k + 1, _, by omega, by go_num, hro, by rw [HTK.out, List.map_append]; rfl, hb10⟩
            case measure => simp [intOf] <;> omega
          · obtain rfl : k = ln := by omega
            have HTK := Lib.hid (show ts.map EntH.file = l by rw [HTS.out]; exact List.take_of_length_le (by rw [HLL.out]; exact Nat.le_refl _))
            go_wp2
            go_meet
            case rel => exact ⟨ts, HO.out, HTK.out, HB.out⟩
      case rest =>
        obtain ⟨w3, rfl⟩ : ∃ W : World, W = wc := ⟨_, rfl⟩
        obtain ⟨es, hown, hes, hb⟩ := hcut
        have M3 := Lib.hid (M2.out.call hb)
        obtain ⟨ea, ec, rfl, _⟩ := own_slice hown.1
        have hok : ∀ t ∈ es, EntryOK t.file ∧ ∀ s ∈ t.file.stats, StatOK s := fun t ht => by
          have hm : t.file ∈ l := by rw [← hes]; exact List.mem_map_of_mem ht
          obtain ⟨cs, a, n, c, _, _, _, _, hs, ho⟩ := sl_each HL2.out t.file hm
          exact ⟨ho, fun s hs' => by obtain ⟨_, hr⟩ := sl_each hs s hs'; exact hr.2⟩
        have hesl := hown.sl hok
        rw [hes] at hesl
        have HES := Lib.hid hesl
        have HL3 := Lib.hid (HL2.out.below EntryR.stable hb)
        generalize es.length = el at *
        clear hown hes hb hok hesl
        have q0_0 : w3.cell? ⟨w.heap.size, 0, none⟩ = some (.slice ta tn tc) := M3.out.cell 0 0 rfl rfl
        have q0_1 : w3.cell? ⟨w.heap.size, 1, none⟩ = some (.slice ta' tn' tc') := M3.out.cell 0 1 rfl rfl
        have q0_2 : w3.cell? ⟨w.heap.size, 2, none⟩ = some (.int .u64 t.current) := M3.out.cell 0 2 rfl rfl
        go_wp2_with fail
        refine (tasks_calls _ t la ln lc l _ ⟨0, []⟩ 1 _ andP _ (TableR.stable _ _ _ _ M3.out.below HT.out) (by have := HF.out.1; omega) (fun s hs => by have := (HF.out.2.2.1 s hs).1; omega) HL3.out (by omega) (fun x hx => by have := HG.out.2 x hx; omega) (HSCH.out _) (by decide) (HAND.out _)).mono ?_
        rintro e w4 ⟨v, ts, rfl, hown, _, hb⟩
        have hw := hown.tw
        obtain ⟨ga, gc, rfl, hgc1, hgc2, _⟩ := own_slice hown.1
        obtain ⟨L, hL⟩ : ∃ m, ts.length = m := ⟨_, rfl⟩
        have HLT := Lib.hid hL
        unfold maxLen at hgc2
        have hLm : L ≤ 9223372036854775807 := by omega
        rw [hL]
        have HW := Lib.hid hw
        have HB4 := Lib.hid hb
        have M4 := Lib.hid (M3.out.call hb)
        clear hown hb hw hL q0_0 q0_1 q0_2
        go_wp2_with fail
        go_loopw [9] (fun i wr => ∃ k : Nat, k ≤ L ∧ i = .int .i64 (k : Int) ∧ TasksW wr w3.heap.size (.slice ga ts.length gc) ts ∧ Below w3.heap.size w3 wr) (fun i _ => L - (intOf i).toNat)
        case atStart => exact ⟨0, Nat.zero_le _, rfl, HW.out, HB4.out⟩
        case round =>
          obtain ⟨k, hk, rfl, hw, hb⟩ := hrel
          have HWR := Lib.hid hw
          have HBR := Lib.hid hb
          clear hw hb
          have hki : (0 : Int) ≤ (k : Int) := by omega
          by_cases hlt : k < L
          · have hkn : (k : Int) < (L : Int) := by omega
            obtain ⟨x, hx⟩ : ∃ x, ts[k]? = some x := ⟨_, List.getElem?_eq_getElem (by rw [HLT.out]; exact hlt)⟩
            have hxm := List.mem_of_getElem? hx
            obtain ⟨g, cp, hge, hg1, _⟩ := HWR.out.1.form (by rw [HLT.out]; omega)
            have hgl := (HWR.out.1.lt g (by rw [hge]; rfl)).2
            simp only [Value.slice.injEq] at hge
            obtain ⟨rfl, _, rfl⟩ := hge
            have hcells : ∀ W : World, TasksW W w3.heap.size (.slice (some ⟨g, 0, none⟩) ts.length gc) ts → W.cell? ⟨g, k * 7 + 5, none⟩ = some x.sv ∧ W.cell? ⟨g, k * 7 + 6, none⟩ = some x.kv := fun W h => by
              refine ⟨?_, ?_⟩
              · rw [h.1.cellAt (k * 7 + 5) (by rw [HLT.out]; omega), flat_get taskV_len ts k 5 x hx (by decide)]; rfl
              · rw [h.1.cellAt (k * 7 + 6) (by rw [HLT.out]; omega), flat_get taskV_len ts k 6 x hx (by decide)]; rfl
            have hrows : ∀ W : World, TasksW W w3.heap.size (.slice (some ⟨g, 0, none⟩) ts.length gc) ts → WRow W w3.heap.size 31 10 x.sv x.file.stats.length ∧ WRow W w3.heap.size 9 1 x.kv x.names.length := fun W h => ⟨(h.2 x hxm).1, (h.2 x hxm).2.1⟩
            have hap := (HWR.out.2 x hxm).2.2
            simp only [Value.ownBlock] at hap
            obtain ⟨xf, xnm, xsv, xkv⟩ := x
            simp only [] at hcells hrows hap
            obtain ⟨ys, hsv⟩ := (hrows _ HWR.out).1
            obtain ⟨zs, hkv⟩ := (hrows _ HWR.out).2
            obtain ⟨sa, sc, rfl, hsc1, hsc2, _⟩ := own_slice hsv
            obtain ⟨ka, kc, rfl, hkc1, hkc2, _⟩ := own_slice hkv
            have HFS := Lib.hid hsv
            have HFK := Lib.hid hkv
            obtain ⟨sl, hsl⟩ : ∃ m, xf.stats.length = m := ⟨_, rfl⟩
            obtain ⟨kl, hkl⟩ : ∃ m, xnm.length = m := ⟨_, rfl⟩
            rw [hsl] at hcells hrows HFS hap hsc1 hsv
            rw [hkl] at hcells hrows HFK hap hkc1 hkv
            unfold maxLen at hsc2 hkc2
            have HC := Lib.hid hcells
            have HR := Lib.hid hrows
            have HAP := Lib.hid hap
            have hsli : (sl : Int) ≤ 9223372036854775807 := by omega
            have hkli : (kl : Int) ≤ 9223372036854775807 := by omega
            clear hcells hrows hap hsv hkv hx hxm hsl hkl hsc1 hkc1
            go_wp2_with fail
            go_loopw [10] (fun i wr => ∃ q : Nat, q ≤ sl ∧ i = .int .i64 (q : Int) ∧ TasksW wr w3.heap.size (.slice (some ⟨g, 0, none⟩) ts.length gc) ts ∧ Below w3.heap.size w3 wr) (fun i _ => sl - (intOf i).toNat)
            case atStart => exact ⟨0, Nat.zero_le _, rfl, HWR.out, HBR.out⟩
            case round =>
              obtain ⟨q, hq, rfl, hw, hb⟩ := hrel
              have e5 : wr.cell? ⟨g, k * 7 + 5, none⟩ = some (.slice sa sl sc) := (HC.out _ hw).1
              have HWQ := Lib.hid hw
              have HBQ := Lib.hid hb
              clear hw hb
              have hqi : (0 : Int) ≤ (q : Int) := by omega
              by_cases hql : q < sl
              · have hqn : (q : Int) < (sl : Int) := by omega
                obtain ⟨ys, hys⟩ := (HR.out _ HWQ.out).1
                obtain ⟨g5, c5, hge, hg5, _⟩ := hys.form (by omega)
                simp only [Value.slice.injEq] at hge
                obtain ⟨rfl, _, rfl⟩ := hge
                have hck := hys.cellAt (q * 10) (by omega)
                have hvk : ys[q * 10]? = some (ys[q * 10]'(by have := hys.1; omega)) := List.getElem?_eq_getElem _
                rw [hvk] at hck
                generalize (ys[q * 10]'(by have := hys.1; omega)) = vk at *
                have hfz := hys.frozenAt (q * 10)
                have hw2 := HWQ.out.set (g := g5) (HAP.out.1 g5 rfl) (q * 10) (.int .i64 77)
                have hb2 := HBQ.out.setCell (p := ⟨g5, q * 10, none⟩) hg5 (.int .i64 77)
                have HW2 := Lib.hid hw2
                have HB2 := Lib.hid hb2
                clear hw2 hb2 hys hvk
                go_wp2
                go_roundw
                case rel => exact ⟨q + 1, by omega, by go_num, HW2.out, HB2.out⟩
                case measure => simp [intOf] <;> omega
              · have hqn : (sl : Int) ≤ (q : Int) := by omega
                have HWP := Lib.hid HWQ.out
                have HBP := Lib.hid HBQ.out
                go_wp2_with fail
                clear e5 HWQ HBQ
                go_loopw [11] (fun i wr => ∃ q : Nat, q ≤ kl ∧ i = .int .i64 (q : Int) ∧ TasksW wr w3.heap.size (.slice (some ⟨g, 0, none⟩) ts.length gc) ts ∧ Below w3.heap.size w3 wr) (fun i _ => kl - (intOf i).toNat)
                case atStart => exact ⟨0, Nat.zero_le _, rfl, HWP.out, HBP.out⟩
                case round =>
                  obtain ⟨q, hq, rfl, hw, hb⟩ := hrel
                  have e5 : wr.cell? ⟨g, k * 7 + 6, none⟩ = some (.slice ka kl kc) := (HC.out _ hw).2
                  have HWQ := Lib.hid hw
                  have HBQ := Lib.hid hb
                  clear hw hb
                  have hqi : (0 : Int) ≤ (q : Int) := by omega
                  by_cases hql : q < kl
                  · have hqn : (q : Int) < (kl : Int) := by omega
                    obtain ⟨ys, hys⟩ := (HR.out _ HWQ.out).2
                    obtain ⟨g5, c5, hge, hg5, _⟩ := hys.form (by omega)
                    simp only [Value.slice.injEq] at hge
                    obtain ⟨rfl, _, rfl⟩ := hge
                    have hck := hys.cellAt (q) (by omega)
                    have hvk : ys[q]? = some (ys[q]'(by have := hys.1; omega)) := List.getElem?_eq_getElem _
                    rw [hvk] at hck
                    generalize (ys[q]'(by have := hys.1; omega)) = vk at *
                    have hfz := hys.frozenAt (q)
                    have hw2 := HWQ.out.set (g := g5) (HAP.out.2 g5 rfl) (q) (.string ⟨#[111, 116, 104, 101, 114]⟩)
                    have hb2 := HBQ.out.setCell (p := ⟨g5, q, none⟩) hg5 (.string ⟨#[111, 116, 104, 101, 114]⟩)
                    have HW2 := Lib.hid hw2
                    have HB2 := Lib.hid hb2
                    clear hw2 hb2 hys hvk
                    go_wp2
                    go_roundw
                    case rel => exact ⟨q + 1, by omega, by go_num, HW2.out, HB2.out⟩
                    case measure => simp [intOf] <;> omega
                  · have hqn : (kl : Int) ≤ (q : Int) := by omega
                    go_wp2
                    go_roundw
                    case rel => exact ⟨k + 1, by omega, by go_num, HWQ.out, HBQ.out⟩
                    case measure => simp [intOf] <;> omega
          · have hkn : (L : Int) ≤ (k : Int) := by omega
            go_wp2_with fail
            refine (same13 la ea ln lc el ec l _ (HL3.out.below EntryR.stable HBR.out) (HES.out.below EntryR.stable HBR.out) (by omega)).mono ?_
            rintro e w9 ⟨rfl, hb9⟩
            have HB9 := Lib.hid (M3.out.below.trans ((HBR.out.trans (hb9.mono HBR.out.size)).mono M3.out.below.size))
            clear hb9
            go_wp2
            go_ret
            exact ⟨rfl, HB9.out⟩
end Go.Proofs.Ytkofaoaglnjkgaa
