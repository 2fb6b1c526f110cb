/- event.New, Offset, Schema, Row. event.New. -/
import Derived.Test.YtlclhinianamhaaEvIsm
import Derived.Test.YtlclhinianamhaaEvDo
import Derived.Carry
namespace Go.Proofs.Ytlclhinianamhaa
open Go.RowKit Go.Deep
set_option linter.unusedVariables false
set_option linter.unusedSimpArgs false

theorem ioffset (S : Nat → Prop) (p bm : Nat) (x : StD) (w : World) (hst : ImpSt S w p bm x) : Calls Try.prog 19 #[.pointer (some ⟨p, 0, none⟩)] w (fun e w' => e = .returned (.int .u64 (x.off : Int)) ∧ w' = w) := by
  obtain ⟨fa, fn, fc, M, h⟩ := hst
  have p3 : w.cell? ⟨p, 3, none⟩ = some (.int .u64 (x.off : Int)) := h.box.cell 3 rfl
  clear h
  go_enter Try.func19, Try.ntmps19
  go_wp2
  go_ret
  exact ⟨rfl, rfl⟩
theorem MapIs.new {w : World} {bm : Nat} (h : w.heap[bm]? = some (.map #[] 0)) : MapIs w bm [] := ⟨#[], 0, h, rfl, by simp, by simp, by simp, by simp⟩
theorem fields_far {S : Nat → Prop} {w : World} {B n c : Nat} {a : Option Addr} {fs : List FieldD} (h : w.ownsRow B 59 4 (.slice a n c) n (fs.flatMap fldV)) (hf : ∀ f ∈ fs, FieldR w (fldV f) f) (hS : ∀ b off, a = some ⟨b, off, none⟩ → ¬ S b) : Far S w fun W => Sl 4 FieldR W a n fs := fun W hW =>
  (own_sl (R := FieldR) (by decide) fldV_len hf h).butS (fun _ _ h => h) hW (fun b off e _ => ⟨(ownF_above h b off e).2, hS b off e⟩)
theorem fieldR_of {w : World} {a : Option Addr} {n : Nat} {fs : List FieldD} (h : Sl 4 FieldR w a n fs) (W : World) : ∀ f ∈ fs, FieldR W (fldV f) f := fun f hf => by
  obtain ⟨i, hi, rfl⟩ := List.getElem_of_mem hf
  obtain ⟨_, _, y, cs, _, _, hx, _, hr, _⟩ := h.at_ (i := i) (by have := h.1; omega)
  rw [List.getElem?_eq_getElem hi] at hx
  cases hx
  exact ⟨rfl, hr.2⟩
def SchemaPost (s : SchemaD) (w : World) (e : Ending) (w' : World) : Prop :=
  ∃ a n c, e = .returned (.agg #[.int .u32 (s.id : Int), .slice a n c]) ∧ w'.ownsRow w.heap.size 59 4 (.slice a n c) n (s.fields.flatMap fldV) ∧ (∀ f ∈ s.fields, FieldR w' (fldV f) f) ∧ s.id < 2 ^ 32 ∧ Below w.heap.size w w'
theorem SchemaPost.reads {s : SchemaD} {a : Option Addr} {n c B : Nat} {w' : World} (h : w'.ownsRow B 59 4 (.slice a n c) n (s.fields.flatMap fldV)) (hf : ∀ f ∈ s.fields, FieldR w' (fldV f) f) (hi : s.id < 2 ^ 32) : SchemaR w' [.int .u32 (s.id : Int), .slice a n c] s := by
  obtain ⟨a', c', he, h1, h2, h3⟩ := own_slice h
  simp only [Value.slice.injEq, true_and] at he
  obtain ⟨rfl, rfl⟩ := he
  exact ⟨_, _, _, rfl, h1, h2, h3, own_sl (R := FieldR) (by decide) fldV_len hf h, hi⟩
set_option maxRecDepth 100000 in
set_option maxHeartbeats 4000000 in
theorem ischema (S : Nat → Prop) (p bm : Nat) (x : StD) (w : World) (hst : ImpSt S w p bm x) (hfl : x.s.fields.length ≤ 1000) : Calls Try.prog 24 #[.pointer (some ⟨p, 0, none⟩)] w (SchemaPost x.s w) := by
  obtain ⟨fa, fn, fc, M, h⟩ := hst
  have HST := Lib.hid h
  have hfs := h.far.now.1
  have hfn : fn ≤ 1000 := by rw [← hfs.1]; exact hfl
  have HFR := Lib.hid (fun W => fieldR_of hfs W)
  have HID := Lib.hid h.id
  have HCL := Lib.hid (fun (W : World) (h' : Below w.heap.size w W) => clone_flds fa fn fc x.s.fields W (hfs.below FieldR.stable h') (by omega) h.f3)
  have hS : ∀ W, Below w.heap.size w W → W.cell? ⟨p, 0, none⟩ = some (.int .u32 (x.s.id : Int)) ∧ W.cell? ⟨p, 1, none⟩ = some (.slice fa fn fc) := fun W h' => ⟨(h.box.call h').cell 0 rfl, (h.box.call h').cell 1 rfl⟩
  have HSS := Lib.hid hS
  clear hS hfs hfl
  clear h
  go_enter Try.func24, Try.ntmps24
  go_upto_region 1 with fail
  obtain ⟨W0, hWW⟩ : ∃ W0 : World, W0 = w.alloc (.cells #[.int .u32 0, .slice none 0 0] 25) := ⟨_, rfl⟩
  have hb0 : Below w.heap.size w W0 := by rw [hWW]; exact (Below.refl _ _).alloc (Nat.le_refl _) _
  have hx0 : Box W0 w.heap.size #[.int .u32 0, .slice none 0 0] := by rw [hWW]; exact Box.new _ _ _
  rw [← hWW]
  clear hWW
  have HB0 := Lib.hid hb0
  have X0 := Lib.hid hx0
  clear hb0 hx0
  go_region_held3 (fun W => W.cell? ⟨p, 0, none⟩ = some (.int .u32 (x.s.id : Int)) ∧ W.cell? ⟨p, 1, none⟩ = some (.slice fa fn fc))
    (first | (refine HSS.out _ ?_; exact (by repeat (first | exact Below.refl _ _ | exact HB0.out | (with_reducible refine Below.drew ?_) | (with_reducible refine Below.alloc ?_ (by first | exact Nat.le_refl _ | exact K5.out.size | exact HB0.out.size | (simp; done) | (have := K5.out.size; simp; omega) | (simp; omega)) _) | (with_reducible refine Below.setCell ?_ (by first | exact Nat.le_refl _ | (simp; done) | (simp; omega)) _) | (with_reducible exact K5.out)))))
    (first
      | (go_at_call 47; (with_reducible refine (HCL.out _ (Below.drew HB0.out)).mono ?_); rintro e w5 ⟨v5, rfl, hown5, hp5⟩; have K5 := Lib.hid (HB0.out.trans ((below_step (W0 := W0) (Below.refl _ _).drew hp5).mono HB0.out.size)); obtain ⟨a5, c5, rfl, hc5⟩ := own_slice hown5; have HO5 := Lib.hid (ownF_le (base' := w.heap.size + 1) hown5 (by have := X0.out.lt; simp; omega)); have hx5 := X0.out.drew.call hp5; have X5 := Lib.hid hx5; have q0 : w5.cell? ⟨w.heap.size, 0, none⟩ = some (.int .u32 0) := hx5.cell 0 rfl; have q1 : w5.cell? ⟨w.heap.size, 1, none⟩ = some (.slice none 0 0) := hx5.cell 1 rfl; have qf : ∀ j, w5.frozen? ⟨w.heap.size, j, none⟩ = false := hx5.soft; have ql : w.heap.size < w5.heap.size := hx5.lt; clear hp5 hown5 hc5 hx5)
      | fail)
  have hx6 := (X5.out.set (j := 0) (by simp) (.int .u32 (x.s.id : Int))).set (j := 1) (by simp) (.slice a5 fn c5)
  have hb6 := (K5.out.setCell (p := ⟨w.heap.size, 0, none⟩) (Nat.le_refl _) (.int .u32 (x.s.id : Int))).setCell (p := ⟨w.heap.size, 1, none⟩) (Nat.le_refl _) (.slice a5 fn c5)
  have ho6 := ownF_set (p := ⟨w.heap.size, 1, none⟩) (ownF_set (p := ⟨w.heap.size, 0, none⟩) HO5.out (Nat.lt_succ_self _) (.int .u32 (x.s.id : Int))) (Nat.lt_succ_self _) (.slice a5 fn c5)
  generalize (w5.setCell ⟨w.heap.size, 0, none⟩ (.int .u32 (x.s.id : Int))).setCell ⟨w.heap.size, 1, none⟩ (.slice a5 fn c5) = W6 at *
  go_wp2
  have p0 : W6.cell? ⟨w.heap.size, 0, none⟩ = some (.int .u32 (x.s.id : Int)) := hx6.cell 0 (by simp)
  have p1 : W6.cell? ⟨w.heap.size, 1, none⟩ = some (.slice a5 fn c5) := hx6.cell 1 (by simp)
  exact bodyPost_ret (v := .agg #[.int .u32 (x.s.id : Int), .slice a5 fn c5]) (by simp [results, Try.results24, go_sem, p0, p1]) rfl ⟨a5, fn, c5, rfl, ownF_le ho6 (Nat.le_succ _), HFR.out _, HID.out, hb6⟩
/-- 'Row': the row of a key, or none. -/
def RowPost (k : CellD) (l : List (List CellD)) (w : World) (e : Ending) (w' : World) : Prop :=
  Below w.heap.size w w' ∧ ((e = .returned (.tuple #[.slice none 0 0, .int .i64 2]) ∧ ∀ r ∈ l, keyOf r ≠ k) ∨ ∃ (r : List ValD) (v : Value), e = .returned (.tuple #[v, .int .i64 0]) ∧ cellsOfV (r, v) ∈ l ∧ keyV (r, v) = k ∧ w'.ownsRow w.heap.size 60 1 v r.length (r.map ValD.val))
set_option maxRecDepth 100000 in
set_option maxHeartbeats 4000000 in
theorem irow (S : Nat → Prop) (p bm : Nat) (x : StD) (d : ValD) (w : World) (hst : ImpSt S w p bm x) (hd : CellB d.cell) (hne : ∀ r ∈ x.l, r.length ≤ 1000) : Calls Try.prog 30 #[.pointer (some ⟨p, 0, none⟩), d.val] w (RowPost d.cell x.l w) := by
  obtain ⟨fa, fn, fc, M, h⟩ := hst
  have HST := Lib.hid h
  have HWID := Lib.hid hne
  have hec := evcell d
  obtain ⟨k, hk⟩ : ∃ k, d.cell = k := ⟨_, rfl⟩
  obtain ⟨u, hu⟩ : ∃ u, d.val = u := ⟨_, rfl⟩
  rw [hk] at hec hd ⊢
  rw [hu] at hec ⊢
  obtain ⟨ck, cn, cs⟩ := k
  unfold CellD.cells at hec
  have HEC := Lib.hid hec
  have HUP := Lib.hid (fun (W : World) (hb : Below w.heap.size w W) => show ((Instr.lookup 91 (.map (some bm)) (.agg #[.int .u8 ck, .int .i64 cn, .string cs]) true).run Try.prog W = .ok (.tuple #[.slice none 0 0, .bool false]) W ∧ ∀ q ∈ M, keyV q ≠ ⟨ck, cn, cs⟩) ∨
    ∃ q ∈ M, keyV q = ⟨ck, cn, cs⟩ ∧ (Instr.lookup 91 (.map (some bm)) (.agg #[.int .u8 ck, .int .i64 cn, .string cs]) true).run Try.prog W = .ok (.tuple #[q.2, .bool true]) W from by
    obtain ⟨es, clock, hm⟩ := h.map.call hb
    exact hm.lookup hd)
  have hkeys : (∀ q ∈ M, keyV q ≠ ⟨ck, cn, cs⟩) ∨ ∃ q ∈ M, keyV q = ⟨ck, cn, cs⟩ := by
    rcases HUP.out w (Below.refl _ _) with ⟨_, h1⟩ | ⟨q, h1, h2, _⟩
    · exact .inl h1
    · exact .inr ⟨q, h1, h2⟩
  have hS : ∀ W, Below w.heap.size w W → W.cell? ⟨p, 2, none⟩ = some (.map (some bm)) := fun W h' => (h.box.call h').cell 2 rfl
  have HSS := Lib.hid hS
  clear h hne hec hd hS hk hu
  rcases hkeys with hno | ⟨q, hq, hqk⟩
  · have HNO := Lib.hid (show ∀ r ∈ x.l, keyOf r ≠ ⟨ck, cn, cs⟩ from fun r hr => by
      obtain ⟨q, hq, rfl⟩ := List.mem_map.1 (HST.out.rows.mem_iff.2 hr)
      rw [← keyV_of]
      exact hno q hq)
    have HLK := Lib.hid (fun (W : World) (hb : Below w.heap.size w W) => show (Instr.lookup 91 (.map (some bm)) (.agg #[.int .u8 ck, .int .i64 cn, .string cs]) true).run Try.prog W = .ok (.tuple #[.slice none 0 0, .bool false]) W from by
      rcases HUP.out W hb with ⟨h1, _⟩ | ⟨q, h1, h2, _⟩
      · exact h1
      · exact absurd h2 (hno q h1))
    clear hno HUP
    go_enter Try.func30, Try.ntmps30
    go_upto_region 1 with fail
    go_region_held3 (fun W => W.cell? ⟨p, 2, none⟩ = some (.map (some bm)))
      (first | exact HSS.out _ K5.out | exact HSS.out _ (Below.refl _ _).drew)
      (first
        | (go_at_call 48; (with_reducible refine (HEC.out _).mono ?_); rintro e w5 ⟨rfl, hp5⟩; have K5 := Lib.hid (below_step (W0 := w) (Below.drew (Below.refl _ _)) hp5); have hlk := HLK.out _ K5.out; clear hp5)
        | fail)
    go_wp2
    go_ret2
    exact ⟨K5.out, .inl ⟨rfl, HNO.out⟩⟩
  · obtain ⟨r1, v1⟩ := q
    have HKQ := Lib.hid hqk
    have HMQ := Lib.hid (show cellsOfV (r1, v1) ∈ x.l from HST.out.rows.mem_iff.1 (List.mem_map.2 ⟨_, hq, rfl⟩))
    have hr1 : r1.length ≤ 1000 := by
      have := HWID.out _ HMQ.out
      unfold cellsOfV at this
      rw [List.length_map] at this
      exact this
    have HLK := Lib.hid (fun (W : World) (hb : Below w.heap.size w W) => show (Instr.lookup 91 (.map (some bm)) (.agg #[.int .u8 ck, .int .i64 cn, .string cs]) true).run Try.prog W = .ok (.tuple #[v1, .bool true]) W from by
      rcases HUP.out W hb with ⟨_, h1⟩ | ⟨q, h1, h2, h3⟩
      · exact absurd hqk (h1 _ hq)
      · have : q = (r1, v1) := by
          obtain ⟨es, clock, hm⟩ := HST.out.map
          obtain ⟨i, hi⟩ := List.getElem?_of_mem h1
          obtain ⟨j, hj⟩ := List.getElem?_of_mem hq
          have e1 : (M.map keyV)[i]? = some ⟨ck, cn, cs⟩ := by rw [List.getElem?_map, hi, Option.map_some, h2]
          have e2 : (M.map keyV)[j]? = some ⟨ck, cn, cs⟩ := by rw [List.getElem?_map, hj, Option.map_some, hqk]
          have := (List.getElem?_inj (List.getElem?_eq_some_iff.1 e1).1 hm.keys).1 (e1.trans e2.symm)
          subst this
          rw [hi] at hj
          cases hj
          rfl
        rw [this] at h3
        exact h3)
    obtain ⟨qa, qn, qc, hqv, hqnil, hqs⟩ := HST.out.far.now.2 _ hq
    simp only [] at hqv
    subst hqv
    have HQL := Lib.hid hqs.1
    have HCL := Lib.hid (fun (W : World) (h : Below w.heap.size w W) => clone_vals qa qn qc r1 W (hqs.below ValRE.stable h) (by rw [← hqs.1]; exact hr1) hqnil)
    clear hq hqk HUP hqs hqnil hr1
    go_enter Try.func30, Try.ntmps30
    go_upto_region 1 with fail
    go_region_held3 (fun W => W.cell? ⟨p, 2, none⟩ = some (.map (some bm)))
      (first | exact HSS.out _ K5.out | exact HSS.out _ (Below.refl _ _).drew)
      (first
        | (go_at_call 48; (with_reducible refine (HEC.out _).mono ?_); rintro e w5 ⟨rfl, hp5⟩; have K5 := Lib.hid (below_step (W0 := w) (Below.drew (Below.refl _ _)) hp5); have hlk := HLK.out _ K5.out; clear hp5)
        | fail)
    go_wp2_with fail
    refine (HCL.out _ K5.out).mono ?_
    rintro e w6 ⟨v6, rfl, hown6, hb6⟩
    have HB6 := Lib.hid (K5.out.trans (hb6.mono K5.out.size))
    have HO6 := Lib.hid (own_leV hown6 K5.out.size)
    clear hown6 hb6
    go_wp2
    go_ret2
    refine ⟨HB6.out, .inr ⟨r1, _, rfl, HMQ.out, HKQ.out, ?_⟩⟩
    rw [HQL.out]
    exact HO6.out
end Go.Proofs.Ytlclhinianamhaa

namespace Go.Proofs.Ytlclhinianamhaa
open Go.RowKit Go.Deep
set_option linter.unusedVariables false
set_option linter.unusedSimpArgs false

theorem ImpSt.fresh {w : World} {s : SchemaD} {b bm B n c H : Nat} {a : Option Addr} (hx : Box w b #[.int .u32 (s.id : Int), .slice a n c, .map (some bm), .int .u64 0]) (hm : w.heap[bm]? = some (.map #[] 0)) (ho : w.ownsRow B 59 4 (.slice a n c) n (s.fields.flatMap fldV))
    (hf : ∀ f ∈ s.fields, FieldR w (fldV f) f) (hi : s.id < 2 ^ 32) (hH : H ≤ w.heap.size) (hg : ∀ k, (Value.slice a n c).ownBlock = some k → H ≤ k ∧ k ≠ b ∧ k ≠ bm) : ∀ S : Nat → Prop, S b → S bm → (∀ k, S k → k < H ∨ k = b ∨ k = bm) → ImpSt S w b bm ⟨s, [], 0⟩ := by
  intro S hb hbm hS
  obtain ⟨a', c', he, h1, h2, h3⟩ := own_slice ho
  simp only [Value.slice.injEq, true_and] at he
  obtain ⟨rfl, rfl⟩ := he
  have hml : bm < w.heap.size := (Array.getElem?_eq_some_iff.1 hm).1
  refine ⟨a, n, c, [], List.Perm.refl _, hx, h1, h2, h3, hi, (by simp), MapIs.new hm, hb, hbm, (fun k hk => by
    rcases hS k hk with h | rfl | rfl
    · omega
    · exact hx.lt
    · exact hml), ?_⟩
  refine (fields_far (S := S) ho hf (fun b' off e hs => ?_)).imp (fun W h => ⟨h, fun q hq => by cases hq⟩)
  have := hg b' (by rw [e]; rfl)
  rcases hS b' hs with h | h | h
  · omega
  · exact this.2.1 h
  · exact this.2.2 h
theorem map_new_kept {w1 w5 : World} (h : Below (w1.drew.alloc (.map #[] 0)).heap.size (w1.drew.alloc (.map #[] 0)) w5) : w5.heap[w1.heap.size]? = some (.map #[] 0) := by
  rw [h.block w1.heap.size (by show w1.heap.size < (w1.heap.push _).size; rw [Array.size_push]; exact Nat.lt_succ_self _)]
  show (w1.heap.push _)[w1.heap.size]? = _
  rw [Array.getElem?_push_size]
theorem map_old {w : World} {k : Nat} {o : Obj} (h : w.heap[k]? = some o) (o' : Obj) : (w.alloc o').heap[k]? = some o :=
  (((Below.refl w.heap.size w).alloc (Nat.le_refl _) o').block k (Array.getElem?_eq_some_iff.1 h).1).trans h
theorem map_new_old (w : World) (o' : Obj) : ((w.alloc (.map #[] 0)).alloc o').heap[w.heap.size]? = some (.map #[] 0) := map_old (by show (w.heap.push _)[w.heap.size]? = _; rw [Array.getElem?_push_size]) o'
def NewAny (R : Int) (s : SchemaD) (w : World) (e : Ending) (w' : World) : Prop :=
  Below w.heap.size w w' ∧ ((R ≠ 0 ∧ e = .returned (.tuple #[.pointer none, .int .i64 R])) ∨ (R = 0 ∧ ∃ b bm, e = .returned (.tuple #[.pointer (some ⟨b, 0, none⟩), .int .i64 0]) ∧ w.heap.size ≤ b ∧ w.heap.size ≤ bm ∧ ∀ S : Nat → Prop, S b → S bm → (∀ k, S k → k < w.heap.size ∨ k = b ∨ k = bm) → ImpSt S w' b bm ⟨s, [], 0⟩))
def NewPost (R : Int) (s : SchemaD) (w : World) (e : Ending) (w' : World) : Prop :=
  Below w.heap.size w w' ∧ ((R ≠ 0 ∧ e = .returned (.tuple #[.pointer none, .int .i64 R])) ∨ (R = 0 ∧ ∃ b bm, e = .returned (.tuple #[.pointer (some ⟨b, 0, none⟩), .int .i64 0]) ∧ w.heap.size ≤ b ∧ w.heap.size ≤ bm ∧ ImpSt (Two b bm) w' b bm ⟨s, [], 0⟩))
set_option maxRecDepth 100000 in
set_option maxHeartbeats 4000000 in
theorem inewAny (scs : List Value) (s : SchemaD) (w : World) (hs : SchemaR w scs s) : Calls Try.prog 16 #[.agg scs.toArray] w (NewAny (schemaChk s) s w) := by
  have HSC := Lib.hid hs
  obtain ⟨fa, fn, fc, rfl, hs1, hs2, hs3, hfs, hs4⟩ := hs
  have hchk := fun W (h : SchemaR W [.int .u32 (s.id : Int), .slice fa fn fc] s) => check_calls _ s W h
  have hlen := schemaChk_len (s := s)
  obtain ⟨R, hR⟩ : ∃ R, schemaChk s = R := ⟨_, rfl⟩
  rw [hR] at hchk hlen ⊢
  have HCHK := Lib.hid hchk
  have HFS := Lib.hid hfs
  have HID := Lib.hid hs4
  have HNIL := Lib.hid hs3
  have hmm := @run_makeMap Try.prog
  clear hs1 hs2 hs3 hfs hs4 hchk hR
  go_enter Try.func16, Try.ntmps16
  go_wp2_with fail
  obtain ⟨W0, hWW⟩ : ∃ W0 : World, W0 = w.alloc (.cells #[.int .u32 (s.id : Int), .slice fa fn fc] 25) := ⟨_, rfl⟩
  have hb0 : Below w.heap.size w W0 := by rw [hWW]; exact (Below.refl _ _).alloc (Nat.le_refl _) _
  have hx0 : Box W0 w.heap.size #[.int .u32 (s.id : Int), .slice fa fn fc] := by rw [hWW]; exact Box.new _ _ _
  rw [← hWW]
  clear hWW
  refine (HCHK.out _ (SchemaR.stable _ _ _ _ hb0 HSC.out)).mono ?_
  rintro e w1 ⟨rfl, hb1⟩
  have HB1 := Lib.hid (hb0.trans (hb1.mono hb0.size))
  have X1 := Lib.hid (hx0.call hb1)
  clear hb0 hx0 hb1
  by_cases hr0 : R = 0
  · subst hr0
    have hn8 := hlen rfl
    rw [HFS.out.1] at hn8
    have HF1 := Lib.hid (HFS.out.below FieldR.stable HB1.out)
    have HFR := Lib.hid (fun W => fieldR_of HFS.out W)
    have HCL := Lib.hid (fun (W : World) (h' : Below w1.heap.size w1 W) => clone_flds fa fn fc s.fields W (HF1.out.below FieldR.stable h') (by omega) HNIL.out)
    have hS : ∀ W, Below w1.heap.size w1 W → W.cell? ⟨w.heap.size, 0, none⟩ = some (.int .u32 (s.id : Int)) ∧ W.cell? ⟨w.heap.size, 1, none⟩ = some (.slice fa fn fc) := fun W h' => ⟨(X1.out.call h').cell 0 rfl, (X1.out.call h').cell 1 rfl⟩
    have HSS := Lib.hid hS
    clear hS hlen hn8
    go_upto_region 4 with fail
    go_region_held3 (fun W => W.cell? ⟨w.heap.size, 0, none⟩ = some (.int .u32 (s.id : Int)) ∧ W.cell? ⟨w.heap.size, 1, none⟩ = some (.slice fa fn fc))
      (first | (refine HSS.out _ ?_; exact (by repeat (first | exact Below.refl _ _ | (with_reducible refine Below.drew ?_) | (with_reducible refine Below.alloc ?_ (by first | exact Nat.le_refl _ | exact K5.out.size | (simp; done) | (have := K5.out.size; simp; omega) | (simp; omega)) _) | (with_reducible exact K5.out)))))
      (first
        | (go_at_call 47; (with_reducible refine (HCL.out _ (by repeat (first | exact Below.refl _ _ | (with_reducible refine Below.drew ?_) | (with_reducible refine Below.alloc ?_ (by first | exact Nat.le_refl _ | exact K5.out.size | (simp; done) | (have := K5.out.size; simp; omega) | (simp; omega)) _) | (with_reducible exact K5.out)))).mono ?_); rintro e w5 ⟨v5, rfl, hown5, hp5⟩; have k5 := below_step (W0 := w1) (by repeat (first | exact Below.refl _ _ | (with_reducible refine Below.drew ?_) | (with_reducible refine Below.alloc ?_ (by first | exact Nat.le_refl _ | (simp; done) | (simp; omega)) _))) hp5; have K5 := Lib.hid k5; obtain ⟨a5, c5, rfl, hc5⟩ := own_slice hown5; have HO5 := Lib.hid hown5; (first | (have HM5 := Lib.hid (map_new_kept hp5)) | skip); clear hp5 k5 hown5 hc5)
        | fail)
    all_goals go_wp2_with fail
    all_goals go_ret2
    all_goals first
      | exact ⟨HB1.out.trans (((K5.out.alloc K5.out.size _).alloc (by have := K5.out.size; simp; omega) _).mono HB1.out.size), .inr ⟨rfl, w5.heap.size + 1, w5.heap.size, rfl, (by have := K5.out.size; have := HB1.out.size; omega), (by have := K5.out.size; have := HB1.out.size; omega), ImpSt.fresh (Box.at_ _ _ _ _ (by simp)) (map_new_old w5 _) ((HO5.out.alloc _).alloc _) (HFR.out _) HID.out (by have := K5.out.size; have := HB1.out.size; simp; omega) (fun k hk => by have h := HO5.out.lt k hk; have := HB1.out.size; simp at h; omega)⟩⟩
      | exact ⟨HB1.out.trans ((K5.out.alloc K5.out.size _).mono HB1.out.size), .inr ⟨rfl, w5.heap.size, w1.heap.size, rfl, (by have := K5.out.size; have := HB1.out.size; omega), HB1.out.size, ImpSt.fresh (Box.at_ _ _ _ _ rfl) (map_old HM5.out _) (HO5.out.alloc _) (HFR.out _) HID.out (by have := K5.out.size; have := HB1.out.size; simp; omega) (fun k hk => by have h := HO5.out.lt k hk; have := HB1.out.size; simp at h; omega)⟩⟩
      | fail
  · have hrb : (R != 0) = true := by simpa using hr0
    go_wp2
    go_ret2
    exact ⟨HB1.out, .inl ⟨hr0, rfl⟩⟩
theorem inew (scs : List Value) (s : SchemaD) (w : World) (hs : SchemaR w scs s) : Calls Try.prog 16 #[.agg scs.toArray] w (NewPost (schemaChk s) s w) := by
  refine (inewAny scs s w hs).mono ?_
  rintro e w' ⟨hb, h⟩
  refine ⟨hb, ?_⟩
  rcases h with h | ⟨h0, b, bm, he, h1, h2, h3⟩
  · exact .inl h
  · exact .inr ⟨h0, b, bm, he, h1, h2, h3 (Two b bm) (.inl rfl) (.inr rfl) (fun k hk => .inr hk)⟩
end Go.Proofs.Ytlclhinianamhaa
