/- The law EventOwn. -/
import Derived.Test.YtlclhinianamhaaEvOwnP
namespace Go.Proofs.Ytlclhinianamhaa
open Go.RowKit Go.Deep
set_option linter.unusedVariables false
set_option linter.unusedSimpArgs false

/-- 'append(s, x...)' at a step of a region that draws: onto a row of the call's own, cells that lie somewhere. -/
theorem step_append_vals {P : Program} {ops : Array Oper} {o : Oper} {a : Act} {w : World} {K : Act → World → Prop} {Q : Exit → Act → World → Prop} {E : Prop} (hgd : o.guard = none) (s x : Operand) (t : TypeId)
    (ho : o.op = .call { callee := .builtin .append, args := #[s, x], argTypes := #[t, t] })
    (B : Nat) (e : TypeId) (i : TypeInfo) (z : Value) (size bytes : Nat) (ht : P.underlying t = some (.slice e)) (hi : P.info? e = some i) (hz : i.zero = some z)
    (hsize : i.size = size) (hby : i.bytes = bytes) (hzs : z.cells.size = size) (hpos : 0 < size)
    (v : Value) (n0 : Nat) (vs0 : List Value) (hs : a.eval s = v) (hown : w.ownsRow B e size v n0 vs0)
    (ad : Option Addr) (n c : Nat) (vs : List Value) (hx : a.eval x = .slice ad n c) (hn : Lies w ad n size vs) (h1 : ∀ u ∈ vs, u.oneCell' = true) (h63 : n0 + n ≤ maxLen) (hbytes : (n0 + n) * bytes ≤ 140737488355328) (hbase : B ≤ w.heap.size) (hnil : ad = none → c = 0)
    (h : ∀ v' w', w'.ownsRow B e size v' (n0 + n) (vs0 ++ vs) → w.grownBy w' v.ownBlock → K (a.put o.dst v') w') :
    if Region.wanted o (yielded ops a.tmps) = true then Oper.wp P o a w K Q else E := by
  have hw : Region.wanted o (yielded ops a.tmps) = true := by simp [Region.wanted, hgd]
  rw [if_pos hw]
  have key : ∃ v' w', (Builtin.append_ #[t, t] o.type #[v, .slice ad n c]).run P w = .ok v' w' ∧ w'.ownsRow B e size v' (n0 + n) (vs0 ++ vs) ∧ w.grownBy w' v.ownBlock := by
    cases ad with
    | none =>
      have hn0 : n = 0 := by
        rcases Nat.eq_zero_or_pos n with h0 | h0
        · exact h0
        · obtain ⟨_, _, e, _⟩ := hn.2 h0; cases e
      have hx0 : vs = [] := List.eq_nil_of_length_eq_zero (by rw [hn.1, hn0, Nat.zero_mul])
      have hc0 := hnil rfl
      subst hn0 hx0 hc0
      exact ⟨v, w, run_append_owned_none (P := P) w B t o.type e i size ht hi v n0 _ hown, by simpa using hown, ⟨rfl, rfl, rfl, Nat.le_refl _, fun _ _ _ => rfl⟩⟩
    | some ad =>
      obtain ⟨v', w', hr, h2, h3, h4⟩ := run_append_own (P := P) w B t o.type e i z size bytes ht hi hz hsize hby hzs hpos v n0 _ hown ad n c vs hn.1
        (fun j u hj => by
          have hjl : j < vs.length := by
            rcases Nat.lt_or_ge j vs.length with h | h
            · exact h
            · rw [List.getElem?_eq_none h] at hj; cases hj
          have hnp : 0 < n := by
            rcases Nat.eq_zero_or_pos n with h0 | h0
            · rw [hn.1, h0, Nat.zero_mul] at hjl; omega
            · exact h0
          obtain ⟨b, off, e, hc⟩ := hn.2 hnp
          cases e
          have hplain : (⟨b, off, none⟩ : Addr).add j = ⟨b, off + j, none⟩ := by unfold Addr.add; split <;> simp_all
          rw [hplain]; exact hc j u hj) h1 h63 hbytes hbase
      exact ⟨v', w', hr, h2, h3⟩
  obtain ⟨v', w', hr, h2, h3⟩ := key
  unfold Oper.wp execOp
  simp only [ho, resolve, invoke, builtin, Sem.run_bind, Sem.run_pure, Result.andThen_ok, List.map_toArray, List.map_cons, List.map_nil, hs, hx, hr]
  exact h v' w' h2 h3
set_option maxRecDepth 100000 in
set_option maxHeartbeats 8000000 in
theorem eventOwn (scs : List Value) (s : SchemaD) (a : Option Addr) (n c : Nat) (l : List EventD) (w : World) (hs : SchemaR w scs s) (hl : Sl 8 EventR w a n l) : Calls Try.prog 6 #[.agg scs.toArray, .slice a n c] w (TruthPost w) := by
  have HSC := Lib.hid hs
  have HAL := Lib.hid alive_callsE
  obtain ⟨LP, hLP, hsl, hle⟩ := events_pairs hl
  have HSL := Lib.hid hsl
  have HLE := Lib.hid hle
  clear hLP hsl hle hl
  have hid : s.id < 2 ^ 32 := by obtain ⟨_, _, _, _, _, _, _, _, h⟩ := hs; exact h
  have HID := Lib.hid hid
  clear hid
  obtain ⟨fa, fn, fc, rfl, hsr⟩ := hs
  have HG8 := Lib.hid (fun W h => great08 [.int .u32 (s.id : Int), .slice fa fn fc] s W h)
  have HC8 := Lib.hid (fun W h => check08 [.int .u32 (s.id : Int), .slice fa fn fc] s W h)
  have HNW := Lib.hid (fun W h => inewAny [.int .u32 (s.id : Int), .slice fa fn fc] s W h)
  have HWL := Lib.hid (fun W h0 h1 h2 h4 => well_calls [.int .u32 (s.id : Int), .slice fa fn fc] s a n c LP 30 w W h0 h1 h2 HLE.out (by decide) h4)
  have HNWG := Lib.hid (fun a n c W h => inewAny [.int .u32 (s.id : Int), .slice a n c] s W h)
  have HFL := Lib.hid hsr.2.2.2.1
  obtain ⟨R, hR⟩ : ∃ R, schemaChk s = R := ⟨_, rfl⟩
  rw [hR] at HC8 HNWG
  have HOK := Lib.hid (show R = 0 → StOK ⟨s, [], 0⟩ from fun h => StOK.start (hR.trans h) HID.out)
  clear hR hsr
  go_enter Try.func6, Try.ntmps6
  go_wp2_with fail
  obtain ⟨W0, hWW⟩ : ∃ W0 : World, W0 = w.alloc (.cells #[.int .u32 (s.id : Int), .slice fa fn fc] 25) := ⟨_, rfl⟩
  have hm : Mem w.heap.size [#[.int .u32 (s.id : Int), .slice fa fn fc]] w W0 := by rw [hWW]; exact (Mem.nil w).push (by simp) _ _
  rw [← hWW]
  clear hWW
  have M0 := Lib.hid hm
  clear hm
  refine (HAL.out _).mono ?_
  rintro e w1 ⟨rfl, hb1⟩
  have M1 := Lib.hid (M0.out.call hb1)
  clear hb1
  have s0 : w1.cell? ⟨w.heap.size, 0, none⟩ = some (.int .u32 (s.id : Int)) := M1.out.cell 0 0 rfl rfl
  have s1 : w1.cell? ⟨w.heap.size, 1, none⟩ = some (.slice fa fn fc) := M1.out.cell 0 1 rfl rfl
  go_wp2_with fail
  refine (HG8.out _ (SchemaR.stable _ _ _ _ M1.out.below HSC.out)).mono ?_
  rintro e w2 ⟨b8, rfl, hb2, _⟩
  have M2 := Lib.hid (M1.out.call hb2)
  clear s0 s1 hb2
  cases b8
  rotate_left
  · go_wp2
    go_ret
    exact ⟨rfl, M2.out.below⟩
  have s0 : w2.cell? ⟨w.heap.size, 0, none⟩ = some (.int .u32 (s.id : Int)) := M2.out.cell 0 0 rfl rfl
  have s1 : w2.cell? ⟨w.heap.size, 1, none⟩ = some (.slice fa fn fc) := M2.out.cell 0 1 rfl rfl
  go_wp2_with fail
  refine (HC8.out _ (SchemaR.stable _ _ _ _ M2.out.below HSC.out)).mono ?_
  rintro e w3 ⟨rfl, hb3⟩
  have M3 := Lib.hid (M2.out.call hb3)
  clear s0 s1 hb3
  by_cases hr0 : R = 0
  rotate_left
  · have hrb : (R != 0) = true := by simp [hr0]
    go_wp2
    go_ret
    exact ⟨rfl, M3.out.below⟩
  subst hr0
  have s0 : w3.cell? ⟨w.heap.size, 0, none⟩ = some (.int .u32 (s.id : Int)) := M3.out.cell 0 0 rfl rfl
  have s1 : w3.cell? ⟨w.heap.size, 1, none⟩ = some (.slice fa fn fc) := M3.out.cell 0 1 rfl rfl
  go_wp2_with fail
  obtain ⟨i0, hi0, hz0, hz1, hz2⟩ := info_parts infoFld
  have HI := Lib.hid hi0
  have HZ0 := Lib.hid hz0
  have HZ1 := Lib.hid hz1
  have HZ2 := Lib.hid hz2
  clear hi0 hz0 hz1 hz2
  have hfs : Sl 4 FieldR w fa fn s.fields ∧ (fa = none → fc = 0) := by
    obtain ⟨a', n', c', he, _, _, h3, h4, _⟩ := HSC.out
    simp only [List.cons.injEq, Value.slice.injEq, and_true, true_and] at he
    obtain ⟨rfl, rfl, rfl⟩ := he
    exact ⟨h4, h3⟩
  have hn8 := (HOK.out trivial).fields
  simp only [] at hn8
  have HFN := Lib.hid (show 1 ≤ fn ∧ fn ≤ 8 by rw [← hfs.1.1]; exact hn8)
  have HNIL := Lib.hid hfs.2
  have HLI := Lib.hid (fun W (h : Below w3.heap.size w3 W) => (hfs.1.below FieldR.stable (M3.out.call h).below).liesF (by decide) fldV_len (fun _ _ hr => hr.1))
  have HRM := Lib.hid (show 0 + fn ≤ maxLen ∧ (0 + fn) * 32 ≤ 140737488355328 by have := HFN.out; unfold maxLen; omega)
  have hS : ∀ W, Below w3.heap.size w3 W → W.cell? ⟨w.heap.size, 0, none⟩ = some (.int .u32 (s.id : Int)) ∧ W.cell? ⟨w.heap.size, 1, none⟩ = some (.slice fa fn fc) := fun W h => ⟨(M3.out.call h).cell 0 0 rfl rfl, (M3.out.call h).cell 0 1 rfl rfl⟩
  have HSS := Lib.hid hS
  clear hfs hn8 hS s0 s1
  go_cut [5] (fun v wx => ∃ (pb g cap : Nat), v = .pointer (some ⟨pb, 0, none⟩) ∧ Box wx pb #[.int .u32 (s.id : Int), .slice (some ⟨g, 0, none⟩) fn cap] ∧ wx.ownsRow w3.heap.size 59 4 (.slice (some ⟨g, 0, none⟩) fn cap) fn (s.fields.flatMap fldV) ∧ g ≠ pb ∧ w3.heap.size ≤ pb ∧ Below w3.heap.size w3 wx)
  case first =>
    go_region_held3 (fun W => W.cell? ⟨w.heap.size, 0, none⟩ = some (.int .u32 (s.id : Int)) ∧ W.cell? ⟨w.heap.size, 1, none⟩ = some (.slice fa fn fc))
      (first | (refine HSS.out _ ?_; exact (by repeat (first | exact Below.refl _ _ | (with_reducible refine Below.setCell ?_ (by first | exact Nat.le_refl _ | exact K5.out.size | (simp; done) | (simp; omega)) _) | (with_reducible refine Below.drew ?_) | (with_reducible refine Below.alloc ?_ (by first | exact Nat.le_refl _ | exact K5.out.size | (simp; done) | (have := K5.out.size; simp; omega) | (simp; omega)) _) | (with_reducible exact K5.out)))))
      (first
        | (refine step_append_vals (by rfl) _ _ _ (by rfl) w3.heap.size 59 i0 (.agg #[.int .u32 0, .string ByteArray.empty, .int .u8 0, .bool false]) 4 32 Try.underlying23 HI.out HZ0.out HZ1.out HZ2.out rfl (by decide) _ 0 [] (by rfl) (by first | exact World.ownsRow_lit _ #[] 0 (by simp) (by decide) rfl | exact (World.ownsRow_lit _ #[] 0 (by simp) (by decide) rfl).alloc _ | exact (lit_at (by simp) (by first | (simp; done) | (simp; omega))).drew | exact lit_at (by simp) (by first | (simp; done) | (simp; omega))) _ _ _ (s.fields.flatMap fldV) (by rfl) (HLI.out _ (by repeat (first | exact Below.refl _ _ | (with_reducible refine Below.drew ?_) | (with_reducible refine Below.alloc ?_ (by first | exact Nat.le_refl _ | (simp; done) | (simp; omega)) _)))) (flds_one s.fields) HRM.out.1 HRM.out.2 (by first | (simp; done) | (simp; omega)) HNIL.out ?_; intro v5 w5 hown5 hg5; obtain ⟨g5, c5, rfl, hg5b, hg5l⟩ := own_some (show w5.ownsRow w3.heap.size 59 4 v5 fn (s.fields.flatMap fldV) by simpa using hown5) HFN.out.1; have K5 := Lib.hid (show Below w3.heap.size w3 w5 from Below.grown (by repeat (first | exact Below.refl _ _ | (with_reducible refine Below.drew ?_) | (with_reducible refine Below.alloc ?_ (by first | exact Nat.le_refl _ | (simp; done) | (simp; omega)) _))) hg5 (by first | (simp; done) | (simp; omega)) (fun k hk => by cases hk; first | (simp; done) | (simp; omega))); have HO5 := Lib.hid hown5; first | (have Q5 := (show Box w5 (w3.heap.size + 1) #[.int .u32 0, .slice none 0 0] from Box.grown (Box.at_ _ _ _ _ (by simp)).drew (show World.grownBy _ w5 (some w3.heap.size) from hg5) (by simp)); have q0 : w5.cell? ⟨w3.heap.size + 1, 0, none⟩ = some (.int .u32 0) := Q5.cell 0 rfl; have q1 : w5.cell? ⟨w3.heap.size + 1, 1, none⟩ = some (.slice none 0 0) := Q5.cell 1 rfl; have qf : ∀ j, w5.frozen? ⟨w3.heap.size + 1, j, none⟩ = false := Q5.soft; have ql : w3.heap.size + 1 < w5.heap.size := Q5.lt; have HQ5 := Lib.hid Q5; clear Q5) | (have Q5 := (show Box w5 w3.heap.size #[.int .u32 0, .slice none 0 0] from Box.grown ((Box.at_ _ _ _ _ (by simp)).alloc _).drew (show World.grownBy _ w5 (some (w3.heap.size + 1)) from hg5) (by simp)); have q0 : w5.cell? ⟨w3.heap.size, 0, none⟩ = some (.int .u32 0) := Q5.cell 0 rfl; have q1 : w5.cell? ⟨w3.heap.size, 1, none⟩ = some (.slice none 0 0) := Q5.cell 1 rfl; have qf : ∀ j, w5.frozen? ⟨w3.heap.size, j, none⟩ = false := Q5.soft; have ql : w3.heap.size < w5.heap.size := Q5.lt; have HQ5 := Lib.hid Q5; clear Q5) | skip; clear hown5 hg5)
        | fail)
    all_goals go_wp2_with fail
    all_goals go_meet
    all_goals have HO6 := Lib.hid (show w5.ownsRow w3.heap.size 59 4 (.slice (some ⟨g5, 0, none⟩) fn c5) fn (s.fields.flatMap fldV) by simpa using HO5.out)
    · exact ⟨w5.heap.size, g5, c5, rfl, Box.new _ _ _, HO6.out.alloc _, by omega, K5.out.size, K5.out.alloc K5.out.size _⟩
    · exact box_two HO6.out HFN.out.1 HQ5.out (by omega) K5.out
    · exact box_two HO6.out HFN.out.1 HQ5.out (by omega) K5.out
  case rest =>
    obtain ⟨w4, rfl⟩ : ∃ W : World, W = wc := ⟨_, rfl⟩
    obtain ⟨pb, g, gcap, rfl, hx4, hown4, hgp, hpb, hb4⟩ := hcut
    have X4 := Lib.hid hx4
    have HO4 := Lib.hid hown4
    have M4 := Lib.hid (M3.out.call hb4)
    have HPB := Lib.hid hpb
    have HGP := Lib.hid hgp
    have HSR4 := Lib.hid (SchemaPost.reads hown4 (fieldR_of HFL.out w4) HID.out)
    have HNW2 := Lib.hid (HNWG.out (some ⟨g, 0, none⟩) fn gcap)
    have HGB := Lib.hid (ownF_above hown4 g 0 rfl)
    clear hx4 hown4 hgp hpb hb4
    have t0 : w4.cell? ⟨pb, 0, none⟩ = some (.int .u32 (s.id : Int)) := X4.out.cell 0 rfl
    have t1 : w4.cell? ⟨pb, 1, none⟩ = some (.slice (some ⟨g, 0, none⟩) fn gcap) := X4.out.cell 1 rfl
    go_wp2_with fail
    refine (HNW2.out _ HSR4.out).mono ?_
    rintro e w5 ⟨hb5, hnew⟩
    rcases hnew with ⟨h, _⟩ | ⟨_, b, bm, rfl, hbl, hbml, hst⟩
    · exact absurd rfl h
    have M5 := Lib.hid (M4.out.call hb5)
    have HBL := Lib.hid (show w.heap.size + 1 ≤ b from Nat.le_trans M4.out.room hbl)
    have HBM := Lib.hid (show w.heap.size + 1 ≤ bm from Nat.le_trans M4.out.room hbml)
    have HGA := Lib.hid (show w.heap.size + 1 ≤ g from Nat.le_trans M3.out.room HGB.out.1)
    have HX5 := Lib.hid (hst (Three g b bm) (.inr (.inl rfl)) (.inr (.inr rfl)) (fun k hk => by
      rcases hk with rfl | hk
      · exact .inl HGB.out.2
      · exact .inr hk))
    have HGN := Lib.hid (show b ≠ g ∧ bm ≠ g from ⟨fun h => by have := HGB.out.2; omega, fun h => by have := HGB.out.2; omega⟩)
    have HO5 := Lib.hid (own_below HO4.out hb5)
    have X5 := Lib.hid (X4.out.call hb5)
    clear t0 t1 hb5 hst hbl hbml
    have t1 : w5.cell? ⟨pb, 1, none⟩ = some (.slice (some ⟨g, 0, none⟩) fn gcap) := X5.out.cell 1 rfl
    have hgl : g < w5.heap.size := (HO5.out.lt g rfl).2
    have hfz : ∀ j, w5.frozen? ⟨g, j, none⟩ = false := fun j => HO5.out.frozenAt j
    have hfn0 : 0 < fn := HFN.out.1
    have hfn1 : (0 : Int) < (fn : Int) := by omega
    obtain ⟨fd, fds, hfd⟩ : ∃ fd fds, s.fields = fd :: fds := by
      cases hq : s.fields with
      | nil => have := HO5.out.1; rw [hq] at this; simp at this; omega
      | cons x y => exact ⟨x, y, rfl⟩
    have hgc : w5.cell? ⟨g, 1, none⟩ = some (.string fd.name) := by rw [HO5.out.cellAt 1 (by omega), hfd]; rfl
    clear hfd
    go_upto_region 8 with fail
    obtain ⟨W6, hWW⟩ : ∃ W6 : World, W6 = w5.setCell ⟨g, 1, none⟩ (.string ⟨#[111, 116, 104, 101, 114]⟩) := ⟨_, rfl⟩
    have hbu6 : ButS (Only g) w5.heap.size w5 W6 := by rw [hWW]; exact ButS.set1
    rw [← hWW]
    clear hWW t1 hgl hfz hfn0 hfn1 hgc
    have HX6 := Lib.hid (HX5.out.other hbu6 (fun k hk => .inl hk) (fun h => HGN.out.1 h) (fun h => HGN.out.2 h))
    have M6 := Lib.hid (M5.out.butS hbu6 (fun k hk => by rw [show k = g from hk]; exact HGA.out))
    clear hbu6
    have s0 : W6.cell? ⟨w.heap.size, 0, none⟩ = some (.int .u32 (s.id : Int)) := M6.out.cell 0 0 rfl rfl
    have s1 : W6.cell? ⟨w.heap.size, 1, none⟩ = some (.slice fa fn fc) := M6.out.cell 0 1 rfl rfl
    have HTB := Lib.hid (show ∀ k, Three g b bm k → w.heap.size + 1 ≤ k from fun k hk => by rcases hk with rfl | (rfl | rfl); exact HGA.out; exact HBL.out; exact HBM.out)
    have HTS := Lib.hid (show ∀ k, Two b bm k → Three g b bm k from fun k hk => .inr hk)
    clear HX5 X5 HO5 X4 HO4 HSR4 HNW2 HGB
    go_wp2_with fail
    refine (HWL.out _ M6.out.below (SchemaR.stable _ _ _ _ M6.out.below HSC.out) (HSL.out.below EvC.stable M6.out.below) (HOK.out trivial)).mono ?_
    rintro e w7 ⟨v7, WP, rfl, hown7, hwf, hwr, hwl, hb7⟩
    obtain ⟨a7, c7, rfl, hc71, hc72, hc73⟩ := own_slice hown7
    have M7 := Lib.hid (M6.out.call hb7)
    have HX7 := Lib.hid (HX6.out.call hb7)
    have HTW := Lib.hid (show ∀ k, Three g b bm k → k < W6.heap.size from HX6.out.slt)
    have HO7 := Lib.hid hown7
    have HEO := Lib.hid (show EvsOK w WP from WellPost.evs hwf hwr)
    have HWLN := Lib.hid hwl
    have HALL := Lib.hid (show AllOK ⟨s, [], 0⟩ (WP.map Prod.fst) by rw [hwf]; exact wellF_all _ _)
    have HXOK := Lib.hid (runS_ok (HOK.out trivial) (fun e he => by obtain ⟨q, hq, rfl⟩ := List.mem_map.1 he; exact (HEO.out q hq).1.ok) HALL.out)
    obtain ⟨X, hX⟩ : ∃ X, runS ⟨s, [], 0⟩ (WP.map Prod.fst) = X := ⟨_, rfl⟩
    rw [hX] at HXOK
    have HX := Lib.hid hX
    clear s0 s1 hb7 hown7 hwf hwr hwl hc71 hc72 hc73 HX6 hX
    go_wp2_with fail
    go_loopw [9, 10, 11, 12] (fun i v10 v11 v12 wr => ∃ (k : Nat) (x : StD), k ≤ WP.length ∧ i = .int .i64 k ∧ x.off = k ∧ AllOK x ((WP.map Prod.fst).drop k) ∧ runS x ((WP.map Prod.fst).drop k) = X ∧ StOK x ∧ ImpSt (Three g b bm) wr b bm x ∧ ButS (Three g b bm) w7.heap.size w7 wr) (fun i _ _ _ _ => WP.length - (intOf i).toNat)
    case atStart => exact ⟨0, ⟨s, [], 0⟩, Nat.zero_le _, rfl, rfl, HALL.out, HX.out, HOK.out trivial, HX7.out, ButS.refl (Nat.le_refl _)⟩
    case round =>
      obtain ⟨k, x, hk, rfl, hoff, hall, hrun, hok, hst, hbu⟩ := hrel
      have HOFF := Lib.hid hoff
      have HAK := Lib.hid hall
      have HRN := Lib.hid hrun
      have HXO := Lib.hid hok
      have HST := Lib.hid hst
      have HBU := Lib.hid hbu
      have hki : (0 : Int) ≤ (k : Int) := by omega
      clear hoff hall hrun hok hst hbu
      by_cases hlt : k < WP.length
      · skip
        have hkn : (k : Int) < (WP.length : Int) := by omega
        have HW := Lib.hid (w64E hlt (show WP.length ≤ maxLen by have := HWLN.out; unfold maxLen; omega))
        obtain ⟨qb, qoff, q, u, rfl, hbl, hx, hcl, hr, hcell⟩ := (own_evs (own_butS HO7.out HBU.out HTW.out)).at_ hlt
        have hr' : u = evV q := hr
        subst hr'
        have HQM := Lib.hid (List.mem_of_getElem? hx)
        have HDR := Lib.hid (drop_ev hx)
        have hq := HEO.out q HQM.out
        obtain ⟨qa, qn, qc, hqv⟩ := ev_slice hq.1
        obtain ⟨⟨qo, qop, qrow, ⟨qkk, qkn, qks⟩, qnm, qkind⟩, qv⟩ := q
        obtain rfl : qv = .slice qa qn qc := hqv
        have c0 := hcell 0 _ rfl
        have c1 := hcell 1 _ rfl
        have c2 := hcell 2 _ rfl
        have c3 := hcell 3 _ rfl
        have c4 := hcell 4 _ rfl
        have c5 := hcell 5 _ rfl
        have c6 := hcell 6 _ rfl
        have c7 := hcell 7 _ rfl
        simp only [Nat.add_zero] at c0
        simp only [] at HDR
        obtain ⟨QE, hQE⟩ : ∃ QE : EventD, QE = ⟨qo, qop, qrow, ⟨qkk, qkn, qks⟩, qnm, qkind⟩ := ⟨_, rfl⟩
        have HQR := Lib.hid (show EventR wr [.int .u64 (qo : Int), .int .u8 (qop : Int), .slice qa qn qc, .int .u8 qkk, .int .i64 qkn, .string qks, .string qnm, .int .u8 (qkind : Int)] QE ∧ QE.row.length ≤ 1000 by rw [hQE]; exact HEO.out.at_ (M7.out.butS HBU.out HTB.out).below HQM.out)
        rw [← hQE] at HDR
        clear hcell hr hcl hx hq hQE
        go_wp2_with fail
        have hal := HAK.out
        rw [HDR.out] at hal
        have HDO := Lib.hid hal
        have hrn := HRN.out
        rw [HDR.out] at hrn
        have HRN1 := Lib.hid (show runS (doS x QE) ((WP.map Prod.fst).drop (k + 1)) = X from hrn)
        clear hal hrn
        refine (ido_calls (Three g b bm) b bm x [.int .u64 (qo : Int), .int .u8 (qop : Int), .slice qa qn qc, .int .u8 qkk, .int .i64 qkn, .string qks, .string qnm, .int .u8 (qkind : Int)] QE _ HST.out HQR.out.1 HQR.out.2 (by have := HXO.out.few; have := HOFF.out; have := HWLN.out; omega) HXO.out.lens).mono ?_
        rintro e w8 ⟨he8, hst8, hbu8⟩
        rw [HDO.out.1] at he8
        subst he8
        have HDA := Lib.hid (doS_ok HXO.out HQR.out.1.ok HDO.out.1)
        obtain ⟨y, hy⟩ : ∃ y, doS x QE = y := ⟨_, rfl⟩
        rw [hy] at hst8 HDA HRN1
        have HDO2 := Lib.hid (show AllOK y ((WP.map Prod.fst).drop (k + 1)) by rw [← hy]; exact HDO.out.2)
        have HST8 := Lib.hid hst8
        have HBU8 := Lib.hid (HBU.out.step (hbu8.mono (fun k _ hk => HTS.out k hk)) HBU.out.size)
        clear hst8 hbu8 c0 c1 c2 c3 c4 c5 c6 c7 hy
        go_wp2_with fail
        refine (irows (Three g b bm) b bm y _ HST8.out (by have := HDA.out.1.few; have := HDA.out.2; have := HOFF.out; have := HWLN.out; omega) HDA.out.1.lens HDA.out.1.rises).mono ?_
        rintro e w9 ⟨v9, L9, rfl, hown9, hL9, hrv9, hb9⟩
        obtain ⟨a9, c9, rfl, hc91, hc92, hc93⟩ := own_slice hown9
        have HR9 := Lib.hid (RowsX.of hown9 hrv9 (fun q hq => by
          have h1 := (HDA.out.1.lens (cellsOfV q) (by rw [← hL9]; exact List.mem_map.2 ⟨q, hq, rfl⟩)).1
          unfold cellsOfV at h1
          rw [List.length_map] at h1
          exact h1))
        have HL9 := Lib.hid (show L9.length ≤ 1000 by have h := congrArg List.length hL9; rw [List.length_map] at h; have := HDA.out.1.few; have := HDA.out.2; have := HOFF.out; have := HWLN.out; omega)
        have HB9 := Lib.hid hb9
        clear hown9 hL9 hrv9 hb9 hc91 hc92 hc93
        go_wp2_with fail
        go_loopw [11] (fun i wr => ∃ j : Nat, j ≤ L9.length ∧ i = .int .i64 j ∧ RowsX wr w8.heap.size (.slice a9 L9.length c9) L9 ∧ Below w8.heap.size w8 wr) (fun i _ => L9.length - (intOf i).toNat)
        case atStart => exact ⟨0, Nat.zero_le _, rfl, HR9.out, HB9.out⟩
        case round =>
          obtain ⟨j, hj, rfl, hrx, hb⟩ := hrel
          have HRX := Lib.hid hrx
          have HBX := Lib.hid hb
          have hji : (0 : Int) ≤ (j : Int) := by omega
          clear hrx hb
          by_cases hjl : j < L9.length
          · have hjn : (j : Int) < (L9.length : Int) := by omega
            have HWJ := Lib.hid (w64E hjl (show L9.length ≤ maxLen by have := HL9.out; unfold maxLen; omega))
            obtain ⟨q, hq⟩ : ∃ q, L9[j]? = some q := ⟨_, List.getElem?_eq_getElem hjl⟩
            obtain ⟨g9, cp9, hge, hg9, _⟩ := HRX.out.1.form (by omega)
            have hgl9 := (HRX.out.1.lt g9 (by rw [hge]; rfl)).2
            simp only [Value.slice.injEq] at hge
            obtain ⟨rfl, _, rfl⟩ := hge
            have hcq : wr.cell? ⟨g9, j, none⟩ = some q.2 := by rw [HRX.out.1.cellAt j (by omega), List.getElem?_map, hq]; rfl
            obtain ⟨hq1, ⟨ys, hys⟩, hap⟩ := HRX.out.2 q (List.mem_of_getElem? hq)
            obtain ⟨g5, c5, hge, hg5, _⟩ := hys.form (by omega)
            rw [hge] at hcq hap hys
            have hap5 := hap g5 rfl
            have hgl5 := (hys.lt g5 rfl).2
            have hck := hys.cellAt 0 (by omega)
            have hvk : ys[0]? = some (ys[0]'(by have := hys.1; omega)) := List.getElem?_eq_getElem _
            rw [hvk] at hck
            generalize (ys[0]'(by have := hys.1; omega)) = vk at *
            have hfz := hys.frozenAt 0
            obtain ⟨ql, hql⟩ : ∃ ql, q.1.length = ql := ⟨_, rfl⟩
            rw [hql] at hcq hq1
            have hql0 : 0 < ql := hq1
            have hql1 : (0 : Int) < (ql : Int) := by omega
            obtain ⟨W2, hW2⟩ : ∃ W2 : World, W2 = wr.setCell ⟨g5, 0, none⟩ (.iface 9 (.string ⟨#[111, 116, 104, 101, 114]⟩)) := ⟨_, rfl⟩
            have HW2 := Lib.hid (show RowsX W2 w8.heap.size (.slice (some ⟨g9, 0, none⟩) L9.length c9) L9 by rw [hW2]; exact HRX.out.set (g := g5) hap5 0 _)
            have HB2 := Lib.hid (show Below w8.heap.size w8 W2 by rw [hW2]; exact HBX.out.setCell (p := ⟨g5, 0, none⟩) hg5 _)
            have HWE := Lib.hid hW2
            clear hW2 hys hvk hq hap hap5 hge hql hq1
            go_wp2
            rw [← HWE.out]
            go_roundw
            case rel => exact ⟨j + 1, hjl, by first | exact numE HWJ.out | exact numE1, HW2.out, HB2.out⟩
            case measure =>
              try rw [HWJ.out]
              exact measE1 hjl
          · have hjn : (L9.length : Int) ≤ (j : Int) := by omega
            have HBY := Lib.hid HBX.out
            clear HRX HBX HR9 HB9
            go_wp2_with fail
            refine (ischema (Three g b bm) b bm y _ (HST8.out.call HBY.out) (by have := HDA.out.1.fields; omega)).mono ?_
            rintro e w10 ⟨a10, n10, c10, rfl, ho10, hf10, hi10, hb10⟩
            have hfd : ∀ W : World, (Instr.field 25 (.agg #[.int .u32 (y.s.id : Int), .slice a10 n10 c10]) 1).run Try.prog W = .ok (.slice a10 n10 c10) W := fun _ => by kernel_rfl
            obtain ⟨g10, cp10, hge, hg10, hgl10⟩ := own_some ho10 (by have h := ho10.1; have := HDA.out.1.fields; rw [flat_len fldV_len] at h; omega)
            simp only [Value.slice.injEq] at hge
            obtain ⟨rfl, _, rfl⟩ := hge
            have hn10 : 0 < n10 := by have h := ho10.1; have := HDA.out.1.fields; rw [flat_len fldV_len] at h; omega
            have hn10i : (0 : Int) < (n10 : Int) := by omega
            obtain ⟨fd, fds, hfd⟩ : ∃ fd fds, y.s.fields = fd :: fds := by
              cases hq : y.s.fields with
              | nil => have := HDA.out.1.fields; rw [hq] at this; simp at this
              | cons x y => exact ⟨x, y, rfl⟩
            have hgc : w10.cell? ⟨g10, 1, none⟩ = some (.string fd.name) := by rw [ho10.cellAt 1 (by omega), hfd]; rfl
            have hfz := ho10.frozenAt 1
            have HB10 := Lib.hid (below_step HBY.out hb10)
            have HGE := Lib.hid (show w8.heap.size ≤ g10 from Nat.le_trans HBY.out.size hg10)
            clear ho10 hf10 hi10 hb10 hg10 hfd
            go_upto_region 11 with fail
            obtain ⟨W11, hWW⟩ : ∃ W11 : World, W11 = w10.setCell ⟨g10, 1, none⟩ (.string ⟨#[101, 108, 115, 101]⟩) := ⟨_, rfl⟩
            have hb11 : Below w8.heap.size w8 W11 := by rw [hWW]; exact HB10.out.setCell (p := ⟨g10, 1, none⟩) HGE.out _
            rw [← hWW]
            clear hWW hgc hfz
            have HST11 := Lib.hid (HST8.out.call hb11)
            have HBU11 := Lib.hid (HBU8.out.call hb11)
            clear hb11
            go_wp2
            go_roundw
            case rel => exact ⟨k + 1, y, hlt, by first | exact numE HW.out | exact numE1, HDA.out.2.trans (congrArg (· + 1) HOFF.out), HDO2.out, HRN1.out, HDA.out.1, HST11.out, HBU11.out⟩
            case measure =>
              try rw [HW.out]
              exact measE1 hlt
      · obtain rfl : k = WP.length := by omega
        have hxx := HRN.out
        rw [drop_end] at hxx
        have hxx' : x = X := hxx
        subst hxx'
        have MR := Lib.hid (M7.out.butS HBU.out HTB.out)
        have HSE := Lib.hid (own_evs (own_butS HO7.out HBU.out HTW.out))
        have s0 : wr.cell? ⟨w.heap.size, 0, none⟩ = some (.int .u32 (s.id : Int)) := MR.out.cell 0 0 rfl rfl
        have s1 : wr.cell? ⟨w.heap.size, 1, none⟩ = some (.slice fa fn fc) := MR.out.cell 0 1 rfl rfl
        have hcv : IntKind.u64.wrap ((WP.length : Nat) : Int) = ((WP.length : Nat) : Int) := IntWalk.u64_in _ (by have := HWLN.out; omega)
        clear hxx
        go_wp2_with fail
        refine (behind_calls [.int .u32 (s.id : Int), .slice fa fn fc] s a7 WP.length c7 WP x w _ MR.out.below (SchemaR.stable _ _ _ _ MR.out.below HSC.out) HSE.out HEO.out (by have := HWLN.out; omega) (HOK.out trivial) HALL.out HX.out).mono ?_
        rintro e w8 ⟨p, rfl, hpl, hrs, hb8⟩
        have HST8 := Lib.hid (HST.out.call hb8)
        have M8 := Lib.hid (MR.out.call hb8)
        obtain ⟨ra, rn, rc, la, ln, lc, P, hrb⟩ := hrs
        have HRB := Lib.hid hrb
        have HLL := Lib.hid (show x.l.length ≤ 1000 by have := HXO.out.few; have := HOFF.out; have := HWLN.out; omega)
        have HRW := Lib.hid (fun W (h : Below w8.heap.size w8 W) => irows (Three g b bm) b bm x W (HST8.out.call h) HLL.out HXO.out.lens HXO.out.rises)
        have HSCH := Lib.hid (fun W (h : Below w8.heap.size w8 W) => ischema (Three g b bm) b bm x W (HST8.out.call h) (by have := HXO.out.fields; omega))
        have hS : ∀ W, Below w8.heap.size w8 W → W.cell? ⟨p, 0, none⟩ = some (.int .u32 (x.s.id : Int)) ∧ W.cell? ⟨p, 1, none⟩ = some (.slice ra rn rc) ∧ W.cell? ⟨p, 2, none⟩ = some (.slice la ln lc) := fun W h => ⟨(HRB.out.box.call h).cell 0 rfl, (HRB.out.box.call h).cell 1 rfl, (HRB.out.box.call h).cell 2 rfl⟩
        have HSS := Lib.hid hS
        clear hS hrb hb8 hpl s0 s1
        go_upto_region 21 with fail
        go_region_held3 (fun W => W.cell? ⟨p, 0, none⟩ = some (.int .u32 (x.s.id : Int)) ∧ W.cell? ⟨p, 1, none⟩ = some (.slice ra rn rc) ∧ W.cell? ⟨p, 2, none⟩ = some (.slice la ln lc))
          (first | exact HSS.out _ K16.out | exact HSS.out _ K15.out | exact HSS.out _ K14.out | exact HSS.out _ K12.out | exact HSS.out _ (Below.refl _ _).drew)
          (first
            | (go_at_call 21; (with_reducible refine (HRW.out _ (Below.refl _ _).drew).mono ?_); rintro e w12 ⟨v12, L12, rfl, hown12, hL12, hrv12, hb12⟩; obtain ⟨a12, c12, rfl, hc12⟩ := own_slice hown12; have K12 := Lib.hid (below_step (W0 := w8) (Below.refl _ _).drew hb12); have O12 := Lib.hid hown12; have V12 := Lib.hid hrv12; have HL12 := Lib.hid hL12; clear hown12 hL12 hrv12 hb12 hc12)
            | (go_at_call 20; (with_reducible refine (is_ref HXO.out HLL.out _ O12.out V12.out HL12.out HRB.out.rows (HRB.out.call K12.out).far.now.2.1 (HRB.out.call K12.out).far.now.2.2).mono ?_); rintro e w14 ⟨rfl, hb14⟩; have K14 := Lib.hid (below_step (W0 := w8) K12.out hb14); clear hb14)
            | (go_at_call 24; (with_reducible refine (HSCH.out _ K14.out).mono ?_); rintro e w15 ⟨a15, n15, c15, rfl, ho15, hf15, hi15, hb15⟩; have K15 := Lib.hid (below_step (W0 := w8) K14.out hb15); have S15 := Lib.hid (SchemaPost.reads ho15 hf15 hi15); clear ho15 hf15 hi15 hb15)
            | (go_at_call 27; (with_reducible refine (same_calls [.int .u32 (x.s.id : Int), .slice a15 n15 c15] [.int .u32 (x.s.id : Int), .slice ra rn rc] x.s _ S15.out (HRB.out.call K15.out).schema).mono ?_); rintro e w16 ⟨rfl, hb16⟩; have K16 := Lib.hid (below_step (W0 := w8) K15.out hb16); clear hb16)
            | fail)
        all_goals go_wp2_with fail
        all_goals go_ret
        all_goals exact ⟨rfl, (M8.out.call K16.out).below⟩
end Go.Proofs.Ytlclhinianamhaa
