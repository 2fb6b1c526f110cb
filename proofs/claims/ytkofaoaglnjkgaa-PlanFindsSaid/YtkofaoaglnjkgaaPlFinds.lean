/- The law PlanFinds. -/
import Derived.Test.YtkofaoaglnjkgaaPlAlivem
import Derived.Test.YtkofaoaglnjkgaaPlFindsP
import Derived.Test.YtkofaoaglnjkgaaPlEval
import Derived.Test.YtkofaoaglnjkgaaPl9Check
import Derived.Test.YtkofaoaglnjkgaaAdd08
import Derived.Test.YtkofaoaglnjkgaaCellRowm
import Derived.Test.YtkofaoaglnjkgaaPrRowFit
import Derived.Test.YtkofaoaglnjkgaaPrRefStats
import Derived.Test.YtkofaoaglnjkgaaPrGreat
import Derived.Test.YtkofaoaglnjkgaaPlApart
import Derived.Deep.CutBlock
import Derived.Deep.RegionLaw
namespace Go.Proofs.Ytkofaoaglnjkgaa
open Go.RowKit Go.Deep
set_option linter.unusedVariables false
set_option linter.unusedSimpArgs false

theorem infoRow16 : (Try.prog.info? 22).map (fun i => (i.zero, i.size, i.bytes)) = some (some (.slice none 0 0), 1, 24) := by kernel_rfl
theorem infoSch16 : (Try.prog.info? 37).map (fun i => (i.zero, i.size, i.bytes)) = some (some (.agg #[.int .u32 0, .slice none 0 0]), 2, 32) := by kernel_rfl
theorem fix_good16 {xs : List CellD} (h : ∀ x ∈ xs, CellOK x) : GoodCol (xs.map fix) := by
  intro c hc
  obtain ⟨x, hx, rfl⟩ := List.mem_map.1 hc
  refine ⟨fix_fix x, (fix_kind x (h x hx).2.1.1).1, ?_⟩
  unfold fix; split
  · exact h x hx
  · exact cellOK0
theorem statsAt_len16 (n : Nat) (rows : List (List CellD)) : (statsAt n rows).length = n := by unfold statsAt; simp
theorem liftRow_size {fs ts : List FieldD} {r : List CellD} (h : GoodCol r) : ∀ c ∈ liftRow fs ts r, c.s.size ≤ 100000 ∧ CellOK c := by
  intro c hc
  unfold liftRow at hc
  obtain ⟨y, _, rfl⟩ := List.mem_map.1 hc
  unfold liftCell
  split
  · exact ⟨by decide, cellOK0⟩
  · cases hg : r[(placeI fs y.id).toNat]? with
    | none => exact ⟨by decide, cellOK0⟩
    | some c =>
      have hm := List.mem_of_getElem? hg
      exact ⟨by have := h.size c hm; show c.s.size ≤ 100000; omega, (h c hm).2.2⟩
set_option maxRecDepth 100000 in
set_option maxHeartbeats 6000000 in
theorem planFinds_calls (cf : List Value) (f : SchemaD) (na : Option Addr) (nn nc : Nat) (names : List ByteArray) (ra : Option Addr) (rn rc : Nat) (rows : List (List CellD)) (cp : List Value) (dp : Nat × PredD) (w : World)
    (hf : SchemaR w cf f) (hns : Sl 1 StrR w na nn names) (hrs : Sl 1 (SlR 3 CellR) w ra rn rows) (hp : PredR dp.1 w cp dp.2) :
    Calls Try.prog 4 #[.agg cf.toArray, .slice na nn nc, .slice ra rn rc, .agg cp.toArray] w (TruePost w) := by
  obtain ⟨d, p⟩ := dp
  simp only [] at hp
  have HF := Lib.hid hf
  have HNS := Lib.hid hns
  have HRS := Lib.hid hrs
  have HP := Lib.hid hp
  obtain ⟨fa, fn, fc, rfl, hf1, hf2, hf3, hfs, hfid⟩ := hf
  have HFS := Lib.hid hfs
  have HFL := Lib.hid hfs.1
  have HF3 := Lib.hid hf3
  unfold maxLen at hf2
  obtain ⟨ka, kn, kc, rfl⟩ := hp.shape
  obtain ⟨i0, hi0, hz0, hz1, hz2⟩ := info_parts infoRow16
  have HI := Lib.hid hi0
  have HZ0 := Lib.hid hz0
  have HZ1 := Lib.hid hz1
  have HZ2 := Lib.hid hz2
  clear hi0 hz0 hz1 hz2
  obtain ⟨j0, hi0, hz0, hz1, hz2⟩ := info_parts infoStat
  have HJ := Lib.hid hi0
  have HY0 := Lib.hid hz0
  have HY1 := Lib.hid hz1
  have HY2 := Lib.hid hz2
  clear hi0 hz0 hz1 hz2
  obtain ⟨l0, hi0, hz0, hz1, hz2⟩ := info_parts infoSch16
  have HL := Lib.hid hi0
  have HX0 := Lib.hid hz0
  have HX1 := Lib.hid hz1
  have HX2 := Lib.hid hz2
  clear hns hrs hp hf3 hfs hi0 hz0 hz1 hz2
  have HG8 := Lib.hid great08
  unfold Great08Post at HG8
  have hgp := great_calls d p
  unfold Great9Post at hgp
  have HGP := Lib.hid hgp
  have hck := fun W (h : SchemaR W [.int .u32 (f.id : Int), .slice fa fn fc] f) => check08 _ f W h
  have hclen := schemaChk_len (s := f)
  have HCK := Lib.hid hck
  have HCLEN := Lib.hid hclen
  clear hgp hck hclen
  go_enter Try.func4, Try.ntmps4
  go_wp2_with fail
  obtain ⟨W0, hWW⟩ : ∃ W0 : World, W0 = ((w.alloc (.cells #[.int .u32 (f.id : Int), .slice fa fn fc] 37)).alloc (.cells #[.int .u8 (p.op : Int), .int .u32 (p.field : Int), .int .u8 p.value.kind, .int .i64 p.value.n, .string p.value.s, .slice ka kn kc] 42)) := ⟨_, rfl⟩
  have hm : Mem w.heap.size [#[.int .u32 (f.id : Int), .slice fa fn fc], #[.int .u8 (p.op : Int), .int .u32 (p.field : Int), .int .u8 p.value.kind, .int .i64 p.value.n, .string p.value.s, .slice ka kn kc]] w W0 := by rw [hWW]; exact (((Mem.nil w).push (by simp) #[.int .u32 (f.id : Int), .slice fa fn fc] 37).push (by simp) #[.int .u8 (p.op : Int), .int .u32 (p.field : Int), .int .u8 p.value.kind, .int .i64 p.value.n, .string p.value.s, .slice ka kn kc] 42)
  rw [← hWW]
  clear hWW
  have M0 := Lib.hid hm
  clear hm
  refine (alive16_calls _).mono ?_
  rintro e w1 ⟨rfl, hb⟩
  have M1 := Lib.hid (M0.out.call hb)
  clear hb
  have q0_0 : w1.cell? ⟨w.heap.size, 0, none⟩ = some (.int .u32 (f.id : Int)) := M1.out.cell 0 0 rfl rfl
  have q0_1 : w1.cell? ⟨w.heap.size, 1, none⟩ = some (.slice fa fn fc) := M1.out.cell 0 1 rfl rfl
  have z0 : w.heap.size < w1.heap.size := M1.out.lt 0 (by simp)
  have z1 : w.heap.size + 1 < w1.heap.size := M1.out.lt 1 (by simp)
  go_wp2_with fail
  refine (HG8.out _ f _ (SchemaR.stable _ _ _ _ M1.out.below HF.out)).mono ?_
  rintro e w2 ⟨b8, rfl, hb, hg8⟩
  have M2 := Lib.hid (M1.out.call hb)
  clear hb q0_0 q0_1 z0 z1
  cases b8 with
  | true =>
    go_wp2
    go_ret
    exact ⟨rfl, M2.out.below⟩
  | false =>
    clear hg8
    have q0_0 : w2.cell? ⟨w.heap.size, 0, none⟩ = some (.int .u32 (f.id : Int)) := M2.out.cell 0 0 rfl rfl
    have q0_1 : w2.cell? ⟨w.heap.size, 1, none⟩ = some (.slice fa fn fc) := M2.out.cell 0 1 rfl rfl
    have z0 : w.heap.size < w2.heap.size := M2.out.lt 0 (by simp)
    have z1 : w.heap.size + 1 < w2.heap.size := M2.out.lt 1 (by simp)
    generalize schemaChk f = ce at *
    go_wp2_with fail
    refine (HCK.out _ (SchemaR.stable _ _ _ _ M2.out.below HF.out)).mono ?_
    rintro e w3 ⟨rfl, hb⟩
    have M3 := Lib.hid (M2.out.call hb)
    clear hb q0_0 q0_1 z0 z1
    by_cases hce : ce = 0
    · subst hce
      have hf8 : fn ≤ 8 := by have := HCLEN.out rfl; have := HFL.out; omega
      have q1_0 : w3.cell? ⟨w.heap.size + 1, 0, none⟩ = some (.int .u8 (p.op : Int)) := M3.out.cell 1 0 rfl rfl
      have q1_1 : w3.cell? ⟨w.heap.size + 1, 1, none⟩ = some (.int .u32 (p.field : Int)) := M3.out.cell 1 1 rfl rfl
      have q1_2 : w3.cell? ⟨w.heap.size + 1, 2, none⟩ = some (.int .u8 p.value.kind) := M3.out.cell 1 2 rfl rfl
      have q1_3 : w3.cell? ⟨w.heap.size + 1, 3, none⟩ = some (.int .i64 p.value.n) := M3.out.cell 1 3 rfl rfl
      have q1_4 : w3.cell? ⟨w.heap.size + 1, 4, none⟩ = some (.string p.value.s) := M3.out.cell 1 4 rfl rfl
      have q1_5 : w3.cell? ⟨w.heap.size + 1, 5, none⟩ = some (.slice ka kn kc) := M3.out.cell 1 5 rfl rfl
      have z0 : w.heap.size < w3.heap.size := M3.out.lt 0 (by simp)
      have z1 : w.heap.size + 1 < w3.heap.size := M3.out.lt 1 (by simp)
      go_wp2_with fail
      refine (HGP.out _ _ (PredR.stable d _ _ _ _ M3.out.below HP.out)).mono ?_
      rintro e w4 ⟨hgr, hb⟩
      have M4 := Lib.hid (M3.out.call hb)
      clear hb q1_0 q1_1 q1_2 q1_3 q1_4 q1_5 z0 z1
      rcases hgr with rfl | ⟨rfl, _⟩
      · go_wp2
        go_ret
        exact ⟨rfl, M4.out.below⟩
      · have q0_0 : w4.cell? ⟨w.heap.size, 0, none⟩ = some (.int .u32 (f.id : Int)) := M4.out.cell 0 0 rfl rfl
        have q0_1 : w4.cell? ⟨w.heap.size, 1, none⟩ = some (.slice fa fn fc) := M4.out.cell 0 1 rfl rfl
        have z0 : w.heap.size < w4.heap.size := M4.out.lt 0 (by simp)
        have z1 : w.heap.size + 1 < w4.heap.size := M4.out.lt 1 (by simp)
        go_upto_block 0 with fail
        obtain ⟨W5, hWW⟩ : ∃ W : World, W = w4.alloc (.cells #[.int .u32 (f.id : Int), .slice fa fn fc] 37) := ⟨_, rfl⟩
        have hm5 := M4.out.alloc (.cells #[.int .u32 (f.id : Int), .slice fa fn fc] 37)
        have hx5 : Box W5 w4.heap.size #[.int .u32 (f.id : Int), .slice fa fn fc] := by rw [hWW]; exact Box.new _ _ _
        have hb5 : Below w4.heap.size w4 W5 := by rw [hWW]; exact (Below.refl _ _).alloc (Nat.le_refl _) _
        rw [← hWW] at hm5 ⊢
        clear hWW q0_0 q0_1 z0 z1
        have XS5 := Lib.hid hx5
        have HB5 := Lib.hid hb5
        clear hm5 hx5 hb5
        have HN4 := Lib.hid (HNS.out.below StrR.stable M4.out.below)
        go_cut [] (fun wx => ∃ (s : SchemaD) (sa : Option Addr) (sn sc : Nat), Box wx w4.heap.size #[.int .u32 (s.id : Int), .slice sa sn sc] ∧ SchemaR wx [.int .u32 (s.id : Int), .slice sa sn sc] s ∧ s.fields.length ≤ 16 ∧ Below w4.heap.size w4 wx)
        case first =>
          go_wp2_with fail
          go_loopw [10] (fun i wr => ∃ (k : Nat) (s : SchemaD) (sa : Option Addr) (sn sc : Nat), k ≤ nn ∧ k ≤ 8 ∧ i = .int .i64 (k : Int) ∧ Box wr w4.heap.size #[.int .u32 (s.id : Int), .slice sa sn sc] ∧ SchemaR wr [.int .u32 (s.id : Int), .slice sa sn sc] s ∧ s.fields.length ≤ 8 + k ∧ Below w4.heap.size w4 wr) (fun i _ => nn - (intOf i).toNat)
          case atStart => exact ⟨0, f, fa, fn, fc, Nat.zero_le _, Nat.zero_le _, rfl, XS5.out, SchemaR.stable _ _ _ _ (M4.out.below.trans (HB5.out.mono M4.out.below.size)) HF.out, by have := HFL.out; omega, HB5.out⟩
          case round =>
            obtain ⟨k, s, sa, sn, sc, hk, hk8, rfl, hxs, hsr, hsl, hb⟩ := hrel
            have XS := Lib.hid hxs
            have HS := Lib.hid hsr
            have HB := Lib.hid hb
            have MR := Lib.hid (M4.out.call hb)
            have HSLN := Lib.hid hsl
            clear hxs hsr hb hsl
            have hki : (0 : Int) ≤ (k : Int) := by omega
            by_cases hlt : k < nn
            · have hkn : (k : Int) < (nn : Int) := by omega
              by_cases hlt8 : k < 8
              · have hk8i : (k : Int) < 8 := by omega
                obtain ⟨b, off, nm, v, rfl, hbl, hx, hr, hcell⟩ := HN4.out.at1 hlt
                obtain ⟨hv, hnm⟩ := hr
                cases hv
                have HNM := Lib.hid hnm
                unfold maxLen at hnm
                have e0 := (HB.out.cell (p := ⟨b, off + k, none⟩) hbl).trans hcell
                have hbw : b < wr.heap.size := by have := HB.out.size; omega
                clear hcell hx
                by_cases h500 : 500 < nm.size
                · have h500i : (500 : Int) < (nm.size : Int) := by omega
                  go_wp2
                  go_ret
                  exact ⟨rfl, MR.out.below⟩
                · have h500i : (nm.size : Int) ≤ 500 := by omega
                  have hS : ∀ W, Below wr.heap.size wr W → W.cell? ⟨w4.heap.size, 0, none⟩ = some (.int .u32 (s.id : Int)) ∧ W.cell? ⟨w4.heap.size, 1, none⟩ = some (.slice sa sn sc) ∧ W.cell? ⟨b, off + k, none⟩ = some (.string nm) := fun W h => ⟨(XS.out.call h).cell 0 rfl, (XS.out.call h).cell 1 rfl, (h.cell (p := ⟨b, off + k, none⟩) hbw).trans e0⟩
                  have HSS := Lib.hid hS
                  obtain ⟨q, hq⟩ : ∃ q : Int, (k : Int).tmod 3 = q := ⟨_, rfl⟩
                  have hq0 : 0 ≤ q ∧ q ≤ 2 := by rw [← hq, Int.tmod_eq_emod_of_nonneg hki]; omega
                  have hqw : IntKind.i64.wrap q = q := IntWalk.i64_in _ (by omega)
                  have hqw1 : IntKind.i64.wrap (1 + q) = 1 + q := IntWalk.i64_in _ (by omega)
                  have hadd := fun (W : World) (h : Below wr.heap.size wr W) => add08 _ s nm (1 + q) W (SchemaR.stable _ _ _ _ h HS.out) HNM.out (by omega)
                  have hs2 : (addS s nm (1 + q)).fields.length ≤ s.fields.length + 1 := by unfold addS; split <;> simp
                  have HS2 := Lib.hid (show (addS s nm (1 + q)).fields.length ≤ 8 + (k + 1) by have := HSLN.out; omega)
                  generalize addS s nm (1 + q) = s2 at *
                  generalize addE s nm (1 + q) = ae at *
                  unfold AddPost at hadd
                  have HADD := Lib.hid hadd
                  have hbs : w4.heap.size < wr.heap.size := XS.out.lt
                  clear hS hadd hs2 hq0
                  go_upto_region 11 with fail
                  clear e0
                  go_cut [11, 12] (fun v u wx => ∃ (b5 : Nat) (a7 : Option Addr) (n7 c7 : Nat), v = .pointer (some ⟨b5, 0, none⟩) ∧ u = .int .i64 ae ∧ Below wr.heap.size wr wx ∧ Box wx b5 #[.int .u32 (s2.id : Int), .slice a7 n7 c7] ∧ SchemaR wx [.int .u32 (s2.id : Int), .slice a7 n7 c7] s2 ∧ (∀ b off, a7 = some ⟨b, off, none⟩ → wr.heap.size ≤ b) ∧ wr.heap.size ≤ b5)
                  case first =>
                    go_region_held3 (fun W => W.cell? ⟨w4.heap.size, 0, none⟩ = some (.int .u32 (s.id : Int)) ∧ W.cell? ⟨w4.heap.size, 1, none⟩ = some (.slice sa sn sc) ∧ W.cell? ⟨b, off + k, none⟩ = some (.string nm))
                      (first | (refine HSS.out _ ?_; exact (by repeat (first | exact Below.refl _ _ | (with_reducible refine Below.drew ?_) | (with_reducible refine Below.alloc ?_ (by first | exact Nat.le_refl _ | exact K7.out.size | (simp; done) | (have := K7.out.size; simp; omega) | (simp; omega)) _) | (with_reducible refine Below.setCell ?_ (by first | exact Nat.le_refl _ | exact K7.out.size | (simp; done) | (have := K7.out.size; simp; omega) | (simp; omega)) _) | (with_reducible exact K7.out)))))
                      (first
                        | (go_at_call 14; (with_reducible refine (HADD.out _ (by repeat (first | exact Below.refl _ _ | (with_reducible refine Below.drew ?_) | (with_reducible refine Below.alloc ?_ (by first | exact Nat.le_refl _ | exact K7.out.size | (simp; done) | (have := K7.out.size; simp; omega) | (simp; omega)) _) | (with_reducible refine Below.setCell ?_ (by first | exact Nat.le_refl _ | exact K7.out.size | (simp; done) | (have := K7.out.size; simp; omega) | (simp; omega)) _) | (with_reducible exact K7.out)))).mono ?_); rintro e w7 ⟨a7, n7, c7, rfl, hs7, hn7, hc7, hz7, hi7, hab7, hp7⟩; have k7 := below_step (W0 := wr) (by repeat (first | exact Below.refl _ _ | (with_reducible refine Below.drew ?_) | (with_reducible refine Below.alloc ?_ (by first | exact Nat.le_refl _ | (simp; done) | (simp; omega)) _))) hp7; have K7 := Lib.hid k7; have HS7 := Lib.hid hs7; have HN7 := Lib.hid (And.intro hn7 (And.intro hc7 (And.intro hz7 hi7))); have hab7' : ∀ b off, a7 = some ⟨b, off, none⟩ → wr.heap.size ≤ b := (fun b off h => by have := hab7 b off h; simp at this; omega); have HAB7 := Lib.hid hab7'; have HABS7 := Lib.hid hab7; (first | (have hz := Box.call (b := wr.heap.size) (cs := #[.int .u32 0, .slice none 0 0]) (by (repeat (first | (with_reducible exact Box.at_ _ _ _ _ (by first | rfl | (simp; done) | fail)) | (with_reducible refine Box.drew ?_) | (with_reducible refine Box.alloc ?_ _))); first | done | fail) hp7; have HZ7 := Lib.hid hz; have zz0 : w7.cell? ⟨wr.heap.size, 0, none⟩ = some (.int .u32 0) := hz.cell 0 rfl; have zz1 : w7.cell? ⟨wr.heap.size, 1, none⟩ = some (.slice none 0 0) := hz.cell 1 rfl; have zzs : ∀ j, w7.frozen? ⟨wr.heap.size, j, none⟩ = false := hz.soft; have zzl : wr.heap.size < w7.heap.size := hz.lt; clear hz) | skip); clear hp7 k7 hs7 hab7 hab7' hn7 hc7 hz7 hi7)
                        | fail)
                    all_goals go_wp2_with fail
                    all_goals go_meet
                    all_goals first
                      | exact ⟨wr.heap.size, a7, n7, c7, rfl, rfl, (by first | exact (K7.out.setCell (Nat.le_refl _) _).setCell (Nat.le_refl _) _ | exact ((K7.out.setCell (Nat.le_refl _) _).setCell (Nat.le_refl _) _).drew), (by have := (HZ7.out.set (j := 0) (by simp) (.int .u32 (s2.id : Int))).set (j := 1) (by simp) (.slice a7 n7 c7); simpa using this), ⟨a7, n7, c7, rfl, HN7.out.1, HN7.out.2.1, HN7.out.2.2.1, (HS7.out.setFarF (fun _ _ _ _ h => h) (fun b off e => by have := HABS7.out b off e; simp at this; simp; omega) _).setFarF (fun _ _ _ _ h => h) (fun b off e => by have := HABS7.out b off e; simp at this; simp; omega) _, HN7.out.2.2.2⟩, HAB7.out, Nat.le_refl _⟩
                      | exact ⟨w7.heap.size, a7, n7, c7, rfl, rfl, K7.out.alloc K7.out.size _, Box.at_ _ _ _ _ rfl, ⟨a7, n7, c7, rfl, HN7.out.1, HN7.out.2.1, HN7.out.2.2.1, HS7.out.alloc FieldR.stable _, HN7.out.2.2.2⟩, HAB7.out, K7.out.size⟩
                      | fail
                  case rest =>
                    obtain ⟨w7, rfl⟩ : ∃ W : World, W = wc := ⟨_, rfl⟩
                    obtain ⟨b5, a7, n7, c7, rfl, rfl, hb7, hx7, hs7, hab7, hb57⟩ := hcut
                    have HB7 := Lib.hid (HB.out.trans (hb7.mono HB.out.size))
                    have XS7 := Lib.hid (XS.out.call hb7)
                    have HSS7 := Lib.hid (SchemaR.stable _ _ _ _ hb7 HS.out)
                    have X7 := Lib.hid hx7
                    have HS7 := Lib.hid hs7
                    have HAB7 := Lib.hid hab7
                    clear hb7 hx7 hs7 hab7
                    by_cases hae : ae = 0
                    · subst hae
                      have x0 : w7.cell? ⟨b5, 0, none⟩ = some (.int .u32 (s2.id : Int)) := X7.out.cell 0 rfl
                      have x1 : w7.cell? ⟨b5, 1, none⟩ = some (.slice a7 n7 c7) := X7.out.cell 1 rfl
                      have y0 : w7.cell? ⟨w4.heap.size, 0, none⟩ = some (.int .u32 (s.id : Int)) := XS7.out.cell 0 rfl
                      have y1 : w7.cell? ⟨w4.heap.size, 1, none⟩ = some (.slice sa sn sc) := XS7.out.cell 1 rfl
                      have ys : ∀ j, w7.frozen? ⟨w4.heap.size, j, none⟩ = false := XS7.out.soft
                      have zl := XS7.out.lt
                      have hx8 := (XS7.out.set (j := 0) (by simp) (.int .u32 (s2.id : Int))).set (j := 1) (by simp) (.slice a7 n7 c7)
                      have hb8 := (HB7.out.setCell (p := ⟨w4.heap.size, 0, none⟩) (Nat.le_refl _) (.int .u32 (s2.id : Int))).setCell (p := ⟨w4.heap.size, 1, none⟩) (Nat.le_refl _) (.slice a7 n7 c7)
                      have hs8 : SchemaR ((w7.setCell ⟨w4.heap.size, 0, none⟩ (.int .u32 (s2.id : Int))).setCell ⟨w4.heap.size, 1, none⟩ (.slice a7 n7 c7)) [.int .u32 (s2.id : Int), .slice a7 n7 c7] s2 := by
                        obtain ⟨a', n', c', he, h1, h2, h3, h4, h5⟩ := HS7.out
                        simp only [List.cons.injEq, Value.slice.injEq, and_true, true_and] at he
                        obtain ⟨rfl, rfl, rfl⟩ := he
                        exact ⟨_, _, _, rfl, h1, h2, h3, (h4.setFarF (fun _ _ _ _ h => h) (fun b off e => by have := HAB7.out b off e; simp; omega) _).setFarF (fun _ _ _ _ h => h) (fun b off e => by have := HAB7.out b off e; simp; omega) _, h5⟩
                      have HX8 := Lib.hid hx8
                      have HB8 := Lib.hid hb8
                      have HS8 := Lib.hid hs8
                      clear hx8 hb8 hs8
                      go_wp2
                      go_roundw
                      case rel => exact ⟨k + 1, s2, a7, n7, c7, by omega, by omega, by go_num, (by have := HX8.out; simpa using this), HS8.out, HS2.out, HB8.out⟩
                      case measure => simp [intOf] <;> omega
                    · have haeb : (ae == 0) = false := by rw [beq_eq_false_iff_ne]; exact hae
                      go_wp2
                      go_roundw
                      case rel => exact ⟨k + 1, s, sa, sn, sc, by omega, by omega, by go_num, XS7.out, HSS7.out, by have := HSLN.out; omega, HB7.out⟩
                      case measure => simp [intOf] <;> omega
              · obtain rfl : k = 8 := by omega
                go_wp2
                go_meet
                case rel => exact ⟨s, sa, sn, sc, XS.out, HS.out, by have := HSLN.out; omega, HB.out⟩
            · have hkn : (nn : Int) ≤ (k : Int) := by omega
              go_wp2
              go_meet
              case rel => exact ⟨s, sa, sn, sc, XS.out, HS.out, by have := HSLN.out; omega, HB.out⟩
        case rest =>
          obtain ⟨w5, rfl⟩ : ∃ W : World, W = wc := ⟨_, rfl⟩
          obtain ⟨s, sa, sn, sc, hxs, hsr, hsl, hb⟩ := hcut
          have M5 := Lib.hid (M4.out.call hb)
          have XS5 := Lib.hid hxs
          have HS5 := Lib.hid hsr
          clear hxs hsr hb HB5 HN4
          have q1_0 : w5.cell? ⟨w.heap.size + 1, 0, none⟩ = some (.int .u8 (p.op : Int)) := M5.out.cell 1 0 rfl rfl
          have q1_1 : w5.cell? ⟨w.heap.size + 1, 1, none⟩ = some (.int .u32 (p.field : Int)) := M5.out.cell 1 1 rfl rfl
          have q1_2 : w5.cell? ⟨w.heap.size + 1, 2, none⟩ = some (.int .u8 p.value.kind) := M5.out.cell 1 2 rfl rfl
          have q1_3 : w5.cell? ⟨w.heap.size + 1, 3, none⟩ = some (.int .i64 p.value.n) := M5.out.cell 1 3 rfl rfl
          have q1_4 : w5.cell? ⟨w.heap.size + 1, 4, none⟩ = some (.string p.value.s) := M5.out.cell 1 4 rfl rfl
          have q1_5 : w5.cell? ⟨w.heap.size + 1, 5, none⟩ = some (.slice ka kn kc) := M5.out.cell 1 5 rfl rfl
          have z0 : w.heap.size < w5.heap.size := M5.out.lt 0 (by simp)
          have z1 : w.heap.size + 1 < w5.heap.size := M5.out.lt 1 (by simp)
          have y0 : w5.cell? ⟨w4.heap.size, 0, none⟩ = some (.int .u32 (s.id : Int)) := XS5.out.cell 0 rfl
          have y1 : w5.cell? ⟨w4.heap.size, 1, none⟩ = some (.slice sa sn sc) := XS5.out.cell 1 rfl
          have zl := XS5.out.lt
          go_wp2_with fail
          refine (Check9_any d p _ s _ _ (PredR.stable d _ _ _ _ M5.out.below HP.out) HS5.out (by omega)).mono ?_
          rintro e w6 ⟨cr, rfl, hb⟩
          have M6 := Lib.hid (M5.out.call hb)
          have XS6 := Lib.hid (XS5.out.call hb)
          have HS6 := Lib.hid (SchemaR.stable _ _ _ _ hb HS5.out)
          clear hb y0 y1 zl q1_0 q1_1 q1_2 q1_3 q1_4 q1_5 z0 z1
          by_cases hcr : cr = 0
          · subst hcr
            have q0_0 : w6.cell? ⟨w.heap.size, 0, none⟩ = some (.int .u32 (f.id : Int)) := M6.out.cell 0 0 rfl rfl
            have q0_1 : w6.cell? ⟨w.heap.size, 1, none⟩ = some (.slice fa fn fc) := M6.out.cell 0 1 rfl rfl
            have z0 : w.heap.size < w6.heap.size := M6.out.lt 0 (by simp)
            have z1 : w.heap.size + 1 < w6.heap.size := M6.out.lt 1 (by simp)
            go_upto_block 2 with fail
            obtain ⟨W7, hWW⟩ : ∃ W : World, W = w6.alloc (.cells #[.string ⟨#[100, 49]⟩, .bool false, .int .u64 1, .int .i64 0, .int .u32 (f.id : Int), .slice none 0 0] 52) := ⟨_, rfl⟩
            have hx7 : Box W7 w6.heap.size #[.string ⟨#[100, 49]⟩, .bool false, .int .u64 1, .int .i64 0, .int .u32 (f.id : Int), .slice none 0 0] := by rw [hWW]; exact Box.new _ _ _
            have hb7 : Below w6.heap.size w6 W7 := by rw [hWW]; exact (Below.refl _ _).alloc (Nat.le_refl _) _
            rw [← hWW]
            clear hWW q0_0 q0_1 z0 z1
            have M7 := Lib.hid (M6.out.call hb7)
            have X7 := Lib.hid hx7
            have HB7 := Lib.hid hb7
            have HS7 := Lib.hid (SchemaR.stable _ _ _ _ hb7 HS6.out)
            have XS7 := Lib.hid (XS6.out.call hb7)
            have HR7 := Lib.hid (HRS.out.below (SlR.stable CellR.stable) M7.out.below)
            clear hx7 hb7
            go_cut [14] (fun v wx => ∃ (m : Nat) (ls : List (List CellD)), m ≤ 30 ∧ RowsLo wx W7.heap.size 22 v m ls ∧ (∀ r ∈ ls, r.length = fn ∧ GoodCol r) ∧ Below W7.heap.size W7 wx)
            case first =>
              go_wp2_with fail
              go_loopw [14, 15] (fun v i wr => ∃ (k m : Nat) (ls : List (List CellD)), k ≤ rn ∧ k ≤ 30 ∧ m ≤ k ∧ i = .int .i64 (k : Int) ∧ RowsLo wr W7.heap.size 22 v m ls ∧ (∀ r ∈ ls, r.length = fn ∧ GoodCol r) ∧ Below W7.heap.size W7 wr) (fun _ i _ => rn - (intOf i).toNat)
              case atStart => exact ⟨0, 0, [], Nat.zero_le _, Nat.zero_le _, Nat.le_refl _, rfl, RowsLo.nil _ _ _, fun r h => by simp at h, Below.refl _ _⟩
              case round =>
                obtain ⟨k, m, ls, hk, hk4, hm, rfl, hro, hgood, hb⟩ := hrel
                have HRO := Lib.hid hro
                have HGD := Lib.hid hgood
                have HB := Lib.hid hb
                have MR := Lib.hid (M7.out.call hb)
                clear hro hgood hb
                have hki : (0 : Int) ≤ (k : Int) := by omega
                by_cases hlt : k < rn
                · have hkn : (k : Int) < (rn : Int) := by omega
                  by_cases hlt3 : k < 30
                  · have hk40 : (k : Int) < 30 := by omega
                    obtain ⟨b, off, x, xv, rfl, hbl, hx, hr, hcell⟩ := HR7.out.at1 hlt
                    obtain ⟨xa, xn, xc, hxv, hr1, hr2, hr3, hrow⟩ := hr
                    simp only [List.cons.injEq, and_true] at hxv
                    subst hxv
                    have d0 := (HB.out.cell (p := ⟨b, off + k, none⟩) hbl).trans hcell
                    have HROW := Lib.hid (hrow.below CellR.stable HB.out)
                    have hxn : xn ≤ 9223372036854775807 := by unfold maxLen at hr2; omega
                    clear hr1 hr2 hr3 hrow hcell hx
                    by_cases h100 : 50 < xn
                    · have h100i : (50 : Int) < (xn : Int) := by omega
                      go_wp2
                      go_ret
                      exact ⟨rfl, MR.out.below⟩
                    · have h100i : (xn : Int) ≤ 50 := by omega
                      have hxs := HROW.out.1
                      have hall : ∀ y ∈ x, CellOK y := fun y hy => by obtain ⟨cs, hr⟩ := sl_all HROW.out y hy; exact hr.2
                      have hgx := fix_good16 hall
                      have HGX := Lib.hid hgx
                      have HXL := Lib.hid (show (x.map fix).length = xn by rw [List.length_map]; exact hxs)
                      clear hall hgx
                      go_wp2_with fail
                      refine (fixrow_calls xa xn xc x _ HROW.out (by omega)).mono ?_
                      rintro e w8 ⟨v8, rfl, hown8, hb8⟩
                      generalize x.map fix = xf at *
                      clear hxs
                      obtain ⟨a8, c8, rfl, hc8⟩ := own_slice hown8
                      have hsl8 := own_sl (R := CellR) (by decide) cellV_len (HGX.out.reads w8) hown8
                      have HAP := Lib.hid (own_apartLo HRO.out HB.out.size hown8)
                      have HSL8 := Lib.hid hsl8
                      have HRO8 := Lib.hid (HRO.out.call hb8)
                      have M8 := Lib.hid (MR.out.call hb8)
                      have HB8 := Lib.hid (HB.out.trans (hb8.mono HB.out.size))
                      clear hown8 hb8 hc8 hsl8 d0
                      have hz0 : w.heap.size < w8.heap.size := M8.out.lt 0 (by simp)
                      have q0_0 : w8.cell? ⟨w.heap.size, 0, none⟩ = some (.int .u32 (f.id : Int)) := M8.out.cell 0 0 rfl rfl
                      have q0_1 : w8.cell? ⟨w.heap.size, 1, none⟩ = some (.slice fa fn fc) := M8.out.cell 0 1 rfl rfl
                      go_wp2_with fail
                      refine (fit_calls f _ a8 xn c8 xf _ (SchemaR.stable _ _ _ _ M8.out.below HF.out) HSL8.out (by omega)).mono ?_
                      rintro e w9 ⟨fr, rfl, hfit, hb9⟩
                      have HSL9 := Lib.hid (HSL8.out.below CellR.stable hb9)
                      have HRO9 := Lib.hid (HRO8.out.call hb9)
                      have HB9 := Lib.hid (HB8.out.trans (hb9.mono HB8.out.size))
                      have hap9 := fun b off (h : a8 = some ⟨b, off, none⟩) => And.intro (HAP.out b off h).1 (And.intro (Nat.lt_of_lt_of_le (HAP.out b off h).2.1 hb9.size) (HAP.out b off h).2.2)
                      have HAP9 := Lib.hid hap9
                      have HFIT := Lib.hid hfit
                      clear hb9 q0_0 q0_1 hz0 hfit hap9
                      by_cases hf0 : fr = 0
                      · subst hf0
                        obtain ⟨_, vs, hvs, _⟩ := HRO9.out
                        have HVS := Lib.hid hvs
                        clear hvs
                        have h63 : m + 1 ≤ maxLen := by unfold maxLen; omega
                        have hby : (m + 1) * 24 ≤ 140737488355328 := by omega
                        have hbase : W7.heap.size ≤ (w9.alloc (.cells #[.slice a8 xn c8] 22)).heap.size := by have := HB9.out.size; simp; omega
                        have hone : ∀ u ∈ ([.slice a8 xn c8] : List Value), u.oneCell' = true := by simp [Value.oneCell']
                        have hcl : ∀ j u, ([.slice a8 xn c8] : List Value)[j]? = some u → (w9.alloc (.cells #[.slice a8 xn c8] 22)).cell? ((⟨w9.heap.size, 0, none⟩ : Addr).add j) = some u := fun j u hj => by
                          have := CellsAt.alloc_at w9 #[.slice a8 xn c8] 22 w9.heap.size rfl j u (by simpa using hj)
                          rw [show ((⟨w9.heap.size, 0, none⟩ : Addr).add j) = ⟨w9.heap.size, j, none⟩ by (simp [Addr.add] <;> omega)]
                          exact this
                        have HBASE := Lib.hid hbase
                        have HONE := Lib.hid hone
                        have HCL := Lib.hid hcl
                        clear hbase hone hcl
                        go_wp2_with (at_builtin; refine wpList_append_lies _ rfl _ _ _ rfl W7.heap.size 22 i0 (.slice none 0 0) 1 24 Try.underlying39 HI.out HZ0.out HZ1.out HZ2.out rfl (by decide) _ _ _ rfl (HVS.out.alloc _) ⟨w9.heap.size, 0, none⟩ 1 1 [.slice a8 xn c8] rfl rfl HCL.out HONE.out (by decide) h63 hby HBASE.out _ rfl ?_; intro g cap w10 hown10 hgrow10 hat10 hglt10)
                        have hro10 := RowsLo.snoc (HRO9.out.alloc (.cells #[.slice a8 xn c8] 22)) (HVS.out.alloc _) hown10 hgrow10 (by first | exact hat10 | simpa using hat10) (HSL9.out.below CellR.stable ((Below.refl _ _).alloc (Nat.le_refl _) _)) (fun b off h => ⟨(HAP9.out b off h).1, by have := (HAP9.out b off h).2.1; simp; omega, (HAP9.out b off h).2.2⟩)
                        have hb10 := below_append HVS.out HB9.out hgrow10
                        clear hgrow10 hat10 hown10 hglt10
                        go_roundw
                        case rel =>
                          refine ⟨k + 1, m + 1, ls ++ [xf], by omega, by omega, by omega, by go_num, hro10, fun r hr => ?_, hb10⟩
                          rcases List.mem_append.1 hr with hr | hr
                          · exact HGD.out r hr
                          · simp at hr; subst hr
                            exact ⟨by have := HFIT.out (by simp); have := HXL.out; have := HFL.out; omega, HGX.out⟩
                        case measure => simp [intOf] <;> omega
                      · have hfb : (fr == 0) = false := by rw [beq_eq_false_iff_ne]; exact hf0
                        go_wp2
                        go_roundw
                        case rel => exact ⟨k + 1, m, ls, by omega, by omega, by omega, by go_num, HRO9.out, HGD.out, HB9.out⟩
                        case measure => simp [intOf] <;> omega
                  · obtain rfl : k = 30 := by omega
                    go_wp2
                    go_meet
                    case rel => exact ⟨m, ls, by omega, HRO.out, HGD.out, HB.out⟩
                · have hkn : (rn : Int) ≤ (k : Int) := by omega
                  go_wp2
                  go_meet
                  case rel => exact ⟨m, ls, by omega, HRO.out, HGD.out, HB.out⟩
            case rest =>
              obtain ⟨w8, rfl⟩ : ∃ W : World, W = wc := ⟨_, rfl⟩
              obtain ⟨m, ls, hm, hro, hgood, hb⟩ := hcut
              obtain ⟨ga, gc, rfl⟩ := hro.shape
              have M8 := Lib.hid (M7.out.call hb)
              have X8 := Lib.hid (X7.out.call hb)
              have XS8 := Lib.hid (XS7.out.call hb)
              have HS8 := Lib.hid (SchemaR.stable _ _ _ _ hb HS7.out)
              have HB8 := Lib.hid (HB7.out.trans (hb.mono HB7.out.size))
              have hx78 : w6.heap.size < W7.heap.size := X7.out.lt
              have h78 := hb.size
              have hro8 := hro
              have HLL := Lib.hid hro.1
              have hgr : GoodRows fn ls := hgood
              have HGR := Lib.hid hgr
              clear hb hgood hro
              have x3 : w8.cell? ⟨w6.heap.size, 3, none⟩ = some (.int .i64 0) := X8.out.cell 3 rfl
              have xs3 : ∀ j, w8.frozen? ⟨w6.heap.size, j, none⟩ = false := X8.out.soft
              have zl := X8.out.lt
              go_upto_block 4 with fail
              obtain ⟨W9, hWW⟩ : ∃ W : World, W = w8.setCell ⟨w6.heap.size, 3, none⟩ (.int .i64 (m : Int)) := ⟨_, rfl⟩
              have hx9 := X8.out.set (j := 3) (by simp) (.int .i64 (m : Int))
              have hro9 := hro8.but hx78 ((But.refl (Nat.le_refl _)).set 3 (.int .i64 (m : Int)))
              have hb9 := HB8.out.setCell (p := ⟨w6.heap.size, 3, none⟩) (Nat.le_refl _) (.int .i64 (m : Int))
              rw [← hWW] at hx9 hro9 hb9 ⊢
              clear hWW x3 xs3 zl
              have X9 := Lib.hid (show Box W9 w6.heap.size #[.string ⟨#[100, 49]⟩, .bool false, .int .u64 1, .int .i64 (m : Int), .int .u32 (f.id : Int), .slice none 0 0] by simpa using hx9)
              have HRO9 := Lib.hid hro9
              have HB9 := Lib.hid hb9
              have HB97 := Lib.hid (show w6.heap.size < W9.heap.size from hx9.lt)
              have M9 := Lib.hid (M6.out.call hb9)
              have HS9 := Lib.hid (SchemaR.stable _ _ _ _ hb9 HS6.out)
              have XS9 := Lib.hid (XS6.out.call hb9)
              clear hx9 hro9 hb9 hro8 X8 M8 XS8 HS8
              have hsok : ∀ st ∈ statsAt fn ls, StatOK st := fun st hst => by
                unfold statsAt at hst
                obtain ⟨k, hk, rfl⟩ := List.mem_map.1 hst
                exact stats_ok (hgr.col (List.mem_range.1 hk)) (by unfold colAt; rw [List.length_map, HLL.out]; omega)
              have HSOK := Lib.hid hsok
              have HSTL := Lib.hid (statsAt_len16 fn ls)
              have HSTG := Lib.hid (fun (k : Nat) (hk : k < fn) => statsAt_get (rows := ls) hk)
              generalize hsts : statsAt fn ls = sts at *
              have HSTS := Lib.hid hsts
              have HFR9 := Lib.hid HRO9.out.sl
              clear hsok hgr hsts
              go_cut [] (fun wx => ∃ va : Value, Box wx w6.heap.size #[.string ⟨#[100, 49]⟩, .bool false, .int .u64 1, .int .i64 (m : Int), .int .u32 (f.id : Int), va] ∧ wx.ownsRow W9.heap.size 31 10 va fn (sts.flatMap statV) ∧ But W9.heap.size w6.heap.size W9 wx ∧ Below w6.heap.size w6 wx)
              case first =>
                go_wp2_with fail
                go_loopw [17] (fun i wr => ∃ (k : Nat) (va : Value), k ≤ fn ∧ i = .int .i64 (k : Int) ∧ Box wr w6.heap.size #[.string ⟨#[100, 49]⟩, .bool false, .int .u64 1, .int .i64 (m : Int), .int .u32 (f.id : Int), va] ∧ wr.ownsRow W9.heap.size 31 10 va k ((sts.take k).flatMap statV) ∧ But W9.heap.size w6.heap.size W9 wr ∧ Below w6.heap.size w6 wr) (fun i _ => fn - (intOf i).toNat)
                case atStart => exact ⟨0, .slice none 0 0, Nat.zero_le _, rfl, X9.out, World.ownsRow_nil _ _ _ _, But.refl (Nat.le_refl _), HB9.out⟩
                case round =>
                  obtain ⟨k, va, hk, rfl, hx, hown, hbut, hb⟩ := hrel
                  have XR := Lib.hid hx
                  have HO := Lib.hid hown
                  have HBT := Lib.hid hbut
                  have HB := Lib.hid hb
                  have MR := Lib.hid (M6.out.call hb)
                  have HROR := Lib.hid (HRO9.out.but hx78 hbut)
                  clear hx hown hbut hb
                  have hki : (0 : Int) ≤ (k : Int) := by omega
                  have q0_1 : wr.cell? ⟨w.heap.size, 1, none⟩ = some (.slice fa fn fc) := MR.out.cell 0 1 rfl rfl
                  by_cases hlt : k < fn
                  · have hkn : (k : Int) < (fn : Int) := by omega
                    have hvals := fun (W : World) (h : Below wr.heap.size wr W) => values_calls ga m gc ls k W ((HROR.out.sl).below FRow.stable h) (by omega) (fun r hr => by have := (HGR.out r hr).1; omega) (fun r hr => by have := (HGR.out r hr).1; omega)
                    have hcol : (ls.map fun r => (r[k]?).getD zeroCell) = colAt ls k := rfl
                    rw [hcol] at hvals
                    have hgc := HGR.out.col hlt
                    have hstx := fun (W : World) (a c : _) (h : Sl 3 CellR W a (colAt ls k).length (colAt ls k)) => refstats_calls a (colAt ls k).length c (colAt ls k) W h (by unfold colAt; rw [List.length_map, HLL.out]; omega) (fun c hc => by have := hgc.size c hc; omega) (fun c hc => (hgc.col c hc).2)
                    have hreads := hgc.reads
                    have hstg := HSTG.out k hlt
                    have hsn := flat_snoc (f := statV) hstg
                    generalize colAt ls k = col at *
                    have hsok := HSOK.out _ (List.mem_of_getElem? hstg)
                    generalize statsF col = st at *
                    obtain ⟨t0, t1, t2, t3, ⟨t4, t5, t6⟩, ⟨t7, t8, t9⟩⟩ := st
                    simp only [StatD.cells] at hstx
                    unfold RowPost at hvals
                    have HVALS := Lib.hid hvals
                    have HSTX := Lib.hid hstx
                    have HRDS := Lib.hid hreads
                    have HSN := Lib.hid (show (sts.take (k + 1)).flatMap statV = (sts.take k).flatMap statV ++ [.int .i64 t0, .int .i64 t1, .bool t2, .bool t3, .int .u8 t4, .int .i64 t5, .string t6, .int .u8 t7, .int .i64 t8, .string t9] from hsn)
                    have x5 : wr.cell? ⟨w6.heap.size, 5, none⟩ = some va := XR.out.cell 5 rfl
                    have hS : ∀ W, Below wr.heap.size wr W → W.cell? ⟨w6.heap.size, 5, none⟩ = some va := fun W h => (XR.out.call h).cell 5 rfl
                    have HSS := Lib.hid hS
                    have h63 : k + 1 ≤ maxLen := by unfold maxLen; omega
                    have hby : (k + 1) * 88 ≤ 140737488355328 := by omega
                    clear hvals hcol hgc hstx hreads hstg hsn hsok hS
                    go_upto_region 30 with fail
                    clear q0_1
                    go_region_law
                      (first
                        | (go_simp; go_at_call 18; (with_reducible refine (HVALS.out _ (by repeat (first | exact Below.refl _ _ | (with_reducible refine Below.drew ?_) | (with_reducible refine Below.alloc ?_ (by first | exact Nat.le_refl _ | exact K7.out.size | (simp; done) | (have := K7.out.size; simp; omega) | (simp; omega)) _) | (with_reducible refine Below.setCell ?_ (by first | exact Nat.le_refl _ | exact K7.out.size | (simp; done) | (have := K7.out.size; simp; omega) | (simp; omega)) _) | (with_reducible exact K7.out)))).mono ?_); rintro e w7' ⟨v7, rfl, hown7, hp7⟩; have k7 := below_step (W0 := wr) (by repeat (first | exact Below.refl _ _ | (with_reducible refine Below.drew ?_) | (with_reducible refine Below.alloc ?_ (by first | exact Nat.le_refl _ | (simp; done) | (simp; omega)) _))) hp7; have K7 := Lib.hid k7; obtain ⟨a7, c7, rfl, _⟩ := own_slice hown7; have SL7 := Lib.hid (own_sl (R := CellR) (by decide) cellV_len (HRDS.out w7') hown7); have x5a : w7'.cell? ⟨w6.heap.size, 5, none⟩ = some va := (XR.out.call K7.out).cell 5 rfl; clear hown7 hp7 k7)
                        | (go_simp; go_at_call 10; (with_reducible refine (HSTX.out _ _ _ (by repeat (first | (with_reducible exact SL7.out) | (with_reducible refine Sl.drew1 ?_)))).mono ?_); rintro e w8' ⟨rfl, hp8⟩; have k8 := below_step (W0 := wr) (by repeat (first | exact Below.refl _ _ | (with_reducible refine Below.drew ?_) | (with_reducible refine Below.alloc ?_ (by first | exact Nat.le_refl _ | exact K7.out.size | (simp; done) | (have := K7.out.size; simp; omega) | (simp; omega)) _) | (with_reducible refine Below.setCell ?_ (by first | exact Nat.le_refl _ | exact K7.out.size | (simp; done) | (have := K7.out.size; simp; omega) | (simp; omega)) _) | (with_reducible exact K7.out))) hp8; have K8 := Lib.hid k8; have HO8 := Lib.hid (own_below HO.out k8); have x5b : w8'.cell? ⟨w6.heap.size, 5, none⟩ = some va := (XR.out.call K8.out).cell 5 rfl; have zl8 : w6.heap.size < w8'.heap.size := (XR.out.call K8.out).lt; clear hp8 k8)
                        | (refine step_append_lies _ (by rfl) _ _ _ (by rfl) W9.heap.size 31 j0 (.agg #[.int .i64 0, .int .i64 0, .bool false, .bool false, .int .u8 0, .int .i64 0, .string ByteArray.empty, .int .u8 0, .int .i64 0, .string ByteArray.empty]) 10 88 Try.underlying50 HJ.out HY0.out HY1.out HY2.out rfl (by decide) va k _ (by rfl) (by first | exact (HO8.out.alloc _) | exact (HO8.out.alloc _).drew | exact (HO8.out.drew.alloc _)) ⟨w8'.heap.size, 0, none⟩ 1 1 [.int .i64 t0, .int .i64 t1, .bool t2, .bool t3, .int .u8 t4, .int .i64 t5, .string t6, .int .u8 t7, .int .i64 t8, .string t9] (by rfl) (by rfl) (by first | exact World.news_of_block (cs := #[.int .i64 t0, .int .i64 t1, .bool t2, .bool t3, .int .u8 t4, .int .i64 t5, .string t6, .int .u8 t7, .int .i64 t8, .string t9]) (t := 31) (fr := (0, 0)) (heap_alloc_new w8' _)) (by simp [Value.oneCell']) (by decide) h63 hby (by have := HBT.out.size; have := K8.out.size; simp; omega) (w8'.heap.size + 1) (by simp) ?_; intro gg cap wg howng hgrow hat hlt'; have xg := Box.grown (show Box _ w6.heap.size #[.string ⟨#[100, 49]⟩, .bool false, .int .u64 1, .int .i64 (m : Int), .int .u32 (f.id : Int), va] from (by (repeat (first | (with_reducible exact XR.out.call K8.out) | (with_reducible refine Box.drew ?_) | (with_reducible refine Box.alloc ?_ _))))) hgrow (by intro e; have := (HO.out.lt _ e.symm).1; have := HB97.out; omega); have XG := Lib.hid xg; have x5c : wg.cell? ⟨w6.heap.size, 5, none⟩ = some va := xg.cell 5 rfl; have hgs : ∀ j, wg.frozen? ⟨w6.heap.size, j, none⟩ = false := xg.soft; have hgl : w6.heap.size < wg.heap.size := xg.lt; have HOG := Lib.hid howng; have HBG := Lib.hid (But.grown (HBT.out.call (w'' := _) (by repeat (first | exact Below.refl _ _ | (with_reducible refine Below.drew ?_) | (with_reducible refine Below.alloc ?_ K8.out.size _) | (with_reducible exact K8.out)))) hgrow (fun b e => (HO.out.lt b e).1)); have HBW := Lib.hid ((HB.out.trans (Below.mono (by repeat (first | exact Below.refl _ _ | (with_reducible refine Below.drew ?_) | (with_reducible refine Below.alloc ?_ K8.out.size _) | (with_reducible exact K8.out))) HB.out.size)).grown hgrow (by have := HB.out.size; have := K8.out.size; simp; omega) (fun k hk => by have := (HO.out.lt k hk).1; have := HB97.out; omega)); clear xg howng hgrow hat hlt')
                        | fail)
                    all_goals go_wp2
                    all_goals go_roundw
                    all_goals first
                      | exact ⟨k + 1, .slice (some ⟨gg, 0, none⟩) (k + 1) cap, by omega, by go_num, (by have := XG.out.set (j := 5) (by simp) (.slice (some ⟨gg, 0, none⟩) (k + 1) cap); simpa using this), by rw [HSN.out]; exact ownF_set (p := ⟨w6.heap.size, 5, none⟩) HOG.out HB97.out _, HBG.out.set 5 _, HBW.out.setCell (Nat.le_refl _) _⟩
                      | (simp [intOf] <;> omega)
                  · obtain rfl : k = fn := by omega
                    have htk : sts.take k = sts := List.take_of_length_le (by have := HSTL.out; omega)
                    have HTK := Lib.hid htk
                    clear htk
                    go_wp2
                    go_meet
                    case rel => exact ⟨va, XR.out, by have := HO.out; rw [HTK.out] at this; exact this, HBT.out, HB.out⟩
              case rest =>
                obtain ⟨w10, rfl⟩ : ∃ W : World, W = wc := ⟨_, rfl⟩
                obtain ⟨va, hx, hown, hbut, hb⟩ := hcut
                obtain ⟨xsa, xsc, rfl, hxc1, hxc2, hxc3⟩ := own_slice hown
                have X10 := Lib.hid hx
                have M10 := Lib.hid (M6.out.call hb)
                have XS10 := Lib.hid (XS6.out.call hb)
                have HS10 := Lib.hid (SchemaR.stable _ _ _ _ hb HS6.out)
                have HRO10 := Lib.hid (HRO9.out.but hx78 hbut)
                have hst := own_sl (R := StatR) (by decide) statV_len (fun st hst => ⟨rfl, HSOK.out st hst⟩) hown
                have hen : EntryR w10 [.string ⟨#[100, 49]⟩, .bool false, .int .u64 1, .int .i64 (m : Int), .int .u32 (f.id : Int), .slice xsa fn xsc] ⟨tD1, false, 1, (m : Int), f.id, sts⟩ := ⟨xsa, fn, xsc, rfl, hxc1, hxc2, hxc3, hst, (show tD1.size ≤ maxLen by decide), by show (1 : Nat) < 2 ^ 64; decide, ⟨by show (-9223372036854775808 : Int) ≤ (m : Int); omega, by show (m : Int) ≤ 9223372036854775807; omega⟩, hfid⟩
                have HEN := Lib.hid hen
                have HS10z := Lib.hid (fun (W : World) (h : Below w10.heap.size w10 W) => SchemaR.stable _ _ _ _ h HS10.out)
                clear hx hown hbut hb hst hen XS6 XS9 HS9 X9 M9
                have q0_0 : w10.cell? ⟨w.heap.size, 0, none⟩ = some (.int .u32 (f.id : Int)) := M10.out.cell 0 0 rfl rfl
                have q0_1 : w10.cell? ⟨w.heap.size, 1, none⟩ = some (.slice fa fn fc) := M10.out.cell 0 1 rfl rfl
                have z0 : w.heap.size < w10.heap.size := M10.out.lt 0 (by simp)
                have z1 : w.heap.size + 1 < w10.heap.size := M10.out.lt 1 (by simp)
                have y0 : w10.cell? ⟨w4.heap.size, 0, none⟩ = some (.int .u32 (s.id : Int)) := XS10.out.cell 0 rfl
                have zl := XS10.out.lt
                go_upto_if 128 with fail
                obtain ⟨W11, hWW⟩ : ∃ W : World, W = (w10.alloc (.cells #[.int .u32 (f.id : Int), .slice fa fn fc] 37)).alloc (.cells #[.slice (some ⟨w10.heap.size, 0, none⟩) 1 1, .slice none 0 0, .int .u64 0] 59) := ⟨_, rfl⟩
                have hx11 : Box W11 (w10.heap.size + 1) #[.slice (some ⟨w10.heap.size, 0, none⟩) 1 1, .slice none 0 0, .int .u64 0] := by rw [hWW]; exact Box.at_ _ _ _ _ (by simp)
                have hs11 : Box W11 w10.heap.size #[.int .u32 (f.id : Int), .slice fa fn fc] := by rw [hWW]; exact (Box.new _ _ _).alloc _
                have ho11 : W11.ownsRow w10.heap.size 37 2 (.slice (some ⟨w10.heap.size, 0, none⟩) 1 1) 1 [.int .u32 (f.id : Int), .slice fa fn fc] := by rw [hWW]; exact (World.ownsRow_lit w10 #[.int .u32 (f.id : Int), .slice fa fn fc] 1 (Nat.le_refl _) (by decide) rfl).alloc _
                have hb11 : Below w10.heap.size w10 W11 := by rw [hWW]; exact ((Below.refl _ _).alloc (Nat.le_refl _) _).alloc (by simp) _
                rw [← hWW]
                clear hWW q0_0 q0_1 z0 z1 y0 zl
                have XT11 := Lib.hid hx11
                have XF11 := Lib.hid hs11
                have HO11 := Lib.hid ho11
                have HB11 := Lib.hid hb11
                have XS11 := Lib.hid (XS10.out.call hb11)
                clear hx11 hs11 ho11 hb11
                go_cut [] (fun wx => ∃ (ua : Option Addr) (un uc : Nat) (ss : List SchemaD), Box wx (w10.heap.size + 1) #[.slice ua un uc, .slice none 0 0, .int .u64 0] ∧ Sl 2 SchemaR wx ua un (f :: ss) ∧ un ≤ uc ∧ uc ≤ maxLen ∧ (ua = none → uc = 0) ∧ ss.length ≤ 1 ∧ (∀ x ∈ f :: ss, x.fields.length ≤ 1000) ∧ Below w10.heap.size w10 wx)
                case first =>
                  by_cases hid : s.id = f.id
                  · have hidb : ((s.id : Int) == (f.id : Int)) = true := by rw [beq_iff_eq]; omega
                    have hidc : ((s.id : Int) != (f.id : Int)) = false := by rw [bne, hidb]; rfl
                    go_wp2
                    go_meet
                    case rel => exact ⟨_, 1, 1, [], XT11.out, sl_one (cs := [.int .u32 (f.id : Int), .slice fa fn fc]) rfl (SchemaR.stable _ _ _ _ (M10.out.call HB11.out).below HF.out) XF11.out, Nat.le_refl _, by decide, (fun h => by cases h), by decide, (fun x hx => by simp at hx; subst hx; have := HFL.out; omega), HB11.out⟩
                  · have hidb : ((s.id : Int) == (f.id : Int)) = false := by rw [beq_eq_false_iff_ne]; omega
                    have hidc : ((s.id : Int) != (f.id : Int)) = true := by rw [bne, hidb]; rfl
                    have x0 : W11.cell? ⟨w10.heap.size + 1, 0, none⟩ = some (.slice (some ⟨w10.heap.size, 0, none⟩) 1 1) := XT11.out.cell 0 rfl
                    have y0 : W11.cell? ⟨w4.heap.size, 0, none⟩ = some (.int .u32 (s.id : Int)) := XS11.out.cell 0 rfl
                    have y1 : W11.cell? ⟨w4.heap.size, 1, none⟩ = some (.slice sa sn sc) := XS11.out.cell 1 rfl
                    have zl := XS11.out.lt
                    have hbase : w10.heap.size ≤ (W11.alloc (.cells #[.int .u32 (s.id : Int), .slice sa sn sc] 37)).heap.size := by have := HB11.out.size; simp; omega
                    have hone : ∀ u ∈ ([.int .u32 (s.id : Int), .slice sa sn sc] : List Value), u.oneCell' = true := by simp [Value.oneCell']
                    have hcl : ∀ j u, ([.int .u32 (s.id : Int), .slice sa sn sc] : List Value)[j]? = some u → (W11.alloc (.cells #[.int .u32 (s.id : Int), .slice sa sn sc] 37)).cell? ((⟨W11.heap.size, 0, none⟩ : Addr).add j) = some u := fun j u hj => by
                      have := CellsAt.alloc_at W11 #[.int .u32 (s.id : Int), .slice sa sn sc] 37 W11.heap.size rfl j u (by simpa using hj)
                      rw [show ((⟨W11.heap.size, 0, none⟩ : Addr).add j) = ⟨W11.heap.size, j, none⟩ by (simp [Addr.add] <;> omega)]
                      exact this
                    have HBASE := Lib.hid hbase
                    have HONE := Lib.hid hone
                    have HCL := Lib.hid hcl
                    clear hbase hone hcl
                    go_wp2_with (at_builtin; refine wpList_append_lies _ rfl _ _ _ rfl w10.heap.size 37 l0 (.agg #[.int .u32 0, .slice none 0 0]) 2 32 Try.underlying56 HL.out HX0.out HX1.out HX2.out rfl (by decide) (.slice (some ⟨w10.heap.size, 0, none⟩) 1 1) 1 _ rfl (HO11.out.alloc _) ⟨W11.heap.size, 0, none⟩ 1 1 [.int .u32 (s.id : Int), .slice sa sn sc] rfl rfl HCL.out HONE.out (by decide) (by decide) (by decide) HBASE.out _ rfl ?_; intro g cap w12 hown12 hgrow12 hat12 hglt12; refine Hold.out ?_)
                    unfold Hold
                    have hb12 := below_append HO11.out HB11.out hgrow12
                    have hx12 : Box w12 (w10.heap.size + 1) #[.slice (some ⟨w10.heap.size, 0, none⟩) 1 1, .slice none 0 0, .int .u64 0] := Box.grown (XT11.out.alloc (.cells #[.int .u32 (s.id : Int), .slice sa sn sc] 37)) hgrow12 (by simp [Value.ownBlock])
                    have hg12 : g ≠ w10.heap.size + 1 := by
                      rcases hat12 with h | h
                      · have : w10.heap.size = g := by simpa [Value.ownBlock] using h
                        omega
                      · have := XT11.out.lt
                        simp at h
                        omega
                    have X12 := Lib.hid hx12
                    have HB12 := Lib.hid hb12
                    have HO12 := Lib.hid hown12
                    have HG12 := Lib.hid hg12
                    have HAB12 := Lib.hid (ownF_above hown12)
                    have HSC12 := Lib.hid (own_slice hown12)
                    clear hx12 hb12 hown12 hgrow12 hat12 hglt12 hg12 x0 y0 y1
                    have x0 : w12.cell? ⟨w10.heap.size + 1, 0, none⟩ = some (.slice (some ⟨w10.heap.size, 0, none⟩) 1 1) := X12.out.cell 0 rfl
                    have xs0 : ∀ j, w12.frozen? ⟨w10.heap.size + 1, j, none⟩ = false := X12.out.soft
                    have zt := X12.out.lt
                    go_wp2
                    go_meet
                    case rel =>
                      have hbz : Below w10.heap.size w10 (w12.setCell ⟨w10.heap.size + 1, 0, none⟩ (.slice (some ⟨g, 0, none⟩) 2 cap)) := HB12.out.setCell (Nat.le_succ _) _
                      have hof := own_far (p := ⟨w10.heap.size + 1, 0, none⟩) HO12.out (by simp [Value.ownBlock]; exact HG12.out) (.slice (some ⟨g, 0, none⟩) 2 cap)
                      have hsl := own_sl (R := fun w cs (q : SchemaD × Value) => SchemaR w cs q.1) (f := fun q : SchemaD × Value => [.int .u32 (q.1.id : Int), q.2]) (xs := [(f, .slice fa fn fc), (s, .slice sa sn sc)]) (by decide) (fun _ => rfl) (fun q hq => by
                        simp only [List.mem_cons, List.mem_nil_iff, or_false] at hq
                        rcases hq with rfl | rfl
                        · exact SchemaR.stable _ _ _ _ (M10.out.call hbz).below HF.out
                        · exact HS10z.out _ hbz) hof
                      obtain ⟨_, _, hv, hc1, hc2, hc3⟩ := HSC12.out
                      simp only [Value.slice.injEq] at hv
                      obtain ⟨rfl, _, rfl⟩ := hv
                      exact ⟨_, 2, _, [s], (by have := X12.out.set (j := 0) (by simp) (.slice (some ⟨g, 0, none⟩) 2 cap); simpa using this), Sl.mapOf (R := SchemaR) (g := Prod.fst) hsl, hc1, hc2, hc3, by simp, (fun x hx => by
                        simp only [List.mem_cons, List.mem_nil_iff, or_false] at hx
                        rcases hx with rfl | rfl
                        · have := HFL.out; omega
                        · omega), hbz⟩
                case rest =>
                  obtain ⟨w12, rfl⟩ : ∃ W : World, W = wc := ⟨_, rfl⟩
                  obtain ⟨ua, un, uc, ss, hxt, htsl, hu1, hu2, hu3, hssl, hssf, hb⟩ := hcut
                  have HB12 := Lib.hid hb
                  have M12 := Lib.hid (M10.out.call hb)
                  have X12 := Lib.hid (X10.out.call hb)
                  have XS12 := Lib.hid (XS10.out.call hb)
                  have HS12 := Lib.hid (HS10z.out _ hb)
                  have HE12 := Lib.hid (EntryR.stable _ _ _ _ hb HEN.out)
                  have HRO12 := Lib.hid (HRO10.out.call hb)
                  have XT12 := Lib.hid hxt
                  have HTSL := Lib.hid htsl
                  have HSSF := Lib.hid hssf
                  have HU3 := Lib.hid hu3
                  have HTAB := Lib.hid (fun (W : World) (h : Below w12.heap.size w12 W) => (show TableR W [.slice ua un uc, .slice none 0 0, .int .u64 0] ⟨f :: ss, [], 0⟩ from ⟨ua, un, uc, none, 0, 0, rfl, hu1, hu2, hu3, htsl.below SchemaR.stable h, Nat.le_refl _, by decide, fun _ => rfl, Sl.nil_ _ _ _, (show (0 : Nat) < 2 ^ 64 by decide)⟩))
                  clear hxt htsl hb hssf hu3
                  have q1_0 : w12.cell? ⟨w.heap.size + 1, 0, none⟩ = some (.int .u8 (p.op : Int)) := M12.out.cell 1 0 rfl rfl
                  have q1_1 : w12.cell? ⟨w.heap.size + 1, 1, none⟩ = some (.int .u32 (p.field : Int)) := M12.out.cell 1 1 rfl rfl
                  have q1_2 : w12.cell? ⟨w.heap.size + 1, 2, none⟩ = some (.int .u8 p.value.kind) := M12.out.cell 1 2 rfl rfl
                  have q1_3 : w12.cell? ⟨w.heap.size + 1, 3, none⟩ = some (.int .i64 p.value.n) := M12.out.cell 1 3 rfl rfl
                  have q1_4 : w12.cell? ⟨w.heap.size + 1, 4, none⟩ = some (.string p.value.s) := M12.out.cell 1 4 rfl rfl
                  have q1_5 : w12.cell? ⟨w.heap.size + 1, 5, none⟩ = some (.slice ka kn kc) := M12.out.cell 1 5 rfl rfl
                  have z0 : w.heap.size < w12.heap.size := M12.out.lt 0 (by simp)
                  have z1 : w.heap.size + 1 < w12.heap.size := M12.out.lt 1 (by simp)
                  have t0 : w12.cell? ⟨w10.heap.size + 1, 0, none⟩ = some (.slice ua un uc) := XT12.out.cell 0 rfl
                  have t1 : w12.cell? ⟨w10.heap.size + 1, 1, none⟩ = some (.slice none 0 0) := XT12.out.cell 1 rfl
                  have t2 : w12.cell? ⟨w10.heap.size + 1, 2, none⟩ = some (.int .u64 0) := XT12.out.cell 2 rfl
                  have x0 : w12.cell? ⟨w6.heap.size, 0, none⟩ = some (.string ⟨#[100, 49]⟩) := X12.out.cell 0 rfl
                  have x1 : w12.cell? ⟨w6.heap.size, 1, none⟩ = some (.bool false) := X12.out.cell 1 rfl
                  have x2 : w12.cell? ⟨w6.heap.size, 2, none⟩ = some (.int .u64 1) := X12.out.cell 2 rfl
                  have x3 : w12.cell? ⟨w6.heap.size, 3, none⟩ = some (.int .i64 (m : Int)) := X12.out.cell 3 rfl
                  have x4 : w12.cell? ⟨w6.heap.size, 4, none⟩ = some (.int .u32 (f.id : Int)) := X12.out.cell 4 rfl
                  have x5 : w12.cell? ⟨w6.heap.size, 5, none⟩ = some (.slice xsa fn xsc) := X12.out.cell 5 rfl
                  have y0 : w12.cell? ⟨w4.heap.size, 0, none⟩ = some (.int .u32 (s.id : Int)) := XS12.out.cell 0 rfl
                  have y1 : w12.cell? ⟨w4.heap.size, 1, none⟩ = some (.slice sa sn sc) := XS12.out.cell 1 rfl
                  have zs := XS12.out.lt
                  have zx := X12.out.lt
                  have zt := XT12.out.lt
                  have hb13 : Below w12.heap.size w12 (w12.alloc (.cells #[.string ⟨#[100, 49]⟩, .bool false, .int .u64 1, .int .i64 (m : Int), .int .u32 (f.id : Int), .slice xsa fn xsc] 52)) := (Below.refl _ _).alloc (Nat.le_refl _) _
                  have htk := tasks_calls _ ⟨f :: ss, [], 0⟩ (some ⟨w12.heap.size, 0, none⟩) 1 1 [⟨tD1, false, 1, (m : Int), f.id, sts⟩] _ s d _ p _ (HTAB.out _ hb13) (by simp; omega) HSSF.out (sl_one (cs := [.string ⟨#[100, 49]⟩, .bool false, .int .u64 1, .int .i64 (m : Int), .int .u32 (f.id : Int), .slice xsa fn xsc]) rfl (EntryR.stable _ _ _ _ hb13 HE12.out) (Box.new _ _ _)) (by decide) (fun x hx => by simp at hx; subst hx; show sts.length ≤ 1000; have := HSTL.out; omega) (SchemaR.stable _ _ _ _ hb13 HS12.out) (by omega) (PredR.stable d _ _ _ _ (M12.out.call hb13).below HP.out)
                  unfold TasksPost at htk
                  have HTK := Lib.hid htk
                  clear htk hb13
                  go_wp2_with fail
                  refine HTK.out.mono ?_
                  rintro e w14 ⟨v14, ts, rfl, hown14, hts, hb14⟩
                  obtain ⟨t14a, t14c, rfl, _⟩ := own_slice hown14.1
                  have hlen : ts.length = if takeB (f :: ss) s d p ⟨tD1, false, 1, (m : Int), f.id, sts⟩ = true then 1 else 0 := by
                    have := congrArg List.length hts
                    rw [List.length_map, tasks_one] at this
                    exact this
                  have htake : ∀ r ∈ ls, evalN s.fields (liftRow f.fields s.fields r) d p = 2 → ts.length = 1 := fun r hr he => by
                    rw [hlen, if_pos (takes (x := ⟨tD1, false, 1, (m : Int), f.id, sts⟩) (by show sts = _; rw [HFL.out]; exact HSTS.out.symm) (by show (m : Int) = _; rw [HLL.out]) rfl rfl (by rw [HFL.out]; exact HGR.out) hr he)]
                  have hle1 : ts.length ≤ 1 := by rw [hlen]; split <;> omega
                  generalize ts.length = L at *
                  have HTAKE := Lib.hid htake
                  have hLi : (L : Int) ≤ 1 := by omega
                  have hb12 : Below w12.heap.size w12 w14 := ((Below.refl _ _).alloc (Nat.le_refl _) _).trans (hb14.mono (by simp))
                  have M14 := Lib.hid (M12.out.call hb12)
                  have XS14 := Lib.hid (XS12.out.call hb12)
                  have HS14 := Lib.hid (SchemaR.stable _ _ _ _ hb12 HS12.out)
                  have HR14 := Lib.hid ((HRO12.out.call hb12).sl)
                  clear hown14 hts hb14 hlen htake hb12 t0 t1 t2 x0 x1 x2 x3 x4 x5 y0 y1 zs zx zt q1_0 q1_1 q1_2 q1_3 q1_4 q1_5 z0 z1
                  go_wp2_with fail
                  go_loopw [20] (fun i wr => ∃ k : Nat, k ≤ m ∧ i = .int .i64 (k : Int) ∧ Below w14.heap.size w14 wr) (fun i _ => m - (intOf i).toNat)
                  case atStart => exact ⟨0, Nat.zero_le _, rfl, Below.refl _ _⟩
                  case round =>
                    obtain ⟨k, hk, rfl, hb⟩ := hrel
                    have HB := Lib.hid hb
                    have MR := Lib.hid (M14.out.call hb)
                    have XSR := Lib.hid (XS14.out.call hb)
                    have HSR := Lib.hid (SchemaR.stable _ _ _ _ hb HS14.out)
                    clear hb
                    have hki : (0 : Int) ≤ (k : Int) := by omega
                    by_cases hlt : k < m
                    · have hkn : (k : Int) < (m : Int) := by omega
                      obtain ⟨b, off, r, rv, rfl, hbl, hr, hrr, hcell⟩ := HR14.out.at1 hlt
                      obtain ⟨qa, qn, qc, hrv, hrow⟩ := hrr
                      simp only [List.cons.injEq, and_true] at hrv
                      subst hrv
                      have hrm := List.mem_of_getElem? hr
                      have d0 := (HB.out.cell (p := ⟨b, off + k, none⟩) hbl).trans hcell
                      have hbw : b < wr.heap.size := by have := HB.out.size; omega
                      have hrl := (HGR.out r hrm).1
                      have hqn := hrow.1
                      have hgood := (HGR.out r hrm).2
                      have hlift := fun (W : World) (h : Below wr.heap.size wr W) => lift8_calls _ f _ s qa qn qc r W (SchemaR.stable _ _ _ _ (MR.out.call h).below HF.out) (SchemaR.stable _ _ _ _ h HSR.out) (by have := HFL.out; omega) (by omega) (hrow.below CellR.stable (HB.out.trans (h.mono HB.out.size))) (by omega)
                      have hsize := liftRow_size (fs := f.fields) (ts := s.fields) hgood
                      have hllen : (liftRow f.fields s.fields r).length ≤ 1000 := by unfold liftRow; rw [List.length_map]; omega
                      have hone := HTAKE.out r hrm
                      have heval := fun (W : World) (h : Below wr.heap.size wr W) (a : Option Addr) (c : Nat) (hl : Sl 3 CellR W a (liftRow f.fields s.fields r).length (liftRow f.fields s.fields r)) => eval_all d p _ s _ a (liftRow f.fields s.fields r).length c (liftRow f.fields s.fields r) W (PredR.stable d _ _ _ _ (MR.out.call h).below HP.out) (SchemaR.stable _ _ _ _ h HSR.out) (by omega) hl hllen (fun x hx => (hsize x hx).1)
                      have hreads : ∀ W : World, ∀ c ∈ liftRow f.fields s.fields r, CellR W (cellV c) c := fun W c hc => ⟨rfl, (hsize c hc).2⟩
                      generalize liftRow f.fields s.fields r = lr at *
                      generalize evalN s.fields lr d p = ev at *
                      unfold RowPost at hlift
                      have HLIFT := Lib.hid hlift
                      have HEVAL := Lib.hid heval
                      have HRDS := Lib.hid hreads
                      have hS : ∀ W, Below wr.heap.size wr W → W.cell? ⟨w.heap.size + 1, 0, none⟩ = some (.int .u8 (p.op : Int)) ∧ W.cell? ⟨w.heap.size + 1, 1, none⟩ = some (.int .u32 (p.field : Int)) ∧ W.cell? ⟨w.heap.size + 1, 2, none⟩ = some (.int .u8 p.value.kind) ∧ W.cell? ⟨w.heap.size + 1, 3, none⟩ = some (.int .i64 p.value.n) ∧ W.cell? ⟨w.heap.size + 1, 4, none⟩ = some (.string p.value.s) ∧ W.cell? ⟨w.heap.size + 1, 5, none⟩ = some (.slice ka kn kc) ∧ W.cell? ⟨w4.heap.size, 0, none⟩ = some (.int .u32 (s.id : Int)) ∧ W.cell? ⟨w4.heap.size, 1, none⟩ = some (.slice sa sn sc) ∧ W.cell? ⟨w.heap.size, 0, none⟩ = some (.int .u32 (f.id : Int)) ∧ W.cell? ⟨w.heap.size, 1, none⟩ = some (.slice fa fn fc) ∧ W.cell? ⟨b, off + k, none⟩ = some (.slice qa qn qc) := fun W h => ⟨(MR.out.call h).cell 1 0 rfl rfl, (MR.out.call h).cell 1 1 rfl rfl, (MR.out.call h).cell 1 2 rfl rfl, (MR.out.call h).cell 1 3 rfl rfl, (MR.out.call h).cell 1 4 rfl rfl, (MR.out.call h).cell 1 5 rfl rfl, (XSR.out.call h).cell 0 rfl, (XSR.out.call h).cell 1 rfl, (MR.out.call h).cell 0 0 rfl rfl, (MR.out.call h).cell 0 1 rfl rfl, (h.cell (p := ⟨b, off + k, none⟩) hbw).trans d0⟩
                      have HSS := Lib.hid hS
                      have HONE := Lib.hid hone
                      go_upto_region 38 with fail
                      clear hcell hr hrm d0 hrl hgood hlift heval hsize hreads hS hllen hrow hone
                      by_cases hev : ev = 2
                      · have hL1 : L = 1 := HONE.out hev
                        subst hL1
                        subst hev
                        first
                          | go_region_held3 (fun W => W.cell? ⟨w.heap.size + 1, 0, none⟩ = some (.int .u8 (p.op : Int)) ∧ W.cell? ⟨w.heap.size + 1, 1, none⟩ = some (.int .u32 (p.field : Int)) ∧ W.cell? ⟨w.heap.size + 1, 2, none⟩ = some (.int .u8 p.value.kind) ∧ W.cell? ⟨w.heap.size + 1, 3, none⟩ = some (.int .i64 p.value.n) ∧ W.cell? ⟨w.heap.size + 1, 4, none⟩ = some (.string p.value.s) ∧ W.cell? ⟨w.heap.size + 1, 5, none⟩ = some (.slice ka kn kc) ∧ W.cell? ⟨w4.heap.size, 0, none⟩ = some (.int .u32 (s.id : Int)) ∧ W.cell? ⟨w4.heap.size, 1, none⟩ = some (.slice sa sn sc) ∧ W.cell? ⟨w.heap.size, 0, none⟩ = some (.int .u32 (f.id : Int)) ∧ W.cell? ⟨w.heap.size, 1, none⟩ = some (.slice fa fn fc) ∧ W.cell? ⟨b, off + k, none⟩ = some (.slice qa qn qc))
                              (first | (refine HSS.out _ ?_; exact (by repeat (first | exact Below.refl _ _ | (with_reducible refine Below.drew ?_) | (with_reducible exact K8.out) | (with_reducible exact K7.out)))))
                              (first
                                | (go_at_call 21; (with_reducible refine (HLIFT.out _ (by repeat (first | exact Below.refl _ _ | (with_reducible refine Below.drew ?_) | (with_reducible exact K8.out) | (with_reducible exact K7.out)))).mono ?_); rintro e w7' ⟨v7, rfl, hown7, hp7⟩; have k7 := below_step (W0 := wr) (by repeat (first | exact Below.refl _ _ | (with_reducible refine Below.drew ?_))) hp7; have K7 := Lib.hid k7; obtain ⟨a7, c7, rfl, _⟩ := own_slice hown7; have SL7 := Lib.hid (own_sl (R := CellR) (by decide) cellV_len (HRDS.out w7') hown7); clear hown7 hp7 k7)
                                | (go_at_call 20; (with_reducible refine (HEVAL.out _ (by repeat (first | exact Below.refl _ _ | (with_reducible refine Below.drew ?_) | (with_reducible exact K8.out) | (with_reducible exact K7.out))) _ _ (by repeat (first | (with_reducible exact SL7.out) | (with_reducible refine Sl.drew1 ?_)))).mono ?_); rintro e w8' ⟨rfl, hp8⟩; have k8 := below_step (W0 := wr) (by repeat (first | exact Below.refl _ _ | (with_reducible refine Below.drew ?_) | (with_reducible exact K7.out))) hp8; have K8 := Lib.hid k8; clear hp8 k8)
                                | fail)
                          | fail
                        all_goals go_wp2
                        all_goals go_roundw
                        all_goals first
                          | exact ⟨k + 1, by omega, by go_num, HB.out.trans (K8.out.mono HB.out.size)⟩
                          | (simp [intOf] <;> omega)
                      · have hevb : ((ev : Int) == 2) = false := by rw [beq_eq_false_iff_ne]; omega
                        refine wp_region_held_drew (S := fun W => W.cell? ⟨w.heap.size + 1, 0, none⟩ = some (.int .u8 (p.op : Int)) ∧ W.cell? ⟨w.heap.size + 1, 1, none⟩ = some (.int .u32 (p.field : Int)) ∧ W.cell? ⟨w.heap.size + 1, 2, none⟩ = some (.int .u8 p.value.kind) ∧ W.cell? ⟨w.heap.size + 1, 3, none⟩ = some (.int .i64 p.value.n) ∧ W.cell? ⟨w.heap.size + 1, 4, none⟩ = some (.string p.value.s) ∧ W.cell? ⟨w.heap.size + 1, 5, none⟩ = some (.slice ka kn kc) ∧ W.cell? ⟨w4.heap.size, 0, none⟩ = some (.int .u32 (s.id : Int)) ∧ W.cell? ⟨w4.heap.size, 1, none⟩ = some (.slice sa sn sc) ∧ W.cell? ⟨w.heap.size, 0, none⟩ = some (.int .u32 (f.id : Int)) ∧ W.cell? ⟨w.heap.size, 1, none⟩ = some (.slice fa fn fc) ∧ W.cell? ⟨b, off + k, none⟩ = some (.slice qa qn qc)) (by kernel_rfl) (HSS.out _ (Below.refl _ _).drew) (fun hHeld => ?_)
                        refine wpAnyH_take (i := 0) (v := ?_) (by (simp only [List.getElem?_toArray, List.getElem?_cons_zero, List.getElem?_cons_succ]) <;> exact rfl) (by kernel_rfl) (by kernel_rfl) (by kernel_rfl) (by intro _ _ _ h; exact h) (Or.inl ⟨by rfl, ?_⟩) (by assumption) ?_
                        rotate_left
                        · intro w hSw
                          try dsimp only at hSw
                          go_simp
                          try with_reducible rfl
                        try simp only [Act.put, List.setIfInBounds_toArray, List.set_cons_zero, List.set_cons_succ]
                        refine wpAnyH_take (i := 1) (v := ?_) (by (simp only [List.getElem?_toArray, List.getElem?_cons_zero, List.getElem?_cons_succ]) <;> exact rfl) (by kernel_rfl) (by kernel_rfl) (by kernel_rfl) (by intro _ _ _ h; exact h) (Or.inl ⟨by rfl, ?_⟩) (by assumption) ?_
                        rotate_left
                        · intro w hSw
                          try dsimp only at hSw
                          go_simp
                          try with_reducible rfl
                        try simp only [Act.put, List.setIfInBounds_toArray, List.set_cons_zero, List.set_cons_succ]
                        refine wpAnyH_take (i := 2) (v := ?_) (by (simp only [List.getElem?_toArray, List.getElem?_cons_zero, List.getElem?_cons_succ]) <;> exact rfl) (by kernel_rfl) (by kernel_rfl) (by kernel_rfl) (by intro _ _ _ h; exact h) (Or.inl ⟨by rfl, ?_⟩) (by assumption) ?_
                        rotate_left
                        · intro w hSw
                          try dsimp only at hSw
                          go_simp
                          try with_reducible rfl
                        try simp only [Act.put, List.setIfInBounds_toArray, List.set_cons_zero, List.set_cons_succ]
                        refine wpAnyH_take (i := 3) (v := ?_) (by (simp only [List.getElem?_toArray, List.getElem?_cons_zero, List.getElem?_cons_succ]) <;> exact rfl) (by kernel_rfl) (by kernel_rfl) (by kernel_rfl) (by intro _ _ _ h; exact h) (Or.inl ⟨by rfl, ?_⟩) (by assumption) ?_
                        rotate_left
                        · intro w hSw
                          try dsimp only at hSw
                          go_simp
                          try with_reducible rfl
                        try simp only [Act.put, List.setIfInBounds_toArray, List.set_cons_zero, List.set_cons_succ]
                        refine wpAnyH_take (i := 4) (v := ?_) (by (simp only [List.getElem?_toArray, List.getElem?_cons_zero, List.getElem?_cons_succ]) <;> exact rfl) (by kernel_rfl) (by kernel_rfl) (by kernel_rfl) (by intro _ _ _ h; exact h) (Or.inl ⟨by rfl, ?_⟩) (by assumption) ?_
                        rotate_left
                        · intro w hSw
                          try dsimp only at hSw
                          go_simp
                          try with_reducible rfl
                        try simp only [Act.put, List.setIfInBounds_toArray, List.set_cons_zero, List.set_cons_succ]
                        refine wpAnyH_take (i := 5) (v := ?_) (by (simp only [List.getElem?_toArray, List.getElem?_cons_zero, List.getElem?_cons_succ]) <;> exact rfl) (by kernel_rfl) (by kernel_rfl) (by kernel_rfl) (by intro _ _ _ h; exact h) (Or.inl ⟨by rfl, ?_⟩) (by assumption) ?_
                        rotate_left
                        · intro w hSw
                          try dsimp only at hSw
                          go_simp
                          try with_reducible rfl
                        try simp only [Act.put, List.setIfInBounds_toArray, List.set_cons_zero, List.set_cons_succ]
                        refine wpAnyH_take (i := 6) (v := ?_) (by (simp only [List.getElem?_toArray, List.getElem?_cons_zero, List.getElem?_cons_succ]) <;> exact rfl) (by kernel_rfl) (by kernel_rfl) (by kernel_rfl) (by intro _ _ _ h; exact h) (Or.inl ⟨by rfl, ?_⟩) (by assumption) ?_
                        rotate_left
                        · intro w hSw
                          try dsimp only at hSw
                          go_simp
                          try with_reducible rfl
                        try simp only [Act.put, List.setIfInBounds_toArray, List.set_cons_zero, List.set_cons_succ]
                        refine wpAnyH_take (i := 7) (v := ?_) (by (simp only [List.getElem?_toArray, List.getElem?_cons_zero, List.getElem?_cons_succ]) <;> exact rfl) (by kernel_rfl) (by kernel_rfl) (by kernel_rfl) (by intro _ _ _ h; exact h) (Or.inl ⟨by rfl, ?_⟩) (by assumption) ?_
                        rotate_left
                        · intro w hSw
                          try dsimp only at hSw
                          go_simp
                          try with_reducible rfl
                        try simp only [Act.put, List.setIfInBounds_toArray, List.set_cons_zero, List.set_cons_succ]
                        refine wpAnyH_ready (rs := [8]) (by kernel_rfl) (by simp) ?_
                        refine AllReadyH.cons (by (simp only [List.getElem?_toArray, List.getElem?_cons_zero, List.getElem?_cons_succ]) <;> exact rfl) (fun K hK => ?_) ?_
                        rotate_left
                        exact AllReadyH.nil
                        go_simp
                        refine (HLIFT.out _ (by repeat (first | exact Below.refl _ _ | (with_reducible refine Below.drew ?_)))).mono ?_
                        rintro e w7' ⟨v7, rfl, hown7, hp7⟩
                        have k7 := below_step (W0 := wr) (by repeat (first | exact Below.refl _ _ | (with_reducible refine Below.drew ?_))) hp7
                        have K7 := Lib.hid k7
                        obtain ⟨a7, c7, rfl, _⟩ := own_slice hown7
                        have SL7 := Lib.hid (own_sl (R := CellR) (by decide) cellV_len (HRDS.out w7') hown7)
                        clear hown7 hp7 k7
                        try dsimp only
                        refine hK.out _ _ (HSS.out _ (by repeat (first | exact Below.refl _ _ | (with_reducible refine Below.drew ?_) | (with_reducible exact K8.out) | (with_reducible exact K7.out)))) (fun hHeld => ?_)
                        clear hK K
                        try simp only [Act.put, List.setIfInBounds_toArray, List.set_cons_zero, List.set_cons_succ]
                        refine wpAnyH_ready (rs := [9]) (by kernel_rfl) (by simp) ?_
                        refine AllReadyH.cons (by (simp only [List.getElem?_toArray, List.getElem?_cons_zero, List.getElem?_cons_succ]) <;> exact rfl) (fun K hK => ?_) ?_
                        rotate_left
                        exact AllReadyH.nil
                        go_simp
                        refine (HEVAL.out _ (by repeat (first | exact Below.refl _ _ | (with_reducible refine Below.drew ?_) | (with_reducible exact K8.out) | (with_reducible exact K7.out))) _ _ (by repeat (first | (with_reducible exact SL7.out) | (with_reducible refine Sl.drew1 ?_)))).mono ?_
                        rintro e w8' ⟨rfl, hp8⟩
                        have k8 := below_step (W0 := wr) (by repeat (first | exact Below.refl _ _ | (with_reducible refine Below.drew ?_) | (with_reducible exact K7.out))) hp8
                        have K8 := Lib.hid k8
                        clear hp8 k8
                        try dsimp only
                        refine hK.out _ _ (HSS.out _ (by repeat (first | exact Below.refl _ _ | (with_reducible refine Below.drew ?_) | (with_reducible exact K8.out) | (with_reducible exact K7.out)))) (fun hHeld => ?_)
                        clear hK K
                        try simp only [Act.put, List.setIfInBounds_toArray, List.set_cons_zero, List.set_cons_succ]
                        refine wpAnyH_take (i := 10) (v := ?_) (by (simp only [List.getElem?_toArray, List.getElem?_cons_zero, List.getElem?_cons_succ]) <;> exact rfl) (by kernel_rfl) (by kernel_rfl) (by kernel_rfl) (by intro _ _ _ h; exact h) (Or.inl ⟨by rfl, ?_⟩) (by assumption) ?_
                        rotate_left
                        · intro w hSw
                          try dsimp only at hSw
                          go_simp
                          try with_reducible rfl
                        try simp only [Act.put, List.setIfInBounds_toArray, List.set_cons_zero, List.set_cons_succ]
                        refine wpAnyH_take (i := 11) (v := ?_) (by (simp only [List.getElem?_toArray, List.getElem?_cons_zero, List.getElem?_cons_succ]) <;> exact rfl) (by kernel_rfl) (by kernel_rfl) (by kernel_rfl) (by intro _ _ _ h; exact h) (Or.inl ⟨by rfl, ?_⟩) (by assumption) ?_
                        rotate_left
                        · intro w hSw
                          try dsimp only at hSw
                          go_simp
                          try with_reducible rfl
                        try simp only [Act.put, List.setIfInBounds_toArray, List.set_cons_zero, List.set_cons_succ]
                        refine wpAnyH_take (i := 12) (v := undef) (by (simp only [List.getElem?_toArray, List.getElem?_cons_zero, List.getElem?_cons_succ]) <;> exact rfl) (by kernel_rfl) (by kernel_rfl) (by kernel_rfl) (by intro _ _ _ h; exact h) (Or.inr ⟨by rfl, rfl⟩) (by assumption) ?_
                        try simp only [Act.put, List.setIfInBounds_toArray, List.set_cons_zero, List.set_cons_succ]
                        refine wpAnyH_take (i := 13) (v := undef) (by (simp only [List.getElem?_toArray, List.getElem?_cons_zero, List.getElem?_cons_succ]) <;> exact rfl) (by kernel_rfl) (by kernel_rfl) (by kernel_rfl) (by intro _ _ _ h; exact h) (Or.inr ⟨by rfl, rfl⟩) (by assumption) ?_
                        try simp only [Act.put, List.setIfInBounds_toArray, List.set_cons_zero, List.set_cons_succ]
                        refine wpAnyH_take (i := 14) (v := undef) (by (simp only [List.getElem?_toArray, List.getElem?_cons_zero, List.getElem?_cons_succ]) <;> exact rfl) (by kernel_rfl) (by kernel_rfl) (by kernel_rfl) (by intro _ _ _ h; exact h) (Or.inr ⟨by rfl, rfl⟩) (by assumption) ?_
                        try simp only [Act.put, List.setIfInBounds_toArray, List.set_cons_zero, List.set_cons_succ]
                        refine wpAnyH_take (i := 15) (v := ?_) (by (simp only [List.getElem?_toArray, List.getElem?_cons_zero, List.getElem?_cons_succ]) <;> exact rfl) (by kernel_rfl) (by kernel_rfl) (by kernel_rfl) (by intro _ _ _ h; exact h) (Or.inl ⟨by rfl, ?_⟩) (by assumption) ?_
                        rotate_left
                        · intro w hSw
                          try dsimp only at hSw
                          go_simp
                          try with_reducible rfl
                        try simp only [Act.put, List.setIfInBounds_toArray, List.set_cons_zero, List.set_cons_succ]
                        refine wpAnyH_done (by kernel_rfl) ?_ _
                        go_wp2
                        go_roundw
                        case rel => exact ⟨k + 1, by omega, by go_num, HB.out.trans (K8.out.mono HB.out.size)⟩
                        case measure => simp [intOf] <;> omega
                    · have hkn : (m : Int) ≤ (k : Int) := by omega
                      go_wp2
                      go_ret
                      exact ⟨rfl, MR.out.below⟩
          · have hcrb : (cr == 0) = false := by rw [beq_eq_false_iff_ne]; exact hcr
            go_wp2
            go_ret
            exact ⟨rfl, M6.out.below⟩
    · have hcb : (ce == 0) = false := by rw [beq_eq_false_iff_ne]; exact hce
      go_wp2
      go_ret
      exact ⟨rfl, M3.out.below⟩
end Go.Proofs.Ytkofaoaglnjkgaa
