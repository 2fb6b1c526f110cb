/- The law EventChecks. -/
import Derived.Test.YtlclhinianamhaaEvAlive
namespace Go.Proofs.Ytlclhinianamhaa
open Go.RowKit Go.Deep
set_option linter.unusedVariables false
set_option linter.unusedSimpArgs false

set_option maxRecDepth 100000 in
set_option maxHeartbeats 4000000 in
theorem eventChecks (scs : List Value) (s : SchemaD) (ecs : List Value) (e : EventD) (w : World) (hs : SchemaR w scs s) (he : EventR w ecs e) : Calls Try.prog 3 #[.agg scs.toArray, .agg ecs.toArray] w (TruthPost w) := by
  have HSC := Lib.hid hs
  have HEV := Lib.hid he
  have HAL := Lib.hid alive_callsE
  obtain ⟨fa, fn, fc, rfl, _⟩ := hs
  obtain ⟨ra, rn, rc, rfl, _⟩ := he
  have HG8 := Lib.hid (fun W h => great08 [.int .u32 (s.id : Int), .slice fa fn fc] s W h)
  have HGE := Lib.hid (fun W h => greatE_calls (e.cells (.slice ra rn rc)) e W h)
  have HC1 := Lib.hid (fun W h1 h2 h3 => echeck_calls [.int .u32 (s.id : Int), .slice fa fn fc] (e.cells (.slice ra rn rc)) s e W h1 h2 h3)
  have HC2 := Lib.hid (fun W h1 h2 h3 => refchk_calls [.int .u32 (s.id : Int), .slice fa fn fc] (e.cells (.slice ra rn rc)) s e W h1 h2 h3)
  obtain ⟨G, hG⟩ : ∃ G, greatE e = G := ⟨_, rfl⟩
  obtain ⟨R, hR⟩ : ∃ R, checkE s e = R := ⟨_, rfl⟩
  have HLEN := Lib.hid (show G = false → e.row.length ≤ 100000 from fun h => by
    rw [← hG] at h
    unfold greatE at h
    simp at h
    omega)
  rw [hG] at HGE
  rw [hR] at HC1 HC2
  clear hG hR
  obtain ⟨o, op, row, key, nm, kind⟩ := e
  obtain ⟨kk, kn, ks⟩ := key
  simp only [] at HLEN
  unfold EventD.cells at HEV HGE HC1 HC2 ⊢
  try simp only [] at HEV
  try simp only [] at HGE
  try simp only [] at HC1
  try simp only [] at HC2
  try simp only []
  go_enter Try.func3, Try.ntmps3
  go_wp2_with fail
  obtain ⟨W0, hWW⟩ : ∃ W0 : World, W0 = ((w.alloc (.cells #[.int .u32 (s.id : Int), .slice fa fn fc] 25)).alloc (.cells #[.int .u64 (o : Int), .int .u8 (op : Int), .slice ra rn rc, .int .u8 kk, .int .i64 kn, .string ks, .string nm, .int .u8 (kind : Int)] 32)) := ⟨_, rfl⟩
  have hm : Mem w.heap.size [#[.int .u32 (s.id : Int), .slice fa fn fc], #[.int .u64 (o : Int), .int .u8 (op : Int), .slice ra rn rc, .int .u8 kk, .int .i64 kn, .string ks, .string nm, .int .u8 (kind : Int)]] w W0 := by rw [hWW]; exact ((Mem.nil w).push (by simp) #[.int .u32 (s.id : Int), .slice fa fn fc] 25).push (by simp) #[.int .u64 (o : Int), .int .u8 (op : Int), .slice ra rn rc, .int .u8 kk, .int .i64 kn, .string ks, .string nm, .int .u8 (kind : Int)] 32
  first | rw [← hWW] | skip
  have M0 := Lib.hid hm
  clear hm hWW
  refine (HAL.out _).mono ?_
  rintro e w1 ⟨rfl, hb1⟩
  have M1 := Lib.hid (M0.out.call hb1)
  clear hb1
  have s0 : w1.cell? ⟨w.heap.size, 0, none⟩ = some (.int .u32 (s.id : Int)) := M1.out.cell 0 0 rfl rfl
  have s1 : w1.cell? ⟨w.heap.size, 1, none⟩ = some (.slice fa fn fc) := M1.out.cell 0 1 rfl rfl
  have e0 : w1.cell? ⟨w.heap.size + 1, 0, none⟩ = some (.int .u64 (o : Int)) := M1.out.cell 1 0 rfl rfl
  have e1 : w1.cell? ⟨w.heap.size + 1, 1, none⟩ = some (.int .u8 (op : Int)) := M1.out.cell 1 1 rfl rfl
  have e2 : w1.cell? ⟨w.heap.size + 1, 2, none⟩ = some (.slice ra rn rc) := M1.out.cell 1 2 rfl rfl
  have e3 : w1.cell? ⟨w.heap.size + 1, 3, none⟩ = some (.int .u8 kk) := M1.out.cell 1 3 rfl rfl
  have e4 : w1.cell? ⟨w.heap.size + 1, 4, none⟩ = some (.int .i64 kn) := M1.out.cell 1 4 rfl rfl
  have e5 : w1.cell? ⟨w.heap.size + 1, 5, none⟩ = some (.string ks) := M1.out.cell 1 5 rfl rfl
  have e6 : w1.cell? ⟨w.heap.size + 1, 6, none⟩ = some (.string nm) := M1.out.cell 1 6 rfl rfl
  have e7 : w1.cell? ⟨w.heap.size + 1, 7, none⟩ = some (.int .u8 (kind : Int)) := M1.out.cell 1 7 rfl rfl
  go_wp2_with fail
  refine (HG8.out _ (SchemaR.stable _ _ _ _ M1.out.below HSC.out)).mono ?_
  rintro e w2 ⟨b8, rfl, hb2, _⟩
  have M2 := Lib.hid (M1.out.call hb2)
  clear hb2 s0 s1 e0 e1 e2 e3 e4 e5 e6 e7
  cases b8
  · have s0 : w2.cell? ⟨w.heap.size, 0, none⟩ = some (.int .u32 (s.id : Int)) := M2.out.cell 0 0 rfl rfl
    have s1 : w2.cell? ⟨w.heap.size, 1, none⟩ = some (.slice fa fn fc) := M2.out.cell 0 1 rfl rfl
    have e0 : w2.cell? ⟨w.heap.size + 1, 0, none⟩ = some (.int .u64 (o : Int)) := M2.out.cell 1 0 rfl rfl
    have e1 : w2.cell? ⟨w.heap.size + 1, 1, none⟩ = some (.int .u8 (op : Int)) := M2.out.cell 1 1 rfl rfl
    have e2 : w2.cell? ⟨w.heap.size + 1, 2, none⟩ = some (.slice ra rn rc) := M2.out.cell 1 2 rfl rfl
    have e3 : w2.cell? ⟨w.heap.size + 1, 3, none⟩ = some (.int .u8 kk) := M2.out.cell 1 3 rfl rfl
    have e4 : w2.cell? ⟨w.heap.size + 1, 4, none⟩ = some (.int .i64 kn) := M2.out.cell 1 4 rfl rfl
    have e5 : w2.cell? ⟨w.heap.size + 1, 5, none⟩ = some (.string ks) := M2.out.cell 1 5 rfl rfl
    have e6 : w2.cell? ⟨w.heap.size + 1, 6, none⟩ = some (.string nm) := M2.out.cell 1 6 rfl rfl
    have e7 : w2.cell? ⟨w.heap.size + 1, 7, none⟩ = some (.int .u8 (kind : Int)) := M2.out.cell 1 7 rfl rfl
    go_wp2_with fail
    refine (HGE.out _ (EventR.stable _ _ _ _ M2.out.below HEV.out)).mono ?_
    rintro e w3 ⟨rfl, hb3⟩
    have M3 := Lib.hid (M2.out.call hb3)
    clear hb3 s0 s1 e0 e1 e2 e3 e4 e5 e6 e7
    cases G
    · have hlen := HLEN.out rfl
      have hS : ∀ W, Below w3.heap.size w3 W → W.cell? ⟨w.heap.size, 0, none⟩ = some (.int .u32 (s.id : Int)) ∧ W.cell? ⟨w.heap.size, 1, none⟩ = some (.slice fa fn fc) ∧ W.cell? ⟨w.heap.size + 1, 0, none⟩ = some (.int .u64 (o : Int)) ∧ W.cell? ⟨w.heap.size + 1, 1, none⟩ = some (.int .u8 (op : Int)) ∧ W.cell? ⟨w.heap.size + 1, 2, none⟩ = some (.slice ra rn rc) ∧ W.cell? ⟨w.heap.size + 1, 3, none⟩ = some (.int .u8 kk) ∧ W.cell? ⟨w.heap.size + 1, 4, none⟩ = some (.int .i64 kn) ∧ W.cell? ⟨w.heap.size + 1, 5, none⟩ = some (.string ks) ∧ W.cell? ⟨w.heap.size + 1, 6, none⟩ = some (.string nm) ∧ W.cell? ⟨w.heap.size + 1, 7, none⟩ = some (.int .u8 (kind : Int)) := fun W h => ⟨(M3.out.call h).cell 0 0 rfl rfl, (M3.out.call h).cell 0 1 rfl rfl, (M3.out.call h).cell 1 0 rfl rfl, (M3.out.call h).cell 1 1 rfl rfl, (M3.out.call h).cell 1 2 rfl rfl, (M3.out.call h).cell 1 3 rfl rfl, (M3.out.call h).cell 1 4 rfl rfl, (M3.out.call h).cell 1 5 rfl rfl, (M3.out.call h).cell 1 6 rfl rfl, (M3.out.call h).cell 1 7 rfl rfl⟩
      have HSS := Lib.hid hS
      have HD1 := Lib.hid (fun (W : World) (h : Below w3.heap.size w3 W) => HC1.out W (SchemaR.stable _ _ _ _ (M3.out.call h).below HSC.out) (EventR.stable _ _ _ _ (M3.out.call h).below HEV.out) hlen)
      have HD2 := Lib.hid (fun (W : World) (h : Below w3.heap.size w3 W) => HC2.out W (SchemaR.stable _ _ _ _ (M3.out.call h).below HSC.out) (EventR.stable _ _ _ _ (M3.out.call h).below HEV.out) hlen)
      have hrr : (R == R) = true := by simp
      clear hS
      go_upto_region 5 with fail
      go_region_held3 (fun W => W.cell? ⟨w.heap.size, 0, none⟩ = some (.int .u32 (s.id : Int)) ∧ W.cell? ⟨w.heap.size, 1, none⟩ = some (.slice fa fn fc) ∧ W.cell? ⟨w.heap.size + 1, 0, none⟩ = some (.int .u64 (o : Int)) ∧ W.cell? ⟨w.heap.size + 1, 1, none⟩ = some (.int .u8 (op : Int)) ∧ W.cell? ⟨w.heap.size + 1, 2, none⟩ = some (.slice ra rn rc) ∧ W.cell? ⟨w.heap.size + 1, 3, none⟩ = some (.int .u8 kk) ∧ W.cell? ⟨w.heap.size + 1, 4, none⟩ = some (.int .i64 kn) ∧ W.cell? ⟨w.heap.size + 1, 5, none⟩ = some (.string ks) ∧ W.cell? ⟨w.heap.size + 1, 6, none⟩ = some (.string nm) ∧ W.cell? ⟨w.heap.size + 1, 7, none⟩ = some (.int .u8 (kind : Int)))
        (first | exact HSS.out _ K6.out | exact HSS.out _ K5.out | exact HSS.out _ (Below.refl _ _).drew)
        (first
          | (go_at_call 12; (with_reducible refine (HD1.out _ (by first | exact K6.out | exact (Below.refl _ _).drew)).mono ?_); rintro e w5 ⟨rfl, hp5⟩; have K5 := Lib.hid (below_step (W0 := w3) (by first | exact K6.out | exact (Below.refl _ _).drew) hp5); clear hp5)
          | (go_at_call 13; (with_reducible refine (HD2.out _ (by first | exact K5.out | exact (Below.refl _ _).drew)).mono ?_); rintro e w6 ⟨rfl, hp6⟩; have K6 := Lib.hid (below_step (W0 := w3) (by first | exact K5.out | exact (Below.refl _ _).drew) hp6); clear hp6)
          | fail)
      all_goals go_wp2_with fail
      all_goals go_ret
      all_goals first
        | exact ⟨rfl, (M3.out.call K6.out).below⟩
        | exact ⟨rfl, (M3.out.call K5.out).below⟩
        | fail
    · go_wp2
      go_ret
      exact ⟨rfl, M3.out.below⟩
  · go_wp2
    go_ret
    exact ⟨rfl, M2.out.below⟩
end Go.Proofs.Ytlclhinianamhaa
