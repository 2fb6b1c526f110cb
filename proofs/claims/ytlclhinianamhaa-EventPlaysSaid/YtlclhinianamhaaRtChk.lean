/- The contract of catchmentref08.Check: its very number. -/
import Derived.Test.YtlclhinianamhaaRt1
import Derived.Test.YtlclhinianamhaaRtNamed
import Derived.Test.YtlclhinianamhaaBase
namespace Go.Proofs.Ytlclhinianamhaa
open Go.RowKit Go.Deep
set_option linter.unusedVariables false
set_option linter.unusedSimpArgs false

/-- The first number of g 0, g 1, .. g (n-1) that is not 0; else 0. -/
def firstBad (g : Nat → Int) : Nat → Int
  | 0 => 0
  | n + 1 => if firstBad g n ≠ 0 then firstBad g n else g n
theorem firstBad_next {g : Nat → Int} {k : Nat} (h : firstBad g k = 0) (hk : g k = 0) : firstBad g (k + 1) = 0 := by
  show (if firstBad g k ≠ 0 then firstBad g k else g k) = 0
  rw [if_neg (by rw [h]; simp), hk]
theorem firstBad_at {g : Nat → Int} {k : Nat} (h : firstBad g k = 0) (hk : g k ≠ 0) : ∀ {n}, k < n → firstBad g n = g k
  | n + 1, hn => by
    show (if firstBad g n ≠ 0 then firstBad g n else g n) = g k
    rcases Nat.lt_or_ge k n with h1 | h1
    · rw [firstBad_at h hk h1, if_pos hk]
    · obtain rfl : k = n := by omega
      rw [if_neg (by rw [h]; simp)]
theorem firstBad_all {g : Nat → Int} : ∀ {n}, firstBad g n = 0 → ∀ k, k < n → g k = 0
  | n + 1, h, k, hk => by
    have h : (if firstBad g n ≠ 0 then firstBad g n else g n) = 0 := h
    by_cases h0 : firstBad g n = 0
    · rw [if_neg (by rw [h0]; simp)] at h
      rcases Nat.lt_or_ge k n with h1 | h1
      · exact firstBad_all h0 k h1
      · obtain rfl : k = n := by omega
        exact h
    · rw [if_pos h0] at h; exact absurd h h0
noncomputable def fieldChk (fs : List FieldD) (k : Nat) : Int :=
  match fs[k]? with
  | none => 0
  | some f =>
    if f.id = 0 then 81 else if 0 < k ∧ f.id ≤ ((fs[k - 1]?).map FieldD.id).getD 0 then 81
    else if namedB f.name = false then 80 else if hasB fs k f.name = true then 80
    else if f.kind < 1 then 10 else if 3 < f.kind then 10
    else if k = 0 ∧ f.need = false then 82 else if k = 0 ∧ f.kind = 2 then 82 else if 0 < k ∧ f.need = true then 82 else 0
noncomputable def schemaChk (s : SchemaD) : Int :=
  if s.id = 0 ∨ s.fields.length = 0 ∨ 8 < s.fields.length then 1 else firstBad (fieldChk s.fields) s.fields.length

set_option maxRecDepth 100000 in
set_option maxHeartbeats 10000000 in
theorem check08 (cs : List Value) (s : SchemaD) (w : World) (h : SchemaR w cs s) : Calls Try.prog 14 #[.agg cs.toArray] w (ValIs (.int .i64 (schemaChk s)) w) := by
  obtain ⟨a, n, c, rfl, h1, h2, h3, hs, hid⟩ := h
  have HS := Lib.hid hs
  have HLEN := Lib.hid hs.1
  clear hs h3
  by_cases hbig : s.id = 0 ∨ n = 0 ∨ 8 < n
  · have hr : schemaChk s = 1 := by unfold schemaChk; rw [HLEN.out, if_pos hbig]
    have HR := Lib.hid hr
    clear hr
    rw [HR.out]
    go_enter Try.func14, Try.ntmps14
    rcases hbig with hq | hq | hq
    · have hqi : ((s.id : Int) == 0) = true := by rw [beq_iff_eq]; omega
      clear hq
      go_wp2
      go_ret
      exact ⟨rfl, (Below.refl _ _).alloc (Nat.le_refl _) _⟩
    · by_cases hq0 : s.id = 0
      · have hqi : ((s.id : Int) == 0) = true := by rw [beq_iff_eq]; omega
        clear hq0
        go_wp2
        go_ret
        exact ⟨rfl, (Below.refl _ _).alloc (Nat.le_refl _) _⟩
      · have hqi : ((s.id : Int) == 0) = false := by rw [beq_eq_false_iff_ne]; omega
        have hqn : ((n : Int) == 0) = true := by rw [beq_iff_eq]; omega
        clear hq0 hq
        go_wp2
        go_ret
        exact ⟨rfl, (Below.refl _ _).alloc (Nat.le_refl _) _⟩
    · by_cases hq0 : s.id = 0
      · have hqi : ((s.id : Int) == 0) = true := by rw [beq_iff_eq]; omega
        clear hq0
        go_wp2
        go_ret
        exact ⟨rfl, (Below.refl _ _).alloc (Nat.le_refl _) _⟩
      · have hqi : ((s.id : Int) == 0) = false := by rw [beq_eq_false_iff_ne]; omega
        have hqn : ((n : Int) == 0) = false := by rw [beq_eq_false_iff_ne]; omega
        have hq8 : (8 : Int) < (n : Int) := by omega
        clear hq0 hq
        go_wp2
        go_ret
        exact ⟨rfl, (Below.refl _ _).alloc (Nat.le_refl _) _⟩
  · have hr : schemaChk s = firstBad (fieldChk s.fields) n := by unfold schemaChk; rw [HLEN.out, if_neg hbig]
    rw [hr]
    have hqi : ((s.id : Int) == 0) = false := by rw [beq_eq_false_iff_ne]; omega
    have hqn : ((n : Int) == 0) = false := by rw [beq_eq_false_iff_ne]; omega
    have hq8 : (n : Int) ≤ 8 := by omega
    have hn8 : n ≤ 8 := by omega
    clear hbig hr
    obtain ⟨G, hG⟩ : ∃ G, fieldChk s.fields = G := ⟨_, rfl⟩
    rw [hG]
    have HG := Lib.hid hG
    clear hG
    go_enter Try.func14, Try.ntmps14
    go_wp2
    have hbx : Below w.heap.size w (w.alloc (.cells #[Value.int .u32 s.id, Value.slice a n c] 25)) := (Below.refl _ _).alloc (Nat.le_refl _) _
    have hcx : ∀ (i : Nat) (v : Value), (#[Value.int .u32 s.id, Value.slice a n c] : Array Value)[i]? = some v → (w.alloc (.cells #[Value.int .u32 s.id, Value.slice a n c] 25)).cell? ⟨w.heap.size, i, none⟩ = some v := fun i v h => by rw [World.cell?_alloc_new]; exact h
    have hzx : w.heap.size < (w.alloc (.cells #[Value.int .u32 s.id, Value.slice a n c] 25)).heap.size := by simp
    generalize w.alloc (.cells #[Value.int .u32 s.id, Value.slice a n c] 25) = W0 at *
    have x0 := Lib.hid (hcx 0 _ rfl)
    have x1 := Lib.hid (hcx 1 _ rfl)
    have HBX := Lib.hid hbx
    clear hcx hbx
    go_loopw [3] (fun i wr => ∃ k : Nat, k ≤ n ∧ i = .int .i64 (k : Int) ∧ firstBad G k = 0 ∧ Below W0.heap.size W0 wr) (fun i _ => n - (intOf i).toNat)
    case atStart => exact ⟨0, Nat.zero_le _, rfl, rfl, Below.refl _ _⟩
    case round =>
      obtain ⟨k, hk, rfl, hfb, hb⟩ := hrel
      have HB := Lib.hid hb
      have HFB := Lib.hid hfb
      have y1 := (hb.cell (p := ⟨w.heap.size, 1, none⟩) hzx).trans x1.out
      have hzr := hb.size
      clear hb hfb
      by_cases hlt : k < n
      · obtain ⟨b, off, f, cs, rfl, hbl, hx, hcl, hr, hcell⟩ := HS.out.at_ hlt
        obtain ⟨rfl, hfs, hfi, hfk⟩ := hr
        have hbw := HBX.out.trans (HB.out.mono (Nat.le_of_lt hzx))
        have d0 := (hbw.cell (p := ⟨b, off + k * 4 + 0, none⟩) hbl).trans (hcell 0 _ rfl)
        have d1 := (hbw.cell (p := ⟨b, off + k * 4 + 1, none⟩) hbl).trans (hcell 1 _ rfl)
        have d2 := (hbw.cell (p := ⟨b, off + k * 4 + 2, none⟩) hbl).trans (hcell 2 _ rfl)
        have d3 := (hbw.cell (p := ⟨b, off + k * 4 + 3, none⟩) hbl).trans (hcell 3 _ rfl)
        rw [Nat.add_zero] at d0
        have hk0 : (0 : Int) ≤ (k : Int) := by omega
        have hkn : (k : Int) < (n : Int) := by omega
        have HBW := Lib.hid hbw
        have HX := Lib.hid hx
        clear hcell hx hbw
        have hkc : (k : Int) ≤ (c : Int) := by omega
        go_wp2_with fail
        have hb1 : Below W0.heap.size W0 (wr.alloc (.cells #[Value.int .u32 f.id, Value.string f.name, Value.int .u8 f.kind, Value.bool f.need] 59)) := HB.out.alloc HB.out.size _
        have hc1 : ∀ (i : Nat) (v : Value), (#[Value.int .u32 f.id, Value.string f.name, Value.int .u8 f.kind, Value.bool f.need] : Array Value)[i]? = some v → (wr.alloc (.cells #[Value.int .u32 f.id, Value.string f.name, Value.int .u8 f.kind, Value.bool f.need] 59)).cell? ⟨wr.heap.size, i, none⟩ = some v := fun i v h => by rw [World.cell?_alloc_new]; exact h
        have hzr1 : wr.heap.size < (wr.alloc (.cells #[Value.int .u32 f.id, Value.string f.name, Value.int .u8 f.kind, Value.bool f.need] 59)).heap.size := by simp
        generalize wr.alloc (.cells #[Value.int .u32 f.id, Value.string f.name, Value.int .u8 f.kind, Value.bool f.need] 59) = W1 at *
        have z0 := hc1 0 _ rfl
        have z1 := hc1 1 _ rfl
        have z2 := hc1 2 _ rfl
        have z3 := hc1 3 _ rfl
        have HB1 := Lib.hid hb1
        have y11 := (hb1.cell (p := ⟨w.heap.size, 1, none⟩) hzx).trans x1.out
        have hzw1 : w.heap.size < W1.heap.size := by omega
        clear hc1 hb1 y1 d0 d1 d2 d3
        have bad : ∀ r W, G k = r → r ≠ 0 → Below W1.heap.size W1 W → ValIs (.int .i64 (firstBad G n)) w (.returned (.int .i64 r)) W := by
          rintro r W hr h0 hb
          refine ⟨?_, HBX.out.trans ((HB1.out.trans (hb.mono HB1.out.size)).mono (Nat.le_of_lt hzx))⟩
          rw [firstBad_at HFB.out (by rw [hr]; exact h0) hlt, hr]
        have BAD := Lib.hid bad
        have hgk : G k = fieldChk s.fields k := by rw [HG.out]
        unfold fieldChk at hgk
        rw [HX.out] at hgk
        simp only [] at hgk
        have HGK := Lib.hid hgk
        clear bad hgk
        by_cases hf0 : f.id = 0
        · have hq0 : ((f.id : Int) == 0) = true := by rw [beq_iff_eq]; omega
          have HF0 := Lib.hid hf0
          clear hf0
          go_quiet (fail)
          go_wp2
          go_ret
          refine BAD.out _ _ ?_ (by decide) (below_drewN (Below.refl _ _) _)
          rw [HGK.out, if_pos HF0.out]
        · have hq0 : ((f.id : Int) == 0) = false := by rw [beq_eq_false_iff_ne]; omega
          have HF0 := Lib.hid hf0
          clear hf0
          by_cases hkz : k = 0
          · subst hkz
            have HPR := Lib.hid (show ¬ (0 < 0 ∧ f.id ≤ ((s.fields[0 - 1]?).map FieldD.id).getD 0) from fun h => by omega)
            go_quiet (fail)
            go_wp2_with fail
            generalize hW2 : W1.drewN nq = W2 at *
            have hb12 : Below W1.heap.size W1 W2 := by rw [← hW2]; exact below_drewN (Below.refl _ _) _
            have HB12 := Lib.hid hb12
            have kz0 := fun g : Kept W2 => (g.h.cell (p := ⟨wr.heap.size, 0, none⟩) (Nat.lt_of_lt_of_le hzr1 hb12.size)).trans ((hb12.cell (p := ⟨wr.heap.size, 0, none⟩) hzr1).trans z0)
            have kz1 := fun g : Kept W2 => (g.h.cell (p := ⟨wr.heap.size, 1, none⟩) (Nat.lt_of_lt_of_le hzr1 hb12.size)).trans ((hb12.cell (p := ⟨wr.heap.size, 1, none⟩) hzr1).trans z1)
            have ky1 := fun g : Kept W2 => (g.h.cell (p := ⟨w.heap.size, 1, none⟩) (Nat.lt_of_lt_of_le hzw1 hb12.size)).trans ((hb12.cell (p := ⟨w.heap.size, 1, none⟩) hzw1).trans y11)
            have HNM := Lib.hid (fun W => named08 f.name W hfs)
            have HHAS := Lib.hid (fun (W : World) (hb : Below W2.heap.size W2 W) => has08 (some ⟨b, off, none⟩) (0) n c s.fields f.name W (HS.out.below FieldR.stable (HBX.out.trans ((HB1.out.trans ((hb12.trans (hb.mono hb12.size)).mono HB1.out.size)).mono (Nat.le_of_lt hzx)))) (Nat.le_of_lt hlt) (by omega))
            have hzr2 := Nat.lt_of_lt_of_le hzr1 hb12.size
            clear hW2 hb12 z0 z1 y11
            cases hnb : namedB f.name
            · have HNB := Lib.hid hnb
              have hnm : ∀ W, Calls Try.prog 45 #[.string f.name] W (ValIs (.bool false) W) := fun W => by have := HNM.out W; unfold NamedPost at this; rw [hnb] at this; exact this
              have HNMV := Lib.hid hnm
              clear hnm hnb
              refine wp_region_kept (by kernel_rfl) (by kernel_rfl) ?_
              repeat (go_big_quiet_step (first | (go_at_call 45; with_reducible exact kept_call (HNMV.out _))))
              refine wpQuiet_nil ?_
              intro W3 hb3
              have HB3 := Lib.hid (HB12.out.trans (hb3.mono HB12.out.size))
              clear hb3 kz0 kz1 ky1
              go_wp2
              go_ret
              refine BAD.out _ _ ?_ (by decide) HB3.out
              rw [HGK.out, if_neg HF0.out, if_neg HPR.out, if_pos HNB.out]
            · have HNB := Lib.hid hnb
              have hnm : ∀ W, Calls Try.prog 45 #[.string f.name] W (ValIs (.bool true) W) := fun W => by have := HNM.out W; unfold NamedPost at this; rw [hnb] at this; exact this
              have HNMV := Lib.hid hnm
              clear hnm hnb
              cases hhb : hasB s.fields (0) f.name
              · have HHB := Lib.hid hhb
                have hhs : ∀ g : Kept W2, Calls Try.prog 46 #[.slice (some ⟨b, off, none⟩) (0) c, .string f.name] g.W (ValQ (.bool false) g.W) := fun g => (HHAS.out _ g.h).mono fun e w' ⟨he, hw⟩ => ⟨by rw [he, hhb], 0, hw⟩
                have HHSV := Lib.hid hhs
                clear hhs hhb
                refine wp_region_kept (by kernel_rfl) (by kernel_rfl) ?_
                repeat (go_big_quiet_step (first | (go_at_call 45; with_reducible exact kept_call (HNMV.out _)) | (go_at_call 46; with_reducible exact kept_callQ (HHSV.out _))))
                refine wpQuiet_nil ?_
                intro W3 hb3
                have z2' := (hb3.cell (p := ⟨wr.heap.size, 2, none⟩) hzr2).trans ((HB12.out.cell (p := ⟨wr.heap.size, 2, none⟩) hzr1).trans z2)
                have z3' := (hb3.cell (p := ⟨wr.heap.size, 3, none⟩) hzr2).trans ((HB12.out.cell (p := ⟨wr.heap.size, 3, none⟩) hzr1).trans z3)
                have HB3 := Lib.hid (HB12.out.trans (hb3.mono HB12.out.size))
                clear hb3 kz0 kz1 ky1 z2 z3
                by_cases hk1 : f.kind < 1
                · have hk1i : (f.kind : Int) < 1 := by omega
                  have HK1 := Lib.hid hk1
                  clear hk1
                  go_wp2
                  go_ret
                  refine BAD.out _ _ ?_ (by decide) HB3.out
                  rw [HGK.out, if_neg HF0.out, if_neg HPR.out, if_neg (by rw [HNB.out]; simp), if_neg (by rw [HHB.out]; simp), if_pos HK1.out]
                · have hk1i : (1 : Int) ≤ (f.kind : Int) := by omega
                  have HK1 := Lib.hid hk1
                  clear hk1
                  by_cases hk3 : 3 < f.kind
                  · have hk3i : (3 : Int) < (f.kind : Int) := by omega
                    have HK3 := Lib.hid hk3
                    clear hk3
                    go_wp2
                    go_ret
                    refine BAD.out _ _ ?_ (by decide) HB3.out
                    rw [HGK.out, if_neg HF0.out, if_neg HPR.out, if_neg (by rw [HNB.out]; simp), if_neg (by rw [HHB.out]; simp), if_neg HK1.out, if_pos HK3.out]
                  · have hk3i : (f.kind : Int) ≤ 3 := by omega
                    have HK3 := Lib.hid hk3
                    clear hk3
                    have gk : G (0) = (if (0) = 0 ∧ f.need = false then 82 else if (0) = 0 ∧ f.kind = 2 then 82 else if 0 < (0) ∧ f.need = true then 82 else 0) := by
                      rw [HGK.out, if_neg HF0.out, if_neg HPR.out, if_neg (by rw [HNB.out]; simp), if_neg (by rw [HHB.out]; simp), if_neg HK1.out, if_neg HK3.out]
                      try simp
                    have GK := Lib.hid gk
                    clear gk
                    cases hnd : f.need
                    · have HND := Lib.hid hnd
                      rw [hnd] at z3'
                      clear hnd
                      go_wp2
                      go_ret
                      refine BAD.out _ _ ?_ (by decide) HB3.out
                      rw [GK.out, if_pos ⟨by simp, HND.out⟩]
                    · have HND := Lib.hid hnd
                      rw [hnd] at z3'
                      clear hnd
                      by_cases hk2 : f.kind = 2
                      · have hk2i : ((f.kind : Int) == 2) = true := by rw [beq_iff_eq]; omega
                        have HK2 := Lib.hid hk2
                        clear hk2
                        go_wp2
                        go_ret
                        refine BAD.out _ _ ?_ (by decide) HB3.out
                        rw [GK.out, if_neg (by rw [HND.out]; simp), if_pos ⟨by simp, HK2.out⟩]
                      · have hk2i : ((f.kind : Int) == 2) = false := by rw [beq_eq_false_iff_ne]; omega
                        have HK2 := Lib.hid hk2
                        clear hk2
                        go_wp2
                        go_roundw
                        case rel => exact ⟨0 + 1, by omega, by go_num, firstBad_next HFB.out (by rw [GK.out, if_neg (by rw [HND.out]; simp), if_neg (fun h => HK2.out h.2), if_neg (by omega)]), HB1.out.trans (HB3.out.mono HB1.out.size)⟩
                        case measure => simp [intOf] <;> omega
              · have HHB := Lib.hid hhb
                have hhs : ∀ g : Kept W2, Calls Try.prog 46 #[.slice (some ⟨b, off, none⟩) (0) c, .string f.name] g.W (ValQ (.bool true) g.W) := fun g => (HHAS.out _ g.h).mono fun e w' ⟨he, hw⟩ => ⟨by rw [he, hhb], 0, hw⟩
                have HHSV := Lib.hid hhs
                clear hhs hhb
                refine wp_region_kept (by kernel_rfl) (by kernel_rfl) ?_
                repeat (go_big_quiet_step (first | (go_at_call 45; with_reducible exact kept_call (HNMV.out _)) | (go_at_call 46; with_reducible exact kept_callQ (HHSV.out _))))
                refine wpQuiet_nil ?_
                intro W3 hb3
                have HB3 := Lib.hid (HB12.out.trans (hb3.mono HB12.out.size))
                clear hb3 kz0 kz1 ky1
                go_wp2
                go_ret
                refine BAD.out _ _ ?_ (by decide) HB3.out
                rw [HGK.out, if_neg HF0.out, if_neg HPR.out, if_neg (by rw [HNB.out]; simp), if_pos HHB.out]
          · obtain ⟨kk, rfl⟩ : ∃ kk, k = kk + 1 := ⟨k - 1, by omega⟩
            obtain ⟨b', off', f', cs', he', hbl', hx', hcl', hr', hcell'⟩ := HS.out.at_ (i := kk) (by omega)
            cases he'
            obtain ⟨rfl, _, _, _⟩ := hr'
            have hbw1 := HBX.out.trans (HB1.out.mono (Nat.le_of_lt hzx))
            have p0 := (hbw1.cell (p := ⟨b, off + kk * 4 + 0, none⟩) hbl).trans (hcell' 0 _ rfl)
            rw [Nat.add_zero] at p0
            have hk1 : (0 : Int) < ((kk : Int) + 1) := by omega
            have hk2 : (0 : Int) ≤ ((kk : Int) + 1) := by omega
            have hk3 : ((kk : Int) + 1) < (n : Int) := by omega
            have hk4 : ((kk : Int) + 1) ≤ (c : Int) := by omega
            have hkk0 : (0 : Int) ≤ (kk : Int) := by omega
            have hkkn : (kk : Int) < (n : Int) := by omega
            have hwr : IntKind.i64.wrap (kk : Int) = (kk : Int) := wrap_small _ (by omega) (by omega)
            have hpr : ((s.fields[kk + 1 - 1]?).map FieldD.id).getD 0 = f'.id := by rw [Nat.add_sub_cancel, hx']; rfl
            have HPP := Lib.hid hpr
            clear hbw1 hcell' hx' hkz hpr
            by_cases hle : f.id ≤ f'.id
            · have hlei : (f.id : Int) ≤ (f'.id : Int) := by omega
              have HLE := Lib.hid hle
              clear hle
              go_quiet (fail)
              go_wp2
              go_ret
              refine BAD.out _ _ ?_ (by decide) (below_drewN (Below.refl _ _) _)
              rw [HGK.out, if_neg HF0.out, if_pos ⟨by omega, by rw [HPP.out]; exact HLE.out⟩]
            · have hlei : (f'.id : Int) < (f.id : Int) := by omega
              have HPR := Lib.hid (show ¬ (0 < kk + 1 ∧ f.id ≤ ((s.fields[kk + 1 - 1]?).map FieldD.id).getD 0) from fun h => hle (by have := h.2; rw [HPP.out] at this; exact this))
              clear hle
              go_quiet (fail)
              go_wp2_with fail
              generalize hW2 : W1.drewN nq = W2 at *
              have hb12 : Below W1.heap.size W1 W2 := by rw [← hW2]; exact below_drewN (Below.refl _ _) _
              have HB12 := Lib.hid hb12
              have kz0 := fun g : Kept W2 => (g.h.cell (p := ⟨wr.heap.size, 0, none⟩) (Nat.lt_of_lt_of_le hzr1 hb12.size)).trans ((hb12.cell (p := ⟨wr.heap.size, 0, none⟩) hzr1).trans z0)
              have kz1 := fun g : Kept W2 => (g.h.cell (p := ⟨wr.heap.size, 1, none⟩) (Nat.lt_of_lt_of_le hzr1 hb12.size)).trans ((hb12.cell (p := ⟨wr.heap.size, 1, none⟩) hzr1).trans z1)
              have ky1 := fun g : Kept W2 => (g.h.cell (p := ⟨w.heap.size, 1, none⟩) (Nat.lt_of_lt_of_le hzw1 hb12.size)).trans ((hb12.cell (p := ⟨w.heap.size, 1, none⟩) hzw1).trans y11)
              have HNM := Lib.hid (fun W => named08 f.name W hfs)
              have HHAS := Lib.hid (fun (W : World) (hb : Below W2.heap.size W2 W) => has08 (some ⟨b, off, none⟩) ((kk + 1)) n c s.fields f.name W (HS.out.below FieldR.stable (HBX.out.trans ((HB1.out.trans ((hb12.trans (hb.mono hb12.size)).mono HB1.out.size)).mono (Nat.le_of_lt hzx)))) (Nat.le_of_lt hlt) (by omega))
              have hzr2 := Nat.lt_of_lt_of_le hzr1 hb12.size
              clear hW2 hb12 z0 z1 y11
              cases hnb : namedB f.name
              · have HNB := Lib.hid hnb
                have hnm : ∀ W, Calls Try.prog 45 #[.string f.name] W (ValIs (.bool false) W) := fun W => by have := HNM.out W; unfold NamedPost at this; rw [hnb] at this; exact this
                have HNMV := Lib.hid hnm
                clear hnm hnb
                refine wp_region_kept (by kernel_rfl) (by kernel_rfl) ?_
                repeat (go_big_quiet_step (first | (go_at_call 45; with_reducible exact kept_call (HNMV.out _))))
                refine wpQuiet_nil ?_
                intro W3 hb3
                have HB3 := Lib.hid (HB12.out.trans (hb3.mono HB12.out.size))
                clear hb3 kz0 kz1 ky1
                go_wp2
                go_ret
                refine BAD.out _ _ ?_ (by decide) HB3.out
                rw [HGK.out, if_neg HF0.out, if_neg HPR.out, if_pos HNB.out]
              · have HNB := Lib.hid hnb
                have hnm : ∀ W, Calls Try.prog 45 #[.string f.name] W (ValIs (.bool true) W) := fun W => by have := HNM.out W; unfold NamedPost at this; rw [hnb] at this; exact this
                have HNMV := Lib.hid hnm
                clear hnm hnb
                cases hhb : hasB s.fields ((kk + 1)) f.name
                · have HHB := Lib.hid hhb
                  have hhs : ∀ g : Kept W2, Calls Try.prog 46 #[.slice (some ⟨b, off, none⟩) ((kk + 1)) c, .string f.name] g.W (ValQ (.bool false) g.W) := fun g => (HHAS.out _ g.h).mono fun e w' ⟨he, hw⟩ => ⟨by rw [he, hhb], 0, hw⟩
                  have HHSV := Lib.hid hhs
                  clear hhs hhb
                  refine wp_region_kept (by kernel_rfl) (by kernel_rfl) ?_
                  repeat (go_big_quiet_step (first | (go_at_call 45; with_reducible exact kept_call (HNMV.out _)) | (go_at_call 46; with_reducible exact kept_callQ (HHSV.out _))))
                  refine wpQuiet_nil ?_
                  intro W3 hb3
                  have z2' := (hb3.cell (p := ⟨wr.heap.size, 2, none⟩) hzr2).trans ((HB12.out.cell (p := ⟨wr.heap.size, 2, none⟩) hzr1).trans z2)
                  have z3' := (hb3.cell (p := ⟨wr.heap.size, 3, none⟩) hzr2).trans ((HB12.out.cell (p := ⟨wr.heap.size, 3, none⟩) hzr1).trans z3)
                  have HB3 := Lib.hid (HB12.out.trans (hb3.mono HB12.out.size))
                  clear hb3 kz0 kz1 ky1 z2 z3
                  by_cases hk1 : f.kind < 1
                  · have hk1i : (f.kind : Int) < 1 := by omega
                    have HK1 := Lib.hid hk1
                    clear hk1
                    go_wp2
                    go_ret
                    refine BAD.out _ _ ?_ (by decide) HB3.out
                    rw [HGK.out, if_neg HF0.out, if_neg HPR.out, if_neg (by rw [HNB.out]; simp), if_neg (by rw [HHB.out]; simp), if_pos HK1.out]
                  · have hk1i : (1 : Int) ≤ (f.kind : Int) := by omega
                    have HK1 := Lib.hid hk1
                    clear hk1
                    by_cases hk3 : 3 < f.kind
                    · have hk3i : (3 : Int) < (f.kind : Int) := by omega
                      have HK3 := Lib.hid hk3
                      clear hk3
                      go_wp2
                      go_ret
                      refine BAD.out _ _ ?_ (by decide) HB3.out
                      rw [HGK.out, if_neg HF0.out, if_neg HPR.out, if_neg (by rw [HNB.out]; simp), if_neg (by rw [HHB.out]; simp), if_neg HK1.out, if_pos HK3.out]
                    · have hk3i : (f.kind : Int) ≤ 3 := by omega
                      have HK3 := Lib.hid hk3
                      clear hk3
                      have gk : G ((kk + 1)) = (if ((kk + 1)) = 0 ∧ f.need = false then 82 else if ((kk + 1)) = 0 ∧ f.kind = 2 then 82 else if 0 < ((kk + 1)) ∧ f.need = true then 82 else 0) := by
                        rw [HGK.out, if_neg HF0.out, if_neg HPR.out, if_neg (by rw [HNB.out]; simp), if_neg (by rw [HHB.out]; simp), if_neg HK1.out, if_neg HK3.out]
                        try simp
                      have GK := Lib.hid gk
                      clear gk
                      cases hnd : f.need
                      · have HND := Lib.hid hnd
                        rw [hnd] at z3'
                        clear hnd
                        go_wp2
                        go_roundw
                        case rel => exact ⟨(kk + 1) + 1, by omega, by go_num, firstBad_next HFB.out (by rw [GK.out, if_neg (by omega), if_neg (by omega), if_neg (by rw [HND.out]; simp)]), HB1.out.trans (HB3.out.mono HB1.out.size)⟩
                        case measure => simp [intOf] <;> omega
                      · have HND := Lib.hid hnd
                        rw [hnd] at z3'
                        clear hnd
                        go_wp2
                        go_ret
                        refine BAD.out _ _ ?_ (by decide) HB3.out
                        rw [GK.out, if_neg (by omega), if_neg (by omega), if_pos ⟨by omega, HND.out⟩]
                · have HHB := Lib.hid hhb
                  have hhs : ∀ g : Kept W2, Calls Try.prog 46 #[.slice (some ⟨b, off, none⟩) ((kk + 1)) c, .string f.name] g.W (ValQ (.bool true) g.W) := fun g => (HHAS.out _ g.h).mono fun e w' ⟨he, hw⟩ => ⟨by rw [he, hhb], 0, hw⟩
                  have HHSV := Lib.hid hhs
                  clear hhs hhb
                  refine wp_region_kept (by kernel_rfl) (by kernel_rfl) ?_
                  repeat (go_big_quiet_step (first | (go_at_call 45; with_reducible exact kept_call (HNMV.out _)) | (go_at_call 46; with_reducible exact kept_callQ (HHSV.out _))))
                  refine wpQuiet_nil ?_
                  intro W3 hb3
                  have HB3 := Lib.hid (HB12.out.trans (hb3.mono HB12.out.size))
                  clear hb3 kz0 kz1 ky1
                  go_wp2
                  go_ret
                  refine BAD.out _ _ ?_ (by decide) HB3.out
                  rw [HGK.out, if_neg HF0.out, if_neg HPR.out, if_neg (by rw [HNB.out]; simp), if_pos HHB.out]
      · obtain rfl : k = n := by omega
        go_wp2
        go_ret
        exact ⟨by rw [HFB.out]; rfl, HBX.out.trans (HB.out.mono (Nat.le_of_lt hzx))⟩
end Go.Proofs.Ytlclhinianamhaa
