/- The program's schema.Check is the reference's. -/
import Derived.Test.YtlclhinianamhaaEvNamed
import Derived.Test.YtlclhinianamhaaRtChk
import Derived.Test.YtlclhinianamhaaBase
namespace Go.Proofs.Ytlclhinianamhaa
open Go.RowKit Go.Deep
set_option linter.unusedVariables false
set_option linter.unusedSimpArgs false

theorem idx_anyF {α : Type} (p : α → Bool) (xs : List α) : decide (0 ≤ idxF p xs) = xs.any p := by
  rcases idxF_cases p xs with ⟨h, hno⟩ | ⟨k, x, h, hx, hp, _⟩
  · rw [h]
    have : xs.any p = false := by rw [List.any_eq_false]; intro x hx; rw [hno x hx]; decide
    rw [this]; decide
  · rw [h]
    have : xs.any p = true := List.any_eq_true.2 ⟨x, List.mem_of_getElem? hx, hp⟩
    rw [this]; simp
theorem Sl.takeF {α : Type} {size : Nat} {R : Rd α} {w : World} {a : Option Addr} {n k : Nat} {xs : List α} (h : Sl size R w a n xs) (hk : k ≤ n) : Sl size R w a k (xs.take k) := by
  refine ⟨by rw [List.length_take, h.1]; omega, fun h0 => ?_⟩
  obtain ⟨b, off, h1, h2, h3⟩ := h.2 (by omega)
  refine ⟨b, off, h1, h2, fun i x hx => ?_⟩
  have hi := (List.getElem?_eq_some_iff.1 hx).1
  rw [List.length_take] at hi
  rw [List.getElem?_take_of_lt (by omega)] at hx
  exact h3 i x hx
def nameIs (name : ByteArray) (f : FieldD) : Bool := decide (f.name = name)
theorem has_any (fs : List FieldD) (k : Nat) (name : ByteArray) : hasB fs k name = (fs.take k).any (nameIs name) := by
  rw [Bool.eq_iff_iff]
  unfold hasB
  rw [List.any_eq_true, List.any_eq_true]
  constructor
  · rintro ⟨j, hj, h⟩
    cases hx : fs[j]? with
    | none => rw [hx] at h; simp at h
    | some f =>
      rw [hx] at h
      refine ⟨f, List.mem_of_getElem? (i := j) (by rw [List.getElem?_take_of_lt (by simpa using hj)]; exact hx), by simpa [nameIs] using h⟩
  · rintro ⟨f, hf, h⟩
    obtain ⟨j, hj⟩ := List.mem_iff_getElem?.1 hf
    have hjl := (List.getElem?_eq_some_iff.1 hj).1
    rw [List.length_take] at hjl
    rw [List.getElem?_take_of_lt (by omega)] at hj
    exact ⟨j, by simp; omega, by rw [hj]; simpa [nameIs] using h⟩
set_option maxRecDepth 100000 in
set_option maxHeartbeats 1000000 in
theorem contains_field (f : FuncId) (cap : Value) (hcf : ∀ (args : Array Value) (W : World), (callFunc f args).run Try.prog W = .ok (.enter f args) W) (a : Option Addr) (n c : Nat) (xs : List FieldD) (p : FieldD → Bool) (w : World) (h : Sl 4 FieldR w a n xs) (hn : n ≤ 100000)
    (hf : ∀ (W : World) (cs : List Value) (x : FieldD), Below w.heap.size w W → FieldR W cs x → x ∈ xs → Calls Try.prog f #[.agg cs.toArray, cap] W (BoolIs (p x) W)) :
    Calls Try.prog 57 #[.slice a n c, .func (.func f) #[] #[cap]] w (BoolIs (xs.any p) w) := by
  have HC := Lib.hid (index_field f cap hcf a n c xs p w h hn hf)
  rw [← idx_anyF p xs]
  generalize idxF p xs = r at *
  clear h hf hcf
  go_enter Try.func57, Try.ntmps57
  go_wp2_with fail
  refine HC.out.mono ?_
  rintro e w1 ⟨rfl, hb⟩
  go_wp2
  go_ret
  exact ⟨rfl, hb⟩
theorem schk1 (cs : List Value) (f : FieldD) (name : ByteArray) (g j : Nat) (w : World) (h : FieldR w cs f) (hg : g < w.heap.size) (hc : w.cell? ⟨g, 1, none⟩ = some (.string name)) :
    Calls Try.prog 58 #[.agg cs.toArray, .pointer (some ⟨g, 0, none⟩)] w (BoolIs (nameIs name f) w) := by
  obtain ⟨rfl, _⟩ := h
  unfold nameIs
  by_cases hid : f.name = name
  · have hb : (f.name.toList == name.toList) = true := by rw [hid]; simp
    rw [show decide (f.name = name) = true by simp [hid]]
    clear hid
    go_enter Try.func58, Try.ntmps58
    go_wp2
    go_ret
    exact ⟨rfl, (Below.refl _ _).alloc (Nat.le_refl _) _⟩
  · have hb := bytes_ne hid
    rw [show decide (f.name = name) = false by simp [hid]]
    clear hid
    go_enter Try.func58, Try.ntmps58
    go_wp2
    go_ret
    exact ⟨rfl, (Below.refl _ _).alloc (Nat.le_refl _) _⟩
def prevId (fs : List FieldD) (k : Nat) : Nat := if k = 0 then 0 else ((fs[k - 1]?).map FieldD.id).getD 0
theorem prevId_next {fs : List FieldD} {k : Nat} {f : FieldD} (h : fs[k]? = some f) : prevId fs (k + 1) = f.id := by
  unfold prevId; rw [if_neg (by omega), Nat.add_sub_cancel, h]; rfl
noncomputable def fieldChk2 (fs : List FieldD) (k : Nat) (f : FieldD) : Int :=
  if f.id ≤ prevId fs k then 81 else if namedB f.name = false then 80 else if hasB fs k f.name = true then 80
  else if (decide (1 ≤ f.kind) && decide (f.kind ≤ 3)) = false then 10 else if (f.need != decide (k = 0)) = true then 82 else if k = 0 ∧ f.kind = 2 then 82 else 0
theorem fieldChk_eq {fs : List FieldD} {k : Nat} {f : FieldD} (h : fs[k]? = some f) : fieldChk fs k = fieldChk2 fs k f := by
  unfold fieldChk fieldChk2 prevId
  rw [h]
  simp only []
  cases hnd : f.need <;> cases namedB f.name <;> cases hasB fs k f.name <;> by_cases hk : k = 0 <;> simp [hk] <;> (repeat' split) <;> first | rfl | omega | (exfalso; omega) | (simp_all; done) | (simp_all; omega)
set_option maxRecDepth 100000 in
set_option maxHeartbeats 10000000 in
theorem check_calls (cs : List Value) (s : SchemaD) (w : World) (h : SchemaR w cs s) : Calls Try.prog 36 #[.agg cs.toArray] w (ValIs (.int .i64 (schemaChk s)) w) := by
  obtain ⟨a, n, c, rfl, h1, h2, h3, hs, hid⟩ := h
  have HS := Lib.hid hs
  have HLEN := Lib.hid hs.1
  clear hs h3
  by_cases hbig : s.id = 0 ∨ n = 0 ∨ 8 < n
  · have hr : schemaChk s = 1 := by unfold schemaChk; rw [HLEN.out, if_pos hbig]
    have HR := Lib.hid hr
    clear hr
    rw [HR.out]
    go_enter Try.func36, Try.ntmps36
    by_cases hq0 : s.id = 0
    · have hqi : (s.id : Int) < 1 := by omega
      clear hq0 hbig
      go_wp2
      go_ret
      exact ⟨rfl, (Below.refl _ _).alloc (Nat.le_refl _) _⟩
    · have hqi : (1 : Int) ≤ (s.id : Int) := by omega
      by_cases hq1 : n = 0
      · have hqn : (n : Int) < 1 := by omega
        clear hq0 hbig hq1
        go_wp2
        go_ret
        exact ⟨rfl, (Below.refl _ _).alloc (Nat.le_refl _) _⟩
      · have hqn : (1 : Int) ≤ (n : Int) := by omega
        have hq8 : (8 : Int) < (n : Int) := by omega
        clear hq0 hbig hq1
        go_wp2
        go_ret
        exact ⟨rfl, (Below.refl _ _).alloc (Nat.le_refl _) _⟩
  · have hr : schemaChk s = firstBad (fieldChk s.fields) n := by unfold schemaChk; rw [HLEN.out, if_neg hbig]
    rw [hr]
    have hqi : (1 : Int) ≤ (s.id : Int) := by omega
    have hqn : (1 : Int) ≤ (n : Int) := by omega
    have hq8 : (n : Int) ≤ 8 := by omega
    have hn8 : n ≤ 8 := by omega
    clear hbig hr
    obtain ⟨G, hG⟩ : ∃ G, fieldChk s.fields = G := ⟨_, rfl⟩
    rw [hG]
    have HG := Lib.hid hG
    clear hG
    go_enter Try.func36, Try.ntmps36
    go_wp2
    have hbx : Below w.heap.size w (w.alloc (.cells #[Value.int .u32 s.id, Value.slice a n c] 25)) := (Below.refl _ _).alloc (Nat.le_refl _) _
    have hx0 : Box (w.alloc (.cells #[Value.int .u32 s.id, Value.slice a n c] 25)) w.heap.size #[Value.int .u32 s.id, Value.slice a n c] := Box.new _ _ _
    generalize w.alloc (.cells #[Value.int .u32 s.id, Value.slice a n c] 25) = W0 at *
    have X0 := Lib.hid hx0
    have HBX := Lib.hid hbx
    clear hx0 hbx
    go_loopw [3, 24] (fun l i wr => ∃ k : Nat, k ≤ n ∧ i = .int .i64 (k : Int) ∧ l = .int .u32 (prevId s.fields k : Int) ∧ firstBad G k = 0 ∧ Below W0.heap.size W0 wr) (fun _ i _ => n - (intOf i).toNat)
    case atStart => exact ⟨0, Nat.zero_le _, rfl, rfl, rfl, Below.refl _ _⟩
    case round =>
      obtain ⟨k, hk, rfl, rfl, hfb, hb⟩ := hrel
      have HB := Lib.hid hb
      have HFB := Lib.hid hfb
      clear hb hfb
      have X1 := Lib.hid (X0.out.below HB.out X0.out.lt)
      have HBW := Lib.hid (HBX.out.trans (HB.out.mono HBX.out.size))
      by_cases hlt : k < n
      · obtain ⟨b, off, f, cs, rfl, hbl, hx, hcl, hr, hcell⟩ := HS.out.at_ hlt
        obtain ⟨rfl, hfs, hfi, hfk⟩ := hr
        have d0 := (HBW.out.cell (p := ⟨b, off + k * 4 + 0, none⟩) hbl).trans (hcell 0 _ rfl)
        have d1 := (HBW.out.cell (p := ⟨b, off + k * 4 + 1, none⟩) hbl).trans (hcell 1 _ rfl)
        have d2 := (HBW.out.cell (p := ⟨b, off + k * 4 + 2, none⟩) hbl).trans (hcell 2 _ rfl)
        have d3 := (HBW.out.cell (p := ⟨b, off + k * 4 + 3, none⟩) hbl).trans (hcell 3 _ rfl)
        rw [Nat.add_zero] at d0
        have hk0 : (0 : Int) ≤ (k : Int) := by omega
        have hkn : (k : Int) < (n : Int) := by omega
        have hkc : (k : Int) ≤ (c : Int) := by omega
        have HX := Lib.hid hx
        have HPN := Lib.hid (prevId_next hx)
        have HGK := Lib.hid (show G k = fieldChk2 s.fields k f by rw [← HG.out]; exact fieldChk_eq hx)
        clear hcell hx
        have bad : ∀ r W, G k = r → r ≠ 0 → Below wr.heap.size wr W → ValIs (.int .i64 (firstBad G n)) w (.returned (.int .i64 r)) W := by
          rintro r W hr h0 hb
          refine ⟨?_, HBW.out.trans (hb.mono HBW.out.size)⟩
          rw [firstBad_at HFB.out (by rw [hr]; exact h0) hlt, hr]
        have BAD := Lib.hid bad
        clear bad
        generalize hpi : prevId s.fields k = pi at *
        have HPI := Lib.hid hpi
        clear hpi
        unfold fieldChk2 at HGK
        rw [HPI.out] at HGK
        by_cases hle : f.id ≤ pi
        · have hlei : (f.id : Int) ≤ (pi : Int) := by omega
          have HGB := Lib.hid (show G k = 81 by rw [HGK.out, if_pos hle])
          clear hle
          go_wp2
          go_ret
          exact BAD.out _ _ HGB.out (by decide) ((Below.refl _ _).alloc (Nat.le_refl _) _)
        · have hlei : (pi : Int) < (f.id : Int) := by omega
          have HLE := Lib.hid hle
          clear hle
          go_wp2_with fail
          have hb1 : Below wr.heap.size wr (wr.alloc (.cells #[Value.int .u32 f.id, Value.string f.name, Value.int .u8 f.kind, Value.bool f.need] 59)) := (Below.refl _ _).alloc (Nat.le_refl _) _
          have hz1 : Box (wr.alloc (.cells #[Value.int .u32 f.id, Value.string f.name, Value.int .u8 f.kind, Value.bool f.need] 59)) wr.heap.size #[Value.int .u32 f.id, Value.string f.name, Value.int .u8 f.kind, Value.bool f.need] := Box.new _ _ _
          generalize wr.alloc (.cells #[Value.int .u32 f.id, Value.string f.name, Value.int .u8 f.kind, Value.bool f.need] 59) = W1 at *
          refine (named_calls f.name W1 hfs).mono ?_
          rintro e W2 ⟨rfl, hb2⟩
          have Z2 := Lib.hid (hz1.call hb2)
          have HB2 := Lib.hid (hb1.trans (hb2.mono hb1.size))
          have X2 := Lib.hid (X1.out.call HB2.out)
          have HBW2 := Lib.hid (HBW.out.trans (HB2.out.mono HBW.out.size))
          clear hb1 hz1 hb2 d0 d1 d2 d3
          have z0 : W2.cell? ⟨wr.heap.size, 0, none⟩ = some (.int .u32 f.id) := Z2.out.cell 0 rfl
          have z2 : W2.cell? ⟨wr.heap.size, 2, none⟩ = some (.int .u8 f.kind) := Z2.out.cell 2 rfl
          have z3 : W2.cell? ⟨wr.heap.size, 3, none⟩ = some (.bool f.need) := Z2.out.cell 3 rfl
          have y1 : W2.cell? ⟨w.heap.size, 1, none⟩ = some (.slice (some ⟨b, off, none⟩) n c) := X2.out.cell 1 rfl
          cases hnb : namedB f.name
          · have HGB := Lib.hid (show G k = 80 by rw [HGK.out, if_neg HLE.out, if_pos hnb])
            clear hnb
            go_wp2
            go_ret
            exact BAD.out _ _ HGB.out (by decide) HB2.out
          · have HNB := Lib.hid hnb
            clear hnb
            go_wp2_with fail
            refine (contains_field 58 _ (by intro args W; kernel_rfl) _ _ _ (s.fields.take k) (nameIs f.name) W2 ((HS.out.below FieldR.stable HBW2.out).takeF (Nat.le_of_lt hlt)) (by omega) (fun W cs x hb hr _ => schk1 cs x f.name _ 0 W hr (Nat.lt_of_lt_of_le Z2.out.lt hb.size) ((Z2.out.call hb).cell 1 rfl))).mono ?_
            rintro e W3 ⟨rfl, hb3⟩
            rw [← has_any]
            have Z3 := Lib.hid (Z2.out.call hb3)
            have HB3 := Lib.hid (HB2.out.trans (hb3.mono HB2.out.size))
            have X3 := Lib.hid (X2.out.call hb3)
            clear hb3 z0 z2 z3 y1
            have z0 : W3.cell? ⟨wr.heap.size, 0, none⟩ = some (.int .u32 f.id) := Z3.out.cell 0 rfl
            have z2 : W3.cell? ⟨wr.heap.size, 2, none⟩ = some (.int .u8 f.kind) := Z3.out.cell 2 rfl
            have z3 : W3.cell? ⟨wr.heap.size, 3, none⟩ = some (.bool f.need) := Z3.out.cell 3 rfl
            cases hhb : hasB s.fields k f.name
            · have HHB := Lib.hid hhb
              clear hhb
              go_wp2_with fail
              refine (right_calls f.kind W3).mono ?_
              rintro e W4 ⟨rfl, rfl⟩
              cases hrk : (decide (1 ≤ f.kind) && decide (f.kind ≤ 3))
              · have HGB := Lib.hid (show G k = 10 by rw [HGK.out, if_neg HLE.out, if_neg (by rw [HNB.out]; simp), if_neg (by rw [HHB.out]; simp), if_pos hrk])
                clear hrk
                go_wp2
                go_ret
                exact BAD.out _ _ HGB.out (by decide) HB3.out
              · have HGL := Lib.hid (show G k = (if (f.need != decide (k = 0)) = true then 82 else if k = 0 ∧ f.kind = 2 then 82 else 0) by rw [HGK.out, if_neg HLE.out, if_neg (by rw [HNB.out]; simp), if_neg (by rw [HHB.out]; simp), if_neg (by rw [hrk]; simp)])
                clear hrk
                by_cases hkz : k = 0
                · have hkzi : ((k : Int) == 0) = true := by rw [beq_iff_eq]; omega
                  have HKZ := Lib.hid hkz
                  clear hkz
                  cases hnd : f.need
                  · have HGB := Lib.hid (show G k = 82 by rw [HGL.out, hnd, decide_eq_true HKZ.out]; rfl)
                    rw [hnd] at z3
                    clear hnd
                    go_wp2
                    go_ret
                    exact BAD.out _ _ HGB.out (by decide) HB3.out
                  · rw [hnd] at z3
                    by_cases hk2 : f.kind = 2
                    · have hk2i : ((f.kind : Int) == 2) = true := by rw [beq_iff_eq]; omega
                      have HGB := Lib.hid (show G k = 82 by rw [HGL.out, hnd, decide_eq_true HKZ.out, if_neg (by decide), if_pos ⟨HKZ.out, hk2⟩])
                      clear hnd hk2
                      go_wp2
                      go_ret
                      exact BAD.out _ _ HGB.out (by decide) HB3.out
                    · have hk2i : ((f.kind : Int) == 2) = false := by rw [beq_eq_false_iff_ne]; omega
                      have HGG := Lib.hid (show G k = 0 by rw [HGL.out, hnd, decide_eq_true HKZ.out, if_neg (by decide), if_neg (fun h => hk2 h.2)])
                      clear hnd hk2
                      go_wp2
                      go_roundw
                      case rel => exact ⟨k + 1, by omega, by go_num, by rw [HPN.out], firstBad_next HFB.out HGG.out, HB.out.trans (HB3.out.mono HB.out.size)⟩
                      case measure => simp [intOf] <;> omega
                · have hkzi : ((k : Int) == 0) = false := by rw [beq_eq_false_iff_ne]; omega
                  have HKZ := Lib.hid hkz
                  clear hkz
                  cases hnd : f.need
                  · have HGG := Lib.hid (show G k = 0 by rw [HGL.out, hnd, decide_eq_false HKZ.out, if_neg (by decide), if_neg (fun h => HKZ.out h.1)])
                    rw [hnd] at z3
                    clear hnd
                    go_wp2
                    go_roundw
                    case rel => exact ⟨k + 1, by omega, by go_num, by rw [HPN.out], firstBad_next HFB.out HGG.out, HB.out.trans (HB3.out.mono HB.out.size)⟩
                    case measure => simp [intOf] <;> omega
                  · have HGB := Lib.hid (show G k = 82 by rw [HGL.out, hnd, decide_eq_false HKZ.out]; rfl)
                    rw [hnd] at z3
                    clear hnd
                    go_wp2
                    go_ret
                    exact BAD.out _ _ HGB.out (by decide) HB3.out
            · have HGB := Lib.hid (show G k = 80 by rw [HGK.out, if_neg HLE.out, if_neg (by rw [HNB.out]; simp), if_pos hhb])
              clear hhb
              go_wp2
              go_ret
              exact BAD.out _ _ HGB.out (by decide) HB3.out
      · obtain rfl : k = n := by omega
        have y1 : wr.cell? ⟨w.heap.size, 1, none⟩ = some (.slice a k c) := X1.out.cell 1 rfl
        go_wp2
        go_ret
        exact ⟨by rw [HFB.out]; rfl, HBW.out⟩
end Go.Proofs.Ytlclhinianamhaa
