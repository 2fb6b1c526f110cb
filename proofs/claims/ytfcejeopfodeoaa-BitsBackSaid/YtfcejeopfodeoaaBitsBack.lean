/- Numbers that are packed, with any width that is wide enough, are unpacked; bytes that are unpacked are packed as they were. For every input, under no condition of its own. -/
import Derived.Test.YtfcejeopfodeoaaRows
import Derived.WalkKit
import Derived.ProofKit
import Derived.OpenShut
import Derived.ShutString
import Derived.ChangeOld
import Derived.Below
import Derived.Test.YtfcejeopfodeoaaBack
import Derived.Test.YtfcejeopfodeoaaAlive
import Derived.Test.YtfcejeopfodeoaaKit2
namespace Go.Proofs.Ytfcejeopfodeoaa.bitsBack
open Go.ChangeShapes Go.WideShapes Go.ChangeAt Go.RowKit
open Go.ChangeMaps (open_string shut_string)
set_option linter.unusedVariables false

theorem own : ownKnob Try.prog.godebug = none := by kernel_rfl
theorem laidOut : laidOutB Try.prog = true := by kernel_rfl

/-- WHAT THE WALK IS TOLD OF A SLICE OF INTEGERS THAT CAME IN: it is nil; or it leads to a row of 'cap' cells, the numbers 'zs' (the first 'len' are its elements, the rest its spare room), each fitting its kind. -/
def IsRow (k : IntKind) (w : World) (a : Option Addr) (len cap : Nat) (zs : List Int) : Prop :=
  (a = none ∧ len = 0 ∧ cap = 0 ∧ zs = []) ∨
  ∃ x, a = some x ∧ len ≤ cap ∧ cap ≤ maxLen ∧ zs.length = cap ∧ (∀ i, i < zs.length → w.cell? (x.add i) = some (.int k (zs.getD i 0))) ∧ ∀ n ∈ zs, (Lit.int k n).wf = true

theorem wide_more (wd : Nat) (a : Int) (h : wd ≤ 64) : ∃ d : Nat, min 64 (wrap64 ((wd : Int) + wrap64 ((IntKind.u64.wrap a).tmod 9))) = (d : Int) ∧ wd ≤ d ∧ d ≤ 64 := by
  have h0 : 0 ≤ IntKind.u64.wrap a := by rw [IntKind.wrap_u64]; omega
  rw [Int.tmod_eq_emod_of_nonneg h0]
  generalize IntKind.u64.wrap a = b at *
  have h1 : wrap64 (b % 9) = b % 9 := IntWalk.wrap64_in _ (by omega)
  have h2 : wrap64 ((wd : Int) + b % 9) = (wd : Int) + b % 9 := IntWalk.wrap64_in _ (by omega)
  rw [h1, h2]
  exact ⟨(min 64 ((wd : Int) + b % 9)).toNat, by omega, by omega, by omega⟩

/-! ### STEP 1: THE WALK: the Go text returns true, AND WRITES NOTHING THAT WAS THERE: 'Below w.heap.size w w'' (Derived/Below.lean: '.refl', '.alloc', '.drew', '.setCell' at a new block, '.trans'). Open each 'IsRow' by 'rcases' AHEAD of 'go_enter'; part every test ahead of the walk. -/
theorem walk (a0 : Option Addr) (len0 cap0 : Nat) (z0 : List Int) (a1 : Int) (a2 : Option Addr) (len2 cap2 : Nat) (z2 : List Int) (a3 : Int) (w : World) (w0 : IsRow .u64 w a0 len0 cap0 z0) (w1 : (Lit.int .i64 a1).wf = true) (w2 : IsRow .u8 w a2 len2 cap2 z2) (w3 : (Lit.int .i64 a3).wf = true) :
    Calls Try.prog 5 #[.slice a0 len0 cap0, .int .i64 a1, .slice a2 len2 cap2, .int .i64 a3] w fun e w' => e = .returned (.bool true) ∧ Below w.heap.size w w' := by
  obtain ⟨xs, hx, hxb, hxm⟩ := nums_of_row _ w0 wf_u64
  obtain ⟨bs, hy, hyb, hym⟩ := nums_of_row _ w2 wf_u8
  have hm := hxm
  have hm2 := hym
  unfold maxLen at hm hm2
  by_cases hlen : 256 < len0
  · go_enter Try.func5, Try.ntmps5
    go_wp2_with fail
    refine (alive_calls _).mono ?_
    rintro e w1 ⟨rfl, hb1⟩
    go_wp2
    go_ret
    exact ⟨rfl, hb1⟩
  · have hw64 : wide xs ≤ 64 := bitLen_le64 _ (orAll_lt xs 64 hxb)
    have hXL := Lib.hid hx.1
    have hYL := Lib.hid hy.1
    go_enter Try.func5, Try.ntmps5
    go_wp2_with fail
    refine (alive_calls _).mono ?_
    rintro e v1 ⟨rfl, hb1⟩
    have H1 := Lib.hid (hx.below hb1)
    have Y1 := Lib.hid (hy.below hb1)
    have B1 := Lib.hid hb1
    clear hb1 hx hy
    go_wp2_with fail
    refine (RefWidth_calls _ _ _ xs _ H1.out hxb hxm).mono ?_
    rintro e v1 ⟨rfl, rfl⟩
    go_wp2_with fail
    obtain ⟨d, hd, hd1, hd2⟩ := wide_more (wide xs) a1 hw64
    rw [hd]
    have hok : packOk xs (d : Int) = true := by
      have := hXL.out
      simp only [packOk, decide_eq_true_eq]; omega
    have OK := Lib.hid hok
    clear hd hok
    refine (Pack_any _ _ _ xs _ _ H1.out hxb hxm).mono ?_
    rintro e v2 ⟨p2, m2, c2, rfl, hn2, hbb2, hb2, hp2⟩
    rw [OK.out]
    obtain ⟨hm2', hup2⟩ := hp2 OK.out
    simp only [Int.toNat_natCast] at hm2' hup2
    obtain ⟨hbk1, hbk2⟩ := back1 hxb OK.out (hn2.1.trans hm2') hup2
    rw [hXL.out] at hbk1 hbk2
    have H2 := Lib.hid (H1.out.below hb2)
    have Y2 := Lib.hid (Y1.out.below hb2)
    have P2 := Lib.hid hn2
    have B2 := Lib.hid (B1.out.trans (hb2.mono B1.out.size))
    have K1 := Lib.hid hbk1
    have K2 := Lib.hid hbk2
    have BB2 := Lib.hid hbb2
    have hml : m2 ≤ 2049 := by
      have h1 : xs.length * d ≤ 256 * 64 := Nat.mul_le_mul (by rw [hXL.out]; omega) hd2
      omega
    clear hb2 hn2 hp2 hm2' hup2 hbk1 hbk2 hbb2
    go_wp2_with fail
    refine (Unpack_any _ _ _ _ _ _ _ P2.out BB2.out (by unfold maxLen; omega)).mono ?_
    rintro e v3 ⟨p3, m3, c3, rfl, hn3, hb3, hm3, _, _⟩
    rw [K2.out] at hn3
    rw [K1.out]
    have H3 := Lib.hid (H2.out.below hb3)
    have Y3 := Lib.hid (Y2.out.below hb3)
    have P3 := Lib.hid hn3
    have B3 := Lib.hid (B2.out.trans (hb3.mono B2.out.size))
    clear hb3 hn3
    go_wp2_with fail
    refine (Same_calls _ _ _ _ _ _ _ _ _ H3.out P3.out hxm (by unfold maxLen; omega)).mono ?_
    rintro e v4 ⟨rfl, q, rfl⟩
    have Y4 := Lib.hid (Y3.out.drewN q)
    have B4 := Lib.hid (below_drewN B3.out q)
    rw [show decide (xs = xs) = true by simp]
    by_cases hw1 : a3 < 1
    · go_wp2
      go_ret
      exact ⟨rfl, B4.out⟩
    by_cases hw2 : 64 < a3
    · go_wp2
      go_ret
      exact ⟨rfl, B4.out⟩
    by_cases hw3 : 2048 < len2
    · go_wp2
      go_ret
      exact ⟨rfl, B4.out⟩
    go_wp2_with fail
    obtain ⟨g, rfl⟩ : ∃ g : Nat, a3 = (g : Int) := ⟨a3.toNat, by omega⟩
    have hN : (len2 : Int) * 8 / (g : Int) = ((len2 * 8 / g : Nat) : Int) := by simp
    rw [hN]
    generalize len2 * 8 / g = N at *
    clear hN
    refine (Unpack_any _ _ _ _ _ _ bs Y4.out hyb hym).mono ?_
    rintro e v5 ⟨p5, m5, c5, rfl, hn5, hb5, hm5, hx5, hu5⟩
    have Y5 := Lib.hid (Y4.out.below hb5)
    have P5 := Lib.hid hn5
    have B5 := Lib.hid (B4.out.trans (hb5.mono B4.out.size))
    have U5 := Lib.hid hu5
    have X5 := Lib.hid hx5
    clear hb5 hn5 hu5 hx5
    by_cases he : unpErr bs N g = 0
    · rw [he]
      obtain ⟨hu, hmN⟩ := U5.out he
      simp only [Int.toNat_natCast] at hu
      obtain ⟨hok2, hpk2⟩ := back2 hyb (by omega) he hu (by have := P5.out.1; omega) X5.out
      have K1 := Lib.hid hok2
      have K2 := Lib.hid hpk2
      clear hu hmN hok2 hpk2 he
      go_wp2_with fail
      refine (Pack_any _ _ _ _ _ _ P5.out X5.out (by unfold maxLen; omega)).mono ?_
      rintro e v6 ⟨p6, m6, c6, rfl, hn6, hbb6, hb6, hp6⟩
      rw [K2.out] at hn6
      rw [K1.out]
      have Y6 := Y5.out.below hb6
      have B6 := Lib.hid (B5.out.trans (hb6.mono B5.out.size))
      have hcv1 := conv_bytes (c := c6) hn6 hyb 24 9 5 Try.underlying24 Try.underlying5 Try.underlying9
      have hcv2 := conv_bytes (c := cap2) Y6 hyb 24 9 5 Try.underlying24 Try.underlying5 Try.underlying9
      clear hn6 hbb6 hb6 hp6 Y6
      go_wp2
      go_ret
      exact ⟨by simp, B6.out⟩
    · have hne : (unpErr bs N g != 0) = true := by rw [bne_iff_ne]; exact he
      have hL : unpackedL bs N g = [] := by unfold unpackedL; rw [if_neg he]
      have hm0 : m5 = 0 := by
        have := P5.out.1
        rw [hL] at this; exact this.symm
      subst hm0
      generalize unpErr bs N g = c at *
      clear he hL
      go_wp2
      go_ret
      exact ⟨rfl, B5.out⟩

/-! ### THE ROW's STEP: WRITTEN OUT: LEAVE IT -/
set_option maxRecDepth 100000 in
theorem lifted (os : Os) (started : os.Started) (H : Type) (enc : TypeId × Value → H) :
    ReturnsInHanded {} Try.checked os 5 .any (Rows.bitsBackSpec.pre6 enc Try.prog Try.f5 Rows.bitsBackRow.domain false) (Rows.bitsBackSpec.post enc Try.prog Try.f5 false true false false) := by
  refine returnsInHanded_of_change (C := Try.checked) own started (by kernel_rfl) Try.func5
    (ChangeSpec.witness6 (enc := enc) (C := Try.checked) false ⟨#[], #[.slice none 0 0, .int .i64 0, .slice none 0 0, .int .i64 0], []⟩ 8 (by kernel_rfl) (by kernel_rfl) (by kernel_rfl) (by kernel_rfl)) ?_
  intro W base args ds gs before hval0 hW hcnd _
  have hval : ∀ (j : Nat) t v, Try.f5.params[j]? = some t → args[j]? = some v → Value.okWide Try.prog W .any base t v := hval0
  have hW' := hW
  obtain ⟨p, q, hA0, hV, rfl, hfz, hnd⟩ := hW
  have hA : DataW.TrodAll enc Try.prog W 0 (fun _ => true) true Try.f5.params.toList args.toList ds p := hA0
  rw [Try.params5] at hA hval
  obtain ⟨v0, vs0, d0, ds0, p0, q0, hargs, rfl, rfl, h0, r0⟩ := trodAll_cons hA
  obtain ⟨v1, vs1, d1, ds1, p1, q1, rfl, rfl, rfl, h1, r1⟩ := trodAll_cons r0
  obtain ⟨v2, vs2, d2, ds2, p2, q2, rfl, rfl, rfl, h2, r2⟩ := trodAll_cons r1
  obtain ⟨v3, vs3, d3, ds3, p3, q3, rfl, rfl, rfl, h3, r3⟩ := trodAll_cons r2
  obtain ⟨rfl, rfl, rfl⟩ := trodAll_nil r3
  obtain rfl : args = #[v0, v1, v2, v3] := by cases args; simp_all
  obtain ⟨rfl, rfl⟩ := trodVars_none hV
  obtain ⟨a0, len0, cap0, rfl⟩ := okWide_slice Try.underlying22 (hval 0 22 v0 rfl rfl)
  have k0 := h0
  have lt0 : ∀ x ∈ p0, x.block < W.heap.size := by obtain ⟨m, hm⟩ := k0; exact DataW.trod_lt m _ _ _ hm
  obtain ⟨z0, w0⟩ : ∃ zs, IsRow .u64 W a0 len0 cap0 zs := by
    obtain ⟨fuel, hf⟩ := h0
    rcases open_ints Try.underlying22 Try.underlying39 (by kernel_rfl) hf with ⟨hcs, _⟩ | ⟨x, l, c, zs, hcs, _, hl, hm, hz, _, hcell, hwz⟩
    · simp [Value.cells] at hcs
      obtain ⟨rfl, rfl, rfl⟩ := hcs
      exact ⟨[], .inl ⟨rfl, rfl, rfl, rfl⟩⟩
    · simp [Value.cells] at hcs
      obtain ⟨rfl, rfl, rfl⟩ := hcs
      exact ⟨zs, .inr ⟨_, rfl, hl, hm, by simpa using hz, hcell, hwz⟩⟩
  obtain ⟨a1, rfl, rfl, rfl, w1⟩ := open_int Try.underlying3 (hval 1 3 v1 rfl rfl) h1
  obtain ⟨a2, len2, cap2, rfl⟩ := okWide_slice Try.underlying24 (hval 2 24 v2 rfl rfl)
  have k2 := h2
  have lt2 : ∀ x ∈ p2, x.block < W.heap.size := by obtain ⟨m, hm⟩ := k2; exact DataW.trod_lt m _ _ _ hm
  obtain ⟨z2, w2⟩ : ∃ zs, IsRow .u8 W a2 len2 cap2 zs := by
    obtain ⟨fuel, hf⟩ := h2
    rcases open_ints Try.underlying24 Try.underlying5 (by kernel_rfl) hf with ⟨hcs, _⟩ | ⟨x, l, c, zs, hcs, _, hl, hm, hz, _, hcell, hwz⟩
    · simp [Value.cells] at hcs
      obtain ⟨rfl, rfl, rfl⟩ := hcs
      exact ⟨[], .inl ⟨rfl, rfl, rfl, rfl⟩⟩
    · simp [Value.cells] at hcs
      obtain ⟨rfl, rfl, rfl⟩ := hcs
      exact ⟨zs, .inr ⟨_, rfl, hl, hm, by simpa using hz, hcell, hwz⟩⟩
  obtain ⟨a3, rfl, rfl, rfl, w3⟩ := open_int Try.underlying3 (hval 3 3 v3 rfl rfl) h3
  clear hA0 hval0
  refine (walk a0 len0 cap0 z0 a1 a2 len2 cap2 z2 a3 W w0 w1 w2 w3).mono fun e W' ⟨he, bel⟩ => ?_
  subst he
  exact ⟨_, rfl, _, _, _, [], _, [], hW', trodAll_mk1 (shut_bool Try.underlying4 _), (trodAll_cons_mk (Below.trod laidOut (by kernel_rfl) (of_decide_eq_true (by kernel_rfl)) k0 bel lt0) (trodAll_cons_mk (shut_int Try.underlying3 w1) (trodAll_cons_mk (Below.trod laidOut (by kernel_rfl) (of_decide_eq_true (by kernel_rfl)) k2 bel lt2) (trodAll_cons_mk (shut_int Try.underlying3 w3) trodAll_mk0)))), rfl, bel.frame _, fun h => by cases h⟩

theorem over : Rows.bitsBackRow.holds Try.pinned (OpenSpec.ofChange Rows.bitsBackSpec) :=
  OpenClaim.holds_of_wide 5 Try.f5 rfl rfl rfl rfl rfl rfl rfl ⟨rfl, rfl, rfl, rfl, rfl⟩ rfl rfl rfl rfl rfl (by kernel_rfl) Try.func5 (by kernel_rfl)
    (of_decide_eq_true (by kernel_rfl)) (by unfold Func.isWrapper; first | (rw [if_pos (by decide +kernel)]; kernel_rfl) | (rw [if_neg (by decide +kernel)]; exact ⟨rfl, rfl⟩))
    (fun os started H enc _ => lifted os started H enc)

/-- ████ THE STATEMENT ████ -/
theorem proved : Rows.BitsBackSaid := over
#print axioms proved
end Go.Proofs.Ytfcejeopfodeoaa.bitsBack
