/- What is handed in stays as it was. For every input, under no condition of its own. -/
import Derived.Test.YtfcejeopfodeoaaRows
import Derived.WalkKit
import Derived.ProofKit
import Derived.OpenShut
import Derived.ShutString
import Derived.ChangeOld
import Derived.Below
import Derived.Test.YtfcejeopfodeoaaBack
import Derived.Test.YtfcejeopfodeoaaAlive
import Derived.Test.YtfcejeopfodeoaaKit2
namespace Go.Proofs.Ytfcejeopfodeoaa.bitsOwn
open Go.ChangeShapes Go.WideShapes Go.ChangeAt Go.RowKit
open Go.ChangeMaps (open_string shut_string)
set_option linter.unusedVariables false

theorem own : ownKnob Try.prog.godebug = none := by kernel_rfl
theorem laidOut : laidOutB Try.prog = true := by kernel_rfl

/-- WHAT THE WALK IS TOLD OF A SLICE OF INTEGERS THAT CAME IN: it is nil; or it leads to a row of 'cap' cells, the numbers 'zs' (the first 'len' are its elements, the rest its spare room), each fitting its kind. -/
def IsRow (k : IntKind) (w : World) (a : Option Addr) (len cap : Nat) (zs : List Int) : Prop :=
  (a = none ∧ len = 0 ∧ cap = 0 ∧ zs = []) ∨
  ∃ x, a = some x ∧ len ≤ cap ∧ cap ≤ maxLen ∧ zs.length = cap ∧ (∀ i, i < zs.length → w.cell? (x.add i) = some (.int k (zs.getD i 0))) ∧ ∀ n ∈ zs, (Lit.int k n).wf = true

/-! ### STEP 1: THE WALK: the Go text returns true, AND WRITES NOTHING THAT WAS THERE: 'Below w.heap.size w w'' (Derived/Below.lean: '.refl', '.alloc', '.drew', '.setCell' at a new block, '.trans'). Open each 'IsRow' by 'rcases' AHEAD of 'go_enter'; part every test ahead of the walk. -/
theorem walk (a0 : Option Addr) (len0 cap0 : Nat) (z0 : List Int) (a1 : Int) (a2 : Option Addr) (len2 cap2 : Nat) (z2 : List Int) (a3 : Int) (w : World) (w0 : IsRow .u64 w a0 len0 cap0 z0) (w1 : (Lit.int .i64 a1).wf = true) (w2 : IsRow .u8 w a2 len2 cap2 z2) (w3 : (Lit.int .i64 a3).wf = true) :
    Calls Try.prog 7 #[.slice a0 len0 cap0, .int .i64 a1, .slice a2 len2 cap2, .int .i64 a3] w fun e w' => e = .returned (.bool true) ∧ Below w.heap.size w w' := by
  have hnil0 : a0 = none → cap0 = 0 := by
    rcases w0 with ⟨_, _, h, _⟩ | ⟨x, h, _⟩
    · exact fun _ => h
    · rw [h]; exact fun h => by cases h
  have hnil2 : a2 = none → cap2 = 0 := by
    rcases w2 with ⟨_, _, h, _⟩ | ⟨x, h, _⟩
    · exact fun _ => h
    · rw [h]; exact fun h => by cases h
  obtain ⟨xs, hx, hxb, hxm⟩ := nums_of_row _ w0 wf_u64
  obtain ⟨bs, hy, hyb, hym⟩ := nums_of_row _ w2 wf_u8
  have hm := hxm
  have hm2 := hym
  unfold maxLen at hm hm2
  by_cases hlen : 1000 < len0
  · go_enter Try.func7, Try.ntmps7
    go_wp2_with fail
    refine (alive_calls _).mono ?_
    rintro e w1 ⟨rfl, hb1⟩
    go_wp2
    go_ret
    exact ⟨rfl, hb1⟩
  by_cases hlen2 : 5000 < len2
  · go_enter Try.func7, Try.ntmps7
    go_wp2_with fail
    refine (alive_calls _).mono ?_
    rintro e w1 ⟨rfl, hb1⟩
    go_wp2
    go_ret
    exact ⟨rfl, hb1⟩
  obtain ⟨i0, hi0, hz0, hz1, hz2⟩ := info_parts info39
  obtain ⟨i1, hi1, hz3, hz4, hz5⟩ := info_parts info5
  have hI := Lib.hid (And.intro hi0 (And.intro hz0 (And.intro hz1 hz2)))
  have hJ := Lib.hid (And.intro hi1 (And.intro hz3 (And.intro hz4 hz5)))
  have N0 := Lib.hid hnil0
  have N2 := Lib.hid hnil2
  clear hi0 hz0 hz1 hz2 hi1 hz3 hz4 hz5 hnil0 hnil2
  go_enter Try.func7, Try.ntmps7
  go_wp2_with fail
  refine (alive_calls _).mono ?_
  rintro e v1 ⟨rfl, hb1⟩
  have H1 := Lib.hid (hx.below hb1)
  have Y1 := Lib.hid (hy.below hb1)
  have B1 := Lib.hid hb1
  clear hb1 hx hy
  go_wp2_with (first
    | (at_builtin; refine wpList_append_nums _ rfl (.tmp 21) (.tmp 22) 22 rfl v1.heap.size 39 i0 (.int .u64 0) .u64 8 Try.underlying22 hI.out.1 hI.out.2.1 hI.out.2.2.1 hI.out.2.2.2 rfl _ _ [] rfl (World.ownsRow_lit v1 #[] 0 (Nat.le_refl _) (by decide) rfl) _ _ _ xs rfl (H1.out.alloc _) (by unfold maxLen; omega) (by omega) (by simp) N0.out ?_; intro x v2 hown2 hg2; obtain ⟨p2, c2, rfl, hn2⟩ := own_nums hown2; have hb2 := below_lit hg2; have H2 := Lib.hid (H1.out.below hb2); have Y2 := Lib.hid (Y1.out.below hb2); have P2 := Lib.hid hn2; have B2 := Lib.hid (B1.out.trans (hb2.mono B1.out.size)); clear hown2 hg2 hn2 hb2)
    | (at_builtin; refine wpList_append_nums _ rfl (.tmp 24) (.tmp 25) 24 rfl v2.heap.size 5 i1 (.int .u8 0) .u8 1 Try.underlying24 hJ.out.1 hJ.out.2.1 hJ.out.2.2.1 hJ.out.2.2.2 rfl _ _ [] rfl (World.ownsRow_lit v2 #[] 0 (Nat.le_refl _) (by decide) rfl) _ _ _ bs rfl (Y2.out.alloc _) (by unfold maxLen; omega) (by omega) (by simp) N2.out ?_; intro x v3 hown3 hg3; obtain ⟨p3, c3, rfl, hn3⟩ := own_nums hown3; have hb3 := below_lit hg3; have H3 := Lib.hid (H2.out.below hb3); have Y3 := Lib.hid (Y2.out.below hb3); have Q3 := Lib.hid (P2.out.below hb3); have P3 := Lib.hid hn3; have B3 := Lib.hid (B2.out.trans (hb3.mono B2.out.size)); clear hown3 hg3 hn3 hb3)
    | fail)
  refine (Pack_any _ _ _ xs _ _ H3.out hxb hxm).mono ?_
  rintro e v4 ⟨a4, m4, c4, rfl, _, _, hb4, _⟩
  have H4 := Lib.hid (H3.out.below hb4)
  have Y4 := Lib.hid (Y3.out.below hb4)
  have Q4 := Lib.hid (Q3.out.below hb4)
  have P4 := Lib.hid (P3.out.below hb4)
  have B4 := Lib.hid (B3.out.trans (hb4.mono B3.out.size))
  clear hb4
  go_wp2_with fail
  refine (Unpack_any _ _ _ _ _ _ bs Y4.out hyb hym).mono ?_
  rintro e v5 ⟨p5, m5, c5, rfl, _, hb5, _, _, _⟩
  have H5 := Lib.hid (H4.out.below hb5)
  have Y5 := Lib.hid (Y4.out.below hb5)
  have Q5 := Lib.hid (Q4.out.below hb5)
  have P5 := Lib.hid (P4.out.below hb5)
  have B5 := Lib.hid (B4.out.trans (hb5.mono B4.out.size))
  clear hb5
  go_wp2_with fail
  refine (Width_calls _ _ _ xs _ H5.out hxb hxm).mono ?_
  rintro e v5 ⟨rfl, rfl⟩
  go_wp2_with fail
  refine (Same_calls _ _ _ _ _ _ xs xs _ H5.out (by simpa using Q5.out) hxm (by unfold maxLen; omega)).mono ?_
  rintro e v6 ⟨rfl, q, rfl⟩
  rw [show decide (xs = xs) = true by simp]
  have hcv1 := conv_bytes (c := cap2) (Y5.out.drewN q) hyb 24 9 5 Try.underlying24 Try.underlying5 Try.underlying9
  have hcv2 := conv_bytes (c := c3) (P5.out.drewN q) (by simpa using hyb) 24 9 5 Try.underlying24 Try.underlying5 Try.underlying9
  have B6 := Lib.hid (below_drewN B5.out q)
  simp only [List.nil_append, Nat.zero_add] at hcv2
  go_wp2
  go_ret
  exact ⟨by simp, B6.out⟩

/-! ### THE ROW's STEP: WRITTEN OUT: LEAVE IT -/
set_option maxRecDepth 100000 in
theorem lifted (os : Os) (started : os.Started) (H : Type) (enc : TypeId × Value → H) :
    ReturnsInHanded {} Try.checked os 7 .any (Rows.bitsOwnSpec.pre6 enc Try.prog Try.f7 Rows.bitsOwnRow.domain false) (Rows.bitsOwnSpec.post enc Try.prog Try.f7 false true false false) := by
  refine returnsInHanded_of_change (C := Try.checked) own started (by kernel_rfl) Try.func7
    (ChangeSpec.witness6 (enc := enc) (C := Try.checked) false ⟨#[], #[.slice none 0 0, .int .i64 0, .slice none 0 0, .int .i64 0], []⟩ 8 (by kernel_rfl) (by kernel_rfl) (by kernel_rfl) (by kernel_rfl)) ?_
  intro W base args ds gs before hval0 hW hcnd _
  have hval : ∀ (j : Nat) t v, Try.f7.params[j]? = some t → args[j]? = some v → Value.okWide Try.prog W .any base t v := hval0
  have hW' := hW
  obtain ⟨p, q, hA0, hV, rfl, hfz, hnd⟩ := hW
  have hA : DataW.TrodAll enc Try.prog W 0 (fun _ => true) true Try.f7.params.toList args.toList ds p := hA0
  rw [Try.params7] at hA hval
  obtain ⟨v0, vs0, d0, ds0, p0, q0, hargs, rfl, rfl, h0, r0⟩ := trodAll_cons hA
  obtain ⟨v1, vs1, d1, ds1, p1, q1, rfl, rfl, rfl, h1, r1⟩ := trodAll_cons r0
  obtain ⟨v2, vs2, d2, ds2, p2, q2, rfl, rfl, rfl, h2, r2⟩ := trodAll_cons r1
  obtain ⟨v3, vs3, d3, ds3, p3, q3, rfl, rfl, rfl, h3, r3⟩ := trodAll_cons r2
  obtain ⟨rfl, rfl, rfl⟩ := trodAll_nil r3
  obtain rfl : args = #[v0, v1, v2, v3] := by cases args; simp_all
  obtain ⟨rfl, rfl⟩ := trodVars_none hV
  obtain ⟨a0, len0, cap0, rfl⟩ := okWide_slice Try.underlying22 (hval 0 22 v0 rfl rfl)
  have k0 := h0
  have lt0 : ∀ x ∈ p0, x.block < W.heap.size := by obtain ⟨m, hm⟩ := k0; exact DataW.trod_lt m _ _ _ hm
  obtain ⟨z0, w0⟩ : ∃ zs, IsRow .u64 W a0 len0 cap0 zs := by
    obtain ⟨fuel, hf⟩ := h0
    rcases open_ints Try.underlying22 Try.underlying39 (by kernel_rfl) hf with ⟨hcs, _⟩ | ⟨x, l, c, zs, hcs, _, hl, hm, hz, _, hcell, hwz⟩
    · simp [Value.cells] at hcs
      obtain ⟨rfl, rfl, rfl⟩ := hcs
      exact ⟨[], .inl ⟨rfl, rfl, rfl, rfl⟩⟩
    · simp [Value.cells] at hcs
      obtain ⟨rfl, rfl, rfl⟩ := hcs
      exact ⟨zs, .inr ⟨_, rfl, hl, hm, by simpa using hz, hcell, hwz⟩⟩
  obtain ⟨a1, rfl, rfl, rfl, w1⟩ := open_int Try.underlying3 (hval 1 3 v1 rfl rfl) h1
  obtain ⟨a2, len2, cap2, rfl⟩ := okWide_slice Try.underlying24 (hval 2 24 v2 rfl rfl)
  have k2 := h2
  have lt2 : ∀ x ∈ p2, x.block < W.heap.size := by obtain ⟨m, hm⟩ := k2; exact DataW.trod_lt m _ _ _ hm
  obtain ⟨z2, w2⟩ : ∃ zs, IsRow .u8 W a2 len2 cap2 zs := by
    obtain ⟨fuel, hf⟩ := h2
    rcases open_ints Try.underlying24 Try.underlying5 (by kernel_rfl) hf with ⟨hcs, _⟩ | ⟨x, l, c, zs, hcs, _, hl, hm, hz, _, hcell, hwz⟩
    · simp [Value.cells] at hcs
      obtain ⟨rfl, rfl, rfl⟩ := hcs
      exact ⟨[], .inl ⟨rfl, rfl, rfl, rfl⟩⟩
    · simp [Value.cells] at hcs
      obtain ⟨rfl, rfl, rfl⟩ := hcs
      exact ⟨zs, .inr ⟨_, rfl, hl, hm, by simpa using hz, hcell, hwz⟩⟩
  obtain ⟨a3, rfl, rfl, rfl, w3⟩ := open_int Try.underlying3 (hval 3 3 v3 rfl rfl) h3
  clear hA0 hval0
  refine (walk a0 len0 cap0 z0 a1 a2 len2 cap2 z2 a3 W w0 w1 w2 w3).mono fun e W' ⟨he, bel⟩ => ?_
  subst he
  exact ⟨_, rfl, _, _, _, [], _, [], hW', trodAll_mk1 (shut_bool Try.underlying4 _), (trodAll_cons_mk (Below.trod laidOut (by kernel_rfl) (of_decide_eq_true (by kernel_rfl)) k0 bel lt0) (trodAll_cons_mk (shut_int Try.underlying3 w1) (trodAll_cons_mk (Below.trod laidOut (by kernel_rfl) (of_decide_eq_true (by kernel_rfl)) k2 bel lt2) (trodAll_cons_mk (shut_int Try.underlying3 w3) trodAll_mk0)))), rfl, bel.frame _, fun h => by cases h⟩

theorem over : Rows.bitsOwnRow.holds Try.pinned (OpenSpec.ofChange Rows.bitsOwnSpec) :=
  OpenClaim.holds_of_wide 7 Try.f7 rfl rfl rfl rfl rfl rfl rfl ⟨rfl, rfl, rfl, rfl, rfl⟩ rfl rfl rfl rfl rfl (by kernel_rfl) Try.func7 (by kernel_rfl)
    (of_decide_eq_true (by kernel_rfl)) (by unfold Func.isWrapper; first | (rw [if_pos (by decide +kernel)]; kernel_rfl) | (rw [if_neg (by decide +kernel)]; exact ⟨rfl, rfl⟩))
    (fun os started H enc _ => lifted os started H enc)

/-- ████ THE STATEMENT ████ -/
theorem proved : Rows.BitsOwnSaid := over
#print axioms proved
end Go.Proofs.Ytfcejeopfodeoaa.bitsOwn
