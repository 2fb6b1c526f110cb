/- With a width less than Width numbers are not packed; with it they are, in as few bytes as may be. For every input, under no condition of its own. -/
import Derived.Test.YtfcejeopfodeoaaRows
import Derived.WalkKit
import Derived.ProofKit
import Derived.OpenShut
import Derived.ShutString
import Derived.ChangeOld
import Derived.Below
import Derived.Test.YtfcejeopfodeoaaTold
import Derived.Test.YtfcejeopfodeoaaAlive
import Derived.Test.YtfcejeopfodeoaaKit2
namespace Go.Proofs.Ytfcejeopfodeoaa.bitsTight
open Go.ChangeShapes Go.WideShapes Go.ChangeAt Go.RowKit
open Go.ChangeMaps (open_string shut_string)
set_option linter.unusedVariables false

theorem own : ownKnob Try.prog.godebug = none := by kernel_rfl
theorem laidOut : laidOutB Try.prog = true := by kernel_rfl

/-- WHAT THE WALK IS TOLD OF A SLICE OF INTEGERS THAT CAME IN: it is nil; or it leads to a row of 'cap' cells, the numbers 'zs' (the first 'len' are its elements, the rest its spare room), each fitting its kind. -/
def IsRow (k : IntKind) (w : World) (a : Option Addr) (len cap : Nat) (zs : List Int) : Prop :=
  (a = none ∧ len = 0 ∧ cap = 0 ∧ zs = []) ∨
  ∃ x, a = some x ∧ len ≤ cap ∧ cap ≤ maxLen ∧ zs.length = cap ∧ (∀ i, i < zs.length → w.cell? (x.add i) = some (.int k (zs.getD i 0))) ∧ ∀ n ∈ zs, (Lit.int k n).wf = true

/-! ### STEP 1: THE WALK: the Go text returns true, AND WRITES NOTHING THAT WAS THERE: 'Below w.heap.size w w'' (Derived/Below.lean: '.refl', '.alloc', '.drew', '.setCell' at a new block, '.trans'). Open each 'IsRow' by 'rcases' AHEAD of 'go_enter'; part every test ahead of the walk. -/
theorem walk (a0 : Option Addr) (len0 cap0 : Nat) (z0 : List Int) (w : World) (w0 : IsRow .u64 w a0 len0 cap0 z0) :
    Calls Try.prog 6 #[.slice a0 len0 cap0] w fun e w' => e = .returned (.bool true) ∧ Below w.heap.size w w' := by
  obtain ⟨xs, hx, hxb, hxm⟩ := nums_of_row _ w0 wf_u64
  have hm := hxm
  unfold maxLen at hm
  by_cases hlen : 256 < len0
  · go_enter Try.func6, Try.ntmps6
    go_wp2_with fail
    refine (alive_calls _).mono ?_
    rintro e w1 ⟨rfl, hb1⟩
    go_wp2
    go_ret
    exact ⟨rfl, hb1⟩
  · have hw64 : wide xs ≤ 64 := bitLen_le64 _ (orAll_lt xs 64 hxb)
    have hXL := Lib.hid hx.1
    have hok : packOk xs (wide xs : Int) = true := by
      have := hx.1
      simp only [packOk, decide_eq_true_eq]; omega
    have hno : packOk xs ((wide xs : Int) - 1) = false := by
      simp only [packOk, decide_eq_false_iff_not]; omega
    have OK := Lib.hid hok
    have NO := Lib.hid hno
    clear hok hno
    obtain ⟨hprod, hprodi, hprod0⟩ := mul_bounds (n := len0) (d := wide xs) (by omega) hw64
    generalize hwd : wide xs = wd at *
    have WD := Lib.hid hwd
    clear hwd
    go_enter Try.func6, Try.ntmps6
    go_wp2_with fail
    refine (alive_calls _).mono ?_
    rintro e v1 ⟨rfl, hb1⟩
    have H1 := Lib.hid (hx.below hb1)
    have B1 := Lib.hid hb1
    clear hb1 hx
    go_wp2_with fail
    refine (Width_calls _ _ _ xs _ H1.out hxb hxm).mono ?_
    rintro e v1 ⟨rfl, rfl⟩
    rw [WD.out]
    go_wp2_with fail
    refine (Pack_any _ _ _ xs _ _ H1.out hxb hxm).mono ?_
    rintro e v2 ⟨a2, m2, c2, rfl, hn2, hbb2, hb2, hy2⟩
    rw [OK.out]
    have hy := (hy2 OK.out).1
    rw [hXL.out] at hy
    have hy0 : m2 = (len0 * wd + 7) / 8 := by simpa using hy
    have hm2 : ((m2 : Int) == ((len0 : Int) * wd + 7) / 8) = true := by rw [beq_iff_eq]; omega
    have H2 := Lib.hid (H1.out.below hb2)
    have B2 := Lib.hid (B1.out.trans (hb2.mono B1.out.size))
    have HY := Lib.hid hy0
    clear hb2 hn2 hy2 hbb2 hy hy0
    go_wp2_with fail
    refine (Pack_any _ _ _ xs _ _ H2.out hxb hxm).mono ?_
    rintro e v3 ⟨a3, m3, c3, rfl, hn3, hbb3, hb3, hy3⟩
    rw [NO.out]
    have B3 := Lib.hid (B2.out.trans (hb3.mono B2.out.size))
    clear hb3 hn3 hy3 hbb3
    by_cases h0 : 0 < wd
    · go_wp2
      go_ret
      exact ⟨by simp, B3.out⟩
    · have hm0 : ((m2 : Int) == 0) = true := by
        have hw0 : wd = 0 := by omega
        have := HY.out
        rw [hw0] at this
        rw [beq_iff_eq]; omega
      go_wp2
      go_ret
      exact ⟨by simp, B3.out⟩

/-! ### THE ROW's STEP: WRITTEN OUT: LEAVE IT -/
set_option maxRecDepth 100000 in
theorem lifted (os : Os) (started : os.Started) (H : Type) (enc : TypeId × Value → H) :
    ReturnsInHanded {} Try.checked os 6 .any (Rows.bitsTightSpec.pre6 enc Try.prog Try.f6 Rows.bitsTightRow.domain false) (Rows.bitsTightSpec.post enc Try.prog Try.f6 false true false false) := by
  refine returnsInHanded_of_change (C := Try.checked) own started (by kernel_rfl) Try.func6
    (ChangeSpec.witness6 (enc := enc) (C := Try.checked) false ⟨#[], #[.slice none 0 0], []⟩ 8 (by kernel_rfl) (by kernel_rfl) (by kernel_rfl) (by kernel_rfl)) ?_
  intro W base args ds gs before hval0 hW hcnd _
  have hval : ∀ (j : Nat) t v, Try.f6.params[j]? = some t → args[j]? = some v → Value.okWide Try.prog W .any base t v := hval0
  have hW' := hW
  obtain ⟨p, q, hA0, hV, rfl, hfz, hnd⟩ := hW
  have hA : DataW.TrodAll enc Try.prog W 0 (fun _ => true) true Try.f6.params.toList args.toList ds p := hA0
  rw [Try.params6] at hA hval
  obtain ⟨v0, vs0, d0, ds0, p0, q0, hargs, rfl, rfl, h0, r0⟩ := trodAll_cons hA
  obtain ⟨rfl, rfl, rfl⟩ := trodAll_nil r0
  obtain rfl : args = #[v0] := by cases args; simp_all
  obtain ⟨rfl, rfl⟩ := trodVars_none hV
  obtain ⟨a0, len0, cap0, rfl⟩ := okWide_slice Try.underlying22 (hval 0 22 v0 rfl rfl)
  have k0 := h0
  have lt0 : ∀ x ∈ p0, x.block < W.heap.size := by obtain ⟨m, hm⟩ := k0; exact DataW.trod_lt m _ _ _ hm
  obtain ⟨z0, w0⟩ : ∃ zs, IsRow .u64 W a0 len0 cap0 zs := by
    obtain ⟨fuel, hf⟩ := h0
    rcases open_ints Try.underlying22 Try.underlying39 (by kernel_rfl) hf with ⟨hcs, _⟩ | ⟨x, l, c, zs, hcs, _, hl, hm, hz, _, hcell, hwz⟩
    · simp [Value.cells] at hcs
      obtain ⟨rfl, rfl, rfl⟩ := hcs
      exact ⟨[], .inl ⟨rfl, rfl, rfl, rfl⟩⟩
    · simp [Value.cells] at hcs
      obtain ⟨rfl, rfl, rfl⟩ := hcs
      exact ⟨zs, .inr ⟨_, rfl, hl, hm, by simpa using hz, hcell, hwz⟩⟩
  clear hA0 hval0
  refine (walk a0 len0 cap0 z0 W w0).mono fun e W' ⟨he, bel⟩ => ?_
  subst he
  exact ⟨_, rfl, _, _, _, [], _, [], hW', trodAll_mk1 (shut_bool Try.underlying4 _), (trodAll_cons_mk (Below.trod laidOut (by kernel_rfl) (of_decide_eq_true (by kernel_rfl)) k0 bel lt0) trodAll_mk0), rfl, bel.frame _, fun h => by cases h⟩

theorem over : Rows.bitsTightRow.holds Try.pinned (OpenSpec.ofChange Rows.bitsTightSpec) :=
  OpenClaim.holds_of_wide 6 Try.f6 rfl rfl rfl rfl rfl rfl rfl ⟨rfl, rfl, rfl, rfl, rfl⟩ rfl rfl rfl rfl rfl (by kernel_rfl) Try.func6 (by kernel_rfl)
    (of_decide_eq_true (by kernel_rfl)) (by unfold Func.isWrapper; first | (rw [if_pos (by decide +kernel)]; kernel_rfl) | (rw [if_neg (by decide +kernel)]; exact ⟨rfl, rfl⟩))
    (fun os started H enc _ => lifted os started H enc)

/-- ████ THE STATEMENT ████ -/
theorem proved : Rows.BitsTightSaid := over
#print axioms proved
end Go.Proofs.Ytfcejeopfodeoaa.bitsTight
