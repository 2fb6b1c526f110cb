/- The contract of the reference's Unpack. -/
import Derived.Test.YtfcejeopfodeoaaRefPack
import Derived.Test.YtfcejeopfodeoaaUnpack
namespace Go.Proofs.Ytfcejeopfodeoaa
open Go.RowKit
set_option linter.unusedVariables false

set_option maxHeartbeats 400000 in
theorem RefUnpack_arg (a : Option Addr) (m c : Nat) (w : World) (n wd : Int) (hno : n < 0 ∨ 256 < n ∨ wd < 0 ∨ 64 < wd) :
    Calls Try.prog 14 #[.slice a m c, .int .i64 n, .int .i64 wd] w (UnpackNo w 1) := by
  by_cases h1 : n < 0
  · go_enter Try.func14, Try.ntmps14
    go_wp2
    go_ret2
    exact ⟨rfl, rfl⟩
  by_cases h2 : 256 < n
  · go_enter Try.func14, Try.ntmps14
    go_wp2
    go_ret2
    exact ⟨rfl, rfl⟩
  by_cases h3 : wd < 0
  · go_enter Try.func14, Try.ntmps14
    go_wp2
    go_ret2
    exact ⟨rfl, rfl⟩
  have h4 : 64 < wd := by omega
  go_enter Try.func14, Try.ntmps14
  go_wp2
  go_ret2
  exact ⟨rfl, rfl⟩

set_option maxHeartbeats 400000 in
theorem RefUnpack_len (a : Option Addr) (m c : Nat) (w : World) (n d : Nat) (hm : m ≤ maxLen) (hn : n ≤ 256) (hd : d ≤ 64) (hno : m ≠ (n * d + 7) / 8) :
    Calls Try.prog 14 #[.slice a m c, .int .i64 n, .int .i64 d] w (UnpackNo w 40) := by
  unfold maxLen at hm
  obtain ⟨hprod, hprodi, hprod0⟩ := mul_bounds hn hd
  have hne : ((m : Int) != ((n : Int) * d + 7) / 8) = true := by rw [bne_iff_ne]; omega
  go_enter Try.func14, Try.ntmps14
  go_wp2
  go_ret2
  exact ⟨rfl, rfl⟩

/-- What the reference's Unpack leaves. -/
def RefUnpackYes (w : World) (bs : List Nat) (n d : Nat) (e : Ending) (w' : World) : Prop :=
  Below w.heap.size w w' ∧
  ((Tail bs (n * d) ∧ e = .returned (.tuple #[.slice none 0 0, .int .i64 40])) ∨
   (¬ Tail bs (n * d) ∧ ∃ a c xs, e = .returned (.tuple #[.slice a n c, .int .i64 0]) ∧ xs.length = n ∧ Unpacked bs d xs ∧ Nums .u64 w' a n xs))

theorem IsNum.down {bs : List Nat} {p k x b : Nat} (h : IsNum bs (p + 1) k x) (hb : b = if bitOf bs p then 1 else 0) : IsNum bs p (k + 1) (2 * x + b) := by
  intro r
  cases r with
  | zero =>
    rw [Nat.testBit_zero, hb]
    cases bitOf bs p <;> simp
  | succ r =>
    have e : (2 * x + b) / 2 = x := by rw [hb]; split <;> omega
    rw [Nat.testBit_succ, e, h r, show p + 1 + r = p + (r + 1) by omega]
    simp

theorem ref_bit (x y s : Nat) (hx : x < 2 ^ 63) : IntKind.u64.wrap (2 * (x : Int) + IntKind.u64.wrap (((y : Int) / 2 ^ s).tmod 2)) = ((2 * x + (if y.testBit s then 1 else 0) : Nat) : Int) := by
  have e1 : (y : Int) / 2 ^ s = ((y / 2 ^ s : Nat) : Int) := by simp
  rw [testBit_of_mod, e1]
  generalize y / 2 ^ s = z
  rw [Int.tmod_eq_emod_of_nonneg (by omega), IntKind.wrap_u64, IntKind.wrap_u64]
  by_cases hz : z % 2 = 1
  · simp only [hz, decide_true, if_true]; omega
  · simp only [hz, decide_false]; simp only [Bool.false_eq_true, if_false]; omega

set_option maxRecDepth 100000 in
set_option maxHeartbeats 1000000 in
theorem RefUnpack_yes (a : Option Addr) (m c : Nat) (w : World) (n d : Nat) (bs : List Nat) (h : Nums .u8 w a m bs) (hb : ∀ b ∈ bs, b < 256) (hm : m ≤ maxLen) (hn : n ≤ 256) (hd : d ≤ 64) (hl : m = (n * d + 7) / 8) :
    Calls Try.prog 14 #[.slice a m c, .int .i64 n, .int .i64 d] w (RefUnpackYes w bs n d) := by
  unfold maxLen at hm
  obtain ⟨hprod, hprodi, hprod0⟩ := mul_bounds hn hd
  have hne : ((m : Int) != ((n : Int) * d + 7) / 8) = false := by rw [bne_eq_false_iff_eq]; omega
  obtain ⟨i0, hi0, hz0, hz1, hz2⟩ := info_parts info39
  have HI := Lib.hid hi0
  have HZ0 := Lib.hid hz0
  have HZ1 := Lib.hid hz1
  have HZ2 := Lib.hid hz2
  have HL := Lib.hid hl
  have HH := Lib.hid h
  clear hi0 hz0 hz1 hz2 hl h
  go_enter Try.func14, Try.ntmps14
  go_wp2
  go_loopw [8, 9] (fun v s wr => ∃ i : Nat, i ≤ n ∧ s = .int .i64 i ∧ ∃ xs : List Nat, xs.length = i ∧ Unpacked bs d xs ∧ wr.ownsRow w.heap.size 39 1 v i (numsV .u64 xs) ∧ Below w.heap.size w wr) (fun _ s _ => n - (intOf s).toNat)
  case atStart => exact ⟨0, Nat.zero_le _, rfl, [], rfl, fun j hj => by simp at hj, World.ownsRow_nil _ _ _ _, Below.refl _ _⟩
  case round =>
    obtain ⟨i, hi, rfl, xs, hxl, hup, hown, hbel⟩ := hrel
    have HX := Lib.hid hxl
    have HU := Lib.hid hup
    have HO := Lib.hid hown
    have HB := Lib.hid hbel
    clear hup hown hbel hxl
    by_cases hlt : i < n
    · go_wp2
      go_loop [10, 11] (fun x s => ∃ c x' : Nat, c ≤ d ∧ s = .int .i64 ((c : Int) - 1) ∧ x = .int .u64 (x' : Nat) ∧ IsNum bs (i * d + c) (d - c) x') (fun _ s => (intOf s + 1).toNat)
      case atStart => exact ⟨d, 0, Nat.le_refl _, rfl, rfl, by simpa using IsNum.zero bs _⟩
      case round =>
        obtain ⟨c, x, hc, rfl, rfl, hnum⟩ := hrel
        have HN := Lib.hid hnum
        clear hnum
        by_cases hc0 : 0 < c
        · have hid : i * d + d ≤ n * d := by rw [← Nat.succ_mul]; exact Nat.mul_le_mul_right _ hlt
          have hidi : (i : Int) * (d : Int) + d ≤ n * d := by rw [← Int.natCast_mul, ← Int.natCast_mul]; omega
          have hid0 : 0 ≤ (i : Int) * (d : Int) := by rw [← Int.natCast_mul]; omega
          obtain ⟨c, rfl⟩ : ∃ c', c = c' + 1 := ⟨c - 1, by omega⟩
          have hx := Nat.lt_of_lt_of_le HN.out.lt (Nat.pow_le_pow_right (show 0 < 2 by decide) (show d - (c + 1) ≤ 63 by omega))
          have hm := HL.out
          obtain ⟨b, off, hab, hbl, hcl⟩ := HH.out.2 (by omega)
          have hcb := (HB.out.cell (p := ⟨b, off + (i * d + c) / 8, none⟩) hbl).trans (hcl ((i * d + c) / 8) (by omega))
          cases hab
          go_wp2
          go_round
          case rel =>
            have e := ref_bit x (bs.getD ((i * d + c) / 8) 0) ((i * d + c) % 8) hx
            refine ⟨c, _, by omega, rfl, congrArg (Value.int .u64) e, ?_⟩
            have hk := HN.out.down (p := i * d + c) rfl
            rw [show d - (c + 1) + 1 = d - c by omega] at hk
            exact hk
          case measure => simp [intOf] <;> omega
        · have hc0 : c = 0 := by omega
          subst hc0
          have hxs := HX.out
          have h63 : i + 1 ≤ maxLen := by unfold maxLen; omega
          have hby : (i + 1) * 8 ≤ 140737488355328 := by omega
          have hbase := Nat.le_trans HB.out.size (Nat.le_of_lt (show wr.heap.size < (wr.alloc (.cells #[Value.int .u64 x] 39)).heap.size by simp))
          clear hxs
          go_wp2_with (at_builtin; refine wpList_append_lies _ rfl _ _ _ rfl w.heap.size 39 i0 (.int .u64 0) 1 8 Try.underlying22 HI.out HZ0.out HZ1.out HZ2.out rfl (by decide) _ _ _ rfl (HO.out.alloc _) ⟨wr.heap.size, 0, none⟩ 1 1 [.int .u64 x] rfl rfl (cell_one_new _ _ _) (by simp [Value.oneCell']) (by decide) h63 hby hbase _ rfl ?_; intro g cap w1 hown1 hgrow hat hglt; have hb1 := Lib.hid (below_append HO.out HB.out hgrow); have ho1 := Lib.hid hown1; clear hown1 hgrow hat)
          go_roundw
          case rel =>
            have hxl := HX.out
            refine ⟨i + 1, by omega, by go_num, xs ++ [x], by simp [hxl], HU.out.snoc ?_, by rw [← numsV_snoc]; exact ho1.out, hb1.out⟩
            rw [hxl]; exact HN.out
          case measure => simp [intOf] <;> omega
    · have hin : i = n := by omega
      subst hin
      go_wp2
      have hl := HL.out
      have hm8 : m ≤ 2049 := by omega
      go_loop [13] (fun s => ∃ t : Nat, i * d ≤ t ∧ t ≤ 8 * m ∧ s = .int .i64 t ∧ ∀ q, i * d ≤ q → q < t → bitOf bs q = false) (fun s => 8 * m - (intOf s).toNat)
      case atStart => exact ⟨i * d, Nat.le_refl _, by omega, by go_num, fun q h1 h2 => by omega⟩
      case round =>
        obtain ⟨t, ht0, ht1, rfl, hno⟩ := hrel
        have HNO := Lib.hid hno
        clear hno hl
        by_cases htl : t < 8 * m
        · obtain ⟨b, off, hab, hbl, hcl⟩ := HH.out.2 (by omega)
          have hcb := (HB.out.cell (p := ⟨b, off + t / 8, none⟩) hbl).trans (hcl (t / 8) (by omega))
          cases hab
          clear hcl
          have hbt := bit_test (bs.getD (t / 8) 0) (t % 8)
          have ht8 : (t : Int) / 8 < (m : Int) := by omega
          cases hbit : bitOf bs t
          · have hbit' : (bs.getD (t / 8) 0).testBit (t % 8) = false := hbit
            rw [hbit'] at hbt
            generalize bs.getD (t / 8) 0 = y at *
            have HBIT := Lib.hid hbit
            clear hbit hbit'
            go_wp2
            go_round
            case rel =>
              refine ⟨t + 1, by omega, by omega, by go_num, fun q h1 h2 => ?_⟩
              by_cases hq : q = t
              · subst hq; exact HBIT.out
              · exact HNO.out q h1 (by omega)
            case measure => simp [intOf] <;> omega
          · have hbit' : (bs.getD (t / 8) 0).testBit (t % 8) = true := hbit
            rw [hbit'] at hbt
            generalize bs.getD (t / 8) 0 = y at *
            have HBIT := Lib.hid hbit
            clear hbit hbit'
            go_wp2
            go_ret2
            exact ⟨HB.out, .inl ⟨⟨t, ht0, HBIT.out⟩, rfl⟩⟩
        · go_wp2
          go_ret2
          have hnt : ¬ Tail bs (i * d) := by
            rintro ⟨q, h1, h2⟩
            by_cases hq : q < t
            · rw [HNO.out q h1 hq] at h2; cases h2
            · rw [bitOf_beyond bs q (by have := HH.out.1; omega)] at h2; cases h2
          rcases HO.out.2 with ⟨rfl, h0⟩ | ⟨g, cap, cur, rfl, _⟩
          · subst h0
            exact ⟨HB.out, .inr ⟨hnt, _, _, xs, rfl, HX.out, HU.out, Nums.of_own HO.out⟩⟩
          · exact ⟨HB.out, .inr ⟨hnt, _, _, xs, rfl, HX.out, HU.out, Nums.of_own HO.out⟩⟩
end Go.Proofs.Ytfcejeopfodeoaa
