/- The contract of bits.Unpack. -/
import Derived.Test.YtfcejeopfodeoaaPack
import Derived.Test.YtfcejeopfodeoaaPlain2
namespace Go.Proofs.Ytfcejeopfodeoaa
open Go.RowKit
set_option linter.unusedVariables false

def UnpackNo (w : World) (c : Int) (e : Ending) (w' : World) : Prop := e = .returned (.tuple #[.slice none 0 0, .int .i64 c]) ∧ w = w'

set_option maxHeartbeats 400000 in
theorem Unpack_arg (a : Option Addr) (m c : Nat) (w : World) (n wd : Int) (hno : n < 0 ∨ 256 < n ∨ wd < 0 ∨ 64 < wd) :
    Calls Try.prog 13 #[.slice a m c, .int .i64 n, .int .i64 wd] w (UnpackNo w 1) := by
  by_cases h1 : n < 0
  · go_enter Try.func13, Try.ntmps13
    go_wp2
    go_ret2
    exact ⟨rfl, rfl⟩
  by_cases h2 : 256 < n
  · go_enter Try.func13, Try.ntmps13
    go_wp2
    go_ret2
    exact ⟨rfl, rfl⟩
  by_cases h3 : wd < 0
  · go_enter Try.func13, Try.ntmps13
    go_wp2
    go_ret2
    exact ⟨rfl, rfl⟩
  have h4 : 64 < wd := by omega
  go_enter Try.func13, Try.ntmps13
  go_wp2
  go_ret2
  exact ⟨rfl, rfl⟩

set_option maxHeartbeats 400000 in
theorem Unpack_len (a : Option Addr) (m c : Nat) (w : World) (n d : Nat) (hm : m ≤ maxLen) (hn : n ≤ 256) (hd : d ≤ 64) (hno : m ≠ (n * d + 7) / 8) :
    Calls Try.prog 13 #[.slice a m c, .int .i64 n, .int .i64 d] w (UnpackNo w 40) := by
  unfold maxLen at hm
  obtain ⟨hprod, hprodi, hprod0⟩ := mul_bounds hn hd
  have hne : ((m : Int) != ((n : Int) * d + 7) / 8) = true := by rw [bne_iff_ne]; omega
  go_enter Try.func13, Try.ntmps13
  go_wp2
  go_ret2
  exact ⟨rfl, rfl⟩

set_option maxHeartbeats 400000 in
theorem Unpack_tail (a : Option Addr) (m c : Nat) (w : World) (n d : Nat) (bs : List Nat) (h : Nums .u8 w a m bs) (hb : ∀ b ∈ bs, b < 256) (hm : m ≤ maxLen) (hn : n ≤ 256) (hd : d ≤ 64) (hl : m = (n * d + 7) / 8) (ht : Tail bs (n * d)) :
    Calls Try.prog 13 #[.slice a m c, .int .i64 n, .int .i64 d] w (UnpackNo w 40) := by
  unfold maxLen at hm
  obtain ⟨hprod, hprodi, hprod0⟩ := mul_bounds hn hd
  have hne : ((m : Int) != ((n : Int) * d + 7) / 8) = false := by rw [bne_eq_false_iff_eq]; omega
  have hr : 0 < n * d % 8 := by
    rcases Nat.eq_zero_or_pos (n * d % 8) with h0 | h0
    · exact absurd ht (no_tail bs _ (by rw [h.1]; exact hl) h0)
    · exact h0
  have hri : 0 < (n : Int) * d % 8 := by omega
  have hlast := (tail_last bs (n * d) hb (by rw [h.1]; exact hl) hr).2 ht
  obtain ⟨b, off, rfl, _, hc⟩ := h.2 (by omega)
  have hcl := hc (m - 1) (by omega)
  rw [h.1] at hlast
  generalize bs.getD (m - 1) 0 = y at *
  have hlasti : (0 : Int) < (y : Int) / 2 ^ (n * d % 8) := by exact_mod_cast hlast
  have hm1 : 0 < m := by omega
  have HL := Lib.hid hl
  clear hl hc h ht hlast
  go_enter Try.func13, Try.ntmps13
  go_wp2
  go_ret2
  exact ⟨rfl, rfl⟩

theorem info39 : (Try.prog.info? 39).map (fun i => (i.zero, i.size, i.bytes)) = some (some (.int .u64 0), 1, 8) := by kernel_rfl

theorem unpack_value (x y s r k : Nat) (hx : x < 2 ^ 64) (hy : y < 256) (hr : r ≤ 8) (hr1 : 1 ≤ r) :
    bits BinOp.or IntKind.u64 (x : Int) (IntKind.u64.wrap (IntKind.u64.wrap (bits BinOp.and IntKind.u8 ((y : Int) / 2 ^ s) ((2 ^ r - 1) % 256)) * 2 ^ k)) =
      ((x ||| (((y >>> s &&& (2 ^ r - 1)) <<< k) % 2 ^ 64) : Nat) : Int) := by
  have h2 : 2 ^ r ≤ 256 := Nat.le_trans (Nat.pow_le_pow_right (by decide) hr) (by decide)
  have h1 : 2 ≤ 2 ^ r := Nat.le_trans (by decide) (Nat.pow_le_pow_right (show 0 < 2 by decide) hr1)
  have e1 : ((2 : Int) ^ r) = ((2 ^ r : Nat) : Int) := by simp
  have e2 : ((2 : Int) ^ r - 1) % 256 = ((2 ^ r - 1 : Nat) : Int) := by
    rw [e1]
    generalize 2 ^ r = q at *
    omega
  have e3 : (y : Int) / 2 ^ s = ((y / 2 ^ s : Nat) : Int) := by simp
  have hlt : y / 2 ^ s < 256 := Nat.lt_of_le_of_lt (Nat.div_le_self _ _) hy
  rw [e2, e3, u8_and_nat _ _ hlt (by omega)]
  have hA : y / 2 ^ s &&& (2 ^ r - 1) < 256 := Nat.lt_of_le_of_lt Nat.and_le_left hlt
  have e4 : IntKind.u64.wrap (IntKind.u64.wrap ((y / 2 ^ s &&& (2 ^ r - 1) : Nat) : Int) * 2 ^ k) = ((((y / 2 ^ s &&& (2 ^ r - 1)) * 2 ^ k) % 2 ^ 64 : Nat) : Int) := by
    generalize y / 2 ^ s &&& (2 ^ r - 1) = A at *
    rw [IntKind.wrap_u64, IntKind.wrap_u64, Int.natCast_emod, Int.natCast_mul, Int.natCast_pow]
    have : (A : Int) % 18446744073709551616 = A := by omega
    rw [this]; rfl
  rw [e4, u64_or_nat _ _ hx (Nat.mod_lt _ (by decide)), Nat.shiftRight_eq_div_pow, Nat.shiftLeft_eq]

/-- What Unpack leaves: new numbers. -/
def UnpackYes (w : World) (bs : List Nat) (n d : Nat) (e : Ending) (w' : World) : Prop :=
  ∃ a c xs, e = .returned (.tuple #[.slice a n c, .int .i64 0]) ∧ xs.length = n ∧ Unpacked bs d xs ∧ Nums .u64 w' a n xs ∧ Below w.heap.size w w'

set_option maxRecDepth 100000 in
set_option maxHeartbeats 1000000 in
theorem Unpack_yes (a : Option Addr) (m c : Nat) (w : World) (n d : Nat) (bs : List Nat) (h : Nums .u8 w a m bs) (hb : ∀ b ∈ bs, b < 256) (hm : m ≤ maxLen) (hn : n ≤ 256) (hd : d ≤ 64) (hl : m = (n * d + 7) / 8) (ht : ¬ Tail bs (n * d)) :
    Calls Try.prog 13 #[.slice a m c, .int .i64 n, .int .i64 d] w (UnpackYes w bs n d) := by
  unfold maxLen at hm
  obtain ⟨hprod, hprodi, hprod0⟩ := mul_bounds hn hd
  have hne : ((m : Int) != ((n : Int) * d + 7) / 8) = false := by rw [bne_eq_false_iff_eq]; omega
  obtain ⟨i0, hi, hz0, hz1, hz2⟩ := info_parts info39
  have hmk := fun W : World => run_make (P := Try.prog) W 22 39 i0 (.int .u64 0) Try.underlying22 hi hz0 .i64 .i64 (n : Int) (n : Int) (by omega) (by omega) (by rw [hz2]; omega) (by omega)
  rw [hz1] at hmk
  have HL := Lib.hid hl
  have HT := Lib.hid ht
  have HH := Lib.hid h
  have hcase : (∃ y b off, a = some ⟨b, off, none⟩ ∧ w.cell? ⟨b, off + (m - 1), none⟩ = some (.int .u8 (y : Nat)) ∧ 0 < m ∧ 0 < (n : Int) * d % 8 ∧ (y : Int) / 2 ^ (n * d % 8) ≤ 0) ∨ (n : Int) * d % 8 ≤ 0 := by
    by_cases hr : 0 < n * d % 8
    · have hlast : ¬ 0 < bs.getD (bs.length - 1) 0 / 2 ^ (n * d % 8) := fun hc => ht ((tail_last bs (n * d) hb (by rw [h.1]; exact hl) hr).1 hc)
      obtain ⟨b, off, rfl, _, hc⟩ := h.2 (by omega)
      rw [h.1] at hlast
      refine .inl ⟨_, b, off, rfl, hc (m - 1) (by omega), by omega, by omega, ?_⟩
      have : bs.getD (m - 1) 0 / 2 ^ (n * d % 8) ≤ 0 := by omega
      exact_mod_cast this
    · exact .inr (by omega)
  clear hl h ht
  rcases hcase with ⟨y, b0, off0, rfl, hcl, hm1, hri, hlasti⟩ | hri
  all_goals
    go_enter Try.func13, Try.ntmps13
    go_wp2
    have hown : Own w.heap.size .u64 (w.alloc (Obj.cells (madeCells #[Value.int IntKind.u64 0] n) 39)) w.heap.size n (List.replicate n 0) := Own.made
    have HO := Lib.hid hown
    clear hown hmk hi hz0 hz1 hz2
    go_loopw [57] (fun s wr => ∃ i : Nat, i ≤ n ∧ s = .int .i64 i ∧ ∃ xs, Unp bs d i 0 xs ∧ Own w.heap.size .u64 wr w.heap.size n xs ∧ Below w.heap.size w wr) (fun s _ => n - (intOf s).toNat)
    case atStart => exact ⟨0, Nat.zero_le _, rfl, _, Unp.start bs d n, HO.out, (Below.refl _ _).alloc (Nat.le_refl _) _⟩
    case round =>
      obtain ⟨i, hi, rfl, xs, hup, hown, hbel⟩ := hrel
      have HU := Lib.hid hup
      have HO := Lib.hid hown
      have HB := Lib.hid hbel
      clear hup hown hbel
      by_cases hlt : i < n
      · go_wp2
        go_loopw [11] (fun s wr => ∃ k : Nat, k ≤ d ∧ s = .int .i64 k ∧ ∃ xs, Unp bs d i k xs ∧ Own w.heap.size .u64 wr w.heap.size n xs ∧ Below w.heap.size w wr) (fun s _ => d - (intOf s).toNat)
        case atStart => exact ⟨0, Nat.zero_le _, rfl, xs, HU.out, HO.out, HB.out⟩
        case round =>
          obtain ⟨k, hk, rfl, xs2, hup, hown, hbel⟩ := hrel
          by_cases hkd : k < d
          · have hid : i * d + d ≤ n * d := by rw [← Nat.succ_mul]; exact Nat.mul_le_mul_right _ hlt
            have hidi : (i : Int) * (d : Int) + d ≤ n * d := by rw [← Int.natCast_mul, ← Int.natCast_mul]; omega
            have hid0 : 0 ≤ (i : Int) * (d : Int) := by rw [← Int.natCast_mul]; omega
            have HU := Lib.hid hup
            have HO := Lib.hid hown
            have HB := Lib.hid hbel
            clear hup hown hbel
            go_wp2
            generalize hr : min (8 - ((i : Int) * d + k) % 8) ((d : Int) - k) = R
            obtain ⟨r, rfl⟩ : ∃ r : Nat, R = (r : Int) := ⟨R.toNat, by omega⟩
            have hr1 : (1 : Int) ≤ r := by omega
            have hr2 : (r : Int) ≤ 8 := by omega
            have hm := HL.out
            obtain ⟨hcell, hfr⟩ := HO.out.2.2.2 i hlt
            obtain ⟨b, off, hab, hbl, hc⟩ := HH.out.2 (by omega)
            have hcb := (HB.out.cell (p := ⟨b, off + (i * d + k) / 8, none⟩) hbl).trans (hc ((i * d + k) / 8) (by omega))
            have HR := Lib.hid hr
            clear hr hc
            cases hab
            generalize hp : (i : Int) * d + k = P at *
            obtain ⟨p, rfl⟩ : ∃ p : Nat, P = (p : Int) := ⟨P.toNat, by omega⟩
            have hpn : i * d + k = p := by omega
            have hpm : (p : Int) / 8 < (m : Int) := by omega
            have hpi0 : (0 : Int) ≤ (p : Int) / 8 := by omega
            have hpr0 : (0 : Int) ≤ (p : Int) % 8 := by omega
            have hpr1 : (p : Int) % 8 < 8 := by omega
            have hi0 : (0 : Int) ≤ (i : Int) := by omega
            have hin : (i : Int) < (n : Int) := by omega
            rw [hpn] at hcb
            have hy2 : bs.getD (p / 8) 0 < 256 := hb _ (getD_mem _ _ (by have := HH.out.1; omega))
            have hx2 : xs2.getD i 0 < 2 ^ 64 := Nat.lt_of_lt_of_le (HU.out.at_ (by have := HO.out.2.2.1; omega)).lt (Nat.pow_le_pow_right (by decide) (by omega))
            generalize hyv : bs.getD (p / 8) 0 = yv at *
            generalize hxv : xs2.getD i 0 = xv at *
            have HP := Lib.hid hpn
            have HYV := Lib.hid hyv
            have HXV := Lib.hid hxv
            have hw1 : IntKind.i64.wrap ((p : Int) / 8) = (p : Int) / 8 := IntWalk.i64_in _ (by omega)
            have hw2 : ((p : Int) / 8).toNat = p / 8 := by omega
            clear hp hpn hm hyv hxv
            go_region
            go_wp2
            go_roundw
            case rel =>
              have hpn := HP.out
              rw [unpack_value xv yv (p % 8) r k hx2 hy2 (by omega) (by omega)]
              refine ⟨k + r, by have := HR.out; omega, by go_num, _, ?_, (HO.out.set _ _ hlt).drew, (HB.out.setCell (Nat.le_refl _) _).drew⟩
              have hst := (HU.out.at_ (by have := HO.out.2.2.1; omega)).step (r := r) (w := d) (by have := HR.out; rw [hpn]; omega) hkd hd
              rw [hpn, HYV.out, HXV.out] at hst
              exact HU.out.set (by have := HO.out.2.2.1; omega) hst
            case measure => simp [intOf]; omega
          · go_wp2
            go_roundw
            case rel =>
              have hdk : k = d := by omega
              subst hdk
              exact ⟨i + 1, by omega, by go_num, xs2, hup.next, hown, hbel⟩
            case measure => simp [intOf]; omega
      · have hin : i = n := by omega
        subst hin
        go_wp2
        go_ret2
        exact ⟨_, _, xs, rfl, HO.out.2.2.1, HU.out.all (by have := HO.out.2.2.1; omega), HO.out.nums, HB.out⟩
end Go.Proofs.Ytfcejeopfodeoaa
