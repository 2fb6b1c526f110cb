/- The contract of bits.Pack. -/
import Derived.Test.YtfcejeopfodeoaaWidth
import Derived.StillTailTactics
import Derived.BigQuiet
import Derived.Deep.QuietTactic
import Derived.Handy
import Derived.BigRegion
import Derived.RegionTactic
import Derived.ChangeAlike
namespace Go.Proofs.Ytfcejeopfodeoaa
open Go.RowKit

def PackNo (w : World) (e : Ending) (w' : World) : Prop := e = .returned (.tuple #[.slice none 0 0, .bool false]) ∧ w = w'

set_option maxHeartbeats 400000 in
theorem Pack_no (a : Option Addr) (n c : Nat) (xs : List Nat) (w : World) (wd : Int) (h : Nums .u64 w a n xs) (hb : ∀ x ∈ xs, x < 2 ^ 64) (hn : n ≤ maxLen)
    (hno : wd < 0 ∨ 64 < wd ∨ 256 < n ∨ wd < wide xs) : Calls Try.prog 9 #[.slice a n c, .int .i64 wd] w (PackNo w) := by
  have hn' := hn
  unfold maxLen at hn'
  by_cases h1 : wd < 0
  · go_enter Try.func9, Try.ntmps9
    go_wp2
    go_ret2
    exact ⟨rfl, rfl⟩
  by_cases h2 : 64 < wd
  · go_enter Try.func9, Try.ntmps9
    go_wp2
    go_ret2
    exact ⟨rfl, rfl⟩
  by_cases h3 : 256 < n
  · go_enter Try.func9, Try.ntmps9
    go_wp2
    go_ret2
    exact ⟨rfl, rfl⟩
  have h4 : wd < wide xs := by omega
  go_enter Try.func9, Try.ntmps9
  go_wp2_with (go_at_call 11; refine (Width_calls _ _ _ xs _ h hb hn).mono ?_; rintro e w' ⟨rfl, rfl⟩)
  go_ret2
  exact ⟨rfl, rfl⟩

theorem info5 : (Try.prog.info? 5).map (fun i => (i.zero, i.size, i.bytes)) = some (some (.int .u8 0), 1, 1) := by kernel_rfl

theorem Own.made {k : IntKind} {w : World} {n : Nat} {t : TypeId} : Own w.heap.size k (w.alloc (.cells (madeCells #[Value.int k 0] n) t)) w.heap.size n (List.replicate n 0) := by
  refine ⟨Nat.le_refl _, by simp, by simp, fun i hi => ⟨?_, by simp⟩⟩
  rw [World.cell?_alloc_new]
  simp [madeCells, hi, Nat.mod_one]

theorem pack_value (x k r s bv : Nat) (hx : x < 2 ^ 64) (hr : r ≤ 8) (hbv : bv < 256) :
    bits BinOp.or IntKind.u8 (bv : Int) (bits BinOp.and IntKind.u64 ((x : Int) / 2 ^ k) (IntKind.u64.wrap (IntKind.u64.wrap (2 ^ r) - 1)) % 256 * 2 ^ s % 256) =
      ((bv ||| ((((x >>> k &&& (2 ^ r - 1)) % 256) <<< s) % 256) : Nat) : Int) := by
  have h2 : 2 ^ r ≤ 256 := Nat.le_trans (Nat.pow_le_pow_right (by decide) hr) (by decide)
  have h1 : 0 < 2 ^ r := Nat.two_pow_pos r
  have e1 : ((2 : Int) ^ r) = ((2 ^ r : Nat) : Int) := by simp
  have e2 : IntKind.u64.wrap (IntKind.u64.wrap (2 ^ r) - 1) = ((2 ^ r - 1 : Nat) : Int) := by
    rw [e1]
    generalize 2 ^ r = q at *
    rw [IntKind.wrap_u64, IntKind.wrap_u64]; omega
  have e3 : (x : Int) / 2 ^ k = ((x / 2 ^ k : Nat) : Int) := by simp
  rw [e2, e3, u64_and_nat _ _ (Nat.lt_of_le_of_lt (Nat.div_le_self _ _) hx) (by omega)]
  have e4 : (((x / 2 ^ k &&& (2 ^ r - 1) : Nat) : Int) % 256 * 2 ^ s % 256) = ((((x / 2 ^ k &&& (2 ^ r - 1)) % 256 * 2 ^ s) % 256 : Nat) : Int) := by
    generalize x / 2 ^ k &&& (2 ^ r - 1) = A
    rw [Int.natCast_emod, Int.natCast_mul, Int.natCast_emod, Int.natCast_pow]; rfl
  rw [e4, u8_or_nat _ _ hbv (Nat.mod_lt _ (by decide)), Nat.shiftRight_eq_div_pow, Nat.shiftLeft_eq]

/-- What Pack leaves: new bytes. -/
def PackYes (w : World) (xs : List Nat) (d : Nat) (e : Ending) (w' : World) : Prop :=
  ∃ g m bs, e = .returned (.tuple #[.slice (some ⟨g, 0, none⟩) m m, .bool true]) ∧ m = (xs.length * d + 7) / 8 ∧ Upto xs d (xs.length * d) bs ∧ Own w.heap.size .u8 w' g m bs ∧ Below w.heap.size w w'

set_option maxRecDepth 100000 in
set_option maxHeartbeats 1000000 in
theorem Pack_yes (a : Option Addr) (n c : Nat) (xs : List Nat) (w : World) (d : Nat) (h : Nums .u64 w a n xs) (hb : ∀ x ∈ xs, x < 2 ^ 64)
    (hn : n ≤ 256) (hd : d ≤ 64) (hw : wide xs ≤ d) : Calls Try.prog 9 #[.slice a n c, .int .i64 d] w (PackYes w xs d) := by
  have hnm : n ≤ maxLen := by unfold maxLen; omega
  have hprod : n * d ≤ 16384 := Nat.le_trans (Nat.mul_le_mul hn hd) (by decide)
  have hprodi : (n : Int) * (d : Int) ≤ 16384 := by exact_mod_cast hprod
  have hprod0 : 0 ≤ (n : Int) * (d : Int) := by exact_mod_cast Nat.zero_le _
  obtain ⟨i0, hi, hz0, hz1, hz2⟩ := info_parts info5
  have hmk := fun W : World => run_make (P := Try.prog) W 24 5 i0 (.int .u8 0) Try.underlying24 hi hz0 .i64 .i64 (((n : Int) * d + 7) / 8) (((n : Int) * d + 7) / 8) (by omega) (by omega) (by rw [hz2]; omega) (by omega)
  rw [hz1] at hmk
  have HL := Lib.hid h.1
  go_enter Try.func9, Try.ntmps9
  go_wp2_with (go_at_call 11; refine (Width_calls _ _ _ xs _ h hb hnm).mono ?_; rintro e w' ⟨rfl, rfl⟩)
  generalize hm : (n * d + 7) / 8 = m at *
  have hown : Own w.heap.size .u8 (w.alloc (Obj.cells (madeCells #[Value.int IntKind.u8 0] m) 5)) w.heap.size m (List.replicate m 0) := Own.made
  have HO := Lib.hid hown
  have HM := Lib.hid hm
  clear hown hmk hi hz0 hz1 hz2 hm
  go_loopw [38] (fun s wr => ∃ i : Nat, i ≤ n ∧ s = .int .i64 i ∧ ∃ bs, Upto xs d (i * d) bs ∧ Own w.heap.size .u8 wr w.heap.size m bs ∧ Below w.heap.size w wr) (fun s _ => n - (intOf s).toNat)
  case atStart => exact ⟨0, Nat.zero_le _, rfl, _, by simpa using Upto.zero xs d m, HO.out, (Below.refl _ _).alloc (Nat.le_refl _) _⟩
  case round =>
    obtain ⟨i, hi, rfl, bs, hup, hown, hbel⟩ := hrel
    have HU := Lib.hid hup
    have HO := Lib.hid hown
    have HB := Lib.hid hbel
    clear hup hown hbel
    by_cases hlt : i < n
    · obtain ⟨b, off, rfl, hbl, hc⟩ := h.2 (by omega)
      have hck : wr.cell? ⟨b, off + i, none⟩ = some (.int .u64 ((xs.getD i 0 : Nat) : Int)) := by
        rw [← hc i hlt]; exact HB.out.cell (p := ⟨b, off + i, none⟩) hbl
      have hxb : xs.getD i 0 < 2 ^ 64 := by
        exact hb _ (getD_mem _ _ (by have := HL.out; omega))
      generalize hx : xs.getD i 0 = x at *
      have HX := Lib.hid hx
      clear hc h hx
      go_wp2
      go_loopw [9] (fun s wr => ∃ k : Nat, k ≤ d ∧ s = .int .i64 k ∧ ∃ bs, Upto xs d (i * d + k) bs ∧ Own w.heap.size .u8 wr w.heap.size m bs ∧ Below w.heap.size w wr) (fun s _ => d - (intOf s).toNat)
      case atStart => exact ⟨0, Nat.zero_le _, rfl, bs, HU.out, HO.out, HB.out⟩
      case round =>
        obtain ⟨k, hk, rfl, bs2, hup, hown, hbel⟩ := hrel
        by_cases hkd : k < d
        · have hid : i * d + d ≤ n * d := by rw [← Nat.succ_mul]; exact Nat.mul_le_mul_right _ hlt
          have hidi : (i : Int) * (d : Int) + d ≤ n * d := by exact_mod_cast hid
          have hid0 : 0 ≤ (i : Int) * (d : Int) := by exact_mod_cast Nat.zero_le _
          have HU := Lib.hid hup
          have HO := Lib.hid hown
          have HB := Lib.hid hbel
          clear hup hown hbel
          go_wp2
          generalize hr : min (8 - ((i : Int) * d + k) % 8) ((d : Int) - k) = R
          obtain ⟨r, rfl⟩ : ∃ r : Nat, R = (r : Int) := ⟨R.toNat, by omega⟩
          have hr1 : (1 : Int) ≤ r := by omega
          have hr2 : (r : Int) ≤ 8 := by omega
          have hm := HM.out
          obtain ⟨hcell, hfr⟩ := HO.out.2.2.2 ((i * d + k) / 8) (by omega)
          have HR := Lib.hid hr
          clear hr
          generalize hp : (i : Int) * d + k = P at *
          obtain ⟨p, rfl⟩ : ∃ p : Nat, P = (p : Int) := ⟨P.toNat, by omega⟩
          have hpn : i * d + k = p := by omega
          have hpm : (p : Int) / 8 < (m : Int) := by omega
          have hpi0 : (0 : Int) ≤ (p : Int) / 8 := by omega
          have hpr0 : (0 : Int) ≤ (p : Int) % 8 := by omega
          have hpr1 : (p : Int) % 8 < 8 := by omega
          rw [hpn] at hcell hfr
          generalize hbv : bs2.getD (p / 8) 0 = bv at *
          have HP := Lib.hid hpn
          have HBV := Lib.hid hbv
          have hw1 : IntKind.i64.wrap ((p : Int) / 8) = (p : Int) / 8 := IntWalk.i64_in _ (by omega)
          have hw2 : ((p : Int) / 8).toNat = p / 8 := by omega
          clear hp hpn hbv hm
          go_region
          go_wp2
          go_roundw
          case rel =>
            have hpn := HP.out
            have hlen := HO.out.2.2.1
            have hbv2 : bv < 256 := by
              rw [← HBV.out]; exact HU.out.1 _ (getD_mem _ _ (by omega))
            rw [pack_value x k r (p % 8) bv hxb (by omega) hbv2]
            refine ⟨k + r, by have := HR.out; omega, by go_num, _, ?_, (HO.out.set _ _ (by omega)).drew, ((HB.out.setCell (Nat.le_refl _) _).drew)⟩
            have := HU.out.step (r := r) (by have := HR.out; rw [hpn]; omega) hkd (by omega) _ rfl
            rw [hpn, HX.out, HBV.out] at this
            exact this
          case measure => simp [intOf]; omega
        · go_wp2
          go_roundw
          case rel =>
            refine ⟨i + 1, by omega, by go_num, bs2, ?_, hown, hbel⟩
            rw [Nat.succ_mul, show d = k by omega]
            rw [show d = k by omega] at hup
            exact hup
          case measure => simp [intOf]; omega
    · have : i = n := by omega
      subst this
      go_wp2
      go_ret2
      exact ⟨_, _, bs, rfl, by rw [← HM.out, HL.out], by rw [HL.out]; exact HU.out, HO.out, HB.out⟩
end Go.Proofs.Ytfcejeopfodeoaa
