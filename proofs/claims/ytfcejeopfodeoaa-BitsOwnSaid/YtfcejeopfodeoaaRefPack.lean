/- The contract of the reference's Pack. -/
import Derived.Test.YtfcejeopfodeoaaRefWidth
import Derived.Test.YtfcejeopfodeoaaPack
import Derived.Deep.AppendLies
import Derived.Deep.DeepMust
namespace Go.Proofs.Ytfcejeopfodeoaa
open Go.RowKit

set_option maxHeartbeats 400000 in
theorem RefPack_no (a : Option Addr) (n c : Nat) (xs : List Nat) (w : World) (wd : Int) (h : Nums .u64 w a n xs) (hb : ∀ x ∈ xs, x < 2 ^ 64) (hn : n ≤ maxLen)
    (hno : wd < 0 ∨ 64 < wd ∨ 256 < n ∨ wd < wide xs) : Calls Try.prog 10 #[.slice a n c, .int .i64 wd] w (PackNo w) := by
  have hn' := hn
  unfold maxLen at hn'
  by_cases h1 : wd < 0
  · go_enter Try.func10, Try.ntmps10
    go_wp2
    go_ret2
    exact ⟨rfl, rfl⟩
  by_cases h2 : 64 < wd
  · go_enter Try.func10, Try.ntmps10
    go_wp2
    go_ret2
    exact ⟨rfl, rfl⟩
  by_cases h3 : 256 < n
  · go_enter Try.func10, Try.ntmps10
    go_wp2
    go_ret2
    exact ⟨rfl, rfl⟩
  have h4 : wd < wide xs := by omega
  go_enter Try.func10, Try.ntmps10
  go_wp2_with (go_at_call 12; refine (RefWidth_calls _ _ _ xs _ h hb hn).mono ?_; rintro e w' ⟨rfl, rfl⟩)
  go_ret2
  exact ⟨rfl, rfl⟩

/-- What the reference's Pack leaves: new bytes (nil of none). -/
def RefPackYes (w : World) (xs : List Nat) (d : Nat) (e : Ending) (w' : World) : Prop :=
  ∃ a c bs, e = .returned (.tuple #[.slice a bs.length c, .bool true]) ∧ bs.length = (xs.length * d + 7) / 8 ∧ Upto xs d (xs.length * d) bs ∧ Nums .u8 w' a bs.length bs ∧ Below w.heap.size w w'

theorem bit_test (x k : Nat) : (((x : Int) / 2 ^ k).tmod 2 == 1) = x.testBit k := by
  have e1 : (x : Int) / 2 ^ k = ((x / 2 ^ k : Nat) : Int) := by simp
  rw [testBit_of_mod, e1]
  generalize x / 2 ^ k = y
  rw [Bool.eq_iff_iff, beq_iff_eq, decide_eq_true_iff, Int.tmod_eq_emod_of_nonneg (by omega)]
  omega

theorem ref_rel0 {xs : List Nat} {w w1 : World} {d i k p g cap n x : Nat} {bs : List Nat} (hp : i * d + k = p) (hup : Upto xs d p bs) (hbit : x.testBit k = false) (hx : xs.getD i 0 = x) (hk : k < d) (hlen : bs.length = p / 8 + 1)
    (ho : w1.ownsRow w.heap.size 5 1 (.slice (some ⟨g, 0, none⟩) n cap) n (numsV .u8 bs)) (hb : Below w.heap.size w w1) :
    ∃ k1 : Nat, k1 ≤ d ∧ Value.int .i64 ((k : Int) + 1) = .int .i64 k1 ∧ Value.int .i64 ((p : Int) + 1) = .int .i64 (i * d + k1 : Nat) ∧ ∃ bs : List Nat, bs.length = (i * d + k1 + 7) / 8 ∧ Upto xs d (i * d + k1) bs ∧ w1.ownsRow w.heap.size 5 1 (.slice (some ⟨g, 0, none⟩) n cap) bs.length (numsV .u8 bs) ∧ Below w.heap.size w w1 := by
  have hn : bs.length = n := by have := ho.1; rw [numsV_length] at this; omega
  subst hn
  refine ⟨k + 1, by omega, by go_num, ?_, bs, by omega, ?_, ho, hb⟩
  · rw [← hp]; congr 1
  · rw [← hp] at hup; exact hup.zero_bit hk (by rw [hx]; exact hbit)
theorem ref_rel1 {xs : List Nat} {w w1 : World} {d i k p g cap n x : Nat} {bs : List Nat} (hp : i * d + k = p) (hup : Upto xs d p bs) (hbit : x.testBit k = true) (hx : xs.getD i 0 = x) (hk : k < d) (hlen : bs.length = p / 8 + 1)
    (ho : w1.ownsRow w.heap.size 5 1 (.slice (some ⟨g, 0, none⟩) n cap) n (numsV .u8 bs)) (hb : Below w.heap.size w w1) :
    ∃ k1 : Nat, k1 ≤ d ∧ Value.int .i64 ((k : Int) + 1) = .int .i64 k1 ∧ Value.int .i64 ((p : Int) + 1) = .int .i64 (i * d + k1 : Nat) ∧ ∃ bs' : List Nat, bs'.length = (i * d + k1 + 7) / 8 ∧ Upto xs d (i * d + k1) bs' ∧
      (w1.setCell ⟨g, p / 8, none⟩ (Value.int .u8 (((bs[p / 8]?.getD 0 : Nat) + 2 ^ (p % 8)) % 256))).ownsRow w.heap.size 5 1 (.slice (some ⟨g, 0, none⟩) n cap) bs'.length (numsV .u8 bs') ∧ Below w.heap.size w (w1.setCell ⟨g, p / 8, none⟩ (Value.int .u8 (((bs[p / 8]?.getD 0 : Nat) + 2 ^ (p % 8)) % 256))) := by
  have hn : bs.length = n := by have := ho.1; rw [numsV_length] at this; omega
  subst hn
  have hlt := hup.byte_lt (by omega)
  have h7 : 2 ^ (p % 8) ≤ 2 ^ 7 := Nat.pow_le_pow_right (by decide) (by omega)
  have hg : bs.getD (p / 8) 0 = bs[p / 8]?.getD 0 := by simp [List.getD]
  have hv : (((bs[p / 8]?.getD 0 : Nat) : Int) + 2 ^ (p % 8)) % 256 = ((bs.getD (p / 8) 0 + 2 ^ (p % 8) : Nat) : Int) := by
    rw [hg] at hlt ⊢
    have e1 : ((2 : Int) ^ (p % 8)) = ((2 ^ (p % 8) : Nat) : Int) := by simp
    rw [e1]
    omega
  have hB := ho.lt g rfl
  rw [hv]
  refine ⟨k + 1, by omega, by go_num, ?_, bs.set (p / 8) (bs.getD (p / 8) 0 + 2 ^ (p % 8)), by rw [List.length_set]; omega, ?_, ?_, hb.setCell hB.1 _⟩
  · rw [← hp]; congr 1
  · rw [← hp] at hup ⊢; exact hup.one_bit hk (by omega) (by rw [hx]; exact hbit)
  · rw [List.length_set, ← numsV_set]; exact (ho.stored _ _).1
theorem ref_end {xs : List Nat} {w wr : World} {d n : Nat} {v : Value} {bs : List Nat} (hl : xs.length = n) (hn : bs.length = (n * d + 7) / 8) (hup : Upto xs d (n * d) bs) (ho : wr.ownsRow w.heap.size 5 1 v bs.length (numsV .u8 bs)) (hb : Below w.heap.size w wr) :
    RefPackYes w xs d (.returned (.tuple #[v, .bool true])) wr := by
  subst hl
  rcases ho.2 with ⟨rfl, h0⟩ | ⟨g, cap, cur, rfl, _⟩
  · exact ⟨none, 0, bs, by rw [h0], hn, hup, Nums.of_own (c := 0) (by rw [h0]; rw [h0] at ho; exact ho), hb⟩
  · exact ⟨_, cap, bs, rfl, hn, hup, Nums.of_own ho, hb⟩

set_option maxRecDepth 100000 in
set_option maxHeartbeats 1000000 in
theorem RefPack_yes (a : Option Addr) (n c : Nat) (xs : List Nat) (w : World) (d : Nat) (h : Nums .u64 w a n xs) (hb : ∀ x ∈ xs, x < 2 ^ 64)
    (hn : n ≤ 256) (hd : d ≤ 64) (hw : wide xs ≤ d) : Calls Try.prog 10 #[.slice a n c, .int .i64 d] w (RefPackYes w xs d) := by
  have hnm : n ≤ maxLen := by unfold maxLen; omega
  have hprod : n * d ≤ 16384 := Nat.le_trans (Nat.mul_le_mul hn hd) (by decide)
  obtain ⟨i0, hi0, hz0, hz1, hz2⟩ := info_parts info5
  have HL := Lib.hid h.1
  have HI := Lib.hid hi0
  have HZ0 := Lib.hid hz0
  have HZ1 := Lib.hid hz1
  have HZ2 := Lib.hid hz2
  clear hi0 hz0 hz1 hz2
  have hwb : decide (d < wide xs) = false := by simp; omega
  go_enter Try.func10, Try.ntmps10
  go_wp2_with (go_at_call 12; refine (RefWidth_calls _ _ _ xs _ h hb hnm).mono ?_; rintro e w' ⟨rfl, rfl⟩)
  go_loopw [6, 7, 8] (fun v t s wr => ∃ i : Nat, i ≤ n ∧ s = .int .i64 i ∧ t = .int .i64 (i * d : Nat) ∧ ∃ bs : List Nat, bs.length = (i * d + 7) / 8 ∧ Upto xs d (i * d) bs ∧ wr.ownsRow w.heap.size 5 1 v bs.length (numsV .u8 bs) ∧ Below w.heap.size w wr) (fun _ _ s _ => n - (intOf s).toNat)
  case atStart => exact ⟨0, Nat.zero_le _, rfl, by simp, [], by simp, by simpa using Upto.zero xs d 0, World.ownsRow_nil _ _ _ _, Below.refl _ _⟩
  case round =>
    obtain ⟨i, hi, rfl, rfl, bs, hlen, hup, hown, hbel⟩ := hrel
    have HU := Lib.hid hup
    have HO := Lib.hid hown
    have HB := Lib.hid hbel
    have HN := Lib.hid hlen
    clear hup hown hbel hlen
    by_cases hlt : i < n
    · obtain ⟨b, off, rfl, hbl, hc⟩ := h.2 (by omega)
      have hci := hc i hlt
      have hxb : xs.getD i 0 < 2 ^ 64 := hb _ (getD_mem _ _ (by have := HL.out; omega))
      generalize hx : xs.getD i 0 = x at *
      have HX := Lib.hid hx
      have HC := Lib.hid hci
      clear hc h hx hci
      go_wp2
      go_loopw [6, 7, 9] (fun v t s wr => ∃ k : Nat, k ≤ d ∧ s = .int .i64 k ∧ t = .int .i64 (i * d + k : Nat) ∧ ∃ bs : List Nat, bs.length = (i * d + k + 7) / 8 ∧ Upto xs d (i * d + k) bs ∧ wr.ownsRow w.heap.size 5 1 v bs.length (numsV .u8 bs) ∧ Below w.heap.size w wr) (fun _ _ s _ => d - (intOf s).toNat)
      case atStart => exact ⟨0, Nat.zero_le _, rfl, rfl, bs, HN.out, HU.out, HO.out, HB.out⟩
      case round =>
        obtain ⟨k, hk, rfl, rfl, bs2, hlen, hup, hown, hbel⟩ := hrel
        rename_i v _ _
        have hid : i * d + k ≤ n * d := by
          have : i * d + d ≤ n * d := by rw [← Nat.succ_mul]; exact Nat.mul_le_mul_right _ hlt
          omega
        have HU := Lib.hid hup
        have HO := Lib.hid hown
        have HB := Lib.hid hbel
        have HN := Lib.hid hlen
        clear hup hown hbel hlen
        by_cases hkd : k < d
        · have hp : (i * d + k : Nat) ≤ 16384 := by omega
          have hl1 : bs2.length ≤ 2048 := by have := HN.out; omega
          have h63 : bs2.length + 1 ≤ maxLen := by unfold maxLen; omega
          have hby : (bs2.length + 1) * 1 ≤ 140737488355328 := by omega
          have hbase := Nat.le_trans HB.out.size (Nat.le_of_lt (show wr.heap.size < (wr.alloc (.cells #[Value.int .u8 0] 5)).heap.size by simp))
          generalize hpp : i * d + k = p at *
          have HP := Lib.hid hpp
          clear hpp
          have hbt := bit_test x k
          have hp0 : (0 : Int) ≤ (p : Int) / 8 := by omega
          have hp8l : (p : Int) / 8 < (bs2.length : Int) + 1 := by have := HN.out; omega
          by_cases hp8 : p % 8 = 0
          · have hp8b : ((p : Int) % 8 == 0) = true := by rw [beq_iff_eq]; omega
            have H8 := Lib.hid hp8
            clear hp8
            cases hbit : x.testBit k
            · rw [hbit] at hbt
              have HBIT := Lib.hid hbit
              clear hbit
              go_wp2_with (at_builtin; refine wpList_append_lies _ rfl _ _ _ rfl w.heap.size 5 i0 (.int .u8 0) 1 1 Try.underlying24 HI.out HZ0.out HZ1.out HZ2.out rfl (by decide) _ _ _ rfl (HO.out.alloc _) ⟨wr.heap.size, 0, none⟩ 1 1 [.int .u8 0] rfl rfl (cell_one_new _ _ _) (by decide) (by decide) h63 hby hbase _ rfl ?_; intro g cap w1 hown1 hgrow hat hglt; have hb1 := Lib.hid (below_append HO.out HB.out hgrow); have hci := (hb1.out.cell (p := ⟨b, off + i, none⟩) hbl).trans HC.out; have ho1 := Lib.hid (row_snoc hown1 (by decide)); have hlen1 := HN.out; obtain ⟨hs1, hf1⟩ := row_facts (j := p / 8) ho1.out (by omega); clear hlen1 hown1 hgrow hat)
              go_roundw
              case rel => exact ref_rel0 HP.out HU.out.more HBIT.out HX.out hkd (by have := HN.out; have := H8.out; simp; omega) ho1.out hb1.out
              case measure => simp [intOf]; omega
            · rw [hbit] at hbt
              have HBIT := Lib.hid hbit
              clear hbit
              go_wp2_with (at_builtin; refine wpList_append_lies _ rfl _ _ _ rfl w.heap.size 5 i0 (.int .u8 0) 1 1 Try.underlying24 HI.out HZ0.out HZ1.out HZ2.out rfl (by decide) _ _ _ rfl (HO.out.alloc _) ⟨wr.heap.size, 0, none⟩ 1 1 [.int .u8 0] rfl rfl (cell_one_new _ _ _) (by decide) (by decide) h63 hby hbase _ rfl ?_; intro g cap w1 hown1 hgrow hat hglt; have hb1 := Lib.hid (below_append HO.out HB.out hgrow); have hci := (hb1.out.cell (p := ⟨b, off + i, none⟩) hbl).trans HC.out; have ho1 := Lib.hid (row_snoc hown1 (by decide)); have hlen1 := HN.out; obtain ⟨hs1, hf1⟩ := row_facts (j := p / 8) ho1.out (by omega); clear hlen1 hown1 hgrow hat)
              go_roundw
              case rel => exact ref_rel1 HP.out HU.out.more HBIT.out HX.out hkd (by have := HN.out; have := H8.out; simp; omega) ho1.out hb1.out
              case measure => simp [intOf]; omega
          · have hp9 : (p : Int) / 8 < (bs2.length : Int) := by have := HN.out; omega
            obtain ⟨g, cap, rfl, _, _⟩ := HO.out.form (by omega)
            obtain ⟨hs1, hf1⟩ := row_facts (j := p / 8) HO.out (by omega)
            have hci := (HB.out.cell (p := ⟨b, off + i, none⟩) hbl).trans HC.out
            have hp8 : ((p : Int) % 8 == 0) = false := by rw [beq_eq_false_iff_ne]; omega
            cases hbit : x.testBit k
            · rw [hbit] at hbt
              have HBIT := Lib.hid hbit
              clear hbit
              go_wp2
              go_roundw
              case rel => exact ref_rel0 HP.out HU.out HBIT.out HX.out hkd (by have := HN.out; omega) HO.out HB.out
              case measure => simp [intOf]; omega
            · rw [hbit] at hbt
              have HBIT := Lib.hid hbit
              clear hbit
              go_wp2
              go_roundw
              case rel => exact ref_rel1 HP.out HU.out HBIT.out HX.out hkd (by have := HN.out; omega) HO.out HB.out
              case measure => simp [intOf]; omega
        · go_wp2
          go_roundw
          case rel =>
            have hdk : k = d := by omega
            subst hdk
            exact ⟨i + 1, by omega, by go_num, by rw [Nat.succ_mul], bs2, by rw [Nat.succ_mul]; exact HN.out, by rw [Nat.succ_mul]; exact HU.out, HO.out, HB.out⟩
          case measure => simp [intOf]; omega
    · have : i = n := by omega
      subst this
      go_wp2
      go_ret2
      exact ref_end HL.out HN.out HU.out HO.out HB.out
end Go.Proofs.Ytfcejeopfodeoaa
