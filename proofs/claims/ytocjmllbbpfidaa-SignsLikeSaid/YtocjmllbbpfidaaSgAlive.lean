/- The closed probe of chapter 2 says true. -/
import Derived.Test.YtocjmllbbpfidaaSgLike
namespace Go.Proofs.Ytocjmllbbpfidaa
open Go.RowKit Go.Deep
set_option linter.unusedVariables false

def sABC : ByteArray := ⟨#[97, 98, 99]⟩
def sAXB : ByteArray := ⟨#[97, 244, 143, 191, 191, 98]⟩
theorem n_abc : N ⟨#[97, 98, 99]⟩ = 3 := N_unique (by decide +kernel) (by decide +kernel)
theorem n_axb : N ⟨#[97, 244, 143, 191, 191, 98]⟩ = 3 := N_unique (by decide +kernel) (by decide +kernel)
theorem n_ae : N ⟨#[97, 195, 169]⟩ = 2 := N_unique (by decide +kernel) (by decide +kernel)
theorem n_jp : N ⟨#[230, 151, 165, 230, 156, 172, 120]⟩ = 3 := N_unique (by decide +kernel) (by decide +kernel)
theorem n_p1 : N ⟨#[97, 37]⟩ = 2 := N_unique (by decide +kernel) (by decide +kernel)
theorem n_p2 : N ⟨#[95, 98, 95]⟩ = 3 := N_unique (by decide +kernel) (by decide +kernel)
theorem n_p3 : N ⟨#[97, 95]⟩ = 2 := N_unique (by decide +kernel) (by decide +kernel)
theorem aboveF_of {s a : ByteArray} {n m : Nat} (hN : N s = n) (hc : cleanK s n = true) (hm : ¬ (n : Int) ≤ (m : Int)) (ha : aboveK s m = some a) : aboveF s (m : Int) = (a, true) := by
  unfold aboveF
  rw [if_neg (by unfold clean; rw [hN, hc]; simp), hN, if_neg hm, Int.toNat_natCast, ha]
theorem aboveK_hit {s : ByteArray} {k : Nat} (h : rn s (P s k) < 1114111) : aboveK s (k + 1) = some (s.extract 0 (P s k) ++ Utf8.encode (nextF (rn s (P s k)) : Nat)) := by
  rw [aboveK, if_pos h]
theorem aboveK_miss {s : ByteArray} {k : Nat} (h : ¬ rn s (P s k) < 1114111) : aboveK s (k + 1) = aboveK s k := by
  rw [aboveK, if_neg h]
theorem ev_a1 : aboveF ⟨#[97, 98, 99]⟩ 2 = (⟨#[97, 99]⟩, true) := by
  refine aboveF_of (m := 2) n_abc (by decide +kernel) (by decide) ?_
  rw [aboveK_hit (by decide +kernel)]
  exact congrArg some (by decide +kernel)
theorem ev_a2 : aboveF ⟨#[97, 244, 143, 191, 191, 98]⟩ 2 = (⟨#[98]⟩, true) := by
  refine aboveF_of (m := 2) n_axb (by decide +kernel) (by decide) ?_
  rw [aboveK_miss (by decide +kernel), aboveK_hit (by decide +kernel)]
  exact congrArg some (by decide +kernel)
theorem ev_f : firstF ⟨#[230, 151, 165, 230, 156, 172, 120]⟩ 2 = ⟨#[230, 151, 165, 230, 156, 172]⟩ := by
  unfold firstF
  rw [n_jp, if_pos (by decide)]
  decide +kernel
theorem ev_l1 : likeB ⟨#[97, 98, 99]⟩ ⟨#[97, 37]⟩ = true := by unfold likeB; rw [n_abc, n_p1]; decide +kernel
theorem ev_l2 : likeB ⟨#[97, 98, 99]⟩ ⟨#[95, 98, 95]⟩ = true := by unfold likeB; rw [n_abc, n_p2]; decide +kernel
theorem ev_l3 : likeB ⟨#[97, 98, 99]⟩ ⟨#[97, 95]⟩ = false := by unfold likeB; rw [n_abc, n_p3]; decide +kernel
def TruthPost (w : World) (e : Ending) (w' : World) : Prop := e = .returned (.bool true) ∧ Below w.heap.size w w'

set_option maxRecDepth 100000 in
set_option maxHeartbeats 4000000 in
theorem alive_calls (w : World) : Calls Try.prog 9 #[] w (TruthPost w) := by
  have q1 : ((⟨#[230, 151, 165, 230, 156, 172]⟩ : ByteArray).toList == [230, 151, 165, 230, 156, 172]) = true := by decide +kernel
  have q2 : ((⟨#[97, 99]⟩ : ByteArray).toList == [97, 99]) = true := by decide +kernel
  have q3 : ((⟨#[98]⟩ : ByteArray).toList == [98]) = true := by decide +kernel
  go_enter Try.func9, Try.ntmps9
  go_wp2_with fail
  refine (above_calls _ 2 _ (by decide) (by decide)).mono ?_
  rintro e w1 ⟨rfl, hb1⟩
  rw [ev_a1]
  have B1 := Lib.hid hb1
  clear hb1
  go_wp2_with fail
  refine (above_calls _ 2 _ (by decide) (by decide)).mono ?_
  rintro e w2 ⟨rfl, hb2⟩
  rw [ev_a2]
  have B2 := Lib.hid (B1.out.trans (hb2.mono B1.out.size))
  clear hb2
  go_wp2_with fail
  refine (count_calls _ _ (by decide)).mono ?_
  rintro e w3 ⟨rfl, hb3⟩
  rw [n_ae]
  have B3 := Lib.hid (B2.out.trans (hb3.mono B2.out.size))
  clear hb3
  go_wp2_with fail
  refine (first_calls _ 2 _ (by decide) (by decide)).mono ?_
  rintro e w4 ⟨rfl, hb4⟩
  rw [ev_f]
  have B4 := Lib.hid (B3.out.trans (hb4.mono B3.out.size))
  clear hb4
  go_wp2_with fail
  refine (like_calls _ _ _ (by decide) (by decide)).mono ?_
  rintro e w5 ⟨rfl, hb5⟩
  rw [ev_l1]
  have B5 := Lib.hid (B4.out.trans (hb5.mono B4.out.size))
  clear hb5
  go_wp2_with fail
  refine (like_calls _ _ _ (by decide) (by decide)).mono ?_
  rintro e w6 ⟨rfl, hb6⟩
  rw [ev_l2]
  have B6 := Lib.hid (B5.out.trans (hb6.mono B5.out.size))
  clear hb6
  go_wp2_with fail
  refine (like_calls _ _ _ (by decide) (by decide)).mono ?_
  rintro e w7 ⟨rfl, hb7⟩
  rw [ev_l3]
  have B7 := Lib.hid (B6.out.trans (hb7.mono B6.out.size))
  clear hb7
  go_wp2
  go_ret
  exact ⟨rfl, B7.out⟩
end Go.Proofs.Ytocjmllbbpfidaa
