/- event.only. -/
import Derived.Test.YtlclhinianamhaaEvValues
namespace Go.Proofs.Ytlclhinianamhaa
open Go.RowKit Go.Deep
set_option linter.unusedVariables false
set_option linter.unusedSimpArgs false

def keyB (e : EventD) : Bool := decide (e.key.kind = 0) && decide (e.key.n = 0) && decide (e.key.s.size = 0)
def nameB (e : EventD) : Bool := decide (e.name.size = 0) && decide (e.kind = 0)
def rowB (e : EventD) : Bool := decide (e.row.length = 0)
def onlyB (e : EventD) : Bool := if e.op = 1 then keyB e && nameB e else if e.op = 2 then rowB e && nameB e else rowB e && keyB e
theorem celleq (k n : Int) (s : ByteArray) (k' n' : Int) (s' : ByteArray) (W : World) : (binOp .eql 30 (.agg #[.int .u8 k, .int .i64 n, .string s]) (.agg #[.int .u8 k', .int .i64 n', .string s'])).run Try.prog W = .ok (.bool (k == k' && n == n' && s.toList == s'.toList)) W := by
  cases h1 : (k == k') <;> cases h2 : (n == n') <;> cases h3 : (s.toList == s'.toList)
  · go_simp
  · go_simp
  · go_simp
  · go_simp
  · go_simp
  · go_simp
  · go_simp
  · go_simp
set_option maxRecDepth 100000 in
set_option maxHeartbeats 8000000 in
theorem only_calls (cs : List Value) (e : EventD) (w : World) (h : EventR w cs e) : Calls Try.prog 37 #[.agg cs.toArray] w (ValIs (.bool (onlyB e)) w) := by
  obtain ⟨a, n, c, rfl, h1, h2, h3, h, ho, hop, hk, hn, hkd⟩ := h
  have hlen := h.1
  obtain ⟨o, op, row, key, nm, kind⟩ := e
  obtain ⟨kk, kn, ks⟩ := key
  unfold EventD.cells
  simp only [] at hop hkd hlen
  clear h h1 h2 h3 ho hk hn
  have hq := fun W => celleq kk kn ks 0 0 ⟨#[]⟩ W
  have hkb : (kk == 0 && kn == 0 && ks.toList == (⟨#[]⟩ : ByteArray).toList) = keyB ⟨o, op, row, ⟨kk, kn, ks⟩, nm, kind⟩ := by
    unfold keyB
    have h3 : (ks.toList == (⟨#[]⟩ : ByteArray).toList) = decide (ks.size = 0) := by
      by_cases hz : ks.size = 0
      · rw [empty_of hz]; decide +kernel
      · rw [show (⟨#[]⟩ : ByteArray).toList = [] by decide +kernel, list_empty hz]; simp [hz]
    rw [h3]
    simp only [Bool.beq_eq_decide_eq]
  rw [hkb] at hq
  have hrb : ((n : Int) == 0) = rowB ⟨o, op, row, ⟨kk, kn, ks⟩, nm, kind⟩ := by
    unfold rowB
    rw [hlen]
    by_cases hz : n = 0 <;> simp [hz]
  obtain ⟨R, hR⟩ : ∃ R, onlyB ⟨o, op, row, ⟨kk, kn, ks⟩, nm, kind⟩ = R := ⟨_, rfl⟩
  rw [hR]
  unfold onlyB at hR
  have HR := Lib.hid hR
  have HNB := Lib.hid (show nameB ⟨o, op, row, ⟨kk, kn, ks⟩, nm, kind⟩ = (decide (nm.size = 0) && decide (kind = 0)) from rfl)
  generalize keyB ⟨o, op, row, ⟨kk, kn, ks⟩, nm, kind⟩ = kb at *
  generalize rowB ⟨o, op, row, ⟨kk, kn, ks⟩, nm, kind⟩ = rb at *
  generalize nameB ⟨o, op, row, ⟨kk, kn, ks⟩, nm, kind⟩ = nb at *
  clear hkb hR
  go_enter Try.func37, Try.ntmps37
  go_upto_region 3 with fail
  have nameFact : ∃ x y : Bool, (nm.toList == ([] : List UInt8)) = x ∧ ((kind : Int) == 0) = y ∧ nb = (x && y) := by
    refine ⟨_, _, rfl, rfl, ?_⟩
    rw [HNB.out]
    by_cases h1 : nm.size = 0
    · obtain rfl := empty_of h1
      rw [list_empty']
      by_cases h2 : kind = 0 <;> simp [h2]
    · rw [list_empty h1]; simp [h1]
  obtain ⟨x, y, hx, hy, hxy⟩ := nameFact
  have HXY := Lib.hid hxy
  clear hxy hlen hop hkd
  cases x
  · cases y
    · go_quiet (fail)
      by_cases ho1 : op = 1
      · subst ho1
        have hrk : R = (kb && nb) := by rw [← HR.out, if_pos rfl]
        have HRK := Lib.hid hrk
        clear hrk
        cases kb
        · go_wp2
          go_ret
          exact ⟨by rw [HRK.out]; rfl, below_drewN (by first | exact ((Below.refl _ _).alloc (Nat.le_refl _) _).setCell (Nat.le_refl _) _ | exact (Below.refl _ _).alloc (Nat.le_refl _) _) _⟩
        · go_wp2
          go_ret
          exact ⟨by rw [HRK.out, HXY.out]; rfl, below_drewN (by first | exact ((Below.refl _ _).alloc (Nat.le_refl _) _).setCell (Nat.le_refl _) _ | exact (Below.refl _ _).alloc (Nat.le_refl _) _) _⟩
      · have hoi : ((op : Int) == 1) = false := by rw [beq_eq_false_iff_ne]; omega
        by_cases ho2 : op = 2
        · subst ho2
          have hrk : R = (rb && nb) := by rw [← HR.out, if_neg (by decide), if_pos rfl]
          have HRK := Lib.hid hrk
          clear hrk
          cases rb
          · go_wp2
            go_ret
            exact ⟨by rw [HRK.out]; rfl, below_drewN (by first | exact ((Below.refl _ _).alloc (Nat.le_refl _) _).setCell (Nat.le_refl _) _ | exact (Below.refl _ _).alloc (Nat.le_refl _) _) _⟩
          · go_wp2
            go_ret
            exact ⟨by rw [HRK.out, HXY.out]; rfl, below_drewN (by first | exact ((Below.refl _ _).alloc (Nat.le_refl _) _).setCell (Nat.le_refl _) _ | exact (Below.refl _ _).alloc (Nat.le_refl _) _) _⟩
        · have hoj : ((op : Int) == 2) = false := by rw [beq_eq_false_iff_ne]; omega
          have hrk : R = (rb && kb) := by rw [← HR.out, if_neg ho1, if_neg ho2]
          have HRK := Lib.hid hrk
          clear hrk
          cases rb
          · go_wp2
            go_ret
            exact ⟨by rw [HRK.out]; rfl, below_drewN (by first | exact ((Below.refl _ _).alloc (Nat.le_refl _) _).setCell (Nat.le_refl _) _ | exact (Below.refl _ _).alloc (Nat.le_refl _) _) _⟩
          · go_wp2
            go_ret
            exact ⟨by rw [HRK.out]; rfl, below_drewN (by first | exact ((Below.refl _ _).alloc (Nat.le_refl _) _).setCell (Nat.le_refl _) _ | exact (Below.refl _ _).alloc (Nat.le_refl _) _) _⟩
    · go_quiet (fail)
      by_cases ho1 : op = 1
      · subst ho1
        have hrk : R = (kb && nb) := by rw [← HR.out, if_pos rfl]
        have HRK := Lib.hid hrk
        clear hrk
        cases kb
        · go_wp2
          go_ret
          exact ⟨by rw [HRK.out]; rfl, below_drewN (by first | exact ((Below.refl _ _).alloc (Nat.le_refl _) _).setCell (Nat.le_refl _) _ | exact (Below.refl _ _).alloc (Nat.le_refl _) _) _⟩
        · go_wp2
          go_ret
          exact ⟨by rw [HRK.out, HXY.out]; rfl, below_drewN (by first | exact ((Below.refl _ _).alloc (Nat.le_refl _) _).setCell (Nat.le_refl _) _ | exact (Below.refl _ _).alloc (Nat.le_refl _) _) _⟩
      · have hoi : ((op : Int) == 1) = false := by rw [beq_eq_false_iff_ne]; omega
        by_cases ho2 : op = 2
        · subst ho2
          have hrk : R = (rb && nb) := by rw [← HR.out, if_neg (by decide), if_pos rfl]
          have HRK := Lib.hid hrk
          clear hrk
          cases rb
          · go_wp2
            go_ret
            exact ⟨by rw [HRK.out]; rfl, below_drewN (by first | exact ((Below.refl _ _).alloc (Nat.le_refl _) _).setCell (Nat.le_refl _) _ | exact (Below.refl _ _).alloc (Nat.le_refl _) _) _⟩
          · go_wp2
            go_ret
            exact ⟨by rw [HRK.out, HXY.out]; rfl, below_drewN (by first | exact ((Below.refl _ _).alloc (Nat.le_refl _) _).setCell (Nat.le_refl _) _ | exact (Below.refl _ _).alloc (Nat.le_refl _) _) _⟩
        · have hoj : ((op : Int) == 2) = false := by rw [beq_eq_false_iff_ne]; omega
          have hrk : R = (rb && kb) := by rw [← HR.out, if_neg ho1, if_neg ho2]
          have HRK := Lib.hid hrk
          clear hrk
          cases rb
          · go_wp2
            go_ret
            exact ⟨by rw [HRK.out]; rfl, below_drewN (by first | exact ((Below.refl _ _).alloc (Nat.le_refl _) _).setCell (Nat.le_refl _) _ | exact (Below.refl _ _).alloc (Nat.le_refl _) _) _⟩
          · go_wp2
            go_ret
            exact ⟨by rw [HRK.out]; rfl, below_drewN (by first | exact ((Below.refl _ _).alloc (Nat.le_refl _) _).setCell (Nat.le_refl _) _ | exact (Below.refl _ _).alloc (Nat.le_refl _) _) _⟩
  · cases y
    · go_quiet (fail)
      by_cases ho1 : op = 1
      · subst ho1
        have hrk : R = (kb && nb) := by rw [← HR.out, if_pos rfl]
        have HRK := Lib.hid hrk
        clear hrk
        cases kb
        · go_wp2
          go_ret
          exact ⟨by rw [HRK.out]; rfl, below_drewN (by first | exact ((Below.refl _ _).alloc (Nat.le_refl _) _).setCell (Nat.le_refl _) _ | exact (Below.refl _ _).alloc (Nat.le_refl _) _) _⟩
        · go_wp2
          go_ret
          exact ⟨by rw [HRK.out, HXY.out]; rfl, below_drewN (by first | exact ((Below.refl _ _).alloc (Nat.le_refl _) _).setCell (Nat.le_refl _) _ | exact (Below.refl _ _).alloc (Nat.le_refl _) _) _⟩
      · have hoi : ((op : Int) == 1) = false := by rw [beq_eq_false_iff_ne]; omega
        by_cases ho2 : op = 2
        · subst ho2
          have hrk : R = (rb && nb) := by rw [← HR.out, if_neg (by decide), if_pos rfl]
          have HRK := Lib.hid hrk
          clear hrk
          cases rb
          · go_wp2
            go_ret
            exact ⟨by rw [HRK.out]; rfl, below_drewN (by first | exact ((Below.refl _ _).alloc (Nat.le_refl _) _).setCell (Nat.le_refl _) _ | exact (Below.refl _ _).alloc (Nat.le_refl _) _) _⟩
          · go_wp2
            go_ret
            exact ⟨by rw [HRK.out, HXY.out]; rfl, below_drewN (by first | exact ((Below.refl _ _).alloc (Nat.le_refl _) _).setCell (Nat.le_refl _) _ | exact (Below.refl _ _).alloc (Nat.le_refl _) _) _⟩
        · have hoj : ((op : Int) == 2) = false := by rw [beq_eq_false_iff_ne]; omega
          have hrk : R = (rb && kb) := by rw [← HR.out, if_neg ho1, if_neg ho2]
          have HRK := Lib.hid hrk
          clear hrk
          cases rb
          · go_wp2
            go_ret
            exact ⟨by rw [HRK.out]; rfl, below_drewN (by first | exact ((Below.refl _ _).alloc (Nat.le_refl _) _).setCell (Nat.le_refl _) _ | exact (Below.refl _ _).alloc (Nat.le_refl _) _) _⟩
          · go_wp2
            go_ret
            exact ⟨by rw [HRK.out]; rfl, below_drewN (by first | exact ((Below.refl _ _).alloc (Nat.le_refl _) _).setCell (Nat.le_refl _) _ | exact (Below.refl _ _).alloc (Nat.le_refl _) _) _⟩
    · go_quiet (fail)
      by_cases ho1 : op = 1
      · subst ho1
        have hrk : R = (kb && nb) := by rw [← HR.out, if_pos rfl]
        have HRK := Lib.hid hrk
        clear hrk
        cases kb
        · go_wp2
          go_ret
          exact ⟨by rw [HRK.out]; rfl, below_drewN (by first | exact ((Below.refl _ _).alloc (Nat.le_refl _) _).setCell (Nat.le_refl _) _ | exact (Below.refl _ _).alloc (Nat.le_refl _) _) _⟩
        · go_wp2
          go_ret
          exact ⟨by rw [HRK.out, HXY.out]; rfl, below_drewN (by first | exact ((Below.refl _ _).alloc (Nat.le_refl _) _).setCell (Nat.le_refl _) _ | exact (Below.refl _ _).alloc (Nat.le_refl _) _) _⟩
      · have hoi : ((op : Int) == 1) = false := by rw [beq_eq_false_iff_ne]; omega
        by_cases ho2 : op = 2
        · subst ho2
          have hrk : R = (rb && nb) := by rw [← HR.out, if_neg (by decide), if_pos rfl]
          have HRK := Lib.hid hrk
          clear hrk
          cases rb
          · go_wp2
            go_ret
            exact ⟨by rw [HRK.out]; rfl, below_drewN (by first | exact ((Below.refl _ _).alloc (Nat.le_refl _) _).setCell (Nat.le_refl _) _ | exact (Below.refl _ _).alloc (Nat.le_refl _) _) _⟩
          · go_wp2
            go_ret
            exact ⟨by rw [HRK.out, HXY.out]; rfl, below_drewN (by first | exact ((Below.refl _ _).alloc (Nat.le_refl _) _).setCell (Nat.le_refl _) _ | exact (Below.refl _ _).alloc (Nat.le_refl _) _) _⟩
        · have hoj : ((op : Int) == 2) = false := by rw [beq_eq_false_iff_ne]; omega
          have hrk : R = (rb && kb) := by rw [← HR.out, if_neg ho1, if_neg ho2]
          have HRK := Lib.hid hrk
          clear hrk
          cases rb
          · go_wp2
            go_ret
            exact ⟨by rw [HRK.out]; rfl, below_drewN (by first | exact ((Below.refl _ _).alloc (Nat.le_refl _) _).setCell (Nat.le_refl _) _ | exact (Below.refl _ _).alloc (Nat.le_refl _) _) _⟩
          · go_wp2
            go_ret
            exact ⟨by rw [HRK.out]; rfl, below_drewN (by first | exact ((Below.refl _ _).alloc (Nat.le_refl _) _).setCell (Nat.le_refl _) _ | exact (Below.refl _ _).alloc (Nat.le_refl _) _) _⟩
end Go.Proofs.Ytlclhinianamhaa
