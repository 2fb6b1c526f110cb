/- The contracts of slices.Reverse, signs.Turn and catchmentref02.Turn. -/
import Derived.Test.YtocjmllbbpfidaaSgTurnP
import Derived.Test.YtocjmllbbpfidaaSgAlive
import Derived.Test.YtocjmllbbpfidaaSgSl
import Derived.Test.YtocjmllbbpfidaaSgSelfP
import Derived.BigRegion
import Derived.Laws.BytesArg
namespace Go.Proofs.Ytocjmllbbpfidaa
open Go.RowKit Go.Deep
set_option linter.unusedVariables false

def mixR (n k : Nat) (zs : Nat → Int) (q : Nat) : Int := if q < k ∨ n ≤ q + k then zs (n - 1 - q) else zs q
theorem mix_zero (n : Nat) (zs : Nat → Int) (q : Nat) (h : q < n) : mixR n 0 zs q = zs q := by unfold mixR; rw [if_neg (by omega)]
theorem mix_end (n k : Nat) (zs : Nat → Int) (q : Nat) (h : q < n) (hk : n ≤ 2 * k + 1) : mixR n k zs q = zs (n - 1 - q) := by
  unfold mixR
  split
  · rfl
  · congr 1; omega
theorem mix_low (n k : Nat) (zs : Nat → Int) (h : k < n) (h2 : 2 * k + 1 < n) : mixR n k zs k = zs k ∧ mixR n k zs (n - 1 - k) = zs (n - 1 - k) := by
  unfold mixR
  exact ⟨by rw [if_neg (by omega)], by rw [if_neg (by omega)]⟩
theorem mix_next (n k : Nat) (zs : Nat → Int) (q : Nat) (h2 : 2 * k + 1 < n) (hq : q < n) : mixR n (k + 1) zs q = if q = k then zs (n - 1 - k) else if q = n - 1 - k then zs k else mixR n k zs q := by
  unfold mixR
  by_cases h1 : q = k
  · subst h1; rw [if_pos (by omega), if_pos rfl]
  · rw [if_neg h1]
    by_cases h3 : q = n - 1 - k
    · rw [if_pos (by omega), if_pos h3, h3]; congr 1; omega
    · rw [if_neg h3]
      by_cases h4 : q < k ∨ n ≤ q + k
      · rw [if_pos (by omega), if_pos h4]
      · rw [if_neg (by omega), if_neg h4]
theorem swap_cells {w : World} {B k m : Nat} {x y x0 y0 : Value} (hkm : k ≠ m) (hk : w.cell? ⟨B, k, none⟩ = some x0) (hm : w.cell? ⟨B, m, none⟩ = some y0) (q : Nat) :
    ((w.setCell ⟨B, k, none⟩ y).setCell ⟨B, m, none⟩ x).cell? ⟨B, q, none⟩ = if q = k then some y else if q = m then some x else w.cell? ⟨B, q, none⟩ := by
  have hm' : (w.setCell ⟨B, k, none⟩ y).cell? ⟨B, m, none⟩ = some y0 := by rw [World.cell?_setCell_other _ _ _ _ (by intro e; cases e; exact hkm rfl)]; exact hm
  by_cases h1 : q = k
  · subst h1
    rw [if_pos rfl, World.cell?_setCell_other _ _ _ _ (by intro e; cases e; exact hkm rfl), World.cell?_setCell_same' _ _ _ (by rw [hk]; rfl)]
  · rw [if_neg h1]
    by_cases h2 : q = m
    · subst h2
      rw [if_pos rfl, World.cell?_setCell_same' _ _ _ (by rw [hm']; rfl)]
    · rw [if_neg h2, World.cell?_setCell_other _ _ _ _ (by intro e; cases e; exact h2 rfl), World.cell?_setCell_other _ _ _ _ (by intro e; cases e; exact h1 rfl)]
def RevPost (B n : Nat) (zs : Nat → Int) (w : World) (e : Ending) (w' : World) : Prop :=
  e = .returned (.tuple #[]) ∧ (∀ q, q < n → w'.cell? ⟨B, q, none⟩ = some (.int .i32 (zs (n - 1 - q)))) ∧ Below B w w'

set_option maxRecDepth 100000 in
set_option maxHeartbeats 4000000 in
theorem reverse_calls (B n cap : Nat) (zs : Nat → Int) (w : World) (hc : ∀ q, q < n → w.cell? ⟨B, q, none⟩ = some (.int .i32 (zs q))) (hf : ∀ q, w.frozen? ⟨B, q, none⟩ = false) (hn : n ≤ 1000000) :
    Calls Try.prog 26 #[.slice (some ⟨B, 0, none⟩) n cap] w (RevPost B n zs w) := by
  have HC := Lib.hid hc
  have HF := Lib.hid hf
  clear hc hf
  go_enter Try.func26, Try.ntmps26
  go_wp2_with fail
  go_loopw [2, 3] (fun vi vj wr => ∃ k : Nat, 2 * k ≤ n + 1 ∧ vi = .int .i64 (k : Int) ∧ vj = .int .i64 ((n : Int) - 1 - (k : Int)) ∧ (∀ q, q < n → wr.cell? ⟨B, q, none⟩ = some (.int .i32 (mixR n k zs q))) ∧ (∀ q, wr.frozen? ⟨B, q, none⟩ = false) ∧ Below B w wr) (fun vi _ _ => n - (intOf vi).toNat)
  case atStart => exact ⟨0, by omega, rfl, by simp, fun q hq => by rw [mix_zero n zs q hq]; exact HC.out q hq, HF.out, Below.refl _ _⟩
  case round =>
    obtain ⟨k, hk, rfl, rfl, hcc, hff, hb⟩ := hrel
    have HCC := Lib.hid hcc
    have HFF := Lib.hid hff
    have HB := Lib.hid hb
    clear hcc hff hb
    by_cases hlt : 2 * k + 1 < n
    · obtain ⟨m, hm⟩ : ∃ m : Nat, n - 1 - k = m := ⟨_, rfl⟩
      have hmi : (n : Int) - 1 - (k : Int) = (m : Int) := by omega
      rw [hmi]
      have h1 := HCC.out k (by omega)
      have h2 := HCC.out (n - 1 - k) (by omega)
      obtain ⟨e1, e2⟩ := mix_low n k zs (by omega) hlt
      rw [e1] at h1
      rw [e2, hm] at h2
      have f1 := HFF.out k
      have f2 := HFF.out m
      have HM := Lib.hid hm
      have hk0 : (0 : Int) ≤ (k : Int) := by omega
      have hkm : (k : Int) < (m : Int) := by omega
      have hmn : (m : Int) < (n : Int) := by omega
      have hkn : (k : Int) < (n : Int) := by omega
      have hne : (⟨B, k, none⟩ : Addr) ≠ ⟨B, m, none⟩ := by intro e; cases e; omega
      have hlt2 := Lib.hid hlt
      clear e1 e2 hm hlt
      have HMN := Lib.hid (fun q hq => mix_next n k zs q hlt2.out hq)
      have H1 := Lib.hid h1
      have H2 := Lib.hid h2
      generalize hx : zs k = x at *
      generalize hy : zs m = y at *
      have HX := Lib.hid hx
      have HY := Lib.hid hy
      clear hx hy
      go_wp2_with fail
      go_region
      go_wp2
      go_roundw
      case rel =>
        refine ⟨k + 1, by have := hlt2.out; omega, by go_num, by have := HM.out; go_num, fun q hq => ?_, fun q => ?_, ?_⟩
        · show ((wr.setCell ⟨B, k, none⟩ (.int .i32 y)).setCell ⟨B, m, none⟩ (.int .i32 x)).cell? ⟨B, q, none⟩ = _
          rw [swap_cells (by omega) H1.out H2.out, HMN.out q hq, HM.out]
          by_cases e1 : q = k
          · rw [if_pos e1, if_pos e1, HY.out]
          · rw [if_neg e1, if_neg e1]
            by_cases e2 : q = m
            · rw [if_pos e2, if_pos e2]
            · rw [if_neg e2, if_neg e2]; exact HCC.out q hq
        · show ((wr.setCell ⟨B, k, none⟩ (.int .i32 y)).setCell ⟨B, m, none⟩ (.int .i32 x)).frozen? ⟨B, q, none⟩ = _
          rw [World.frozen?_setCell, World.frozen?_setCell]; exact HFF.out q
        · exact ((HB.out.setCell (p := ⟨B, k, none⟩) (Nat.le_refl _) _).setCell (p := ⟨B, m, none⟩) (Nat.le_refl _) _).drew
      case measure => simp [intOf] <;> omega
    · have hge : ¬ ((k : Int) < (n : Int) - 1 - (k : Int)) := by omega
      go_wp2
      go_returns
      exact ⟨rfl, fun q hq => by rw [HCC.out q hq, mix_end n k zs q hq (by omega)], HB.out⟩

def TurnPost (s : ByteArray) (w : World) (e : Ending) (w' : World) : Prop := e = .returned (.string (turnF s)) ∧ Below w.heap.size w w'
set_option maxRecDepth 100000 in
set_option maxHeartbeats 4000000 in
theorem turn_calls (s : ByteArray) (w : World) (hs : s.size ≤ 1000000) : Calls Try.prog 19 #[.string s] w (TurnPost s w) := by
  have hrt := runes_all s
  have hrz : (runesV (rs s)).size = N s := by rw [runesV_size, rs_length]
  have hNl := N_le s
  have hcr := run_runes_of_string (P := Try.prog) w 9 37 21 s Try.underlying9 Try.underlying37 Try.underlying21 (by rw [hrt, hrz]; omega)
  rw [hrt, hrz] at hcr
  have hge := grownCap_ge w (N s) 0 21
  generalize grownCap w (N s) 0 21 = cap at *
  have hcell : ∀ j, j < N s → (w.drew.alloc (.cells (runesV (rs s) ++ Array.replicate (cap - N s) (.int .i32 0)) 21)).cell? ⟨w.heap.size, j, none⟩ = some (.int .i32 (sgn s j : Nat)) := fun j hj => by
    show (w.drew.alloc _).cell? ⟨w.drew.heap.size, j, none⟩ = _
    rw [World.cell?_alloc_new, Array.getElem?_append_left (by rw [hrz]; exact hj)]
    simp [runesV, rs, rsK, hj, sgn]
  have hfrz : ∀ j, (w.drew.alloc (.cells (runesV (rs s) ++ Array.replicate (cap - N s) (.int .i32 0)) 21)).frozen? ⟨w.heap.size, j, none⟩ = false := fun j => by
    show (w.drew.alloc _).frozen? ⟨w.drew.heap.size, j, none⟩ = _
    rw [World.frozen?_alloc_mark]
    simp
  have hbA : Below w.heap.size w (w.drew.alloc (.cells (runesV (rs s) ++ Array.replicate (cap - N s) (.int .i32 0)) 21)) := (Below.refl _ _).drew.alloc (Nat.le_refl _) _
  have HCELL := Lib.hid hcell
  have HFRZ := Lib.hid hfrz
  have HBA := Lib.hid hbA
  clear hcell hbA hrt hrz hfrz
  generalize w.drew.alloc (.cells (runesV (rs s) ++ Array.replicate (cap - N s) (.int .i32 0)) 21) = W1 at *
  go_enter Try.func19, Try.ntmps19
  go_wp2_with fail
  refine (reverse_calls w.heap.size (N s) cap (fun q => (sgn s q : Nat)) _ HCELL.out HFRZ.out (by omega)).mono ?_
  rintro e w2 ⟨rfl, hc2, hb2⟩
  have hcv := run_convert_runes (P := Try.prog) w2 37 9 21 ⟨w.heap.size, 0, none⟩ (N s) cap (intsOf (rs s).reverse) (by simp [intsOf, rs_length]) Try.underlying37 Try.underlying21 Try.underlying9 (fun i hi => by
    have hplain : (⟨w.heap.size, 0, none⟩ : Addr).add i = ⟨w.heap.size, i, none⟩ := by unfold Addr.add; split <;> simp_all
    have hi2 : i < N s := by simpa [intsOf, rs_length] using hi
    rw [hplain, hc2 i hi2]
    have hr : (rs s).reverse[i]? = some (sgn s (N s - 1 - i)) := by
      rw [List.getElem?_reverse (by rw [rs_length]; exact hi2), rs_length]
      exact sgn_of_rs (by omega)
    have hr2 : (intsOf (rs s).reverse)[i]? = some ((sgn s (N s - 1 - i) : Nat) : Int) := by unfold intsOf; rw [List.getElem?_map, hr]; rfl
    rw [List.getD_eq_getElem?_getD, hr2]
    rfl)
  have htk : (intsOf (rs s).reverse).take (N s) = intsOf (rs s).reverse := List.take_of_length_le (by simp [intsOf, rs_length])
  rw [htk] at hcv
  have HB2 := Lib.hid hb2
  clear hc2 htk hb2
  go_wp2
  go_ret
  exact ⟨rfl, HBA.out.trans HB2.out⟩

def bytesL (b : ByteArray) : List Value := b.data.toList.map fun x => Value.int .u8 (x.toNat : Int)
theorem bytesL_length (b : ByteArray) : (bytesL b).length = b.size := by unfold bytesL; rw [List.length_map, ← size_list]
theorem bytesL_append (a b : ByteArray) : bytesL a ++ bytesL b = bytesL (a ++ b) := by simp [bytesL]
theorem lies_b (E : ByteArray) (w : World) (t : TypeId) : Lies (w.alloc (.cells (bCells E) t)) (some ⟨w.heap.size, 0, none⟩) E.size 1 (bytesL E) := by
  refine ⟨by rw [bytesL_length, Nat.mul_one], fun _ => ⟨w.heap.size, 0, rfl, fun j v hj => ?_⟩⟩
  rw [Nat.zero_add, World.cell?_alloc_new, bCells, List.getElem?_toArray]
  exact hj
theorem bytesL_one (E : ByteArray) : ∀ u ∈ bytesL E, u.oneCell' = true := by
  intro u hu
  unfold bytesL at hu
  obtain ⟨y, _, rfl⟩ := List.mem_map.1 hu
  rfl
theorem infoU8 : (Try.prog.info? 5).map (fun i => (i.zero, i.size, i.bytes)) = some (some (.int .u8 0), 1, 1) := by kernel_rfl
noncomputable def rvK (s : ByteArray) (k : Nat) : List Nat := (rs s).reverse.take k
theorem rvK_succ {s : ByteArray} {k : Nat} (h : k < N s) : rvK s (k + 1) = rvK s k ++ [sgn s (N s - 1 - k)] := by
  unfold rvK
  rw [List.take_add_one, List.getElem?_reverse (by rw [rs_length]; exact h), rs_length, sgn_of_rs (by omega)]
  rfl
theorem rvK_all (s : ByteArray) : rvK s (N s) = (rs s).reverse := List.take_of_length_le (by rw [List.length_reverse, rs_length]; exact Nat.le_refl _)
theorem conv_own {w : World} {B e n cap g : Nat} {b : ByteArray} (h : w.ownsRow B e 1 (.slice (some ⟨g, 0, none⟩) n cap) n (bytesL b)) (hn : n = b.size) : (convert 40 9 (.slice (some ⟨g, 0, none⟩) n cap)).run Try.prog w = .ok (.string b) w := by
  have hr := run_convert_bytes_back (P := Try.prog) w 40 9 5 ⟨g, 0, none⟩ cap b.data.toList Try.underlying40 Try.underlying5 Try.underlying9 (fun j hj => by
    have hplain : (⟨g, 0, none⟩ : Addr).add j = ⟨g, j, none⟩ := by unfold Addr.add; split <;> simp_all
    rw [hplain, h.cellAt j (by rw [hn, size_list]; omega), bytesL, List.getElem?_map, List.getElem?_eq_getElem hj]
    rfl)
  rw [← size_list] at hr
  rw [hn]
  exact hr
set_option maxRecDepth 100000 in
set_option maxHeartbeats 4000000 in
theorem refTurn (s : ByteArray) (w : World) (hs : s.size ≤ 1000000) : Calls Try.prog 20 #[.string s] w (TurnPost s w) := by
  obtain ⟨i0, hi0, hz0, hz1, hz2⟩ := info_parts infoU8
  have HI := Lib.hid hi0
  have HZ0 := Lib.hid hz0
  have HZ1 := Lib.hid hz1
  have HZ2 := Lib.hid hz2
  clear hi0 hz0 hz1 hz2
  go_enter Try.func20, Try.ntmps20
  go_wp2_with fail
  refine (signs_calls s _ hs).mono ?_
  rintro e w1 ⟨lv, av, rfl, hol, hoa, hb, hne⟩
  obtain ⟨al, cl, rfl, hl1, hl2, hl3⟩ := own_slice hol
  have S1 := Lib.hid (sl_own hol)
  have HB := Lib.hid hb
  have hNl := N_le s
  clear hol hoa hb hne hl3
  go_wp2_with fail
  go_loopw [6, 7] (fun v vi wr => ∃ k : Nat, k ≤ N s ∧ vi = .int .i64 ((N s : Int) - 1 - (k : Int)) ∧ wr.ownsRow w1.heap.size 5 1 v (runesBytes (intsOf (rvK s k))).size (bytesL (runesBytes (intsOf (rvK s k)))) ∧ Below w1.heap.size w1 wr) (fun _ vi _ => (intOf vi + 1).toNat)
  case atStart => exact ⟨0, Nat.zero_le _, by simp, World.ownsRow_nil _ _ _ _, Below.refl _ _⟩
  case round =>
    obtain ⟨k, hk, rfl, hown, hbw⟩ := hrel
    have HO := Lib.hid hown
    have HBW := Lib.hid hbw
    clear hown hbw
    by_cases hlt : k < N s
    · obtain ⟨j, hj⟩ : ∃ j, N s - 1 - k = j := ⟨_, rfl⟩
      have hji : (N s : Int) - 1 - (k : Int) = (j : Int) := by omega
      rw [hji]
      obtain ⟨bx, ox, x, vx, rfl, hbx, hx, hrx, hcx⟩ := S1.out.at1 (i := j) (by omega)
      cases hrx
      have hxx : sgn s j = x := by
        have h1 := sgn_of_rs (s := s) (k := j) (by omega)
        rw [hx] at h1
        exact (Option.some.inj h1).symm
      have hok := rs_ok s x (List.mem_of_getElem? hx)
      have hsu := rvK_succ hlt
      rw [hj, hxx] at hsu
      have hcx' := (HBW.out.cell (p := ⟨bx, ox + j, none⟩) hbx).trans hcx
      obtain ⟨E, hE⟩ : ∃ E, Utf8.encode (x : Int) = E := ⟨_, rfl⟩
      have hE4 := enc_size4 x
      rw [hE] at hE4
      have hT : runesBytes (intsOf (rvK s (k + 1))) = runesBytes (intsOf (rvK s k)) ++ E := by rw [hsu, runesBytes_snoc, hE]
      have hTs := runesBytes_size_le (intsOf (rvK s k))
      have hTl : (intsOf (rvK s k)).length ≤ k := by simp [intsOf, rvK]; omega
      generalize runesBytes (intsOf (rvK s k)) = T at *
      have HT := Lib.hid hT
      have HOK := Lib.hid hok
      have HE := Lib.hid hE
      have hT4 : T.size ≤ 4000000 := by omega
      have hj0 : (0 : Int) ≤ (j : Int) := by omega
      have hjn : (j : Int) < (N s : Int) := by omega
      have hjk : (j : Int) - 1 = (N s : Int) - 1 - ((k + 1 : Nat) : Int) := by omega
      have HJK := Lib.hid hjk
      clear hx hcx hxx hok hsu hE hT hTs hTl hj hji hjk
      go_wp2_with (first
        | (go_at_call 24; refine (bytes_b x E HE.out _ rfl _ HOK.out.1 HOK.out.2).mono ?_; rintro e w' ⟨rfl, rfl⟩)
        | (at_builtin; refine wpList_append_vals _ rfl _ _ _ rfl w1.heap.size 5 i0 (.int .u8 0) 1 1 Try.underlying40 HI.out HZ0.out HZ1.out HZ2.out rfl (by decide) _ _ _ rfl (HO.out.alloc _) (some ⟨wr.heap.size, 0, none⟩) E.size E.size (bytesL E) rfl (lies_b E wr _) (bytesL_one E) (by unfold maxLen; omega) (by omega) (by simp; exact Nat.le_succ_of_le HBW.out.size) (by intro h; cases h) ?_; intro v3 w3 hown3 hg3 hnn3; have HO3 := Lib.hid hown3; have HB3 := Lib.hid (below_append HO.out HBW.out hg3); clear hown3 hg3 hnn3))
      go_roundw
      case rel =>
        refine ⟨k + 1, by omega, by rw [← HJK.out], ?_, HB3.out⟩
        rw [HT.out, ByteArray.size_append, ← bytesL_append]
        exact HO3.out
      case measure => simp [intOf] <;> omega
    · obtain rfl : k = N s := by omega
      have hneg : ¬ ((0 : Int) ≤ (N s : Int) - 1 - (N s : Int)) := by omega
      have htf : runesBytes (intsOf (rvK s (N s))) = turnF s := by rw [rvK_all]; rfl
      rw [htf] at HO
      rcases HO.out.2 with ⟨rfl, hz⟩ | ⟨g, cap, cur, rfl, _⟩
      · have he : turnF s = ByteArray.empty := ByteArray.size_eq_zero_iff.1 hz
        have HE := Lib.hid he
        have hcv := run_convert_bytes_nil (P := Try.prog) wr 40 5 Try.underlying40 Try.underlying5 0 0 9 Try.underlying9
        clear he hz htf
        go_wp2
        go_ret
        refine ⟨?_, HB.out.trans (HBW.out.mono HB.out.size)⟩
        rw [HE.out]
        rfl
      · have hcv := conv_own HO.out rfl
        clear htf
        go_wp2
        go_ret
        exact ⟨rfl, HB.out.trans (HBW.out.mono HB.out.size)⟩
end Go.Proofs.Ytocjmllbbpfidaa
