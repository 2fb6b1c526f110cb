/- The document's example of a plan. The document's example holds. -/
import Derived.Test.YtkofaoaglnjkgaaPlTasks
import Derived.Test.YtkofaoaglnjkgaaPlAlonem
import Derived.Test.YtkofaoaglnjkgaaPrEx
import Derived.Test.YtkofaoaglnjkgaaSame14
namespace Go.Proofs.Ytkofaoaglnjkgaa
open Go.RowKit Go.Deep
set_option linter.unusedVariables false
set_option linter.unusedSimpArgs false

def bnd (r lo hi : Int) : StatD := ⟨r, 0, true, true, ⟨1, lo, ByteArray.empty⟩, ⟨1, hi, ByteArray.empty⟩⟩
theorem bnd_ok {r lo hi : Int} (h1 : IntOK r) (h2 : IntOK lo) (h3 : IntOK hi) : StatOK (bnd r lo hi) :=
  ⟨h1, ⟨show (-9223372036854775808 : Int) ≤ 0 by decide, show (0 : Int) ≤ 9223372036854775807 by decide⟩, ⟨show ByteArray.empty.size ≤ maxLen by decide, show (0 : Int) ≤ 1 ∧ (1 : Int) ≤ 255 by decide, h2⟩, ⟨show ByteArray.empty.size ≤ maxLen by decide, show (0 : Int) ≤ 1 ∧ (1 : Int) ≤ 255 by decide, h3⟩⟩
def tD1 : ByteArray := ⟨#[100, 49]⟩
def tK2 : ByteArray := ⟨#[107, 50]⟩
def tK3 : ByteArray := ⟨#[107, 51]⟩
def tK4 : ByteArray := ⟨#[107, 52]⟩
def eD1 : EntryD := ⟨tD1, false, 1, 5, 1, [bnd 5 1 5]⟩
def eK2 : EntryD := ⟨tK2, true, 2, 1, 0, [bnd 1 3 3]⟩
def eK3 : EntryD := ⟨tK3, true, 2, 1, 0, [bnd 1 9 9]⟩
def eK4 : EntryD := ⟨tK4, true, 1, 1, 0, [bnd 1 2 2]⟩
def exL : List EntryD := [eD1, eK2, eK3, eK4]
def andP : PredD := .mk 6 0 ⟨0, 0, ByteArray.empty⟩ []
theorem ev_tasks : tasksF [twoS] exL twoS 1 andP = [(eD1, [tK2])] := by kernel_rfl
theorem ev_alone : aloneF exL = [tK4] := by kernel_rfl
theorem sl_one {α : Type} {size : Nat} {R : Rd α} {w : World} {b : Nat} {cs : List Value} {x : α} (hl : cs.length = size) (hr : R w cs x) (h : Box w b cs.toArray) : Sl size R w (some ⟨b, 0, none⟩) 1 [x] := by
  refine ⟨rfl, fun _ => ⟨b, 0, rfl, h.lt, fun i y hi => ?_⟩⟩
  have : i = 0 := by have := (List.getElem?_eq_some_iff.1 hi).1; simp at this; omega
  subst this
  cases hi
  refine ⟨cs, hl, hr, fun j v hj => ?_⟩
  simpa using h.cells j v (by simpa using hj)
def BndPost (s : StatD) (w : World) (e : Ending) (w' : World) : Prop := ∃ a, e = .returned (.slice a 1 1) ∧ Sl 10 StatR w' a 1 [s] ∧ (a = none → (1 : Nat) = 0) ∧ Below w.heap.size w w'
set_option maxRecDepth 100000 in
theorem bounds_calls (r lo hi : Int) (w : World) (h1 : IntOK r) (h2 : IntOK lo) (h3 : IntOK hi) : Calls Try.prog 26 #[.int .i64 r, .int .i64 lo, .int .i64 hi] w (BndPost (bnd r lo hi) w) := by
  have hok := bnd_ok h1 h2 h3
  unfold BndPost
  go_enter Try.func26, Try.ntmps26
  go_wp2
  go_ret
  refine ⟨_, rfl, sl_one (cs := (bnd r lo hi).cells.toList) rfl ⟨rfl, hok⟩ (Box.at_ _ _ _ _ rfl), (fun h => by cases h), (Below.refl _ _).alloc (Nat.le_refl _) _⟩
theorem box_sl {α β : Type} {size : Nat} {f : α → List Value} {g : α → β} {R : Rd β} {w : World} {b : Nat} {xs : List α} (hs : 0 < size) (hf : ∀ x, (f x).length = size) (hR : ∀ a ∈ xs, R w (f a) (g a)) (h : Box w b (xs.flatMap f).toArray) : Sl size R w (some ⟨b, 0, none⟩) xs.length (xs.map g) := by
  refine ⟨List.length_map _, fun hn => ⟨b, 0, rfl, h.lt, fun i y hi => ?_⟩⟩
  rw [List.getElem?_map] at hi
  cases hx : xs[i]? with
  | none => rw [hx] at hi; simp at hi
  | some x =>
    rw [hx] at hi
    simp only [Option.map_some, Option.some.injEq] at hi
    subst hi
    refine ⟨f x, hf x, hR x (List.mem_of_getElem? hx), fun j v hj => ?_⟩
    have hjl : j < size := by have := (List.getElem?_eq_some_iff.1 hj).1; rw [hf] at this; exact this
    have := h.cell (i * size + j) (v := v) (by rw [List.getElem?_toArray, flat_get hf xs i j x hx hjl]; exact hj)
    rw [show 0 + i * size + j = i * size + j by omega]
    exact this
def entV (p : EntryD × Value) : List Value := p.1.cells p.2
theorem entV_len (p : EntryD × Value) : (entV p).length = 6 := rfl
theorem strs_flat (xs : List ByteArray) : strsV xs = xs.flatMap (fun s => [Value.string s]) := by
  unfold strsV
  induction xs with
  | nil => rfl
  | cons x xs ih => simp [List.flatMap_cons, ih]
theorem own_strs {w : World} {B n c : Nat} {ad : Option Addr} {xs : List ByteArray} (hm : ∀ x ∈ xs, x.size ≤ maxLen) (h : w.ownsRow B 9 1 (.slice ad n c) n (strsV xs)) : Sl 1 StrR w ad n xs := by
  rw [strs_flat] at h
  exact own_sl (by decide) (fun _ => rfl) (fun x hx => ⟨rfl, hm x hx⟩) h
end Go.Proofs.Ytkofaoaglnjkgaa

namespace Go.Proofs.Ytkofaoaglnjkgaa
open Go.RowKit Go.Deep
set_option linter.unusedVariables false
set_option linter.unusedSimpArgs false

theorem tK2_ok : ∀ x ∈ [tK2], x.size ≤ maxLen := fun x hx => by
  rw [List.mem_singleton.1 hx]
  decide
theorem tK4_ok : ∀ x ∈ [tK4], x.size ≤ maxLen := fun x hx => by
  rw [List.mem_singleton.1 hx]
  decide
theorem eD1_ok : EntryOK eD1 := ⟨by decide, by decide, ⟨by decide, by decide⟩, by decide⟩
theorem eK2_ok : EntryOK eK2 := ⟨by decide, by decide, ⟨by decide, by decide⟩, by decide⟩
theorem eK3_ok : EntryOK eK3 := ⟨by decide, by decide, ⟨by decide, by decide⟩, by decide⟩
theorem eK4_ok : EntryOK eK4 := ⟨by decide, by decide, ⟨by decide, by decide⟩, by decide⟩
set_option maxRecDepth 100000 in
set_option maxHeartbeats 16000000 in
theorem alive16_calls (w : World) : Calls Try.prog 6 #[] w (ValIs (.bool true) w) := by
  go_enter Try.func6, Try.ntmps6
  go_wp2_with fail
  refine (two_calls _).mono ?_
  rintro e w1 ⟨sa, rfl, hs1, hb1⟩
  have HB1 := Lib.hid hb1
  have HS1 := Lib.hid hs1
  clear hb1 hs1
  go_wp2_with fail
  obtain ⟨W1, hWW⟩ : ∃ W : World, W = (w1.alloc (.cells #[.int .u32 1, .slice sa 2 2] 37)).alloc (.cells #[.slice (some ⟨w1.heap.size, 0, none⟩) 1 1, .slice none 0 0, .int .u64 0] 59) := ⟨_, rfl⟩
  have hb : Below w1.heap.size w1 W1 := by rw [hWW]; exact ((Below.refl _ _).alloc (Nat.le_refl _) _).alloc (by simp) _
  have hx : Box W1 w1.heap.size #[.int .u32 1, .slice sa 2 2] := by rw [hWW]; exact (Box.new _ _ _).alloc _
  have hy : Box W1 (w1.heap.size + 1) #[.slice (some ⟨w1.heap.size, 0, none⟩) 1 1, .slice none 0 0, .int .u64 0] := by rw [hWW]; exact Box.at_ _ _ _ _ (by simp)
  rw [← hWW]
  clear hWW
  have HBW := Lib.hid (HB1.out.trans (hb.mono HB1.out.size))
  have HSW := Lib.hid (SchemaR.stable _ _ _ _ hb HS1.out)
  have XS := Lib.hid hx
  have XT := Lib.hid hy
  clear hb hx hy
  refine (bounds_calls 5 1 5 _ (by unfold IntOK; omega) (by unfold IntOK; omega) (by unfold IntOK; omega)).mono ?_
  rintro e w2 ⟨a2, rfl, hs, hn, hb⟩
  have S2_w2 := Lib.hid hs
  have N2 := Lib.hid hn
  have Xw2 := Lib.hid (hb)
  clear hs hn hb
  go_wp2_with fail
  refine (bounds_calls 1 3 3 _ (by unfold IntOK; omega) (by unfold IntOK; omega) (by unfold IntOK; omega)).mono ?_
  rintro e w3 ⟨a3, rfl, hs, hn, hb⟩
  have S2_w3 := Lib.hid (S2_w2.out.below StatR.stable hb)
  have S3_w3 := Lib.hid hs
  have N3 := Lib.hid hn
  have Xw3 := Lib.hid (hb)
  clear hs hn hb
  go_wp2_with fail
  refine (bounds_calls 1 9 9 _ (by unfold IntOK; omega) (by unfold IntOK; omega) (by unfold IntOK; omega)).mono ?_
  rintro e w4 ⟨a4, rfl, hs, hn, hb⟩
  have S2_w4 := Lib.hid (S2_w3.out.below StatR.stable hb)
  have S3_w4 := Lib.hid (S3_w3.out.below StatR.stable hb)
  have S4_w4 := Lib.hid hs
  have N4 := Lib.hid hn
  have Xw4 := Lib.hid (hb)
  clear hs hn hb
  go_wp2_with fail
  refine (bounds_calls 1 2 2 _ (by unfold IntOK; omega) (by unfold IntOK; omega) (by unfold IntOK; omega)).mono ?_
  rintro e w5 ⟨a5, rfl, hs, hn, hb⟩
  have S2_w5 := Lib.hid (S2_w4.out.below StatR.stable hb)
  have S3_w5 := Lib.hid (S3_w4.out.below StatR.stable hb)
  have S4_w5 := Lib.hid (S4_w4.out.below StatR.stable hb)
  have S5_w5 := Lib.hid hs
  have N5 := Lib.hid hn
  have Xw5 := Lib.hid (hb)
  clear hs hn hb
  go_upto_region 3 with fail
  obtain ⟨W6, hWW⟩ : ∃ W : World, W = w5.alloc (.cells #[.string ⟨#[100, 49]⟩, .bool false, .int .u64 1, .int .i64 5, .int .u32 1, .slice a2 1 1, .string ⟨#[107, 50]⟩, .bool true, .int .u64 2, .int .i64 1, .int .u32 0, .slice a3 1 1, .string ⟨#[107, 51]⟩, .bool true, .int .u64 2, .int .i64 1, .int .u32 0, .slice a4 1 1, .string ⟨#[107, 52]⟩, .bool true, .int .u64 1, .int .i64 1, .int .u32 0, .slice a5 1 1] 52) := ⟨_, rfl⟩
  have hb : Below w5.heap.size w5 W6 := by rw [hWW]; exact (Below.refl _ _).alloc (Nat.le_refl _) _
  have hx : Box W6 w5.heap.size ([(eD1, .slice a2 1 1), (eK2, .slice a3 1 1), (eK3, .slice a4 1 1), (eK4, .slice a5 1 1)].flatMap entV).toArray := by rw [hWW]; exact Box.new _ _ _
  rw [← hWW]
  clear hWW
  have hb6 : Below W1.heap.size W1 W6 := (((Xw2.out.trans (Xw3.out.mono Xw2.out.size)).trans (Xw4.out.mono (Nat.le_trans Xw2.out.size Xw3.out.size))).trans (Xw5.out.mono (Nat.le_trans (Nat.le_trans Xw2.out.size Xw3.out.size) Xw4.out.size))).trans (hb.mono (Nat.le_trans (Nat.le_trans (Nat.le_trans Xw2.out.size Xw3.out.size) Xw4.out.size) Xw5.out.size))
  have XS6 := Lib.hid (XS.out.call hb6)
  have XT6 := Lib.hid (XT.out.call hb6)
  have HS6 := Lib.hid (SchemaR.stable _ _ _ _ hb6 HSW.out)
  have HB6 := Lib.hid (HBW.out.trans (hb6.mono HBW.out.size))
  have XE := Lib.hid hx
  have S2 := Lib.hid (S2_w5.out.below StatR.stable hb)
  have S3 := Lib.hid (S3_w5.out.below StatR.stable hb)
  have S4 := Lib.hid (S4_w5.out.below StatR.stable hb)
  have S5 := Lib.hid (S5_w5.out.below StatR.stable hb)
  clear hb hb6 hx
  have hl : ∀ W, Below W6.heap.size W6 W → Sl 6 EntryR W (some ⟨w5.heap.size, 0, none⟩) 4 exL := fun W h => by
    refine box_sl (f := entV) (g := Prod.fst) (xs := [(eD1, .slice a2 1 1), (eK2, .slice a3 1 1), (eK3, .slice a4 1 1), (eK4, .slice a5 1 1)]) (by decide) entV_len (fun p hp => ?_) (XE.out.call h)
    simp only [List.mem_cons, List.mem_nil_iff, or_false] at hp
    rcases hp with rfl | rfl | rfl | rfl
    · exact ⟨a2, 1, 1, rfl, Nat.le_refl _, by decide, N2.out, S2.out.below StatR.stable h, eD1_ok⟩
    · exact ⟨a3, 1, 1, rfl, Nat.le_refl _, by decide, N3.out, S3.out.below StatR.stable h, eK2_ok⟩
    · exact ⟨a4, 1, 1, rfl, Nat.le_refl _, by decide, N4.out, S4.out.below StatR.stable h, eK3_ok⟩
    · exact ⟨a5, 1, 1, rfl, Nat.le_refl _, by decide, N5.out, S5.out.below StatR.stable h, eK4_ok⟩
  have HL := Lib.hid hl
  have htab : ∀ W, Below W6.heap.size W6 W → TableR W [.slice (some ⟨w1.heap.size, 0, none⟩) 1 1, .slice none 0 0, .int .u64 0] ⟨[twoS], [], 0⟩ := fun W h =>
    ⟨_, 1, 1, _, 0, 0, rfl, Nat.le_refl _, by decide, (fun h => by cases h), sl_one (cs := [.int .u32 1, .slice sa 2 2]) rfl (SchemaR.stable _ _ _ _ h HS6.out) (XS6.out.call h), Nat.le_refl _, by decide, fun _ => rfl, Sl.nil_ _ _ _, by decide⟩
  have hand : ∀ W : World, PredR 1 W [.int .u8 6, .int .u32 0, .int .u8 0, .int .i64 0, .string ⟨#[]⟩, .slice none 0 0] andP := fun W =>
    ⟨none, 0, 0, rfl, Nat.le_refl _, by decide, fun _ => rfl, Sl.nil_ _ _ _, by decide, by decide, cellOK0⟩
  have htk := fun (W : World) (h : Below W6.heap.size W6 W) => tasks_calls _ ⟨[twoS], [], 0⟩ _ 4 4 exL _ twoS 1 _ andP W (htab W h) (by decide) (fun s hs => by simp at hs; subst hs; decide) (hl W h) (by decide) (fun x hx => by
    have : ∀ y ∈ exL, y.stats.length ≤ 1000 := by simp [exL, eD1, eK2, eK3, eK4]
    exact this x hx) (SchemaR.stable _ _ _ _ h HS6.out) (by decide) (hand W)
  simp only [] at htk
  rw [ev_tasks] at htk
  unfold TasksPost at htk
  have HTK := Lib.hid htk
  clear hl htab hand htk
  have hS : ∀ W, Below W6.heap.size W6 W → W.cell? ⟨w1.heap.size + 1, 0, none⟩ = some (.slice (some ⟨w1.heap.size, 0, none⟩) 1 1) ∧ W.cell? ⟨w1.heap.size + 1, 1, none⟩ = some (.slice none 0 0) ∧ W.cell? ⟨w1.heap.size + 1, 2, none⟩ = some (.int .u64 0) ∧ W.cell? ⟨w1.heap.size, 0, none⟩ = some (.int .u32 1) ∧ W.cell? ⟨w1.heap.size, 1, none⟩ = some (.slice sa 2 2) := fun W h => ⟨(XT6.out.call h).cell 0 rfl, (XT6.out.call h).cell 1 rfl, (XT6.out.call h).cell 2 rfl, (XS6.out.call h).cell 0 rfl, (XS6.out.call h).cell 1 rfl⟩
  have HSS := Lib.hid hS
  clear hS
  go_region_held3 (fun W => W.cell? ⟨w1.heap.size + 1, 0, none⟩ = some (.slice (some ⟨w1.heap.size, 0, none⟩) 1 1) ∧ W.cell? ⟨w1.heap.size + 1, 1, none⟩ = some (.slice none 0 0) ∧ W.cell? ⟨w1.heap.size + 1, 2, none⟩ = some (.int .u64 0) ∧ W.cell? ⟨w1.heap.size, 0, none⟩ = some (.int .u32 1) ∧ W.cell? ⟨w1.heap.size, 1, none⟩ = some (.slice sa 2 2))
    (first | (refine HSS.out _ ?_; exact (by repeat (first | exact Below.refl _ _ | (with_reducible refine Below.drew ?_) | (with_reducible refine Below.alloc ?_ (by first | exact Nat.le_refl _ | exact K7.out.size | (simp; done) | (have := K7.out.size; simp; omega) | (simp; omega)) _) | (with_reducible exact K7.out)))))
    (first
      | (go_at_call 19; (with_reducible refine (HTK.out _ (by repeat (first | exact Below.refl _ _ | (with_reducible refine Below.drew ?_) | (with_reducible refine Below.alloc ?_ (by first | exact Nat.le_refl _ | exact K7.out.size | (simp; done) | (have := K7.out.size; simp; omega) | (simp; omega)) _) | (with_reducible exact K7.out)))).mono ?_); rintro e w7 ⟨v7, ts, rfl, hown7, hpair7, hp7⟩; have k7 := below_step (W0 := W6) (by repeat (first | exact Below.refl _ _ | (with_reducible refine Below.drew ?_) | (with_reducible refine Below.alloc ?_ (by first | exact Nat.le_refl _ | exact K7.out.size | (simp; done) | (have := K7.out.size; simp; omega) | (simp; omega)) _) | (with_reducible exact K7.out))) hp7; have K7 := Lib.hid k7; have HOWN := Lib.hid hown7; have HPAIR := Lib.hid hpair7; clear hown7 hp7 k7 hpair7)
      | fail)
  obtain ⟨tk, hts, hfile, hnames⟩ : ∃ tk : TaskH, ts = [tk] ∧ tk.file = eD1 ∧ tk.names = [tK2] := by
    have h := HPAIR.out
    cases ts with
    | nil => simp at h
    | cons tk ts' =>
      cases ts' with
      | nil =>
        simp only [List.map_cons, List.map_nil, List.cons.injEq, and_true, pairOf, Prod.mk.injEq] at h
        exact ⟨tk, rfl, h.1, h.2⟩
      | cons y ys => simp at h
  subst hts
  obtain ⟨fl, nm, sv, kv⟩ := tk
  simp only [] at hfile hnames
  subst hfile; subst hnames
  obtain ⟨h1, h2⟩ := HOWN.out
  obtain ⟨_, h3, _, _⟩ := h2 _ (List.mem_cons_self)
  obtain ⟨ak, ck, hkv, _⟩ := own_slice h3
  simp only [] at hkv h3
  subst hkv
  obtain ⟨a7, c7, rfl, _⟩ := own_slice h1
  have hsl := own_sl (R := fun _ cs x => cs = taskV x) (xs := [TaskH.mk eD1 [tK2] sv (.slice ak 1 ck)]) (by decide) taskV_len (fun _ _ => rfl) h1
  have hks := own_strs (xs := [tK2]) tK2_ok h3
  obtain ⟨b, off, tk, cs, rfl, hbl, htx, hcl, hcs, hcell⟩ := hsl.at_ (i := 0) (Nat.zero_lt_one)
  simp at htx
  subst htx
  subst hcs
  have c0 := hcell 0 _ rfl
  have c6 := hcell 6 _ rfl
  simp only [Nat.zero_mul, Nat.add_zero] at c0 c6
  have HKS := Lib.hid hks
  clear hsl hks hcell h1 h2 h3 hcl HPAIR HOWN
  have hd : (eD1.name.toList == [100, 49]) = true := by kernel_rfl
  go_wp2_with fail
  have hbx : Box (w7.alloc (.cells #[.string ⟨#[107, 50]⟩] 9)) w7.heap.size #[.string ⟨#[107, 50]⟩] := Box.new _ _ _
  refine (texts_calls _ _ _ _ _ _ [tK2] [tK2] _ (HKS.out.below StrR.stable ((Below.refl _ _).alloc (Nat.le_refl _) _)) (sl_one (cs := [.string ⟨#[107, 50]⟩]) rfl ⟨rfl, tK2_ok _ (List.mem_singleton.2 rfl)⟩ hbx) (by decide) (by decide)).mono ?_
  clear hbx
  rintro e w8 ⟨rfl, m8, rfl⟩
  have hb8 : Below W6.heap.size W6 ((w7.alloc (.cells #[.string ⟨#[107, 50]⟩] 9)).drewN m8) := below_drewN (K7.out.alloc K7.out.size _) _
  generalize ((w7.alloc (.cells #[.string ⟨#[107, 50]⟩] 9)).drewN m8) = w8 at *
  have K8 := Lib.hid hb8
  clear hb8 c0 c6 hd
  have hdd : decide (([tK2] : List ByteArray) = [tK2]) = true := by simp
  rw [hdd]
  clear hdd
  go_wp2_with fail
  refine (alonel_calls _ 4 4 exL _ (HL.out _ K8.out) (by decide)).mono ?_
  rintro e w9 ⟨v9, rfl, hown9, hp9⟩
  rw [ev_alone] at hown9
  have K9 := Lib.hid (K8.out.trans (hp9.mono K8.out.size))
  clear hp9
  obtain ⟨a9, c9, rfl, _⟩ := own_slice hown9
  have HK9 := Lib.hid (own_strs tK4_ok hown9)
  clear hown9
  go_wp2_with fail
  have hbx : Box (w9.alloc (.cells #[.string ⟨#[107, 52]⟩] 9)) w9.heap.size #[.string ⟨#[107, 52]⟩] := Box.new _ _ _
  refine (texts_calls _ _ _ _ _ _ [tK4] [tK4] _ (HK9.out.below StrR.stable ((Below.refl _ _).alloc (Nat.le_refl _) _)) (sl_one (cs := [.string ⟨#[107, 52]⟩]) rfl ⟨rfl, tK4_ok _ (List.mem_singleton.2 rfl)⟩ hbx) (by decide) (by decide)).mono ?_
  clear hbx
  rintro e w10 ⟨rfl, m10, rfl⟩
  have hdd : decide (([tK4] : List ByteArray) = [tK4]) = true := by simp
  rw [hdd]
  clear hdd
  go_wp2
  go_ret
  exact ⟨rfl, HB6.out.trans ((below_drewN (K9.out.alloc K9.out.size _) _).mono HB6.out.size)⟩
end Go.Proofs.Ytkofaoaglnjkgaa
