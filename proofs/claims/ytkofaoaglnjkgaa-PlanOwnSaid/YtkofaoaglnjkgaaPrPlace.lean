/- Where a field stands: schema.Place, catchmentref08.Place. -/
import Derived.Test.YtkofaoaglnjkgaaIdxField
import Derived.Test.YtkofaoaglnjkgaaKept
import Derived.WalkLawsBesides
import Derived.Handy
namespace Go.Proofs.Ytkofaoaglnjkgaa
open Go.RowKit Go.Deep
set_option linter.unusedVariables false
set_option linter.unusedSimpArgs false

def hasId (id : Nat) (f : FieldD) : Bool := decide (f.id = id)
def placeI (fs : List FieldD) (id : Nat) : Int := idxF (hasId id) fs
theorem place1 (cs : List Value) (f : FieldD) (id g : Nat) (w : World) (h : FieldR w cs f) (hg : g < w.heap.size) (hc : w.cell? ⟨g, 0, none⟩ = some (.int .u32 (id : Int))) :
    Calls Try.prog 74 #[.agg cs.toArray, .pointer (some ⟨g, 0, none⟩)] w (BoolIs (hasId id f) w) := by
  obtain ⟨rfl, _⟩ := h
  unfold hasId
  by_cases hid : f.id = id
  · have hb : ((f.id : Int) == (id : Int)) = true := by rw [beq_iff_eq]; omega
    rw [show decide (f.id = id) = true by simp [hid]]
    clear hid
    go_enter Try.func74, Try.ntmps74
    go_wp2
    go_ret
    exact ⟨rfl, (Below.refl _ _).alloc (Nat.le_refl _) _⟩
  · have hb : ((f.id : Int) == (id : Int)) = false := by rw [beq_eq_false_iff_ne]; omega
    rw [show decide (f.id = id) = false by simp [hid]]
    clear hid
    go_enter Try.func74, Try.ntmps74
    go_wp2
    go_ret
    exact ⟨rfl, (Below.refl _ _).alloc (Nat.le_refl _) _⟩
def PlacePost (i : Int) (w : World) (e : Ending) (w' : World) : Prop := e = .returned (.tuple #[.int .i64 (if i < 0 then 0 else i), .bool (decide (0 ≤ i))]) ∧ Below w.heap.size w w'
theorem idxF_lt {α : Type} (p : α → Bool) (xs : List α) : -1 ≤ idxF p xs ∧ idxF p xs < (xs.length : Int) := by
  rcases idxF_cases p xs with ⟨h, _⟩ | ⟨k, x, h, hx, _⟩
  · omega
  · have := (List.getElem?_eq_some_iff.1 hx).1; omega
set_option maxRecDepth 100000 in
set_option maxHeartbeats 1000000 in
theorem place_calls (cs : List Value) (s : SchemaD) (id : Nat) (w : World) (h : SchemaR w cs s) (hn : s.fields.length ≤ 1000) : Calls Try.prog 62 #[.agg cs.toArray, .int .u32 (id : Int)] w (PlacePost (placeI s.fields id) w) := by
  obtain ⟨a, n, c, rfl, h1, h2, h3, hs, _⟩ := h
  have hr := idxF_lt (hasId id) s.fields
  have HS := Lib.hid hs
  have hn2 : n ≤ 100000 := by have := hs.1; omega
  have hnl : (s.fields.length : Int) = n := by have := hs.1; omega
  have hnn : n ≤ 1000 := by omega
  rw [hnl] at hr
  unfold placeI
  clear hs hnl hn
  go_enter Try.func62, Try.ntmps62
  go_wp2_with fail
  have hcg : ((w.alloc (.cells #[Value.int .u32 (s.id : Int), .slice a n c] 37)).alloc (.cells #[Value.int .u32 (id : Int)] 34)).cell? ⟨w.heap.size + 1, 0, none⟩ = some (.int .u32 (id : Int)) := by simp
  have hbx : Below w.heap.size w ((w.alloc (.cells #[Value.int .u32 (s.id : Int), .slice a n c] 37)).alloc (.cells #[Value.int .u32 (id : Int)] 34)) := ((Below.refl _ _).alloc (Nat.le_refl _) _).alloc (by simp) _
  have hzx : w.heap.size + 1 < ((w.alloc (.cells #[Value.int .u32 (s.id : Int), .slice a n c] 37)).alloc (.cells #[Value.int .u32 (id : Int)] 34)).heap.size := by simp
  generalize (w.alloc (.cells #[Value.int .u32 (s.id : Int), .slice a n c] 37)).alloc (.cells #[Value.int .u32 (id : Int)] 34) = W at *
  have HBX := Lib.hid hbx
  have HCG := Lib.hid hcg
  clear hbx hcg
  refine (index_field 74 _ (by intro args W; kernel_rfl) _ _ _ s.fields (hasId id) W (HS.out.below FieldR.stable HBX.out) hn2 (fun W' cs x hb hr _ => place1 cs x id _ W' hr (Nat.lt_of_lt_of_le hzx hb.size) ((hb.cell (p := ⟨w.heap.size + 1, 0, none⟩) hzx).trans HCG.out))).mono ?_
  rintro e w1 ⟨rfl, hb1⟩
  have HB1 := Lib.hid (HBX.out.trans (hb1.mono HBX.out.size))
  clear hb1
  generalize idxF (hasId id) s.fields = r at *
  by_cases hr0 : r < 0
  · have hd : decide (0 ≤ r) = false := by rw [decide_eq_false_iff_not]; omega
    obtain rfl : r = -1 := by omega
    go_wp2
    go_ret2
    exact ⟨rfl, HB1.out⟩
  · have hr1 : 0 ≤ r := by omega
    have hd : decide (0 ≤ r) = true := by rw [decide_eq_true_iff]; omega


    go_wp2
    go_ret2
    exact ⟨by rw [if_neg (Int.not_lt.2 hr1), decide_eq_true hr1]; rfl, HB1.out⟩
set_option maxRecDepth 100000 in
set_option maxHeartbeats 1000000 in
theorem refplace_calls (cs : List Value) (s : SchemaD) (id : Nat) (w : World) (h : SchemaR w cs s) (hn : s.fields.length ≤ 1000) : Calls Try.prog 45 #[.agg cs.toArray, .int .u32 (id : Int)] w (IntBelow (placeI s.fields id) w) := by
  obtain ⟨a, n, c, rfl, h1, h2, h3, hs, _⟩ := h
  have HS := Lib.hid hs
  have HLEN := Lib.hid hs.1
  have hnn : n ≤ 1000 := by have := hs.1; omega
  unfold placeI
  clear hs hn
  go_enter Try.func45, Try.ntmps45
  go_wp2
  have hc0 : (w.alloc (.cells #[Value.int .u32 (s.id : Int), .slice a n c] 37)).cell? ⟨w.heap.size, 1, none⟩ = some (.slice a n c) := by simp
  have hbx : Below w.heap.size w (w.alloc (.cells #[Value.int .u32 (s.id : Int), .slice a n c] 37)) := (Below.refl _ _).alloc (Nat.le_refl _) _
  generalize w.alloc (.cells #[Value.int .u32 (s.id : Int), .slice a n c] 37) = W at *
  have HBX := Lib.hid hbx
  clear hbx
  go_loopw [5] (fun i wr => ∃ k : Nat, k ≤ n ∧ i = .int .i64 k ∧ wr = W ∧ ∀ (j : Nat) (y : FieldD), j < k → s.fields[j]? = some y → hasId id y = false) (fun i _ => n - (intOf i).toNat)
  case atStart => exact ⟨0, Nat.zero_le _, rfl, rfl, fun j s hj => absurd hj (by omega)⟩
  case round =>
    obtain ⟨k, hk, rfl, rfl, hno⟩ := hrel
    have HN := Lib.hid hno
    clear hno
    by_cases hlt : k < n
    · obtain ⟨b, off, f, cs, rfl, hbl, hx, hcl, ⟨rfl, hr⟩, hcell⟩ := HS.out.at_ hlt
      have d0 := (HBX.out.cell (p := ⟨b, off + k * 4 + 0, none⟩) hbl).trans (hcell 0 _ rfl)
      rw [Nat.add_zero] at d0
      have hk0 : (0 : Int) ≤ (k : Int) := by omega
      have hkn : (k : Int) < (n : Int) := by omega
      have HX := Lib.hid hx
      clear hcell hx hr
      by_cases hid : f.id = id
      · have hb : ((f.id : Int) == (id : Int)) = true := by rw [beq_iff_eq]; omega
        have HI := Lib.hid (idxF_hit HX.out (show hasId id f = true by simp [hasId, hid]) HN.out)
        clear hid
        go_wp2
        go_ret
        exact ⟨by rw [HI.out]; rfl, HBX.out⟩
      · have hb : ((f.id : Int) == (id : Int)) = false := by rw [beq_eq_false_iff_ne]; omega
        have HP := Lib.hid (show hasId id f = false by simp [hasId, hid])
        clear hid
        go_wp2
        go_roundw
        case rel => exact ⟨k + 1, by omega, by go_num, trivial, noHit_succ HX.out HP.out HN.out⟩
        case measure => simp [intOf] <;> omega
    · have HI := Lib.hid (idxF_none (p := hasId id) (xs := s.fields) fun j y hj hy => HN.out j y (by have := HLEN.out; omega) hy)
      go_wp2
      go_ret
      exact ⟨by rw [HI.out]; rfl, HBX.out⟩
end Go.Proofs.Ytkofaoaglnjkgaa
