/- catchmentlaw22.key of an event. An event whose offset is set. -/
import Derived.Test.YtlclhinianamhaaEvLastP
namespace Go.Proofs.Ytlclhinianamhaa
open Go.RowKit Go.Deep
set_option linter.unusedVariables false
set_option linter.unusedSimpArgs false

theorem evSet {w : World} {qo qop qkind o : Nat} {qrow : List CellD} {qkk qkn : Int} {qks qnm : ByteArray} {a : Option Addr} {n c : Nat}
    (h : EventR w [.int .u64 (qo : Int), .int .u8 (qop : Int), .slice a n c, .int .u8 qkk, .int .i64 qkn, .string qks, .string qnm, .int .u8 (qkind : Int)] ⟨qo, qop, qrow, ⟨qkk, qkn, qks⟩, qnm, qkind⟩) (ho : o < 2 ^ 64) :
    EventR w [.int .u64 (o : Int), .int .u8 (qop : Int), .slice a n c, .int .u8 qkk, .int .i64 qkn, .string qks, .string qnm, .int .u8 (qkind : Int)] (setOff ⟨qo, qop, qrow, ⟨qkk, qkn, qks⟩, qnm, qkind⟩ o) := by
  obtain ⟨a', n', c', he, h1, h2, h3, h4, h5, h6⟩ := h
  unfold EventD.cells at he
  simp only [List.cons.injEq, Value.slice.injEq, true_and, and_true] at he
  obtain ⟨rfl, rfl, rfl⟩ := he
  exact ⟨_, _, _, rfl, h1, h2, h3, h4, ho, h6⟩
theorem ev_cells {W : World} {b off n k : Nat} {LP : List EvPair} {qo qop qkind : Nat} {qrow : List CellD} {qkk qkn : Int} {qks qnm : ByteArray} {qv : Value}
    (h : Sl 8 EvC W (some ⟨b, off, none⟩) n LP) (hk : k < n) (hx : LP[k]? = some (⟨qo, qop, qrow, ⟨qkk, qkn, qks⟩, qnm, qkind⟩, qv)) :
    b < W.heap.size ∧ W.cell? ⟨b, off + k * 8, none⟩ = some (.int .u64 (qo : Int)) ∧ W.cell? ⟨b, off + k * 8 + 1, none⟩ = some (.int .u8 (qop : Int)) ∧ W.cell? ⟨b, off + k * 8 + 2, none⟩ = some qv ∧ W.cell? ⟨b, off + k * 8 + 3, none⟩ = some (.int .u8 qkk) ∧ W.cell? ⟨b, off + k * 8 + 4, none⟩ = some (.int .i64 qkn) ∧ W.cell? ⟨b, off + k * 8 + 5, none⟩ = some (.string qks) ∧ W.cell? ⟨b, off + k * 8 + 6, none⟩ = some (.string qnm) ∧ W.cell? ⟨b, off + k * 8 + 7, none⟩ = some (.int .u8 (qkind : Int)) := by
  obtain ⟨b', off', q', u, he, hbl, hx', hcl, hr, hcell⟩ := h.at_ hk
  cases he
  rw [hx] at hx'
  cases hx'
  have hr' : u = evV (⟨qo, qop, qrow, ⟨qkk, qkn, qks⟩, qnm, qkind⟩, qv) := hr
  subst hr'
  exact ⟨hbl, hcell 0 _ rfl, hcell 1 _ rfl, hcell 2 _ rfl, hcell 3 _ rfl, hcell 4 _ rfl, hcell 5 _ rfl, hcell 6 _ rfl, hcell 7 _ rfl⟩
theorem all_rows : ∀ {l : List EventD} {x : StD}, AllOK x l → ∀ e ∈ l, e.op = 1 → 1 ≤ e.row.length
  | [], x, _, e, he, _ => by cases he
  | d :: es, x, h, e, he, h1 => by
    rcases List.mem_cons.1 he with rfl | he
    · exact (put_len (doE_ok h.1).2.2 h1).1
    · exact all_rows h.2 e he h1
/-- How far the two flags are. -/
def FlagR (E : EventD) (es ms : List EventD) (fA fB : Bool) : Prop := (fA || agB E ms) = agB E es ∧ (fB || widB ms) = widB es
theorem FlagR.start (E : EventD) (es : List EventD) : FlagR E es es false false := ⟨by simp, by simp⟩
theorem FlagR.step {E d : EventD} {es ms : List EventD} {fA fB gA gB : Bool} (h : FlagR E es (d :: ms) fA fB) (hA : gA = (fA || (decide (E.op ≠ 3) && decide (d.op ≠ 3) && decide (keyEv E = keyEv d)))) (hB : gB = (fB || decide (d.op = 3))) : FlagR E es ms gA gB := by
  obtain ⟨h1, h2⟩ := h
  refine ⟨?_, ?_⟩
  · rw [← h1, hA]
    show _ = (fA || List.any (d :: ms) _)
    rw [List.any_cons]
    show ((fA || _) || List.any ms _) = _
    rw [Bool.or_assoc]
  · rw [← h2, hB]
    show _ = (fB || List.any (d :: ms) _)
    rw [List.any_cons]
    show ((fB || _) || List.any ms _) = _
    rw [Bool.or_assoc]
theorem FlagR.ends {E : EventD} {es : List EventD} {fA fB : Bool} (h : FlagR E es [] fA fB) : fA = agB E es ∧ fB = widB es := by
  obtain ⟨h1, h2⟩ := h
  simp only [agB, widB, List.any_nil, Bool.or_false] at h1 h2
  exact ⟨h1, h2⟩
theorem cell_eq_dec (a b : CellD) : (a.kind == b.kind && a.n == b.n && a.s.toList == b.s.toList) = decide (a = b) := by
  have h := cell_ne_dec a b
  by_cases e : a = b
  · subst e; simp
  · rw [decide_eq_false e]
    rw [decide_eq_true e] at h
    revert h
    generalize (a.kind == b.kind && a.n == b.n && a.s.toList == b.s.toList) = X
    intro h
    cases X
    · rfl
    · simp at h
set_option maxRecDepth 100000 in
set_option maxHeartbeats 4000000 in
theorem key_calls (ecs : List Value) (e : EventD) (w : World) (he : EventR w ecs e) (h1 : e.op = 1 → 1 ≤ e.row.length) : Calls Try.prog 18 #[.agg ecs.toArray] w (ValIs (.agg (keyEv e).cells) w) := by
  have HER := Lib.hid he
  have H1 := Lib.hid h1
  clear h1
  obtain ⟨ra, rn, rc, rfl, _, _, _, hsl, _, hop, hk, _, _⟩ := he
  obtain ⟨o, op, row, ⟨kk, kn, ks⟩, nm, kd⟩ := e
  unfold EventD.cells
  simp only [] at hsl hop hk H1
  have HSL := Lib.hid hsl
  have hkB := hk.2.1.1
  have HKE := Lib.hid (show op ≠ 1 → keyEv ⟨o, op, row, ⟨kk, kn, ks⟩, nm, kd⟩ = fix ⟨kk, kn, ks⟩ from fun h => by unfold keyEv; rw [if_neg h])
  have HKP := Lib.hid (show op = 1 → keyEv ⟨o, op, row, ⟨kk, kn, ks⟩, nm, kd⟩ = fix (keyOf row) from fun h => by unfold keyEv; rw [if_pos h])
  clear hsl hk HER
  generalize keyEv ⟨o, op, row, ⟨kk, kn, ks⟩, nm, kd⟩ = KE at *
  by_cases hp : op = 1
  · have hpi : ((op : Int) == 1) = true := by rw [beq_iff_eq]; omega
    have hrl := H1.out hp
    have HE := Lib.hid (HKP.out hp)
    clear HKE HKP H1 hp
    obtain ⟨rb, roff, y, cs, rfl, hbl, hx, hcl, hr, hcell⟩ := HSL.out.at_ (i := 0) (by have := HSL.out.1; omega)
    obtain ⟨rfl, hyB⟩ := hr
    have hky : keyOf row = y := by unfold keyOf; rw [List.headD_eq_head?_getD, List.head?_eq_getElem?, hx]; rfl
    obtain ⟨FC, hFC⟩ : ∃ FC, fix y = FC := ⟨_, rfl⟩
    have HE2 := Lib.hid (show KE = FC by rw [HE.out, hky, hFC])
    obtain ⟨yk, yn, ys⟩ := y
    have hfy := fun W => fix_calls ⟨yk, yn, ys⟩ hyB.2.1.1 W
    obtain ⟨fk, fn, fs⟩ := FC
    simp only [hFC, CellD.cells] at hfy
    have HFY := Lib.hid hfy
    clear hfy hFC
    have hrn : 0 < rn := by have := HSL.out.1; omega
    have hrni : (0 : Int) < (rn : Int) := by omega
    have d0 := hcell 0 _ rfl
    have d1 := hcell 1 _ rfl
    have d2 := hcell 2 _ rfl
    simp only [Nat.zero_mul, Nat.add_zero] at d0 d1 d2
    clear hcell hx hcl hky HE HSL hyB hrl hkB
    go_enter Try.func18, Try.ntmps18
    go_wp2_with fail
    refine (HFY.out _).mono ?_
    rintro e w3 ⟨rfl, hb3⟩
    have xx : ∀ i v, (#[Value.int IntKind.u8 0, Value.int IntKind.i64 0, Value.string ByteArray.empty] : Array Value)[i]? = some v → w3.cell? ⟨w.heap.size + 1, i, none⟩ = some v := fun i v hv =>
      (hb3.cell (p := ⟨w.heap.size + 1, i, none⟩) (by simp)).trans (by rw [World.cell?_alloc_at _ _ _ _ (by simp)]; exact hv)
    have x0 := xx 0 _ rfl
    have x1 := xx 1 _ rfl
    have x2 := xx 2 _ rfl
    have fx : ∀ i, w3.frozen? ⟨w.heap.size + 1, i, none⟩ = false := fun i => (hb3.frozen (p := ⟨w.heap.size + 1, i, none⟩) (by simp)).trans (by simp)
    have hz1 : w.heap.size + 1 < w3.heap.size := by have := hb3.size; simp at this; omega
    have hbb : Below w.heap.size w w3 := (((Below.refl _ _).alloc (Nat.le_refl _) _).alloc (by simp) _).trans (hb3.mono (by simp <;> omega))
    have HBB := Lib.hid hbb
    clear hb3 hbb xx
    go_wp2
    refine bodyPost_ret (v := .agg #[.int .u8 fk, .int .i64 fn, .string fs]) (by simp [results, Try.results18, go_sem, x0, x1, x2]) rfl ?_
    rw [HE2.out]
    refine ⟨rfl, ?_⟩
    repeat (refine Below.setCell ?_ (by first | (simp; done) | (simp; omega)) _)
    exact HBB.out
  · have hpi : ((op : Int) == 1) = false := by rw [beq_eq_false_iff_ne]; omega
    obtain ⟨FC, hFC⟩ : ∃ FC, fix ⟨kk, kn, ks⟩ = FC := ⟨_, rfl⟩
    have HE2 := Lib.hid (show KE = FC by rw [HKE.out hp, hFC])
    have hfy := fun W => fix_calls ⟨kk, kn, ks⟩ hkB W
    obtain ⟨fk, fn, fs⟩ := FC
    simp only [hFC, CellD.cells] at hfy
    have HFK := Lib.hid hfy
    clear HKE HKP H1 hp HSL hfy hFC hkB
    go_enter Try.func18, Try.ntmps18
    go_wp2_with fail
    refine (HFK.out _).mono ?_
    rintro e w3 ⟨rfl, hb3⟩
    have xx : ∀ i v, (#[Value.int IntKind.u8 0, Value.int IntKind.i64 0, Value.string ByteArray.empty] : Array Value)[i]? = some v → w3.cell? ⟨w.heap.size + 1, i, none⟩ = some v := fun i v hv =>
      (hb3.cell (p := ⟨w.heap.size + 1, i, none⟩) (by simp)).trans (by rw [World.cell?_alloc_at _ _ _ _ (by simp)]; exact hv)
    have x0 := xx 0 _ rfl
    have x1 := xx 1 _ rfl
    have x2 := xx 2 _ rfl
    have fx : ∀ i, w3.frozen? ⟨w.heap.size + 1, i, none⟩ = false := fun i => (hb3.frozen (p := ⟨w.heap.size + 1, i, none⟩) (by simp)).trans (by simp)
    have hz1 : w.heap.size + 1 < w3.heap.size := by have := hb3.size; simp at this; omega
    have hbb : Below w.heap.size w w3 := (((Below.refl _ _).alloc (Nat.le_refl _) _).alloc (by simp) _).trans (hb3.mono (by simp <;> omega))
    have HBB := Lib.hid hbb
    clear hb3 hbb xx
    go_wp2
    refine bodyPost_ret (v := .agg #[.int .u8 fk, .int .i64 fn, .string fs]) (by simp [results, Try.results18, go_sem, x0, x1, x2]) rfl ?_
    rw [HE2.out]
    refine ⟨rfl, ?_⟩
    repeat (refine Below.setCell ?_ (by first | (simp; done) | (simp; omega)) _)
    exact HBB.out
end Go.Proofs.Ytlclhinianamhaa
