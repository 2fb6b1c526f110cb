/- The document's example as plain data: its schemas, its events, its states. -/
import Derived.Test.YtlclhinianamhaaEvFnsm
import Derived.Test.YtlclhinianamhaaEvRowsm
namespace Go.Proofs.Ytlclhinianamhaa
open Go.RowKit Go.Deep
set_option linter.unusedVariables false
set_option linter.unusedSimpArgs false

theorem named_of {s : ByteArray} (n : Nat) (hP : P s n = s.size) (hlt : ((List.range n).all fun k => decide (P s k < s.size)) = true) (h1 : 1 ≤ s.size) (h2 : s.size ≤ 16) (hok : okK s n = true) (hcl : cleanK s n = true) : namedB s = true := by
  have hN : N s = n := N_unique hP (fun k hk => by
    have := List.all_eq_true.1 hlt k (List.mem_range.2 hk)
    exact of_decide_eq_true this)
  unfold namedB clean
  rw [hN, hok, hcl]
  simp [h1, h2]
def sId : ByteArray := ⟨#[105, 100]⟩
def sName : ByteArray := ⟨#[110, 97, 109, 101]⟩
def sAge : ByteArray := ⟨#[97, 103, 101]⟩
theorem named_id : namedB sId = true := named_of 2 (by kernel_rfl) (by kernel_rfl) (by decide) (by decide) (by kernel_rfl) (by kernel_rfl)
theorem named_name : namedB sName = true := named_of 4 (by kernel_rfl) (by kernel_rfl) (by decide) (by decide) (by kernel_rfl) (by kernel_rfl)
theorem named_age : namedB sAge = true := named_of 3 (by kernel_rfl) (by kernel_rfl) (by decide) (by decide) (by kernel_rfl) (by kernel_rfl)
def twoE : SchemaD := ⟨1, [⟨1, ⟨#[105, 100]⟩, 1, true⟩, ⟨2, ⟨#[110, 97, 109, 101]⟩, 3, false⟩]⟩
def threeE : SchemaD := ⟨2, [⟨1, ⟨#[105, 100]⟩, 1, true⟩, ⟨2, ⟨#[110, 97, 109, 101]⟩, 3, false⟩, ⟨3, ⟨#[97, 103, 101]⟩, 1, false⟩]⟩
theorem fieldChk_named {fs : List FieldD} {k : Nat} {f : FieldD} (hf : fs[k]? = some f) (hn : namedB f.name = true) : fieldChk fs k = if f.id = 0 then 81 else if 0 < k ∧ f.id ≤ ((fs[k - 1]?).map FieldD.id).getD 0 then 81 else if hasB fs k f.name = true then 80
    else if f.kind < 1 then 10 else if 3 < f.kind then 10 else if k = 0 ∧ f.need = false then 82 else if k = 0 ∧ f.kind = 2 then 82 else if 0 < k ∧ f.need = true then 82 else 0 := by
  unfold fieldChk
  rw [hf]
  simp only []
  rw [if_neg (show ¬ namedB f.name = false by rw [hn]; simp)]
theorem chk_two : schemaChk twoE = 0 := by
  unfold schemaChk
  rw [if_neg (by decide)]
  refine firstBad_next (firstBad_next rfl ?_) ?_
  · rw [fieldChk_named (f := ⟨1, ⟨#[105, 100]⟩, 1, true⟩) rfl named_id]; kernel_rfl
  · rw [fieldChk_named (f := ⟨2, ⟨#[110, 97, 109, 101]⟩, 3, false⟩) rfl named_name]; kernel_rfl
theorem chk_three : schemaChk threeE = 0 := by
  unfold schemaChk
  rw [if_neg (by decide)]
  refine firstBad_next (firstBad_next (firstBad_next rfl ?_) ?_) ?_
  · rw [fieldChk_named (f := ⟨1, ⟨#[105, 100]⟩, 1, true⟩) rfl named_id]; kernel_rfl
  · rw [fieldChk_named (f := ⟨2, ⟨#[110, 97, 109, 101]⟩, 3, false⟩) rfl named_name]; kernel_rfl
  · rw [fieldChk_named (f := ⟨3, ⟨#[97, 103, 101]⟩, 1, false⟩) rfl named_age]; kernel_rfl
theorem add_age : addE twoE sAge 1 = 0 := by
  unfold addE
  rw [chk_two, named_age]
  kernel_rfl
theorem adds_age : addS twoE sAge 1 = threeE := by
  unfold addS
  rw [if_pos add_age]
  kernel_rfl
theorem checkE_of {s : SchemaD} {e : EventD} (h : schemaChk s = 0) : checkE s e = (if e.op < 1 then 221 else if 3 < e.op then 221 else if onlyB e = false then 1 else if e.op = 1 then valuesE s e.row else if e.op = 2 then keyE s e.key else addE s e.name (e.kind : Int)) := by
  unfold checkE
  rw [if_neg (by rw [h]; simp)]
def c7E : CellD := ⟨1, 7, ByteArray.empty⟩
def caE : CellD := ⟨3, 0, ⟨#[97]⟩⟩
def ev1 : EventD := ⟨1, 1, [c7E, caE], zeroCell, ⟨#[]⟩, 0⟩
def ev2 : EventD := ⟨3, 1, [c7E, zeroCell], zeroCell, ⟨#[]⟩, 0⟩
def ev3 : EventD := ⟨2, 1, [c7E, zeroCell], zeroCell, ⟨#[]⟩, 0⟩
def ev4 : EventD := ⟨3, 3, [], zeroCell, ⟨#[97, 103, 101]⟩, 1⟩
def ev5 : EventD := ⟨4, 2, [], c7E, ⟨#[]⟩, 0⟩
def st0 : StD := ⟨twoE, [], 0⟩
def st1 : StD := ⟨twoE, [[c7E, caE]], 1⟩
def st3 : StD := ⟨twoE, [[c7E, zeroCell]], 2⟩
def st4 : StD := ⟨threeE, [[c7E, zeroCell, zeroCell]], 3⟩
def st5 : StD := ⟨threeE, [], 4⟩
theorem do1 : doE st0 ev1 = 0 := by unfold doE; rw [if_neg (by decide), show st0.s = twoE from rfl, checkE_of chk_two]; kernel_rfl
theorem do2 : doE st1 ev2 = 220 := by unfold doE; rw [if_pos (by decide)]
theorem do3 : doE st1 ev3 = 0 := by unfold doE; rw [if_neg (by decide), show st1.s = twoE from rfl, checkE_of chk_two]; kernel_rfl
theorem do4 : doE st3 ev4 = 0 := by
  unfold doE
  rw [if_neg (by decide), show st3.s = twoE from rfl, checkE_of chk_two, if_neg (by decide), if_neg (by decide), if_neg (by decide), if_neg (by decide), if_neg (by decide)]
  exact add_age
theorem do5 : doE st4 ev5 = 0 := by unfold doE; rw [if_neg (by decide), show st4.s = threeE from rfl, checkE_of chk_three]; kernel_rfl
theorem putL_nil (r : List CellD) : putL r [] = [r] := by simp [putL, putAux]
theorem putL_same {r q : List CellD} (h : keyOf r = keyOf q) : putL r [q] = [r] := by simp [putL, putAux, (cmpC_zero _ _).2 h]
theorem delL_same {k : CellD} {q : List CellD} (h : keyOf q = k) : delL k [q] = [] := by simp [delL, (cmpC_zero _ _).2 h]
theorem fix_c7 : fix c7E = c7E := by kernel_rfl
theorem fix_ca : fix caE = caE := by kernel_rfl
theorem fix_z : fix zeroCell = zeroCell := by kernel_rfl
theorem go1 : doS st0 ev1 = st1 := by
  unfold doS
  rw [if_neg (by rw [do1]; simp), if_pos (by rfl)]
  show (⟨twoE, putL ([c7E, caE].map fix) [], 1⟩ : StD) = _
  rw [putL_nil, List.map_cons, List.map_cons, fix_c7, fix_ca]
  rfl
theorem go2 : doS st1 ev2 = st1 := doS_refused (by rw [do2]; decide)
theorem go3 : doS st1 ev3 = st3 := by
  unfold doS
  rw [if_neg (by rw [do3]; simp), if_pos (by rfl)]
  show (⟨twoE, putL ([c7E, zeroCell].map fix) [[c7E, caE]], 2⟩ : StD) = _
  rw [List.map_cons, List.map_cons, List.map_nil, fix_c7, fix_z, putL_same (r := [c7E, zeroCell]) (q := [c7E, caE]) rfl]
  rfl
theorem go4 : doS st3 ev4 = st4 := by
  unfold doS
  rw [if_neg (by rw [do4]; simp), if_neg (by decide), if_neg (by decide)]
  show (⟨addS twoE sAge 1, wideL [[c7E, zeroCell]], 3⟩ : StD) = _
  rw [adds_age]
  rfl
theorem go5 : doS st4 ev5 = st5 := by
  unfold doS
  rw [if_neg (by rw [do5]; simp), if_neg (by decide), if_pos (by rfl)]
  show (⟨threeE, delL (fix c7E) [[c7E, zeroCell, zeroCell]], 4⟩ : StD) = _
  rw [fix_c7, delL_same (k := c7E) (q := [c7E, zeroCell, zeroCell]) rfl]
  rfl
def TwoPostE (w : World) (e : Ending) (w' : World) : Prop := ∃ a, e = .returned (.agg #[.int .u32 1, .slice a 2 2]) ∧ SchemaR w' [.int .u32 1, .slice a 2 2] twoE ∧ Below w.heap.size w w'
def twoCellsE : Array Value := #[.int .u32 1, .string ⟨#[105, 100]⟩, .int .u8 1, .bool true, .int .u32 2, .string ⟨#[110, 97, 109, 101]⟩, .int .u8 3, .bool false]
theorem two_slE (w : World) (b : Nat) (h : CellsAt w b twoCellsE) (hb : b < w.heap.size) : Sl 4 FieldR w (some ⟨b, 0, none⟩) 2 twoE.fields := by
  refine ⟨rfl, fun _ => ⟨b, 0, rfl, hb, fun i x hi => ?_⟩⟩
  have hi2 : i < 2 := (List.getElem?_eq_some_iff.1 hi).1
  have h4 : ∀ {l : List Value} {j : Nat} {v : Value}, l.length = 4 → l[j]? = some v → j < 4 := by
    intro l j v hl hj
    rcases Nat.lt_or_ge j 4 with h | h
    · exact h
    · rw [List.getElem?_eq_none (by omega)] at hj; cases hj
  have : i = 0 ∨ i = 1 := by omega
  rcases this with rfl | rfl
  all_goals
    cases hi
    refine ⟨_, rfl, ⟨rfl, by decide, by decide, by decide⟩, fun j v hj => ?_⟩
    have hj7 := h4 rfl hj
    have : j = 0 ∨ j = 1 ∨ j = 2 ∨ j = 3 := by omega
    rcases this with rfl | rfl | rfl | rfl <;> exact h _ _ hj
set_option maxRecDepth 100000 in
theorem two_callsE (w : World) : Calls Try.prog 34 #[] w (TwoPostE w) := by
  go_enter Try.func34, Try.ntmps34
  go_wp2
  refine bodyPost_ret (v := .agg #[.int .u32 1, .slice (some ⟨w.heap.size + 1, 0, none⟩) 2 2]) (by simp [results, Try.results34, go_sem]) rfl ⟨some ⟨w.heap.size + 1, 0, none⟩, rfl, ?_, ?_⟩
  · refine ⟨_, 2, 2, rfl, Nat.le_refl _, by decide, (fun h => by cases h), two_slE _ _ (fun i v h => ?_) (by simp), by decide⟩
    exact CellsAt.alloc_at _ _ _ _ (by simp) i v h
  · repeat (first | exact Below.refl _ _ | refine Below.setCell ?_ (by simp <;> omega) _ | refine Below.alloc ?_ (by simp <;> omega) _)
set_option maxRecDepth 100000 in
theorem whole_callsE (n : Int) (w : World) : Calls Try.prog 35 #[.int .i64 n] w (ValIs (.agg #[.int .u8 1, .int .i64 n, .string ByteArray.empty]) w) := by
  go_enter Try.func35, Try.ntmps35
  go_wp2
  refine bodyPost_ret (v := .agg #[.int .u8 1, .int .i64 n, .string ByteArray.empty]) (by simp [results, Try.results35, go_sem]; rfl) rfl ⟨rfl, ?_⟩
  repeat (first | exact Below.refl _ _ | refine Below.setCell ?_ (by simp <;> omega) _ | refine Below.alloc ?_ (by simp <;> omega) _)
end Go.Proofs.Ytlclhinianamhaa
