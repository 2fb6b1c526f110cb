/- The contract of catchmentref08.Add. -/
import Derived.Test.YtlclhinianamhaaRtChk
import Derived.Test.YtlclhinianamhaaCellRowm
import Derived.IntWalk
import Derived.Deep.DeepCutAuto
namespace Go.Proofs.Ytlclhinianamhaa
open Go.RowKit Go.Deep
set_option linter.unusedVariables false
set_option linter.unusedSimpArgs false

def lastId (s : SchemaD) : Nat := ((s.fields[s.fields.length - 1]?).map FieldD.id).getD 0
noncomputable def addE (s : SchemaD) (name : ByteArray) (k : Int) : Int :=
  if schemaChk s ≠ 0 then schemaChk s
  else if s.fields.length = 8 ∨ lastId s = 4294967295 ∨ s.id = 4294967295 then 4
  else if namedB name = false then 80 else if hasB s.fields s.fields.length name = true then 80
  else if k < 1 then 10 else if 3 < k then 10 else 0
noncomputable def addS (s : SchemaD) (name : ByteArray) (k : Int) : SchemaD := if addE s name k = 0 then ⟨s.id + 1, s.fields ++ [⟨lastId s + 1, name, k.toNat, false⟩]⟩ else ⟨0, []⟩
def AddPost (r : Int) (s : SchemaD) (w : World) (e : Ending) (w' : World) : Prop :=
  ∃ a n c, e = .returned (.tuple #[.agg #[.int .u32 (s.id : Int), .slice a n c], .int .i64 r]) ∧ Sl 4 FieldR w' a n s.fields ∧ n ≤ c ∧ c ≤ maxLen ∧ (a = none → c = 0) ∧ s.id < 2 ^ 32 ∧ (∀ b off, a = some ⟨b, off, none⟩ → w.heap.size ≤ b) ∧ Below w.heap.size w w'
theorem AddPost.none_ {r : Int} {w w' : World} {s : SchemaD} (hs : s = ⟨0, []⟩) (hb : Below w.heap.size w w') : AddPost r s w (.returned (.tuple #[.agg #[.int .u32 0, .slice none 0 0], .int .i64 r])) w' := by
  subst hs
  exact ⟨none, 0, 0, rfl, Sl.nil_ _ _ _, Nat.le_refl _, by decide, fun _ => rfl, by decide, (fun b off h => by cases h), hb⟩
theorem schemaChk_len {s : SchemaD} (h : schemaChk s = 0) : 1 ≤ s.fields.length ∧ s.fields.length ≤ 8 := by
  unfold schemaChk at h
  by_cases hc : s.id = 0 ∨ s.fields.length = 0 ∨ 8 < s.fields.length
  · rw [if_pos hc] at h; cases h
  · omega
set_option maxRecDepth 100000 in
set_option maxHeartbeats 16000000 in
theorem add08 (cs : List Value) (s : SchemaD) (name : ByteArray) (k : Int) (w : World) (hs : SchemaR w cs s) (hnm : name.size ≤ maxLen) (hk : -9223372036854775808 ≤ k ∧ k ≤ 9223372036854775807) :
    Calls Try.prog 44 #[.agg cs.toArray, .string name, .int .i64 k] w (AddPost (addE s name k) (addS s name k) w) := by
  have HSC := Lib.hid hs
  obtain ⟨fa, fn, fc, rfl, hs1, hs2, hs3, hfs, hs4⟩ := hs
  have HFS := Lib.hid hfs
  have HFC := Lib.hid hs3
  have HNM := Lib.hid hnm
  obtain ⟨hk1, hk2⟩ := hk
  obtain ⟨i0, hi0, hz0, hz1, hz2⟩ := info_parts infoFld
  have HI := Lib.hid hi0
  have HZ0 := Lib.hid hz0
  have HZ1 := Lib.hid hz1
  have HZ2 := Lib.hid hz2
  obtain ⟨R, hR⟩ : ∃ R, addE s name k = R := ⟨_, rfl⟩
  obtain ⟨S, hS⟩ : ∃ S, addS s name k = S := ⟨_, rfl⟩
  rw [hR, hS]
  unfold addS at hS
  rw [hR] at hS
  unfold addE at hR
  have hfl := schemaChk_len (s := s)
  have hchk := fun W (h : SchemaR W [.int .u32 (s.id : Int), .slice fa fn fc] s) => check08 _ s W h
  have HCHK := Lib.hid hchk
  generalize schemaChk s = ce at *
  clear hi0 hz0 hz1 hz2 hs3 hfs hs2 hnm hchk
  go_enter Try.func44, Try.ntmps44
  go_wp2_with fail
  obtain ⟨W0, hWW⟩ : ∃ W0 : World, W0 = ((w.alloc (.cells #[.int .u32 (s.id : Int), .slice fa fn fc] 25)).alloc (.cells #[.int .u32 0, .slice none 0 0] 25)) := ⟨_, rfl⟩
  have hm : Mem w.heap.size [#[.int .u32 (s.id : Int), .slice fa fn fc], #[.int .u32 0, .slice none 0 0]] w W0 := by rw [hWW]; exact (((Mem.nil w).push (by simp) #[.int .u32 (s.id : Int), .slice fa fn fc] 25).push (by simp) #[.int .u32 0, .slice none 0 0] 25)
  rw [← hWW]
  clear hWW
  have M0 := Lib.hid hm
  clear hm
  refine (HCHK.out _ (SchemaR.stable _ _ _ _ M0.out.below HSC.out)).mono ?_
  rintro e w1 ⟨rfl, hb⟩
  have M1 := Lib.hid (M0.out.call hb)
  clear hb
  by_cases hce : ce = 0
  · subst hce
    obtain ⟨hf1, hf8⟩ := hfl rfl
    have hfn : s.fields.length = fn := HFS.out.1
    rw [hfn] at hf1 hf8
    rw [if_neg (by simp), hfn] at hR
    obtain ⟨m, rfl⟩ : ∃ m, fn = m + 1 := ⟨fn - 1, by omega⟩
    obtain ⟨b, off, y, yv, rfl, hbl, hy, hcl, hr, hcell⟩ := HFS.out.at_ (i := m) (by omega)
    obtain ⟨rfl, hy1, hy2, hy3⟩ := hr
    have hlast : lastId s = y.id := by unfold lastId; rw [hfn, Nat.add_sub_cancel, hy]; rfl
    rw [hlast] at hR
    have HLAST := Lib.hid hlast
    have e0 := M1.out.old (p := ⟨b, off + m * 4 + 0, none⟩) hbl (hcell 0 _ rfl)
    rw [Nat.add_zero] at e0
    have hmi : (((m + 1 : Nat) : Int) - 1) = (m : Int) := by omega
    have hmw : IntKind.i64.wrap (((m + 1 : Nat) : Int) - 1) = (m : Int) := by rw [IntWalk.i64_in _ (by omega)]; exact hmi
    have hm7 : (m : Int) ≤ 7 := by omega
    clear hfl hcell hcl hy hlast hfn
    have y1 : (y.id : Int) ≤ 4294967295 := by omega
    have q0_0 : w1.cell? ⟨w.heap.size, 0, none⟩ = some (.int .u32 (s.id : Int)) := M1.out.cell 0 0 rfl rfl
    have q0_1 : w1.cell? ⟨w.heap.size, 1, none⟩ = some (.slice (some ⟨b, off, none⟩) (m + 1) fc) := M1.out.cell 0 1 rfl rfl
    have z0 : w.heap.size < w1.heap.size := M1.out.lt 0 (by simp)
    have z1 : w.heap.size + 1 < w1.heap.size := M1.out.lt 1 (by simp)
    by_cases h8 : m + 1 = 8
    · obtain rfl : m = 7 := by omega
      obtain rfl : R = 4 := by rw [← hR]; rw [if_pos (Or.inl rfl)]
      rw [if_neg (by decide)] at hS
      have HS := Lib.hid hS.symm
      clear hR hS
      have q1_0 : w1.cell? ⟨w.heap.size + 1, 0, none⟩ = some (.int .u32 0) := M1.out.cell 1 0 rfl rfl
      have q1_1 : w1.cell? ⟨w.heap.size + 1, 1, none⟩ = some (.slice none 0 0) := M1.out.cell 1 1 rfl rfl
      have g1 : ∀ j, w1.frozen? ⟨w.heap.size + 1, j, none⟩ = false := M1.out.frozen 1 rfl
      go_wp2
      refine bodyPost_ret (v := .tuple #[.agg #[.int .u32 0, .slice none 0 0], .int .i64 4]) (by simp [results, Try.results44, go_sem, q1_0, q1_1]) rfl (AddPost.none_ HS.out ?_)
      repeat (with_reducible refine Below.setCell ?_ (by first | exact Nat.le_refl _ | (simp; done) | omega | (simp; omega)) _)
      exact M1.out.below
    · have h8b : (((m + 1 : Nat) : Int) == 8) = false := by rw [beq_eq_false_iff_ne]; omega
      have h8c : ((m : Int) + 1 == 8) = false := by rw [beq_eq_false_iff_ne]; omega
      by_cases hyl : y.id = 4294967295
      · have hylb : ((y.id : Int) == 4294967295) = true := by rw [beq_iff_eq]; omega
        obtain rfl : R = 4 := by rw [← hR]; rw [if_pos (Or.inr (Or.inl hyl))]
        rw [if_neg (by decide)] at hS
        have HS := Lib.hid hS.symm
        clear hR hS
        have q1_0 : w1.cell? ⟨w.heap.size + 1, 0, none⟩ = some (.int .u32 0) := M1.out.cell 1 0 rfl rfl
        have q1_1 : w1.cell? ⟨w.heap.size + 1, 1, none⟩ = some (.slice none 0 0) := M1.out.cell 1 1 rfl rfl
        have g1 : ∀ j, w1.frozen? ⟨w.heap.size + 1, j, none⟩ = false := M1.out.frozen 1 rfl
        go_wp2
        refine bodyPost_ret (v := .tuple #[.agg #[.int .u32 0, .slice none 0 0], .int .i64 4]) (by simp [results, Try.results44, go_sem, q1_0, q1_1]) rfl (AddPost.none_ HS.out ?_)
        repeat (with_reducible refine Below.setCell ?_ (by first | exact Nat.le_refl _ | (simp; done) | omega | (simp; omega)) _)
        exact M1.out.below
      · have hylb : ((y.id : Int) == 4294967295) = false := by rw [beq_eq_false_iff_ne]; omega
        by_cases hsl : s.id = 4294967295
        · have hslb : ((s.id : Int) == 4294967295) = true := by rw [beq_iff_eq]; omega
          obtain rfl : R = 4 := by rw [← hR]; rw [if_pos (Or.inr (Or.inr hsl))]
          rw [if_neg (by decide)] at hS
          have HS := Lib.hid hS.symm
          clear hR hS
          have q1_0 : w1.cell? ⟨w.heap.size + 1, 0, none⟩ = some (.int .u32 0) := M1.out.cell 1 0 rfl rfl
          have q1_1 : w1.cell? ⟨w.heap.size + 1, 1, none⟩ = some (.slice none 0 0) := M1.out.cell 1 1 rfl rfl
          have g1 : ∀ j, w1.frozen? ⟨w.heap.size + 1, j, none⟩ = false := M1.out.frozen 1 rfl
          go_wp2
          refine bodyPost_ret (v := .tuple #[.agg #[.int .u32 0, .slice none 0 0], .int .i64 4]) (by simp [results, Try.results44, go_sem, q1_0, q1_1]) rfl (AddPost.none_ HS.out ?_)
          repeat (with_reducible refine Below.setCell ?_ (by first | exact Nat.le_refl _ | (simp; done) | omega | (simp; omega)) _)
          exact M1.out.below
        · have hslb : ((s.id : Int) == 4294967295) = false := by rw [beq_eq_false_iff_ne]; omega
          have s1 : (s.id : Int) ≤ 4294967294 := by omega
          have y2 : (y.id : Int) ≤ 4294967294 := by omega
          rw [if_neg (by omega)] at hR
          have hnmd := named08 name
          unfold NamedPost at hnmd
          have HNMD := Lib.hid hnmd
          have hhas := fun W => has08 (some ⟨b, off, none⟩) (m + 1) (m + 1) fc s.fields name W
          unfold HasPost at hhas
          have HHAS := Lib.hid hhas
          generalize namedB name = nb at *
          generalize hasB s.fields (m + 1) name = hb_ at *
          clear hnmd hhas
          go_wp2_with fail
          refine (HNMD.out _ HNM.out).mono ?_
          rintro e w2 ⟨rfl, hb⟩
          have M2 := Lib.hid (M1.out.call hb)
          clear hb q0_0 q0_1 z0 z1 e0
          have q0_0 : w2.cell? ⟨w.heap.size, 0, none⟩ = some (.int .u32 (s.id : Int)) := M2.out.cell 0 0 rfl rfl
          have q0_1 : w2.cell? ⟨w.heap.size, 1, none⟩ = some (.slice (some ⟨b, off, none⟩) (m + 1) fc) := M2.out.cell 0 1 rfl rfl
          have z0 : w.heap.size < w2.heap.size := M2.out.lt 0 (by simp)
          have z1 : w.heap.size + 1 < w2.heap.size := M2.out.lt 1 (by simp)
          cases nb
          · obtain rfl : R = 80 := by rw [← hR]; rw [if_pos rfl]
            rw [if_neg (by decide)] at hS
            have HS := Lib.hid hS.symm
            clear hR hS
            have q1_0 : w2.cell? ⟨w.heap.size + 1, 0, none⟩ = some (.int .u32 0) := M2.out.cell 1 0 rfl rfl
            have q1_1 : w2.cell? ⟨w.heap.size + 1, 1, none⟩ = some (.slice none 0 0) := M2.out.cell 1 1 rfl rfl
            have g1 : ∀ j, w2.frozen? ⟨w.heap.size + 1, j, none⟩ = false := M2.out.frozen 1 rfl
            go_wp2
            refine bodyPost_ret (v := .tuple #[.agg #[.int .u32 0, .slice none 0 0], .int .i64 80]) (by simp [results, Try.results44, go_sem, q1_0, q1_1]) rfl (AddPost.none_ HS.out ?_)
            repeat (with_reducible refine Below.setCell ?_ (by first | exact Nat.le_refl _ | (simp; done) | omega | (simp; omega)) _)
            exact M2.out.below
          · rw [if_neg (by simp)] at hR
            go_wp2_with fail
            refine (HHAS.out _ (HFS.out.below FieldR.stable M2.out.below) (Nat.le_refl _) (by omega)).mono ?_
            rintro e w2' ⟨rfl, hww⟩
            have hww' := hww.symm
            subst hww'
            clear hww
            cases hb_
            · rw [if_neg (by simp)] at hR
              by_cases hkl : k < 1
              · obtain rfl : R = 10 := by rw [← hR]; rw [if_pos hkl]
                rw [if_neg (by decide)] at hS
                have HS := Lib.hid hS.symm
                clear hR hS
                have q1_0 : w2.cell? ⟨w.heap.size + 1, 0, none⟩ = some (.int .u32 0) := M2.out.cell 1 0 rfl rfl
                have q1_1 : w2.cell? ⟨w.heap.size + 1, 1, none⟩ = some (.slice none 0 0) := M2.out.cell 1 1 rfl rfl
                have g1 : ∀ j, w2.frozen? ⟨w.heap.size + 1, j, none⟩ = false := M2.out.frozen 1 rfl
                go_wp2
                refine bodyPost_ret (v := .tuple #[.agg #[.int .u32 0, .slice none 0 0], .int .i64 10]) (by simp [results, Try.results44, go_sem, q1_0, q1_1]) rfl (AddPost.none_ HS.out ?_)
                repeat (with_reducible refine Below.setCell ?_ (by first | exact Nat.le_refl _ | (simp; done) | omega | (simp; omega)) _)
                exact M2.out.below
              · rw [if_neg hkl] at hR
                have hkl1 : (1 : Int) ≤ k := by omega
                by_cases hkh : 3 < k
                · obtain rfl : R = 10 := by rw [← hR]; rw [if_pos hkh]
                  rw [if_neg (by decide)] at hS
                  have HS := Lib.hid hS.symm
                  clear hR hS
                  have q1_0 : w2.cell? ⟨w.heap.size + 1, 0, none⟩ = some (.int .u32 0) := M2.out.cell 1 0 rfl rfl
                  have q1_1 : w2.cell? ⟨w.heap.size + 1, 1, none⟩ = some (.slice none 0 0) := M2.out.cell 1 1 rfl rfl
                  have g1 : ∀ j, w2.frozen? ⟨w.heap.size + 1, j, none⟩ = false := M2.out.frozen 1 rfl
                  go_wp2
                  refine bodyPost_ret (v := .tuple #[.agg #[.int .u32 0, .slice none 0 0], .int .i64 10]) (by simp [results, Try.results44, go_sem, q1_0, q1_1]) rfl (AddPost.none_ HS.out ?_)
                  repeat (with_reducible refine Below.setCell ?_ (by first | exact Nat.le_refl _ | (simp; done) | omega | (simp; omega)) _)
                  exact M2.out.below
                · rw [if_neg hkh] at hR
                  have hkh3 : k ≤ 3 := by omega
                  subst hR
                  rw [if_pos rfl, HLAST.out] at hS
                  have HS := Lib.hid hS.symm
                  have hw8 : IntKind.u8.wrap k = k := by
                    have : k = 1 ∨ k = 2 ∨ k = 3 := by omega
                    rcases this with rfl | rfl | rfl <;> rfl
                  clear hS hkl hkh
                  go_upto_region 12 with fail
                  obtain ⟨W3, hWW⟩ : ∃ W : World, W = w2.alloc (.cells #[.int .u32 ((s.id : Int) + 1), .slice none 0 0] 25) := ⟨_, rfl⟩
                  have hm3 := M2.out.alloc (.cells #[.int .u32 ((s.id : Int) + 1), .slice none 0 0] 25)
                  have hx3 : Box W3 w2.heap.size #[.int .u32 ((s.id : Int) + 1), .slice none 0 0] := by rw [hWW]; exact Box.new _ _ _
                  rw [← hWW] at hm3 ⊢
                  clear hWW
                  have M3 := Lib.hid hm3
                  have X3 := Lib.hid hx3
                  clear hm3 hx3 q0_0 q0_1 z0 z1
                  have q0_1 : W3.cell? ⟨w.heap.size, 1, none⟩ = some (.slice (some ⟨b, off, none⟩) (m + 1) fc) := M3.out.cell 0 1 rfl rfl
                  have x1 : W3.cell? ⟨w2.heap.size, 1, none⟩ = some (.slice none 0 0) := X3.out.cell 1 rfl
                  have HFS3 := Lib.hid (HFS.out.below FieldR.stable M3.out.below)
                  go_wp2_with (at_builtin; refine wpList_append_vals _ rfl _ _ _ rfl W3.heap.size 59 i0 (.agg #[.int .u32 0, .string ByteArray.empty, .int .u8 0, .bool false]) 4 32 Try.underlying23 HI.out HZ0.out HZ1.out HZ2.out rfl (by decide) _ _ [] rfl (World.ownsRow_nil _ _ _ _) _ _ _ (s.fields.flatMap fldV) rfl (HFS3.out.liesF (by decide) fldV_len (fun _ _ hr => hr.1)) (flds_one s.fields) (by unfold maxLen; omega) (by omega) (Nat.le_refl _) (fun h => by cases h) ?_; intro v5 w5 hown5 hg5 hnil5; refine Hold.out ?_)
                  unfold Hold
                  rw [Nat.zero_add, List.nil_append] at hown5
                  have hb5 : Below W3.heap.size W3 w5 := (Below.refl _ _).grown (show W3.grownBy w5 none from hg5) (Nat.le_refl _) (fun k hk => by cases hk)
                  obtain ⟨a5, c5, rfl, _⟩ := own_slice hown5
                  have M5 := Lib.hid (M3.out.call hb5)
                  have X5 := Lib.hid (X3.out.call hb5)
                  have HO5 := Lib.hid hown5
                  have HSZ5 := Lib.hid hb5.size
                  clear hown5 hg5 hb5 q0_1 x1
                  have x1 : w5.cell? ⟨w2.heap.size, 1, none⟩ = some (.slice none 0 0) := X5.out.cell 1 rfl
                  have xs1 : ∀ j, w5.frozen? ⟨w2.heap.size, j, none⟩ = false := X5.out.soft
                  have z2 : w2.heap.size < w5.heap.size := X5.out.lt
                  go_upto_region 13 with fail
                  have hx6 := X5.out.set (j := 1) (by simp) (.slice a5 (m + 1) c5)
                  have hm6 := M5.out.setFar (p := ⟨w2.heap.size, 1, none⟩) (by have := M2.out.room; simpa using this) (.slice a5 (m + 1) c5)
                  have ho6 := ownF_set (p := ⟨w2.heap.size, 1, none⟩) HO5.out (X3.out.lt) (.slice a5 (m + 1) c5)
                  obtain ⟨W6, hWW⟩ : ∃ W : World, W = (w5.setCell ⟨w2.heap.size, 1, none⟩ (.slice a5 (m + 1) c5)) := ⟨_, rfl⟩
                  have hbz : W3.heap.size ≤ W6.heap.size := by rw [hWW]; simpa using HSZ5.out
                  rw [← hWW] at hx6 hm6 ho6 ⊢
                  clear hWW x1 xs1 z2
                  have M6 := Lib.hid hm6
                  have X6 := Lib.hid (show Box W6 w2.heap.size #[.int .u32 ((s.id : Int) + 1), .slice a5 (m + 1) c5] by simpa using hx6)
                  have HO6 := Lib.hid ho6
                  have HBB := Lib.hid (Below.refl W6.heap.size W6)
                  clear hm6 hx6 ho6
                  have x1 : W6.cell? ⟨w2.heap.size, 1, none⟩ = some (.slice a5 (m + 1) c5) := X6.out.cell 1 rfl
                  have h63 : m + 1 + 1 ≤ maxLen := by unfold maxLen; omega
                  have hby : (m + 1 + 1) * 32 ≤ 140737488355328 := by omega
                  have hbase : W3.heap.size ≤ (W6.alloc (.cells #[.int .u32 ((y.id : Int) + 1), .string name, .int .u8 k, .bool false] 59)).heap.size := by simp; omega
                  have hone : ∀ u ∈ ([.int .u32 ((y.id : Int) + 1), .string name, .int .u8 k, .bool false] : List Value), u.oneCell' = true := by simp [Value.oneCell']
                  have hcl : ∀ j u, ([.int .u32 ((y.id : Int) + 1), .string name, .int .u8 k, .bool false] : List Value)[j]? = some u → (W6.alloc (.cells #[.int .u32 ((y.id : Int) + 1), .string name, .int .u8 k, .bool false] 59)).cell? ((⟨W6.heap.size, 0, none⟩ : Addr).add j) = some u := fun j u hj => by
                    have := CellsAt.alloc_at W6 #[.int .u32 ((y.id : Int) + 1), .string name, .int .u8 k, .bool false] 59 W6.heap.size rfl j u (by simpa using hj)
                    rw [show ((⟨W6.heap.size, 0, none⟩ : Addr).add j) = ⟨W6.heap.size, j, none⟩ by (simp [Addr.add] <;> omega)]
                    exact this
                  have HBASE := Lib.hid hbase
                  have HONE := Lib.hid hone
                  have HCL := Lib.hid hcl
                  clear hbase hone hcl
                  go_wp2_with (at_builtin; refine wpList_append_lies _ rfl _ _ _ rfl W3.heap.size 59 i0 (.agg #[.int .u32 0, .string ByteArray.empty, .int .u8 0, .bool false]) 4 32 Try.underlying23 HI.out HZ0.out HZ1.out HZ2.out rfl (by decide) _ _ _ rfl (HO6.out.alloc _) ⟨W6.heap.size, 0, none⟩ 1 1 [.int .u32 ((y.id : Int) + 1), .string name, .int .u8 k, .bool false] rfl rfl HCL.out HONE.out (by decide) h63 hby HBASE.out _ rfl ?_; intro g cap w7 hown7 hgrow7 hat7 hglt7; refine Hold.out ?_)
                  unfold Hold
                  have hb7 : Below W3.heap.size W6 w7 := (((Below.refl _ _).alloc hbz (.cells #[.int .u32 ((y.id : Int) + 1), .string name, .int .u8 k, .bool false] 59)).grown hgrow7 HBASE.out (fun k hk => (HO6.out.lt k hk).1))
                  have hb7' : Below (w2.heap.size + 1) W6 w7 := hb7.mono X3.out.lt
                  have hx7 : Box w7 w2.heap.size #[.int .u32 ((s.id : Int) + 1), .slice a5 (m + 1) c5] := X6.out.below hb7' (Nat.lt_succ_self _)
                  have hm7' : Mem w.heap.size [#[.int .u32 (s.id : Int), .slice (some ⟨b, off, none⟩) (m + 1) fc], #[.int .u32 0, .slice none 0 0]] w w7 := by
                    have hr := M2.out.room
                    have hr' : w.heap.size + 2 ≤ w2.heap.size := by simpa using hr
                    refine ⟨M6.out.below.trans (hb7.mono ?_), fun i cs hi => (M6.out.cells i cs hi).below hb7' ?_, fun i cs hi => (M6.out.soft i cs hi).below hb7' ?_, Nat.le_trans M6.out.room hb7.size⟩
                    · have := X3.out.lt; omega
                    · have := lt_of_get hi; simp at this; omega
                    · have := lt_of_get hi; simp at this; omega
                  have M7 := Lib.hid hm7'
                  have X7 := Lib.hid hx7
                  have hfok : ∀ x ∈ s.fields ++ [(⟨y.id + 1, name, k.toNat, false⟩ : FieldD)], FieldR w7 (fldV x) x := fun x hx => by
                    rcases List.mem_append.1 hx with hx | hx
                    · obtain ⟨i, hi, rfl⟩ := List.getElem_of_mem hx
                      obtain ⟨_, _, x', cs', _, _, hx', _, hr', _⟩ := HFS.out.at_ (i := i) (by have := HFS.out.1; omega)
                      rw [List.getElem?_eq_getElem hi] at hx'
                      cases hx'
                      exact ⟨rfl, hr'.2⟩
                    · simp only [List.mem_singleton] at hx
                      subst hx
                      exact ⟨rfl, HNM.out, by show y.id + 1 < 2 ^ 32; omega, by show k.toNat < 256; omega⟩
                  have hkn : ((k.toNat : Nat) : Int) = k := Int.toNat_of_nonneg (by omega)
                  have hsl7 := own_sl (R := FieldR) (xs := s.fields ++ [(⟨y.id + 1, name, k.toNat, false⟩ : FieldD)]) (by decide) fldV_len hfok (by rw [List.flatMap_append, List.flatMap_singleton, show fldV (⟨y.id + 1, name, k.toNat, false⟩ : FieldD) = [.int .u32 (((y.id + 1 : Nat)) : Int), .string name, .int .u8 ((k.toNat : Nat) : Int), .bool false] from rfl, hkn]; simpa using hown7)
                  have hcap7 := own_slice hown7
                  have hab7 := ownF_above hown7
                  have HSL7 := Lib.hid hsl7
                  have HCAP7 := Lib.hid hcap7
                  have HAB7 := Lib.hid hab7
                  clear hb7 hb7' hx7 hm7' hfok hsl7 hcap7 hab7 hown7 hgrow7 hat7 x1
                  have x1 : w7.cell? ⟨w2.heap.size, 1, none⟩ = some (.slice a5 (m + 1) c5) := X7.out.cell 1 rfl
                  have xs1 : ∀ j, w7.frozen? ⟨w2.heap.size, j, none⟩ = false := X7.out.soft
                  have z2 : w2.heap.size < w7.heap.size := X7.out.lt
                  go_upto_region 14 with fail
                  have hx8 := X7.out.set (j := 1) (by simp) (.slice (some ⟨g, 0, none⟩) (m + 1 + 1) cap)
                  have hm8 := M7.out.setFar (p := ⟨w2.heap.size, 1, none⟩) (by have := M2.out.room; simpa using this) (.slice (some ⟨g, 0, none⟩) (m + 1 + 1) cap)
                  have hgne : g ≠ w2.heap.size := by have := (HAB7.out g 0 rfl).1; have := X3.out.lt; omega
                  have hsl8 := HSL7.out.setFarF (p := ⟨w2.heap.size, 1, none⟩) (fun w w' cs x h => h) (fun b off e => by cases e; exact hgne) (.slice (some ⟨g, 0, none⟩) (m + 1 + 1) cap)
                  obtain ⟨W8, hWW⟩ : ∃ W : World, W = (w7.setCell ⟨w2.heap.size, 1, none⟩ (.slice (some ⟨g, 0, none⟩) (m + 1 + 1) cap)) := ⟨_, rfl⟩
                  rw [← hWW] at hx8 hm8 hsl8 ⊢
                  clear hWW x1 xs1 z2
                  have M8 := Lib.hid hm8
                  have X8 := Lib.hid (show Box W8 w2.heap.size #[.int .u32 ((s.id : Int) + 1), .slice (some ⟨g, 0, none⟩) (m + 1 + 1) cap] by simpa using hx8)
                  have HSL8 := Lib.hid hsl8
                  clear hx8 hm8 hsl8
                  have x0 : W8.cell? ⟨w2.heap.size, 0, none⟩ = some (.int .u32 ((s.id : Int) + 1)) := X8.out.cell 0 rfl
                  have x1 : W8.cell? ⟨w2.heap.size, 1, none⟩ = some (.slice (some ⟨g, 0, none⟩) (m + 1 + 1) cap) := X8.out.cell 1 rfl
                  have z2 : w2.heap.size < W8.heap.size := X8.out.lt
                  have q1_0 : W8.cell? ⟨w.heap.size + 1, 0, none⟩ = some (.int .u32 0) := M8.out.cell 1 0 rfl rfl
                  have q1_1 : W8.cell? ⟨w.heap.size + 1, 1, none⟩ = some (.slice none 0 0) := M8.out.cell 1 1 rfl rfl
                  have g1 : ∀ j, W8.frozen? ⟨w.heap.size + 1, j, none⟩ = false := M8.out.frozen 1 rfl
                  have z0 : w.heap.size < W8.heap.size := M8.out.lt 0 (by simp)
                  have z1 : w.heap.size + 1 < W8.heap.size := M8.out.lt 1 (by simp)
                  have HG1 := Lib.hid (show w.heap.size + 1 ≠ g by have := (HAB7.out g 0 rfl).1; have := X3.out.lt; have hr := M2.out.room; simp at hr; omega)
                  go_wp2
                  refine bodyPost_ret (v := .tuple #[.agg #[.int .u32 ((s.id : Int) + 1), .slice (some ⟨g, 0, none⟩) (m + 1 + 1) cap], .int .i64 0]) (by simp [results, Try.results44, go_sem, q1_0, q1_1]) rfl ?_
                  rw [HS.out]
                  refine ⟨some ⟨g, 0, none⟩, m + 1 + 1, cap, by simp, ?_, ?_, ?_, (fun h => by cases h), by show s.id + 1 < 2 ^ 32; omega, fun b off h => ?_, ?_⟩
                  · refine (HSL8.out.setFarF (fun w w' cs x h => h) (fun b off e => ?_) _).setFarF (fun w w' cs x h => h) (fun b off e => ?_) _
                    · cases e; exact HG1.out.symm
                    · cases e; exact HG1.out.symm
                  · obtain ⟨_, _, hv, h1, _⟩ := HCAP7.out
                    simp only [Value.slice.injEq] at hv
                    obtain ⟨_, _, rfl⟩ := hv
                    exact h1
                  · obtain ⟨_, _, hv, _, h1, _⟩ := HCAP7.out
                    simp only [Value.slice.injEq] at hv
                    obtain ⟨_, _, rfl⟩ := hv
                    exact h1
                  · cases h
                    have := (HAB7.out g 0 rfl).1
                    have := M3.out.below.size
                    omega
                  · repeat (with_reducible refine Below.setCell ?_ (by first | exact Nat.le_refl _ | (simp; done) | omega | (simp; omega)) _)
                    exact M8.out.below
            · obtain rfl : R = 80 := by rw [← hR]; rw [if_pos rfl]
              rw [if_neg (by decide)] at hS
              have HS := Lib.hid hS.symm
              clear hR hS
              have q1_0 : w2.cell? ⟨w.heap.size + 1, 0, none⟩ = some (.int .u32 0) := M2.out.cell 1 0 rfl rfl
              have q1_1 : w2.cell? ⟨w.heap.size + 1, 1, none⟩ = some (.slice none 0 0) := M2.out.cell 1 1 rfl rfl
              have g1 : ∀ j, w2.frozen? ⟨w.heap.size + 1, j, none⟩ = false := M2.out.frozen 1 rfl
              go_wp2
              refine bodyPost_ret (v := .tuple #[.agg #[.int .u32 0, .slice none 0 0], .int .i64 80]) (by simp [results, Try.results44, go_sem, q1_0, q1_1]) rfl (AddPost.none_ HS.out ?_)
              repeat (with_reducible refine Below.setCell ?_ (by first | exact Nat.le_refl _ | (simp; done) | omega | (simp; omega)) _)
              exact M2.out.below
  · have hcb : (ce == 0) = false := by rw [beq_eq_false_iff_ne]; exact hce
    rw [if_pos hce] at hR
    subst hR
    rw [if_neg hce] at hS
    have HS := Lib.hid hS.symm
    clear hS hfl
    have q0_0 : w1.cell? ⟨w.heap.size, 0, none⟩ = some (.int .u32 (s.id : Int)) := M1.out.cell 0 0 rfl rfl
    have q0_1 : w1.cell? ⟨w.heap.size, 1, none⟩ = some (.slice fa fn fc) := M1.out.cell 0 1 rfl rfl
    have q1_0 : w1.cell? ⟨w.heap.size + 1, 0, none⟩ = some (.int .u32 0) := M1.out.cell 1 0 rfl rfl
    have q1_1 : w1.cell? ⟨w.heap.size + 1, 1, none⟩ = some (.slice none 0 0) := M1.out.cell 1 1 rfl rfl
    have g1 : ∀ j, w1.frozen? ⟨w.heap.size + 1, j, none⟩ = false := M1.out.frozen 1 rfl
    have z0 : w.heap.size < w1.heap.size := M1.out.lt 0 (by simp)
    have z1 : w.heap.size + 1 < w1.heap.size := M1.out.lt 1 (by simp)
    go_wp2
    refine bodyPost_ret (v := .tuple #[.agg #[.int .u32 0, .slice none 0 0], .int .i64 ce]) (by simp [results, Try.results44, go_sem, q1_0, q1_1]) rfl (AddPost.none_ HS.out ?_)
    repeat (with_reducible refine Below.setCell ?_ (by first | exact Nat.le_refl _ | (simp; done) | omega | (simp; omega)) _)
    exact M1.out.below
end Go.Proofs.Ytlclhinianamhaa
