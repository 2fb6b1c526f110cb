/- The program's schema.Add is the reference's. -/
import Derived.Test.YtlclhinianamhaaEvCheck
import Derived.Test.YtlclhinianamhaaAdd08
import Derived.Deep.RegionLaw
import Derived.Deep.RegionHeld3
import Derived.Deep.AppendLies
namespace Go.Proofs.Ytlclhinianamhaa
open Go.RowKit Go.Deep
set_option linter.unusedVariables false
set_option linter.unusedSimpArgs false

theorem own_leE {w : World} {base base' size n : Nat} {e : TypeId} {v : Value} {xs : List Value} (h : w.ownsRow base e size v n xs) (hb : base' ≤ base) : w.ownsRow base' e size v n xs :=
  ⟨h.1, h.2.imp id fun ⟨g, cap, cur, hv, hg, r⟩ => ⟨g, cap, cur, hv, Nat.le_trans hb hg, r⟩⟩
theorem below_litE {w w' : World} {o : Obj} (hg : (w.alloc o).grownBy w' (some w.heap.size)) : Below w.heap.size w w' := ((Below.refl _ _).alloc (Nat.le_refl _) o).grown hg (by simp) (fun k hk => by cases hk; exact Nat.le_refl _)
set_option maxRecDepth 100000 in
set_option maxHeartbeats 1000000 in
theorem clone_flds (a : Option Addr) (n c : Nat) (xs : List FieldD) (w : World) (h : Sl 4 FieldR w a n xs) (hn : n ≤ 100000) (hnil : a = none → c = 0) :
    Calls Try.prog 47 #[.slice a n c] w (fun e w' => ∃ v, e = .returned v ∧ w'.ownsRow w.heap.size 59 4 v n (xs.flatMap fldV) ∧ Below w.heap.size w w') := by
  have hl := h.1
  cases a with
  | none =>
    have hc0 := hnil rfl
    have hn0 : n = 0 := by
      rcases Nat.eq_zero_or_pos n with h0 | h0
      · exact h0
      · obtain ⟨_, _, e, _⟩ := h.2 h0; cases e
    subst hc0 hn0
    have hx : xs = [] := List.eq_nil_of_length_eq_zero hl
    subst hx
    have hq := fun W : World => Lib.run_eql_slice_nil (P := Try.prog) W 23 59 none 0 0 0 0 Try.underlying23
    go_enter Try.func47, Try.ntmps47
    go_wp2
    go_ret
    exact ⟨_, rfl, World.ownsRow_nil _ _ _ _, Below.refl _ _⟩
  | some ad =>
    obtain ⟨i0, hi0, hz0, hz1, hz2⟩ := info_parts infoFld
    have hq := fun W : World => Lib.run_eql_slice_nil (P := Try.prog) W 23 59 (some ad) n c 0 0 Try.underlying23
    have HI := Lib.hid hi0
    have HZ0 := Lib.hid hz0
    have HZ1 := Lib.hid hz1
    have HZ2 := Lib.hid hz2
    have HH := Lib.hid h
    clear hi0 hz0 hz1 hz2 h hl hnil
    go_enter Try.func47, Try.ntmps47
    go_wp2_with (at_builtin; refine wpList_append_vals _ rfl _ _ _ rfl w.heap.size 59 i0 (.agg #[.int .u32 0, .string ByteArray.empty, .int .u8 0, .bool false]) 4 32 Try.underlying23 HI.out HZ0.out HZ1.out HZ2.out rfl (by decide) _ _ [] rfl (World.ownsRow_lit w #[] 0 (Nat.le_refl _) (by decide) rfl) _ _ _ (xs.flatMap fldV) rfl ((HH.out.alloc FieldR.stable _).liesF (by decide) fldV_len (fun _ _ hr => hr.1)) (flds_one xs) (by unfold maxLen; omega) (by omega) (by simp) (fun h => by cases h) ?_; intro v w1 hown hg _; have ho1 := Lib.hid hown; have hg1 := Lib.hid hg; clear hown hg)
    go_ret
    exact ⟨_, rfl, by have := ho1.out; rw [Nat.zero_add] at this; exact this, below_litE hg1.out⟩
theorem sadd1 (cs : List Value) (f : FieldD) (name : ByteArray) (g : Nat) (w : World) (h : FieldR w cs f) (hg : g < w.heap.size) (hc : w.cell? ⟨g, 0, none⟩ = some (.string name)) :
    Calls Try.prog 61 #[.agg cs.toArray, .pointer (some ⟨g, 0, none⟩)] w (BoolIs (nameIs name f) w) := by
  obtain ⟨rfl, _⟩ := h
  unfold nameIs
  by_cases hid : f.name = name
  · have hb : (f.name.toList == name.toList) = true := by rw [hid]; simp
    rw [show decide (f.name = name) = true by simp [hid]]
    clear hid
    go_enter Try.func61, Try.ntmps61
    go_wp2
    go_ret
    exact ⟨rfl, (Below.refl _ _).alloc (Nat.le_refl _) _⟩
  · have hb := bytes_ne hid
    rw [show decide (f.name = name) = false by simp [hid]]
    clear hid
    go_enter Try.func61, Try.ntmps61
    go_wp2
    go_ret
    exact ⟨rfl, (Below.refl _ _).alloc (Nat.le_refl _) _⟩
set_option maxRecDepth 100000 in
set_option maxHeartbeats 16000000 in
theorem add_calls (cs : List Value) (s : SchemaD) (name : ByteArray) (k : Nat) (w : World) (hs : SchemaR w cs s) (hnm : name.size ≤ maxLen) (hk : k < 256) :
    Calls Try.prog 41 #[.agg cs.toArray, .string name, .int .u8 (k : Int)] w (AddPost (addE s name (k : Int)) (addS s name (k : Int)) w) := by
  have HSC := Lib.hid hs
  obtain ⟨fa, fn, fc, rfl, hs1, hs2, hs3, hfs, hs4⟩ := hs
  have HFS := Lib.hid hfs
  have HFC := Lib.hid hs3
  have HNM := Lib.hid hnm
  obtain ⟨i0, hi0, hz0, hz1, hz2⟩ := info_parts infoFld
  have HI := Lib.hid hi0
  have HZ0 := Lib.hid hz0
  have HZ1 := Lib.hid hz1
  have HZ2 := Lib.hid hz2
  obtain ⟨R, hR⟩ : ∃ R, addE s name (k : Int) = R := ⟨_, rfl⟩
  obtain ⟨S, hS⟩ : ∃ S, addS s name (k : Int) = S := ⟨_, rfl⟩
  rw [hR, hS]
  unfold addS at hS
  rw [hR] at hS
  unfold addE at hR
  have hfl := schemaChk_len (s := s)
  have hchk := fun W (h : SchemaR W [.int .u32 (s.id : Int), .slice fa fn fc] s) => check_calls _ s W h
  have HCHK := Lib.hid hchk
  generalize schemaChk s = ce at *
  clear hi0 hz0 hz1 hz2 hs3 hfs hs2 hnm hchk
  go_enter Try.func41, Try.ntmps41
  go_wp2_with fail
  obtain ⟨W0, hWW⟩ : ∃ W0 : World, W0 = (((w.alloc (.cells #[.int .u32 (s.id : Int), .slice fa fn fc] 25)).alloc (.cells #[.string name] 9)).alloc (.cells #[.int .u32 0, .slice none 0 0] 25)) := ⟨_, rfl⟩
  have hm : Mem w.heap.size [#[.int .u32 (s.id : Int), .slice fa fn fc], #[.string name], #[.int .u32 0, .slice none 0 0]] w W0 := by rw [hWW]; exact ((((Mem.nil w).push (by simp) #[.int .u32 (s.id : Int), .slice fa fn fc] 25).push (by simp) #[.string name] 9).push (by simp) #[.int .u32 0, .slice none 0 0] 25)
  rw [← hWW]
  clear hWW
  have M0 := Lib.hid hm
  clear hm
  refine (HCHK.out _ (SchemaR.stable _ _ _ _ M0.out.below HSC.out)).mono ?_
  rintro e w1 ⟨rfl, hb⟩
  have M1 := Lib.hid (M0.out.call hb)
  clear hb
  have z0 : w.heap.size < w1.heap.size := M1.out.lt 0 (by simp)
  have z1 : w.heap.size + 1 < w1.heap.size := M1.out.lt 1 (by simp)
  have z2 : w.heap.size + 1 + 1 < w1.heap.size := M1.out.lt 2 (by simp)
  by_cases hce : ce = 0
  · subst hce
    obtain ⟨hf1, hf8⟩ := hfl rfl
    have hfn : s.fields.length = fn := HFS.out.1
    rw [hfn] at hf1 hf8
    rw [if_neg (by simp), hfn] at hR
    obtain ⟨m, rfl⟩ : ∃ m, fn = m + 1 := ⟨fn - 1, by omega⟩
    obtain ⟨b, off, y, yv, rfl, hbl, hy, hcl, hr, hcell⟩ := HFS.out.at_ (i := m) (by omega)
    obtain ⟨rfl, hy1, hy2, hy3⟩ := hr
    have hlast : lastId s = y.id := by unfold lastId; rw [hfn, Nat.add_sub_cancel, hy]; rfl
    rw [hlast] at hR
    have HLAST := Lib.hid hlast
    have e0 := M1.out.old (p := ⟨b, off + m * 4 + 0, none⟩) hbl (hcell 0 _ rfl)
    have e1 := M1.out.old (p := ⟨b, off + m * 4 + 1, none⟩) hbl (hcell 1 _ rfl)
    have e2 := M1.out.old (p := ⟨b, off + m * 4 + 2, none⟩) hbl (hcell 2 _ rfl)
    have e3 := M1.out.old (p := ⟨b, off + m * 4 + 3, none⟩) hbl (hcell 3 _ rfl)
    rw [Nat.add_zero] at e0
    have hmi : (((m + 1 : Nat) : Int) - 1) = (m : Int) := by omega
    have hmw : IntKind.i64.wrap (((m + 1 : Nat) : Int) - 1) = (m : Int) := by rw [IntWalk.i64_in _ (by omega)]; exact hmi
    have hm7 : (m : Int) ≤ 7 := by omega
    clear hfl hcell hcl hy hlast hfn
    have y1 : (y.id : Int) ≤ 4294967295 := by omega
    have q0_0 : w1.cell? ⟨w.heap.size, 0, none⟩ = some (.int .u32 (s.id : Int)) := M1.out.cell 0 0 rfl rfl
    have q0_1 : w1.cell? ⟨w.heap.size, 1, none⟩ = some (.slice (some ⟨b, off, none⟩) (m + 1) fc) := M1.out.cell 0 1 rfl rfl
    have q1_0 : w1.cell? ⟨w.heap.size + 1, 0, none⟩ = some (.string name) := M1.out.cell 1 0 rfl rfl
    go_upto_region 5 with fail
    obtain ⟨W2, hWW⟩ : ∃ W : World, W = w1.alloc (.cells #[.int .u32 (y.id : Int), .string y.name, .int .u8 (y.kind : Int), .bool y.need] 59) := ⟨_, rfl⟩
    have hb2 : Below w1.heap.size w1 W2 := by rw [hWW]; exact (Below.refl _ _).alloc (Nat.le_refl _) _
    have hy2' : Box W2 w1.heap.size #[.int .u32 (y.id : Int), .string y.name, .int .u8 (y.kind : Int), .bool y.need] := by rw [hWW]; exact Box.new _ _ _
    rw [← hWW]
    clear hWW
    have M2 := Lib.hid (M1.out.call hb2)
    have Y2 := Lib.hid hy2'
    have HRM := Lib.hid M1.out.room
    clear hb2 hy2' q0_0 q0_1 q1_0 z0 z1 z2 e0 e1 e2 e3 M1
    have z0 : w.heap.size < W2.heap.size := M2.out.lt 0 (by simp)
    have z1 : w.heap.size + 1 < W2.heap.size := M2.out.lt 1 (by simp)
    have z2 : w.heap.size + 1 + 1 < W2.heap.size := M2.out.lt 2 (by simp)
    have q0_0 : W2.cell? ⟨w.heap.size, 0, none⟩ = some (.int .u32 (s.id : Int)) := M2.out.cell 0 0 rfl rfl
    have q0_1 : W2.cell? ⟨w.heap.size, 1, none⟩ = some (.slice (some ⟨b, off, none⟩) (m + 1) fc) := M2.out.cell 0 1 rfl rfl
    have q1_0 : W2.cell? ⟨w.heap.size + 1, 0, none⟩ = some (.string name) := M2.out.cell 1 0 rfl rfl
    have x0 : W2.cell? ⟨w1.heap.size, 0, none⟩ = some (.int .u32 (y.id : Int)) := Y2.out.cell 0 rfl
    by_cases h8 : m + 1 = 8
    · obtain rfl : m = 7 := by omega
      obtain rfl : R = 4 := by rw [← hR]; rw [if_pos (Or.inl rfl)]
      rw [if_neg (by decide)] at hS
      have HS := Lib.hid hS.symm
      clear hR hS
      have q2_0 : W2.cell? ⟨w.heap.size + 1 + 1, 0, none⟩ = some (.int .u32 0) := M2.out.cell 2 0 rfl rfl
      have q2_1 : W2.cell? ⟨w.heap.size + 1 + 1, 1, none⟩ = some (.slice none 0 0) := M2.out.cell 2 1 rfl rfl
      have g2 : ∀ j, W2.frozen? ⟨w.heap.size + 1 + 1, j, none⟩ = false := M2.out.frozen 2 rfl
      go_wp2
      refine bodyPost_ret (v := .tuple #[.agg #[.int .u32 0, .slice none 0 0], .int .i64 4]) (by simp [results, Try.results41, go_sem, q2_0, q2_1]) rfl (AddPost.none_ HS.out ?_)
      repeat (with_reducible refine Below.setCell ?_ (by first | exact Nat.le_refl _ | (simp; done) | omega | (simp; omega)) _)
      repeat (with_reducible refine Below.alloc ?_ (by first | exact Nat.le_refl _ | exact M2.out.below.size | (simp; done) | omega | (simp; omega)) _)
      exact M2.out.below
    · have h8b : (((m + 1 : Nat) : Int)) < 8 := by omega
      have h8c : ((m : Int) + 1) < 8 := by omega
      by_cases hyl : y.id = 4294967295
      · have hylb : ((y.id : Int) == 4294967295) = true := by rw [beq_iff_eq]; omega
        obtain rfl : R = 4 := by rw [← hR]; rw [if_pos (Or.inr (Or.inl hyl))]
        rw [if_neg (by decide)] at hS
        have HS := Lib.hid hS.symm
        clear hR hS
        have q2_0 : W2.cell? ⟨w.heap.size + 1 + 1, 0, none⟩ = some (.int .u32 0) := M2.out.cell 2 0 rfl rfl
        have q2_1 : W2.cell? ⟨w.heap.size + 1 + 1, 1, none⟩ = some (.slice none 0 0) := M2.out.cell 2 1 rfl rfl
        have g2 : ∀ j, W2.frozen? ⟨w.heap.size + 1 + 1, j, none⟩ = false := M2.out.frozen 2 rfl
        go_wp2
        refine bodyPost_ret (v := .tuple #[.agg #[.int .u32 0, .slice none 0 0], .int .i64 4]) (by simp [results, Try.results41, go_sem, q2_0, q2_1]) rfl (AddPost.none_ HS.out ?_)
        repeat (with_reducible refine Below.setCell ?_ (by first | exact Nat.le_refl _ | (simp; done) | omega | (simp; omega)) _)
        repeat (with_reducible refine Below.alloc ?_ (by first | exact Nat.le_refl _ | exact M2.out.below.size | (simp; done) | omega | (simp; omega)) _)
        exact M2.out.below
      · have hylb : ((y.id : Int) == 4294967295) = false := by rw [beq_eq_false_iff_ne]; omega
        by_cases hsl : s.id = 4294967295
        · have hslb : ((s.id : Int) == 4294967295) = true := by rw [beq_iff_eq]; omega
          obtain rfl : R = 4 := by rw [← hR]; rw [if_pos (Or.inr (Or.inr hsl))]
          rw [if_neg (by decide)] at hS
          have HS := Lib.hid hS.symm
          clear hR hS
          have q2_0 : W2.cell? ⟨w.heap.size + 1 + 1, 0, none⟩ = some (.int .u32 0) := M2.out.cell 2 0 rfl rfl
          have q2_1 : W2.cell? ⟨w.heap.size + 1 + 1, 1, none⟩ = some (.slice none 0 0) := M2.out.cell 2 1 rfl rfl
          have g2 : ∀ j, W2.frozen? ⟨w.heap.size + 1 + 1, j, none⟩ = false := M2.out.frozen 2 rfl
          go_wp2
          refine bodyPost_ret (v := .tuple #[.agg #[.int .u32 0, .slice none 0 0], .int .i64 4]) (by simp [results, Try.results41, go_sem, q2_0, q2_1]) rfl (AddPost.none_ HS.out ?_)
          repeat (with_reducible refine Below.setCell ?_ (by first | exact Nat.le_refl _ | (simp; done) | omega | (simp; omega)) _)
          repeat (with_reducible refine Below.alloc ?_ (by first | exact Nat.le_refl _ | exact M2.out.below.size | (simp; done) | omega | (simp; omega)) _)
          exact M2.out.below
        · have hslb : ((s.id : Int) == 4294967295) = false := by rw [beq_eq_false_iff_ne]; omega
          have s1 : (s.id : Int) ≤ 4294967294 := by omega
          have y2 : (y.id : Int) ≤ 4294967294 := by omega
          rw [if_neg (by omega)] at hR
          have hnmd := fun W => named_calls name W HNM.out
          unfold NamedPost at hnmd
          have HNMD := Lib.hid hnmd
          have hha := has_any s.fields (m + 1) name
          rw [List.take_of_length_le (by have := HFS.out.1; omega)] at hha
          have HHA := Lib.hid hha
          generalize namedB name = nb at *
          generalize hasB s.fields (m + 1) name = hb_ at *
          clear hnmd hha
          go_wp2_with fail
          refine (HNMD.out _).mono ?_
          rintro e w2 ⟨rfl, hb⟩
          have M3 := Lib.hid (M2.out.call hb)
          have Y3 := Lib.hid (Y2.out.call hb)
          clear hb q0_0 q0_1 q1_0 z0 z1 z2 x0
          have z0 : w.heap.size < w2.heap.size := M3.out.lt 0 (by simp)
          have z1 : w.heap.size + 1 < w2.heap.size := M3.out.lt 1 (by simp)
          have z2 : w.heap.size + 1 + 1 < w2.heap.size := M3.out.lt 2 (by simp)
          have q0_1 : w2.cell? ⟨w.heap.size, 1, none⟩ = some (.slice (some ⟨b, off, none⟩) (m + 1) fc) := M3.out.cell 0 1 rfl rfl
          cases nb
          · obtain rfl : R = 80 := by rw [← hR]; rw [if_pos rfl]
            rw [if_neg (by decide)] at hS
            have HS := Lib.hid hS.symm
            clear hR hS
            have q2_0 : w2.cell? ⟨w.heap.size + 1 + 1, 0, none⟩ = some (.int .u32 0) := M3.out.cell 2 0 rfl rfl
            have q2_1 : w2.cell? ⟨w.heap.size + 1 + 1, 1, none⟩ = some (.slice none 0 0) := M3.out.cell 2 1 rfl rfl
            have g2 : ∀ j, w2.frozen? ⟨w.heap.size + 1 + 1, j, none⟩ = false := M3.out.frozen 2 rfl
            go_wp2
            refine bodyPost_ret (v := .tuple #[.agg #[.int .u32 0, .slice none 0 0], .int .i64 80]) (by simp [results, Try.results41, go_sem, q2_0, q2_1]) rfl (AddPost.none_ HS.out ?_)
            repeat (with_reducible refine Below.setCell ?_ (by first | exact Nat.le_refl _ | (simp; done) | omega | (simp; omega)) _)
            repeat (with_reducible refine Below.alloc ?_ (by first | exact Nat.le_refl _ | exact M3.out.below.size | (simp; done) | omega | (simp; omega)) _)
            exact M3.out.below
          · rw [if_neg (by simp)] at hR
            go_wp2_with fail
            refine (contains_field 61 _ (by intro args W; kernel_rfl) _ _ _ s.fields (nameIs name) w2 (HFS.out.below FieldR.stable M3.out.below) (by omega) (fun W cs x hb hr _ => sadd1 cs x name _ W hr ((M3.out.call hb).lt 1 (by simp)) ((M3.out.call hb).cell 1 0 rfl rfl))).mono ?_
            rw [← HHA.out]
            rintro e w3 ⟨rfl, hb⟩
            have M4 := Lib.hid (M3.out.call hb)
            have Y4 := Lib.hid (Y3.out.call hb)
            clear hb q0_1 z0 z1 z2
            have z0 : w.heap.size < w3.heap.size := M4.out.lt 0 (by simp)
            have z1 : w.heap.size + 1 < w3.heap.size := M4.out.lt 1 (by simp)
            have z2 : w.heap.size + 1 + 1 < w3.heap.size := M4.out.lt 2 (by simp)
            cases hb_
            · rw [if_neg (by simp)] at hR
              go_wp2_with fail
              refine (right_calls k _).mono ?_
              rintro e w4 ⟨rfl, hw4⟩
              subst hw4
              cases hrk : (decide (1 ≤ k) && decide (k ≤ 3))
              · obtain rfl : R = 10 := by
                  rw [← hR]
                  by_cases h1 : (k : Int) < 1
                  · rw [if_pos h1]
                  · rw [if_neg h1, if_pos]
                    have : 1 ≤ k := by omega
                    have h3 : ¬ k ≤ 3 := by simpa [this] using hrk
                    omega
                clear hrk
                rw [if_neg (by decide)] at hS
                have HS := Lib.hid hS.symm
                clear hR hS
                have q2_0 : w4.cell? ⟨w.heap.size + 1 + 1, 0, none⟩ = some (.int .u32 0) := M4.out.cell 2 0 rfl rfl
                have q2_1 : w4.cell? ⟨w.heap.size + 1 + 1, 1, none⟩ = some (.slice none 0 0) := M4.out.cell 2 1 rfl rfl
                have g2 : ∀ j, w4.frozen? ⟨w.heap.size + 1 + 1, j, none⟩ = false := M4.out.frozen 2 rfl
                go_wp2
                refine bodyPost_ret (v := .tuple #[.agg #[.int .u32 0, .slice none 0 0], .int .i64 10]) (by simp [results, Try.results41, go_sem, q2_0, q2_1]) rfl (AddPost.none_ HS.out ?_)
                repeat (with_reducible refine Below.setCell ?_ (by first | exact Nat.le_refl _ | (simp; done) | omega | (simp; omega)) _)
                repeat (with_reducible refine Below.alloc ?_ (by first | exact Nat.le_refl _ | exact M4.out.below.size | (simp; done) | omega | (simp; omega)) _)
                exact M4.out.below
              · obtain rfl : R = 0 := by
                  simp only [Bool.and_eq_true, decide_eq_true_eq] at hrk
                  rw [← hR, if_neg (by omega), if_neg (by omega)]
                clear hrk
                rw [if_pos rfl, HLAST.out] at hS
                have HS := Lib.hid hS.symm
                clear hS hR
                go_upto_region 11 with fail
                have hS : ∀ W, Below w4.heap.size w4 W → W.cell? ⟨w.heap.size, 1, none⟩ = some (.slice (some ⟨b, off, none⟩) (m + 1) fc) ∧ W.cell? ⟨w1.heap.size, 0, none⟩ = some (.int .u32 (y.id : Int)) ∧ W.cell? ⟨w.heap.size + 1, 0, none⟩ = some (.string name) := fun W h => ⟨(M4.out.call h).cell 0 1 rfl rfl, (Y4.out.call h).cell 0 rfl, (M4.out.call h).cell 1 0 rfl rfl⟩
                have HSS := Lib.hid hS
                have HZW := Lib.hid M4.out.below.size
                have hyw : IntKind.u32.wrap ((y.id : Int) + 1) = (y.id : Int) + 1 := IntWalk.u32_in _ (by omega)
                have hsw : IntKind.u32.wrap ((s.id : Int) + 1) = (s.id : Int) + 1 := IntWalk.u32_in _ (by omega)
                clear hS z0 z1 z2
                go_region_held3 (fun W => W.cell? ⟨w.heap.size, 1, none⟩ = some (.slice (some ⟨b, off, none⟩) (m + 1) fc) ∧ W.cell? ⟨w1.heap.size, 0, none⟩ = some (.int .u32 (y.id : Int)) ∧ W.cell? ⟨w.heap.size + 1, 0, none⟩ = some (.string name))
                  (first | exact HSS.out _ K7.out | (refine HSS.out _ ?_; (repeat (first | exact Below.refl _ _ | (with_reducible refine Below.drew ?_) | (with_reducible refine Below.alloc ?_ (by first | exact Nat.le_refl _ | exact K5.out.size | (simp; done) | (have := K5.out.size; simp; omega) | (simp; omega)) _) | (with_reducible exact K5.out)))))
                  (first
                    | (go_at_call 47; (with_reducible refine (clone_flds (some ⟨b, off, none⟩) (m + 1) fc s.fields _ (HFS.out.below FieldR.stable (Mem.below (Mem.call M4.out (by (repeat (first | exact Below.refl _ _ | (with_reducible refine Below.drew ?_) | (with_reducible refine Below.alloc ?_ (by first | exact Nat.le_refl _ | exact K5.out.size | (simp; done) | (have := K5.out.size; simp; omega) | (simp; omega)) _) | (with_reducible exact K5.out))))))) (by omega) (fun h => by cases h)).mono ?_); rintro e w5 ⟨v5, rfl, hown5, hp5⟩; have k5 := below_step (W0 := w4) (by (repeat (first | exact Below.refl _ _ | (with_reducible refine Below.drew ?_) | (with_reducible refine Below.alloc ?_ (by first | exact Nat.le_refl _ | exact K5.out.size | (simp; done) | (have := K5.out.size; simp; omega) | (simp; omega)) _) | (with_reducible exact K5.out)))) hp5; have K5 := Lib.hid k5; obtain ⟨a5, c5, rfl, hc5⟩ := own_slice hown5; have HO5 := Lib.hid (own_leE (base' := w4.heap.size) hown5 (by first | exact Nat.le_refl _ | (simp; done) | (simp; omega))); have HP5 := Lib.hid hp5; clear hp5 k5 hown5 hc5)
                    | (refine step_append_lies _ (by rfl) _ _ _ (by rfl) w4.heap.size 59 i0 (.agg #[.int .u32 0, .string ByteArray.empty, .int .u8 0, .bool false]) 4 32 Try.underlying23 HI.out HZ0.out HZ1.out HZ2.out rfl (by decide) _ (m + 1) _ (by rfl) (by first | exact HO5.out | exact (HO5.out.alloc _) | exact (HO5.out.alloc _).drew | exact (HO5.out.drew.alloc _) | exact HO5.out.drew) ⟨w5.heap.size, 0, none⟩ 1 1 [.int .u32 ((y.id : Int) + 1), .string name, .int .u8 (k : Int), .bool false] (by rfl) (by rfl) (by first | exact World.news_of_block (cs := #[.int .u32 ((y.id : Int) + 1), .string name, .int .u8 (k : Int), .bool false]) (t := 59) (fr := (0, 0)) (heap_alloc_new w5 _)) (by simp [Value.oneCell']) (by decide) (by unfold maxLen; omega) (by omega) (by have := K5.out.size; simp; omega) (w5.heap.size + 1) (by simp) ?_; intro g cap w7 hown7 hgrow7 hat7 hglt7; have K7 := Lib.hid (show Below w4.heap.size w4 w7 from Below.grown (by (repeat (first | exact Below.refl _ _ | (with_reducible refine Below.drew ?_) | (with_reducible refine Below.alloc ?_ (by first | exact Nat.le_refl _ | exact K5.out.size | (simp; done) | (have := K5.out.size; simp; omega) | (simp; omega)) _) | (with_reducible exact K5.out)))) hgrow7 (by have := K5.out.size; simp; omega) (fun k hk => (HO5.out.lt k hk).1)); have HO7 := Lib.hid hown7; clear hown7 hgrow7 hat7 hglt7)
                    | (refine step_append_lies _ (by rfl) _ _ _ (by rfl) w4.heap.size 59 i0 (.agg #[.int .u32 0, .string ByteArray.empty, .int .u8 0, .bool false]) 4 32 Try.underlying23 HI.out HZ0.out HZ1.out HZ2.out rfl (by decide) _ (m + 1) _ (by rfl) (by first | exact HO5.out | exact (HO5.out.alloc _) | exact (HO5.out.alloc _).drew | exact (HO5.out.drew.alloc _) | exact HO5.out.drew) ⟨w4.heap.size, 0, none⟩ 1 1 [.int .u32 ((y.id : Int) + 1), .string name, .int .u8 (k : Int), .bool false] (by rfl) (by rfl) (by exact World.news_of_block (cs := #[.int .u32 ((y.id : Int) + 1), .string name, .int .u8 (k : Int), .bool false]) (t := 59) (fr := (0, 0)) ((HP5.out.block w4.heap.size (by simp)).trans (heap_alloc_new _ _))) (by simp [Value.oneCell']) (by decide) (by unfold maxLen; omega) (by omega) (by have := K5.out.size; simp; omega) _ rfl ?_; intro g cap w7 hown7 hgrow7 hat7 hglt7; have K7 := Lib.hid (show Below w4.heap.size w4 w7 from Below.grown (by (repeat (first | exact Below.refl _ _ | (with_reducible refine Below.drew ?_) | (with_reducible refine Below.alloc ?_ (by first | exact Nat.le_refl _ | exact K5.out.size | (simp; done) | (have := K5.out.size; simp; omega) | (simp; omega)) _) | (with_reducible exact K5.out)))) hgrow7 (by have := K5.out.size; simp; omega) (fun k hk => (HO5.out.lt k hk).1)); have HO7 := Lib.hid hown7; clear hown7 hgrow7 hat7 hglt7)
                    | fail)
                all_goals
                  have M7 := Lib.hid (M4.out.call K7.out)
                  have HB7 := Lib.hid (show w4.heap.size ≤ w7.heap.size from K7.out.size)
                  have hfok : ∀ x ∈ s.fields ++ [(⟨y.id + 1, name, k, false⟩ : FieldD)], FieldR w7 (fldV x) x := fun x hx => by
                    rcases List.mem_append.1 hx with hx | hx
                    · obtain ⟨i, hi, rfl⟩ := List.getElem_of_mem hx
                      obtain ⟨_, _, x', cs', _, _, hx', _, hr', _⟩ := HFS.out.at_ (i := i) (by have := HFS.out.1; omega)
                      rw [List.getElem?_eq_getElem hi] at hx'
                      cases hx'
                      exact ⟨rfl, hr'.2⟩
                    · simp only [List.mem_singleton] at hx
                      subst hx
                      exact ⟨rfl, HNM.out, by show y.id + 1 < 2 ^ 32; omega, by show k < 256; omega⟩
                  have hsl7 := own_sl (R := FieldR) (xs := s.fields ++ [(⟨y.id + 1, name, k, false⟩ : FieldD)]) (by decide) fldV_len hfok (by rw [List.flatMap_append, List.flatMap_singleton, show fldV (⟨y.id + 1, name, k, false⟩ : FieldD) = [.int .u32 ((y.id : Int) + 1), .string name, .int .u8 (k : Int), .bool false] from rfl]; exact HO7.out)
                  have hab7 := ownF_above HO7.out
                  have HSL7 := Lib.hid hsl7
                  have HAB7 := Lib.hid hab7
                  have HCAP7 := Lib.hid (own_slice HO7.out)
                  clear hsl7 hab7 hfok
                  have q0_0 : w7.cell? ⟨w.heap.size, 0, none⟩ = some (.int .u32 (s.id : Int)) := M7.out.cell 0 0 rfl rfl
                  have q2_0 : w7.cell? ⟨w.heap.size + 1 + 1, 0, none⟩ = some (.int .u32 0) := M7.out.cell 2 0 rfl rfl
                  have q2_1 : w7.cell? ⟨w.heap.size + 1 + 1, 1, none⟩ = some (.slice none 0 0) := M7.out.cell 2 1 rfl rfl
                  have g2 : ∀ j, w7.frozen? ⟨w.heap.size + 1 + 1, j, none⟩ = false := M7.out.frozen 2 rfl
                  have z0 : w.heap.size < w7.heap.size := M7.out.lt 0 (by simp)
                  have z2 : w.heap.size + 1 + 1 < w7.heap.size := M7.out.lt 2 (by simp)
                  have HG2 := Lib.hid (show w.heap.size + 1 + 1 ≠ g by have := (HAB7.out g 0 rfl).1; have hr := M4.out.room; simp at hr; omega)
                  go_wp2
                  refine bodyPost_ret (v := .tuple #[.agg #[.int .u32 ((s.id : Int) + 1), .slice (some ⟨g, 0, none⟩) (m + 1 + 1) cap], .int .i64 0]) (by simp [results, Try.results41, go_sem, q2_0, q2_1]) rfl ?_
                  rw [HS.out]
                  refine ⟨some ⟨g, 0, none⟩, m + 1 + 1, cap, by simp, ?_, ?_, ?_, (fun h => by cases h), by show s.id + 1 < 2 ^ 32; omega, fun b off h => ?_, ?_⟩
                  · rw [Int.toNat_natCast]
                    refine (HSL7.out.setFarF (fun w w' cs x h => h) (fun b off e => ?_) _).setFarF (fun w w' cs x h => h) (fun b off e => ?_) _
                    · cases e; exact HG2.out.symm
                    · cases e; exact HG2.out.symm
                  · obtain ⟨_, _, hv, h1, _⟩ := HCAP7.out
                    simp only [Value.slice.injEq] at hv
                    obtain ⟨_, _, rfl⟩ := hv
                    exact h1
                  · obtain ⟨_, _, hv, _, h1, _⟩ := HCAP7.out
                    simp only [Value.slice.injEq] at hv
                    obtain ⟨_, _, rfl⟩ := hv
                    exact h1
                  · cases h
                    have := (HAB7.out g 0 rfl).1
                    have := HZW.out
                    omega
                  · repeat (with_reducible refine Below.setCell ?_ (by first | exact Nat.le_refl _ | (simp; done) | omega | (simp; omega)) _)
                    exact M7.out.below
            · obtain rfl : R = 80 := by rw [← hR]; rw [if_pos rfl]
              rw [if_neg (by decide)] at hS
              have HS := Lib.hid hS.symm
              clear hR hS
              have q2_0 : w3.cell? ⟨w.heap.size + 1 + 1, 0, none⟩ = some (.int .u32 0) := M4.out.cell 2 0 rfl rfl
              have q2_1 : w3.cell? ⟨w.heap.size + 1 + 1, 1, none⟩ = some (.slice none 0 0) := M4.out.cell 2 1 rfl rfl
              have g2 : ∀ j, w3.frozen? ⟨w.heap.size + 1 + 1, j, none⟩ = false := M4.out.frozen 2 rfl
              go_wp2
              refine bodyPost_ret (v := .tuple #[.agg #[.int .u32 0, .slice none 0 0], .int .i64 80]) (by simp [results, Try.results41, go_sem, q2_0, q2_1]) rfl (AddPost.none_ HS.out ?_)
              repeat (with_reducible refine Below.setCell ?_ (by first | exact Nat.le_refl _ | (simp; done) | omega | (simp; omega)) _)
              repeat (with_reducible refine Below.alloc ?_ (by first | exact Nat.le_refl _ | exact M4.out.below.size | (simp; done) | omega | (simp; omega)) _)
              exact M4.out.below
  · obtain rfl : R = ce := by rw [← hR]; rw [if_pos hce]
    have hceb : (R == 0) = false := by rw [beq_eq_false_iff_ne]; exact hce
    rw [if_neg hce] at hS
    have HS := Lib.hid hS.symm
    clear hR hS hce hfl
    have q2_0 : w1.cell? ⟨w.heap.size + 1 + 1, 0, none⟩ = some (.int .u32 0) := M1.out.cell 2 0 rfl rfl
    have q2_1 : w1.cell? ⟨w.heap.size + 1 + 1, 1, none⟩ = some (.slice none 0 0) := M1.out.cell 2 1 rfl rfl
    have g2 : ∀ j, w1.frozen? ⟨w.heap.size + 1 + 1, j, none⟩ = false := M1.out.frozen 2 rfl
    go_wp2
    refine bodyPost_ret (v := .tuple #[.agg #[.int .u32 0, .slice none 0 0], .int .i64 R]) (by simp [results, Try.results41, go_sem, q2_0, q2_1]) rfl (AddPost.none_ HS.out ?_)
    repeat (with_reducible refine Below.setCell ?_ (by first | exact Nat.le_refl _ | (simp; done) | omega | (simp; omega)) _)
    exact M1.out.below
end Go.Proofs.Ytlclhinianamhaa
