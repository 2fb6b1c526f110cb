/- catchmentlaw22.alive: the document's example holds. -/
import Derived.Test.YtlclhinianamhaaEvEx
namespace Go.Proofs.Ytlclhinianamhaa
open Go.RowKit Go.Deep
set_option linter.unusedVariables false
set_option linter.unusedSimpArgs false

theorem sl_litE (w : World) (xs : List CellD) (cs : Array Value) (h : cs.toList = xs.flatMap cellV) (hg : ∀ c ∈ xs, CellB c) (hl : xs.length ≤ 1000) : Sl 3 CellR (w.alloc (.cells cs 30)) (some ⟨w.heap.size, 0, none⟩) xs.length xs := by
  have hs : cs.size = xs.length * 3 := by rw [← Array.length_toList, h, flat_len cellV_len]
  have ho := World.ownsRow_lit (base := 0) (e := 30) (size := 3) w cs xs.length (Nat.zero_le _) (by unfold maxLen; omega) hs
  rw [h] at ho
  exact own_sl (R := CellR) (by decide) cellV_len (fun c hc => ⟨rfl, hg c hc⟩) ho
theorem evR_of {w : World} {e : EventD} {a : Option Addr} {n c : Nat} (h : Sl 3 CellR w a n e.row) (h1 : n ≤ c) (h2 : c ≤ maxLen) (h3 : a = none → c = 0) (ho : e.offset < 2 ^ 64) (hop : e.op < 256) (hk : CellB e.key) (hn : e.name.size ≤ maxLen) (hkd : e.kind < 256) : EventR w (e.cells (.slice a n c)) e :=
  ⟨a, n, c, rfl, h1, h2, h3, h, ho, hop, hk, hn, hkd⟩
theorem cellB_c7 : CellB c7E := ⟨by decide, by decide, by decide⟩
theorem cellB_ca : CellB caE := ⟨by decide, by decide, by decide⟩
theorem cellB_z : CellB zeroCell := ⟨by decide, by decide, by decide⟩
theorem two_of {w w' : World} {b bm H : Nat} (h : ButS (Two b bm) w.heap.size w w') (hb : H ≤ b) (hm : H ≤ bm) (hH : H ≤ w.heap.size) : Below H w w' :=
  ⟨h.os, h.tape, h.output, h.size, fun k hk => h.block k (by omega) (fun e => by rcases e with rfl | rfl <;> omega)⟩
theorem own_butS {S : Nat → Prop} {w w' : World} {B size n : Nat} {e : TypeId} {v : Value} {xs : List Value} (h : w.ownsRow B e size v n xs) (hb : ButS S w.heap.size w w') (hS : ∀ k, S k → k < B) : w'.ownsRow B e size v n xs := by
  refine ⟨h.1, ?_⟩
  rcases h.2 with hn | ⟨g, cap, cur, rfl, hg, hgg, rest⟩
  · exact .inl hn
  · exact .inr ⟨g, cap, cur, rfl, hg, by rw [hb.block g (Array.getElem?_eq_some_iff.1 hgg).1 (fun hs => by have := hS g hs; omega)]; exact hgg, rest⟩
theorem RowsV.butS {S : Nat → Prop} {w w' : World} {B : Nat} {v : Value} {acc : List VPair} (h : RowsV w B v acc) (hb : ButS S w.heap.size w w') (hS : ∀ k, S k → k < B) : RowsV w' B v acc := fun q hq => ⟨own_butS (h q hq).1 hb hS, (h q hq).2⟩
theorem two_lt {w : World} {b bm : Nat} {x : StD} (h : ImpSt (Two b bm) w b bm x) : ∀ k, Two b bm k → k < w.heap.size := by
  obtain ⟨_, _, _, _, h⟩ := h
  exact h.slt
theorem good_of_rows {L : List VPair} {l : List (List CellD)} (h : L.map cellsOfV = l) (hl : ∀ r ∈ l, r.length ≤ 1000) (hc : ∀ r ∈ l, ∀ c ∈ r, CellB c) : ∀ q ∈ L, GoodRow q := fun q hq => by
  have hm : cellsOfV q ∈ l := by rw [← h]; exact List.mem_map.2 ⟨q, hq, rfl⟩
  refine ⟨by have := hl _ hm; unfold cellsOfV at this; rw [List.length_map] at this; exact this, fun d hd => hc _ hm _ (List.mem_map.2 ⟨d, hd, rfl⟩)⟩
theorem flat_sndV (L : List VPair) : L.flatMap (fun q : VPair => [q.2]) = L.map Prod.snd := by induction L <;> simp_all
theorem own_vpairs {w : World} {B n c : Nat} {ad : Option Addr} {L : List VPair} (h : w.ownsRow B 61 1 (.slice ad n c) n (L.map Prod.snd)) : Sl 1 VPairV w ad n L :=
  own_sl (f := fun q : VPair => [q.2]) (by decide) (fun _ => rfl) (fun x _ => rfl) (by rw [flat_sndV]; exact h)
theorem pairs_lit (w : World) (P : List Pair) (cs : Array Value) (h : cs.toList = P.map Prod.snd) (hl : P.length ≤ 1000) : Sl 1 PairV (w.alloc (.cells cs 27)) (some ⟨w.heap.size, 0, none⟩) P.length P := by
  have hs : cs.size = P.length * 1 := by rw [← Array.length_toList, h, List.length_map, Nat.mul_one]
  have ho := World.ownsRow_lit (base := 0) (e := 27) (size := 1) w cs P.length (Nat.zero_le _) (by unfold maxLen; omega) hs
  rw [h] at ho
  exact own_pairs ho
set_option maxRecDepth 100000 in
set_option maxHeartbeats 8000000 in
theorem alive_callsE (w : World) : Calls Try.prog 9 #[] w (BoolIs true w) := by
  have HTW := Lib.hid two_callsE
  have HWH := Lib.hid whole_callsE
  go_enter Try.func9, Try.ntmps9
  go_wp2_with fail
  refine (HTW.out _).mono ?_
  rintro e w1 ⟨a, rfl, hs1, hb1⟩
  have HB1 := Lib.hid hb1
  clear hb1
  go_wp2_with fail
  refine (inew _ twoE _ hs1).mono ?_
  rintro e w2 ⟨hb2, hnew⟩
  rcases hnew with ⟨h, _⟩ | ⟨_, b, bm, rfl, hbl, hbml, hst⟩
  · exact absurd chk_two h
  have HB2 := Lib.hid (HB1.out.trans (hb2.mono HB1.out.size))
  have hbw : w.heap.size ≤ b := Nat.le_trans HB1.out.size hbl
  have hbmw : w.heap.size ≤ bm := Nat.le_trans HB1.out.size hbml
  have HST2 := Lib.hid (show ImpSt (Two b bm) w2 b bm st0 from hst)
  clear hb2 hst hbl hbml hs1
  go_wp2_with fail
  refine (HWH.out 7 _).mono ?_
  rintro e w3 ⟨rfl, hb3⟩
  have HB3 := Lib.hid (HB2.out.trans (hb3.mono HB2.out.size))
  have HST3 := Lib.hid (HST2.out.call hb3)
  clear hb3
  go_wp2_with fail
  -- STEPS
  have hsl4 := sl_litE w3 [c7E, caE] #[.int .u8 1, .int .i64 7, .string ByteArray.empty, .int .u8 3, .int .i64 0, .string ⟨#[97]⟩] rfl (by intro c hc; simp at hc; rcases hc with rfl | rfl <;> first | exact cellB_c7 | exact cellB_ca | exact cellB_z) (by decide)
  have hal4 : Below w3.heap.size w3 (w3.alloc (.cells #[.int .u8 1, .int .i64 7, .string ByteArray.empty, .int .u8 3, .int .i64 0, .string ⟨#[97]⟩] 30)) := (Below.refl _ _).alloc (Nat.le_refl _) _
  refine (ido_calls (Two b bm) b bm st0 (ev1.cells (.slice (some ⟨w3.heap.size, 0, none⟩) 2 2)) ev1 _ (HST3.out.call hal4) (evR_of (e := ev1) hsl4 (Nat.le_refl _) (by decide) (fun h => by cases h) (by decide) (by decide) cellB_z (by decide) (by decide)) (by decide) (by decide) (by decide)).mono ?_
  rintro e w4 ⟨he4, hst4, hbu4⟩
  rw [do1] at he4
  subst he4
  rw [go1] at hst4
  have HB4 := Lib.hid ((HB3.out.trans (hal4.mono HB3.out.size)).trans (two_of hbu4 hbw hbmw (Nat.le_trans HB3.out.size hal4.size)))
  have HST4 := Lib.hid hst4
  clear hsl4 hal4 hst4 hbu4
  go_wp2_with fail
  refine (HWH.out 7 _).mono ?_
  rintro e w5 ⟨rfl, hb5⟩
  have HB5 := Lib.hid (HB4.out.trans (hb5.mono HB4.out.size))
  have HST5 := Lib.hid (HST4.out.call hb5)
  clear hb5
  go_wp2_with fail
  have hsl6 := sl_litE w5 [c7E, zeroCell] #[.int .u8 1, .int .i64 7, .string ByteArray.empty, .int .u8 0, .int .i64 0, .string ⟨#[]⟩] rfl (by intro c hc; simp at hc; rcases hc with rfl | rfl <;> first | exact cellB_c7 | exact cellB_ca | exact cellB_z) (by decide)
  have hal6 : Below w5.heap.size w5 (w5.alloc (.cells #[.int .u8 1, .int .i64 7, .string ByteArray.empty, .int .u8 0, .int .i64 0, .string ⟨#[]⟩] 30)) := (Below.refl _ _).alloc (Nat.le_refl _) _
  refine (ido_calls (Two b bm) b bm st1 (ev2.cells (.slice (some ⟨w5.heap.size, 0, none⟩) 2 2)) ev2 _ (HST5.out.call hal6) (evR_of (e := ev2) hsl6 (Nat.le_refl _) (by decide) (fun h => by cases h) (by decide) (by decide) cellB_z (by decide) (by decide)) (by decide) (by decide) (by decide)).mono ?_
  rintro e w6 ⟨he6, hst6, hbu6⟩
  rw [do2] at he6
  subst he6
  rw [go2] at hst6
  have HB6 := Lib.hid ((HB5.out.trans (hal6.mono HB5.out.size)).trans (two_of hbu6 hbw hbmw (Nat.le_trans HB5.out.size hal6.size)))
  have HST6 := Lib.hid hst6
  clear hsl6 hal6 hst6 hbu6
  go_wp2_with fail
  refine (HWH.out 7 _).mono ?_
  rintro e w7 ⟨rfl, hb7⟩
  have HB7 := Lib.hid (HB6.out.trans (hb7.mono HB6.out.size))
  have HST7 := Lib.hid (HST6.out.call hb7)
  clear hb7
  go_wp2_with fail
  have hsl8 := sl_litE w7 [c7E, zeroCell] #[.int .u8 1, .int .i64 7, .string ByteArray.empty, .int .u8 0, .int .i64 0, .string ⟨#[]⟩] rfl (by intro c hc; simp at hc; rcases hc with rfl | rfl <;> first | exact cellB_c7 | exact cellB_ca | exact cellB_z) (by decide)
  have hal8 : Below w7.heap.size w7 (w7.alloc (.cells #[.int .u8 1, .int .i64 7, .string ByteArray.empty, .int .u8 0, .int .i64 0, .string ⟨#[]⟩] 30)) := (Below.refl _ _).alloc (Nat.le_refl _) _
  refine (ido_calls (Two b bm) b bm st1 (ev3.cells (.slice (some ⟨w7.heap.size, 0, none⟩) 2 2)) ev3 _ (HST7.out.call hal8) (evR_of (e := ev3) hsl8 (Nat.le_refl _) (by decide) (fun h => by cases h) (by decide) (by decide) cellB_z (by decide) (by decide)) (by decide) (by decide) (by decide)).mono ?_
  rintro e w8 ⟨he8, hst8, hbu8⟩
  rw [do3] at he8
  subst he8
  rw [go3] at hst8
  have HB8 := Lib.hid ((HB7.out.trans (hal8.mono HB7.out.size)).trans (two_of hbu8 hbw hbmw (Nat.le_trans HB7.out.size hal8.size)))
  have HST8 := Lib.hid hst8
  clear hsl8 hal8 hst8 hbu8
  go_wp2_with fail
  have hal9 : Below w8.heap.size w8 w8 := Below.refl _ _
  refine (ido_calls (Two b bm) b bm st3 (ev4.cells (.slice none 0 0)) ev4 _ (HST8.out.call hal9) (evR_of (e := ev4) (Sl.nil_ CellR 3 _) (Nat.le_refl _) (by decide) (fun _ => rfl) (by decide) (by decide) cellB_z (by decide) (by decide)) (by decide) (by decide) (by decide)).mono ?_
  rintro e w9 ⟨he9, hst9, hbu9⟩
  rw [do4] at he9
  subst he9
  rw [go4] at hst9
  have HB9 := Lib.hid ((HB8.out.trans (hal9.mono HB8.out.size)).trans (two_of hbu9 hbw hbmw (Nat.le_trans HB8.out.size hal9.size)))
  have HST9 := Lib.hid hst9
  clear  hal9 hst9 hbu9
  go_wp2_with fail
  refine (irows (Two b bm) b bm st4 _ HST9.out (by decide) (by decide) (by simp [RisesK, st4])).mono ?_
  rintro e w10 ⟨v5, L, rfl, hown5, hL5, hrv5, hb10⟩
  have hlen5 : L.length = 1 := by have := congrArg List.length hL5; rw [List.length_map] at this; exact this
  obtain ⟨a5, c5, rfl, hc5⟩ := own_slice hown5
  have HB10 := Lib.hid (HB9.out.trans (hb10.mono HB9.out.size))
  have hst10 : ImpSt (Two b bm) w10 b bm st4 := HST9.out.call hb10
  have HTB := Lib.hid (show ∀ k, Two b bm k → k < w9.heap.size from two_lt HST9.out)
  have HST10 := Lib.hid hst10
  rw [hlen5] at hown5
  have HL5 := Lib.hid hL5
  have LO10 := Lib.hid hown5
  have LV10 := Lib.hid hrv5
  have HGR := Lib.hid (good_of_rows hL5 (by decide) (by intro r hr; simp [st4] at hr; subst hr; intro c hc; simp at hc; rcases hc with rfl | rfl <;> first | exact cellB_c7 | exact cellB_z))
  rw [hlen5] at LV10 ⊢
  clear hown5 hL5 hrv5 hb10 hst10 hc5 hlen5
  go_wp2_with fail
  refine (HWH.out 7 _).mono ?_
  rintro e w11 ⟨rfl, hb11⟩
  have HB11 := Lib.hid (HB10.out.trans (hb11.mono HB10.out.size))
  have HST11 := Lib.hid (HST10.out.call hb11)
  have LO11 := Lib.hid (own_below LO10.out hb11)
  have LV11 := Lib.hid (LV10.out.below hb11)
  clear hb11
  go_wp2_with fail
  refine (ido_calls (Two b bm) b bm st4 (ev5.cells (.slice none 0 0)) ev5 _ HST11.out (evR_of (e := ev5) (Sl.nil_ CellR 3 _) (Nat.le_refl _) (by decide) (fun _ => rfl) (by decide) (by decide) cellB_c7 (by decide) (by decide)) (by decide) (by decide) (by decide)).mono ?_
  rintro e w12 ⟨he12, hst12, hbu12⟩
  rw [do5] at he12
  subst he12
  rw [go5] at hst12
  have HB12 := Lib.hid (HB11.out.trans (two_of hbu12 hbw hbmw HB11.out.size))
  have HST12 := Lib.hid hst12
  have LO12 := Lib.hid (own_butS LO11.out hbu12 HTB.out)
  have LV12 := Lib.hid (LV11.out.butS hbu12 HTB.out)
  clear hst12 hbu12
  go_wp2_with fail
  refine (HWH.out 7 _).mono ?_
  rintro e w13 ⟨rfl, hb13⟩
  have HB13 := Lib.hid (HB12.out.trans (hb13.mono HB12.out.size))
  have HST13 := Lib.hid (HST12.out.call hb13)
  have LO13 := Lib.hid (own_below LO12.out hb13)
  have LV13 := Lib.hid (LV12.out.below hb13)
  clear hb13
  go_wp2_with fail
  have hsl := sl_litE w13 [c7E, zeroCell, zeroCell] #[.int .u8 1, .int .i64 7, .string ByteArray.empty, .int .u8 0, .int .i64 0, .string ⟨#[]⟩, .int .u8 0, .int .i64 0, .string ⟨#[]⟩] rfl (by intro c hc; simp at hc; rcases hc with rfl | rfl <;> first | exact cellB_c7 | exact cellB_z) (by decide)
  have hal1 : Below w13.heap.size w13 (w13.alloc (.cells #[.int .u8 1, .int .i64 7, .string ByteArray.empty, .int .u8 0, .int .i64 0, .string ⟨#[]⟩, .int .u8 0, .int .i64 0, .string ⟨#[]⟩] 30)) := (Below.refl _ _).alloc (Nat.le_refl _) _
  generalize hWa : w13.alloc (.cells #[.int .u8 1, .int .i64 7, .string ByteArray.empty, .int .u8 0, .int .i64 0, .string ⟨#[]⟩, .int .u8 0, .int .i64 0, .string ⟨#[]⟩] 30) = Wa at hsl hal1 ⊢
  have hal2 : Below Wa.heap.size Wa (Wa.alloc (.cells #[.slice (some ⟨w13.heap.size, 0, none⟩) 3 3] 27)) := (Below.refl _ _).alloc (Nat.le_refl _) _
  have hsz : Wa.heap.size = w13.heap.size + 1 := by rw [← hWa]; simp
  have hal := hal1.trans (hal2.mono hal1.size)
  have hps := pairs_lit Wa [(([c7E, zeroCell, zeroCell], .slice (some ⟨w13.heap.size, 0, none⟩) 3 3) : Pair)] #[.slice (some ⟨w13.heap.size, 0, none⟩) 3 3] rfl (by simp)
  have hlo := own_below LO13.out hal
  have hlv := LV13.out.below hal
  have HIS := Lib.hid (lawIs a5 (some ⟨Wa.heap.size, 0, none⟩) 1 c5 1 1 L [(([c7E, zeroCell, zeroCell], .slice (some ⟨w13.heap.size, 0, none⟩) 3 3) : Pair)] _ (own_vpairs hlo) hlv.reads HGR.out (by decide) hps (fun q hq => by simp at hq; subst hq; exact ⟨_, 3, 3, rfl, hsl.below CellR.stable hal2⟩) (fun q hq => by simp at hq; subst hq; simp))
  rw [HL5.out, show decide (st4.l = List.map Prod.fst [(([c7E, zeroCell, zeroCell], .slice (some ⟨w13.heap.size, 0, none⟩) 3 3) : Pair)]) = true from decide_eq_true rfl] at HIS
  have HBA := Lib.hid (HB13.out.trans (hal.mono HB13.out.size))
  have HSA := Lib.hid (HST13.out.call hal)
  rw [hsz] at HIS
  clear hsl hal1 hal2 hps hlo hlv hal
  subst hWa
  refine (HIS.out).mono ?_
  rintro e w14 ⟨rfl, hb14⟩
  have HB14 := Lib.hid (HBA.out.trans (hb14.mono HBA.out.size))
  have HST14 := Lib.hid (HSA.out.call hb14)
  clear hb14
  go_wp2_with fail
  refine (irows (Two b bm) b bm st5 _ HST14.out (by decide) (by decide) List.Pairwise.nil).mono ?_
  rintro e w15 ⟨v6, L6, rfl, hown6, hL6, hrv6, hb15⟩
  have hlen6 : L6.length = 0 := by have := congrArg List.length hL6; rw [List.length_map] at this; exact this
  obtain ⟨a6, c6, rfl, hc6⟩ := own_slice hown6
  have HB15 := Lib.hid (HB14.out.trans (hb15.mono HB14.out.size))
  have HST15 := Lib.hid (HST14.out.call hb15)
  rw [hlen6]
  clear hown6 hL6 hrv6 hb15 hc6 hlen6
  go_wp2_with fail
  refine (ioffset (Two b bm) b bm st5 _ HST15.out).mono ?_
  rintro e w' ⟨rfl, rfl⟩
  go_wp2
  go_ret
  exact ⟨rfl, HB15.out⟩
end Go.Proofs.Ytlclhinianamhaa
