/- Plain: what is packed is unpacked, and the other way round; append of a slice of numbers. -/
import Derived.Test.YtfcejeopfodeoaaTold
namespace Go.Proofs.Ytfcejeopfodeoaa
open Go.RowKit Classical

theorem getD_getElem (l : List Nat) (i : Nat) (h : i < l.length) : l.getD i 0 = l[i] := by simp [List.getD, h]
theorem unpacked_of_packed {xs bs : List Nat} {d : Nat} (hx : ∀ x ∈ xs, x < 2 ^ d) (hu : Upto xs d (xs.length * d) bs) : Unpacked bs d xs := by
  intro j hj r
  by_cases hr : r < d
  · rw [hu.2, bitAt_in xs d j r hr]
    have : j * d + r < xs.length * d := by
      have h : (j + 1) * d ≤ xs.length * d := Nat.mul_le_mul_right _ hj
      rw [Nat.succ_mul] at h; omega
    simp [hr, this]
  · have hlt := hx _ (getD_mem xs j hj)
    have hp : 2 ^ d ≤ 2 ^ r := Nat.pow_le_pow_right (by decide) (by omega)
    rw [Nat.testBit_lt_two_pow (by omega)]; simp [hr]
theorem packed_of_unpacked {xs bs : List Nat} {d : Nat} (hd : 0 < d) (hb : ∀ b ∈ bs, b < 256) (hu : Unpacked bs d xs) (ht : ¬ Tail bs (xs.length * d)) : Upto xs d (xs.length * d) bs := by
  refine ⟨hb, fun q => ?_⟩
  by_cases hq : q < xs.length * d
  · have hj : q / d < xs.length := Nat.div_lt_of_lt_mul (by rw [Nat.mul_comm]; exact hq)
    have hr : q % d < d := Nat.mod_lt _ hd
    have e := hu (q / d) hj (q % d)
    have hqd : q / d * d + q % d = q := by rw [Nat.mul_comm]; exact Nat.div_add_mod q d
    rw [hqd] at e
    simp only [hr, decide_true, Bool.true_and] at e
    simp only [hq, decide_true, Bool.true_and]
    unfold bitAt
    exact e.symm
  · have : bitOf bs q = false := by
      cases hbq : bitOf bs q
      · rfl
      · exact absurd ⟨q, by omega, hbq⟩ ht
    rw [this]; simp [hq]
theorem back1 {xs : List Nat} {d : Nat} (hxb : ∀ x ∈ xs, x < 2 ^ 64) (hok : packOk xs d = true) (hlen : (packedL xs d).length = (xs.length * d + 7) / 8) (hu : Upto xs d (xs.length * d) (packedL xs d)) :
    unpErr (packedL xs d) xs.length d = 0 ∧ unpackedL (packedL xs d) xs.length d = xs := by
  simp only [packOk, decide_eq_true_eq] at hok
  obtain ⟨h0, h64, h256, hw⟩ := hok
  have hxd := (wide_le xs d (by omega) hxb).1 (by omega)
  have ht : ¬ Tail (packedL xs d) (xs.length * d) := by
    rintro ⟨q, h1, h2⟩
    rw [hu.2] at h2
    simp at h2; omega
  have he : unpErr (packedL xs d) xs.length d = 0 := unpErr_ok (by omega) (by simp only [Int.toNat_natCast]; exact fun hh => hh.elim (fun h => h hlen) ht)
  refine ⟨he, ?_⟩
  unfold unpackedL
  rw [if_pos he]
  simp only [Int.toNat_natCast]
  exact unpacked_eq rfl (unpacked_of_packed hxd hu)
theorem back2 {bs : List Nat} {n d : Nat} (hb : ∀ b ∈ bs, b < 256) (hd : 0 < d) (he : unpErr bs n d = 0) (hu : Unpacked bs d (unpackedL bs n d)) (hl : (unpackedL bs n d).length = n) (hx : ∀ x ∈ unpackedL bs n d, x < 2 ^ 64) :
    packOk (unpackedL bs n d) d = true ∧ packedL (unpackedL bs n d) d = bs := by
  generalize unpackedL bs n d = xs at *
  have h1 : ¬ ((n : Int) < 0 ∨ 256 < (n : Int) ∨ (d : Int) < 0 ∨ 64 < (d : Int)) := fun h => by rw [unpErr_arg h] at he; cases he
  have h2 : ¬ (bs.length ≠ (n * d + 7) / 8 ∨ Tail bs (n * d)) := fun h => by
    rw [unpErr_form h1 (by simpa using h)] at he; cases he
  have hlen : bs.length = (n * d + 7) / 8 := Classical.not_not.1 fun h => h2 (.inl h)
  have ht : ¬ Tail bs (n * d) := fun h => h2 (.inr h)
  have hok : packOk xs d = true := by
    simp only [packOk, decide_eq_true_eq]
    have := (wide_le xs d (by omega) hx).2 hu.lt
    omega
  refine ⟨hok, ?_⟩
  unfold packedL
  rw [if_pos hok]
  simp only [Int.toNat_natCast]
  exact packed_eq (by rw [hl]; exact hlen) (packed_of_unpacked hd hb hu (by rw [hl]; exact ht))

/-- 'append(s, x...)': onto a row of the call's own, numbers that lie somewhere. -/
theorem wpList_append_nums {P : Program} (w : World) {ops : Array Oper} {rest : List Oper} {o : Oper} {a : Act} {Q : Exit → Act → World → Prop} (hgd : o.guard = none) (s x : Operand) (t : TypeId)
    (ho : o.op = .call { callee := .builtin .append, args := #[s, x], argTypes := #[t, t] })
    (B : Nat) (e : TypeId) (i : TypeInfo) (z : Value) (k : IntKind) (bytes : Nat) (ht : P.underlying t = some (.slice e)) (hi : P.info? e = some i) (hz : i.zero = some z)
    (hsize : i.size = 1) (hby : i.bytes = bytes) (hzs : z.cells.size = 1)
    (v : Value) (n0 : Nat) (xs0 : List Nat) (hs : a.eval s = v) (hown : w.ownsRow B e 1 v n0 (numsV k xs0))
    (ad : Option Addr) (n c : Nat) (xs : List Nat) (hx : a.eval x = .slice ad n c) (hn : Nums k w ad n xs) (h63 : n0 + n ≤ maxLen) (hbytes : (n0 + n) * bytes ≤ 140737488355328) (hbase : B ≤ w.heap.size) (hnil : ad = none → c = 0)
    (h : ∀ v' w', w'.ownsRow B e 1 v' (n0 + n) (numsV k (xs0 ++ xs)) → w.grownBy w' v.ownBlock → wpList P ops Q rest (a.put o.dst v') w') : wpList P ops Q (o :: rest) a w := by
  refine wpList_plain hgd fun K hK => ?_
  have hvv : numsV k (xs0 ++ xs) = numsV k xs0 ++ numsV k xs := by simp [numsV]
  have key : ∃ v' w', (Builtin.append_ #[t, t] o.type #[v, .slice ad n c]).run P w = .ok v' w' ∧ w'.ownsRow B e 1 v' (n0 + n) (numsV k (xs0 ++ xs)) ∧ w.grownBy w' v.ownBlock := by
    rw [hvv]
    cases ad with
    | none =>
      have hn0 : n = 0 := by
        rcases Nat.eq_zero_or_pos n with h0 | h0
        · exact h0
        · obtain ⟨_, _, e, _⟩ := hn.2 h0; cases e
      have hx0 : xs = [] := List.eq_nil_of_length_eq_zero (by rw [hn.1]; exact hn0)
      have hc0 := hnil rfl
      subst hn0 hx0 hc0
      exact ⟨v, w, run_append_owned_none (P := P) w B t o.type e i 1 ht hi v n0 _ hown, by simpa [numsV] using hown, ⟨rfl, rfl, rfl, Nat.le_refl _, fun _ _ _ => rfl⟩⟩
    | some ad =>
      obtain ⟨v', w', hr, h2, h3, _⟩ := run_append_own (P := P) w B t o.type e i z 1 bytes ht hi hz hsize hby hzs (by decide) v n0 _ hown ad n c (numsV k xs) (by rw [numsV_length, hn.1, Nat.mul_one])
        (fun j u hj => by
          have hjl : j < xs.length := by
            rcases Nat.lt_or_ge j xs.length with h | h
            · exact h
            · rw [List.getElem?_eq_none (by rw [numsV_length]; exact h)] at hj; cases hj
          obtain ⟨b, off, e, _, hc⟩ := hn.2 (by have := hn.1; omega)
          cases e
          have hplain : (⟨b, off, none⟩ : Addr).add j = ⟨b, off + j, none⟩ := by unfold Addr.add; split <;> simp_all
          rw [hplain, hc j (by have := hn.1; omega)]
          rw [numsV_get k xs j hjl] at hj
          exact hj)
        (fun u hu => by
          unfold numsV at hu
          obtain ⟨y, _, rfl⟩ := List.mem_map.1 hu
          rfl) h63 hbytes hbase
      exact ⟨v', w', hr, h2, h3⟩
  obtain ⟨v', w', hr, h2, h3⟩ := key
  unfold Oper.wp execOp
  simp only [ho, resolve, invoke, builtin, Sem.run_bind, Sem.run_pure, Result.andThen_ok, List.map_toArray, List.map_cons, List.map_nil, hs, hx, hr]
  exact hK _ _ (h v' w' h2 h3)
theorem own_nums {w : World} {B e n : Nat} {k : IntKind} {v : Value} {xs : List Nat} (h : w.ownsRow B e 1 v n (numsV k xs)) : ∃ ad c, v = .slice ad n c ∧ Nums k w ad n xs := by
  rcases h.2 with ⟨rfl, rfl⟩ | ⟨g, cap, cur, rfl, _⟩
  · exact ⟨none, 0, rfl, Nums.of_own h⟩
  · exact ⟨_, cap, rfl, Nums.of_own h⟩
theorem below_lit {v1 v2 : World} {cs : Array Value} {e : Nat} (hg : (v1.alloc (.cells cs e)).grownBy v2 (Value.slice (some ⟨v1.heap.size, 0, none⟩) 0 0).ownBlock) : Below v1.heap.size v1 v2 :=
  ((Below.refl _ _).alloc (Nat.le_refl _) _).grown hg (by simp) (by intro k hk; simp [Value.ownBlock] at hk; omega)
end Go.Proofs.Ytfcejeopfodeoaa
