/- octet.Int, octet.GetInt, octet.Row. -/
import Derived.Test.YtljfloopjgpaeabDoorVD
namespace Go.Proofs.YtljfloopjgpaeabDoor
set_option linter.unusedVariables false
set_option linter.unusedSimpArgs false
open Go.RowKit
attribute [local go_sem] Oper.semAt_some
set_option maxRecDepth 100000
/-- A number with a sign as one without. -/
def zig (v : Int) : Nat := if 0 ≤ v then (2 * v).toNat else (-2 * v - 1).toNat
def zag (n : Nat) : Int := if n % 2 = 0 then ((n / 2 : Nat) : Int) else -((n / 2 : Nat) : Int) - 1
theorem zig_zag (v : Int) : zag (zig v) = v := by
  unfold zig zag
  split <;> split <;> omega
theorem zag_zig (n : Nat) : zig (zag n) = n := by
  unfold zig zag
  split <;> split <;> omega
theorem xor_ones (a : Nat) (h : a < 18446744073709551616) : a ^^^ 18446744073709551615 = 18446744073709551615 - a := by
  have h1 : (BitVec.ofNat 64 a ^^^ BitVec.allOnes 64).toNat = a ^^^ 18446744073709551615 := by
    rw [BitVec.toNat_xor, BitVec.toNat_ofNat, BitVec.toNat_allOnes, Nat.mod_eq_of_lt (by simpa using h)]
  rw [← h1, BitVec.xor_allOnes, BitVec.toNat_not, BitVec.toNat_ofNat, Nat.mod_eq_of_lt (by simpa using h)]
theorem zigE {v : Int} (h1 : -9223372036854775808 ≤ v) (h2 : v ≤ 9223372036854775807) : bits .xor .u64 (IntKind.u64.wrap (IntKind.u64.wrap v * 2)) (IntKind.u64.wrap (v / 9223372036854775808)) = (zig v : Int) := by
  by_cases h : 0 ≤ v
  · have e1 : IntKind.u64.wrap (IntKind.u64.wrap v * 2) = (((2 * v).toNat : Nat) : Int) := by rw [IntKind.wrap_u64, IntKind.wrap_u64]; omega
    have e2 : IntKind.u64.wrap (v / 9223372036854775808) = ((0 : Nat) : Int) := by rw [IntKind.wrap_u64]; omega
    rw [e1, e2, u64_xor_nat _ _ (by omega) (by decide), Nat.xor_zero, zig, if_pos h]
  · have e1 : IntKind.u64.wrap (IntKind.u64.wrap v * 2) = (((2 * v + 18446744073709551616).toNat : Nat) : Int) := by rw [IntKind.wrap_u64, IntKind.wrap_u64]; omega
    have e2 : IntKind.u64.wrap (v / 9223372036854775808) = ((18446744073709551615 : Nat) : Int) := by rw [IntKind.wrap_u64]; omega
    rw [e1, e2, u64_xor_nat _ _ (by omega) (by decide), xor_ones _ (by omega), zig, if_neg h]
    omega
theorem zagE {v : Nat} (h : v < 18446744073709551616) : bits .xor .i64 (IntKind.i64.wrap ((v : Int) / 2)) (IntKind.i64.wrap (-IntKind.i64.wrap (bits .and .u64 (v : Int) 1))) = zag v := by
  have e0 : bits .and .u64 (v : Int) 1 = ((v % 2 : Nat) : Int) := by
    have := u64_and_nat v 1 h (by decide)
    rw [Nat.and_one_is_mod] at this
    exact this
  have e1 : IntKind.i64.wrap ((v : Int) / 2) = ((v / 2 : Nat) : Int) := by rw [IntWalk.i64_in _ (by omega)]; omega
  rw [e0, e1]
  have hx : ∀ b : Int, bits .xor .i64 ((v / 2 : Nat) : Int) b = IntKind.i64.wrap ((BitVec.ofInt 64 ((v / 2 : Nat) : Int) ^^^ BitVec.ofInt 64 b).toNat : Int) := fun b => rfl
  have ho : BitVec.ofInt 64 ((v / 2 : Nat) : Int) = BitVec.ofNat 64 (v / 2) := BitVec.ofInt_natCast ..
  rcases Nat.mod_two_eq_zero_or_one v with h0 | h0
  · rw [h0, zag, if_pos h0, hx, ho]
    have e2 : BitVec.ofInt 64 (IntKind.i64.wrap (-IntKind.i64.wrap ((0 : Nat) : Int))) = 0#64 := by decide
    rw [e2, BitVec.xor_zero, BitVec.toNat_ofNat, Nat.mod_eq_of_lt (by omega), IntWalk.i64_in _ (by omega)]
  · rw [h0, zag, if_neg (by omega), hx, ho]
    have e2 : BitVec.ofInt 64 (IntKind.i64.wrap (-IntKind.i64.wrap ((1 : Nat) : Int))) = BitVec.allOnes 64 := by decide
    rw [e2, BitVec.xor_allOnes, BitVec.toNat_not, BitVec.toNat_ofNat, Nat.mod_eq_of_lt (by omega)]
    have e3 : ((2 ^ 64 - 1 - v / 2 : Nat) : Int) = 18446744073709551615 - ((v / 2 : Nat) : Int) := by omega
    rw [e3, IntKind.wrap_i64]
    omega
theorem w64 (n : Int) : IntKind.i64.wrap n = wrap64 n := IntWalk.i64_left n
theorem zag0 : bits .xor .i64 0 (wrap64 (-wrap64 (bits .and .u64 0 1))) = 0 := by decide +kernel
theorem getG_lt : ∀ (l : List UInt8) (k v : Nat), v < 128 ^ k → k ≤ 10 → ∀ n r, getG k v l = .ok (n, r) → n < 18446744073709551616
  | [], _, _, _, _, _, _, h => by cases h
  | b :: t, k, v, hv, hk, n, r, h => by
    rw [getG] at h
    split at h
    · cases h
    split at h
    · cases h
    have hb := UInt8.toNat_lt b
    rename_i h9
    split at h
    · rename_i h128
      have h2 : b.toNat % 128 * 128 ^ k ≤ 127 * 128 ^ k := Nat.mul_le_mul_right _ (by omega)
      exact getG_lt t (k + 1) _ (by rw [Nat.pow_succ]; omega) (by omega) n r h
    split at h
    · cases h
    · have hx := more7 (k := k) (v := v) (b := b.toNat) (by omega) hv hb (by omega)
      injection h with h
      injection h with h _
      omega
set_option maxHeartbeats 2000000 in
theorem int_any (v : Int) (h1 : -9223372036854775808 ≤ v) (h2 : v ≤ 9223372036854775807) (w : World) : Calls Tryd.prog 98 #[.int .i64 v] w fun e w' => e = .returned (.string ⟨(numL (zig v)).toArray⟩) ∧ Below w.heap.size w w' := by
  have hz : zig v < 18446744073709551616 := by unfold zig; split <;> omega
  have hn := num_any (zig v) hz
  have HN := Lib.hid hn
  clear hn
  go_enter Tryd.func98, Tryd.ntmps98
  go_wp2_with ((rw [zigE h1 h2]); (with_reducible refine (HN.out _).mono ?_); rintro e w' ⟨rfl, hb⟩)
  go_ret
  exact ⟨rfl, hb⟩
set_option maxHeartbeats 2000000 in
theorem getInt_any (s : ByteArray) (hs : s.size ≤ 140737488355328) (w : World) : Calls Tryd.prog 138 #[.string s] w fun e w' => (match getG 0 0 s.data.toList with
    | .error e' => e = .returned (.tuple #[.int .i64 0, .string ⟨#[]⟩, .int .i64 e'])
    | .ok (v, r) => e = .returned (.tuple #[.int .i64 (zag v), .string ⟨r.toArray⟩, .int .i64 0])) ∧ Below w.heap.size w w' := by
  have hg := get_any s hs w
  unfold getV at hg
  cases hgg : getG 0 0 s.data.toList with
  | error e' =>
    rw [hgg] at hg
    simp only at hg ⊢
    have HG := Lib.hid hg
    clear hg hgg
    go_enter Tryd.func138, Tryd.ntmps138
    go_wp2_with ((with_reducible refine HG.out.mono ?_); rintro e w' ⟨rfl, hb⟩)
    refine bodyPost_ret (results_tmp3 rfl _ _ _) rfl ?_
    refine ⟨?_, hb⟩
    show Ending.returned (.tuple #[.int .i64 (bits .xor .i64 0 (wrap64 (-wrap64 (bits .and .u64 0 1)))), .string ⟨#[]⟩, .int .i64 e']) = _
    rw [zag0]
  | ok p =>
    obtain ⟨v, r⟩ := p
    rw [hgg] at hg
    simp only at hg ⊢
    have HG := Lib.hid hg
    have hz := zagE (getG_lt _ 0 0 (by decide) (by decide) v r hgg)
    simp only [w64] at hz
    have HZ := Lib.hid hz
    clear hg hgg hz
    go_enter Tryd.func138, Tryd.ntmps138
    go_wp2_with ((with_reducible refine HG.out.mono ?_); rintro e w' ⟨rfl, hb⟩)
    refine bodyPost_ret (results_tmp3 rfl _ _ _) rfl ?_
    refine ⟨?_, hb⟩
    rw [← HZ.out]
    rfl
/-- The bytes of a row of numbers. -/
theorem roundtrip {n : Nat} : ∀ (m k v : Nat) (r : List UInt8), (k = 0 ∨ 0 < m) → k < 10 → v < 128 ^ k → v + m * 128 ^ k = n → n < 18446744073709551616 → getG k v (numL m ++ r) = .ok (n, r) := by
  intro m
  induction m using Nat.strongRecOn with
  | ind m ih =>
    intro k v r hm hk hv hn hlt
    have hp : 0 < 128 ^ k := Nat.pow_pos (by decide)
    by_cases h : m < 128
    · have hb : m.toUInt8.toNat = m := by rw [Nat.toUInt8, UInt8.toNat_ofNat']; omega
      rw [numL_small h, List.singleton_append, getG, hb, if_neg (by omega)]
      have h9 : ¬ (k = 9 ∧ m > 1) := by
        rintro ⟨rfl, h2⟩
        have : 2 * 128 ^ 9 ≤ m * 128 ^ 9 := Nat.mul_le_mul_right _ h2
        omega
      rw [if_neg h9, if_neg (by omega), if_neg (by omega), Nat.mod_eq_of_lt h, hn]
    · have hb : (m % 128 + 128).toUInt8.toNat = m % 128 + 128 := by rw [Nat.toUInt8, UInt8.toNat_ofNat']; omega
      have hk9 : k < 9 := by
        rcases Nat.lt_or_ge k 9 with h' | h'
        · exact h'
        · have hk9 : k = 9 := by omega
          subst hk9
          have : 128 * 128 ^ 9 ≤ m * 128 ^ 9 := Nat.mul_le_mul_right _ (by omega)
          omega
      rw [numL_big h, List.cons_append, getG, hb, if_neg (by omega), if_neg (by omega), if_pos (by omega), show (m % 128 + 128) % 128 = m % 128 by omega]
      have h3 : m % 128 * 128 ^ k ≤ 127 * 128 ^ k := Nat.mul_le_mul_right _ (by omega)
      refine ih (m / 128) (by omega) (k + 1) _ r (.inr (by omega)) (by omega) (by rw [Nat.pow_succ]; omega) ?_ hlt
      rw [← hn, Nat.pow_succ, Nat.add_assoc]
      congr 1
      rw [show m / 128 * (128 ^ k * 128) = 128 * (m / 128) * 128 ^ k by rw [Nat.mul_comm (128 ^ k) 128, ← Nat.mul_assoc, Nat.mul_comm (m / 128) 128], ← Nat.add_mul]
      congr 1
      omega
/-- What was put is got. -/
theorem get_num (n : Nat) (h : n < 18446744073709551616) (r : List UInt8) : getG 0 0 (numL n ++ r) = .ok (n, r) := roundtrip n 0 0 r (.inl rfl) (by decide) (by decide) (by simp) h
/-- What is got is put as it stood. -/
theorem num_get' : ∀ (l : List UInt8) (k v n : Nat) (r : List UInt8), k ≤ 10 → v < 128 ^ k → getG k v l = .ok (n, r) → ∃ m, l = numL m ++ r ∧ n = v + m * 128 ^ k ∧ (k = 0 ∨ 0 < m) := by
  intro l
  induction l with
  | nil => intro k v n r _ _ h; cases h
  | cons b t ih =>
    intro k v n r hk hv h
    have hb := UInt8.toNat_lt b
    rw [getG] at h
    split at h
    · cases h
    split at h
    · cases h
    rename_i h10 h9
    split at h
    · rename_i h128
      have h3 : b.toNat % 128 * 128 ^ k ≤ 127 * 128 ^ k := Nat.mul_le_mul_right _ (by omega)
      obtain ⟨m, e1, e2, e3⟩ := ih (k + 1) _ n r (by omega) (by rw [Nat.pow_succ]; omega) h
      have hm : 0 < m := by omega
      refine ⟨b.toNat % 128 + 128 * m, ?_, ?_, .inr (by omega)⟩
      · rw [numL_big (by omega), e1, show (b.toNat % 128 + 128 * m) % 128 = b.toNat % 128 by omega, show (b.toNat % 128 + 128 * m) / 128 = m by omega, List.cons_append]
        congr 1
        apply UInt8.toNat_inj.1
        rw [Nat.toUInt8, UInt8.toNat_ofNat']
        omega
      · rw [e2, Nat.pow_succ, Nat.add_mul, Nat.add_assoc]
        congr 2
        rw [Nat.mul_comm (128 ^ k) 128, ← Nat.mul_assoc, Nat.mul_comm m 128]
    split at h
    · cases h
    · rename_i h128 h0
      injection h with h
      injection h with h1 h2
      subst h2
      refine ⟨b.toNat, ?_, by rw [← h1, Nat.mod_eq_of_lt (by omega)], by omega⟩
      rw [numL_small (by omega), List.singleton_append]
      congr 1
      apply UInt8.toNat_inj.1
      rw [Nat.toUInt8, UInt8.toNat_ofNat']
      omega
theorem num_get {l r : List UInt8} {n : Nat} (h : getG 0 0 l = .ok (n, r)) : l = numL n ++ r ∧ n < 18446744073709551616 := by
  obtain ⟨m, e1, e2, _⟩ := num_get' l 0 0 n r (by decide) (by decide) h
  have : n = m := by simpa using e2
  subst this
  exact ⟨e1, getG_lt l 0 0 (by decide) (by decide) n r h⟩
end Go.Proofs.YtljfloopjgpaeabDoor
