/- octet.Get: the number that bytes begin with. -/
import Derived.WalkKit
import Derived.LoopTactic
import Derived.LoopNIn
import Derived.Lib.Hide
import Derived.IntWalk
import Derived.WalkLawsBesides
import Derived.Laws.BitsAllLaws
import Derived.Deep.QuietTactic
import Derived.BigQuiet
import Derived.Test.YtljfloopjgpaeabDoorR
import Derived.Test.YtljfloopjgpaeabDoorVC
namespace Go.Proofs.YtljfloopjgpaeabDoor
set_option linter.unusedVariables false
set_option linter.unusedSimpArgs false
open Go.RowKit
attribute [local go_sem] Oper.semAt_some
set_option maxRecDepth 100000
/-- What is read of bytes, behind k of them that came to v: an error, or the number, and the rest. -/
def getG (k v : Nat) : List UInt8 → Except Int (Nat × List UInt8)
  | [] => .error 6
  | b :: t => if k ≥ 10 then .error 6 else if k = 9 ∧ b.toNat > 1 then .error 7 else if b.toNat ≥ 128 then getG (k + 1) (v + b.toNat % 128 * 128 ^ k) t else if k > 0 ∧ b.toNat = 0 then .error 7 else .ok (v + b.toNat % 128 * 128 ^ k, t)
def getV (l : List UInt8) : Value := match getG 0 0 l with
  | .error e => .tuple #[.int .u64 0, .string ⟨#[]⟩, .int .i64 e]
  | .ok (v, r) => .tuple #[.int .u64 v, .string ⟨r.toArray⟩, .int .i64 0]
theorem get1_any (e : Int) (w : World) : Calls Tryd.prog 157 #[.int .i64 e] w fun r w' => r = .returned (.tuple #[.int .u64 0, .string ⟨#[]⟩, .int .i64 e]) ∧ w = w' := by
  go_enter Tryd.func157, Tryd.ntmps157
  go_wp2
  refine bodyPost_ret (results_tmp3 rfl _ _ _) rfl ?_
  exact ⟨rfl, rfl⟩
theorem and127 (a : Nat) (h : a < 256) : bits .and .u8 (a : Int) 127 = ((a % 128 : Nat) : Int) := by
  have : ∀ x : Fin 256, bits .and .u8 ((x.val : Nat) : Int) 127 = ((x.val % 128 : Nat) : Int) := by decide +kernel
  exact this ⟨a, h⟩
theorem more7 {k v b : Nat} (hk : k < 10) (hv : v < 128 ^ k) (hb : b < 256) (h : k ≤ 8 ∨ b ≤ 1) :
    bits .or .u64 (v : Int) (IntKind.u64.wrap (IntKind.u64.wrap (bits .and .u8 (b : Int) 127) * 2 ^ (7 * k))) = ((v + b % 128 * 128 ^ k : Nat) : Int) ∧ v + b % 128 * 128 ^ k < 18446744073709551616 := by
  have h128 : (128 : Nat) ^ k = 2 ^ (7 * k) := by rw [Nat.pow_mul]
  have hlt : b % 128 * 128 ^ k < 18446744073709551616 ∧ v < 18446744073709551616 ∧ v + b % 128 * 128 ^ k < 18446744073709551616 := by
    have hc : b % 128 ≤ 127 := by omega
    rcases h with h | h
    · have h1 : (128 : Nat) ^ k ≤ 128 ^ 8 := Nat.pow_le_pow_right (by decide) h
      have h2 : b % 128 * 128 ^ k ≤ 127 * 128 ^ 8 := Nat.mul_le_mul hc h1
      omega
    · have h1 : (128 : Nat) ^ k ≤ 128 ^ 9 := Nat.pow_le_pow_right (by decide) (by omega)
      have h2 : b % 128 * 128 ^ k ≤ 1 * 128 ^ 9 := Nat.mul_le_mul (by omega) h1
      omega
  have e1 : IntKind.u64.wrap (bits .and .u8 (b : Int) 127) = ((b % 128 : Nat) : Int) := by rw [and127 b hb, IntKind.wrap_u64]; omega
  have e2 : ((b % 128 : Nat) : Int) * 2 ^ (7 * k) = ((b % 128 * 128 ^ k : Nat) : Int) := by rw [h128]; simp
  have e3 : IntKind.u64.wrap ((b % 128 * 128 ^ k : Nat) : Int) = ((b % 128 * 128 ^ k : Nat) : Int) := by rw [IntKind.wrap_u64]; omega
  refine ⟨?_, hlt.2.2⟩
  rw [e1, e2, e3, u64_or_nat _ _ hlt.2.1 hlt.1]
  congr 1
  rw [h128] at hv ⊢
  rw [Nat.mul_comm (b % 128), Nat.or_comm, ← Nat.two_pow_add_eq_or_of_lt hv, Nat.add_comm]
theorem extract_drop (s : ByteArray) (l : List UInt8) (hl : l = s.data.toList) (i : Nat) : s.extract i s.size = ⟨(l.drop i).toArray⟩ := by
  subst hl
  have h : (s.extract i s.size).data = (s.data.toList.drop i).toArray := by
    rw [ByteArray.data_extract]
    apply Array.ext'
    rw [Array.toList_extract]
    simp [List.extract]
    exact List.take_of_length_le (by rw [List.length_drop, Array.length_toList]; exact Nat.le_refl _)
  obtain ⟨d⟩ := s
  cases he : ByteArray.extract ⟨d⟩ i (ByteArray.size ⟨d⟩) with
  | mk d' => rw [he] at h; exact congrArg ByteArray.mk h
theorem below_qn {B : Nat} {a w : World} (h : Below B a w) (n : Nat) : Below B a (w.drewN n) := ⟨h.os, h.tape, h.output, h.size, h.block⟩
theorem get_toList (s : ByteArray) (l : List UInt8) (hl : l = s.data.toList) (k : Nat) (h1 : k < l.length) (h2 : k < s.size) : l[k] = s[k] := by
  subst hl
  rw [Array.getElem_toList]
  rfl
set_option maxHeartbeats 4000000 in
theorem get_any (s : ByteArray) (hs : s.size ≤ 140737488355328) (w : World) : Calls Tryd.prog 137 #[.string s] w fun e w' => e = .returned (getV s.data.toList) ∧ Below w.heap.size w w' := by
  obtain ⟨l, hl⟩ : ∃ l, l = s.data.toList := ⟨_, rfl⟩
  have hlen : l.length = s.size := by rw [hl, Array.length_toList]; rfl
  rw [← hl]
  obtain ⟨rv, hrv⟩ : ∃ rv, rv = getV l := ⟨_, rfl⟩
  rw [← hrv]
  have HRV := Lib.hid hrv
  have HL := Lib.hid hl
  clear hrv hl
  go_enter Tryd.func137, Tryd.ntmps137
  go_wp2
  refine (wpIn_wide (n := 5)).1 ?_
  refine wpIn_scopeX ?_
  refine wpIn_wide.2 ?_
  go_wp2
  refine wp_label ?_
  go_wp2
  go_loopw [2, 6, 12] (fun x y i wr => ∃ (k v : Nat), k ≤ l.length ∧ k ≤ 10 ∧ i = .int .i64 k ∧ y = .int .i64 (-1) ∧ x = .int .u64 v ∧ getG 0 0 l = getG k v (l.drop k) ∧ v < 128 ^ k ∧ Below w.heap.size w wr) (fun _ _ i _ => 10 - (intOf i).toNat)
  case atStart => exact ⟨0, 0, Nat.zero_le _, by decide, rfl, rfl, rfl, rfl, by decide, Below.refl _ _⟩
  case round =>
    obtain ⟨k, v, hk, hk10, rfl, rfl, rfl, hget, hv, hbl⟩ := hrel
    by_cases hlt : k < l.length ∧ k < 10
    · have hi1 : (k : Int) < (s.size : Int) := by omega
      have hi0 : (0 : Int) ≤ (k : Int) := by omega
      have hsk := get_toList s l HL.out k hlt.1 (by omega)
      obtain ⟨b, hb⟩ : ∃ b, b = (s[k]'(by omega)).toNat := ⟨_, rfl⟩
      have hb256 : b < 256 := by rw [hb]; exact UInt8.toNat_lt _
      rw [List.drop_eq_getElem_cons hlt.1, getG, if_neg (by omega), hsk, ← hb] at hget
      have HGET := Lib.hid hget
      have HBL := Lib.hid hbl
      have dm : decide ((k : Int) < min (s.size : Int) 10) = true := decide_eq_true (by omega)
      have hwr : IntKind.i64.wrap ((k : Int) + 1) = (k : Int) + 1 := IntWalk.i64_in _ (by omega)
      have h6 : ∀ (k : Nat) , decide ((k : Int) < 0) = false := fun k => decide_eq_false (by omega)
      clear hsk hget hbl
      go_upto_region 8 with fail
      rw [← hb]
      clear hb
      by_cases hA : k = 9 ∧ b > 1
      · have dA1 : ((k : Int) == 9) = true := by rw [beq_iff_eq]; omega
        have dA2 : decide ((b : Int) > 1) = true := decide_eq_true (by omega)
        have hr : getV l = .tuple #[.int .u64 0, .string ⟨#[]⟩, .int .i64 7] := by rw [getV, HGET.out, if_pos hA]
        have HR := Lib.hid (HRV.out.trans hr)
        clear hA hr hb256 hv hlt
        go_wp2_with ((with_reducible refine (get1_any _ _).mono ?_); rintro e w' ⟨rfl, rfl⟩)
        refine noGoto_ret ?_
        refine bodyPost_ret (results_tmp3 rfl _ _ _) rfl ?_
        exact ⟨by rw [HR.out]; rfl, HBL.out⟩
      have hget2 := HGET.out
      rw [if_neg hA] at hget2
      have HG2 := Lib.hid hget2
      clear hget2
      by_cases h9 : k = 9
      · have dA1 : ((k : Int) == 9) = true := by rw [beq_iff_eq]; omega
        have dA2 : decide ((b : Int) > 1) = false := decide_eq_false (by omega)
        have hB : ¬ b ≥ 128 := by omega
        by_cases hC : k > 0 ∧ b = 0
        · have dB : decide ((b : Int) ≥ 128) = false := decide_eq_false (by omega)
          have dC1 : decide ((k : Int) > 0) = true := decide_eq_true (by omega)
          have dC2 : decide (0 < k) = true := decide_eq_true (by omega)
          have dC3 : ((b : Int) == 0) = true := by rw [beq_iff_eq]; omega
          have hr : getV l = .tuple #[.int .u64 0, .string ⟨#[]⟩, .int .i64 7] := by rw [getV, HG2.out, if_neg (by omega), if_pos hC]
          have HR := Lib.hid (HRV.out.trans hr)
          clear hA hr hb256 hv hlt hB hC h9
          go_wp2_with ((with_reducible refine (get1_any _ _).mono ?_); rintro e w' ⟨rfl, rfl⟩)
          refine noGoto_ret ?_
          refine bodyPost_ret (results_tmp3 rfl _ _ _) rfl ?_
          exact ⟨by rw [HR.out]; rfl, HBL.out⟩
        · have hk0 : k > 0 := by omega
          have dB : decide ((b : Int) ≥ 128) = false := decide_eq_false (by omega)
          have dC1 : decide ((k : Int) > 0) = true := decide_eq_true (by omega)
          have dC2 : decide (0 < k) = true := decide_eq_true (by omega)
          have dC3 : ((b : Int) == 0) = false := by rw [beq_eq_false_iff_ne]; omega
          have hx := more7 (k := k) (v := v) (b := b) (by omega) hv hb256 (by omega)
          have hxe := hx.1
          have hr : getV l = .tuple #[.int .u64 ((v + b % 128 * 128 ^ k : Nat) : Int), .string ⟨(l.drop (k + 1)).toArray⟩, .int .i64 0] := by rw [getV, HG2.out, if_neg (by omega), if_neg hC]
          have HR := Lib.hid (HRV.out.trans hr)
          have hsl : (k : Int) + 1 ≤ (s.size : Int) := by omega
          have hk6 := h6 k
          have HX := Lib.hid hxe
          clear hA hr hb256 hv hlt hB hC hx hxe hk0 h9
          go_upto_region 17 with fail
          go_quiet (fail)
          go_wp2
          refine noGoto_ret ?_
          refine bodyPost_ret (results_tmp3 rfl _ _ _) rfl ?_
          refine ⟨?_, below_qn HBL.out _⟩
          show Ending.returned (.tuple #[.int .u64 (bits .or .u64 (v : Int) (IntKind.u64.wrap (IntKind.u64.wrap (bits .and .u8 (b : Int) 127) * 2 ^ (7 * k)))), .string (s.extract (k + 1) s.size), .int .i64 0]) = _
          rw [HX.out, extract_drop s l HL.out, HR.out]
      · have dA1 : ((k : Int) == 9) = false := by rw [beq_eq_false_iff_ne]; omega
        by_cases hB : b ≥ 128
        · have dB : decide ((b : Int) ≥ 128) = true := decide_eq_true (by omega)
          have hx := more7 (k := k) (v := v) (b := b) (by omega) hv hb256 (by omega)
          have HX := Lib.hid hx
          have hg3 := HG2.out
          rw [if_pos hB] at hg3
          have HG3 := Lib.hid hg3
          have HV := Lib.hid hv
          have hk9 : k < 9 := by omega
          have hkl : k < l.length := hlt.1
          clear hA hb256 hv hlt hB hx hg3
          go_wp2
          go_roundw
          case rel =>
            refine ⟨k + 1, _, by omega, by omega, by go_num, rfl, by rw [HX.out.1], HG3.out, ?_, HBL.out⟩
            have h1 := HV.out
            rw [Nat.pow_succ]
            have h2 : b % 128 * 128 ^ k ≤ 127 * 128 ^ k := Nat.mul_le_mul_right _ (by omega)
            omega
          case measure => (simp [intOf] <;> omega)
        by_cases hC : k > 0 ∧ b = 0
        · have dB : decide ((b : Int) ≥ 128) = false := decide_eq_false (by omega)
          have dC1 : decide ((k : Int) > 0) = true := decide_eq_true (by omega)
          have dC2 : decide (0 < k) = true := decide_eq_true (by omega)
          have dC3 : ((b : Int) == 0) = true := by rw [beq_iff_eq]; omega
          have hr : getV l = .tuple #[.int .u64 0, .string ⟨#[]⟩, .int .i64 7] := by rw [getV, HG2.out, if_neg (by omega), if_pos hC]
          have HR := Lib.hid (HRV.out.trans hr)
          clear hA hr hb256 hv hlt hB hC
          go_wp2_with ((with_reducible refine (get1_any _ _).mono ?_); rintro e w' ⟨rfl, rfl⟩)
          refine noGoto_ret ?_
          refine bodyPost_ret (results_tmp3 rfl _ _ _) rfl ?_
          exact ⟨by rw [HR.out]; rfl, HBL.out⟩
        · rcases Nat.eq_zero_or_pos k with hk0 | hk0
          · have dB : decide ((b : Int) ≥ 128) = false := decide_eq_false (by omega)
            have dC1 : decide ((k : Int) > 0) = false := decide_eq_false (by omega)
            have dC2 : decide (0 < k) = false := decide_eq_false (by omega)
            have hx := more7 (k := k) (v := v) (b := b) (by omega) hv hb256 (by omega)
            have hxe := hx.1
            have hr : getV l = .tuple #[.int .u64 ((v + b % 128 * 128 ^ k : Nat) : Int), .string ⟨(l.drop (k + 1)).toArray⟩, .int .i64 0] := by rw [getV, HG2.out, if_neg (by omega), if_neg hC]
            have HR := Lib.hid (HRV.out.trans hr)
            have hsl : (k : Int) + 1 ≤ (s.size : Int) := by omega
            have hk6 := h6 k
            have HX := Lib.hid hxe
            clear hA hr hb256 hv hlt hB hC hx hxe hk0
            go_upto_region 17 with fail
            go_quiet (fail)
            go_wp2
            refine noGoto_ret ?_
            refine bodyPost_ret (results_tmp3 rfl _ _ _) rfl ?_
            refine ⟨?_, below_qn HBL.out _⟩
            show Ending.returned (.tuple #[.int .u64 (bits .or .u64 (v : Int) (IntKind.u64.wrap (IntKind.u64.wrap (bits .and .u8 (b : Int) 127) * 2 ^ (7 * k)))), .string (s.extract (k + 1) s.size), .int .i64 0]) = _
            rw [HX.out, extract_drop s l HL.out, HR.out]
          · have dB : decide ((b : Int) ≥ 128) = false := decide_eq_false (by omega)
            have dC1 : decide ((k : Int) > 0) = true := decide_eq_true (by omega)
            have dC2 : decide (0 < k) = true := decide_eq_true (by omega)
            have dC3 : ((b : Int) == 0) = false := by rw [beq_eq_false_iff_ne]; omega
            have hx := more7 (k := k) (v := v) (b := b) (by omega) hv hb256 (by omega)
            have hxe := hx.1
            have hr : getV l = .tuple #[.int .u64 ((v + b % 128 * 128 ^ k : Nat) : Int), .string ⟨(l.drop (k + 1)).toArray⟩, .int .i64 0] := by rw [getV, HG2.out, if_neg (by omega), if_neg hC]
            have HR := Lib.hid (HRV.out.trans hr)
            have hsl : (k : Int) + 1 ≤ (s.size : Int) := by omega
            have hk6 := h6 k
            have HX := Lib.hid hxe
            clear hA hr hb256 hv hlt hB hC hx hxe hk0
            go_upto_region 17 with fail
            go_quiet (fail)
            go_wp2
            refine noGoto_ret ?_
            refine bodyPost_ret (results_tmp3 rfl _ _ _) rfl ?_
            refine ⟨?_, below_qn HBL.out _⟩
            show Ending.returned (.tuple #[.int .u64 (bits .or .u64 (v : Int) (IntKind.u64.wrap (IntKind.u64.wrap (bits .and .u8 (b : Int) 127) * 2 ^ (7 * k)))), .string (s.extract (k + 1) s.size), .int .i64 0]) = _
            rw [HX.out, extract_drop s l HL.out, HR.out]
    · have dm : decide ((k : Int) < min (s.size : Int) 10) = false := decide_eq_false (by omega)
      have hge : getG k v (l.drop k) = .error 6 := by
        rcases Nat.lt_or_ge k l.length with h | h
        · rw [List.drop_eq_getElem_cons h, getG, if_pos (by omega)]
        · rw [List.drop_eq_nil_of_le h]; rfl
      have hr : getV l = .tuple #[.int .u64 0, .string ⟨#[]⟩, .int .i64 6] := by rw [getV, hget, hge]
      have HR := Lib.hid (HRV.out.trans hr)
      have HBL := Lib.hid hbl
      clear hr hge hget hbl hv hlt
      go_wp2_with ((with_reducible refine (get1_any _ _).mono ?_); rintro e w' ⟨rfl, rfl⟩)
      refine noGoto_ret ?_
      refine bodyPost_ret (results_tmp3 rfl _ _ _) rfl ?_
      exact ⟨by rw [HR.out]; rfl, HBL.out⟩
end Go.Proofs.YtljfloopjgpaeabDoor
