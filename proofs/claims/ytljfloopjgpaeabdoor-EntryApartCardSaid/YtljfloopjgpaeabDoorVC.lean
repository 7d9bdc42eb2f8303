/- octet.Num: a number's bytes. -/
import Derived.WalkKit
import Derived.LoopTactic
import Derived.Lib.Hide
import Derived.IntWalk
import Derived.Laws.IdiomStrings
import Derived.Maps.AppendAt
import Derived.Lib.UnsafeStr
import Derived.WalkLawsBesides
import Derived.Test.YtljfloopjgpaeabDoorShelf
import Derived.Test.YtljfloopjgpaeabDoorA
namespace Go.Proofs.YtljfloopjgpaeabDoor
set_option linter.unusedVariables false
set_option linter.unusedSimpArgs false
open Go.RowKit
attribute [local go_sem] Oper.semAt_some
set_option maxRecDepth 100000
/-- A number's bytes, the lowest seven bits first. -/
def numL (n : Nat) : List UInt8 := if n < 128 then [n.toUInt8] else (n % 128 + 128).toUInt8 :: numL (n / 128)
theorem numL_small {n : Nat} (h : n < 128) : numL n = [n.toUInt8] := by rw [numL, if_pos h]
theorem numL_big {n : Nat} (h : ¬ n < 128) : numL n = (n % 128 + 128).toUInt8 :: numL (n / 128) := by rw [numL, if_neg h]
theorem info_B : (Tryd.prog.info? 5).map (fun i => (i.zero, i.size, i.bytes)) = some (some (.int .u8 0), 1, 1) := by kernel_rfl
theorem or128 (a : Nat) (h : a < 256) : bits .or .u8 (a : Int) 128 = ((a % 128 + 128 : Nat) : Int) := by
  have : ∀ x : Fin 256, bits .or .u8 ((x.val : Nat) : Int) 128 = ((x.val % 128 + 128 : Nat) : Int) := by decide +kernel
  exact this ⟨a, h⟩
theorem byteCells_snoc (bs : List UInt8) (c : UInt8) : Lib.byteCells (bs ++ [c]) = Lib.byteCells bs ++ [.int .u8 c.toNat] := by simp [Lib.byteCells]
theorem sl_of {w : World} {B e sz n : Nat} {v : Value} {xs : List Value} (h : w.ownsRow B e sz v n xs) : ∃ A c, v = .slice A n c := by
  rcases h.2 with ⟨hv, h0⟩ | ⟨g, cap, cur, hv, _⟩
  · exact ⟨none, 0, by rw [hv, h0]⟩
  · exact ⟨_, _, hv⟩
theorem conv_own {w : World} {B : Nat} {A : Option Addr} {c : Nat} (l : List UInt8) (hl : l ≠ []) (h : w.ownsRow B 5 1 (.slice A l.length c) l.length (Lib.byteCells l)) : (convert 78 9 (.slice A l.length c)).run Tryd.prog w = .ok (.string ⟨l.toArray⟩) w := by
  rcases h.2 with ⟨_, h0⟩ | ⟨g, cap, cur, hv, _, hb, _, _, _, htk⟩
  · exact absurd (List.length_eq_zero_iff.1 h0) hl
  · obtain ⟨rfl, rfl⟩ : A = some ⟨g, 0, none⟩ ∧ c = cap := by simpa using hv
    refine run_convert_bytes_back w _ _ 5 ⟨g, 0, none⟩ _ l Tryd.underlying78 Tryd.underlying5 Tryd.underlying9 (fun j hj => ?_)
    have h1 : (Lib.byteCells l)[j]? = some (.int .u8 (l[j].toNat : Int)) := by simp [Lib.byteCells, hj]
    rw [← htk, List.getElem?_take, if_pos (by omega)] at h1
    rw [Addr.add_lit, Nat.zero_add]
    simp only [World.cell?, hb]
    rw [← Array.getElem?_toList]
    exact h1
set_option maxHeartbeats 4000000 in
theorem num_any (n : Nat) (hn : n < 18446744073709551616) (w : World) : Calls Tryd.prog 95 #[.int .u64 n] w fun e w' => e = .returned (.string ⟨(numL n).toArray⟩) ∧ Below w.heap.size w w' := by
  obtain ⟨i0, hi, hz0, hz1, hz2⟩ := info_parts info_B
  go_enter Tryd.func95, Tryd.ntmps95
  go_wp2
  go_loopw [0, 3] (fun x y wr => ∃ (v : Nat) (u : Value) (bs : List UInt8), v ≤ n ∧ x = .int .u64 v ∧ u = y ∧ numL n = bs ++ numL v ∧ bs.length ≤ 9 ∧ v * 128 ^ bs.length ≤ n ∧ wr.ownsRow w.heap.size 5 1 u bs.length (Lib.byteCells bs) ∧ Below w.heap.size w wr) (fun x _ _ => (intOf x).toNat)
  case atStart => exact ⟨n, _, [], Nat.le_refl _, rfl, rfl, rfl, by decide, by simp, World.ownsRow_nil _ _ _ _, Below.refl _ _⟩
  case round =>
    obtain ⟨v, u, bs, hv, rfl, rfl, hnum, hl9, hpow, hrow, hbl⟩ := hrel
    by_cases h128 : v < 128
    · have d1 : decide ((v : Int) ≥ 128) = false := decide_eq_false (by omega)
      have HI := Lib.hid hi
      have HZ0 := Lib.hid hz0
      have HZ1 := Lib.hid hz1
      have HZ2 := Lib.hid hz2
      have HROW := Lib.hid hrow
      have HL9 := Lib.hid hl9
      have HBL := Lib.hid hbl
      have HNUM := Lib.hid hnum
      have HPOW := Lib.hid hpow
      clear hi hz0 hz1 hz2 hrow hl9 hbl hnum hpow
      go_wp2_with (at_builtin; apply wpList_append_own_at (t := 78) (base := w.heap.size) (e := 5) (i := i0) (size := 1) (bytes := 1) (v := u) (n := bs.length) (xs := Lib.byteCells bs) (ad := ⟨wr.heap.size, 0, none⟩) (m := 1) (c := 1) (news := [.int .u8 (v : Int)]); (case hgd => rfl); (case ho => rfl); (case ht => exact Tryd.underlying78); (case hi => exact HI.out); (case hz => exact HZ0.out); (case hsize => exact HZ1.out); (case hby => exact HZ2.out); (case hzs => rfl); (case hsz => decide); (case hs => rfl); (case hown => exact HROW.out.alloc _); (case hx => rfl); (case hl => rfl); (case hnews => exact cell_one_new _ _ _); (case h1 => simp [Value.oneCell']); (case h63 => unfold maxLen; have := HL9.out; omega); (case hbytes => have := HL9.out; omega); (case hbase => have := HBL.out.size; simp; omega); intro v' w3 hown' hgrow _ hob; (have HOWN := Lib.hid hown'); (have HGR := Lib.hid hgrow); obtain ⟨A', c', rfl⟩ := sl_of hown'; clear hown' hgrow hob)
      have hc : (v.toUInt8.toNat : Int) = (v : Int) := by
        rw [Nat.toUInt8, UInt8.toNat_ofNat']
        omega
      have hconv := conv_own (w := w3) (B := w.heap.size) (A := A') (c := c') (bs ++ [v.toUInt8]) (by simp) (by rw [byteCells_snoc, hc, List.length_append, List.length_singleton]; exact HOWN.out)
      rw [List.length_append, List.length_singleton] at hconv
      rw [hconv]
      simp only [Result.andThen]
      rw [Oper.upon_value]
      clear hconv hc
      go_wp2
      go_ret
      exact ⟨by rw [HNUM.out, numL_small h128]; rfl, (HBL.out.alloc HBL.out.size _).grown HGR.out (by have := HBL.out.size; simp; omega) (fun k hk => (HROW.out.lt k hk).1)⟩
    · have d1 : decide ((v : Int) ≥ 128) = true := decide_eq_true (by omega)
      have HI := Lib.hid hi
      have HZ0 := Lib.hid hz0
      have HZ1 := Lib.hid hz1
      have HZ2 := Lib.hid hz2
      have HROW := Lib.hid hrow
      have HL9 := Lib.hid hl9
      have HBL := Lib.hid hbl
      have HNUM := Lib.hid hnum
      have HPOW := Lib.hid hpow
      clear hi hz0 hz1 hz2 hrow hl9 hbl hnum hpow
      go_wp2_with (at_builtin; apply wpList_append_own_at (t := 78) (base := w.heap.size) (e := 5) (i := i0) (size := 1) (bytes := 1) (v := u) (n := bs.length) (xs := Lib.byteCells bs) (ad := ⟨wr.heap.size, 0, none⟩) (m := 1) (c := 1) (news := [.int .u8 (bits .or .u8 ((v : Int) % 256) 128)]); (case hgd => rfl); (case ho => rfl); (case ht => exact Tryd.underlying78); (case hi => exact HI.out); (case hz => exact HZ0.out); (case hsize => exact HZ1.out); (case hby => exact HZ2.out); (case hzs => rfl); (case hsz => decide); (case hs => rfl); (case hown => exact HROW.out.alloc _); (case hx => rfl); (case hl => rfl); (case hnews => exact cell_one_new _ _ _); (case h1 => simp [Value.oneCell']); (case h63 => unfold maxLen; have := HL9.out; omega); (case hbytes => have := HL9.out; omega); (case hbase => have := HBL.out.size; simp; omega); intro v' w3 hown' hgrow _ hob; (have HOWN := Lib.hid hown'); (have HGR := Lib.hid hgrow); obtain ⟨A', c', rfl⟩ := sl_of hown'; clear hown' hgrow hob)
      have hlen : bs.length ≤ 8 := by
        rcases Nat.lt_or_ge bs.length 9 with h | h
        · omega
        · have h9 : bs.length = 9 := by have := HL9.out; omega
          have hp := HPOW.out
          rw [h9] at hp
          have : 128 * 128 ^ 9 ≤ v * 128 ^ 9 := Nat.mul_le_mul_right _ (by omega)
          omega
      have hc : ((v % 128 + 128).toUInt8.toNat : Int) = bits .or .u8 ((v : Int) % 256) 128 := by
        rw [show (v : Int) % 256 = ((v % 256 : Nat) : Int) by omega, or128 (v % 256) (by omega)]
        congr 1
        rw [Nat.toUInt8, UInt8.toNat_ofNat']
        omega
      refine ⟨⟨v / 128, _, bs ++ [(v % 128 + 128).toUInt8], Nat.le_trans (Nat.div_le_self _ _) hv, by simp, rfl, ?_, by simp; omega, ?_, ?_, ?_⟩, by simp [intOf]; omega⟩
      · rw [HNUM.out, numL_big h128]
        simp
      · rw [List.length_append, List.length_singleton, Nat.pow_succ]
        refine Nat.le_trans ?_ HPOW.out
        rw [show v / 128 * (128 ^ bs.length * 128) = v / 128 * 128 * 128 ^ bs.length by rw [Nat.mul_comm (128 ^ bs.length) 128, Nat.mul_assoc]]
        exact Nat.mul_le_mul_right _ (Nat.div_mul_le_self v 128)
      · rw [byteCells_snoc, hc, List.length_append, List.length_singleton]
        exact HOWN.out
      · exact (HBL.out.alloc HBL.out.size _).grown HGR.out (by have := HBL.out.size; simp; omega) (fun k hk => (HROW.out.lt k hk).1)
end Go.Proofs.YtljfloopjgpaeabDoor
