/- octet.Row; entry.shift, flag, and the closures of entry.one. -/
import Derived.LoopTactic
import Derived.Test.YtljfloopjgpaeabDoorVB
import Derived.Test.YtljfloopjgpaeabDoorVE
import Derived.Test.YtljfloopjgpaeabDoorEJ
namespace Go.Proofs.YtljfloopjgpaeabDoor
set_option linter.unusedVariables false
set_option linter.unusedSimpArgs false
open Go.RowKit
attribute [local go_sem] Oper.semAt_some
set_option maxRecDepth 100000
def kU64 : Kn Nat := Kn.flat 1 (fun n => [.int .u64 n]) (fun n => n < 18446744073709551616)
theorem kU64_at {w : World} {A : Option Addr} {n c : Nat} {l : List Nat} (h : kU64.R w (.slice A n c) l) {i : Nat} (hi : i < l.length) :
    ∃ b o, A = some ⟨b, o, none⟩ ∧ b < w.heap.size ∧ w.cell? ⟨b, o + i, none⟩ = some (.int .u64 l[i]) ∧ l[i] < 18446744073709551616 := by
  obtain ⟨b, o, cs, hA, hb, ⟨rfl, hp⟩, hc⟩ := Kn.R.at1 rfl h hi
  exact ⟨b, o, hA, hb, hc _ rfl, hp⟩
/-- The bytes of a row of numbers. -/
def rowL (ns : List Nat) : List UInt8 := ns.flatMap numL
theorem str_app (a b : List UInt8) : (⟨a.toArray⟩ : ByteArray) ++ ⟨b.toArray⟩ = ⟨(a ++ b).toArray⟩ := by
  have h : ((⟨a.toArray⟩ : ByteArray) ++ ⟨b.toArray⟩).data = (a ++ b).toArray := by rw [ByteArray.data_append]; simp
  cases he : (⟨a.toArray⟩ : ByteArray) ++ ⟨b.toArray⟩ with
  | mk d => rw [he] at h; exact congrArg ByteArray.mk h
theorem numL_lenk : ∀ (k n : Nat), n < 128 ^ k → 0 < k → (numL n).length ≤ k
  | 0, _, _, h => absurd h (by decide)
  | k + 1, n, h, _ => by
    by_cases hn : n < 128
    · rw [numL_small hn]; simp
    · rw [numL_big hn, List.length_cons]
      have hk : 0 < k := by
        rcases Nat.eq_zero_or_pos k with rfl | hk
        · rw [Nat.zero_add, Nat.pow_one] at h; omega
        · exact hk
      have := numL_lenk k (n / 128) (by rw [Nat.pow_succ] at h; omega) hk
      omega
theorem numL_len (n : Nat) (h : n < 18446744073709551616) : (numL n).length ≤ 10 := numL_lenk 10 n (by omega) (by decide)
theorem rowL_len : ∀ ns : List Nat, (∀ x ∈ ns, x < 18446744073709551616) → (rowL ns).length ≤ 10 * ns.length
  | [], _ => by simp [rowL]
  | n :: ns, h => by
    have h1 := numL_len n (h n (List.mem_cons_self ..))
    have h2 := rowL_len ns fun x hx => h x (List.mem_cons_of_mem _ hx)
    have e : rowL (n :: ns) = numL n ++ rowL ns := rfl
    rw [e, List.length_append, List.length_cons]
    omega
def SbL (B b : Nat) (l : List UInt8) (w : World) : Prop := IsSb B b (Lib.byteCells l) w
theorem SbL.keep {B b : Nat} {l : List UInt8} {w w' : World} (h : SbL B b l w) (hb : Below w.heap.size w w') : SbL B b l w' := by
  have key : ∀ p, SbAt B b p (Lib.byteCells l) w → SbAt B b p (Lib.byteCells l) w' := fun p ⟨h1, v, h2, h3, h4⟩ => by
    refine ⟨h1, v, (hb.block _ (Array.getElem?_eq_some_iff.1 h2).1).trans h2, ⟨h3.1, ?_⟩, h4⟩
    rcases h3.2 with h5 | ⟨g, cap, cur, h5, h6, h7, rest⟩
    · exact .inl h5
    · exact .inr ⟨g, cap, cur, h5, h6, (hb.block _ (Array.getElem?_eq_some_iff.1 h7).1).trans h7, rest⟩
  exact h.imp (key _) (key _)
theorem sbw_any {B b : Nat} {l m : List UInt8} {w : World} (h : SbL B b l w) (hlen : l.length + m.length ≤ 140737488355328) (hBw : B ≤ w.heap.size) :
    Calls Tryd.prog 49 #[.pointer (some ⟨b, 0, none⟩), .string ⟨m.toArray⟩] w fun e w' => e = .returned (.tuple #[.int .i64 m.length, .nilIface]) ∧ SbL B b (l ++ m) w' ∧ Below B w w' ∧ KeepSb w w' := by
  refine (sbWrite_any B b _ ⟨m.toArray⟩ w h (by rw [Lib.byteCells_length]; exact hlen) hBw).mono ?_
  rintro e w' ⟨rfl, h1, h2, h3⟩
  refine ⟨rfl, .inr ?_, h2, h3⟩
  have e : Lib.byteCells (l ++ m) = Lib.byteCells l ++ Lib.strCells ⟨m.toArray⟩ := by simp [Lib.byteCells, Lib.strCells]
  rw [e]
  exact h1
def shiftB (s : ByteArray) : Int := if s = s_case ∨ s = s_peercase ∨ s = s_peer then 1 else 0
theorem shift_any (s : ByteArray) (w : World) : Calls Tryd.prog 96 #[.string s] w fun e w' => e = .returned (.int .i64 (shiftB s)) ∧ w = w' := by
  have e1 : (s.toList == [99, 97, 115, 101]) = decide (s = s_case) := by rw [← eqS, ByteArray.toList_eq s_case]
  have e2 : (s.toList == [112, 101, 101, 114, 99, 97, 115, 101]) = decide (s = s_peercase) := by rw [← eqS, ByteArray.toList_eq s_peercase]
  have e3 : (s.toList == [112, 101, 101, 114]) = decide (s = s_peer) := by rw [← eqS, ByteArray.toList_eq s_peer]
  go_enter Tryd.func96, Tryd.ntmps96
  by_cases c1 : s = s_case
  · rw [decide_eq_true c1] at e1
    have d : shiftB s = 1 := by rw [shiftB, if_pos (.inl c1)]
    rw [d]
    clear c1 e2 e3 d
    go_wp2
    go_ret
    exact ⟨rfl, rfl⟩
  rw [decide_eq_false c1] at e1
  by_cases c2 : s = s_peercase
  · rw [decide_eq_true c2] at e2
    have d : shiftB s = 1 := by rw [shiftB, if_pos (.inr (.inl c2))]
    rw [d]
    clear c1 c2 e3 d
    go_wp2
    go_ret
    exact ⟨rfl, rfl⟩
  rw [decide_eq_false c2] at e2
  by_cases c3 : s = s_peer
  · rw [decide_eq_true c3] at e3
    have d : shiftB s = 1 := by rw [shiftB, if_pos (.inr (.inr c3))]
    rw [d]
    clear c1 c2 c3 d
    go_wp2
    go_ret
    exact ⟨rfl, rfl⟩
  rw [decide_eq_false c3] at e3
  have d : shiftB s = 0 := by rw [shiftB, if_neg (by rintro (h | h | h) <;> contradiction)]
  rw [d]
  clear c1 c2 c3 d
  go_wp2
  go_ret
  exact ⟨rfl, rfl⟩
theorem eflag_any (b : Bool) (w : World) : Calls Tryd.prog 89 #[.bool b] w fun e w' => e = .returned (.int .u64 (if b then 1 else 0)) ∧ w = w' := by
  cases b
  · go_enter Tryd.func89, Tryd.ntmps89
    go_wp2
    go_ret
    exact ⟨rfl, rfl⟩
  · go_enter Tryd.func89, Tryd.ntmps89
    go_wp2
    go_ret
    exact ⟨rfl, rfl⟩
set_option maxHeartbeats 2000000 in
theorem row_any {w : World} {v : Value} {ns : List Nat} (h : kU64.R w v ns) (hs : ns.length ≤ 1000) : Calls Tryd.prog 93 #[v] w fun e w' => e = .returned (.string ⟨(rowL ns).toArray⟩) ∧ Below w.heap.size w w' := by
  obtain ⟨A, c, rfl, _, _, _⟩ := h.val
  have H := Lib.hid h
  have hall : ∀ x ∈ ns, x < 18446744073709551616 := fun x hx => by
    obtain ⟨i, hi, rfl⟩ := List.getElem_of_mem hx
    obtain ⟨_, _, _, _, _, h2⟩ := kU64_at h hi
    exact h2
  have HALL := Lib.hid hall
  clear h hall
  go_enter Tryd.func93, Tryd.ntmps93
  go_wp2
  go_loopw [3, 8] (fun x i wr => ∃ k : Nat, k ≤ ns.length ∧ i = .int .i64 k ∧ x = .string ⟨(rowL (ns.take k)).toArray⟩ ∧ Below w.heap.size w wr) (fun _ i _ => ns.length - (intOf i).toNat)
  case atStart => exact ⟨0, Nat.zero_le _, rfl, rfl, Below.refl _ _⟩
  case round =>
    obtain ⟨k, hk, rfl, rfl, hbl⟩ := hrel
    have HB := Lib.hid hbl
    clear hbl
    by_cases hlt : k < ns.length
    · obtain ⟨b, o, rfl, hb, g0, hn⟩ := kU64_at (H.out.keep HB.out) hlt
      have hi1 : (k : Int) < (ns.length : Int) := by omega
      have hi0 : (0 : Int) ≤ (k : Int) := by omega
      have hwr : IntKind.i64.wrap ((k : Int) + 1) = (k : Int) + 1 := IntWalk.i64_in _ (by omega)
      have hnum := fun W => num_any ns[k] hn W
      have HN := Lib.hid hnum
      clear hnum
      have ht : rowL (ns.take (k + 1)) = rowL (ns.take k) ++ numL ns[k] := by rw [List.take_succ_eq_append_getElem hlt, rowL, List.flatMap_append]; simp [rowL]
      have hno : ¬ 9223372036854775807 < (rowL (ns.take k)).length + (numL ns[k]).length := by
        have h1 := rowL_len (ns.take k) fun x hx => HALL.out x (List.mem_of_mem_take hx)
        have h2 := numL_len _ hn
        have h3 : (ns.take k).length ≤ 1000 := Nat.le_trans (List.length_take_le ..) (by omega)
        omega
      have HT := Lib.hid ht
      clear ht
      go_wp2_with ((with_reducible refine (HN.out _).mono ?_); rintro e w' ⟨rfl, hb'⟩; (have HB' := Lib.hid hb'); clear hb')
      go_roundw
      case rel => exact ⟨k + 1, hlt, by go_num, by rw [HT.out, ← str_app], HB.out.trans (HB'.out.mono HB.out.size)⟩
      case measure => (simp [intOf] <;> omega)
    · obtain rfl : k = ns.length := by omega
      rw [List.take_length]
      go_wp2
      go_ret
      exact ⟨rfl, HB.out⟩
theorem one1_any {B b : Nat} {l : List UInt8} {w : World} (h : SbL B b l w) (hBw : B ≤ w.heap.size) (hl : l.length ≤ 1000000000) (s : ByteArray) (v : Int) (h1 : 0 ≤ v + shiftB s) (h2 : v ≤ 9223372036854775000) :
    Calls Tryd.prog 94 #[.string s, .int .i64 v, .pointer (some ⟨b, 0, none⟩)] w fun e w' => e = .returned (.tuple #[]) ∧ SbL B b (l ++ numL (v + shiftB s).toNat) w' ∧ Below B w w' ∧ KeepSb w w' := by
  have hsb : 0 ≤ shiftB s ∧ shiftB s ≤ 1 := by unfold shiftB; split <;> omega
  have e1 : IntKind.i64.wrap (v + shiftB s) = v + shiftB s := IntWalk.i64_in _ (by omega)
  obtain ⟨n, hnn⟩ : ∃ n : Nat, n = (v + shiftB s).toNat := ⟨_, rfl⟩
  have e2 : IntKind.u64.wrap (v + shiftB s) = (n : Int) := by rw [IntKind.wrap_u64]; omega
  have hlt : n < 18446744073709551616 := by omega
  rw [← hnn]
  have hn := fun W => num_any n hlt W
  have hw := fun W (hW : Below w.heap.size w W) => sbw_any (w := W) (m := numL n) (SbL.keep h hW) (by have := numL_len _ hlt; omega) (Nat.le_trans hBw hW.size)
  have HN := Lib.hid hn
  have HW := Lib.hid hw
  have HB := Lib.hid hBw
  clear hn hw h hBw hlt hnn h1 h2
  go_enter Tryd.func94, Tryd.ntmps94
  go_wp2_with (first
    | ((with_reducible refine (shift_any _ _).mono ?_); rintro e w' ⟨rfl, rfl⟩)
    | ((with_reducible refine (HN.out _).mono ?_); rintro e w1 ⟨rfl, hb1⟩; (have HB1 := Lib.hid hb1); clear hb1)
    | ((with_reducible refine (HW.out _ HB1.out).mono ?_); rintro e w2 ⟨rfl, hs2, hb2, hk2⟩; (have HS2 := Lib.hid hs2); (have HB2 := Lib.hid hb2); (have HK2 := Lib.hid hk2); clear hs2 hb2 hk2))
  go_end0
  exact ⟨rfl, HS2.out, (HB1.out.mono HB.out).trans HB2.out, (KeepSb.of_below HB1.out).trans HK2.out⟩
theorem one2_any {B b : Nat} {l : List UInt8} {w : World} (h : SbL B b l w) (hBw : B ≤ w.heap.size) (hl : l.length ≤ 1000000000) (v : Int) (h1 : -9223372036854775808 ≤ v) (h2 : v ≤ 9223372036854775807) :
    Calls Tryd.prog 97 #[.int .i64 v, .pointer (some ⟨b, 0, none⟩)] w fun e w' => e = .returned (.tuple #[]) ∧ SbL B b (l ++ numL (zig v)) w' ∧ Below B w w' ∧ KeepSb w w' := by
  have hlt : zig v < 18446744073709551616 := by unfold zig; split <;> omega
  have hn := fun W => int_any v h1 h2 W
  have hw := fun W (hW : Below w.heap.size w W) => sbw_any (w := W) (m := numL (zig v)) (SbL.keep h hW) (by have := numL_len _ hlt; omega) (Nat.le_trans hBw hW.size)
  have HN := Lib.hid hn
  have HW := Lib.hid hw
  have HB := Lib.hid hBw
  clear hn hw h hBw hlt
  go_enter Tryd.func97, Tryd.ntmps97
  go_wp2_with (first
    | ((with_reducible refine (HN.out _).mono ?_); rintro e w1 ⟨rfl, hb1⟩; (have HB1 := Lib.hid hb1); clear hb1)
    | ((with_reducible refine (HW.out _ HB1.out).mono ?_); rintro e w2 ⟨rfl, hs2, hb2, hk2⟩; (have HS2 := Lib.hid hs2); (have HB2 := Lib.hid hb2); (have HK2 := Lib.hid hk2); clear hs2 hb2 hk2))
  go_end0
  exact ⟨rfl, HS2.out, (HB1.out.mono HB.out).trans HB2.out, (KeepSb.of_below HB1.out).trans HK2.out⟩
theorem one3_any {B b : Nat} {l : List UInt8} {w : World} (h : SbL B b l w) (hBw : B ≤ w.heap.size) (hl : l.length ≤ 1000000000) (n : Nat) (hlt : n < 18446744073709551616) :
    Calls Tryd.prog 99 #[.int .u64 n, .pointer (some ⟨b, 0, none⟩)] w fun e w' => e = .returned (.tuple #[]) ∧ SbL B b (l ++ numL n) w' ∧ Below B w w' ∧ KeepSb w w' := by
  have hn := fun W => num_any n hlt W
  have hw := fun W (hW : Below w.heap.size w W) => sbw_any (w := W) (m := numL n) (SbL.keep h hW) (by have := numL_len _ hlt; omega) (Nat.le_trans hBw hW.size)
  have HN := Lib.hid hn
  have HW := Lib.hid hw
  have HB := Lib.hid hBw
  clear hn hw h hBw hlt
  go_enter Tryd.func99, Tryd.ntmps99
  go_wp2_with (first
    | ((with_reducible refine (HN.out _).mono ?_); rintro e w1 ⟨rfl, hb1⟩; (have HB1 := Lib.hid hb1); clear hb1)
    | ((with_reducible refine (HW.out _ HB1.out).mono ?_); rintro e w2 ⟨rfl, hs2, hb2, hk2⟩; (have HS2 := Lib.hid hs2); (have HB2 := Lib.hid hb2); (have HK2 := Lib.hid hk2); clear hs2 hb2 hk2))
  go_end0
  exact ⟨rfl, HS2.out, (HB1.out.mono HB.out).trans HB2.out, (KeepSb.of_below HB1.out).trans HK2.out⟩
end Go.Proofs.YtljfloopjgpaeabDoor
