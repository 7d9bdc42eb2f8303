/- '==' of instructions, of cases; slices.Equal of them, of whole numbers. -/
import Derived.Test.YtljfloopjgpaeaaB
import Derived.DeepKeys
import Derived.Laws.StructEq
import Derived.Deep.RegionHeld3
import Derived.Outline
import Derived.Deep.Cut
import Derived.Scope
namespace Go.Proofs.Ytljfloopjgpaeaa
set_option linter.unusedVariables false
set_option linter.unusedSimpArgs false
open Go.RowKit
set_option maxRecDepth 100000

theorem fields_ins : (Try.prog.fieldsOf 56).toList.map (fun f => (f.name, f.type, f.offset)) = [("Op", 5, 0), ("A", 3, 1), ("B", 3, 2), ("Ch", 3, 3), ("K", 2, 4)] := by kernel_rfl
theorem eq_ins (d : Nat) (a1 a2 a3 a4 a5 b1 b2 b3 b4 b5 : Int) (w : World) : (Op.equalIn (d + 2) 56 (.agg #[.int .u8 a1, .int .i64 a2, .int .i64 a3, .int .i64 a4, .int .i64 a5]) (.agg #[.int .u8 b1, .int .i64 b2, .int .i64 b3, .int .i64 b4, .int .i64 b5])).run Try.prog w = .ok (a1 == b1 && (a2 == b2 && (a3 == b3 && (a4 == b4 && a5 == b5)))) w := by
  have h1 : ∀ (a b : Int) (w : World), (Op.equalIn (d + 1) 3 (.int .i64 a) (.int .i64 b)).run Try.prog w = .ok (a == b) w := fun a b w => run_equalIn_int w d 3 .i64 .i64 a b Try.underlying3
  have h2 : ∀ (a b : Int) (w : World), (Op.equalIn (d + 1) 2 (.int .i64 a) (.int .i64 b)).run Try.prog w = .ok (a == b) w := fun a b w => run_equalIn_int w d 2 .i64 .i64 a b Try.underlying2
  have h3 : ∀ (a b : Int) (w : World), (Op.equalIn (d + 1) 5 (.int .u8 a) (.int .u8 b)).run Try.prog w = .ok (a == b) w := fun a b w => run_equalIn_int w d 5 .u8 .u8 a b Try.underlying5
  rw [run_equalIn_struct w (d + 1) 56 _ _ (by kernel_rfl) (by kernel_rfl)]
  obtain ⟨f0, f1, f2, f3, f4, hf⟩ : ∃ f0 f1 f2 f3 f4, (Try.prog.fieldsOf 56).toList = [f0, f1, f2, f3, f4] := ⟨_, _, _, _, _, rfl⟩
  have h := fields_ins
  rw [hf] at h
  simp only [List.map_cons, List.map_nil, List.cons.injEq, Prod.mk.injEq, and_true] at h
  obtain ⟨⟨n0, t0, o0⟩, ⟨n1, t1, o1⟩, ⟨n2, t2, o2⟩, ⟨n3, t3, o3⟩, n4, t4, o4⟩ := h
  rw [hf]
  simp only [Op.eqFields, n0, n1, n2, n3, n4, t0, t1, t2, t3, t4, o0, o1, o2, o3, o4]
  simp [go_sem, h1, h2, h3]
  (repeat' split) <;> simp_all
theorem fields_case : (Try.prog.fieldsOf 63).toList.map (fun f => (f.name, f.type, f.offset)) = [("Send", 4, 0), ("Ch", 3, 1), ("Val", 3, 2), ("Ok", 3, 3)] := by kernel_rfl
theorem eq_case (d : Nat) (a1 b1 : Bool) (a2 a3 a4 b2 b3 b4 : Int) (w : World) : (Op.equalIn (d + 2) 63 (.agg #[.bool a1, .int .i64 a2, .int .i64 a3, .int .i64 a4]) (.agg #[.bool b1, .int .i64 b2, .int .i64 b3, .int .i64 b4])).run Try.prog w = .ok (a1 == b1 && (a2 == b2 && (a3 == b3 && a4 == b4))) w := by
  have h1 : ∀ (a b : Int) (w : World), (Op.equalIn (d + 1) 3 (.int .i64 a) (.int .i64 b)).run Try.prog w = .ok (a == b) w := fun a b w => run_equalIn_int w d 3 .i64 .i64 a b Try.underlying3
  have h3 : ∀ (a b : Bool) (w : World), (Op.equalIn (d + 1) 4 (.bool a) (.bool b)).run Try.prog w = .ok (a == b) w := fun a b w => run_equalIn_bool w d 4 a b Try.underlying4
  rw [run_equalIn_struct w (d + 1) 63 _ _ (by kernel_rfl) (by kernel_rfl)]
  obtain ⟨f0, f1, f2, f3, hf⟩ : ∃ f0 f1 f2 f3, (Try.prog.fieldsOf 63).toList = [f0, f1, f2, f3] := ⟨_, _, _, _, rfl⟩
  have h := fields_case
  rw [hf] at h
  simp only [List.map_cons, List.map_nil, List.cons.injEq, Prod.mk.injEq, and_true] at h
  obtain ⟨⟨n0, t0, o0⟩, ⟨n1, t1, o1⟩, ⟨n2, t2, o2⟩, n3, t3, o3⟩ := h
  rw [hf]
  simp only [Op.eqFields, n0, n1, n2, n3, t0, t1, t2, t3, o0, o1, o2, o3]
  simp [go_sem, h1, h3]
  (repeat' split) <;> simp_all
theorem eq_insB (d : Nat) (x y : InsV) (w : World) : (Op.equalIn (d + 2) 56 (.agg #[.int .u8 x.op, .int .i64 x.a, .int .i64 x.b, .int .i64 x.ch, .int .i64 x.k]) (.agg #[.int .u8 y.op, .int .i64 y.a, .int .i64 y.b, .int .i64 y.ch, .int .i64 y.k])).run Try.prog w = .ok (decide (x = y)) w := by
  rw [eq_ins]
  obtain ⟨x1, x2, x3, x4, x5⟩ := x
  obtain ⟨y1, y2, y3, y4, y5⟩ := y
  rw [show (decide (InsV.mk x1 x2 x3 x4 x5 = ⟨y1, y2, y3, y4, y5⟩)) = (x1 == y1 && (x2 == y2 && (x3 == y3 && (x4 == y4 && x5 == y5)))) from by simp [InsV.mk.injEq, Bool.decide_and]; rfl]
theorem eq_caseB (d : Nat) (x y : CaseV) (w : World) : (Op.equalIn (d + 2) 63 (.agg #[.bool x.send, .int .i64 x.ch, .int .i64 x.val, .int .i64 x.ok]) (.agg #[.bool y.send, .int .i64 y.ch, .int .i64 y.val, .int .i64 y.ok])).run Try.prog w = .ok (decide (x = y)) w := by
  rw [eq_case]
  obtain ⟨x1, x2, x3, x4⟩ := x
  obtain ⟨y1, y2, y3, y4⟩ := y
  rw [show (decide (CaseV.mk x1 x2 x3 x4 = ⟨y1, y2, y3, y4⟩)) = (x1 == y1 && (x2 == y2 && (x3 == y3 && x4 == y4))) from by simp [CaseV.mk.injEq, Bool.decide_and]; rfl]

/-- The first k of two lists are one. -/
def EqTo {α : Type} (l m : List α) (k : Nat) : Prop := ∀ j, j < k → l[j]? = m[j]?
theorem EqTo.zero {α : Type} (l m : List α) : EqTo l m 0 := fun _ h => absurd h (Nat.not_lt_zero _)
theorem EqTo.succ {α : Type} {l m : List α} {k : Nat} (h : EqTo l m k) (h1 : k < l.length) (h2 : k < m.length) (hx : l[k] = m[k]) : EqTo l m (k + 1) := fun j hj => by
  rcases Nat.lt_succ_iff_lt_or_eq.1 hj with hj | rfl
  · exact h j hj
  · rw [List.getElem?_eq_getElem h1, List.getElem?_eq_getElem h2, hx]
theorem EqTo.all {α : Type} {l m : List α} (h : EqTo l m l.length) (hn : l.length = m.length) : l = m := by
  apply List.ext_getElem? fun i => ?_
  by_cases hi : i < l.length
  · exact h i hi
  · rw [List.getElem?_eq_none (by omega), List.getElem?_eq_none (by omega)]
theorem ne_at {α : Type} {l m : List α} {k : Nat} (h1 : k < l.length) (h2 : k < m.length) (hx : l[k] ≠ m[k]) : l ≠ m := fun h => hx (by subst h; rfl)
theorem ne_len {α : Type} {l m : List α} (h : l.length ≠ m.length) : l ≠ m := fun e => h (by rw [e])
theorem below_dN {B : Nat} {a w : World} (h : Below B a w) (n : Nat) : Below B a (w.drewN n) := ⟨h.os, h.tape, h.output, h.size, h.block⟩
--GEN
set_option maxHeartbeats 1000000 in
theorem EqInt_any {w : World} {v1 v2 : Value} {l1 l2 : List Int} (h1 : kInt.R w v1 l1) (h2 : kInt.R w v2 l2) :
    Calls Try.prog 73 #[v1, v2] w fun e w' => e = .returned (.bool (decide (l1 = l2))) ∧ Below w.heap.size w w' := by
  obtain ⟨A1, c1, rfl, _, _, hl1⟩ := h1.val
  obtain ⟨A2, c2, rfl, _, _, hl2⟩ := h2.val
  have H1 := Lib.hid h1
  have H2 := Lib.hid h2
  clear h1 h2
  by_cases hn : l1.length = l2.length
  · have d1 : ((l1.length : Int) != (l2.length : Int)) = false := by simp [hn]
    have HN := Lib.hid hn
    clear hn
    go_enter Try.func73, Try.ntmps73
    go_wp2
    go_loopw [5, 13] (fun _ i wr => ∃ k : Nat, k ≤ l1.length ∧ i = .int .i64 k ∧ EqTo l1 l2 k ∧ Below w.heap.size w wr) (fun _ i _ => l1.length - (intOf i).toNat)
    case atStart => exact ⟨0, Nat.zero_le _, rfl, EqTo.zero _ _, Below.refl _ _⟩
    case round =>
      obtain ⟨k, hk, rfl, hpre, hbl⟩ := hrel
      have HP := Lib.hid hpre
      have HB := Lib.hid hbl
      clear hpre hbl
      by_cases hlt : k < l1.length
      · have hlt2 : k < l2.length := by have := HN.out; omega
        obtain ⟨b1, o1, rfl, hb1, g0, _⟩ := kInt_at (H1.out.keep HB.out) hlt
        obtain ⟨b2, o2, rfl, hb2, q0, _⟩ := kInt_at (H2.out.keep HB.out) hlt2
        by_cases hx : l1[k] = l2[k]
        · have HX := Lib.hid hx
          have d2 : (l1[k] != l2[k]) = false := by simp [hx]
          clear hx
          have hi2 : (k : Int) < (l2.length : Int) := by omega
          have hi1 : (k : Int) < (l1.length : Int) := by omega
          have hi0 : (0 : Int) ≤ (k : Int) := by omega
          go_upto_region 6 with fail
          go_quiet (fail)
          go_wp2
          go_roundw
          case rel => exact ⟨k + 1, hlt, by go_num, HP.out.succ hlt hlt2 HX.out, below_dN HB.out _⟩
          case measure => simp [intOf]; omega
        · have HX := Lib.hid hx
          have d2 : (l1[k] != l2[k]) = true := by simp [hx]
          clear hx
          have hi2 : (k : Int) < (l2.length : Int) := by omega
          have hi1 : (k : Int) < (l1.length : Int) := by omega
          have hi0 : (0 : Int) ≤ (k : Int) := by omega
          go_upto_region 6 with fail
          go_quiet (fail)
          go_wp2
          go_ret
          exact ⟨ret_bool (decide_eq_false (ne_at hlt hlt2 HX.out)).symm, below_dN HB.out _⟩
      · obtain rfl : k = l1.length := by omega
        go_wp2
        go_ret
        exact ⟨ret_bool (decide_eq_true (HP.out.all HN.out)).symm, HB.out⟩
  · have d1 : ((l1.length : Int) != (l2.length : Int)) = true := by simp; omega
    have HN := Lib.hid hn
    clear hn
    go_enter Try.func73, Try.ntmps73
    go_wp2
    go_ret
    exact ⟨ret_bool (decide_eq_false (ne_len HN.out)).symm, Below.refl _ _⟩
set_option maxHeartbeats 1000000 in
theorem EqIns_any {w : World} {v1 v2 : Value} {l1 l2 : List InsV} (h1 : kIns.R w v1 l1) (h2 : kIns.R w v2 l2) :
    Calls Try.prog 75 #[v1, v2] w fun e w' => e = .returned (.bool (decide (l1 = l2))) ∧ Below w.heap.size w w' := by
  obtain ⟨A1, c1, rfl, _, _, hl1⟩ := h1.val
  obtain ⟨A2, c2, rfl, _, _, hl2⟩ := h2.val
  have H1 := Lib.hid h1
  have H2 := Lib.hid h2
  clear h1 h2
  by_cases hn : l1.length = l2.length
  · have d1 : ((l1.length : Int) != (l2.length : Int)) = false := by simp [hn]
    have HN := Lib.hid hn
    clear hn
    go_enter Try.func75, Try.ntmps75
    go_wp2
    go_loopw [5, 13] (fun _ i wr => ∃ k : Nat, k ≤ l1.length ∧ i = .int .i64 k ∧ EqTo l1 l2 k ∧ Below w.heap.size w wr) (fun _ i _ => l1.length - (intOf i).toNat)
    case atStart => exact ⟨0, Nat.zero_le _, rfl, EqTo.zero _ _, Below.refl _ _⟩
    case round =>
      obtain ⟨k, hk, rfl, hpre, hbl⟩ := hrel
      have HP := Lib.hid hpre
      have HB := Lib.hid hbl
      clear hpre hbl
      by_cases hlt : k < l1.length
      · have hlt2 : k < l2.length := by have := HN.out; omega
        obtain ⟨b1, o1, rfl, hb1, g0, g1, g2, g3, g4, _⟩ := kIns_at (H1.out.keep HB.out) hlt
        obtain ⟨b2, o2, rfl, hb2, q0, q1, q2, q3, q4, _⟩ := kIns_at (H2.out.keep HB.out) hlt2
        by_cases hx : l1[k] = l2[k]
        · have HX := Lib.hid hx
          have d2 := fun (d : Nat) (w : World) => (eq_insB d l1[k] l2[k] w).trans (by rw [decide_eq_true hx])
          clear hx
          have hi2 : (k : Int) < (l2.length : Int) := by omega
          have hi1 : (k : Int) < (l1.length : Int) := by omega
          have hi0 : (0 : Int) ≤ (k : Int) := by omega
          go_upto_region 6 with fail
          go_quiet (fail)
          go_wp2
          go_roundw
          case rel => exact ⟨k + 1, hlt, by go_num, HP.out.succ hlt hlt2 HX.out, below_dN HB.out _⟩
          case measure => simp [intOf]; omega
        · have HX := Lib.hid hx
          have d2 := fun (d : Nat) (w : World) => (eq_insB d l1[k] l2[k] w).trans (by rw [decide_eq_false hx])
          clear hx
          have hi2 : (k : Int) < (l2.length : Int) := by omega
          have hi1 : (k : Int) < (l1.length : Int) := by omega
          have hi0 : (0 : Int) ≤ (k : Int) := by omega
          go_upto_region 6 with fail
          go_quiet (fail)
          go_wp2
          go_ret
          exact ⟨ret_bool (decide_eq_false (ne_at hlt hlt2 HX.out)).symm, below_dN HB.out _⟩
      · obtain rfl : k = l1.length := by omega
        go_wp2
        go_ret
        exact ⟨ret_bool (decide_eq_true (HP.out.all HN.out)).symm, HB.out⟩
  · have d1 : ((l1.length : Int) != (l2.length : Int)) = true := by simp; omega
    have HN := Lib.hid hn
    clear hn
    go_enter Try.func75, Try.ntmps75
    go_wp2
    go_ret
    exact ⟨ret_bool (decide_eq_false (ne_len HN.out)).symm, Below.refl _ _⟩
set_option maxHeartbeats 1000000 in
theorem EqCase_any {w : World} {v1 v2 : Value} {l1 l2 : List CaseV} (h1 : kCase.R w v1 l1) (h2 : kCase.R w v2 l2) :
    Calls Try.prog 72 #[v1, v2] w fun e w' => e = .returned (.bool (decide (l1 = l2))) ∧ Below w.heap.size w w' := by
  obtain ⟨A1, c1, rfl, _, _, hl1⟩ := h1.val
  obtain ⟨A2, c2, rfl, _, _, hl2⟩ := h2.val
  have H1 := Lib.hid h1
  have H2 := Lib.hid h2
  clear h1 h2
  by_cases hn : l1.length = l2.length
  · have d1 : ((l1.length : Int) != (l2.length : Int)) = false := by simp [hn]
    have HN := Lib.hid hn
    clear hn
    go_enter Try.func72, Try.ntmps72
    go_wp2
    go_loopw [5, 13] (fun _ i wr => ∃ k : Nat, k ≤ l1.length ∧ i = .int .i64 k ∧ EqTo l1 l2 k ∧ Below w.heap.size w wr) (fun _ i _ => l1.length - (intOf i).toNat)
    case atStart => exact ⟨0, Nat.zero_le _, rfl, EqTo.zero _ _, Below.refl _ _⟩
    case round =>
      obtain ⟨k, hk, rfl, hpre, hbl⟩ := hrel
      have HP := Lib.hid hpre
      have HB := Lib.hid hbl
      clear hpre hbl
      by_cases hlt : k < l1.length
      · have hlt2 : k < l2.length := by have := HN.out; omega
        obtain ⟨b1, o1, rfl, hb1, g0, g1, g2, g3, _⟩ := kCase_at (H1.out.keep HB.out) hlt
        obtain ⟨b2, o2, rfl, hb2, q0, q1, q2, q3, _⟩ := kCase_at (H2.out.keep HB.out) hlt2
        by_cases hx : l1[k] = l2[k]
        · have HX := Lib.hid hx
          have d2 := fun (d : Nat) (w : World) => (eq_caseB d l1[k] l2[k] w).trans (by rw [decide_eq_true hx])
          clear hx
          have hi2 : (k : Int) < (l2.length : Int) := by omega
          have hi1 : (k : Int) < (l1.length : Int) := by omega
          have hi0 : (0 : Int) ≤ (k : Int) := by omega
          go_upto_region 6 with fail
          go_quiet (fail)
          go_wp2
          go_roundw
          case rel => exact ⟨k + 1, hlt, by go_num, HP.out.succ hlt hlt2 HX.out, below_dN HB.out _⟩
          case measure => simp [intOf]; omega
        · have HX := Lib.hid hx
          have d2 := fun (d : Nat) (w : World) => (eq_caseB d l1[k] l2[k] w).trans (by rw [decide_eq_false hx])
          clear hx
          have hi2 : (k : Int) < (l2.length : Int) := by omega
          have hi1 : (k : Int) < (l1.length : Int) := by omega
          have hi0 : (0 : Int) ≤ (k : Int) := by omega
          go_upto_region 6 with fail
          go_quiet (fail)
          go_wp2
          go_ret
          exact ⟨ret_bool (decide_eq_false (ne_at hlt hlt2 HX.out)).symm, below_dN HB.out _⟩
      · obtain rfl : k = l1.length := by omega
        go_wp2
        go_ret
        exact ⟨ret_bool (decide_eq_true (HP.out.all HN.out)).symm, HB.out⟩
  · have d1 : ((l1.length : Int) != (l2.length : Int)) = true := by simp; omega
    have HN := Lib.hid hn
    clear hn
    go_enter Try.func72, Try.ntmps72
    go_wp2
    go_ret
    exact ⟨ret_bool (decide_eq_false (ne_len HN.out)).symm, Below.refl _ _⟩
end Go.Proofs.Ytljfloopjgpaeaa
