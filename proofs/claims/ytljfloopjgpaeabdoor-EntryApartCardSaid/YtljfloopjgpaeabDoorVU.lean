/- tollbarref14.Same of two rows that are the same. -/
import Derived.LoopTactic
import Derived.Deep.QuietTactic
import Derived.Test.YtljfloopjgpaeabDoorVO
namespace Go.Proofs.YtljfloopjgpaeabDoor
set_option linter.unusedVariables false
set_option linter.unusedSimpArgs false
open Go.RowKit Go.Shelf
attribute [local go_sem] Oper.semAt_some
set_option maxRecDepth 100000
theorem below_dN {B : Nat} {a w : World} (h : Below B a w) (n : Nat) : Below B a (w.drewN n) := ⟨h.os, h.tape, h.output, h.size, h.block⟩
theorem eqs {α : Type} [BEq α] [LawfulBEq α] [DecidableEq α] (a b : α) (c : Bool) (w : World) (r : Result Bool) (h : r = .ok c w) : (if a = b then r else Result.ok false w) = .ok (a == b && c) w := by
  by_cases e : a = b
  · subst e; simp [h]
  · simp [e]
theorem eqs1 {α : Type} [BEq α] [LawfulBEq α] [DecidableEq α] (a b : α) (w : World) : (if a = b then Result.ok true w else Result.ok false w) = .ok (a == b) w := by
  by_cases e : a = b
  · subst e; simp
  · simp [e]
theorem fields_ent : (Tryd.prog.fieldsOf 26).toList.map (fun f => (f.name, f.type, f.offset)) = [("At", 2, 0), ("Kind", 5, 1), ("Worker", 3, 2), ("Task", 3, 3), ("Peer", 3, 4), ("Ch", 3, 5), ("Case", 3, 6), ("PeerCase", 3, 7), ("Val", 2, 8), ("Val2", 2, 9), ("Ok", 4, 10), ("Code", 22, 11), ("Set", 24, 12)] := by kernel_rfl
set_option maxHeartbeats 8000000 in
theorem eq_ent (d : Nat) (a0 a1 a2 a3 a4 a5 a6 a7 a8 a9 a11 a12 b0 b1 b2 b3 b4 b5 b6 b7 b8 b9 b11 b12 : Int) (a10 b10 : Bool) (w : World) : (Op.equalIn (d + 2) 26 (.agg #[.int .i64 a0, .int .u8 a1, .int .i64 a2, .int .i64 a3, .int .i64 a4, .int .i64 a5, .int .i64 a6, .int .i64 a7, .int .i64 a8, .int .i64 a9, .bool a10, .int .i64 a11, .int .u64 a12]) (.agg #[.int .i64 b0, .int .u8 b1, .int .i64 b2, .int .i64 b3, .int .i64 b4, .int .i64 b5, .int .i64 b6, .int .i64 b7, .int .i64 b8, .int .i64 b9, .bool b10, .int .i64 b11, .int .u64 b12])).run Tryd.prog w = .ok (a0 == b0 && (a1 == b1 && (a2 == b2 && (a3 == b3 && (a4 == b4 && (a5 == b5 && (a6 == b6 && (a7 == b7 && (a8 == b8 && (a9 == b9 && (a10 == b10 && (a11 == b11 && (a12 == b12))))))))))))) w := by
  have h0 : ∀ (a b : Int) (w : World), (Op.equalIn (d + 1) 3 (.int .i64 a) (.int .i64 b)).run Tryd.prog w = .ok (a == b) w := fun a b w => run_equalIn_int w d 3 .i64 .i64 a b Tryd.underlying3
  have h1 : ∀ (a b : Int) (w : World), (Op.equalIn (d + 1) 2 (.int .i64 a) (.int .i64 b)).run Tryd.prog w = .ok (a == b) w := fun a b w => run_equalIn_int w d 2 .i64 .i64 a b Tryd.underlying2
  have h2 : ∀ (a b : Int) (w : World), (Op.equalIn (d + 1) 5 (.int .u8 a) (.int .u8 b)).run Tryd.prog w = .ok (a == b) w := fun a b w => run_equalIn_int w d 5 .u8 .u8 a b Tryd.underlying5
  have h3 : ∀ (a b : Int) (w : World), (Op.equalIn (d + 1) 22 (.int .i64 a) (.int .i64 b)).run Tryd.prog w = .ok (a == b) w := fun a b w => run_equalIn_int w d 22 .i64 .i64 a b Tryd.underlying22
  have h4 : ∀ (a b : Int) (w : World), (Op.equalIn (d + 1) 24 (.int .u64 a) (.int .u64 b)).run Tryd.prog w = .ok (a == b) w := fun a b w => run_equalIn_int w d 24 .u64 .u64 a b Tryd.underlying24
  have h5 : ∀ (a b : Bool) (w : World), (Op.equalIn (d + 1) 4 (.bool a) (.bool b)).run Tryd.prog w = .ok (a == b) w := fun a b w => run_equalIn_bool w d 4 a b Tryd.underlying4
  rw [run_equalIn_struct w (d + 1) 26 _ _ (by kernel_rfl) (by kernel_rfl)]
  obtain ⟨f0, f1, f2, f3, f4, f5, f6, f7, f8, f9, f10, f11, f12, hf⟩ : ∃ f0 f1 f2 f3 f4 f5 f6 f7 f8 f9 f10 f11 f12, (Tryd.prog.fieldsOf 26).toList = [f0, f1, f2, f3, f4, f5, f6, f7, f8, f9, f10, f11, f12] := ⟨_, _, _, _, _, _, _, _, _, _, _, _, _, rfl⟩
  have h := fields_ent
  rw [hf] at h
  simp only [List.map_cons, List.map_nil, List.cons.injEq, Prod.mk.injEq, and_true] at h
  obtain ⟨⟨n0, t0, o0⟩, ⟨n1, t1, o1⟩, ⟨n2, t2, o2⟩, ⟨n3, t3, o3⟩, ⟨n4, t4, o4⟩, ⟨n5, t5, o5⟩, ⟨n6, t6, o6⟩, ⟨n7, t7, o7⟩, ⟨n8, t8, o8⟩, ⟨n9, t9, o9⟩, ⟨n10, t10, o10⟩, ⟨n11, t11, o11⟩, n12, t12, o12⟩ := h
  rw [hf]
  simp only [Op.eqFields, n0, t0, o0, n1, t1, o1, n2, t2, o2, n3, t3, o3, n4, t4, o4, n5, t5, o5, n6, t6, o6, n7, t7, o7, n8, t8, o8, n9, t9, o9, n10, t10, o10, n11, t11, o11, n12, t12, o12]
  simp [go_sem, h0, h1, h2, h3, h4, h5]
  refine eqs _ _ _ _ _ ?_
  refine eqs _ _ _ _ _ ?_
  refine eqs _ _ _ _ _ ?_
  refine eqs _ _ _ _ _ ?_
  refine eqs _ _ _ _ _ ?_
  refine eqs _ _ _ _ _ ?_
  refine eqs _ _ _ _ _ ?_
  refine eqs _ _ _ _ _ ?_
  refine eqs _ _ _ _ _ ?_
  refine eqs _ _ _ _ _ ?_
  refine eqs _ _ _ _ _ ?_
  refine eqs _ _ _ _ _ ?_
  exact eqs1 _ _ _
theorem eq_entB (d : Nat) (x y : EntV) (w : World) : (Op.equalIn (d + 2) 26 (.agg #[.int .i64 x.at_, .int .u8 x.kind, .int .i64 x.worker, .int .i64 x.task, .int .i64 x.peer, .int .i64 x.ch, .int .i64 x.cs, .int .i64 x.pc, .int .i64 x.val, .int .i64 x.val2, .bool x.ok, .int .i64 x.code, .int .u64 x.set]) (.agg #[.int .i64 y.at_, .int .u8 y.kind, .int .i64 y.worker, .int .i64 y.task, .int .i64 y.peer, .int .i64 y.ch, .int .i64 y.cs, .int .i64 y.pc, .int .i64 y.val, .int .i64 y.val2, .bool y.ok, .int .i64 y.code, .int .u64 y.set])).run Tryd.prog w = .ok (decide (x = y)) w := by
  rw [eq_ent]
  obtain ⟨x0, x1, x2, x3, x4, x5, x6, x7, x8, x9, x10, x11, x12⟩ := x
  obtain ⟨y0, y1, y2, y3, y4, y5, y6, y7, y8, y9, y10, y11, y12⟩ := y
  rw [show (decide (EntV.mk x0 x1 x2 x3 x4 x5 x6 x7 x8 x9 x10 x11 x12 = ⟨y0, y1, y2, y3, y4, y5, y6, y7, y8, y9, y10, y11, y12⟩)) = (x0 == y0 && (x1 == y1 && (x2 == y2 && (x3 == y3 && (x4 == y4 && (x5 == y5 && (x6 == y6 && (x7 == y7 && (x8 == y8 && (x9 == y9 && (x10 == y10 && (x11 == y11 && (x12 == y12))))))))))))) from by simp [EntV.mk.injEq, Bool.decide_and]; rfl]
set_option maxHeartbeats 4000000 in
theorem same14_yes {w : World} {v1 v2 : Value} {l : List EntV} (h1 : kEnt.R w v1 l) (h2 : kEnt.R w v2 l) :
    Calls Tryd.prog 19 #[v1, v2] w fun e w' => e = .returned (.bool true) ∧ Below w.heap.size w w' := by
  obtain ⟨A1, c1, rfl, _, _, hl1⟩ := h1.val
  obtain ⟨A2, c2, rfl, _, _, hl2⟩ := h2.val
  have H1 := Lib.hid h1
  have H2 := Lib.hid h2
  clear h1 h2
  have d1 : ((l.length : Int) != (l.length : Int)) = false := by simp
  go_enter Tryd.func19, Tryd.ntmps19
  go_wp2
  go_loopw [5] (fun i wr => ∃ k : Nat, k ≤ l.length ∧ i = .int .i64 k ∧ Below w.heap.size w wr) (fun i _ => l.length - (intOf i).toNat)
  case atStart => exact ⟨0, Nat.zero_le _, rfl, Below.refl _ _⟩
  case round =>
    obtain ⟨k, hk, rfl, hbl⟩ := hrel
    have HB := Lib.hid hbl
    clear hbl
    by_cases hlt : k < l.length
    · obtain ⟨b1, o1, rfl, hb1, g0, g1, g2, g3, g4, g5, g6, g7, g8, g9, g10, g11, g12⟩ := kEnt_at (H1.out.keep HB.out) hlt
      obtain ⟨b2, o2, rfl, hb2, q0, q1, q2, q3, q4, q5, q6, q7, q8, q9, q10, q11, q12⟩ := kEnt_at (H2.out.keep HB.out) hlt
      have d2 := fun (d : Nat) (w : World) => (eq_entB d l[k] l[k] w).trans (by rw [decide_eq_true rfl])
      have hi1 : (k : Int) < (l.length : Int) := by omega
      have hi0 : (0 : Int) ≤ (k : Int) := by omega
      have hwr : IntKind.i64.wrap ((k : Int) + 1) = (k : Int) + 1 := IntWalk.i64_in _ (by omega)
      go_upto_region 6 with fail
      go_quiet (fail)
      go_wp2
      go_roundw
      case rel => exact ⟨k + 1, hlt, by go_num, below_dN HB.out _⟩
      case measure => simp [intOf]; omega
    · obtain rfl : k = l.length := by omega
      go_wp2
      go_ret
      exact ⟨rfl, HB.out⟩
end Go.Proofs.YtljfloopjgpaeabDoor
