/- '==' of lags, of sizes; live.row, Most. -/
import Derived.Test.YtljfloopjgpaeabLG
import Derived.DeepKeys
import Derived.Laws.StructEq
import Derived.Test.YtljfloopjgpaeabQD
namespace Go.Proofs.Ytljfloopjgpaeab
set_option linter.unusedVariables false
set_option linter.unusedSimpArgs false
open Go.RowKit Go.Shelf
set_option maxRecDepth 100000
theorem eq_a4 (d : Nat) (a0 a1 a2 a3 b0 b1 b2 b3 : Int) (w : World) :
    (Op.equalIn (d + 2) 58 (.agg #[.int .i64 a0, .int .i64 a1, .int .i64 a2, .int .i64 a3]) (.agg #[.int .i64 b0, .int .i64 b1, .int .i64 b2, .int .i64 b3])).run Try.prog w = .ok (a0 == b0 && (a1 == b1 && (a2 == b2 && a3 == b3))) w := by
  obtain ⟨i, hi⟩ : ∃ i, Try.prog.info? 2 = some i := info_of_underlying Try.underlying2
  rw [run_equalIn_array w (d + 1) _ _ Try.underlying58 hi]
  have hc : Try.prog.cellsOf 2 = 1 := by kernel_rfl
  rw [show List.range 4 = [0, 1, 2, 3] from rfl]
  simp only [Op.eqItems, hc]
  have hl : ∀ (a b : Int) (w : World), (Op.equalIn (d + 1) 2 (.int .i64 a) (.int .i64 b)).run Try.prog w = .ok (a == b) w := fun a b w => run_equalIn_int w d 2 .i64 .i64 a b Try.underlying2
  simp [go_sem, hl]
  (repeat' split) <;> simp_all
theorem fields_lags : (Try.prog.fieldsOf 32).toList.map (fun f => (f.name, f.type, f.offset)) = [("Ready", 2, 0), ("Work", 2, 1), ("Leave", 2, 2), ("Wake", 2, 3)] := by kernel_rfl
theorem eq_lags (d : Nat) (a0 a1 a2 a3 b0 b1 b2 b3 : Int) (w : World) :
    (Op.equalIn (d + 2) 32 (.agg #[.int .i64 a0, .int .i64 a1, .int .i64 a2, .int .i64 a3]) (.agg #[.int .i64 b0, .int .i64 b1, .int .i64 b2, .int .i64 b3])).run Try.prog w = .ok (a0 == b0 && (a1 == b1 && (a2 == b2 && a3 == b3))) w := by
  have h2 : ∀ (a b : Int) (w : World), (Op.equalIn (d + 1) 2 (.int .i64 a) (.int .i64 b)).run Try.prog w = .ok (a == b) w := fun a b w => run_equalIn_int w d 2 .i64 .i64 a b Try.underlying2
  rw [run_equalIn_struct w (d + 1) 32 _ _ (by kernel_rfl) (by kernel_rfl)]
  obtain ⟨f0, f1, f2, f3, hf⟩ : ∃ f0 f1 f2 f3, (Try.prog.fieldsOf 32).toList = [f0, f1, f2, f3] := ⟨_, _, _, _, rfl⟩
  have h := fields_lags
  rw [hf] at h
  simp only [List.map_cons, List.map_nil, List.cons.injEq, Prod.mk.injEq, and_true] at h
  obtain ⟨⟨n0, t0, o0⟩, ⟨n1, t1, o1⟩, ⟨n2, t2, o2⟩, n3, t3, o3⟩ := h
  rw [hf]
  simp only [Op.eqFields, n0, n1, n2, n3, t0, t1, t2, t3, o0, o1, o2, o3]
  simp [go_sem, h2]
  (repeat' split) <;> simp_all
theorem fields_size : (Try.prog.fieldsOf 48).toList.map (fun f => (f.name, f.type, f.offset)) = [("W", 3, 0), ("P", 3, 1), ("T", 3, 2), ("C", 3, 3), ("N", 3, 4), ("Q", 3, 5)] := by kernel_rfl
theorem eq_size1 (w : World) :
    (Op.equalIn 10000 48 (.agg #[.int .i64 1, .int .i64 1, .int .i64 1, .int .i64 1, .int .i64 1, .int .i64 1]) (.agg #[.int .i64 1, .int .i64 1, .int .i64 1, .int .i64 1, .int .i64 1, .int .i64 1])).run Try.prog w = .ok true w := by
  have h2 : ∀ (a b : Int) (w : World), (Op.equalIn 9999 3 (.int .i64 a) (.int .i64 b)).run Try.prog w = .ok (a == b) w := fun a b w => run_equalIn_int w 9998 3 .i64 .i64 a b Try.underlying3
  rw [run_equalIn_struct w 9999 48 _ _ (by kernel_rfl) (by kernel_rfl)]
  obtain ⟨f0, f1, f2, f3, f4, f5, hf⟩ : ∃ f0 f1 f2 f3 f4 f5, (Try.prog.fieldsOf 48).toList = [f0, f1, f2, f3, f4, f5] := ⟨_, _, _, _, _, _, rfl⟩
  have h := fields_size
  rw [hf] at h
  simp only [List.map_cons, List.map_nil, List.cons.injEq, Prod.mk.injEq, and_true] at h
  obtain ⟨⟨n0, t0, o0⟩, ⟨n1, t1, o1⟩, ⟨n2, t2, o2⟩, ⟨n3, t3, o3⟩, ⟨n4, t4, o4⟩, n5, t5, o5⟩ := h
  rw [hf]
  simp only [Op.eqFields, n0, n1, n2, n3, n4, n5, t0, t1, t2, t3, t4, t5, o0, o1, o2, o3, o4, o5]
  simp [go_sem, h2]
attribute [local go_sem] Oper.semAt_some
theorem alloc_at3 {w : World} {o : Obj} {i : Nat} (h : i = w.heap.size) : (w.alloc o).heap[i]? = some o := by rw [h]; exact World.alloc_heap_new w o
set_option maxHeartbeats 1000000 in
theorem row_any (a b c d : Int) (w : World) : Calls Try.prog 27 #[.agg #[.int .i64 a, .int .i64 b, .int .i64 c, .int .i64 d]] w fun e w' => e = .returned (.agg #[.int .i64 a, .int .i64 b, .int .i64 c, .int .i64 d]) ∧ Below w.heap.size w w' := by
  go_enter Try.func27, Try.ntmps27
  go_wp2
  obtain ⟨r0, r1, r2, r3⟩ := Lx.cells4 (alloc_at3 (w := w.alloc (.cells #[.int .i64 a, .int .i64 b, .int .i64 c, .int .i64 d] 32)) (o := .cells #[.int .i64 a, .int .i64 b, .int .i64 c, .int .i64 d] 58) (i := w.heap.size + 1) (by simp))
  refine Lx.ret_of (by simp [results, Try.results27, go_sem, r0, r1, r2, r3] <;> (repeat' (first | rfl | apply And.intro))) rfl ⟨rfl, by (repeat (first | with_reducible exact Below.refl _ _ | (with_reducible refine Below.setCell ?_ (by first | (simp; done) | (simp; omega) | omega) _) | (with_reducible refine Below.alloc ?_ (by first | (simp; done) | (simp; omega) | omega) _) | (with_reducible refine Below.drew ?_)))⟩
end Go.Proofs.Ytljfloopjgpaeab
