/- mail: Put and Take out of bounds; what is told of a task, whatever it is. -/
import Derived.Test.YtljfloopjgpaeaaMA
namespace Go.Proofs.Ytljfloopjgpaeaa
set_option linter.unusedVariables false
set_option linter.unusedSimpArgs false
open Go.RowKit
attribute [local go_sem] Oper.semAt_some
set_option maxRecDepth 100000

set_option maxHeartbeats 1000000 in
theorem put_out {w : World} {B : Nat} (hB : B < w.heap.size) (i : Int) (hi : ¬ (0 ≤ i ∧ i < 32)) (c v : Int) (ok : Bool) (code : Int) :
    Calls Try.prog 16 #[.pointer (some ⟨B, 0, none⟩), .int .i64 i, .agg #[.int .i64 c, .int .i64 v, .bool ok, .int .i64 code]] w fun e w' => e = .returned (.int .i64 2) ∧ Below w.heap.size w w' := by
  by_cases h0 : i < 0
  · go_enter Try.func16, Try.ntmps16
    go_wp2
    go_ret
    exact ⟨rfl, by (repeat (first | with_reducible exact Below.refl _ _ | (with_reducible refine Below.setCell ?_ (by first | (simp; done) | (simp; omega) | omega) _) | (with_reducible refine Below.alloc ?_ (by first | (simp; done) | (simp; omega) | omega) _) | (with_reducible refine Below.drew ?_)))⟩
  · have h1 : 32 ≤ i := by omega
    go_enter Try.func16, Try.ntmps16
    go_wp2
    go_ret
    exact ⟨rfl, by (repeat (first | with_reducible exact Below.refl _ _ | (with_reducible refine Below.setCell ?_ (by first | (simp; done) | (simp; omega) | omega) _) | (with_reducible refine Below.alloc ?_ (by first | (simp; done) | (simp; omega) | omega) _) | (with_reducible refine Below.drew ?_)))⟩
set_option maxHeartbeats 1000000 in
theorem take_out {w : World} {B : Nat} (hB : B < w.heap.size) (i : Int) (hi : ¬ (0 ≤ i ∧ i < 32)) :
    Calls Try.prog 17 #[.pointer (some ⟨B, 0, none⟩), .int .i64 i] w fun e w' => e = .returned (.tuple #[.agg #[.int .i64 0, .int .i64 0, .bool false, .int .i64 0], .int .i64 2]) ∧ Below w.heap.size w w' := by
  obtain ⟨r0, r1, r2, r3⟩ := Ly.cells4 (alloc_its w (.cells #[.int .i64 0, .int .i64 0, .bool false, .int .i64 0] 30 (0, 0)))
  by_cases h0 : i < 0
  · go_enter Try.func17, Try.ntmps17
    go_wp2
    refine Ly.ret_of (by simp [results, Try.results17, go_sem, r0, r1, r2, r3] <;> (repeat' (first | rfl | apply And.intro))) rfl ⟨rfl, (Below.refl _ _).alloc (Nat.le_refl _) _⟩
  · have h1 : 32 ≤ i := by omega
    go_enter Try.func17, Try.ntmps17
    go_wp2
    refine Ly.ret_of (by simp [results, Try.results17, go_sem, r0, r1, r2, r3] <;> (repeat' (first | rfl | apply And.intro))) rfl ⟨rfl, (Below.refl _ _).alloc (Nat.le_refl _) _⟩
end Go.Proofs.Ytljfloopjgpaeaa
