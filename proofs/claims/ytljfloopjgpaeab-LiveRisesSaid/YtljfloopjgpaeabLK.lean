/- bound: what a size of ones comes to; live.Size, Within, of the example. -/
import Derived.Test.YtljfloopjgpaeabLI
import Derived.LoopN
namespace Go.Proofs.Ytljfloopjgpaeab
set_option linter.unusedVariables false
set_option linter.unusedSimpArgs false
open Go.RowKit Go.Shelf
attribute [local go_sem] Oper.semAt_some
set_option maxRecDepth 100000
set_option maxHeartbeats 2000000
theorem plus_56_0 {w : World} {g : Nat} (hg : w.heap[g]? = some (.cells #[.int .u64 56, .int .u64 0] 27 (0, 0))) : Calls Try.prog 62 #[.slice (some ⟨g, 0, none⟩) 2 2] w fun e w' => e = .returned (.int .u64 56) ∧ Below w.heap.size w w' := by (have gl := (Array.getElem?_eq_some_iff.1 hg).1; have c0 := Lx.cellAt hg 0 rfl; have c1 := Lx.cellAt hg 1 rfl; clear hg; (go_enter Try.func62, Try.ntmps62); go_wp2; (refine wp_loop_rounds 3 ?_); rw [rounds_succ]; go_wp2; rw [rounds_succ]; go_wp2; rw [rounds_succ]; go_wp2; go_ret; exact ⟨rfl, Below.refl _ _⟩)
theorem plus_0_56_2 {w : World} {g : Nat} (hg : w.heap[g]? = some (.cells #[.int .u64 0, .int .u64 56, .int .u64 2] 27 (0, 0))) : Calls Try.prog 62 #[.slice (some ⟨g, 0, none⟩) 3 3] w fun e w' => e = .returned (.int .u64 58) ∧ Below w.heap.size w w' := by (have gl := (Array.getElem?_eq_some_iff.1 hg).1; have c0 := Lx.cellAt hg 0 rfl; have c1 := Lx.cellAt hg 1 rfl; have c2 := Lx.cellAt hg 2 rfl; clear hg; (go_enter Try.func62, Try.ntmps62); go_wp2; (refine wp_loop_rounds 4 ?_); rw [rounds_succ]; go_wp2; rw [rounds_succ]; go_wp2; rw [rounds_succ]; go_wp2; rw [rounds_succ]; go_wp2; go_ret; exact ⟨rfl, Below.refl _ _⟩)
theorem plus_58_56_24 {w : World} {g : Nat} (hg : w.heap[g]? = some (.cells #[.int .u64 58, .int .u64 56, .int .u64 24] 27 (0, 0))) : Calls Try.prog 62 #[.slice (some ⟨g, 0, none⟩) 3 3] w fun e w' => e = .returned (.int .u64 138) ∧ Below w.heap.size w w' := by (have gl := (Array.getElem?_eq_some_iff.1 hg).1; have c0 := Lx.cellAt hg 0 rfl; have c1 := Lx.cellAt hg 1 rfl; have c2 := Lx.cellAt hg 2 rfl; clear hg; (go_enter Try.func62, Try.ntmps62); go_wp2; (refine wp_loop_rounds 4 ?_); rw [rounds_succ]; go_wp2; rw [rounds_succ]; go_wp2; rw [rounds_succ]; go_wp2; rw [rounds_succ]; go_wp2; go_ret; exact ⟨rfl, Below.refl _ _⟩)
theorem plus_414_32 {w : World} {g : Nat} (hg : w.heap[g]? = some (.cells #[.int .u64 414, .int .u64 32] 27 (0, 0))) : Calls Try.prog 62 #[.slice (some ⟨g, 0, none⟩) 2 2] w fun e w' => e = .returned (.int .u64 446) ∧ Below w.heap.size w w' := by (have gl := (Array.getElem?_eq_some_iff.1 hg).1; have c0 := Lx.cellAt hg 0 rfl; have c1 := Lx.cellAt hg 1 rfl; clear hg; (go_enter Try.func62, Try.ntmps62); go_wp2; (refine wp_loop_rounds 3 ?_); rw [rounds_succ]; go_wp2; rw [rounds_succ]; go_wp2; rw [rounds_succ]; go_wp2; go_ret; exact ⟨rfl, Below.refl _ _⟩)
theorem times_1_56 {w : World} {g : Nat} (hg : w.heap[g]? = some (.cells #[.int .u64 1, .int .u64 56] 27 (0, 0))) : Calls Try.prog 64 #[.slice (some ⟨g, 0, none⟩) 2 2] w fun e w' => e = .returned (.int .u64 56) ∧ Below w.heap.size w w' := by (have gl := (Array.getElem?_eq_some_iff.1 hg).1; have c0 := Lx.cellAt hg 0 rfl; have c1 := Lx.cellAt hg 1 rfl; clear hg; (go_enter Try.func64, Try.ntmps64); go_wp2; (refine wp_loop_rounds 3 ?_); rw [rounds_succ]; go_wp2; rw [rounds_succ]; go_wp2; rw [rounds_succ]; go_wp2; go_ret; exact ⟨rfl, Below.refl _ _⟩)
theorem times_3_8 {w : World} {g : Nat} (hg : w.heap[g]? = some (.cells #[.int .u64 3, .int .u64 8] 27 (0, 0))) : Calls Try.prog 64 #[.slice (some ⟨g, 0, none⟩) 2 2] w fun e w' => e = .returned (.int .u64 24) ∧ Below w.heap.size w w' := by (have gl := (Array.getElem?_eq_some_iff.1 hg).1; have c0 := Lx.cellAt hg 0 rfl; have c1 := Lx.cellAt hg 1 rfl; clear hg; (go_enter Try.func64, Try.ntmps64); go_wp2; (refine wp_loop_rounds 3 ?_); rw [rounds_succ]; go_wp2; rw [rounds_succ]; go_wp2; rw [rounds_succ]; go_wp2; go_ret; exact ⟨rfl, Below.refl _ _⟩)
theorem times_3_138 {w : World} {g : Nat} (hg : w.heap[g]? = some (.cells #[.int .u64 3, .int .u64 138] 27 (0, 0))) : Calls Try.prog 64 #[.slice (some ⟨g, 0, none⟩) 2 2] w fun e w' => e = .returned (.int .u64 414) ∧ Below w.heap.size w w' := by (have gl := (Array.getElem?_eq_some_iff.1 hg).1; have c0 := Lx.cellAt hg 0 rfl; have c1 := Lx.cellAt hg 1 rfl; clear hg; (go_enter Try.func64, Try.ntmps64); go_wp2; (refine wp_loop_rounds 3 ?_); rw [rounds_succ]; go_wp2; rw [rounds_succ]; go_wp2; rw [rounds_succ]; go_wp2; go_ret; exact ⟨rfl, Below.refl _ _⟩)
theorem times_1_2_446 {w : World} {g : Nat} (hg : w.heap[g]? = some (.cells #[.int .u64 1, .int .u64 2, .int .u64 446] 27 (0, 0))) : Calls Try.prog 64 #[.slice (some ⟨g, 0, none⟩) 3 3] w fun e w' => e = .returned (.int .u64 892) ∧ Below w.heap.size w w' := by (have gl := (Array.getElem?_eq_some_iff.1 hg).1; have c0 := Lx.cellAt hg 0 rfl; have c1 := Lx.cellAt hg 1 rfl; have c2 := Lx.cellAt hg 2 rfl; clear hg; (go_enter Try.func64, Try.ntmps64); go_wp2; (refine wp_loop_rounds 4 ?_); rw [rounds_succ]; go_wp2; rw [rounds_succ]; go_wp2; rw [rounds_succ]; go_wp2; rw [rounds_succ]; go_wp2; go_ret; exact ⟨rfl, Below.refl _ _⟩)
def ones : Value := .agg #[.int .i64 1, .int .i64 1, .int .i64 1, .int .i64 1, .int .i64 1, .int .i64 1]
theorem hold_1 (w : World) : Calls Try.prog 63 #[.agg #[.int .i64 1, .int .i64 1, .int .i64 1, .int .i64 1, .int .i64 1, .int .i64 1]] w fun e w' => e = .returned (.int .u64 56) ∧ Below w.heap.size w w' := by
  go_enter Try.func63, Try.ntmps63
  go_wp2
  go_ret
  exact ⟨rfl, by (repeat (first | with_reducible exact Below.refl _ _ | (with_reducible refine Below.setCell ?_ (by first | (simp; done) | (simp; omega) | omega) _) | (with_reducible refine Below.alloc ?_ (by first | (simp; done) | (simp; omega) | omega) _) | (with_reducible refine Below.drew ?_)))⟩
theorem check_1 (w : World) : Calls Try.prog 60 #[.agg #[.int .i64 1, .int .i64 1, .int .i64 1, .int .i64 1, .int .i64 1, .int .i64 1]] w fun e w' => e = .returned (.int .i64 0) ∧ Below w.heap.size w w' := by
  go_enter Try.func60, Try.ntmps60
  go_wp2_with go_in
  go_ret
  exact ⟨rfl, by (repeat (first | with_reducible exact Below.refl _ _ | (with_reducible refine Below.setCell ?_ (by first | (simp; done) | (simp; omega) | omega) _) | (with_reducible refine Below.alloc ?_ (by first | (simp; done) | (simp; omega) | omega) _) | (with_reducible refine Below.drew ?_)))⟩
theorem check_0 (w : World) : Calls Try.prog 60 #[.agg #[.int .i64 0, .int .i64 0, .int .i64 0, .int .i64 0, .int .i64 0, .int .i64 0]] w fun e w' => e = .returned (.int .i64 2) ∧ Below w.heap.size w w' := by
  go_enter Try.func60, Try.ntmps60
  go_wp2_with go_in
  go_ret
  exact ⟨rfl, by (repeat (first | with_reducible exact Below.refl _ _ | (with_reducible refine Below.setCell ?_ (by first | (simp; done) | (simp; omega) | omega) _) | (with_reducible refine Below.alloc ?_ (by first | (simp; done) | (simp; omega) | omega) _) | (with_reducible refine Below.drew ?_)))⟩
end Go.Proofs.Ytljfloopjgpaeab
