/- tollbarlaw32.alive. -/
import Derived.Test.YtljfloopjgpaeabLM
import Derived.Test.YtljfloopjgpaeabLH
namespace Go.Proofs.Ytljfloopjgpaeab
set_option linter.unusedVariables false
set_option linter.unusedSimpArgs false
open Go.RowKit Go.Shelf
attribute [local go_sem] Oper.semAt_some
set_option maxRecDepth 100000
set_option maxHeartbeats 4000000
theorem ix0 (a0 a1 a2 a3 : Int) (w : World) : (Instr.index 58 (.agg #[.int .i64 a0, .int .i64 a1, .int .i64 a2, .int .i64 a3]) (.int .i64 0)).run Try.prog w = .ok (.int .i64 a0) w := by
  unfold Instr.index
  go_simp
theorem ix1 (a0 a1 a2 a3 : Int) (w : World) : (Instr.index 58 (.agg #[.int .i64 a0, .int .i64 a1, .int .i64 a2, .int .i64 a3]) (.int .i64 1)).run Try.prog w = .ok (.int .i64 a1) w := by
  unfold Instr.index
  go_simp
theorem ix2 (a0 a1 a2 a3 : Int) (w : World) : (Instr.index 58 (.agg #[.int .i64 a0, .int .i64 a1, .int .i64 a2, .int .i64 a3]) (.int .i64 2)).run Try.prog w = .ok (.int .i64 a2) w := by
  unfold Instr.index
  go_simp
theorem ix3 (a0 a1 a2 a3 : Int) (w : World) : (Instr.index 58 (.agg #[.int .i64 a0, .int .i64 a1, .int .i64 a2, .int .i64 a3]) (.int .i64 3)).run Try.prog w = .ok (.int .i64 a3) w := by
  unfold Instr.index
  go_simp
attribute [local go_sem] ix0 ix1 ix2 ix3
theorem within_1 (w : World) : Calls Try.prog 23 #[.agg #[.int .i64 1, .int .i64 1, .int .i64 1, .int .i64 1, .int .i64 1, .int .i64 1], .agg #[.int .i64 0, .int .i64 0, .int .i64 0, .int .i64 0]] w fun e w' => e = .returned (.bool true) ∧ Below w.heap.size w w' := by
  go_enter Try.func23, Try.ntmps23
  go_wp2_with (first | (go_at_call 46; (with_reducible refine (bOf_1 _).mono ?_); rintro e w1 ⟨rfl, hb1⟩; have hx := (hb1.block (w.heap.size + 1) (by simp)).trans (alloc_at3 (w := w.alloc (.cells #[.int .i64 1, .int .i64 1, .int .i64 1, .int .i64 1, .int .i64 1, .int .i64 1] 48)) (o := .cells #[.int .i64 0, .int .i64 0, .int .i64 0, .int .i64 0] 32) (by simp)); (obtain ⟨x0, x1, x2, x3⟩ := Lx.cells4 hx); have xl := (Array.getElem?_eq_some_iff.1 hx).1; have HB := Lib.hid (show Below w.heap.size w w1 by (have hszq := hb1.size; (try simp only [World.size_alloc] at hszq); (repeat (first | (with_reducible refine Below.setCell ?_ (by first | (simp; done) | (simp; omega) | omega) _) | (with_reducible refine Below.alloc ?_ (by first | (simp; done) | (simp; omega) | omega) _) | (with_reducible refine Below.drew ?_))); refine Below.trans ?_ (hb1.mono (by first | (simp; done) | (simp; omega) | omega)); (repeat (first | with_reducible exact Below.refl _ _ | (with_reducible refine Below.setCell ?_ (by first | (simp; done) | (simp; omega) | omega) _) | (with_reducible refine Below.alloc ?_ (by first | (simp; done) | (simp; omega) | omega) _) | (with_reducible refine Below.drew ?_))))); clear hb1 hx) | (go_at_call 27; (with_reducible refine (row_any _ _ _ _ _).mono ?_); rintro e w2 ⟨rfl, hb2⟩; have HB2 := Lib.hid (HB.out.trans (hb2.mono HB.out.size)); clear hb2))
  refine wp_loop_rounds 5 ?_
  rw [rounds_succ]
  go_wp2
  rw [rounds_succ]
  go_wp2
  rw [rounds_succ]
  go_wp2
  rw [rounds_succ]
  go_wp2
  rw [rounds_succ]
  go_wp2
  go_ret
  exact ⟨rfl, HB2.out⟩
theorem within_big (w : World) : Calls Try.prog 23 #[.agg #[.int .i64 1, .int .i64 1, .int .i64 1, .int .i64 1, .int .i64 1, .int .i64 1], .agg #[.int .i64 0, .int .i64 4611686018427387904, .int .i64 0, .int .i64 0]] w fun e w' => e = .returned (.bool false) ∧ Below w.heap.size w w' := by
  go_enter Try.func23, Try.ntmps23
  go_wp2_with (first | (go_at_call 46; (with_reducible refine (bOf_1 _).mono ?_); rintro e w1 ⟨rfl, hb1⟩; have hx := (hb1.block (w.heap.size + 1) (by simp)).trans (alloc_at3 (w := w.alloc (.cells #[.int .i64 1, .int .i64 1, .int .i64 1, .int .i64 1, .int .i64 1, .int .i64 1] 48)) (o := .cells #[.int .i64 0, .int .i64 4611686018427387904, .int .i64 0, .int .i64 0] 32) (by simp)); (obtain ⟨x0, x1, x2, x3⟩ := Lx.cells4 hx); have xl := (Array.getElem?_eq_some_iff.1 hx).1; have HB := Lib.hid (show Below w.heap.size w w1 by (have hszq := hb1.size; (try simp only [World.size_alloc] at hszq); (repeat (first | (with_reducible refine Below.setCell ?_ (by first | (simp; done) | (simp; omega) | omega) _) | (with_reducible refine Below.alloc ?_ (by first | (simp; done) | (simp; omega) | omega) _) | (with_reducible refine Below.drew ?_))); refine Below.trans ?_ (hb1.mono (by first | (simp; done) | (simp; omega) | omega)); (repeat (first | with_reducible exact Below.refl _ _ | (with_reducible refine Below.setCell ?_ (by first | (simp; done) | (simp; omega) | omega) _) | (with_reducible refine Below.alloc ?_ (by first | (simp; done) | (simp; omega) | omega) _) | (with_reducible refine Below.drew ?_))))); clear hb1 hx) | (go_at_call 27; (with_reducible refine (row_any _ _ _ _ _).mono ?_); rintro e w2 ⟨rfl, hb2⟩; have HB2 := Lib.hid (HB.out.trans (hb2.mono HB.out.size)); clear hb2))
  refine wp_loop_rounds 5 ?_
  rw [rounds_succ]
  go_wp2
  rw [rounds_succ]
  go_wp2
  go_ret
  exact ⟨rfl, HB2.out⟩
theorem within_0 (w : World) : Calls Try.prog 23 #[.agg #[.int .i64 0, .int .i64 0, .int .i64 0, .int .i64 0, .int .i64 0, .int .i64 0], .agg #[.int .i64 0, .int .i64 0, .int .i64 0, .int .i64 0]] w fun e w' => e = .returned (.bool false) ∧ Below w.heap.size w w' := by
  go_enter Try.func23, Try.ntmps23
  go_wp2_with (first | (go_at_call 46; (with_reducible refine (bOf_0 _).mono ?_); rintro e w1 ⟨rfl, hb1⟩; have hx := (hb1.block (w.heap.size + 1) (by simp)).trans (alloc_at3 (w := w.alloc (.cells #[.int .i64 0, .int .i64 0, .int .i64 0, .int .i64 0, .int .i64 0, .int .i64 0] 48)) (o := .cells #[.int .i64 0, .int .i64 0, .int .i64 0, .int .i64 0] 32) (by simp)); (obtain ⟨x0, x1, x2, x3⟩ := Lx.cells4 hx); have xl := (Array.getElem?_eq_some_iff.1 hx).1; have HB := Lib.hid (show Below w.heap.size w w1 by (have hszq := hb1.size; (try simp only [World.size_alloc] at hszq); (repeat (first | (with_reducible refine Below.setCell ?_ (by first | (simp; done) | (simp; omega) | omega) _) | (with_reducible refine Below.alloc ?_ (by first | (simp; done) | (simp; omega) | omega) _) | (with_reducible refine Below.drew ?_))); refine Below.trans ?_ (hb1.mono (by first | (simp; done) | (simp; omega) | omega)); (repeat (first | with_reducible exact Below.refl _ _ | (with_reducible refine Below.setCell ?_ (by first | (simp; done) | (simp; omega) | omega) _) | (with_reducible refine Below.alloc ?_ (by first | (simp; done) | (simp; omega) | omega) _) | (with_reducible refine Below.drew ?_))))); clear hb1 hx) | (go_at_call 27; (with_reducible refine (row_any _ _ _ _ _).mono ?_); rintro e w2 ⟨rfl, hb2⟩; have HB2 := Lib.hid (HB.out.trans (hb2.mono HB.out.size)); clear hb2))
  refine wp_loop_rounds 5 ?_
  rw [rounds_succ]
  go_wp2
  go_ret
  exact ⟨rfl, HB2.out⟩
theorem size_1 (A : Option Addr) (c : Nat) (w : World) : Calls Try.prog 22 #[.agg #[.slice A 1 c, .slice none 0 0, .slice none 0 0], .agg #[.int .i64 1, .int .i64 1, .int .i64 1], .int .i64 1] w fun e w' => e = .returned (.agg #[.int .i64 1, .int .i64 1, .int .i64 1, .int .i64 1, .int .i64 1, .int .i64 1]) ∧ Below w.heap.size w w' := by
  go_enter Try.func22, Try.ntmps22
  go_wp2
  refine wp_loop_rounds 1 ?_
  rw [rounds_succ]
  go_wp2
  have hE := alloc_at3 (w := (w.alloc (.cells #[.slice A 1 c, .slice none 0 0, .slice none 0 0] 54)).alloc (.cells #[.int .i64 1, .int .i64 1, .int .i64 1] 56)) (o := .cells #[.int .i64 1, .int .i64 1, .int .i64 1, .int .i64 1, .int .i64 1, .int .i64 1] 48) (i := w.heap.size + 1 + 1) (by simp)
  have z0 := Lx.cellAt hE 0 rfl
  have z1 := Lx.cellAt hE 1 rfl
  have z2 := Lx.cellAt hE 2 rfl
  have z3 := Lx.cellAt hE 3 rfl
  have z4 := Lx.cellAt hE 4 rfl
  have z5 := Lx.cellAt hE 5 rfl
  refine Lx.ret_of (by simp [results, Try.results22, go_sem, z0, z1, z2, z3, z4, z5] <;> (repeat' (first | rfl | apply And.intro))) rfl ⟨rfl, by (repeat (first | with_reducible exact Below.refl _ _ | (with_reducible refine Below.setCell ?_ (by first | (simp; done) | (simp; omega) | omega) _) | (with_reducible refine Below.alloc ?_ (by first | (simp; done) | (simp; omega) | omega) _) | (with_reducible refine Below.drew ?_)))⟩
/-- The example's entries. -/
def exL : List EntV := [⟨3, 9, 0, 0, 1, 0, 0, 0, 0, 0, false, 0, 0⟩, ⟨10, 21, 0, 1, 0, 0, 0, 0, 0, 0, false, 0, 0⟩, ⟨14, 10, 0, 1, 0, 0, 0, 0, 0, 0, false, 0, 0⟩]
theorem flatMap_at : ∀ (l : List EntV) (i b : Nat) (x : EntV), l[i]? = some x → ∀ j, j < 13 → (l.flatMap EntV.cells)[i * 13 + j]? = x.cells[j]?
  | [], i, b, x, h, _, _ => by simp at h
  | y :: l, 0, b, x, h, j, hj => by
    obtain rfl : y = x := by simpa using h
    simp only [List.flatMap_cons, Nat.zero_mul, Nat.zero_add]
    exact List.getElem?_append_left (by simpa [EntV.cells] using hj)
  | y :: l, i + 1, b, x, h, j, hj => by
    have := flatMap_at l i b x (by simpa using h) j hj
    simp only [List.flatMap_cons]
    rw [List.getElem?_append_right (by simp [EntV.cells]; omega)]
    have hl : y.cells.length = 13 := rfl
    rw [hl, show (i + 1) * 13 + j - 13 = i * 13 + j by omega]
    exact this
theorem kEnt_block {W : World} {g : Nat} {l : List EntV} (h : W.heap[g]? = some (.cells (l.flatMap EntV.cells).toArray 30 (0, 0))) (hl : l.length ≤ 1000) : kEnt.R W (.slice (some ⟨g, 0, none⟩) l.length l.length) l := by
  refine ⟨_, _, rfl, Nat.le_refl _, by unfold maxLen; omega, by omega, fun _ => ⟨g, 0, rfl, (Array.getElem?_eq_some_iff.1 h).1, fun i x hi => ⟨x.cells, ⟨rfl, trivial⟩, fun j u hj => ?_⟩⟩⟩
  have hf := flatMap_at l i 0 x hi
  simp only [World.cell?, h]
  rw [List.getElem?_toArray]
  have hj13 : j < 13 := (List.getElem?_eq_some_iff.1 hj).1
  rw [show 0 + i * kEnt.sz + j = i * 13 + j from by show 0 + i * 13 + j = _; omega]
  exact hf j hj13 |>.trans hj
theorem ex_0 : ofV 0 exL 20 = 20 := by decide +kernel
theorem ex_1 : ofV 1 exL 20 = 4 := by decide +kernel
theorem ex_2 : ofV 2 exL 20 = 6 := by decide +kernel
theorem ex_3 : ofV 3 exL 20 = 0 := by decide +kernel
theorem of_ex {W : World} {g : Nat} (h : W.heap[g]? = some (.cells (exL.flatMap EntV.cells).toArray 30 (0, 0))) : Calls Try.prog 7 #[.int .i64 20, .slice (some ⟨g, 0, none⟩) 3 3] W fun e w' => e = .returned (.agg #[.int .i64 20, .int .i64 4, .int .i64 6, .int .i64 0]) ∧ Below W.heap.size W w' := by
  have := of_any (kEnt_block h (by decide)) 20 (by decide) (by omega)
  rw [ex_0, ex_1, ex_2, ex_3] at this
  exact this
theorem alive32_any (w : World) : Calls Try.prog 6 #[] w fun e w' => e = .returned (.bool true) ∧ Below w.heap.size w w' := by
  have hel := fun (a0 a1 a2 a3 b0 b1 b2 b3 : Int) (w : World) => eq_lags 9998 a0 a1 a2 a3 b0 b1 b2 b3 w
  have hes := eq_size1
  go_enter Try.func6, Try.ntmps6
  go_upto_region 3 with (go_at_call 22; (with_reducible refine (size_1 _ _ _).mono ?_); rintro e w1 ⟨rfl, hb1⟩; have hblk : w1.heap[w.heap.size]? = some (.cells (exL.flatMap EntV.cells).toArray 30 (0, 0)) := (hb1.block _ (by simp; omega)).trans ((Below.heap_alloc _ _ _ (by simp)).trans (World.alloc_heap_new w _)); have HK := Lib.hid hblk; have HB := Lib.hid (show Below w.heap.size w w1 by (have hszq := hb1.size; (try simp only [World.size_alloc] at hszq); (repeat (first | (with_reducible refine Below.setCell ?_ (by first | (simp; done) | (simp; omega) | omega) _) | (with_reducible refine Below.alloc ?_ (by first | (simp; done) | (simp; omega) | omega) _) | (with_reducible refine Below.drew ?_))); refine Below.trans ?_ (hb1.mono (by first | (simp; done) | (simp; omega) | omega)); (repeat (first | with_reducible exact Below.refl _ _ | (with_reducible refine Below.setCell ?_ (by first | (simp; done) | (simp; omega) | omega) _) | (with_reducible refine Below.alloc ?_ (by first | (simp; done) | (simp; omega) | omega) _) | (with_reducible refine Below.drew ?_))))); clear hb1 hblk)
  have hz0 : (w1.alloc (.cells #[.int .i64 1, .int .i64 1, .int .i64 1, .int .i64 1, .int .i64 1, .int .i64 1] 48)).heap[w1.heap.size]? = _ := World.alloc_heap_new w1 _
  have hk0 := (Below.heap_alloc w1 (.cells #[.int .i64 1, .int .i64 1, .int .i64 1, .int .i64 1, .int .i64 1, .int .i64 1] 48) _ (Array.getElem?_eq_some_iff.1 HK.out).1).trans HK.out
  have hb0 := HB.out.alloc HB.out.size (.cells #[.int .i64 1, .int .i64 1, .int .i64 1, .int .i64 1, .int .i64 1, .int .i64 1] 48)
  generalize hW2 : w1.alloc (.cells #[.int .i64 1, .int .i64 1, .int .i64 1, .int .i64 1, .int .i64 1, .int .i64 1] 48) = W2 at *
  have HZ := Lib.hid hz0
  have HKK := Lib.hid hk0
  replace HB := Lib.hid hb0
  clear hz0 hk0 hb0 hW2 HK
  have P_ := HZ.out; have y0 := Lx.cellAt P_ 0 rfl; have y1 := Lx.cellAt P_ 1 rfl; have y2 := Lx.cellAt P_ 2 rfl; have y3 := Lx.cellAt P_ 3 rfl; have y4 := Lx.cellAt P_ 4 rfl; have y5 := Lx.cellAt P_ 5 rfl; have yl := (Array.getElem?_eq_some_iff.1 P_).1; clear P_
  go_wp2_with (first | (go_at_call 7; (with_reducible refine (of_ex HKK.out).mono ?_); rintro e w2 ⟨rfl, hbk⟩; clear y0 y1 y2 y3 y4 y5 yl; (replace HZ := Lib.hid ((hbk.block _ (Array.getElem?_eq_some_iff.1 HZ.out).1).trans HZ.out)); (replace HB := Lib.hid (HB.out.trans (hbk.mono HB.out.size))); clear hbk; have P_ := HZ.out; have y0 := Lx.cellAt P_ 0 rfl; have y1 := Lx.cellAt P_ 1 rfl; have y2 := Lx.cellAt P_ 2 rfl; have y3 := Lx.cellAt P_ 3 rfl; have y4 := Lx.cellAt P_ 4 rfl; have y5 := Lx.cellAt P_ 5 rfl; have yl := (Array.getElem?_eq_some_iff.1 P_).1; clear P_) | (go_at_call 23; (with_reducible refine (within_1 _).mono ?_); rintro e w3 ⟨rfl, hbk⟩; clear y0 y1 y2 y3 y4 y5 yl; (replace HZ := Lib.hid ((hbk.block _ (Array.getElem?_eq_some_iff.1 HZ.out).1).trans HZ.out)); (replace HB := Lib.hid (HB.out.trans (hbk.mono HB.out.size))); clear hbk; have P_ := HZ.out; have y0 := Lx.cellAt P_ 0 rfl; have y1 := Lx.cellAt P_ 1 rfl; have y2 := Lx.cellAt P_ 2 rfl; have y3 := Lx.cellAt P_ 3 rfl; have y4 := Lx.cellAt P_ 4 rfl; have y5 := Lx.cellAt P_ 5 rfl; have yl := (Array.getElem?_eq_some_iff.1 P_).1; clear P_) | (go_at_call 23; (with_reducible refine (within_0 _).mono ?_); rintro e w4 ⟨rfl, hbk⟩; clear y0 y1 y2 y3 y4 y5 yl; (replace HZ := Lib.hid ((hbk.block _ (Array.getElem?_eq_some_iff.1 HZ.out).1).trans HZ.out)); (replace HB := Lib.hid (HB.out.trans (hbk.mono HB.out.size))); clear hbk; have P_ := HZ.out; have y0 := Lx.cellAt P_ 0 rfl; have y1 := Lx.cellAt P_ 1 rfl; have y2 := Lx.cellAt P_ 2 rfl; have y3 := Lx.cellAt P_ 3 rfl; have y4 := Lx.cellAt P_ 4 rfl; have y5 := Lx.cellAt P_ 5 rfl; have yl := (Array.getElem?_eq_some_iff.1 P_).1; clear P_) | (go_at_call 23; (with_reducible refine (within_big _).mono ?_); rintro e w5 ⟨rfl, hbk⟩; clear y0 y1 y2 y3 y4 y5 yl; (replace HZ := Lib.hid ((hbk.block _ (Array.getElem?_eq_some_iff.1 HZ.out).1).trans HZ.out)); (replace HB := Lib.hid (HB.out.trans (hbk.mono HB.out.size))); clear hbk; have P_ := HZ.out; have y0 := Lx.cellAt P_ 0 rfl; have y1 := Lx.cellAt P_ 1 rfl; have y2 := Lx.cellAt P_ 2 rfl; have y3 := Lx.cellAt P_ 3 rfl; have y4 := Lx.cellAt P_ 4 rfl; have y5 := Lx.cellAt P_ 5 rfl; have yl := (Array.getElem?_eq_some_iff.1 P_).1; clear P_))
  go_ret
  exact ⟨rfl, HB.out⟩
end Go.Proofs.Ytljfloopjgpaeab
