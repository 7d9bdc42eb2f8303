/- task: Use, Hold, Len. -/
import Derived.Test.YtljfloopjgpaeaaSG
import Derived.Deep.RegionHeld3
import Derived.Deep.RegionLaw
import Derived.Deep.AppendLies
namespace Go.Proofs.Ytljfloopjgpaeaa
set_option linter.unusedVariables false
set_option linter.unusedSimpArgs false
open Go.RowKit Go.Shelf
attribute [local go_sem] Oper.semAt_some
set_option maxRecDepth 100000
theorem infoInt2 : (Try.prog.info? 3).map (fun i => (i.zero, i.size, i.bytes)) = some (some (.int .i64 0), 1, 8) := by kernel_rfl
theorem OneAt.grown {W W' : World} {X : Nat} {used : Int} {sl : Value} {M : Nat} (h : OneAt W X used sl M) (hg : W.grownBy W' none) : OneAt W' X used sl M := (hg.block X h.lt (by simp)).trans h
theorem own_cell {w : World} {B e sz n g c : Nat} {xs : List Value} (h : w.ownsRow B e sz (.slice (some ⟨g, 0, none⟩) n c) n xs) {j : Nat} {v : Value} (hv : xs[j]? = some v) : w.cell? ⟨g, j, none⟩ = some v ∧ B ≤ g := by
  rcases h.2 with ⟨q, _⟩ | ⟨g', cap, cur, hq, hB, hh, _, _, _, h4⟩
  · cases q
  · injection hq with q1 _ _
    injection q1 with q1
    injection q1 with q1 _ _
    subst q1
    refine ⟨?_, hB⟩
    rw [← h4, List.getElem?_take] at hv
    simp only [World.cell?, hh]
    rw [← Array.getElem?_toList]
    split at hv
    · exact hv
    · cases hv
section
variable {w : World} {T : Nat} {x1 x2 x3 : Value} {A n cap i X : Nat} {used : Int} {sl : Value} {M : Nat} {d : Nat → Option Value} (h : TabOne w T x1 x2 x3 A n cap i X used sl M d)
include h
set_option maxHeartbeats 1000000 in
theorem tLen_at : Calls Try.prog 90 #[.pointer (some ⟨T, 0, none⟩)] w fun e w' => e = .returned (.int .i64 n) ∧ w' = w := by
  have hTl := h.tab.lt; have c3 := h.tab.c3; have hAl := h.al; have ca := h.cell; have e0 : (0 : Int) ≤ (i : Int) := (by omega); have e1 : (i : Int) < (n : Int) := (by have := h.lt; omega); have d0 : decide ((i : Int) < 0) = false := (by simp); have d1 : decide ((i : Int) ≥ (n : Int)) = false := (by simp; omega)
  clear h
  go_enter Try.func90, Try.ntmps90
  go_wp2
  go_ret
  exact ⟨rfl, rfl⟩
omit h in
theorem setUsed {w : World} {X : Nat} {used : Int} {sl : Value} {M : Nat} (h : OneAt w X used sl M) (x : Int) : OneAt (w.setCell ⟨X, 11, none⟩ (.int .i64 x)) X x sl M := by
  unfold OneAt at *
  simp [World.setCell, Array.getElem?_modify, h]
omit h in
theorem setSlots {w : World} {X : Nat} {used : Int} {sl : Value} {M : Nat} (h : OneAt w X used sl M) (x : Value) : OneAt (w.setCell ⟨X, 12, none⟩ x) X used x M := by
  unfold OneAt at *
  simp [World.setCell, Array.getElem?_modify, h]
omit h in
theorem only_set (w : World) (X i : Nat) (u : Value) : Only X w (w.setCell ⟨X, i, none⟩ u) := ⟨rfl, rfl, rfl, by simp [World.setCell], fun k _ hk => Below.heap_setCell _ _ _ _ hk⟩
set_option maxHeartbeats 1000000 in
theorem tUse_at (hu : 0 ≤ used ∧ used < 1000) : Calls Try.prog 88 #[.pointer (some ⟨T, 0, none⟩), .int .i64 i] w fun e w' => e = .returned (.tuple #[.int .i64 (used + 1), .int .i64 0]) ∧ OneAt w' X (used + 1) sl M ∧ Only X w w' := by
  have hTl := h.tab.lt; have c3 := h.tab.c3; have hAl := h.al; have ca := h.cell; have e0 : (0 : Int) ≤ (i : Int) := (by omega); have e1 : (i : Int) < (n : Int) := (by have := h.lt; omega); have d0 : decide ((i : Int) < 0) = false := (by simp); have d1 : decide ((i : Int) ≥ (n : Int)) = false := (by simp; omega)
  have hXl := h.one.lt
  have c11 := h.one.c11
  have f11 : w.frozen? ⟨X, 11, none⟩ = false := Ly.frozAt h.one 11
  have hwr : IntKind.i64.wrap (used + 1) = used + 1 := IntWalk.i64_in _ (by omega)
  have HO := Lib.hid (setUsed h.one (used + 1))
  clear h
  go_enter Try.func88, Try.ntmps88
  go_wp2_with go_in
  have r0 := Ly.cellAt (World.alloc_heap_new (w.setCell ⟨X, 11, none⟩ (.int .i64 (used + 1))) (.cells #[.int .i64 (used + 1)] 3)) 0 rfl
  rw [World.size_setCell] at r0
  refine Ly.ret_of (by simp [results, Try.results88, go_sem, r0] <;> (repeat' (first | rfl | apply And.intro))) rfl ⟨rfl, HO.out.keep ((Below.refl _ _).alloc (Nat.le_refl _) _) HO.out.lt, (only_set _ _ _ _).trans (only_of_below _ ((Below.refl _ _).alloc (Nat.le_refl _) _))⟩
set_option maxHeartbeats 1000000 in
theorem tHold_have {k : Int} (hsl : ∃ g c, sl = .slice (some ⟨g, 0, none⟩) 1 c ∧ w.cell? ⟨g, 0, none⟩ = some (.int .i64 k)) : Calls Try.prog 89 #[.pointer (some ⟨T, 0, none⟩), .int .i64 i, .int .i64 k] w fun e w' => e = .returned (.int .i64 9) ∧ Below w.heap.size w w' := by
  obtain ⟨g, c, rfl, hg⟩ := hsl
  have hTl := h.tab.lt; have c3 := h.tab.c3; have hAl := h.al; have ca := h.cell; have e0 : (0 : Int) ≤ (i : Int) := (by omega); have e1 : (i : Int) < (n : Int) := (by have := h.lt; omega); have d0 : decide ((i : Int) < 0) = false := (by simp); have d1 : decide ((i : Int) ≥ (n : Int)) = false := (by simp; omega)
  have hXl := h.one.lt
  have c12 := h.one.c12
  have hgl : g < w.heap.size := World.block_lt_of_cell? w _ hg
  have HC := Lib.hid (fun (W : World) (h : W.cell? ⟨g, 0, none⟩ = some (.int .i64 k)) => Try.slices_Contains_int g 0 1 c [k] k W (by simp) (by omega) (fun j hj => by match j, hj with | 0, _ => exact h))
  have hgW := Lib.hid hg
  clear h hg
  go_enter Try.func89, Try.ntmps89
  go_wp2_with go_in
  have hg2 : (w.alloc (.cells #[.int .i64 k] 3)).drew.cell? ⟨g, 0, none⟩ = some (.int .i64 k) := Below.at ((((Below.refl _ w).alloc (Nat.le_refl _) _).drew) : Below w.heap.size w (w.alloc (.cells #[.int .i64 k] 3)).drew) hgW.out hgl
  go_region_law (go_simp; go_at_call 117; (with_reducible refine (HC.out _ hg2).mono ?_); rintro e w2 ⟨rfl, rfl⟩)
  all_goals go_wp2
  all_goals go_ret
  all_goals exact ⟨rfl, by (repeat (first | with_reducible exact Below.refl _ _ | (with_reducible refine Below.setCell ?_ (by first | (simp; done) | (simp; omega) | omega) _) | (with_reducible refine Below.alloc ?_ (by first | (simp; done) | (simp; omega) | omega) _) | (with_reducible refine Below.drew ?_)))⟩
set_option maxHeartbeats 1000000 in
theorem tHold_new {k : Int} (hsl : sl = .slice none 0 0) : Calls Try.prog 89 #[.pointer (some ⟨T, 0, none⟩), .int .i64 i, .int .i64 k] w fun e w' => e = .returned (.int .i64 0) ∧ Only X w w' ∧ ∃ g c, OneAt w' X used (.slice (some ⟨g, 0, none⟩) 1 c) M ∧ w'.cell? ⟨g, 0, none⟩ = some (.int .i64 k) := by
  subst hsl
  have hTl := h.tab.lt; have c3 := h.tab.c3; have hAl := h.al; have ca := h.cell; have e0 : (0 : Int) ≤ (i : Int) := (by omega); have e1 : (i : Int) < (n : Int) := (by have := h.lt; omega); have d0 : decide ((i : Int) < 0) = false := (by simp); have d1 : decide ((i : Int) ≥ (n : Int)) = false := (by simp; omega)
  have hXl := h.one.lt
  have c12 := h.one.c12
  have f12 : w.frozen? ⟨X, 12, none⟩ = false := Ly.frozAt h.one 12
  have HC := Lib.hid (fun (W : World) => Try.slices_Contains_int_empty none 0 k W)
  have HX := Lib.hid h.one
  clear h
  go_enter Try.func89, Try.ntmps89
  go_wp2_with go_in
  go_region_law (go_simp; go_at_call 117; (with_reducible refine (HC.out _).mono ?_); rintro e w2 ⟨rfl, rfl⟩)
  all_goals go_wp2
  all_goals
    have hX2 := (HX.out.keep (W' := (((w.alloc (.cells #[.int .i64 k] 3)).alloc (.cells #[.int .i64 k] 3)).drew).drew) (N := w.heap.size) (by (repeat (first | with_reducible exact Below.refl _ _ | (with_reducible refine Below.setCell ?_ (by first | (simp; done) | (simp; omega) | omega) _) | (with_reducible refine Below.alloc ?_ (by first | (simp; done) | (simp; omega) | omega) _) | (with_reducible refine Below.drew ?_)))) hXl)
    have hnew := heap_alloc_new (w.alloc (.cells #[.int .i64 k] 3)) (.cells #[.int .i64 k] 3)
    rw [World.size_alloc] at hnew
    obtain ⟨i0, hi, hz0, hz1, hz2⟩ := info_parts infoInt2
    have HI0 := Lib.hid hi
    have HZ0 := Lib.hid hz0
    have HZ1 := Lib.hid hz1
    have HZ2 := Lib.hid hz2
    have HX2 := Lib.hid hX2
    clear hi hz0 hz1 hz2 hX2
    go_region_law ((refine step_append_lies _ (by rfl) _ _ _ (by rfl) w.heap.size 3 i0 (.int .i64 0) 1 8 Try.underlying38 HI0.out HZ0.out HZ1.out HZ2.out rfl (by omega) _ 0 [] (by rfl) (World.ownsRow_nil _ _ _ _) ⟨w.heap.size + 1, 0, none⟩ 1 1 [.int .i64 k] (by rfl) (by rfl) (World.news_of_block (cs := #[.int .i64 k]) (t := 3) (fr := (0, 0)) hnew) (by simp [Value.oneCell']) (by omega) (by unfold maxLen; omega) (by omega) (by simp; omega) _ rfl ?_; intro gg cap w3 hown3 hgrow hat hlt3; have hX3 := OneAt.grown HX2.out hgrow; have e3 := hX3.c12; have f3 : w3.frozen? ⟨X, 12, none⟩ = false := Ly.frozAt hX3 12; have hXl3 := hX3.lt; have HX3 := Lib.hid hX3; have HOW := Lib.hid hown3; have HGR := Lib.hid hgrow; clear hX3 hown3 hgrow))
    all_goals go_wp2
    all_goals
      have hb2 : Below w.heap.size w (((w.alloc (.cells #[.int .i64 k] 3)).alloc (.cells #[.int .i64 k] 3)).drew).drew := by (repeat (first | with_reducible exact Below.refl _ _ | (with_reducible refine Below.setCell ?_ (by first | (simp; done) | (simp; omega) | omega) _) | (with_reducible refine Below.alloc ?_ (by first | (simp; done) | (simp; omega) | omega) _) | (with_reducible refine Below.drew ?_)))
      have hc0 := own_cell HOW.out (j := 0) rfl
      have hne : gg ≠ X := by have := hc0.2; omega
      go_ret
      refine ⟨rfl, (((only_of_below X hb2).trans ⟨HGR.out.os, HGR.out.tape, HGR.out.output, HGR.out.size, fun k hk _ => HGR.out.block k hk (by simp [Value.ownBlock])⟩).trans (only_set _ _ _ _)), gg, cap, setSlots HX3.out _, ?_⟩
      exact (World.cell?_setCell_other _ _ _ _ (fun e => by injection e with e1 _; exact hne e1.symm)).trans hc0.1
end
end Go.Proofs.Ytljfloopjgpaeaa
