/- tollbarlaw11.code, prog.Uses (of the example's program). -/
import Derived.Test.YtljfloopjgpaeaaNC
import Derived.Test.YtljfloopjgpaeaaW
import Derived.Test.YtljfloopjgpaeaaQC
import Derived.LoopN
namespace Go.Proofs.Ytljfloopjgpaeaa
set_option linter.unusedVariables false
set_option linter.unusedSimpArgs false
open Go.RowKit
set_option maxRecDepth 100000

theorem its_new (w : World) (X : Obj) : (w.alloc X).heap[w.heap.size]? = some X := by show (w.heap.push X)[w.heap.size]? = _; simp
theorem its_old (w : World) (X Y : Obj) : ((w.alloc X).alloc Y).heap[w.heap.size]? = some X := (Below.heap_alloc _ _ _ (by simp)).trans (its_new w X)
theorem oneSlice_R {W : World} {g : Nat} {v : Value} {l : List InsV} {c : Nat} (hb : W.heap[g]? = some (.cells #[v] 54 (0, 0))) (h : kIns.R W v l) (hc : 1 ≤ c) (hm : c ≤ maxLen) : kIns.slice.R W (.slice (some ⟨g, 0, none⟩) 1 c) [l] := by
  refine ⟨_, _, rfl, hc, hm, by simp, fun _ => ⟨g, 0, rfl, (Array.getElem?_eq_some_iff.1 hb).1, fun i x hi => ?_⟩⟩
  obtain rfl : i = 0 := by
    have := (List.getElem?_eq_some_iff.1 hi).1
    simpa using this
  obtain rfl : l = x := by simpa using hi
  refine ⟨[v], ⟨_, rfl, h⟩, fun j u hj => ?_⟩
  simp only [World.cell?, hb]
  obtain rfl : j = 0 := by
    have := (List.getElem?_eq_some_iff.1 hj).1
    simpa using this
  simpa using hj
def codeProg (l : List InsV) : ProgV := ⟨[], [l], []⟩
def codeR (l : List InsV) (v : Value) (φ : World → Prop) : Prop := ∃ g, v = .agg #[.slice none 0 0, .slice (some ⟨g, 0, none⟩) 1 1, .slice none 0 0] ∧ φ = fun w => RProg w (.slice none 0 0) (.slice (some ⟨g, 0, none⟩) 1 1) (.slice none 0 0) (codeProg l)
set_option maxHeartbeats 1000000 in
theorem code11_any {w : World} {v : Value} {l : List InsV} (h : kIns.R w v l) :
    Calls Try.prog 62 #[v] w fun e w' => ∃ v φ, e = .returned v ∧ codeR l v φ ∧ φ w' ∧ Below w.heap.size w w' := by
  have H := Lib.hid h
  obtain ⟨A, c, rfl, _, _, hl⟩ := h.val
  clear h
  go_enter Try.func62, Try.ntmps62
  go_wp2
  obtain ⟨r0, r1, r2⟩ := Lx.cells3 (its_old w (.cells #[.slice none 0 0, .slice (some ⟨w.heap.size + 1, 0, none⟩) 1 1, .slice none 0 0] 44 (0, 0)) (.cells #[.slice A l.length c] 54 (0, 0)))
  refine Lx.ret_of (by simp [results, Try.results62, go_sem, r0, r1, r2] <;> (repeat' (first | rfl | apply And.intro))) rfl ⟨_, _, rfl, ⟨w.heap.size + 1, rfl, rfl⟩, ?_, by (repeat (first | with_reducible exact Below.refl _ _ | (with_reducible refine Below.setCell ?_ (by first | (simp; done) | (simp; omega) | omega) _) | (with_reducible refine Below.alloc ?_ (by first | (simp; done) | (simp; omega) | omega) _) | (with_reducible refine Below.drew ?_)))⟩
  refine ⟨nil_R _ _, oneSlice_R (v := .slice A l.length c) ?_ (H.out.keep (by (repeat (first | with_reducible exact Below.refl _ _ | (with_reducible refine Below.setCell ?_ (by first | (simp; done) | (simp; omega) | omega) _) | (with_reducible refine Below.alloc ?_ (by first | (simp; done) | (simp; omega) | omega) _) | (with_reducible refine Below.drew ?_))))) (by decide) (by decide), nil_R _ _⟩
  have := its_new (w.alloc (.cells #[.slice none 0 0, .slice (some ⟨w.heap.size + 1, 0, none⟩) 1 1, .slice none 0 0] 44 (0, 0))) (.cells #[.slice A l.length c] 54 (0, 0))
  simpa using this
set_option maxHeartbeats 1000000 in
theorem uses7_any {w : World} {g : Nat} (h : RProg w (.slice none 0 0) (.slice (some ⟨g, 0, none⟩) 1 1) (.slice none 0 0) (codeProg [⟨7, 0, 0, -1, 0⟩])) :
    Calls Try.prog 63 #[.agg #[.slice none 0 0, .slice (some ⟨g, 0, none⟩) 1 1, .slice none 0 0], .int .i64 (-1)] w fun e w' => e = .returned (.int .i64 1) ∧ Below w.heap.size w w' := by
  obtain ⟨b, o, A2, c2, hA, hb, g1, g2, _, _, hl2⟩ := kInss_at h.codes (i := 0) (by decide)
  obtain ⟨rfl, rfl⟩ : g = b ∧ 0 = o := by simpa using hA
  obtain ⟨b2, o2, rfl, hb2, q0, q1, q2, q3, q4, _⟩ := kIns_at g2 (i := 0) (by decide)
  have g1 : w.cell? ⟨g, 0, none⟩ = some (.slice (some ⟨b2, o2, none⟩) 1 c2) := g1
  simp only [codeProg, List.getElem_cons_zero, Nat.zero_mul, Nat.add_zero] at q0 q1 q2 q3 q4
  clear h hA g2
  go_enter Try.func63, Try.ntmps63
  go_wp2
  refine wp_loop_rounds 2 ?_
  rw [rounds_succ]
  go_wp2
  refine wp_loop_rounds 2 ?_
  rw [rounds_succ]
  go_wp2
  rw [rounds_succ]
  go_wp2
  rw [rounds_succ]
  go_wp2
  refine wp_loop_rounds 1 ?_
  rw [rounds_succ]
  go_wp2
  go_ret
  exact ⟨rfl, by (repeat (first | with_reducible exact Below.refl _ _ | (with_reducible refine Below.setCell ?_ (by first | (simp; done) | (simp; omega) | omega) _) | (with_reducible refine Below.alloc ?_ (by first | (simp; done) | (simp; omega) | omega) _) | (with_reducible refine Below.drew ?_)))⟩
end Go.Proofs.Ytljfloopjgpaeaa
