/- frame.Check, frame.frames, frame.Begin, frame.Spawn. -/
import Derived.Test.YtljfloopjgpaeaaS
namespace Go.Proofs.Ytljfloopjgpaeaa
set_option linter.unusedVariables false
set_option linter.unusedSimpArgs false
open Go.RowKit
set_option maxRecDepth 100000

theorem fcheck_any {c1 c2 c3 : Value} {P : ProgV} {w : World} (h : RProg w c1 c2 c3 P) (fc fp r0 r1 r2 r3 r4 r5 r6 r7 : Int) :
    Calls Try.prog 38 #[.agg #[c1, c2, c3], .agg #[.int .i64 fc, .int .i64 fp, .int .i64 r0, .int .i64 r1, .int .i64 r2, .int .i64 r3, .int .i64 r4, .int .i64 r5, .int .i64 r6, .int .i64 r7]] w fun e w' =>
      e = .returned (.int .i64 (errOf (atB P fc fp))) ∧ Below w.heap.size w w' := by
  obtain ⟨A1, n1, rfl, _, _, hl1⟩ := h.caps.val
  obtain ⟨A2, n2, rfl, _, _, hl2⟩ := h.codes.val
  obtain ⟨A3, n3, rfl, _, _, hl3⟩ := h.sites.val
  have HP := Lib.hid h
  clear h
  by_cases hat : atB P fc fp = true
  · go_enter Try.func38, Try.ntmps38
    go_wp2_with ((with_reducible refine (fAt_any (HP.out.keep (by (repeat (first | with_reducible exact Below.refl _ _ | (with_reducible refine Below.setCell ?_ (by first | (simp; done) | (simp; omega) | omega) _) | (with_reducible refine Below.alloc ?_ (by first | (simp; done) | (simp; omega) | omega) _) | (with_reducible refine Below.drew ?_))))) _ _ _ _ _ _ _ _ _ _).mono ?_); rw [hat]; rintro e w' ⟨rfl, hb'⟩)
    go_ret
    exact ⟨ret_int (by simp [errOf, hat]), by (have hszq := hb'.size; (try simp only [World.size_alloc] at hszq); (repeat (first | (with_reducible refine Below.setCell ?_ (by first | (simp; done) | (simp; omega) | omega) _) | (with_reducible refine Below.alloc ?_ (by first | (simp; done) | (simp; omega) | omega) _) | (with_reducible refine Below.drew ?_))); refine Below.trans ?_ (hb'.mono (by first | (simp; done) | (simp; omega) | omega)); (repeat (first | with_reducible exact Below.refl _ _ | (with_reducible refine Below.setCell ?_ (by first | (simp; done) | (simp; omega) | omega) _) | (with_reducible refine Below.alloc ?_ (by first | (simp; done) | (simp; omega) | omega) _) | (with_reducible refine Below.drew ?_))))⟩
  · have hat' := Bool.eq_false_iff.2 hat
    clear hat
    go_enter Try.func38, Try.ntmps38
    go_wp2_with ((with_reducible refine (fAt_any (HP.out.keep (by (repeat (first | with_reducible exact Below.refl _ _ | (with_reducible refine Below.setCell ?_ (by first | (simp; done) | (simp; omega) | omega) _) | (with_reducible refine Below.alloc ?_ (by first | (simp; done) | (simp; omega) | omega) _) | (with_reducible refine Below.drew ?_))))) _ _ _ _ _ _ _ _ _ _).mono ?_); rw [hat']; rintro e w' ⟨rfl, hb'⟩)
    go_ret
    exact ⟨ret_int (by simp [errOf, hat']), by (have hszq := hb'.size; (try simp only [World.size_alloc] at hszq); (repeat (first | (with_reducible refine Below.setCell ?_ (by first | (simp; done) | (simp; omega) | omega) _) | (with_reducible refine Below.alloc ?_ (by first | (simp; done) | (simp; omega) | omega) _) | (with_reducible refine Below.drew ?_))); refine Below.trans ?_ (hb'.mono (by first | (simp; done) | (simp; omega) | omega)); (repeat (first | with_reducible exact Below.refl _ _ | (with_reducible refine Below.setCell ?_ (by first | (simp; done) | (simp; omega) | omega) _) | (with_reducible refine Below.alloc ?_ (by first | (simp; done) | (simp; omega) | omega) _) | (with_reducible refine Below.drew ?_))))⟩

theorem frames_any (c1 c2 c3 : Value) (f : FrameV) (w : World) :
    Calls Try.prog 82 #[.agg #[c1, c2, c3], f.agg] w fun e w' => e = .returned (.func (.func 114) #[] #[.pointer (some ⟨w.heap.size, 0, none⟩), .pointer (some ⟨w.heap.size + 1, 0, none⟩)]) ∧ w' = (w.alloc (.cells #[c1, c2, c3] 44)).alloc (.cells f.cells 47) := by
  have hmf : ∀ (fn : Fn) (first cap : Array Value) (w : World), (Instr.makeFunc fn first cap).run Try.prog w = .ok (.func fn first cap) w := fun _ _ _ _ => rfl
  simp only [FrameV.agg, FrameV.cells]
  go_enter Try.func82, Try.ntmps82
  go_wp2
  go_ret
  exact ⟨rfl, rfl⟩

theorem begin_any (c : Int) (w : World) : Calls Try.prog 39 #[.int .i64 c] w fun e w' => e = .returned (FrameV.agg ⟨c, 0, [0, 0, 0, 0, 0, 0, 0, 0]⟩) ∧ Below w.heap.size w w' := by
  go_enter Try.func39, Try.ntmps39
  go_wp2
  refine bodyPost_ret (v := FrameV.agg ⟨c, 0, [0, 0, 0, 0, 0, 0, 0, 0]⟩) (by simp [results, Try.results39, go_sem, FrameV.agg, FrameV.cells, rg]) rfl ⟨rfl, ?_⟩
  (repeat (first | with_reducible exact Below.refl _ _ | (with_reducible refine Below.setCell ?_ (by first | (simp; done) | (simp; omega) | omega) _) | (with_reducible refine Below.alloc ?_ (by first | (simp; done) | (simp; omega) | omega) _) | (with_reducible refine Below.drew ?_)))

theorem spawn_any (f : FrameV) (c : Int) (w : World) : Calls Try.prog 40 #[f.agg, .int .i64 c] w fun e w' => e = .returned (FrameV.agg ⟨c, 0, f.r⟩) ∧ Below w.heap.size w w' := by
  simp only [FrameV.agg, FrameV.cells]
  go_enter Try.func40, Try.ntmps40
  go_wp2
  refine bodyPost_ret (v := FrameV.agg ⟨c, 0, f.r⟩) (by simp [results, Try.results40, go_sem, FrameV.agg, FrameV.cells]) rfl ⟨rfl, ?_⟩
  (repeat (first | with_reducible exact Below.refl _ _ | (with_reducible refine Below.setCell ?_ (by first | (simp; done) | (simp; omega) | omega) _) | (with_reducible refine Below.alloc ?_ (by first | (simp; done) | (simp; omega) | omega) _) | (with_reducible refine Below.drew ?_)))
end Go.Proofs.Ytljfloopjgpaeaa
