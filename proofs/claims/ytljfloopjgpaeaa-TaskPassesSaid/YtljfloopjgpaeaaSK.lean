/- tollbarlaw24.two. -/
import Derived.Test.YtljfloopjgpaeaaSJ
import Derived.Test.YtljfloopjgpaeaaND
namespace Go.Proofs.Ytljfloopjgpaeaa
set_option linter.unusedVariables false
set_option linter.unusedSimpArgs false
open Go.RowKit Go.Shelf
attribute [local go_sem] Oper.semAt_some
set_option maxRecDepth 100000
theorem alloc_at2 {w : World} {o : Obj} {i : Nat} (h : i = w.heap.size) : (w.alloc o).heap[i]? = some o := by rw [h]; exact World.alloc_heap_new w o
def twoP : ProgV := ⟨[], [[⟨10, 0, 0, 0, 0⟩]], [⟨[⟨false, -1, 0, 0⟩, ⟨false, -1, 0, 0⟩], false⟩]⟩
set_option maxHeartbeats 1000000 in
theorem two_any (w : World) : Calls Try.prog 87 #[] w fun e w' => ∃ A B, e = .returned (.agg #[.slice none 0 0, .slice (some ⟨A, 0, none⟩) 1 1, .slice (some ⟨B, 0, none⟩) 1 1]) ∧ RProg w' (.slice none 0 0) (.slice (some ⟨A, 0, none⟩) 1 1) (.slice (some ⟨B, 0, none⟩) 1 1) twoP ∧ Below w.heap.size w w' := by
  go_enter Try.func87, Try.ntmps87
  go_wp2
  obtain ⟨W5, hW⟩ : ∃ W5, W5 = (((((w.alloc (.cells #[.slice none 0 0, .slice (some ⟨w.heap.size + 1 + 1 + 1 + 1, 0, none⟩) 1 1, .slice (some ⟨w.heap.size + 1 + 1, 0, none⟩) 1 1] 44)).alloc (.cells #[.bool false, .int .i64 (-1), .int .i64 0, .int .i64 0, .bool false, .int .i64 (-1), .int .i64 0, .int .i64 0] 63)).alloc (.cells #[.slice (some ⟨w.heap.size + 1, 0, none⟩) 2 2, .bool false] 66)).alloc (.cells #[.int .u8 10, .int .i64 0, .int .i64 0, .int .i64 0, .int .i64 0] 56)).alloc (.cells #[.slice (some ⟨w.heap.size + 1 + 1 + 1, 0, none⟩) 1 1] 54)) := ⟨_, rfl⟩
  have b0 : W5.heap[w.heap.size]? = some (.cells #[.slice none 0 0, .slice (some ⟨w.heap.size + 1 + 1 + 1 + 1, 0, none⟩) 1 1, .slice (some ⟨w.heap.size + 1 + 1, 0, none⟩) 1 1] 44 (0, 0)) := by (rw [hW]; (repeat (refine (Below.heap_alloc _ _ _ (by simp only [World.size_alloc]; omega)).trans ?_)); exact alloc_at2 (by simp only [World.size_alloc]))
  have b1 : W5.heap[w.heap.size + 1]? = some (.cells #[.bool false, .int .i64 (-1), .int .i64 0, .int .i64 0, .bool false, .int .i64 (-1), .int .i64 0, .int .i64 0] 63 (0, 0)) := by (rw [hW]; (repeat (refine (Below.heap_alloc _ _ _ (by simp only [World.size_alloc]; omega)).trans ?_)); exact alloc_at2 (by simp only [World.size_alloc]))
  have b2 : W5.heap[w.heap.size + 1 + 1]? = some (.cells #[.slice (some ⟨w.heap.size + 1, 0, none⟩) 2 2, .bool false] 66 (0, 0)) := by (rw [hW]; (repeat (refine (Below.heap_alloc _ _ _ (by simp only [World.size_alloc]; omega)).trans ?_)); exact alloc_at2 (by simp only [World.size_alloc]))
  have b3 : W5.heap[w.heap.size + 1 + 1 + 1]? = some (.cells #[.int .u8 10, .int .i64 0, .int .i64 0, .int .i64 0, .int .i64 0] 56 (0, 0)) := by (rw [hW]; (repeat (refine (Below.heap_alloc _ _ _ (by simp only [World.size_alloc]; omega)).trans ?_)); exact alloc_at2 (by simp only [World.size_alloc]))
  have b4 : W5.heap[w.heap.size + 1 + 1 + 1 + 1]? = some (.cells #[.slice (some ⟨w.heap.size + 1 + 1 + 1, 0, none⟩) 1 1] 54 (0, 0)) := by (rw [hW]; (repeat (refine (Below.heap_alloc _ _ _ (by simp only [World.size_alloc]; omega)).trans ?_)); exact alloc_at2 (by simp only [World.size_alloc]))
  have hB : Below w.heap.size w W5 := by rw [hW]; (repeat (first | with_reducible exact Below.refl _ _ | (with_reducible refine Below.setCell ?_ (by first | (simp; done) | (simp; omega) | omega) _) | (with_reducible refine Below.alloc ?_ (by first | (simp; done) | (simp; omega) | omega) _) | (with_reducible refine Below.drew ?_)))
  rw [← hW]
  clear hW
  obtain ⟨r0, r1, r2⟩ := Lx.cells3 b0
  have hc : kCase.R W5 (.slice (some ⟨w.heap.size + 1, 0, none⟩) 2 2) [⟨false, -1, 0, 0⟩, ⟨false, -1, 0, 0⟩] := own_R (B := 0) (E := 63) (enc := CaseV.cells) (Q := CaseV.wf) (l := [⟨false, -1, 0, 0⟩, ⟨false, -1, 0, 0⟩]) (fun _ => rfl) ⟨by rfl, .inr ⟨_, _, _, rfl, Nat.zero_le _, b1, by decide, by decide, rfl, rfl⟩⟩ (by simp [CaseV.wf, I64]) (by decide)
  have hi : kIns.R W5 (.slice (some ⟨w.heap.size + 1 + 1 + 1, 0, none⟩) 1 1) [⟨10, 0, 0, 0, 0⟩] := own_R (B := 0) (E := 56) (enc := InsV.cells) (Q := InsV.wf) (l := [⟨10, 0, 0, 0, 0⟩]) (fun _ => rfl) ⟨by rfl, .inr ⟨_, _, _, rfl, Nat.zero_le _, b3, by decide, by decide, rfl, rfl⟩⟩ (by simp [InsV.wf, I64, U8]) (by decide)
  have hs : kSite.R W5 (.slice (some ⟨w.heap.size + 1 + 1, 0, none⟩) 1 1) [⟨[⟨false, -1, 0, 0⟩, ⟨false, -1, 0, 0⟩], false⟩] := by
    refine own_slice (d := kSite) (B := 0) (E := 66) (l := [⟨[⟨false, -1, 0, 0⟩, ⟨false, -1, 0, 0⟩], false⟩]) (vs := [.slice (some ⟨w.heap.size + 1, 0, none⟩) 2 2, .bool false]) (enc := fun v _ => [v]) ⟨by rfl, .inr ⟨_, _, _, rfl, Nat.zero_le _, b2, by decide, by decide, rfl, rfl⟩⟩ (by decide) fun i x hx => ?_
    obtain rfl : i = 0 := by have := (List.getElem?_eq_some_iff.1 hx).1; simpa using this
    obtain rfl : _ = x := by simpa using hx
    exact ⟨_, ⟨_, rfl, hc⟩, fun j u hj => by simpa using hj⟩
  refine Lx.ret_of (by simp [results, Try.results87, go_sem, r0, r1, r2] <;> (repeat' (first | rfl | apply And.intro))) rfl ⟨_, _, rfl, ⟨nil_R _ _, oneSlice_R b4 hi (by decide) (by decide), hs⟩, hB⟩
end Go.Proofs.Ytljfloopjgpaeaa
