/- tollbarlaw32.LiveRises: of a longer log, up to an end that is no less, no lag is less. For every log; no condition. -/
import Derived.Test.YtljfloopjgpaeabLN
namespace Go.Proofs.Ytljfloopjgpaeab
set_option linter.unusedVariables false
set_option linter.unusedSimpArgs false
open Go.RowKit Go.Shelf
attribute [local go_sem] Oper.semAt_some
set_option maxRecDepth 100000
def lgO (j0 j1 j2 j3 : Int) : Obj := .cells #[.int .i64 j0, .int .i64 j1, .int .i64 j2, .int .i64 j3] 32
theorem most_up {W : World} {g : Nat} {a0 a1 a2 a3 c0 c1 c2 c3 : Int} (h0 : 0 ≤ a0 ∧ a0 ≤ c0) (h1 : 0 ≤ a1 ∧ a1 ≤ c1) (h2 : 0 ≤ a2 ∧ a2 ≤ c2) (h3 : 0 ≤ a3 ∧ a3 ≤ c3) (hg : W.heap[g]? = some (.cells #[.int .i64 a0, .int .i64 a1, .int .i64 a2, .int .i64 a3, .int .i64 c0, .int .i64 c1, .int .i64 c2, .int .i64 c3] 32 (0, 0))) :
    Calls Try.prog 8 #[.slice (some ⟨g, 0, none⟩) 2 2] W fun e w' => e = .returned (.agg #[.int .i64 c0, .int .i64 c1, .int .i64 c2, .int .i64 c3]) ∧ Below W.heap.size W w' := by
  have := most2_any a0 a1 a2 a3 c0 c1 c2 c3 hg
  rw [(mx_up h0.1 h0.2).1, (mx_up h1.1 h1.2).1, (mx_up h2.1 h2.2).1, (mx_up h3.1 h3.2).1] at this
  exact this
theorem most_down {W : World} {g : Nat} {a0 a1 a2 a3 c0 c1 c2 c3 : Int} (h0 : 0 ≤ a0 ∧ a0 ≤ c0) (h1 : 0 ≤ a1 ∧ a1 ≤ c1) (h2 : 0 ≤ a2 ∧ a2 ≤ c2) (h3 : 0 ≤ a3 ∧ a3 ≤ c3) (hg : W.heap[g]? = some (.cells #[.int .i64 c0, .int .i64 c1, .int .i64 c2, .int .i64 c3, .int .i64 a0, .int .i64 a1, .int .i64 a2, .int .i64 a3] 32 (0, 0))) :
    Calls Try.prog 8 #[.slice (some ⟨g, 0, none⟩) 2 2] W fun e w' => e = .returned (.agg #[.int .i64 c0, .int .i64 c1, .int .i64 c2, .int .i64 c3]) ∧ Below W.heap.size W w' := by
  have := most2_any c0 c1 c2 c3 a0 a1 a2 a3 hg
  rw [(mx_up h0.1 h0.2).2, (mx_up h1.1 h1.2).2, (mx_up h2.1 h2.2).2, (mx_up h3.1 h3.2).2] at this
  exact this
theorem may_all {l : List EntV} (h : MayTo l l.length) : ∀ x ∈ l, 0 ≤ x.at_ ∧ x.at_ ≤ 1152921504606846976 := fun x hx => by
  obtain ⟨i, hi, rfl⟩ := List.getElem_of_mem hx
  exact (h i hi hi).1
theorem of_take {w : World} {A : Option Addr} {c : Nat} {l : List EntV} (h : kEnt.R w (.slice A l.length c) l) {k : Nat} (hk : k ≤ l.length) (fin : Int) (hx : ∀ x ∈ l, 0 ≤ x.at_ ∧ x.at_ ≤ 1152921504606846976) (hf : 0 ≤ fin ∧ fin ≤ 2305843009213693952) {v0 v1 v2 v3 : Int} (e0 : ofV 0 (l.take k) fin = v0) (e1 : ofV 1 (l.take k) fin = v1) (e2 : ofV 2 (l.take k) fin = v2) (e3 : ofV 3 (l.take k) fin = v3) :
    Calls Try.prog 7 #[.int .i64 fin, .slice A k c] w fun e w' => e = .returned (.agg #[.int .i64 v0, .int .i64 v1, .int .i64 v2, .int .i64 v3]) ∧ Below w.heap.size w w' := by
  have hl : (l.take k).length = k := by simp; omega
  have ht : kEnt.R w (.slice A (l.take k).length c) (l.take k) := by
    rw [hl]
    exact R_take h hk
  have := of_any ht fin (fun x hx' => hx x (List.mem_of_mem_take hx')) hf
  rw [hl, e0, e1, e2, e3] at this
  exact this
theorem of_all {w : World} {A : Option Addr} {c : Nat} {l : List EntV} (h : kEnt.R w (.slice A l.length c) l) (fin : Int) (hx : ∀ x ∈ l, 0 ≤ x.at_ ∧ x.at_ ≤ 1152921504606846976) (hf : 0 ≤ fin ∧ fin ≤ 2305843009213693952) {v0 v1 v2 v3 : Int} (e0 : ofV 0 l fin = v0) (e1 : ofV 1 l fin = v1) (e2 : ofV 2 l fin = v2) (e3 : ofV 3 l fin = v3) :
    Calls Try.prog 7 #[.int .i64 fin, .slice A l.length c] w fun e w' => e = .returned (.agg #[.int .i64 v0, .int .i64 v1, .int .i64 v2, .int .i64 v3]) ∧ Below w.heap.size w w' := by
  have := of_any h fin hx hf
  rw [e0, e1, e2, e3] at this
  exact this

end Go.Proofs.Ytljfloopjgpaeab
