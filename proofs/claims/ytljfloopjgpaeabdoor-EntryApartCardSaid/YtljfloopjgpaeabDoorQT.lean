/- Walks from the blocks that a call makes first. Nothing of the dump is named here. -/
import Derived.Test.YtljfloopjgpaeabDoorQS
namespace Go.Proofs.YtljfloopjgpaeabDoor
set_option linter.unusedVariables false
set_option linter.unusedSimpArgs false
open Go.RowKit
namespace Ly
section
variable {P : Program} {ops : Array Oper} {md : Region.Mode} {B : Nat} {w0 : World}
/-- Both: what is known of the world, and that what is told lasts. -/
def II (B : Nat) (w0 : World) (s : St) (w : World) : Prop := In B w0 s w ∧ Inv B s
theorem II.nil {w0 w : World} (hb : Below B w0 w) : II B w0 St.nil w := ⟨⟨hb, fun _ _ h => (by cases h), trivial⟩, Inv.nil _⟩
theorem II.one {w0 w : World} (hb : Below B w0 w) {g : Nat} {o : Obj} (hg : B ≤ g) (h : w.heap[g]? = some o) : II B w0 (St.nil.upd g o) w := ⟨In.one hb h, (Inv.nil _).upd hg _⟩
theorem II.put {w0 w : World} {s : St} (hi : II B w0 s w) {g : Nat} {o : Obj} (hg : B ≤ g) (h : w.heap[g]? = some o) : II B w0 (s.upd g o) w := ⟨hi.1.put h, hi.2.upd hg _⟩
theorem II.alloc {w0 w : World} {s : St} (hi : II B w0 s w) (hB : B = w0.heap.size) (o : Obj) {n : Nat} (hn : w.heap.size = n) : II B w0 (s.upd n o) (w.alloc o) := by
  subst hn
  have hle : B ≤ w.heap.size := hB ▸ hi.1.below.size
  refine ⟨⟨hi.1.below.alloc hle _, fun k p hk => ?_, hi.2.stable _ _ hi.1.more ((Below.refl _ _).alloc (Nat.le_refl _) _)⟩, hi.2.upd hle _⟩
  by_cases e : k = w.heap.size
  · subst e; rw [St.upd_at] at hk; injection hk with hk; rw [← hk]; show (w.heap.push o)[w.heap.size]? = _; simp
  · rw [St.upd_ne _ o e] at hk
    have h1 := hi.1.holds k p hk
    exact (Below.heap_alloc _ _ _ (Array.getElem?_eq_some_iff.1 h1).1).trans h1
variable {c : Code} {Q : Exit → Act → World → Prop} {a : Act} {w : World} {A1 A2 A3 A4 A5 A6 : Obj}
theorem start1 (h : ∀ W, II w.heap.size w (St.nil.upd w.heap.size A1) W → c.wp P Q a W) : c.wp P Q a (w.alloc A1) :=
  h _ ((II.nil (Below.refl _ _)).alloc rfl _ rfl)
theorem start2 (h : ∀ W, II w.heap.size w ((St.nil.upd w.heap.size A1).upd (w.heap.size + 1) A2) W → c.wp P Q a W) : c.wp P Q a ((w.alloc A1).alloc A2) :=
  h _ (((II.nil (Below.refl _ _)).alloc rfl _ rfl).alloc rfl _ (by simp))
theorem start3 (h : ∀ W, II w.heap.size w (((St.nil.upd w.heap.size A1).upd (w.heap.size + 1) A2).upd (w.heap.size + 1 + 1) A3) W → c.wp P Q a W) : c.wp P Q a (((w.alloc A1).alloc A2).alloc A3) :=
  h _ ((((II.nil (Below.refl _ _)).alloc rfl _ rfl).alloc rfl _ (by simp)).alloc rfl _ (by simp))
theorem start4 (h : ∀ W, II w.heap.size w ((((St.nil.upd w.heap.size A1).upd (w.heap.size + 1) A2).upd (w.heap.size + 1 + 1) A3).upd (w.heap.size + 1 + 1 + 1) A4) W → c.wp P Q a W) : c.wp P Q a ((((w.alloc A1).alloc A2).alloc A3).alloc A4) :=
  h _ (((((II.nil (Below.refl _ _)).alloc rfl _ rfl).alloc rfl _ (by simp)).alloc rfl _ (by simp)).alloc rfl _ (by simp))
theorem start5 (h : ∀ W, II w.heap.size w (((((St.nil.upd w.heap.size A1).upd (w.heap.size + 1) A2).upd (w.heap.size + 1 + 1) A3).upd (w.heap.size + 1 + 1 + 1) A4).upd (w.heap.size + 1 + 1 + 1 + 1) A5) W → c.wp P Q a W) : c.wp P Q a (((((w.alloc A1).alloc A2).alloc A3).alloc A4).alloc A5) :=
  h _ ((((((II.nil (Below.refl _ _)).alloc rfl _ rfl).alloc rfl _ (by simp)).alloc rfl _ (by simp)).alloc rfl _ (by simp)).alloc rfl _ (by simp))
/-- The end: the result first. -/
theorem ret_of {fn : Func} {R : Ending → World → Prop} {a : Act} {w : World} {v : Value} (h : (results fn a.tmps).run P w = .ok v w) (hd : a.defers = []) (hR : R (.returned v) w) : bodyPost P fn R .ret a w := ⟨hd, v, h, hR⟩
theorem cellAt {w : World} {B : Nat} {cs : Array Value} {t : Nat} {z : Nat × Nat} (h : w.heap[B]? = some (.cells cs t z)) (i : Nat) {v : Value} (hv : cs[i]? = some v) : w.cell? ⟨B, i, none⟩ = some v := by
  simp [World.cell?, h, hv]
theorem frozAt {w : World} {B : Nat} {cs : Array Value} {t : Nat} (h : w.heap[B]? = some (.cells cs t (0, 0))) (i : Nat) : w.frozen? ⟨B, i, none⟩ = false := by
  simp [World.frozen?, h]
end
end Ly
end Go.Proofs.YtljfloopjgpaeabDoor
