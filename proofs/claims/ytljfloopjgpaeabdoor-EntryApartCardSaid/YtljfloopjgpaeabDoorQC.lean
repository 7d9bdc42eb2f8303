/- The moves of a region's walk, in a short form. Nothing of the dump is named here. -/
import Derived.Test.YtljfloopjgpaeabDoorQA
import Derived.Lib.Hide
namespace Go.Proofs.YtljfloopjgpaeabDoor
set_option linter.unusedVariables false
set_option linter.unusedSimpArgs false
open Go.RowKit
namespace Lx
theorem p1 {α : Type} (l : List α) (i : Nat) (a : α) : l.toArray.setIfInBounds i a = (l.set i a).toArray := List.setIfInBounds_toArray ..
theorem p2 {α : Type} (x a : α) (l : List α) : (x :: l).set 0 a = a :: l := rfl
theorem p3 {α : Type} (x a : α) (l : List α) (i : Nat) : (x :: l).set (i + 1) a = x :: l.set i a := rfl
def sel (l : List Oper) (listed : Array Bool) (i : Nat) : Bool := okTake .any l.toArray listed i && (Region.ready .any l.toArray listed).contains i
section
variable {P : Program} {B : Nat} {w0 : World} {O : Array Oper} {l : List Oper}
theorem kp {Q : Act → St → Prop} (HO : Hid (O = l.toArray)) (i : Nat) {oi : Oper} {fuel : Nat} {listed : Array Bool} {a : Act} {s : St} (hk : sel l listed i = true) (hx : l[i]? = some oi ∧ tagOf oi = .pure ∧ Region.wanted oi (yielded l.toArray a.tmps) = true) {v : Value} (hv : ∀ w, Below B w0 w → (execOp a.eval oi).run P w = .ok (.value v) w)
    (h : J P B w0 O Q fuel (listed.setIfInBounds i true) (a.put oi.dst v) s) : J P B w0 O Q (fuel + 1) listed a s := by
  obtain rfl : O = _ := HO.out
  simp only [sel, Bool.and_eq_true] at hk
  exact J.pure i (by simpa using hx.1) hk.1 hk.2 hx.2.1 hx.2.2 hv h
theorem kr {Q : Act → St → Prop} (HO : Hid (O = l.toArray)) (i : Nat) {oi : Oper} {fuel : Nat} {listed : Array Bool} {a : Act} {s : St} (hk : sel l listed i = true) (hx : l[i]? = some oi ∧ tagOf oi = .read ∧ Region.wanted oi (yielded l.toArray a.tmps) = true) {v : Value} (hv : ∀ w, In B w0 s w → (execOp a.eval oi).run P w = .ok (.value v) w)
    (h : J P B w0 O Q fuel (listed.setIfInBounds i true) (a.put oi.dst v) s) : J P B w0 O Q (fuel + 1) listed a s := by
  obtain rfl : O = _ := HO.out
  simp only [sel, Bool.and_eq_true] at hk
  exact J.read i (by simpa using hx.1) hk.1 hk.2 hx.2.1 hx.2.2 hv h
theorem kc {Q : Act → St → Prop} (HO : Hid (O = l.toArray)) (i : Nat) {oi : Oper} {fuel : Nat} {listed : Array Bool} {a : Act} {s : St} (hk : sel l listed i = true) (hx : l[i]? = some oi ∧ tagOf oi = .call ∧ Region.wanted oi (yielded l.toArray a.tmps) = true) {f : FuncId} {args : Array Value} (hrun : ∀ w, (execOp a.eval oi).run P w = .ok (.enter f args) w) {v : Value} (hc : ∀ w, In B w0 s w → Calls P f args w fun e w' => e = .returned v ∧ Below w.heap.size w w')
    (h : J P B w0 O Q fuel (listed.setIfInBounds i true) (a.put oi.dst v) (s.add fun _ => True)) : J P B w0 O Q (fuel + 1) listed a s := by
  obtain rfl : O = _ := HO.out
  simp only [sel, Bool.and_eq_true] at hk
  exact J.call i (by simpa using hx.1) hk.1 hk.2 hx.2.1 hx.2.2 hrun hc h
theorem ka {Q : Act → St → Prop} (HO : Hid (O = l.toArray)) (i : Nat) {oi : Oper} {fuel : Nat} {listed : Array Bool} {a : Act} {s : St} (hk : sel l listed i = true) (hx : l[i]? = some oi ∧ tagOf oi = .new ∧ Region.wanted oi (yielded l.toArray a.tmps) = true) {o : Obj} (hrun : ∀ w, (execOp a.eval oi).run P w = .ok (.value (.pointer (some ⟨w.heap.size, 0, none⟩))) (w.alloc o))
    (h : ∀ g, B ≤ g → s.M g = none → J P B w0 O Q fuel (listed.setIfInBounds i true) (a.put oi.dst (.pointer (some ⟨g, 0, none⟩))) (s.upd g o)) : J P B w0 O Q (fuel + 1) listed a s := by
  obtain rfl : O = _ := HO.out
  simp only [sel, Bool.and_eq_true] at hk
  exact J.alloc i (by simpa using hx.1) hk.1 hk.2 hx.2.1 hx.2.2 hrun h
theorem ks {Q : Act → St → Prop} (HO : Hid (O = l.toArray)) (i : Nat) {oi : Oper} {fuel : Nat} {listed : Array Bool} {a : Act} {s : St} (hk : sel l listed i = true) (hx : l[i]? = some oi ∧ tagOf oi = .store ∧ Region.wanted oi (yielded l.toArray a.tmps) = true) {g : Nat} {o o' : Obj} (hg : s.M g = some o) (hrun : ∀ w, In B w0 s w → w.heap[g]? = some o → ∃ w', (execOp a.eval oi).run P w = .ok .skip w' ∧ OnlyAt g w w' ∧ w'.heap[g]? = some o') (hG : ∀ w w', s.G w → OnlyAt g w w' → s.G w')
    (h : J P B w0 O Q fuel (listed.setIfInBounds i true) (a.put oi.dst undef) (s.upd g o')) : J P B w0 O Q (fuel + 1) listed a s := by
  obtain rfl : O = _ := HO.out
  simp only [sel, Bool.and_eq_true] at hk
  exact J.store i (by simpa using hx.1) hk.1 hk.2 hx.2.1 hx.2.2 hg hrun hG h
theorem kk {Q : Act → St → Prop} (HO : Hid (O = l.toArray)) (i : Nat) {oi : Oper} {fuel : Nat} {listed : Array Bool} {a : Act} {s : St} (hk : sel l listed i = true) (hx : l[i]? = some oi ∧ Region.wanted oi (yielded l.toArray a.tmps) = false)
    (h : J P B w0 O Q fuel (listed.setIfInBounds i true) (a.put oi.dst undef) s) : J P B w0 O Q (fuel + 1) listed a s := by
  obtain rfl : O = _ := HO.out
  simp only [sel, Bool.and_eq_true] at hk
  exact J.skip i (by simpa using hx.1) hk.1 hk.2 hx.2 h
/-- A call of which a Bool comes. -/
theorem kb {Q : Act → St → Prop} (HO : Hid (O = l.toArray)) (i : Nat) {oi : Oper} {fuel : Nat} {listed : Array Bool} {a : Act} {s : St} (hk : sel l listed i = true) (hx : l[i]? = some oi ∧ tagOf oi = .call ∧ Region.wanted oi (yielded l.toArray a.tmps) = true) {f : FuncId} {args : Array Value} (hrun : ∀ w, (execOp a.eval oi).run P w = .ok (.enter f args) w) (hc : ∀ w, In B w0 s w → Calls P f args w fun e w' => (∃ b : Bool, e = .returned (.bool b)) ∧ Below w.heap.size w w')
    (h : ∀ b : Bool, J P B w0 O Q fuel (listed.setIfInBounds i true) (a.put oi.dst (.bool b)) (s.add fun _ => True)) : J P B w0 O Q (fuel + 1) listed a s := by
  obtain rfl : O = _ := HO.out
  simp only [sel, Bool.and_eq_true] at hk
  refine J.callR i (fun v φ => (∃ b : Bool, v = .bool b) ∧ φ = fun _ => True) (by simpa using hx.1) hk.1 hk.2 hx.2.1 hx.2.2 hrun ⟨_, _, ⟨true, rfl⟩, rfl⟩ (by rintro _ _ ⟨_, rfl⟩; exact fun _ _ _ _ => trivial) (fun w hw => Calls.mono (hc w hw) ?_) ?_
  · rintro e w' ⟨⟨b, rfl⟩, hb⟩
    exact ⟨_, _, rfl, ⟨⟨b, rfl⟩, rfl⟩, trivial, hb⟩
  · rintro _ _ ⟨⟨b, rfl⟩, rfl⟩
    exact h b
theorem kd {Q : Act → St → Prop} (HO : Hid (O = l.toArray)) {listed : Array Bool} {a : Act} {s : St} {fuel : Nat} (hr : Region.ready .any l.toArray listed = []) (h : Inv B s → Q a s) : J P B w0 O Q fuel listed a s := by
  obtain rfl : O = _ := HO.out
  exact J.done hr h fuel
theorem tk {s s0 : St} {w : World} (h : II B w0 s w) (h0 : II B w0 s0 w) (g : Nat) {o : Obj} (hm : s.M g = some o) : II B w0 (s0.upd g o) w := h0.put (h.2.dom g o hm) (h.1.holds g o hm)
theorem ua (s : St) (g : Nat) (o : Obj) : (s.upd g o).M g = some o := St.upd_at s g o
theorem un (s : St) {g k : Nat} (o : Obj) (h : k ≠ g) : (s.upd g o).M k = s.M k := St.upd_ne s o h
theorem am (s : St) (φ : World → Prop) : (s.add φ).M = s.M := rfl
theorem cells2 {w : World} {B t : Nat} {z : Nat × Nat} {v0 v1 : Value} (h : w.heap[B]? = some (.cells #[v0, v1] t z)) : w.cell? ⟨B, 0, none⟩ = some v0 ∧ w.cell? ⟨B, 1, none⟩ = some v1 :=
  ⟨cellAt h 0 rfl, cellAt h 1 rfl⟩
theorem froz2 {w : World} {B t : Nat} {cs : Array Value} (h : w.heap[B]? = some (.cells cs t (0, 0))) : w.frozen? ⟨B, 0, none⟩ = false ∧ w.frozen? ⟨B, 1, none⟩ = false :=
  ⟨frozAt h 0, frozAt h 1⟩
theorem cells3 {w : World} {B t : Nat} {z : Nat × Nat} {v0 v1 v2 : Value} (h : w.heap[B]? = some (.cells #[v0, v1, v2] t z)) : w.cell? ⟨B, 0, none⟩ = some v0 ∧ w.cell? ⟨B, 1, none⟩ = some v1 ∧ w.cell? ⟨B, 2, none⟩ = some v2 :=
  ⟨cellAt h 0 rfl, cellAt h 1 rfl, cellAt h 2 rfl⟩
theorem froz3 {w : World} {B t : Nat} {cs : Array Value} (h : w.heap[B]? = some (.cells cs t (0, 0))) : w.frozen? ⟨B, 0, none⟩ = false ∧ w.frozen? ⟨B, 1, none⟩ = false ∧ w.frozen? ⟨B, 2, none⟩ = false :=
  ⟨frozAt h 0, frozAt h 1, frozAt h 2⟩
theorem cells4 {w : World} {B t : Nat} {z : Nat × Nat} {v0 v1 v2 v3 : Value} (h : w.heap[B]? = some (.cells #[v0, v1, v2, v3] t z)) : w.cell? ⟨B, 0, none⟩ = some v0 ∧ w.cell? ⟨B, 1, none⟩ = some v1 ∧ w.cell? ⟨B, 2, none⟩ = some v2 ∧ w.cell? ⟨B, 3, none⟩ = some v3 :=
  ⟨cellAt h 0 rfl, cellAt h 1 rfl, cellAt h 2 rfl, cellAt h 3 rfl⟩
theorem froz4 {w : World} {B t : Nat} {cs : Array Value} (h : w.heap[B]? = some (.cells cs t (0, 0))) : w.frozen? ⟨B, 0, none⟩ = false ∧ w.frozen? ⟨B, 1, none⟩ = false ∧ w.frozen? ⟨B, 2, none⟩ = false ∧ w.frozen? ⟨B, 3, none⟩ = false :=
  ⟨frozAt h 0, frozAt h 1, frozAt h 2, frozAt h 3⟩
theorem cells5 {w : World} {B t : Nat} {z : Nat × Nat} {v0 v1 v2 v3 v4 : Value} (h : w.heap[B]? = some (.cells #[v0, v1, v2, v3, v4] t z)) : w.cell? ⟨B, 0, none⟩ = some v0 ∧ w.cell? ⟨B, 1, none⟩ = some v1 ∧ w.cell? ⟨B, 2, none⟩ = some v2 ∧ w.cell? ⟨B, 3, none⟩ = some v3 ∧ w.cell? ⟨B, 4, none⟩ = some v4 :=
  ⟨cellAt h 0 rfl, cellAt h 1 rfl, cellAt h 2 rfl, cellAt h 3 rfl, cellAt h 4 rfl⟩
theorem froz5 {w : World} {B t : Nat} {cs : Array Value} (h : w.heap[B]? = some (.cells cs t (0, 0))) : w.frozen? ⟨B, 0, none⟩ = false ∧ w.frozen? ⟨B, 1, none⟩ = false ∧ w.frozen? ⟨B, 2, none⟩ = false ∧ w.frozen? ⟨B, 3, none⟩ = false ∧ w.frozen? ⟨B, 4, none⟩ = false :=
  ⟨frozAt h 0, frozAt h 1, frozAt h 2, frozAt h 3, frozAt h 4⟩
theorem cells6 {w : World} {B t : Nat} {z : Nat × Nat} {v0 v1 v2 v3 v4 v5 : Value} (h : w.heap[B]? = some (.cells #[v0, v1, v2, v3, v4, v5] t z)) : w.cell? ⟨B, 0, none⟩ = some v0 ∧ w.cell? ⟨B, 1, none⟩ = some v1 ∧ w.cell? ⟨B, 2, none⟩ = some v2 ∧ w.cell? ⟨B, 3, none⟩ = some v3 ∧ w.cell? ⟨B, 4, none⟩ = some v4 ∧ w.cell? ⟨B, 5, none⟩ = some v5 :=
  ⟨cellAt h 0 rfl, cellAt h 1 rfl, cellAt h 2 rfl, cellAt h 3 rfl, cellAt h 4 rfl, cellAt h 5 rfl⟩
theorem froz6 {w : World} {B t : Nat} {cs : Array Value} (h : w.heap[B]? = some (.cells cs t (0, 0))) : w.frozen? ⟨B, 0, none⟩ = false ∧ w.frozen? ⟨B, 1, none⟩ = false ∧ w.frozen? ⟨B, 2, none⟩ = false ∧ w.frozen? ⟨B, 3, none⟩ = false ∧ w.frozen? ⟨B, 4, none⟩ = false ∧ w.frozen? ⟨B, 5, none⟩ = false :=
  ⟨frozAt h 0, frozAt h 1, frozAt h 2, frozAt h 3, frozAt h 4, frozAt h 5⟩
theorem cells7 {w : World} {B t : Nat} {z : Nat × Nat} {v0 v1 v2 v3 v4 v5 v6 : Value} (h : w.heap[B]? = some (.cells #[v0, v1, v2, v3, v4, v5, v6] t z)) : w.cell? ⟨B, 0, none⟩ = some v0 ∧ w.cell? ⟨B, 1, none⟩ = some v1 ∧ w.cell? ⟨B, 2, none⟩ = some v2 ∧ w.cell? ⟨B, 3, none⟩ = some v3 ∧ w.cell? ⟨B, 4, none⟩ = some v4 ∧ w.cell? ⟨B, 5, none⟩ = some v5 ∧ w.cell? ⟨B, 6, none⟩ = some v6 :=
  ⟨cellAt h 0 rfl, cellAt h 1 rfl, cellAt h 2 rfl, cellAt h 3 rfl, cellAt h 4 rfl, cellAt h 5 rfl, cellAt h 6 rfl⟩
theorem froz7 {w : World} {B t : Nat} {cs : Array Value} (h : w.heap[B]? = some (.cells cs t (0, 0))) : w.frozen? ⟨B, 0, none⟩ = false ∧ w.frozen? ⟨B, 1, none⟩ = false ∧ w.frozen? ⟨B, 2, none⟩ = false ∧ w.frozen? ⟨B, 3, none⟩ = false ∧ w.frozen? ⟨B, 4, none⟩ = false ∧ w.frozen? ⟨B, 5, none⟩ = false ∧ w.frozen? ⟨B, 6, none⟩ = false :=
  ⟨frozAt h 0, frozAt h 1, frozAt h 2, frozAt h 3, frozAt h 4, frozAt h 5, frozAt h 6⟩
theorem cells8 {w : World} {B t : Nat} {z : Nat × Nat} {v0 v1 v2 v3 v4 v5 v6 v7 : Value} (h : w.heap[B]? = some (.cells #[v0, v1, v2, v3, v4, v5, v6, v7] t z)) : w.cell? ⟨B, 0, none⟩ = some v0 ∧ w.cell? ⟨B, 1, none⟩ = some v1 ∧ w.cell? ⟨B, 2, none⟩ = some v2 ∧ w.cell? ⟨B, 3, none⟩ = some v3 ∧ w.cell? ⟨B, 4, none⟩ = some v4 ∧ w.cell? ⟨B, 5, none⟩ = some v5 ∧ w.cell? ⟨B, 6, none⟩ = some v6 ∧ w.cell? ⟨B, 7, none⟩ = some v7 :=
  ⟨cellAt h 0 rfl, cellAt h 1 rfl, cellAt h 2 rfl, cellAt h 3 rfl, cellAt h 4 rfl, cellAt h 5 rfl, cellAt h 6 rfl, cellAt h 7 rfl⟩
theorem froz8 {w : World} {B t : Nat} {cs : Array Value} (h : w.heap[B]? = some (.cells cs t (0, 0))) : w.frozen? ⟨B, 0, none⟩ = false ∧ w.frozen? ⟨B, 1, none⟩ = false ∧ w.frozen? ⟨B, 2, none⟩ = false ∧ w.frozen? ⟨B, 3, none⟩ = false ∧ w.frozen? ⟨B, 4, none⟩ = false ∧ w.frozen? ⟨B, 5, none⟩ = false ∧ w.frozen? ⟨B, 6, none⟩ = false ∧ w.frozen? ⟨B, 7, none⟩ = false :=
  ⟨frozAt h 0, frozAt h 1, frozAt h 2, frozAt h 3, frozAt h 4, frozAt h 5, frozAt h 6, frozAt h 7⟩
theorem cells9 {w : World} {B t : Nat} {z : Nat × Nat} {v0 v1 v2 v3 v4 v5 v6 v7 v8 : Value} (h : w.heap[B]? = some (.cells #[v0, v1, v2, v3, v4, v5, v6, v7, v8] t z)) : w.cell? ⟨B, 0, none⟩ = some v0 ∧ w.cell? ⟨B, 1, none⟩ = some v1 ∧ w.cell? ⟨B, 2, none⟩ = some v2 ∧ w.cell? ⟨B, 3, none⟩ = some v3 ∧ w.cell? ⟨B, 4, none⟩ = some v4 ∧ w.cell? ⟨B, 5, none⟩ = some v5 ∧ w.cell? ⟨B, 6, none⟩ = some v6 ∧ w.cell? ⟨B, 7, none⟩ = some v7 ∧ w.cell? ⟨B, 8, none⟩ = some v8 :=
  ⟨cellAt h 0 rfl, cellAt h 1 rfl, cellAt h 2 rfl, cellAt h 3 rfl, cellAt h 4 rfl, cellAt h 5 rfl, cellAt h 6 rfl, cellAt h 7 rfl, cellAt h 8 rfl⟩
theorem froz9 {w : World} {B t : Nat} {cs : Array Value} (h : w.heap[B]? = some (.cells cs t (0, 0))) : w.frozen? ⟨B, 0, none⟩ = false ∧ w.frozen? ⟨B, 1, none⟩ = false ∧ w.frozen? ⟨B, 2, none⟩ = false ∧ w.frozen? ⟨B, 3, none⟩ = false ∧ w.frozen? ⟨B, 4, none⟩ = false ∧ w.frozen? ⟨B, 5, none⟩ = false ∧ w.frozen? ⟨B, 6, none⟩ = false ∧ w.frozen? ⟨B, 7, none⟩ = false ∧ w.frozen? ⟨B, 8, none⟩ = false :=
  ⟨frozAt h 0, frozAt h 1, frozAt h 2, frozAt h 3, frozAt h 4, frozAt h 5, frozAt h 6, frozAt h 7, frozAt h 8⟩
theorem cells10 {w : World} {B t : Nat} {z : Nat × Nat} {v0 v1 v2 v3 v4 v5 v6 v7 v8 v9 : Value} (h : w.heap[B]? = some (.cells #[v0, v1, v2, v3, v4, v5, v6, v7, v8, v9] t z)) : w.cell? ⟨B, 0, none⟩ = some v0 ∧ w.cell? ⟨B, 1, none⟩ = some v1 ∧ w.cell? ⟨B, 2, none⟩ = some v2 ∧ w.cell? ⟨B, 3, none⟩ = some v3 ∧ w.cell? ⟨B, 4, none⟩ = some v4 ∧ w.cell? ⟨B, 5, none⟩ = some v5 ∧ w.cell? ⟨B, 6, none⟩ = some v6 ∧ w.cell? ⟨B, 7, none⟩ = some v7 ∧ w.cell? ⟨B, 8, none⟩ = some v8 ∧ w.cell? ⟨B, 9, none⟩ = some v9 :=
  ⟨cellAt h 0 rfl, cellAt h 1 rfl, cellAt h 2 rfl, cellAt h 3 rfl, cellAt h 4 rfl, cellAt h 5 rfl, cellAt h 6 rfl, cellAt h 7 rfl, cellAt h 8 rfl, cellAt h 9 rfl⟩
theorem froz10 {w : World} {B t : Nat} {cs : Array Value} (h : w.heap[B]? = some (.cells cs t (0, 0))) : w.frozen? ⟨B, 0, none⟩ = false ∧ w.frozen? ⟨B, 1, none⟩ = false ∧ w.frozen? ⟨B, 2, none⟩ = false ∧ w.frozen? ⟨B, 3, none⟩ = false ∧ w.frozen? ⟨B, 4, none⟩ = false ∧ w.frozen? ⟨B, 5, none⟩ = false ∧ w.frozen? ⟨B, 6, none⟩ = false ∧ w.frozen? ⟨B, 7, none⟩ = false ∧ w.frozen? ⟨B, 8, none⟩ = false ∧ w.frozen? ⟨B, 9, none⟩ = false :=
  ⟨frozAt h 0, frozAt h 1, frozAt h 2, frozAt h 3, frozAt h 4, frozAt h 5, frozAt h 6, frozAt h 7, frozAt h 8, frozAt h 9⟩
theorem cells11 {w : World} {B t : Nat} {z : Nat × Nat} {v0 v1 v2 v3 v4 v5 v6 v7 v8 v9 v10 : Value} (h : w.heap[B]? = some (.cells #[v0, v1, v2, v3, v4, v5, v6, v7, v8, v9, v10] t z)) : w.cell? ⟨B, 0, none⟩ = some v0 ∧ w.cell? ⟨B, 1, none⟩ = some v1 ∧ w.cell? ⟨B, 2, none⟩ = some v2 ∧ w.cell? ⟨B, 3, none⟩ = some v3 ∧ w.cell? ⟨B, 4, none⟩ = some v4 ∧ w.cell? ⟨B, 5, none⟩ = some v5 ∧ w.cell? ⟨B, 6, none⟩ = some v6 ∧ w.cell? ⟨B, 7, none⟩ = some v7 ∧ w.cell? ⟨B, 8, none⟩ = some v8 ∧ w.cell? ⟨B, 9, none⟩ = some v9 ∧ w.cell? ⟨B, 10, none⟩ = some v10 :=
  ⟨cellAt h 0 rfl, cellAt h 1 rfl, cellAt h 2 rfl, cellAt h 3 rfl, cellAt h 4 rfl, cellAt h 5 rfl, cellAt h 6 rfl, cellAt h 7 rfl, cellAt h 8 rfl, cellAt h 9 rfl, cellAt h 10 rfl⟩
theorem froz11 {w : World} {B t : Nat} {cs : Array Value} (h : w.heap[B]? = some (.cells cs t (0, 0))) : w.frozen? ⟨B, 0, none⟩ = false ∧ w.frozen? ⟨B, 1, none⟩ = false ∧ w.frozen? ⟨B, 2, none⟩ = false ∧ w.frozen? ⟨B, 3, none⟩ = false ∧ w.frozen? ⟨B, 4, none⟩ = false ∧ w.frozen? ⟨B, 5, none⟩ = false ∧ w.frozen? ⟨B, 6, none⟩ = false ∧ w.frozen? ⟨B, 7, none⟩ = false ∧ w.frozen? ⟨B, 8, none⟩ = false ∧ w.frozen? ⟨B, 9, none⟩ = false ∧ w.frozen? ⟨B, 10, none⟩ = false :=
  ⟨frozAt h 0, frozAt h 1, frozAt h 2, frozAt h 3, frozAt h 4, frozAt h 5, frozAt h 6, frozAt h 7, frozAt h 8, frozAt h 9, frozAt h 10⟩
theorem cells12 {w : World} {B t : Nat} {z : Nat × Nat} {v0 v1 v2 v3 v4 v5 v6 v7 v8 v9 v10 v11 : Value} (h : w.heap[B]? = some (.cells #[v0, v1, v2, v3, v4, v5, v6, v7, v8, v9, v10, v11] t z)) : w.cell? ⟨B, 0, none⟩ = some v0 ∧ w.cell? ⟨B, 1, none⟩ = some v1 ∧ w.cell? ⟨B, 2, none⟩ = some v2 ∧ w.cell? ⟨B, 3, none⟩ = some v3 ∧ w.cell? ⟨B, 4, none⟩ = some v4 ∧ w.cell? ⟨B, 5, none⟩ = some v5 ∧ w.cell? ⟨B, 6, none⟩ = some v6 ∧ w.cell? ⟨B, 7, none⟩ = some v7 ∧ w.cell? ⟨B, 8, none⟩ = some v8 ∧ w.cell? ⟨B, 9, none⟩ = some v9 ∧ w.cell? ⟨B, 10, none⟩ = some v10 ∧ w.cell? ⟨B, 11, none⟩ = some v11 :=
  ⟨cellAt h 0 rfl, cellAt h 1 rfl, cellAt h 2 rfl, cellAt h 3 rfl, cellAt h 4 rfl, cellAt h 5 rfl, cellAt h 6 rfl, cellAt h 7 rfl, cellAt h 8 rfl, cellAt h 9 rfl, cellAt h 10 rfl, cellAt h 11 rfl⟩
theorem froz12 {w : World} {B t : Nat} {cs : Array Value} (h : w.heap[B]? = some (.cells cs t (0, 0))) : w.frozen? ⟨B, 0, none⟩ = false ∧ w.frozen? ⟨B, 1, none⟩ = false ∧ w.frozen? ⟨B, 2, none⟩ = false ∧ w.frozen? ⟨B, 3, none⟩ = false ∧ w.frozen? ⟨B, 4, none⟩ = false ∧ w.frozen? ⟨B, 5, none⟩ = false ∧ w.frozen? ⟨B, 6, none⟩ = false ∧ w.frozen? ⟨B, 7, none⟩ = false ∧ w.frozen? ⟨B, 8, none⟩ = false ∧ w.frozen? ⟨B, 9, none⟩ = false ∧ w.frozen? ⟨B, 10, none⟩ = false ∧ w.frozen? ⟨B, 11, none⟩ = false :=
  ⟨frozAt h 0, frozAt h 1, frozAt h 2, frozAt h 3, frozAt h 4, frozAt h 5, frozAt h 6, frozAt h 7, frozAt h 8, frozAt h 9, frozAt h 10, frozAt h 11⟩
end
end Lx
end Go.Proofs.YtljfloopjgpaeabDoor
