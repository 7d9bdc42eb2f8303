/- A whole block stored anew. Nothing of the dump is named here. -/
import Derived.Test.YtljfloopjgpaeabDoorQC
namespace Go.Proofs.YtljfloopjgpaeabDoor
set_option linter.unusedVariables false
set_option linter.unusedSimpArgs false
open Go.RowKit
namespace Lx
theorem sets1 {w : World} {B t : Nat} {z : Nat × Nat} {u0 v0 : Value} (h : w.heap[B]? = some (.cells #[u0] t z)) : (w.setCell ⟨B, 0, none⟩ v0).heap[B]? = some (.cells #[v0] t z) := by
  simp [World.setCell, Array.getElem?_modify, h]
theorem sets2 {w : World} {B t : Nat} {z : Nat × Nat} {u0 u1 v0 v1 : Value} (h : w.heap[B]? = some (.cells #[u0, u1] t z)) : ((w.setCell ⟨B, 0, none⟩ v0).setCell ⟨B, 1, none⟩ v1).heap[B]? = some (.cells #[v0, v1] t z) := by
  simp [World.setCell, Array.getElem?_modify, h]
theorem sets3 {w : World} {B t : Nat} {z : Nat × Nat} {u0 u1 u2 v0 v1 v2 : Value} (h : w.heap[B]? = some (.cells #[u0, u1, u2] t z)) : (((w.setCell ⟨B, 0, none⟩ v0).setCell ⟨B, 1, none⟩ v1).setCell ⟨B, 2, none⟩ v2).heap[B]? = some (.cells #[v0, v1, v2] t z) := by
  simp [World.setCell, Array.getElem?_modify, h]
theorem sets4 {w : World} {B t : Nat} {z : Nat × Nat} {u0 u1 u2 u3 v0 v1 v2 v3 : Value} (h : w.heap[B]? = some (.cells #[u0, u1, u2, u3] t z)) : ((((w.setCell ⟨B, 0, none⟩ v0).setCell ⟨B, 1, none⟩ v1).setCell ⟨B, 2, none⟩ v2).setCell ⟨B, 3, none⟩ v3).heap[B]? = some (.cells #[v0, v1, v2, v3] t z) := by
  simp [World.setCell, Array.getElem?_modify, h]
theorem sets5 {w : World} {B t : Nat} {z : Nat × Nat} {u0 u1 u2 u3 u4 v0 v1 v2 v3 v4 : Value} (h : w.heap[B]? = some (.cells #[u0, u1, u2, u3, u4] t z)) : (((((w.setCell ⟨B, 0, none⟩ v0).setCell ⟨B, 1, none⟩ v1).setCell ⟨B, 2, none⟩ v2).setCell ⟨B, 3, none⟩ v3).setCell ⟨B, 4, none⟩ v4).heap[B]? = some (.cells #[v0, v1, v2, v3, v4] t z) := by
  simp [World.setCell, Array.getElem?_modify, h]
theorem sets6 {w : World} {B t : Nat} {z : Nat × Nat} {u0 u1 u2 u3 u4 u5 v0 v1 v2 v3 v4 v5 : Value} (h : w.heap[B]? = some (.cells #[u0, u1, u2, u3, u4, u5] t z)) : ((((((w.setCell ⟨B, 0, none⟩ v0).setCell ⟨B, 1, none⟩ v1).setCell ⟨B, 2, none⟩ v2).setCell ⟨B, 3, none⟩ v3).setCell ⟨B, 4, none⟩ v4).setCell ⟨B, 5, none⟩ v5).heap[B]? = some (.cells #[v0, v1, v2, v3, v4, v5] t z) := by
  simp [World.setCell, Array.getElem?_modify, h]
theorem sets7 {w : World} {B t : Nat} {z : Nat × Nat} {u0 u1 u2 u3 u4 u5 u6 v0 v1 v2 v3 v4 v5 v6 : Value} (h : w.heap[B]? = some (.cells #[u0, u1, u2, u3, u4, u5, u6] t z)) : (((((((w.setCell ⟨B, 0, none⟩ v0).setCell ⟨B, 1, none⟩ v1).setCell ⟨B, 2, none⟩ v2).setCell ⟨B, 3, none⟩ v3).setCell ⟨B, 4, none⟩ v4).setCell ⟨B, 5, none⟩ v5).setCell ⟨B, 6, none⟩ v6).heap[B]? = some (.cells #[v0, v1, v2, v3, v4, v5, v6] t z) := by
  simp [World.setCell, Array.getElem?_modify, h]
theorem sets8 {w : World} {B t : Nat} {z : Nat × Nat} {u0 u1 u2 u3 u4 u5 u6 u7 v0 v1 v2 v3 v4 v5 v6 v7 : Value} (h : w.heap[B]? = some (.cells #[u0, u1, u2, u3, u4, u5, u6, u7] t z)) : ((((((((w.setCell ⟨B, 0, none⟩ v0).setCell ⟨B, 1, none⟩ v1).setCell ⟨B, 2, none⟩ v2).setCell ⟨B, 3, none⟩ v3).setCell ⟨B, 4, none⟩ v4).setCell ⟨B, 5, none⟩ v5).setCell ⟨B, 6, none⟩ v6).setCell ⟨B, 7, none⟩ v7).heap[B]? = some (.cells #[v0, v1, v2, v3, v4, v5, v6, v7] t z) := by
  simp [World.setCell, Array.getElem?_modify, h]
theorem sets9 {w : World} {B t : Nat} {z : Nat × Nat} {u0 u1 u2 u3 u4 u5 u6 u7 u8 v0 v1 v2 v3 v4 v5 v6 v7 v8 : Value} (h : w.heap[B]? = some (.cells #[u0, u1, u2, u3, u4, u5, u6, u7, u8] t z)) : (((((((((w.setCell ⟨B, 0, none⟩ v0).setCell ⟨B, 1, none⟩ v1).setCell ⟨B, 2, none⟩ v2).setCell ⟨B, 3, none⟩ v3).setCell ⟨B, 4, none⟩ v4).setCell ⟨B, 5, none⟩ v5).setCell ⟨B, 6, none⟩ v6).setCell ⟨B, 7, none⟩ v7).setCell ⟨B, 8, none⟩ v8).heap[B]? = some (.cells #[v0, v1, v2, v3, v4, v5, v6, v7, v8] t z) := by
  simp [World.setCell, Array.getElem?_modify, h]
theorem sets10 {w : World} {B t : Nat} {z : Nat × Nat} {u0 u1 u2 u3 u4 u5 u6 u7 u8 u9 v0 v1 v2 v3 v4 v5 v6 v7 v8 v9 : Value} (h : w.heap[B]? = some (.cells #[u0, u1, u2, u3, u4, u5, u6, u7, u8, u9] t z)) : ((((((((((w.setCell ⟨B, 0, none⟩ v0).setCell ⟨B, 1, none⟩ v1).setCell ⟨B, 2, none⟩ v2).setCell ⟨B, 3, none⟩ v3).setCell ⟨B, 4, none⟩ v4).setCell ⟨B, 5, none⟩ v5).setCell ⟨B, 6, none⟩ v6).setCell ⟨B, 7, none⟩ v7).setCell ⟨B, 8, none⟩ v8).setCell ⟨B, 9, none⟩ v9).heap[B]? = some (.cells #[v0, v1, v2, v3, v4, v5, v6, v7, v8, v9] t z) := by
  simp [World.setCell, Array.getElem?_modify, h]
theorem sets11 {w : World} {B t : Nat} {z : Nat × Nat} {u0 u1 u2 u3 u4 u5 u6 u7 u8 u9 u10 v0 v1 v2 v3 v4 v5 v6 v7 v8 v9 v10 : Value} (h : w.heap[B]? = some (.cells #[u0, u1, u2, u3, u4, u5, u6, u7, u8, u9, u10] t z)) : (((((((((((w.setCell ⟨B, 0, none⟩ v0).setCell ⟨B, 1, none⟩ v1).setCell ⟨B, 2, none⟩ v2).setCell ⟨B, 3, none⟩ v3).setCell ⟨B, 4, none⟩ v4).setCell ⟨B, 5, none⟩ v5).setCell ⟨B, 6, none⟩ v6).setCell ⟨B, 7, none⟩ v7).setCell ⟨B, 8, none⟩ v8).setCell ⟨B, 9, none⟩ v9).setCell ⟨B, 10, none⟩ v10).heap[B]? = some (.cells #[v0, v1, v2, v3, v4, v5, v6, v7, v8, v9, v10] t z) := by
  simp [World.setCell, Array.getElem?_modify, h]
theorem sets12 {w : World} {B t : Nat} {z : Nat × Nat} {u0 u1 u2 u3 u4 u5 u6 u7 u8 u9 u10 u11 v0 v1 v2 v3 v4 v5 v6 v7 v8 v9 v10 v11 : Value} (h : w.heap[B]? = some (.cells #[u0, u1, u2, u3, u4, u5, u6, u7, u8, u9, u10, u11] t z)) : ((((((((((((w.setCell ⟨B, 0, none⟩ v0).setCell ⟨B, 1, none⟩ v1).setCell ⟨B, 2, none⟩ v2).setCell ⟨B, 3, none⟩ v3).setCell ⟨B, 4, none⟩ v4).setCell ⟨B, 5, none⟩ v5).setCell ⟨B, 6, none⟩ v6).setCell ⟨B, 7, none⟩ v7).setCell ⟨B, 8, none⟩ v8).setCell ⟨B, 9, none⟩ v9).setCell ⟨B, 10, none⟩ v10).setCell ⟨B, 11, none⟩ v11).heap[B]? = some (.cells #[v0, v1, v2, v3, v4, v5, v6, v7, v8, v9, v10, v11] t z) := by
  simp [World.setCell, Array.getElem?_modify, h]
section
variable {P : Program} {B : Nat} {w0 : World} {O : Array Oper} {l : List Oper}
/-- A row that is made. -/
theorem kn {Q : Act → St → Prop} (HO : Hid (O = l.toArray)) (i : Nat) {oi : Oper} {fuel : Nat} {listed : Array Bool} {a : Act} {s : St} (hk : sel l listed i = true) (hx : l[i]? = some oi ∧ tagOf oi = .new ∧ Region.wanted oi (yielded l.toArray a.tmps) = true) {mk : Nat → Value} {o : Obj} (hrun : ∀ w, (execOp a.eval oi).run P w = .ok (.value (mk w.heap.size)) (w.alloc o))
    (h : ∀ g, B ≤ g → s.M g = none → J P B w0 O Q fuel (listed.setIfInBounds i true) (a.put oi.dst (mk g)) (s.upd g o)) : J P B w0 O Q (fuel + 1) listed a s := by
  obtain rfl : O = _ := HO.out
  simp only [sel, Bool.and_eq_true] at hk
  exact J.new i (by simpa using hx.1) hk.1 hk.2 hx.2.1 hx.2.2 hrun h
/-- A call of which something is known. -/
theorem kR {Q : Act → St → Prop} (HO : Hid (O = l.toArray)) (i : Nat) (R : Value → (World → Prop) → Prop) {oi : Oper} {fuel : Nat} {listed : Array Bool} {a : Act} {s : St} (hk : sel l listed i = true) (hx : l[i]? = some oi ∧ tagOf oi = .call ∧ Region.wanted oi (yielded l.toArray a.tmps) = true) {f : FuncId} {args : Array Value} (hrun : ∀ w, (execOp a.eval oi).run P w = .ok (.enter f args) w)
    (hne : (∃ v φ, R v φ) ∧ ∀ v φ, R v φ → Stable φ) (hc : ∀ w, In B w0 s w → Calls P f args w fun e w' => ∃ v φ, e = .returned v ∧ R v φ ∧ φ w' ∧ Below w.heap.size w w')
    (h : ∀ v φ, R v φ → J P B w0 O Q fuel (listed.setIfInBounds i true) (a.put oi.dst v) (s.add φ)) : J P B w0 O Q (fuel + 1) listed a s := by
  obtain rfl : O = _ := HO.out
  simp only [sel, Bool.and_eq_true] at hk
  exact J.callR i R (by simpa using hx.1) hk.1 hk.2 hx.2.1 hx.2.2 hrun hne.1 hne.2 hc h
/-- A store, with what is known there. -/
theorem ksG {Q : Act → St → Prop} (HO : Hid (O = l.toArray)) (i : Nat) {oi : Oper} {fuel : Nat} {listed : Array Bool} {a : Act} {s : St} (hk : sel l listed i = true) (hx : l[i]? = some oi ∧ tagOf oi = .store ∧ Region.wanted oi (yielded l.toArray a.tmps) = true) {g : Nat} {o o' : Obj} (hg : s.M g = some o) (hrun : ∀ w, In B w0 s w → w.heap[g]? = some o → ∃ w', (execOp a.eval oi).run P w = .ok .skip w' ∧ OnlyAt g w w' ∧ w'.heap[g]? = some o') (hG : ∀ w w', In B w0 s w → w.heap[g]? = some o → OnlyAt g w w' → s.G w')
    (h : J P B w0 O Q fuel (listed.setIfInBounds i true) (a.put oi.dst undef) (s.upd g o')) : J P B w0 O Q (fuel + 1) listed a s := by
  obtain rfl : O = _ := HO.out
  simp only [sel, Bool.and_eq_true] at hk
  exact J.take (by simpa using hx.1) hk.1 hk.2 (e := .store g o') hx.2.2 ⟨hx.2.1, ⟨o, hg⟩, fun w hin => by obtain ⟨w', h1, h2, h3⟩ := hrun w hin (hin.holds g o hg); exact ⟨w', h1, h2, h3, hG _ _ hin (hin.holds g o hg) h2⟩⟩ h
theorem m0 {s : St} {φ : World → Prop} {w : World} (h : (s.add φ).G w) : φ w := h.2
theorem mS {s : St} {φ : World → Prop} {w : World} (h : (s.add φ).G w) : s.G w := h.1
theorem mU {s : St} {g : Nat} {o : Obj} {w : World} (h : (s.upd g o).G w) : s.G w := h
end
end Lx
end Go.Proofs.YtljfloopjgpaeabDoor
