/- tollbarlaw13.alive: the chapter's example. -/
import Derived.Test.YtljfloopjgpaeaaU
import Derived.Test.YtljfloopjgpaeaaV
import Derived.Test.YtljfloopjgpaeaaQ
import Derived.Test.YtljfloopjgpaeaaX
import Derived.Deep.RegionHeld3
import Derived.Outline
namespace Go.Proofs.Ytljfloopjgpaeaa
set_option linter.unusedVariables false
set_option linter.unusedSimpArgs false
open Go.RowKit
attribute [local go_sem] Oper.semAt_some
set_option maxRecDepth 100000

theorem flatMap_at {α : Type} {f : α → List Value} {sz : Nat} (hf : ∀ x, (f x).length = sz) : ∀ (l : List α) (i j : Nat) (x : α) (u : Value), l[i]? = some x → (f x)[j]? = some u → (l.flatMap f)[i * sz + j]? = some u
  | [], _, _, _, _, h, _ => by simp at h
  | a :: l, 0, j, x, u, h, hj => by
    obtain rfl : a = x := by simpa using h
    rw [List.flatMap_cons, Nat.zero_mul, Nat.zero_add, List.getElem?_append_left (List.getElem?_eq_some_iff.1 hj).1]
    exact hj
  | a :: l, i + 1, j, x, u, h, hj => by
    have hlen := hf a
    rw [List.flatMap_cons, List.getElem?_append_right (by rw [hlen, Nat.succ_mul]; omega), hlen, show (i + 1) * sz + j - sz = i * sz + j by rw [Nat.succ_mul]; omega]
    exact flatMap_at hf l i j x u (by simpa using h) hj
/-- A block that holds the elements one behind the other reads as their list. -/
theorem flat_block {α : Type} {f : α → List Value} {sz : Nat} {Q : α → Prop} (hf : ∀ x, (f x).length = sz) {W : World} {b : Nat} {cs : Array Value} {t : Nat} {z : Nat × Nat} (hb : W.heap[b]? = some (.cells cs t z)) {l : List α} (hc : cs.toList = l.flatMap f) (hQ : ∀ x ∈ l, Q x) {c : Nat} (h1 : l.length ≤ c) (h2 : c ≤ maxLen) (h3 : l.length ≤ 140737488351232) :
    (Kn.flat sz f Q).R W (.slice (some ⟨b, 0, none⟩) l.length c) l :=
  ⟨_, _, rfl, h1, h2, h3, fun _ => ⟨b, 0, rfl, (Array.getElem?_eq_some_iff.1 hb).1, fun i x hi => ⟨f x, ⟨rfl, hQ x (List.mem_of_getElem? hi)⟩, fun j u hj => by
    have h := flatMap_at hf l i j x u hi hj
    have hsz : (Kn.flat sz f Q).sz = sz := rfl
    rw [hsz, Nat.zero_add]
    simp only [World.cell?, hb]
    rw [← h, ← hc]
    simp⟩⟩⟩
theorem nil_R {α : Type} (d : Kn α) (W : World) : d.R W (.slice none 0 0) [] := ⟨_, _, rfl, Nat.le_refl _, Nat.zero_le _, Nat.zero_le _, fun h => absurd h (Nat.lt_irrefl _)⟩

/-- A frame that is stored into a block of its own. -/
theorem storeFr (g : FrameV) {P : Program} (r : Sem Next) {w : World} {B : Nat} (h : w.heap[B]? = some (.cells FrameV.zero.cells 47 (0, 0)))
    (hr : w.cell? ⟨B, 0, none⟩ = some (.int .i64 0) → w.cell? ⟨B, 1, none⟩ = some (.int .i64 0) → w.cell? ⟨B, 2, none⟩ = some (.int .i64 0) → w.cell? ⟨B, 3, none⟩ = some (.int .i64 0) → w.cell? ⟨B, 4, none⟩ = some (.int .i64 0) → w.cell? ⟨B, 5, none⟩ = some (.int .i64 0) → w.cell? ⟨B, 6, none⟩ = some (.int .i64 0) → w.cell? ⟨B, 7, none⟩ = some (.int .i64 0) → w.cell? ⟨B, 8, none⟩ = some (.int .i64 0) → w.cell? ⟨B, 9, none⟩ = some (.int .i64 0) →
      w.frozen? ⟨B, 0, none⟩ = false → w.frozen? ⟨B, 1, none⟩ = false → w.frozen? ⟨B, 2, none⟩ = false → w.frozen? ⟨B, 3, none⟩ = false → w.frozen? ⟨B, 4, none⟩ = false → w.frozen? ⟨B, 5, none⟩ = false → w.frozen? ⟨B, 6, none⟩ = false → w.frozen? ⟨B, 7, none⟩ = false → w.frozen? ⟨B, 8, none⟩ = false → w.frozen? ⟨B, 9, none⟩ = false →
      r.run P w = .ok .skip ((((((((((w.setCell ⟨B, 0, none⟩ (.int .i64 g.code)).setCell ⟨B, 1, none⟩ (.int .i64 g.pc)).setCell ⟨B, 2, none⟩ (.int .i64 (rg g.r 0))).setCell ⟨B, 3, none⟩ (.int .i64 (rg g.r 1))).setCell ⟨B, 4, none⟩ (.int .i64 (rg g.r 2))).setCell ⟨B, 5, none⟩ (.int .i64 (rg g.r 3))).setCell ⟨B, 6, none⟩ (.int .i64 (rg g.r 4))).setCell ⟨B, 7, none⟩ (.int .i64 (rg g.r 5))).setCell ⟨B, 8, none⟩ (.int .i64 (rg g.r 6))).setCell ⟨B, 9, none⟩ (.int .i64 (rg g.r 7)))) :
    ∃ w', r.run P w = .ok .skip w' ∧ Lx.OnlyAt B w w' ∧ w'.heap[B]? = some (.cells g.cells 47 (0, 0)) := by
  have hF : FrB w B FrameV.zero := h
  refine ⟨_, hr (hF.cell 0) (hF.cell 1) (hF.cell 2) (hF.cell 3) (hF.cell 4) (hF.cell 5) (hF.cell 6) (hF.cell 7) (hF.cell 8) (hF.cell 9) (hF.free 0) (hF.free 1) (hF.free 2) (hF.free 3) (hF.free 4) (hF.free 5) (hF.free 6) (hF.free 7) (hF.free 8) (hF.free 9), ?_, FrB.setAll hF g⟩
  exact ((((((((((Lx.OnlyAt.refl B w).set 0 _).set 1 _).set 2 _).set 3 _).set 4 _).set 5 _).set 6 _).set 7 _).set 8 _).set 9 _

def InsV.cellsA (x : InsV) : Array Value := #[.int .u8 x.op, .int .i64 x.a, .int .i64 x.b, .int .i64 x.ch, .int .i64 x.k]
theorem storeIns (x : InsV) {P : Program} (r : Sem Next) {w : World} {B : Nat} (h : w.heap[B]? = some (.cells InsV.zero.cellsA 56 (0, 0)))
    (hr : w.cell? ⟨B, 0, none⟩ = some (.int .u8 0) → w.cell? ⟨B, 1, none⟩ = some (.int .i64 0) → w.cell? ⟨B, 2, none⟩ = some (.int .i64 0) → w.cell? ⟨B, 3, none⟩ = some (.int .i64 0) → w.cell? ⟨B, 4, none⟩ = some (.int .i64 0) →
      w.frozen? ⟨B, 0, none⟩ = false → w.frozen? ⟨B, 1, none⟩ = false → w.frozen? ⟨B, 2, none⟩ = false → w.frozen? ⟨B, 3, none⟩ = false → w.frozen? ⟨B, 4, none⟩ = false →
      r.run P w = .ok .skip (((((w.setCell ⟨B, 0, none⟩ (.int .u8 x.op)).setCell ⟨B, 1, none⟩ (.int .i64 x.a)).setCell ⟨B, 2, none⟩ (.int .i64 x.b)).setCell ⟨B, 3, none⟩ (.int .i64 x.ch)).setCell ⟨B, 4, none⟩ (.int .i64 x.k))) :
    ∃ w', r.run P w = .ok .skip w' ∧ Lx.OnlyAt B w w' ∧ w'.heap[B]? = some (.cells x.cellsA 56 (0, 0)) := by
  refine ⟨_, hr ?_ ?_ ?_ ?_ ?_ ?_ ?_ ?_ ?_ ?_, (((((Lx.OnlyAt.refl B w).set 0 _).set 1 _).set 2 _).set 3 _).set 4 _, ?_⟩
  all_goals first | (simp [World.cell?, h, InsV.cellsA, InsV.zero]; done) | (simp [World.frozen?, h, InsV.cellsA]; done) | skip
  simp [World.setCell, Array.getElem?_modify, h, InsV.cellsA]

/-- The example's program. -/
def prA : ProgV := ⟨[], [[⟨1, 0, 0, 0, 5⟩, ⟨2, 0, 0, 0, 0⟩, ⟨4, 1, 0, 0, 4⟩, ⟨10, 0, 0, 0, 0⟩, ⟨3, 0, 0, 0, 3⟩]], []⟩

def frA : FrameV := ⟨0, 3, [10, 0, 0, 0, 0, 0, 0, 0]⟩
theorem runA10 : runF prA ⟨0, 0, [0, 0, 0, 0, 0, 0, 0, 0]⟩ 10 = (frA, 4, 0) := by decide +kernel
theorem runA3 : runF prA ⟨0, 0, [0, 0, 0, 0, 0, 0, 0, 0]⟩ 3 = (FrameV.zero, 0, 5) := by decide +kernel
theorem stepA : stepF prA frA = (FrameV.zero, 8) := by decide +kernel
theorem stepA1 : stepF prA ⟨1, 0, [0, 0, 0, 0, 0, 0, 0, 0]⟩ = (FrameV.zero, 2) := by decide +kernel
theorem atA : atX prA 0 3 = ⟨10, 0, 0, 0, 0⟩ ∧ atB prA 0 3 = true := by decide +kernel

set_option maxHeartbeats 4000000 in
theorem alive13_any (w : World) : Calls Try.prog 30 #[] w fun e w' => e = .returned (.bool true) ∧ Below w.heap.size w w' := by
  have hb0 := fun (c : Int) (W : World) => begin_any c W
  simp only [FrameV.agg, FrameV.cells, rg, List.getD_cons_zero, List.getD_cons_succ] at hb0
  have HB0 := Lib.hid hb0
  have hr := fun (W : World) (h : RProg W (.slice none 0 0) (.slice (some ⟨w.heap.size + 1, 0, none⟩) 1 1) (.slice none 0 0) prA) => run_any h ⟨0, 0, [0, 0, 0, 0, 0, 0, 0, 0]⟩ rfl 10
  rw [runA10] at hr
  simp only [FrameV.agg, FrameV.cells, frA, rg, List.getD_cons_zero, List.getD_cons_succ] at hr
  have HR10 := Lib.hid hr
  clear hr hb0
  have hr := fun (W : World) (h : RProg W (.slice none 0 0) (.slice (some ⟨w.heap.size + 1, 0, none⟩) 1 1) (.slice none 0 0) prA) => run_any h ⟨0, 0, [0, 0, 0, 0, 0, 0, 0, 0]⟩ rfl 3
  rw [runA3] at hr
  simp only [FrameV.agg, FrameV.cells, FrameV.zero, rg, List.getD_cons_zero, List.getD_cons_succ] at hr
  have HR3 := Lib.hid hr
  clear hr
  have hr := fun (W : World) (h : RProg W (.slice none 0 0) (.slice (some ⟨w.heap.size + 1, 0, none⟩) 1 1) (.slice none 0 0) prA) => step_any h frA rfl
  rw [stepA] at hr
  simp only [FrameV.agg, FrameV.cells, frA, FrameV.zero, rg, List.getD_cons_zero, List.getD_cons_succ] at hr
  have HS0 := Lib.hid hr
  clear hr
  have hr := fun (W : World) (h : RProg W (.slice none 0 0) (.slice (some ⟨w.heap.size + 1, 0, none⟩) 1 1) (.slice none 0 0) prA) => step_any h ⟨1, 0, [0, 0, 0, 0, 0, 0, 0, 0]⟩ rfl
  rw [stepA1] at hr
  simp only [FrameV.agg, FrameV.cells, FrameV.zero, rg, List.getD_cons_zero, List.getD_cons_succ] at hr
  have HS1' := Lib.hid hr
  clear hr
  have hr := fun (W : World) (h : RProg W (.slice none 0 0) (.slice (some ⟨w.heap.size + 1, 0, none⟩) 1 1) (.slice none 0 0) prA) => fAt_any h 0 3 10 0 0 0 0 0 0 0
  simp only [atA.1, atA.2] at hr
  have HA0 := Lib.hid hr
  clear hr
  have hr := fun (W : World) => spawn_any frA 2 W
  simp only [FrameV.agg, FrameV.cells, frA, rg, List.getD_cons_zero, List.getD_cons_succ] at hr
  have HSP := Lib.hid hr
  clear hr
  go_enter Try.func30, Try.ntmps30
  go_upto_region 2 with fail
  generalize hW1 : ((w.alloc _).alloc _).alloc _ = W1
  have hp : ∀ i, W1.cell? ⟨w.heap.size + 1 + 1, i, none⟩ = (#[.slice none 0 0, .slice (some ⟨w.heap.size + 1, 0, none⟩) 1 1, .slice none 0 0] : Array Value)[i]? := fun i => by
    rw [← hW1]; simp only [World.cell?]; rw [show w.heap.size + 1 + 1 = ((w.alloc _).alloc _).heap.size from by simp only [World.size_alloc], World.alloc_heap_new]; rfl
  have p0 := hp 0
  have p1 := hp 1
  have p2 := hp 2
  have hs1 : W1.heap.size = w.heap.size + 3 := by rw [← hW1]; simp
  have HB1 := Lib.hid (show Below w.heap.size w W1 by rw [← hW1]; (repeat (first | with_reducible exact Below.refl _ _ | (with_reducible refine Below.setCell ?_ (by first | (simp; done) | (simp; omega) | omega) _) | (with_reducible refine Below.alloc ?_ (by first | (simp; done) | (simp; omega) | omega) _) | (with_reducible refine Below.drew ?_))))
  have hPA : RProg W1 (.slice none 0 0) (.slice (some ⟨w.heap.size + 1, 0, none⟩) 1 1) (.slice none 0 0) prA := by
    have hcodes : kIns.R W1 (.slice (some ⟨w.heap.size, 0, none⟩) (prA.codes.getD 0 []).length 5) (prA.codes.getD 0 []) := by
      refine flat_block (f := InsV.cells) (Q := InsV.wf) (fun _ => rfl) (b := w.heap.size) (W := W1) (by rw [← hW1, alloc_heap?, if_neg (by simp only [World.size_alloc]; omega), alloc_heap?, if_neg (by simp only [World.size_alloc]; omega), alloc_heap?, if_pos rfl]; rfl) rfl ?_ (by decide) (by decide) (by decide)
      intro x hx
      simp only [prA, List.getD_cons_zero, List.mem_cons, List.not_mem_nil, or_false] at hx
      rcases hx with rfl | rfl | rfl | rfl | rfl <;> (refine ⟨⟨?_, ?_⟩, ⟨?_, ?_⟩, ⟨?_, ?_⟩, ⟨?_, ?_⟩, ⟨?_, ?_⟩⟩ <;> decide)
    refine ⟨nil_R _ _, ⟨_, _, rfl, Nat.le_refl _, by decide, by decide, fun _ => ⟨w.heap.size + 1, 0, rfl, by omega, fun i x hi => ?_⟩⟩, nil_R _ _⟩
    obtain rfl : i = 0 := by
      have := (List.getElem?_eq_some_iff.1 hi).1
      simp only [prA, List.length_cons, List.length_nil] at this
      omega
    obtain rfl : prA.codes.getD 0 [] = x := by simpa [prA] using hi
    refine ⟨[.slice (some ⟨w.heap.size, 0, none⟩) 5 5], ⟨_, rfl, hcodes⟩, fun j u hj => ?_⟩
    have hb : W1.heap[w.heap.size + 1]? = some (.cells #[.slice (some ⟨w.heap.size, 0, none⟩) 5 5] 54 (0, 0)) := by
      rw [← hW1, alloc_heap?, if_neg (by simp only [World.size_alloc]; omega), alloc_heap?, if_pos (by simp only [World.size_alloc])]
    simp only [World.cell?, hb]
    simpa using hj
  have HPA := Lib.hid hPA
  have HS1 := Lib.hid (show w.heap.size + 3 ≤ W1.heap.size by omega)
  clear hp hW1 hPA hs1
  refine Lx.region (by kernel_rfl) (by kernel_rfl) (by simp only [List.size_toArray, List.length_cons, List.length_nil, Nat.reduceAdd]; rfl) (fun O Z hO hZ => ?_); have HO := Lib.hid hO; clear hO
  (apply Lx.J.read 0); (case hi => (rw [HO.out]; simp only [List.getElem?_toArray, List.getElem?_cons_zero, List.getElem?_cons_succ]; rfl)); (case hk => (rw [HO.out]; decide +kernel)); (case hr => (rw [HO.out]; decide +kernel)); (case ht => rfl); (case hw => (rw [HO.out]; rfl)); (case hv => (intro w_ hw_; have q0 := Below.at hw_.below p0 (by have := HS1.out; omega); have q1 := Below.at hw_.below p1 (by have := HS1.out; omega); have q2 := Below.at hw_.below p2 (by have := HS1.out; omega); (go_simp <;> first | with_reducible rfl | exact ⟨rfl, rfl⟩))); (simp only [Act.put, List.setIfInBounds_toArray, List.set_cons_zero, List.set_cons_succ])
  (apply Lx.J.call 1); (case hi => (rw [HO.out]; simp only [List.getElem?_toArray, List.getElem?_cons_zero, List.getElem?_cons_succ]; rfl)); (case hk => (rw [HO.out]; decide +kernel)); (case hr => (rw [HO.out]; decide +kernel)); (case ht => rfl); (case hw => (rw [HO.out]; rfl)); (case hrun => (intro w_; (go_simp <;> first | with_reducible rfl | exact ⟨rfl, rfl⟩))); (case hc => (intro w_ hw_; exact HB0.out _ _)); (simp only [Act.put, List.setIfInBounds_toArray, List.set_cons_zero, List.set_cons_succ])
  (apply Lx.J.call 2); (case hi => (rw [HO.out]; simp only [List.getElem?_toArray, List.getElem?_cons_zero, List.getElem?_cons_succ]; rfl)); (case hk => (rw [HO.out]; decide +kernel)); (case hr => (rw [HO.out]; decide +kernel)); (case ht => rfl); (case hw => (rw [HO.out]; rfl)); (case hrun => (intro w_; (go_simp <;> first | with_reducible rfl | exact ⟨rfl, rfl⟩))); (case hc => (intro w_ hw_; exact HR10.out _ (HPA.out.keep ((Below.refl _ W1).drew.trans hw_.below)))); (simp only [Act.put, List.setIfInBounds_toArray, List.set_cons_zero, List.set_cons_succ])
  (apply Lx.J.pure 3); (case hi => (rw [HO.out]; simp only [List.getElem?_toArray, List.getElem?_cons_zero, List.getElem?_cons_succ]; rfl)); (case hk => (rw [HO.out]; decide +kernel)); (case hr => (rw [HO.out]; decide +kernel)); (case ht => rfl); (case hw => (rw [HO.out]; rfl)); (case hv => (intro w_ hw_; (go_simp <;> first | with_reducible rfl | exact ⟨rfl, rfl⟩))); (simp only [Act.put, List.setIfInBounds_toArray, List.set_cons_zero, List.set_cons_succ])
  (apply Lx.J.pure 4); (case hi => (rw [HO.out]; simp only [List.getElem?_toArray, List.getElem?_cons_zero, List.getElem?_cons_succ]; rfl)); (case hk => (rw [HO.out]; decide +kernel)); (case hr => (rw [HO.out]; decide +kernel)); (case ht => rfl); (case hw => (rw [HO.out]; rfl)); (case hv => (intro w_ hw_; (go_simp <;> first | with_reducible rfl | exact ⟨rfl, rfl⟩))); (simp only [Act.put, List.setIfInBounds_toArray, List.set_cons_zero, List.set_cons_succ])
  (apply Lx.J.pure 5); (case hi => (rw [HO.out]; simp only [List.getElem?_toArray, List.getElem?_cons_zero, List.getElem?_cons_succ]; rfl)); (case hk => (rw [HO.out]; decide +kernel)); (case hr => (rw [HO.out]; decide +kernel)); (case ht => rfl); (case hw => (rw [HO.out]; rfl)); (case hv => (intro w_ hw_; (go_simp <;> first | with_reducible rfl | exact ⟨rfl, rfl⟩))); (simp only [Act.put, List.setIfInBounds_toArray, List.set_cons_zero, List.set_cons_succ])
  (apply Lx.J.pure 6); (case hi => (rw [HO.out]; simp only [List.getElem?_toArray, List.getElem?_cons_zero, List.getElem?_cons_succ]; rfl)); (case hk => (rw [HO.out]; decide +kernel)); (case hr => (rw [HO.out]; decide +kernel)); (case ht => rfl); (case hw => (rw [HO.out]; rfl)); (case hv => (intro w_ hw_; (go_simp <;> first | with_reducible rfl | exact ⟨rfl, rfl⟩))); (simp only [Act.put, List.setIfInBounds_toArray, List.set_cons_zero, List.set_cons_succ])
  (apply Lx.J.alloc 7); (case hi => (rw [HO.out]; simp only [List.getElem?_toArray, List.getElem?_cons_zero, List.getElem?_cons_succ]; rfl)); (case hk => (rw [HO.out]; decide +kernel)); (case hr => (rw [HO.out]; decide +kernel)); (case ht => rfl); (case hw => (rw [HO.out]; rfl)); (case hrun => (intro w_; (go_simp <;> first | with_reducible rfl | exact ⟨rfl, rfl⟩))); (simp only [Act.put, List.setIfInBounds_toArray, List.set_cons_zero, List.set_cons_succ])
  intro g2 hg2 _
  (apply Lx.J.store 8); (case hi => (rw [HO.out]; simp only [List.getElem?_toArray, List.getElem?_cons_zero, List.getElem?_cons_succ]; rfl)); (case hk => (rw [HO.out]; decide +kernel)); (case hr => (rw [HO.out]; decide +kernel)); (case ht => rfl); (case hw => (rw [HO.out]; rfl)); (case hG => exact fun _ _ h_ _ => h_); (case hg => (repeat (first | exact Lx.St.upd_at _ _ _ | rw [Lx.St.upd_ne _ _ (by omega)] | rw [Lx.St.add_M]))); (case hrun => (intro w_ hw_ hb_; exact storeFr frA _ hb_ (fun c0 c1 c2 c3 c4 c5 c6 c7 c8 c9 d0 d1 d2 d3 d4 d5 d6 d7 d8 d9 => by (go_simp <;> first | with_reducible rfl | rfl)))); (simp only [Act.put, List.setIfInBounds_toArray, List.set_cons_zero, List.set_cons_succ])
  (apply Lx.J.pure 9); (case hi => (rw [HO.out]; simp only [List.getElem?_toArray, List.getElem?_cons_zero, List.getElem?_cons_succ]; rfl)); (case hk => (rw [HO.out]; decide +kernel)); (case hr => (rw [HO.out]; decide +kernel)); (case ht => rfl); (case hw => (rw [HO.out]; rfl)); (case hv => (intro w_ hw_; (go_simp <;> first | with_reducible rfl | exact ⟨rfl, rfl⟩))); (simp only [Act.put, List.setIfInBounds_toArray, List.set_cons_zero, List.set_cons_succ])
  (apply Lx.J.pure 10); (case hi => (rw [HO.out]; simp only [List.getElem?_toArray, List.getElem?_cons_zero, List.getElem?_cons_succ]; rfl)); (case hk => (rw [HO.out]; decide +kernel)); (case hr => (rw [HO.out]; decide +kernel)); (case ht => rfl); (case hw => (rw [HO.out]; rfl)); (case hv => (intro w_ hw_; (go_simp <;> first | with_reducible rfl | exact ⟨rfl, rfl⟩))); (simp only [Act.put, List.setIfInBounds_toArray, List.set_cons_zero, List.set_cons_succ])
  refine Lx.J.done (by rw [HO.out]; kernel_rfl) (fun hiv2 => hZ _ _ (fun w2 hw2 => ?_)) _
  clear hZ Z HO O
  have hgb2 := Lib.hid (hw2.holds g2 _ (Lx.St.upd_at _ _ _))
  have hb_ := (Below.refl _ _).drew.trans hw2.below
  (replace p0 := Below.at hb_ p0 (by have := HS1.out; omega)); (replace p1 := Below.at hb_ p1 (by have := HS1.out; omega)); (replace p2 := Below.at hb_ p2 (by have := HS1.out; omega)); (replace HPA := Lib.hid (HPA.out.keep hb_)); (replace HB1 := Lib.hid (HB1.out.trans (hb_.mono (by have := HS1.out; omega)))); (replace HS1 := Lib.hid (Nat.le_trans HS1.out hb_.size))
  clear hw2 hb_
  go_upto_region 3 with fail
  refine Lx.region (by kernel_rfl) (by kernel_rfl) (by simp only [List.size_toArray, List.length_cons, List.length_nil, Nat.reduceAdd]; rfl) (fun O Z hO hZ => ?_); have HO := Lib.hid hO; clear hO
  (apply Lx.J.read 0); (case hi => (rw [HO.out]; simp only [List.getElem?_toArray, List.getElem?_cons_zero, List.getElem?_cons_succ]; rfl)); (case hk => (rw [HO.out]; decide +kernel)); (case hr => (rw [HO.out]; decide +kernel)); (case ht => rfl); (case hw => (rw [HO.out]; rfl)); (case hv => (intro w_ hw_; have q0 := Below.at hw_.below p0 (by have := HS1.out; omega); have q1 := Below.at hw_.below p1 (by have := HS1.out; omega); have q2 := Below.at hw_.below p2 (by have := HS1.out; omega); (go_simp <;> first | with_reducible rfl | exact ⟨rfl, rfl⟩))); (simp only [Act.put, List.setIfInBounds_toArray, List.set_cons_zero, List.set_cons_succ])
  (apply Lx.J.call 1); (case hi => (rw [HO.out]; simp only [List.getElem?_toArray, List.getElem?_cons_zero, List.getElem?_cons_succ]; rfl)); (case hk => (rw [HO.out]; decide +kernel)); (case hr => (rw [HO.out]; decide +kernel)); (case ht => rfl); (case hw => (rw [HO.out]; rfl)); (case hrun => (intro w_; (go_simp <;> first | with_reducible rfl | exact ⟨rfl, rfl⟩))); (case hc => (intro w_ hw_; exact HB0.out _ _)); (simp only [Act.put, List.setIfInBounds_toArray, List.set_cons_zero, List.set_cons_succ])
  (apply Lx.J.call 2); (case hi => (rw [HO.out]; simp only [List.getElem?_toArray, List.getElem?_cons_zero, List.getElem?_cons_succ]; rfl)); (case hk => (rw [HO.out]; decide +kernel)); (case hr => (rw [HO.out]; decide +kernel)); (case ht => rfl); (case hw => (rw [HO.out]; rfl)); (case hrun => (intro w_; (go_simp <;> first | with_reducible rfl | exact ⟨rfl, rfl⟩))); (case hc => (intro w_ hw_; exact HR3.out _ (HPA.out.keep ((Below.refl _ _).drew.trans hw_.below)))); (simp only [Act.put, List.setIfInBounds_toArray, List.set_cons_zero, List.set_cons_succ])
  (apply Lx.J.pure 3); (case hi => (rw [HO.out]; simp only [List.getElem?_toArray, List.getElem?_cons_zero, List.getElem?_cons_succ]; rfl)); (case hk => (rw [HO.out]; decide +kernel)); (case hr => (rw [HO.out]; decide +kernel)); (case ht => rfl); (case hw => (rw [HO.out]; rfl)); (case hv => (intro w_ hw_; (go_simp <;> first | with_reducible rfl | exact ⟨rfl, rfl⟩))); (simp only [Act.put, List.setIfInBounds_toArray, List.set_cons_zero, List.set_cons_succ])
  (apply Lx.J.pure 4); (case hi => (rw [HO.out]; simp only [List.getElem?_toArray, List.getElem?_cons_zero, List.getElem?_cons_succ]; rfl)); (case hk => (rw [HO.out]; decide +kernel)); (case hr => (rw [HO.out]; decide +kernel)); (case ht => rfl); (case hw => (rw [HO.out]; rfl)); (case hv => (intro w_ hw_; (go_simp <;> first | with_reducible rfl | exact ⟨rfl, rfl⟩))); (simp only [Act.put, List.setIfInBounds_toArray, List.set_cons_zero, List.set_cons_succ])
  (apply Lx.J.pure 5); (case hi => (rw [HO.out]; simp only [List.getElem?_toArray, List.getElem?_cons_zero, List.getElem?_cons_succ]; rfl)); (case hk => (rw [HO.out]; decide +kernel)); (case hr => (rw [HO.out]; decide +kernel)); (case ht => rfl); (case hw => (rw [HO.out]; rfl)); (case hv => (intro w_ hw_; (go_simp <;> first | with_reducible rfl | exact ⟨rfl, rfl⟩))); (simp only [Act.put, List.setIfInBounds_toArray, List.set_cons_zero, List.set_cons_succ])
  (apply Lx.J.pure 6); (case hi => (rw [HO.out]; simp only [List.getElem?_toArray, List.getElem?_cons_zero, List.getElem?_cons_succ]; rfl)); (case hk => (rw [HO.out]; decide +kernel)); (case hr => (rw [HO.out]; decide +kernel)); (case ht => rfl); (case hw => (rw [HO.out]; rfl)); (case hv => (intro w_ hw_; (go_simp <;> first | with_reducible rfl | exact ⟨rfl, rfl⟩))); (simp only [Act.put, List.setIfInBounds_toArray, List.set_cons_zero, List.set_cons_succ])
  (apply Lx.J.alloc 7); (case hi => (rw [HO.out]; simp only [List.getElem?_toArray, List.getElem?_cons_zero, List.getElem?_cons_succ]; rfl)); (case hk => (rw [HO.out]; decide +kernel)); (case hr => (rw [HO.out]; decide +kernel)); (case ht => rfl); (case hw => (rw [HO.out]; rfl)); (case hrun => (intro w_; (go_simp <;> first | with_reducible rfl | exact ⟨rfl, rfl⟩))); (simp only [Act.put, List.setIfInBounds_toArray, List.set_cons_zero, List.set_cons_succ])
  intro g5 hg5 _
  (apply Lx.J.store 8); (case hi => (rw [HO.out]; simp only [List.getElem?_toArray, List.getElem?_cons_zero, List.getElem?_cons_succ]; rfl)); (case hk => (rw [HO.out]; decide +kernel)); (case hr => (rw [HO.out]; decide +kernel)); (case ht => rfl); (case hw => (rw [HO.out]; rfl)); (case hG => exact fun _ _ h_ _ => h_); (case hg => (repeat (first | exact Lx.St.upd_at _ _ _ | rw [Lx.St.upd_ne _ _ (by omega)] | rw [Lx.St.add_M]))); (case hrun => (intro w_ hw_ hb_; exact storeFr FrameV.zero _ hb_ (fun c0 c1 c2 c3 c4 c5 c6 c7 c8 c9 d0 d1 d2 d3 d4 d5 d6 d7 d8 d9 => by (go_simp <;> first | with_reducible rfl | rfl)))); (simp only [Act.put, List.setIfInBounds_toArray, List.set_cons_zero, List.set_cons_succ])
  (apply Lx.J.pure 9); (case hi => (rw [HO.out]; simp only [List.getElem?_toArray, List.getElem?_cons_zero, List.getElem?_cons_succ]; rfl)); (case hk => (rw [HO.out]; decide +kernel)); (case hr => (rw [HO.out]; decide +kernel)); (case ht => rfl); (case hw => (rw [HO.out]; rfl)); (case hv => (intro w_ hw_; (go_simp <;> first | with_reducible rfl | exact ⟨rfl, rfl⟩))); (simp only [Act.put, List.setIfInBounds_toArray, List.set_cons_zero, List.set_cons_succ])
  (apply Lx.J.pure 10); (case hi => (rw [HO.out]; simp only [List.getElem?_toArray, List.getElem?_cons_zero, List.getElem?_cons_succ]; rfl)); (case hk => (rw [HO.out]; decide +kernel)); (case hr => (rw [HO.out]; decide +kernel)); (case ht => rfl); (case hw => (rw [HO.out]; rfl)); (case hv => (intro w_ hw_; (go_simp <;> first | with_reducible rfl | exact ⟨rfl, rfl⟩))); (simp only [Act.put, List.setIfInBounds_toArray, List.set_cons_zero, List.set_cons_succ])
  refine Lx.J.done (by rw [HO.out]; kernel_rfl) (fun hiv2 => hZ _ _ (fun w3 hw3 => ?_)) _
  clear hZ Z HO O
  replace hgb2 := Lib.hid ((hw3.below.block g2 (Array.getElem?_eq_some_iff.1 hgb2.out).1).trans hgb2.out)
  have hb_ := (Below.refl _ _).drew.trans hw3.below
  (replace p0 := Below.at hb_ p0 (by have := HS1.out; omega)); (replace p1 := Below.at hb_ p1 (by have := HS1.out; omega)); (replace p2 := Below.at hb_ p2 (by have := HS1.out; omega)); (replace HPA := Lib.hid (HPA.out.keep hb_)); (replace HB1 := Lib.hid (HB1.out.trans (hb_.mono (by have := HS1.out; omega)))); (replace HS1 := Lib.hid (Nat.le_trans HS1.out hb_.size))
  clear hw3 hb_
  go_upto_region 4 with fail
  refine Lx.region0 (by kernel_rfl) (by kernel_rfl) (by simp only [List.size_toArray, List.length_cons, List.length_nil, Nat.reduceAdd]; rfl) (fun O Z hO hZ => ?_); have HO := Lib.hid hO; clear hO
  (apply Lx.J.read 0); (case hi => (rw [HO.out]; simp only [List.getElem?_toArray, List.getElem?_cons_zero, List.getElem?_cons_succ]; rfl)); (case hk => (rw [HO.out]; decide +kernel)); (case hr => (rw [HO.out]; decide +kernel)); (case ht => rfl); (case hw => (rw [HO.out]; rfl)); (case hv => (intro w_ hw_; have q0 := Below.at hw_.below p0 (by have := HS1.out; omega); have q1 := Below.at hw_.below p1 (by have := HS1.out; omega); have q2 := Below.at hw_.below p2 (by have := HS1.out; omega); (go_simp <;> first | with_reducible rfl | exact ⟨rfl, rfl⟩))); (simp only [Act.put, List.setIfInBounds_toArray, List.set_cons_zero, List.set_cons_succ])
  (apply Lx.J.read 1); (case hi => (rw [HO.out]; simp only [List.getElem?_toArray, List.getElem?_cons_zero, List.getElem?_cons_succ]; rfl)); (case hk => (rw [HO.out]; decide +kernel)); (case hr => (rw [HO.out]; decide +kernel)); (case ht => rfl); (case hw => (rw [HO.out]; rfl)); (case hv => (intro w_ hw_; have F_ : FrB w_ g2 frA := (hw_.below.block g2 (Array.getElem?_eq_some_iff.1 hgb2.out).1).trans hgb2.out; have c0 : w_.cell? ⟨g2, 0, none⟩ = some (.int .i64 0) := F_.cell 0; have c1 : w_.cell? ⟨g2, 1, none⟩ = some (.int .i64 3) := F_.cell 1; have c2 : w_.cell? ⟨g2, 2, none⟩ = some (.int .i64 10) := F_.cell 2; have c3 : w_.cell? ⟨g2, 3, none⟩ = some (.int .i64 0) := F_.cell 3; have c4 : w_.cell? ⟨g2, 4, none⟩ = some (.int .i64 0) := F_.cell 4; have c5 : w_.cell? ⟨g2, 5, none⟩ = some (.int .i64 0) := F_.cell 5; have c6 : w_.cell? ⟨g2, 6, none⟩ = some (.int .i64 0) := F_.cell 6; have c7 : w_.cell? ⟨g2, 7, none⟩ = some (.int .i64 0) := F_.cell 7; have c8 : w_.cell? ⟨g2, 8, none⟩ = some (.int .i64 0) := F_.cell 8; have c9 : w_.cell? ⟨g2, 9, none⟩ = some (.int .i64 0) := F_.cell 9; clear F_; (go_simp <;> first | with_reducible rfl | exact ⟨rfl, rfl⟩))); (simp only [Act.put, List.setIfInBounds_toArray, List.set_cons_zero, List.set_cons_succ])
  (apply Lx.J.call 2); (case hi => (rw [HO.out]; simp only [List.getElem?_toArray, List.getElem?_cons_zero, List.getElem?_cons_succ]; rfl)); (case hk => (rw [HO.out]; decide +kernel)); (case hr => (rw [HO.out]; decide +kernel)); (case ht => rfl); (case hw => (rw [HO.out]; rfl)); (case hrun => (intro w_; (go_simp <;> first | with_reducible rfl | exact ⟨rfl, rfl⟩))); (case hc => (intro w_ hw_; exact HS0.out _ (HPA.out.keep hw_.below))); (simp only [Act.put, List.setIfInBounds_toArray, List.set_cons_zero, List.set_cons_succ])
  (apply Lx.J.pure 3); (case hi => (rw [HO.out]; simp only [List.getElem?_toArray, List.getElem?_cons_zero, List.getElem?_cons_succ]; rfl)); (case hk => (rw [HO.out]; decide +kernel)); (case hr => (rw [HO.out]; decide +kernel)); (case ht => rfl); (case hw => (rw [HO.out]; rfl)); (case hv => (intro w_ hw_; (go_simp <;> first | with_reducible rfl | exact ⟨rfl, rfl⟩))); (simp only [Act.put, List.setIfInBounds_toArray, List.set_cons_zero, List.set_cons_succ])
  (apply Lx.J.pure 4); (case hi => (rw [HO.out]; simp only [List.getElem?_toArray, List.getElem?_cons_zero, List.getElem?_cons_succ]; rfl)); (case hk => (rw [HO.out]; decide +kernel)); (case hr => (rw [HO.out]; decide +kernel)); (case ht => rfl); (case hw => (rw [HO.out]; rfl)); (case hv => (intro w_ hw_; (go_simp <;> first | with_reducible rfl | exact ⟨rfl, rfl⟩))); (simp only [Act.put, List.setIfInBounds_toArray, List.set_cons_zero, List.set_cons_succ])
  (apply Lx.J.pure 5); (case hi => (rw [HO.out]; simp only [List.getElem?_toArray, List.getElem?_cons_zero, List.getElem?_cons_succ]; rfl)); (case hk => (rw [HO.out]; decide +kernel)); (case hr => (rw [HO.out]; decide +kernel)); (case ht => rfl); (case hw => (rw [HO.out]; rfl)); (case hv => (intro w_ hw_; (go_simp <;> first | with_reducible rfl | exact ⟨rfl, rfl⟩))); (simp only [Act.put, List.setIfInBounds_toArray, List.set_cons_zero, List.set_cons_succ])
  (apply Lx.J.alloc 6); (case hi => (rw [HO.out]; simp only [List.getElem?_toArray, List.getElem?_cons_zero, List.getElem?_cons_succ]; rfl)); (case hk => (rw [HO.out]; decide +kernel)); (case hr => (rw [HO.out]; decide +kernel)); (case ht => rfl); (case hw => (rw [HO.out]; rfl)); (case hrun => (intro w_; (go_simp <;> first | with_reducible rfl | exact ⟨rfl, rfl⟩))); (simp only [Act.put, List.setIfInBounds_toArray, List.set_cons_zero, List.set_cons_succ])
  intro g8 hg8 _
  (apply Lx.J.store 7); (case hi => (rw [HO.out]; simp only [List.getElem?_toArray, List.getElem?_cons_zero, List.getElem?_cons_succ]; rfl)); (case hk => (rw [HO.out]; decide +kernel)); (case hr => (rw [HO.out]; decide +kernel)); (case ht => rfl); (case hw => (rw [HO.out]; rfl)); (case hG => exact fun _ _ h_ _ => h_); (case hg => (repeat (first | exact Lx.St.upd_at _ _ _ | rw [Lx.St.upd_ne _ _ (by omega)] | rw [Lx.St.add_M]))); (case hrun => (intro w_ hw_ hb_; exact storeFr FrameV.zero _ hb_ (fun c0 c1 c2 c3 c4 c5 c6 c7 c8 c9 d0 d1 d2 d3 d4 d5 d6 d7 d8 d9 => by (go_simp <;> first | with_reducible rfl | rfl)))); (simp only [Act.put, List.setIfInBounds_toArray, List.set_cons_zero, List.set_cons_succ])
  (apply Lx.J.pure 8); (case hi => (rw [HO.out]; simp only [List.getElem?_toArray, List.getElem?_cons_zero, List.getElem?_cons_succ]; rfl)); (case hk => (rw [HO.out]; decide +kernel)); (case hr => (rw [HO.out]; decide +kernel)); (case ht => rfl); (case hw => (rw [HO.out]; rfl)); (case hv => (intro w_ hw_; (go_simp <;> first | with_reducible rfl | exact ⟨rfl, rfl⟩))); (simp only [Act.put, List.setIfInBounds_toArray, List.set_cons_zero, List.set_cons_succ])
  refine Lx.J.done (by rw [HO.out]; kernel_rfl) (fun hiv2 => hZ _ _ (fun w4 hw2 => ?_)) _
  clear hZ Z HO O
  replace hgb2 := Lib.hid ((hw2.below.block _ (Array.getElem?_eq_some_iff.1 hgb2.out).1).trans hgb2.out)
  have hb_ := hw2.below
  (replace p0 := Below.at hb_ p0 (by have := HS1.out; omega)); (replace p1 := Below.at hb_ p1 (by have := HS1.out; omega)); (replace p2 := Below.at hb_ p2 (by have := HS1.out; omega)); (replace HPA := Lib.hid (HPA.out.keep hb_)); (replace HB1 := Lib.hid (HB1.out.trans (hb_.mono (by have := HS1.out; omega)))); (replace HS1 := Lib.hid (Nat.le_trans HS1.out hb_.size))
  clear hw2 hb_
  go_upto_region 5 with fail
  refine Lx.region (by kernel_rfl) (by kernel_rfl) (by simp only [List.size_toArray, List.length_cons, List.length_nil, Nat.reduceAdd]; rfl) (fun O Z hO hZ => ?_); have HO := Lib.hid hO; clear hO
  (apply Lx.J.read 0); (case hi => (rw [HO.out]; simp only [List.getElem?_toArray, List.getElem?_cons_zero, List.getElem?_cons_succ]; rfl)); (case hk => (rw [HO.out]; decide +kernel)); (case hr => (rw [HO.out]; decide +kernel)); (case ht => rfl); (case hw => (rw [HO.out]; rfl)); (case hv => (intro w_ hw_; have q0 := Below.at hw_.below p0 (by have := HS1.out; omega); have q1 := Below.at hw_.below p1 (by have := HS1.out; omega); have q2 := Below.at hw_.below p2 (by have := HS1.out; omega); (go_simp <;> first | with_reducible rfl | exact ⟨rfl, rfl⟩))); (simp only [Act.put, List.setIfInBounds_toArray, List.set_cons_zero, List.set_cons_succ])
  (apply Lx.J.call 1); (case hi => (rw [HO.out]; simp only [List.getElem?_toArray, List.getElem?_cons_zero, List.getElem?_cons_succ]; rfl)); (case hk => (rw [HO.out]; decide +kernel)); (case hr => (rw [HO.out]; decide +kernel)); (case ht => rfl); (case hw => (rw [HO.out]; rfl)); (case hrun => (intro w_; (go_simp <;> first | with_reducible rfl | exact ⟨rfl, rfl⟩))); (case hc => (intro w_ hw_; exact HB0.out _ _)); (simp only [Act.put, List.setIfInBounds_toArray, List.set_cons_zero, List.set_cons_succ])
  (apply Lx.J.call 2); (case hi => (rw [HO.out]; simp only [List.getElem?_toArray, List.getElem?_cons_zero, List.getElem?_cons_succ]; rfl)); (case hk => (rw [HO.out]; decide +kernel)); (case hr => (rw [HO.out]; decide +kernel)); (case ht => rfl); (case hw => (rw [HO.out]; rfl)); (case hrun => (intro w_; (go_simp <;> first | with_reducible rfl | exact ⟨rfl, rfl⟩))); (case hc => (intro w_ hw_; exact HS1'.out _ (HPA.out.keep ((Below.refl _ _).drew.trans hw_.below)))); (simp only [Act.put, List.setIfInBounds_toArray, List.set_cons_zero, List.set_cons_succ])
  (apply Lx.J.pure 3); (case hi => (rw [HO.out]; simp only [List.getElem?_toArray, List.getElem?_cons_zero, List.getElem?_cons_succ]; rfl)); (case hk => (rw [HO.out]; decide +kernel)); (case hr => (rw [HO.out]; decide +kernel)); (case ht => rfl); (case hw => (rw [HO.out]; rfl)); (case hv => (intro w_ hw_; (go_simp <;> first | with_reducible rfl | exact ⟨rfl, rfl⟩))); (simp only [Act.put, List.setIfInBounds_toArray, List.set_cons_zero, List.set_cons_succ])
  (apply Lx.J.pure 4); (case hi => (rw [HO.out]; simp only [List.getElem?_toArray, List.getElem?_cons_zero, List.getElem?_cons_succ]; rfl)); (case hk => (rw [HO.out]; decide +kernel)); (case hr => (rw [HO.out]; decide +kernel)); (case ht => rfl); (case hw => (rw [HO.out]; rfl)); (case hv => (intro w_ hw_; (go_simp <;> first | with_reducible rfl | exact ⟨rfl, rfl⟩))); (simp only [Act.put, List.setIfInBounds_toArray, List.set_cons_zero, List.set_cons_succ])
  (apply Lx.J.pure 5); (case hi => (rw [HO.out]; simp only [List.getElem?_toArray, List.getElem?_cons_zero, List.getElem?_cons_succ]; rfl)); (case hk => (rw [HO.out]; decide +kernel)); (case hr => (rw [HO.out]; decide +kernel)); (case ht => rfl); (case hw => (rw [HO.out]; rfl)); (case hv => (intro w_ hw_; (go_simp <;> first | with_reducible rfl | exact ⟨rfl, rfl⟩))); (simp only [Act.put, List.setIfInBounds_toArray, List.set_cons_zero, List.set_cons_succ])
  (apply Lx.J.alloc 6); (case hi => (rw [HO.out]; simp only [List.getElem?_toArray, List.getElem?_cons_zero, List.getElem?_cons_succ]; rfl)); (case hk => (rw [HO.out]; decide +kernel)); (case hr => (rw [HO.out]; decide +kernel)); (case ht => rfl); (case hw => (rw [HO.out]; rfl)); (case hrun => (intro w_; (go_simp <;> first | with_reducible rfl | exact ⟨rfl, rfl⟩))); (simp only [Act.put, List.setIfInBounds_toArray, List.set_cons_zero, List.set_cons_succ])
  intro g10 hg10 _
  (apply Lx.J.store 7); (case hi => (rw [HO.out]; simp only [List.getElem?_toArray, List.getElem?_cons_zero, List.getElem?_cons_succ]; rfl)); (case hk => (rw [HO.out]; decide +kernel)); (case hr => (rw [HO.out]; decide +kernel)); (case ht => rfl); (case hw => (rw [HO.out]; rfl)); (case hG => exact fun _ _ h_ _ => h_); (case hg => (repeat (first | exact Lx.St.upd_at _ _ _ | rw [Lx.St.upd_ne _ _ (by omega)] | rw [Lx.St.add_M]))); (case hrun => (intro w_ hw_ hb_; exact storeFr FrameV.zero _ hb_ (fun c0 c1 c2 c3 c4 c5 c6 c7 c8 c9 d0 d1 d2 d3 d4 d5 d6 d7 d8 d9 => by (go_simp <;> first | with_reducible rfl | rfl)))); (simp only [Act.put, List.setIfInBounds_toArray, List.set_cons_zero, List.set_cons_succ])
  (apply Lx.J.pure 8); (case hi => (rw [HO.out]; simp only [List.getElem?_toArray, List.getElem?_cons_zero, List.getElem?_cons_succ]; rfl)); (case hk => (rw [HO.out]; decide +kernel)); (case hr => (rw [HO.out]; decide +kernel)); (case ht => rfl); (case hw => (rw [HO.out]; rfl)); (case hv => (intro w_ hw_; (go_simp <;> first | with_reducible rfl | exact ⟨rfl, rfl⟩))); (simp only [Act.put, List.setIfInBounds_toArray, List.set_cons_zero, List.set_cons_succ])
  refine Lx.J.done (by rw [HO.out]; kernel_rfl) (fun hiv2 => hZ _ _ (fun w5 hw2 => ?_)) _
  clear hZ Z HO O
  replace hgb2 := Lib.hid ((hw2.below.block _ (Array.getElem?_eq_some_iff.1 hgb2.out).1).trans hgb2.out)
  have hb_ := (Below.refl _ _).drew.trans hw2.below
  (replace p0 := Below.at hb_ p0 (by have := HS1.out; omega)); (replace p1 := Below.at hb_ p1 (by have := HS1.out; omega)); (replace p2 := Below.at hb_ p2 (by have := HS1.out; omega)); (replace HPA := Lib.hid (HPA.out.keep hb_)); (replace HB1 := Lib.hid (HB1.out.trans (hb_.mono (by have := HS1.out; omega)))); (replace HS1 := Lib.hid (Nat.le_trans HS1.out hb_.size))
  clear hw2 hb_
  go_upto_region 6 with fail
  refine Lx.region0 (by kernel_rfl) (by kernel_rfl) (by simp only [List.size_toArray, List.length_cons, List.length_nil, Nat.reduceAdd]; rfl) (fun O Z hO hZ => ?_); have HO := Lib.hid hO; clear hO
  (apply Lx.J.read 0); (case hi => (rw [HO.out]; simp only [List.getElem?_toArray, List.getElem?_cons_zero, List.getElem?_cons_succ]; rfl)); (case hk => (rw [HO.out]; decide +kernel)); (case hr => (rw [HO.out]; decide +kernel)); (case ht => rfl); (case hw => (rw [HO.out]; rfl)); (case hv => (intro w_ hw_; have q0 := Below.at hw_.below p0 (by have := HS1.out; omega); have q1 := Below.at hw_.below p1 (by have := HS1.out; omega); have q2 := Below.at hw_.below p2 (by have := HS1.out; omega); (go_simp <;> first | with_reducible rfl | exact ⟨rfl, rfl⟩))); (simp only [Act.put, List.setIfInBounds_toArray, List.set_cons_zero, List.set_cons_succ])
  (apply Lx.J.read 1); (case hi => (rw [HO.out]; simp only [List.getElem?_toArray, List.getElem?_cons_zero, List.getElem?_cons_succ]; rfl)); (case hk => (rw [HO.out]; decide +kernel)); (case hr => (rw [HO.out]; decide +kernel)); (case ht => rfl); (case hw => (rw [HO.out]; rfl)); (case hv => (intro w_ hw_; have F_ : FrB w_ g2 frA := (hw_.below.block g2 (Array.getElem?_eq_some_iff.1 hgb2.out).1).trans hgb2.out; have c0 : w_.cell? ⟨g2, 0, none⟩ = some (.int .i64 0) := F_.cell 0; have c1 : w_.cell? ⟨g2, 1, none⟩ = some (.int .i64 3) := F_.cell 1; have c2 : w_.cell? ⟨g2, 2, none⟩ = some (.int .i64 10) := F_.cell 2; have c3 : w_.cell? ⟨g2, 3, none⟩ = some (.int .i64 0) := F_.cell 3; have c4 : w_.cell? ⟨g2, 4, none⟩ = some (.int .i64 0) := F_.cell 4; have c5 : w_.cell? ⟨g2, 5, none⟩ = some (.int .i64 0) := F_.cell 5; have c6 : w_.cell? ⟨g2, 6, none⟩ = some (.int .i64 0) := F_.cell 6; have c7 : w_.cell? ⟨g2, 7, none⟩ = some (.int .i64 0) := F_.cell 7; have c8 : w_.cell? ⟨g2, 8, none⟩ = some (.int .i64 0) := F_.cell 8; have c9 : w_.cell? ⟨g2, 9, none⟩ = some (.int .i64 0) := F_.cell 9; clear F_; (go_simp <;> first | with_reducible rfl | exact ⟨rfl, rfl⟩))); (simp only [Act.put, List.setIfInBounds_toArray, List.set_cons_zero, List.set_cons_succ])
  (apply Lx.J.call 2); (case hi => (rw [HO.out]; simp only [List.getElem?_toArray, List.getElem?_cons_zero, List.getElem?_cons_succ]; rfl)); (case hk => (rw [HO.out]; decide +kernel)); (case hr => (rw [HO.out]; decide +kernel)); (case ht => rfl); (case hw => (rw [HO.out]; rfl)); (case hrun => (intro w_; (go_simp <;> first | with_reducible rfl | exact ⟨rfl, rfl⟩))); (case hc => (intro w_ hw_; exact HA0.out _ (HPA.out.keep hw_.below))); (simp only [Act.put, List.setIfInBounds_toArray, List.set_cons_zero, List.set_cons_succ])
  (apply Lx.J.pure 3); (case hi => (rw [HO.out]; simp only [List.getElem?_toArray, List.getElem?_cons_zero, List.getElem?_cons_succ]; rfl)); (case hk => (rw [HO.out]; decide +kernel)); (case hr => (rw [HO.out]; decide +kernel)); (case ht => rfl); (case hw => (rw [HO.out]; rfl)); (case hv => (intro w_ hw_; (go_simp <;> first | with_reducible rfl | exact ⟨rfl, rfl⟩))); (simp only [Act.put, List.setIfInBounds_toArray, List.set_cons_zero, List.set_cons_succ])
  (apply Lx.J.pure 4); (case hi => (rw [HO.out]; simp only [List.getElem?_toArray, List.getElem?_cons_zero, List.getElem?_cons_succ]; rfl)); (case hk => (rw [HO.out]; decide +kernel)); (case hr => (rw [HO.out]; decide +kernel)); (case ht => rfl); (case hw => (rw [HO.out]; rfl)); (case hv => (intro w_ hw_; (go_simp <;> first | with_reducible rfl | exact ⟨rfl, rfl⟩))); (simp only [Act.put, List.setIfInBounds_toArray, List.set_cons_zero, List.set_cons_succ])
  (apply Lx.J.pure 5); (case hi => (rw [HO.out]; simp only [List.getElem?_toArray, List.getElem?_cons_zero, List.getElem?_cons_succ]; rfl)); (case hk => (rw [HO.out]; decide +kernel)); (case hr => (rw [HO.out]; decide +kernel)); (case ht => rfl); (case hw => (rw [HO.out]; rfl)); (case hv => (intro w_ hw_; (go_simp <;> first | with_reducible rfl | exact ⟨rfl, rfl⟩))); (simp only [Act.put, List.setIfInBounds_toArray, List.set_cons_zero, List.set_cons_succ])
  (apply Lx.J.alloc 6); (case hi => (rw [HO.out]; simp only [List.getElem?_toArray, List.getElem?_cons_zero, List.getElem?_cons_succ]; rfl)); (case hk => (rw [HO.out]; decide +kernel)); (case hr => (rw [HO.out]; decide +kernel)); (case ht => rfl); (case hw => (rw [HO.out]; rfl)); (case hrun => (intro w_; (go_simp <;> first | with_reducible rfl | exact ⟨rfl, rfl⟩))); (simp only [Act.put, List.setIfInBounds_toArray, List.set_cons_zero, List.set_cons_succ])
  intro g12 hg12 _
  (apply Lx.J.store 7); (case hi => (rw [HO.out]; simp only [List.getElem?_toArray, List.getElem?_cons_zero, List.getElem?_cons_succ]; rfl)); (case hk => (rw [HO.out]; decide +kernel)); (case hr => (rw [HO.out]; decide +kernel)); (case ht => rfl); (case hw => (rw [HO.out]; rfl)); (case hG => exact fun _ _ h_ _ => h_); (case hg => (repeat (first | exact Lx.St.upd_at _ _ _ | rw [Lx.St.upd_ne _ _ (by omega)] | rw [Lx.St.add_M]))); (case hrun => (intro w_ hw_ hb_; exact storeIns ⟨10, 0, 0, 0, 0⟩ _ hb_ (fun c0 c1 c2 c3 c4 d0 d1 d2 d3 d4 => by (go_simp <;> first | with_reducible rfl | rfl)))); (simp only [Act.put, List.setIfInBounds_toArray, List.set_cons_zero, List.set_cons_succ])
  (apply Lx.J.pure 8); (case hi => (rw [HO.out]; simp only [List.getElem?_toArray, List.getElem?_cons_zero, List.getElem?_cons_succ]; rfl)); (case hk => (rw [HO.out]; decide +kernel)); (case hr => (rw [HO.out]; decide +kernel)); (case ht => rfl); (case hw => (rw [HO.out]; rfl)); (case hv => (intro w_ hw_; (go_simp <;> first | with_reducible rfl | exact ⟨rfl, rfl⟩))); (simp only [Act.put, List.setIfInBounds_toArray, List.set_cons_zero, List.set_cons_succ])
  refine Lx.J.done (by rw [HO.out]; kernel_rfl) (fun hiv2 => hZ _ _ (fun w6 hw2 => ?_)) _
  clear hZ Z HO O
  have hgb12 := Lib.hid (hw2.holds g12 _ (Lx.St.upd_at _ _ _))
  replace hgb2 := Lib.hid ((hw2.below.block _ (Array.getElem?_eq_some_iff.1 hgb2.out).1).trans hgb2.out)
  have hb_ := hw2.below
  (replace p0 := Below.at hb_ p0 (by have := HS1.out; omega)); (replace p1 := Below.at hb_ p1 (by have := HS1.out; omega)); (replace p2 := Below.at hb_ p2 (by have := HS1.out; omega)); (replace HPA := Lib.hid (HPA.out.keep hb_)); (replace HB1 := Lib.hid (HB1.out.trans (hb_.mono (by have := HS1.out; omega)))); (replace HS1 := Lib.hid (Nat.le_trans HS1.out hb_.size))
  clear hw2 hb_
  go_upto_region 7 with fail
  refine Lx.region0 (by kernel_rfl) (by kernel_rfl) (by simp only [List.size_toArray, List.length_cons, List.length_nil, Nat.reduceAdd]; rfl) (fun O Z hO hZ => ?_); have HO := Lib.hid hO; clear hO
  (apply Lx.J.read 0); (case hi => (rw [HO.out]; simp only [List.getElem?_toArray, List.getElem?_cons_zero, List.getElem?_cons_succ]; rfl)); (case hk => (rw [HO.out]; decide +kernel)); (case hr => (rw [HO.out]; decide +kernel)); (case ht => rfl); (case hw => (rw [HO.out]; rfl)); (case hv => (intro w_ hw_; have F_ : FrB w_ g2 frA := (hw_.below.block g2 (Array.getElem?_eq_some_iff.1 hgb2.out).1).trans hgb2.out; have c0 : w_.cell? ⟨g2, 0, none⟩ = some (.int .i64 0) := F_.cell 0; have c1 : w_.cell? ⟨g2, 1, none⟩ = some (.int .i64 3) := F_.cell 1; have c2 : w_.cell? ⟨g2, 2, none⟩ = some (.int .i64 10) := F_.cell 2; have c3 : w_.cell? ⟨g2, 3, none⟩ = some (.int .i64 0) := F_.cell 3; have c4 : w_.cell? ⟨g2, 4, none⟩ = some (.int .i64 0) := F_.cell 4; have c5 : w_.cell? ⟨g2, 5, none⟩ = some (.int .i64 0) := F_.cell 5; have c6 : w_.cell? ⟨g2, 6, none⟩ = some (.int .i64 0) := F_.cell 6; have c7 : w_.cell? ⟨g2, 7, none⟩ = some (.int .i64 0) := F_.cell 7; have c8 : w_.cell? ⟨g2, 8, none⟩ = some (.int .i64 0) := F_.cell 8; have c9 : w_.cell? ⟨g2, 9, none⟩ = some (.int .i64 0) := F_.cell 9; clear F_; (go_simp <;> first | with_reducible rfl | exact ⟨rfl, rfl⟩))); (simp only [Act.put, List.setIfInBounds_toArray, List.set_cons_zero, List.set_cons_succ])
  (apply Lx.J.call 1); (case hi => (rw [HO.out]; simp only [List.getElem?_toArray, List.getElem?_cons_zero, List.getElem?_cons_succ]; rfl)); (case hk => (rw [HO.out]; decide +kernel)); (case hr => (rw [HO.out]; decide +kernel)); (case ht => rfl); (case hw => (rw [HO.out]; rfl)); (case hrun => (intro w_; (go_simp <;> first | with_reducible rfl | exact ⟨rfl, rfl⟩))); (case hc => (intro w_ hw_; exact HSP.out _)); (simp only [Act.put, List.setIfInBounds_toArray, List.set_cons_zero, List.set_cons_succ])
  (apply Lx.J.alloc 2); (case hi => (rw [HO.out]; simp only [List.getElem?_toArray, List.getElem?_cons_zero, List.getElem?_cons_succ]; rfl)); (case hk => (rw [HO.out]; decide +kernel)); (case hr => (rw [HO.out]; decide +kernel)); (case ht => rfl); (case hw => (rw [HO.out]; rfl)); (case hrun => (intro w_; (go_simp <;> first | with_reducible rfl | exact ⟨rfl, rfl⟩))); (simp only [Act.put, List.setIfInBounds_toArray, List.set_cons_zero, List.set_cons_succ])
  intro g14 hg14 _
  (apply Lx.J.store 3); (case hi => (rw [HO.out]; simp only [List.getElem?_toArray, List.getElem?_cons_zero, List.getElem?_cons_succ]; rfl)); (case hk => (rw [HO.out]; decide +kernel)); (case hr => (rw [HO.out]; decide +kernel)); (case ht => rfl); (case hw => (rw [HO.out]; rfl)); (case hG => exact fun _ _ h_ _ => h_); (case hg => (repeat (first | exact Lx.St.upd_at _ _ _ | rw [Lx.St.upd_ne _ _ (by omega)] | rw [Lx.St.add_M]))); (case hrun => (intro w_ hw_ hb_; exact storeFr ⟨2, 0, [10, 0, 0, 0, 0, 0, 0, 0]⟩ _ hb_ (fun c0 c1 c2 c3 c4 c5 c6 c7 c8 c9 d0 d1 d2 d3 d4 d5 d6 d7 d8 d9 => by (go_simp <;> first | with_reducible rfl | rfl)))); (simp only [Act.put, List.setIfInBounds_toArray, List.set_cons_zero, List.set_cons_succ])
  refine Lx.J.done (by rw [HO.out]; kernel_rfl) (fun hiv2 => hZ _ _ (fun w7 hw2 => ?_)) _
  clear hZ Z HO O
  have hgb14 := Lib.hid (hw2.holds g14 _ (Lx.St.upd_at _ _ _))
  replace hgb2 := Lib.hid ((hw2.below.block _ (Array.getElem?_eq_some_iff.1 hgb2.out).1).trans hgb2.out)
  replace hgb12 := Lib.hid ((hw2.below.block _ (Array.getElem?_eq_some_iff.1 hgb12.out).1).trans hgb12.out)
  have hb_ := hw2.below
  (replace p0 := Below.at hb_ p0 (by have := HS1.out; omega)); (replace p1 := Below.at hb_ p1 (by have := HS1.out; omega)); (replace p2 := Below.at hb_ p2 (by have := HS1.out; omega)); (replace HPA := Lib.hid (HPA.out.keep hb_)); (replace HB1 := Lib.hid (HB1.out.trans (hb_.mono (by have := HS1.out; omega)))); (replace HS1 := Lib.hid (Nat.le_trans HS1.out hb_.size))
  clear hw2 hb_
  have FA : FrB w7 g2 frA := hgb2.out
  have FB : FrB w7 g14 ⟨2, 0, [10, 0, 0, 0, 0, 0, 0, 0]⟩ := hgb14.out
  have fxA0 : w7.cell? ⟨g2, 0, none⟩ = some (.int .i64 0) := FA.cell 0
  have fxA1 : w7.cell? ⟨g2, 1, none⟩ = some (.int .i64 3) := FA.cell 1
  have fxA2 : w7.cell? ⟨g2, 2, none⟩ = some (.int .i64 10) := FA.cell 2
  have fxA3 : w7.cell? ⟨g2, 3, none⟩ = some (.int .i64 0) := FA.cell 3
  have fxA4 : w7.cell? ⟨g2, 4, none⟩ = some (.int .i64 0) := FA.cell 4
  have fxA5 : w7.cell? ⟨g2, 5, none⟩ = some (.int .i64 0) := FA.cell 5
  have fxA6 : w7.cell? ⟨g2, 6, none⟩ = some (.int .i64 0) := FA.cell 6
  have fxA7 : w7.cell? ⟨g2, 7, none⟩ = some (.int .i64 0) := FA.cell 7
  have fxA8 : w7.cell? ⟨g2, 8, none⟩ = some (.int .i64 0) := FA.cell 8
  have fxA9 : w7.cell? ⟨g2, 9, none⟩ = some (.int .i64 0) := FA.cell 9
  have fxB0 : w7.cell? ⟨g14, 0, none⟩ = some (.int .i64 2) := FB.cell 0
  have fxB1 : w7.cell? ⟨g14, 1, none⟩ = some (.int .i64 0) := FB.cell 1
  have fxB2 : w7.cell? ⟨g14, 2, none⟩ = some (.int .i64 10) := FB.cell 2
  have fxB3 : w7.cell? ⟨g14, 3, none⟩ = some (.int .i64 0) := FB.cell 3
  have fxB4 : w7.cell? ⟨g14, 4, none⟩ = some (.int .i64 0) := FB.cell 4
  have fxB5 : w7.cell? ⟨g14, 5, none⟩ = some (.int .i64 0) := FB.cell 5
  have fxB6 : w7.cell? ⟨g14, 6, none⟩ = some (.int .i64 0) := FB.cell 6
  have fxB7 : w7.cell? ⟨g14, 7, none⟩ = some (.int .i64 0) := FB.cell 7
  have fxB8 : w7.cell? ⟨g14, 8, none⟩ = some (.int .i64 0) := FB.cell 8
  have fxB9 : w7.cell? ⟨g14, 9, none⟩ = some (.int .i64 0) := FB.cell 9
  have hop : w7.cell? ⟨g12, 0, none⟩ = some (.int .u8 10) := by simp [World.cell?, hgb12.out, InsV.cellsA]
  clear FA FB
  have q45 := fun (d : Nat) => @eq_regs d
  have q47 := fun (d : Nat) => @eq_frame d
  go_wp2
  go_ret
  exact ⟨rfl, HB1.out⟩
end Go.Proofs.Ytljfloopjgpaeaa
