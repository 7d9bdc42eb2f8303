/- tollbar/log: Last. -/
import Derived.LoopTactic
import Derived.Test.YtljfloopjgpaeabJD
import Derived.Test.YtljfloopjgpaeabLX
namespace Go.Proofs.Ytljfloopjgpaeab
set_option linter.unusedVariables false
set_option linter.unusedSimpArgs false
open Go.RowKit Go.Shelf
attribute [local go_sem] Oper.semAt_some run_store_fn
set_option maxRecDepth 100000
def lastF (ks : List Int) (l : List EntV) : Option (Nat × EntV) := (backL l 0).find? fun y => hasK ks y.2.kind
def lastV (ks : List Int) (l : List EntV) : Value := match lastF ks l with
  | some y => .tuple #[.int .i64 y.1, y.2.agg, .bool true]
  | none => .tuple #[.int .i64 (-1), EntV.agg ⟨0, 0, 0, 0, 0, 0, 0, 0, 0, 0, false, 0, 0⟩, .bool false]
theorem findL_at {l : List EntV} {k : Nat} (h : k < l.length) (q : Nat × EntV → Bool) (hn : ∀ y ∈ backL l (k + 1), q y = false) (hq : q (k, l[k]) = true) : (backL l 0).find? q = some (k, l[k]) := by
  have h1 := backL_pre (l := l) (show k ≤ l.length by omega)
  rw [backL_step h] at h1
  obtain ⟨t, ht⟩ := h1
  rw [← ht, List.append_assoc, List.find?_append]
  have : (backL l (k + 1)).find? q = none := by
    rw [List.find?_eq_none]
    intro y hy
    simp [hn y hy]
  rw [this]
  simp [hq]
theorem findL_no {l : List EntV} (q : Nat × EntV → Bool) (hn : ∀ y ∈ backL l 0, q y = false) : (backL l 0).find? q = none := by
  rw [List.find?_eq_none]
  intro y hy
  simp [hn y hy]
/-- Only three blocks of those that were are other ones. -/
def OnlyL (s : Nat) (w1 wx : World) : Prop := w1.heap.size ≤ wx.heap.size ∧ ∀ k, k < w1.heap.size → k ≠ s → k ≠ s + 1 → k ≠ s + 1 + 1 → wx.heap[k]? = w1.heap[k]?
theorem OnlyL.at {s g : Nat} {w1 wx wy : World} (h : OnlyL s w1 wx) (o : Ly.OnlyAt g wx wy) (hg : g = s ∨ g = s + 1 ∨ g = s + 1 + 1) : OnlyL s w1 wy :=
  ⟨o.size ▸ h.1, fun k h1 h2 h3 h4 => (o.block k (by omega)).trans (h.2 k h1 h2 h3 h4)⟩
theorem OnlyL.stable {s : Nat} {w1 : World} : Ly.Stable (OnlyL s w1) := fun wx wy h hb => ⟨Nat.le_trans h.1 hb.size, fun k h1 h2 h3 h4 => (hb.block k (by have := h.1; omega)).trans (h.2 k h1 h2 h3 h4)⟩
theorem II_add {B : Nat} {w0 w : World} {s : Ly.St} {φ : World → Prop} (h : Ly.II B w0 s w) (hs : Ly.Stable φ) (hw : φ w) : Ly.II B w0 (s.add φ) w := ⟨⟨h.1.below, h.1.holds, h.1.more, hw⟩, h.2.add hs⟩
theorem heap4 {w w1 : World} {a b c d : Obj} (h : w1 = (((w.alloc a).alloc b).alloc c).alloc d) : w1.heap[w.heap.size]? = some a ∧ w1.heap[w.heap.size + 1]? = some b ∧ w1.heap[w.heap.size + 1 + 1]? = some c ∧ w1.heap[w.heap.size + 1 + 1 + 1]? = some d := by
  subst h
  have h2 := World.alloc_heap_new (w.alloc a) b
  have h3 := World.alloc_heap_new ((w.alloc a).alloc b) c
  have h4 := World.alloc_heap_new (((w.alloc a).alloc b).alloc c) d
  simp only [World.size_alloc] at h2 h3 h4
  refine ⟨?_, ?_, ?_, h4⟩
  · exact (Below.heap_alloc _ _ _ (by simp <;> omega)).trans ((Below.heap_alloc _ _ _ (by simp <;> omega)).trans ((Below.heap_alloc _ _ _ (by simp)).trans (World.alloc_heap_new w a)))
  · exact (Below.heap_alloc _ _ _ (by simp <;> omega)).trans ((Below.heap_alloc _ _ _ (by simp)).trans h2)
  · exact (Below.heap_alloc _ _ _ (by simp)).trans h3
set_option maxHeartbeats 2000000 in
theorem last_end (n : Nat) {w Wf : World} {D : Nat} {tmps : Array Value} (i : Int) (y : EntV) (b : Bool) (hb : Below w.heap.size w Wf) (hD : w.heap.size ≤ D) (hK : Wf.heap[D]? = some (.deferred (some []))) (t1 : Wf.heap[w.heap.size + 1]? = some (.cells #[.int .i64 i] 3 (0, 0))) (t2 : Wf.heap[w.heap.size + 1 + 1]? = some (.cells y.cells.toArray 30 (0, 0))) (t3 : Wf.heap[w.heap.size + 1 + 1 + 1]? = some (.cells #[.bool b] 4 (0, 0)))
    (h4 : tmps[4]?.getD undef = .pointer (some ⟨w.heap.size + 1, 0, none⟩)) (h5 : tmps[5]?.getD undef = .pointer (some ⟨w.heap.size + 1 + 1, 0, none⟩)) (h6 : tmps[6]?.getD undef = .pointer (some ⟨w.heap.size + 1 + 1 + 1, 0, none⟩)) :
    LeavesInM Fence.wide n Try.prog Try.f30 tmps (fun e w' => e = .returned (.tuple #[.int .i64 i, y.agg, .bool b]) ∧ Below w.heap.size w w') [{ target := .collected D, args := #[] }] .returning Wf := by
  refine ⟨by simp, .inl ⟨_, _, rfl, run_takeDeferred hK, ?_⟩⟩
  have hg := grownBy_putObj' Wf D (.deferred none)
  have hn : ∀ r, some D = some r → ∃ o : Obj, Wf.heap[r]? = some o ∧ o.isCells = false := fun r e => by cases e; exact ⟨_, hK, rfl⟩
  have e13 := cell_kept (show Wf.cell? ⟨w.heap.size + 1, 0, none⟩ = some (.int .i64 i) from Ly.cellAt t1 0 rfl) hg hn
  have e14 := cell_kept (show Wf.cell? ⟨w.heap.size + 1 + 1 + 1, 0, none⟩ = some (.bool b) from Ly.cellAt t3 0 rfl) hg hn
  (have e0 := cell_kept (show Wf.cell? ⟨w.heap.size + 1 + 1, 0, none⟩ = some (.int .i64 y.at_) from Ly.cellAt t2 0 rfl) hg hn); (have e1 := cell_kept (show Wf.cell? ⟨w.heap.size + 1 + 1, 1, none⟩ = some (.int .u8 y.kind) from Ly.cellAt t2 1 rfl) hg hn); (have e2 := cell_kept (show Wf.cell? ⟨w.heap.size + 1 + 1, 2, none⟩ = some (.int .i64 y.worker) from Ly.cellAt t2 2 rfl) hg hn); (have e3 := cell_kept (show Wf.cell? ⟨w.heap.size + 1 + 1, 3, none⟩ = some (.int .i64 y.task) from Ly.cellAt t2 3 rfl) hg hn); (have e4 := cell_kept (show Wf.cell? ⟨w.heap.size + 1 + 1, 4, none⟩ = some (.int .i64 y.peer) from Ly.cellAt t2 4 rfl) hg hn); (have e5 := cell_kept (show Wf.cell? ⟨w.heap.size + 1 + 1, 5, none⟩ = some (.int .i64 y.ch) from Ly.cellAt t2 5 rfl) hg hn); (have e6 := cell_kept (show Wf.cell? ⟨w.heap.size + 1 + 1, 6, none⟩ = some (.int .i64 y.cs) from Ly.cellAt t2 6 rfl) hg hn); (have e7 := cell_kept (show Wf.cell? ⟨w.heap.size + 1 + 1, 7, none⟩ = some (.int .i64 y.pc) from Ly.cellAt t2 7 rfl) hg hn); (have e8 := cell_kept (show Wf.cell? ⟨w.heap.size + 1 + 1, 8, none⟩ = some (.int .i64 y.val) from Ly.cellAt t2 8 rfl) hg hn); (have e9 := cell_kept (show Wf.cell? ⟨w.heap.size + 1 + 1, 9, none⟩ = some (.int .i64 y.val2) from Ly.cellAt t2 9 rfl) hg hn); (have e10 := cell_kept (show Wf.cell? ⟨w.heap.size + 1 + 1, 10, none⟩ = some (.bool y.ok) from Ly.cellAt t2 10 rfl) hg hn); (have e11 := cell_kept (show Wf.cell? ⟨w.heap.size + 1 + 1, 11, none⟩ = some (.int .i64 y.code) from Ly.cellAt t2 11 rfl) hg hn); (have e12 := cell_kept (show Wf.cell? ⟨w.heap.size + 1 + 1, 12, none⟩ = some (.int .u64 y.set) from Ly.cellAt t2 12 rfl) hg hn)
  refine ⟨.tuple #[.int .i64 i, y.agg, .bool b], ?_, rfl, hb.trans (belowK_b (w := w) (Nat.le_refl _) _ D _ _ hD hK rfl rfl)⟩
  simp [results, Try.f30, go_sem, EntV.agg, h4, h5, h6, e0, e1, e2, e3, e4, e5, e6, e7, e8, e9, e10, e11, e12, e13, e14]
theorem sets13 {w : World} {B t : Nat} {z : Nat × Nat} {u0 u1 u2 u3 u4 u5 u6 u7 u8 u9 u10 u11 u12 v0 v1 v2 v3 v4 v5 v6 v7 v8 v9 v10 v11 v12 : Value} (h : w.heap[B]? = some (.cells #[u0, u1, u2, u3, u4, u5, u6, u7, u8, u9, u10, u11, u12] t z)) : (((((((((((((w.setCell ⟨B, 0, none⟩ v0).setCell ⟨B, 1, none⟩ v1).setCell ⟨B, 2, none⟩ v2).setCell ⟨B, 3, none⟩ v3).setCell ⟨B, 4, none⟩ v4).setCell ⟨B, 5, none⟩ v5).setCell ⟨B, 6, none⟩ v6).setCell ⟨B, 7, none⟩ v7).setCell ⟨B, 8, none⟩ v8).setCell ⟨B, 9, none⟩ v9).setCell ⟨B, 10, none⟩ v10).setCell ⟨B, 11, none⟩ v11).setCell ⟨B, 12, none⟩ v12).heap[B]? = some (.cells #[v0, v1, v2, v3, v4, v5, v6, v7, v8, v9, v10, v11, v12] t z) := by
  simp [World.setCell, Array.getElem?_modify, h]
theorem heap13 {w : World} {B k : Nat} {v0 v1 v2 v3 v4 v5 v6 v7 v8 v9 v10 v11 v12 : Value} (h : k ≠ B) : (((((((((((((w.setCell ⟨B, 0, none⟩ v0).setCell ⟨B, 1, none⟩ v1).setCell ⟨B, 2, none⟩ v2).setCell ⟨B, 3, none⟩ v3).setCell ⟨B, 4, none⟩ v4).setCell ⟨B, 5, none⟩ v5).setCell ⟨B, 6, none⟩ v6).setCell ⟨B, 7, none⟩ v7).setCell ⟨B, 8, none⟩ v8).setCell ⟨B, 9, none⟩ v9).setCell ⟨B, 10, none⟩ v10).setCell ⟨B, 11, none⟩ v11).setCell ⟨B, 12, none⟩ v12).heap[k]? = w.heap[k]? := by
  rw [Below.heap_setCell _ _ _ _ h, Below.heap_setCell _ _ _ _ h, Below.heap_setCell _ _ _ _ h, Below.heap_setCell _ _ _ _ h, Below.heap_setCell _ _ _ _ h, Below.heap_setCell _ _ _ _ h, Below.heap_setCell _ _ _ _ h, Below.heap_setCell _ _ _ _ h, Below.heap_setCell _ _ _ _ h, Below.heap_setCell _ _ _ _ h, Below.heap_setCell _ _ _ _ h, Below.heap_setCell _ _ _ _ h, Below.heap_setCell _ _ _ _ h]
theorem keeps13 {w : World} {B : Nat} {v0 v1 v2 v3 v4 v5 v6 v7 v8 v9 v10 v11 v12 : Value} : KeepsOthers w (((((((((((((w.setCell ⟨B, 0, none⟩ v0).setCell ⟨B, 1, none⟩ v1).setCell ⟨B, 2, none⟩ v2).setCell ⟨B, 3, none⟩ v3).setCell ⟨B, 4, none⟩ v4).setCell ⟨B, 5, none⟩ v5).setCell ⟨B, 6, none⟩ v6).setCell ⟨B, 7, none⟩ v7).setCell ⟨B, 8, none⟩ v8).setCell ⟨B, 9, none⟩ v9).setCell ⟨B, 10, none⟩ v10).setCell ⟨B, 11, none⟩ v11).setCell ⟨B, 12, none⟩ v12) :=
  (((((((((((((KeepsOthers.setCell _ _ _).trans (KeepsOthers.setCell _ _ _)).trans (KeepsOthers.setCell _ _ _)).trans (KeepsOthers.setCell _ _ _)).trans (KeepsOthers.setCell _ _ _)).trans (KeepsOthers.setCell _ _ _)).trans (KeepsOthers.setCell _ _ _)).trans (KeepsOthers.setCell _ _ _)).trans (KeepsOthers.setCell _ _ _)).trans (KeepsOthers.setCell _ _ _)).trans (KeepsOthers.setCell _ _ _)).trans (KeepsOthers.setCell _ _ _)).trans (KeepsOthers.setCell _ _ _))
theorem below13 {w0 w : World} {B n : Nat} {v0 v1 v2 v3 v4 v5 v6 v7 v8 v9 v10 v11 v12 : Value} (h : Below n w0 w) (hB : n ≤ B) : Below n w0 (((((((((((((w.setCell ⟨B, 0, none⟩ v0).setCell ⟨B, 1, none⟩ v1).setCell ⟨B, 2, none⟩ v2).setCell ⟨B, 3, none⟩ v3).setCell ⟨B, 4, none⟩ v4).setCell ⟨B, 5, none⟩ v5).setCell ⟨B, 6, none⟩ v6).setCell ⟨B, 7, none⟩ v7).setCell ⟨B, 8, none⟩ v8).setCell ⟨B, 9, none⟩ v9).setCell ⟨B, 10, none⟩ v10).setCell ⟨B, 11, none⟩ v11).setCell ⟨B, 12, none⟩ v12) :=
  (((((((((((((h.setCell (p := ⟨B, 0, none⟩) hB _).setCell (p := ⟨B, 1, none⟩) hB _).setCell (p := ⟨B, 2, none⟩) hB _).setCell (p := ⟨B, 3, none⟩) hB _).setCell (p := ⟨B, 4, none⟩) hB _).setCell (p := ⟨B, 5, none⟩) hB _).setCell (p := ⟨B, 6, none⟩) hB _).setCell (p := ⟨B, 7, none⟩) hB _).setCell (p := ⟨B, 8, none⟩) hB _).setCell (p := ⟨B, 9, none⟩) hB _).setCell (p := ⟨B, 10, none⟩) hB _).setCell (p := ⟨B, 11, none⟩) hB _).setCell (p := ⟨B, 12, none⟩) hB _)
theorem chain_says {s : Nat} {w0 W X : World} {a b c d : Value} {T1 T2 T3 : TypeId} {u0 u1 u2 u3 u4 u5 u6 u7 u8 u9 u10 u11 u12 v0 v1 v2 v3 v4 v5 v6 v7 v8 v9 v10 v11 v12 : Value} (h1 : W.heap[s + 1]? = some (.cells #[c] T1 (0, 0))) (h2 : W.heap[s + 1 + 1]? = some (.cells #[u0, u1, u2, u3, u4, u5, u6, u7, u8, u9, u10, u11, u12] T2 (0, 0))) (h3 : W.heap[s + 1 + 1 + 1]? = some (.cells #[d] T3 (0, 0))) (hb : Below s w0 W)
    (hX : X = (((((((((((((((W.setCell ⟨s + 1, 0, none⟩ a).setCell ⟨s + 1 + 1, 0, none⟩ v0).setCell ⟨s + 1 + 1, 1, none⟩ v1).setCell ⟨s + 1 + 1, 2, none⟩ v2).setCell ⟨s + 1 + 1, 3, none⟩ v3).setCell ⟨s + 1 + 1, 4, none⟩ v4).setCell ⟨s + 1 + 1, 5, none⟩ v5).setCell ⟨s + 1 + 1, 6, none⟩ v6).setCell ⟨s + 1 + 1, 7, none⟩ v7).setCell ⟨s + 1 + 1, 8, none⟩ v8).setCell ⟨s + 1 + 1, 9, none⟩ v9).setCell ⟨s + 1 + 1, 10, none⟩ v10).setCell ⟨s + 1 + 1, 11, none⟩ v11).setCell ⟨s + 1 + 1, 12, none⟩ v12).setCell ⟨s + 1 + 1 + 1, 0, none⟩ b).drew) :
    X.heap[s + 1]? = some (.cells #[a] T1 (0, 0)) ∧ X.heap[s + 1 + 1]? = some (.cells #[v0, v1, v2, v3, v4, v5, v6, v7, v8, v9, v10, v11, v12] T2 (0, 0)) ∧ X.heap[s + 1 + 1 + 1]? = some (.cells #[b] T3 (0, 0)) ∧ KeepsOthers W X ∧ Below s w0 X := by
  obtain ⟨W1, hW1⟩ : ∃ W1, W1 = W.setCell ⟨s + 1, 0, none⟩ a := ⟨_, rfl⟩
  have a1 : W1.heap[s + 1]? = some (.cells #[a] T1 (0, 0)) := by rw [hW1]; exact Boxed.set a h1
  have a2 : W1.heap[s + 1 + 1]? = some (.cells #[u0, u1, u2, u3, u4, u5, u6, u7, u8, u9, u10, u11, u12] T2 (0, 0)) := by rw [hW1, Below.heap_setCell _ _ _ _ (by simp <;> omega)]; exact h2
  have a3 : W1.heap[s + 1 + 1 + 1]? = some (.cells #[d] T3 (0, 0)) := by rw [hW1, Below.heap_setCell _ _ _ _ (by simp <;> omega)]; exact h3
  have a4 : KeepsOthers W W1 := by rw [hW1]; exact KeepsOthers.setCell _ _ _
  have a5 : Below s w0 W1 := by rw [hW1]; exact hb.setCell (p := ⟨s + 1, 0, none⟩) (by simp) _
  rw [← hW1] at hX
  obtain ⟨W2, hW2⟩ : ∃ W2, W2 = (((((((((((((W1.setCell ⟨s + 1 + 1, 0, none⟩ v0).setCell ⟨s + 1 + 1, 1, none⟩ v1).setCell ⟨s + 1 + 1, 2, none⟩ v2).setCell ⟨s + 1 + 1, 3, none⟩ v3).setCell ⟨s + 1 + 1, 4, none⟩ v4).setCell ⟨s + 1 + 1, 5, none⟩ v5).setCell ⟨s + 1 + 1, 6, none⟩ v6).setCell ⟨s + 1 + 1, 7, none⟩ v7).setCell ⟨s + 1 + 1, 8, none⟩ v8).setCell ⟨s + 1 + 1, 9, none⟩ v9).setCell ⟨s + 1 + 1, 10, none⟩ v10).setCell ⟨s + 1 + 1, 11, none⟩ v11).setCell ⟨s + 1 + 1, 12, none⟩ v12) := ⟨_, rfl⟩
  rw [← hW2] at hX
  have b1 : W2.heap[s + 1]? = some (.cells #[a] T1 (0, 0)) := by rw [hW2, heap13 (by omega)]; exact a1
  have b2 : W2.heap[s + 1 + 1]? = some (.cells #[v0, v1, v2, v3, v4, v5, v6, v7, v8, v9, v10, v11, v12] T2 (0, 0)) := by rw [hW2]; exact sets13 a2
  have b3 : W2.heap[s + 1 + 1 + 1]? = some (.cells #[d] T3 (0, 0)) := by rw [hW2, heap13 (by omega)]; exact a3
  have b4 : KeepsOthers W W2 := by rw [hW2]; exact a4.trans keeps13
  have b5 : Below s w0 W2 := by rw [hW2]; exact below13 a5 (by omega)
  clear hW1 hW2 a1 a2 a3 a4 a5 h1 h2 h3 hb
  subst hX
  refine ⟨?_, ?_, ?_, (b4.trans (KeepsOthers.setCell _ _ _)).trans (KeepsOthers.drew _), (b5.setCell (p := ⟨s + 1 + 1 + 1, 0, none⟩) (by simp <;> omega) _).drew⟩
  · show (W2.setCell ⟨s + 1 + 1 + 1, 0, none⟩ b).heap[s + 1]? = _
    rw [Below.heap_setCell _ _ _ _ (by simp <;> omega)]; exact b1
  · show (W2.setCell ⟨s + 1 + 1 + 1, 0, none⟩ b).heap[s + 1 + 1]? = _
    rw [Below.heap_setCell _ _ _ _ (by simp <;> omega)]; exact b2
  · show (W2.setCell ⟨s + 1 + 1 + 1, 0, none⟩ b).heap[s + 1 + 1 + 1]? = _
    exact Boxed.set b b3
set_option maxHeartbeats 8000000 in
theorem last_in (k0 : Nat) (hn : 3 ≤ k0) {w : World} {p : Nat} {v0 : Value} {l : List EntV} {A : Option Addr} {n c : Nat} {ks : List Int} (h : LogAt w p v0 l) (hk : kByt.R w (.slice A n c) ks) (h0 : 0 < ks.length) :
    CallsIn Fence.wide k0 Try.prog 30 #[.pointer (some ⟨p, 0, none⟩), .slice A n c] w fun e w' => e = .returned (lastV ks l) ∧ Below w.heap.size w w' := by
  have h1 : 1 ≤ k0 := by omega
  obtain ⟨A', c', hv, _, _, hl2⟩ := hk.val
  obtain ⟨rfl, rfl, rfl⟩ : A = A' ∧ n = ks.length ∧ c = c' := by simpa using hv
  clear hv
  have H := Lib.hid h
  have HK := Lib.hid hk
  clear h hk
  refine callsIn_of_wp_marks Try.func30 rfl trivial ?_ rfl
  simp only [Try.ntmps30, List.size_toArray, List.length_cons, List.length_nil, Nat.reduceAdd, Nat.reduceSub, Array.replicate_succ, Array.replicate_zero, List.push_toArray, List.append_toArray, List.nil_append, List.cons_append]
  gi_wp2
  obtain ⟨w1, hw1⟩ : ∃ w1, w1 = (((w.alloc (.cells #[.slice A ks.length c] 97)).alloc (.cells #[.int .i64 0] 3)).alloc (.cells #[.int .i64 0, .int .u8 0, .int .i64 0, .int .i64 0, .int .i64 0, .int .i64 0, .int .i64 0, .int .i64 0, .int .i64 0, .int .i64 0, .bool false, .int .i64 0, .int .u64 0] 30)).alloc (.cells #[.bool false] 4) := ⟨_, rfl⟩
  rw [← hw1]
  have hs1 : w1.heap.size = w.heap.size + 4 := by rw [hw1]; simp
  have hB1 : Below w.heap.size w w1 := by rw [hw1]; (repeat (first | with_reducible exact Below.refl _ _ | (with_reducible refine Below.setCell ?_ (by first | (simp; done) | (simp; omega) | omega) _) | (with_reducible refine Below.alloc ?_ (by first | (simp; done) | (simp; omega) | omega) _) | (with_reducible refine Below.drew ?_)))
  obtain ⟨b0, b1, b2, b3⟩ := heap4 hw1
  have oX : ∀ (b : Nat) (hb : w.heap.size ≤ b) (g : Nat) (o : Obj), o.isCells = true → OwnFrom b (fun (_ : List (Nat × EntV)) W => W.heap[g]? = some o) := fun b hb g o hoc => Own.from (fun s A B row hs hg hr => (hg.block g (Array.getElem?_eq_some_iff.1 hs).1 (fun e => by obtain ⟨o2, ho, hc⟩ := hr _ e.symm; rw [hs] at ho; cases ho; rw [hoc] at hc; cases hc)).trans hs) _
  have B0 := Lib.hid b0
  have B1 := Lib.hid b1
  have B2 := Lib.hid b2
  have B3 := Lib.hid b3
  have HB1 := Lib.hid hB1
  have OX := Lib.hid oX
  clear b0 b1 b2 b3 oX hw1
  have hIx : ∀ (b : Nat), w.heap.size ≤ b → ∀ c : Code, OwnFrom b (fun (pre : List (Nat × EntV)) W => c = .ret ∧ (∃ i y, lastF ks l = some (i, y) ∧ W.heap[w.heap.size + 1]? = some (.cells #[.int .i64 (i : Nat)] 3 (0, 0)) ∧ W.heap[w.heap.size + 1 + 1]? = some (.cells y.cells.toArray 30 (0, 0)) ∧ W.heap[w.heap.size + 1 + 1 + 1]? = some (.cells #[.bool true] 4 (0, 0))) ∧ Below w.heap.size w W) := by
    rintro b hb c pre W W' row ⟨h1, ⟨i, y, h2, h3, h4, h5⟩, h6⟩ hg hr
    exact ⟨h1, ⟨i, y, h2, OX.out b hb _ _ rfl pre W W' row h3 hg hr, OX.out b hb _ _ rfl pre W W' row h4 hg hr, OX.out b hb _ _ rfl pre W W' row h5 hg hr⟩, (ownFrom_below (β := List (Nat × EntV)) (Nat.le_refl _) hb) pre W W' row h6 hg hr⟩
  refine rangeXb h1 (gf := 55) (bd := #[.pointer (some ⟨p, 0, none⟩)]) (lb := #[]) rfl (enters_of Try.func55 (by kernel_rfl) rfl)
    (back_seq (k0 - 1) p (by omega) w w1 H.out hB1)
    (fun W W' k o ho hk hko _ => ho ▸ hko) belowK_t ?kb (Below.refl _ _) (fun _ => rfl)
    (fun pre W => (∀ y ∈ pre, hasK ks y.2.kind = false) ∧ Below w1.heap.size w1 W) (fun c pre W => c = .ret ∧ (∃ i y, lastF ks l = some (i, y) ∧ W.heap[w.heap.size + 1]? = some (.cells #[.int .i64 (i : Nat)] 3 (0, 0)) ∧ W.heap[w.heap.size + 1 + 1]? = some (.cells y.cells.toArray 30 (0, 0)) ∧ W.heap[w.heap.size + 1 + 1 + 1]? = some (.cells #[.bool true] 4 (0, 0))) ∧ Below w.heap.size w W)
    (OwnFrom.and (Own.from (fun s A B row hs hg hr => hs) _) (ownFrom_below (Nat.le_refl _) (Nat.le_refl _))) (fun c => hIx _ (by omega) c)
    (fun pre W W' hi hA => hA ▸ hi) (fun _ _ _ _ hs hA => hA ▸ hs) (fun _ _ _ => trivial) ⟨by simp, Below.refl _ _⟩
    (fun pre x a' W => ∃ D, a' = { tmps := #[.pointer (some ⟨p, 0, none⟩), .slice A ks.length c, undef, .pointer (some ⟨w.heap.size, 0, none⟩), .pointer (some ⟨w.heap.size + 1, 0, none⟩), .pointer (some ⟨w.heap.size + 1 + 1, 0, none⟩), .pointer (some ⟨w.heap.size + 1 + 1 + 1, 0, none⟩), .int .i64 x.1, .pointer (some ⟨D, 0, none⟩), .pointer (some ⟨p, 0, none⟩), .func (.func 55) #[.pointer (some ⟨p, 0, none⟩)] #[], .int .i64 x.1, x.2.agg, undef, undef, undef, undef, undef, undef, undef, undef, undef, undef, undef, undef], defers := [] } ∧ W.heap[D]? = some (.cells x.2.cells.toArray 30 (0, 0)) ∧ w1.heap.size ≤ D ∧ (∀ y ∈ pre, hasK ks y.2.kind = false) ∧ Below w1.heap.size w1 W)
    ?oA ?assign ?body ?done ?stop
  case kb =>
    intro W k ob ob' hk _ _
    exact ⟨rfl, rfl, rfl, by simp, fun i hi => World.putObj_heap_other (by omega)⟩
  case oA =>
    rintro pre x a' s W W' row ⟨D, h1, h2, h3, h4, h5⟩ hg hr
    refine ⟨D, h1, ?_, h3, h4, (ownFrom_below (β := List (Nat × EntV)) (Nat.le_refl _) (Nat.le_refl _)) pre W W' row h5 hg hr⟩
    refine (hg.block D (Array.getElem?_eq_some_iff.1 h2).1 ?_).trans h2
    intro e
    obtain ⟨_, o, ho, hc⟩ := hr D e.symm
    rw [h2] at ho
    cases ho
    cases hc
  case assign =>
    rintro l' pre x W K ⟨hi, hb⟩ hg hK
    dsimp only [bkEnc, EntV.agg] at hK ⊢
    have HI := Lib.hid hi
    have HB := Lib.hid hb
    have HKK := Lib.hid hK
    clear hi hK hb
    have hsz := HB.out.size
    gi_wp2
    refine HKK.out _ _ ?_ ?_ ⟨W.heap.size, rfl, World.alloc_heap_new W _, hsz, HI.out, HB.out.trans ((Below.refl _ W).alloc hsz _)⟩
    · exact (KeepsOthers.alloc W _).from _
    · exact (Below.refl _ W).alloc (by omega) _
  case body =>
    rintro lp pre ⟨i, y⟩ a' W hl ⟨D, rfl, hD, hD2, hno, hbl⟩ ⟨k, hk, hpre, hx⟩
    obtain ⟨rfl, rfl⟩ : i = k ∧ y = l[k] := by simpa using hx
    obtain ⟨y, hy⟩ : ∃ y, y = l[i] := ⟨_, rfl⟩
    rw [← hy] at hD ⊢
    have hW0 : Below w.heap.size w W := HB1.out.trans (hbl.mono (by omega))
    have a0 := (hbl.block _ (by omega)).trans B0.out
    have a1 := (hbl.block _ (by omega)).trans B1.out
    have a2 := (hbl.block _ (by omega)).trans B2.out
    have a3 := (hbl.block _ (by omega)).trans B3.out
    have k0 : W.cell? ⟨w.heap.size, 0, none⟩ = some (.slice A ks.length c) := Ly.cellAt a0 0 rfl
    have c1 : W.cell? ⟨D, 1, none⟩ = some (.int .u8 y.kind) := Ly.cellAt hD 1 rfl
    have hne : ((ks.length : Int) == 0) = false := by rw [beq_eq_false_iff_ne]; omega
    have hct := fun W' hb => containsU8_any (w := W') ((HK.out.keep hW0).keep hb) y.kind
    have HD := Lib.hid hD
    have HN := Lib.hid hno
    have HBL := Lib.hid hbl
    have HW0 := Lib.hid hW0
    have A1 := Lib.hid a1
    have A2 := Lib.hid a2
    have A3 := Lib.hid a3
    have hlD : D < W.heap.size := (Array.getElem?_eq_some_iff.1 hD).1
    have hsz := hbl.size
    have HZ := Lib.hid (show w.heap.size ≤ W.heap.size by omega)
    have HSZ := Lib.hid hsz
    clear hD hbl hW0 a0 a1 a2 a3 hx
    dsimp only [EntV.agg]
    cases hcb : hasK ks y.kind
    · rw [hcb] at hct
      have HCT := Lib.hid hct
      have HNO := Lib.hid (show ∀ y' ∈ pre ++ [(i, y)], hasK ks y'.2.kind = false from fun y' hy' => (List.mem_append.1 hy').elim (hno y') (fun e => by rw [List.mem_singleton.1 e]; exact hcb))
      clear hpre hct hcb hno hy
      gi_wp2_with ((first | refine ⟨trivial, fun _ => by omega, ?_⟩ | refine ⟨trivial, ?_⟩); (with_reducible refine (CallsIn.inRound lp (wideE (HCT.out _ (Below.refl _ _)) _)).mono ?_); rintro e w' ⟨rfl, hb'⟩; (have HB' := Lib.hid hb'); clear hb')
      exact ⟨(KeepsOthers.of_below HB'.out).from _, HB'.out.mono HZ.out, HNO.out, HBL.out.trans (HB'.out.mono HSZ.out)⟩
    · rw [hcb] at hct
      have HCT := Lib.hid hct
      have hfd : lastF ks l = some (i, y) := by
        rw [hy]
        exact findL_at hk _ (by rw [← hpre]; exact hno) (by rw [← hy]; exact hcb)
      have HFD := Lib.hid hfd
      clear hpre hct hcb hno hfd
      have HY := Lib.hid hy
      clear hy
      gi_upto_region 5 with ((first | refine ⟨trivial, fun _ => by omega, ?_⟩ | refine ⟨trivial, ?_⟩); (with_reducible refine (CallsIn.inRound lp (wideE (HCT.out _ (Below.refl _ _)) _)).mono ?_); rintro e w' ⟨rfl, hb'⟩; (have HB' := Lib.hid hb'); clear hb')
      have e1 := (HB'.out.block _ (by omega)).trans A1.out
      have e2 := (HB'.out.block _ (by omega)).trans A2.out
      have e3 := (HB'.out.block _ (by omega)).trans A3.out
      have eD := (HB'.out.block _ hlD).trans HD.out
      have HIN2 := Lib.hid (Ly.II.frz (II_add (Ly.II.put (Ly.II.put (Ly.II.put (Ly.II.put (Ly.II.nil (B := w.heap.size) (w0 := w) (HW0.out.trans (HB'.out.mono HZ.out))) (show w.heap.size ≤ w.heap.size + 1 by omega) e1) (show w.heap.size ≤ w.heap.size + 1 + 1 by omega) e2) (show w.heap.size ≤ w.heap.size + 1 + 1 + 1 by omega) e3) (show w.heap.size ≤ D by omega) eD) (OnlyL.stable (s := w.heap.size + 1) (w1 := w')) ⟨Nat.le_refl _, fun _ _ _ _ _ => rfl⟩) (fun k => k = D))
      have hDn : w.heap.size + 1 + 1 + 1 < D := by omega
      clear e1 e2 e3 eD
      refine regionR lp _ (by kernel_rfl) (by kernel_rfl) (by rintro ⟨_, _, h⟩; exact h) (by kernel_rfl) HIN2.out.1 HIN2.out.2 (by simp only [List.size_toArray, List.length_cons, List.length_nil, Nat.reduceAdd]; rfl) (fun O Z hO hZ => ?_)
      have HO := Lib.hid hO
      clear hO
      first
        | (apply Ly.kp HO 0; (case hx => exact ⟨rfl, rfl, rfl⟩); (case hk => decide +kernel); (case hv => intro w_ hw_; (go_simp <;> first | with_reducible rfl | exact ⟨rfl, rfl⟩)); simp only [Act.put, Ly.p1, Ly.p2, Ly.p3])
      first
        | (apply Ly.kf HO 1; (case hx => exact ⟨rfl, rfl, rfl⟩); (case hk => decide +kernel); (case hv => intro w_ hw_ hF_; have P_ := hF_ D _ rfl (by (repeat (first | exact Ly.ua _ _ _ | rw [Ly.un _ _ (by omega)] | rw [Ly.am] | rw [Ly.fz]))); have c0 : w_.cell? ⟨D, 0, none⟩ = some (.int .i64 y.at_) := Ly.cellAt P_ 0 rfl; have c1 : w_.cell? ⟨D, 1, none⟩ = some (.int .u8 y.kind) := Ly.cellAt P_ 1 rfl; have c2 : w_.cell? ⟨D, 2, none⟩ = some (.int .i64 y.worker) := Ly.cellAt P_ 2 rfl; have c3 : w_.cell? ⟨D, 3, none⟩ = some (.int .i64 y.task) := Ly.cellAt P_ 3 rfl; have c4 : w_.cell? ⟨D, 4, none⟩ = some (.int .i64 y.peer) := Ly.cellAt P_ 4 rfl; have c5 : w_.cell? ⟨D, 5, none⟩ = some (.int .i64 y.ch) := Ly.cellAt P_ 5 rfl; have c6 : w_.cell? ⟨D, 6, none⟩ = some (.int .i64 y.cs) := Ly.cellAt P_ 6 rfl; have c7 : w_.cell? ⟨D, 7, none⟩ = some (.int .i64 y.pc) := Ly.cellAt P_ 7 rfl; have c8 : w_.cell? ⟨D, 8, none⟩ = some (.int .i64 y.val) := Ly.cellAt P_ 8 rfl; have c9 : w_.cell? ⟨D, 9, none⟩ = some (.int .i64 y.val2) := Ly.cellAt P_ 9 rfl; have c10 : w_.cell? ⟨D, 10, none⟩ = some (.bool y.ok) := Ly.cellAt P_ 10 rfl; have c11 : w_.cell? ⟨D, 11, none⟩ = some (.int .i64 y.code) := Ly.cellAt P_ 11 rfl; have c12 : w_.cell? ⟨D, 12, none⟩ = some (.int .u64 y.set) := Ly.cellAt P_ 12 rfl; clear P_; (go_simp <;> first | with_reducible rfl | exact ⟨rfl, rfl⟩)); simp only [Act.put, Ly.p1, Ly.p2, Ly.p3])
      first
        | (apply Ly.ks HO 2 (g := w.heap.size + 1); (case hx => exact ⟨rfl, rfl, rfl⟩); (case hk => decide +kernel); (case hF => exact fun h_ => by (have h2_ : w.heap.size + 1 = D := h_; omega)); (case hG => exact fun _ _ h_ o_ => ⟨h_.1, h_.2.at o_ (.inl rfl)⟩); (case hg => (repeat (first | exact Ly.ua _ _ _ | rw [Ly.un _ _ (by omega)] | rw [Ly.am] | rw [Ly.fz]))); (case hrun => intro w_ hw_ hb_; have c0 := Ly.cellAt hb_ 0 rfl; have d0 := Ly.frozAt hb_ 0; refine ⟨?_, ?_, ?_, ?_⟩; rotate_left; (next => (go_simp <;> first | with_reducible rfl | rfl)); (next => (repeat (first | (with_reducible exact Ly.OnlyAt.refl _ _) | (with_reducible refine Ly.OnlyAt.set ?_ _ _)))); (next => (simp [World.setCell, Array.getElem?_modify, hb_] <;> rfl))); simp only [Act.put, Ly.p1, Ly.p2, Ly.p3])
      first
        | (apply Ly.ks HO 3 (g := w.heap.size + 1 + 1); (case hx => exact ⟨rfl, rfl, rfl⟩); (case hk => decide +kernel); (case hF => exact fun h_ => by (have h2_ : w.heap.size + 1 + 1 = D := h_; omega)); (case hG => exact fun _ _ h_ o_ => ⟨h_.1, h_.2.at o_ (.inr (.inl rfl))⟩); (case hg => (repeat (first | exact Ly.ua _ _ _ | rw [Ly.un _ _ (by omega)] | rw [Ly.am] | rw [Ly.fz]))); (case hrun => intro w_ hw_ hb_; have c0 : w_.cell? ⟨w.heap.size + 1 + 1, 0, none⟩ = some (.int .i64 0) := Ly.cellAt hb_ 0 rfl; have c1 : w_.cell? ⟨w.heap.size + 1 + 1, 1, none⟩ = some (.int .u8 0) := Ly.cellAt hb_ 1 rfl; have c2 : w_.cell? ⟨w.heap.size + 1 + 1, 2, none⟩ = some (.int .i64 0) := Ly.cellAt hb_ 2 rfl; have c3 : w_.cell? ⟨w.heap.size + 1 + 1, 3, none⟩ = some (.int .i64 0) := Ly.cellAt hb_ 3 rfl; have c4 : w_.cell? ⟨w.heap.size + 1 + 1, 4, none⟩ = some (.int .i64 0) := Ly.cellAt hb_ 4 rfl; have c5 : w_.cell? ⟨w.heap.size + 1 + 1, 5, none⟩ = some (.int .i64 0) := Ly.cellAt hb_ 5 rfl; have c6 : w_.cell? ⟨w.heap.size + 1 + 1, 6, none⟩ = some (.int .i64 0) := Ly.cellAt hb_ 6 rfl; have c7 : w_.cell? ⟨w.heap.size + 1 + 1, 7, none⟩ = some (.int .i64 0) := Ly.cellAt hb_ 7 rfl; have c8 : w_.cell? ⟨w.heap.size + 1 + 1, 8, none⟩ = some (.int .i64 0) := Ly.cellAt hb_ 8 rfl; have c9 : w_.cell? ⟨w.heap.size + 1 + 1, 9, none⟩ = some (.int .i64 0) := Ly.cellAt hb_ 9 rfl; have c10 : w_.cell? ⟨w.heap.size + 1 + 1, 10, none⟩ = some (.bool false) := Ly.cellAt hb_ 10 rfl; have c11 : w_.cell? ⟨w.heap.size + 1 + 1, 11, none⟩ = some (.int .i64 0) := Ly.cellAt hb_ 11 rfl; have c12 : w_.cell? ⟨w.heap.size + 1 + 1, 12, none⟩ = some (.int .u64 0) := Ly.cellAt hb_ 12 rfl; have d0 := Ly.frozAt hb_ 0; have d1 := Ly.frozAt hb_ 1; have d2 := Ly.frozAt hb_ 2; have d3 := Ly.frozAt hb_ 3; have d4 := Ly.frozAt hb_ 4; have d5 := Ly.frozAt hb_ 5; have d6 := Ly.frozAt hb_ 6; have d7 := Ly.frozAt hb_ 7; have d8 := Ly.frozAt hb_ 8; have d9 := Ly.frozAt hb_ 9; have d10 := Ly.frozAt hb_ 10; have d11 := Ly.frozAt hb_ 11; have d12 := Ly.frozAt hb_ 12; refine ⟨?_, ?_, ?_, ?_⟩; rotate_left; (next => (go_simp <;> first | with_reducible rfl | rfl)); (next => (repeat (first | (with_reducible exact Ly.OnlyAt.refl _ _) | (with_reducible refine Ly.OnlyAt.set ?_ _ _)))); (next => (simp [World.setCell, Array.getElem?_modify, hb_] <;> rfl))); simp only [Act.put, Ly.p1, Ly.p2, Ly.p3])
      first
        | (apply Ly.ks HO 4 (g := w.heap.size + 1 + 1 + 1); (case hx => exact ⟨rfl, rfl, rfl⟩); (case hk => decide +kernel); (case hF => exact fun h_ => by (have h2_ : w.heap.size + 1 + 1 + 1 = D := h_; omega)); (case hG => exact fun _ _ h_ o_ => ⟨h_.1, h_.2.at o_ (.inr (.inr rfl))⟩); (case hg => (repeat (first | exact Ly.ua _ _ _ | rw [Ly.un _ _ (by omega)] | rw [Ly.am] | rw [Ly.fz]))); (case hrun => intro w_ hw_ hb_; have c0 := Ly.cellAt hb_ 0 rfl; have d0 := Ly.frozAt hb_ 0; refine ⟨?_, ?_, ?_, ?_⟩; rotate_left; (next => (go_simp <;> first | with_reducible rfl | rfl)); (next => (repeat (first | (with_reducible exact Ly.OnlyAt.refl _ _) | (with_reducible refine Ly.OnlyAt.set ?_ _ _)))); (next => (simp [World.setCell, Array.getElem?_modify, hb_] <;> rfl))); simp only [Act.put, Ly.p1, Ly.p2, Ly.p3])
      refine Ly.kd HO (by kernel_rfl) (fun hiv2 => hZ _ _ (fun W2 hw2 => ?_))
      clear hZ Z HO O
      have t1 := hw2.holds (w.heap.size + 1) _ (by (repeat (first | exact Ly.ua _ _ _ | rw [Ly.un _ _ (by omega)] | rw [Ly.am] | rw [Ly.fz])))
      have t2 := hw2.holds (w.heap.size + 1 + 1) _ (by (repeat (first | exact Ly.ua _ _ _ | rw [Ly.un _ _ (by omega)] | rw [Ly.am] | rw [Ly.fz])))
      have t3 := hw2.holds (w.heap.size + 1 + 1 + 1) _ (by (repeat (first | exact Ly.ua _ _ _ | rw [Ly.un _ _ (by omega)] | rw [Ly.am] | rw [Ly.fz])))
      have tO : OnlyL (w.heap.size + 1) w' W2 := hw2.more.2
      have tB := hw2.below
      have TT := Lib.hid (And.intro t1 (And.intro t2 t3))
      have TB := Lib.hid (And.intro tB tO)
      clear hw2 hiv2 t1 t2 t3 tO tB HIN2
      gi_wp2
      refine ⟨⟨Nat.le_trans HB'.out.size TB.out.2.1, fun k o hk ho _ => ?_⟩, rfl, ⟨i, y, HFD.out, TT.out.1, TT.out.2.1, TT.out.2.2⟩, TB.out.1⟩
      have hlt := (Array.getElem?_eq_some_iff.1 ho).1
      have hsz' := HB'.out.size
      exact (TB.out.2.2 k (by omega) (by omega) (by omega) (by omega)).trans ((HB'.out.block k hlt).trans ho)
  case done =>
    rintro D ys W hD rfl ⟨hno, hbl⟩ hK
    have hv : lastV ks l = .tuple #[.int .i64 (-1), EntV.agg ⟨0, 0, 0, 0, 0, 0, 0, 0, 0, 0, false, 0, 0⟩, .bool false] := by rw [lastV, lastF, findL_no _ hno]
    have a1 := (hbl.block _ (by omega)).trans B1.out
    have a2 := (hbl.block _ (by omega)).trans B2.out
    have a3 := (hbl.block _ (by omega)).trans B3.out
    have hsz := hbl.size
    have HV := Lib.hid hv
    have HK2 := Lib.hid hK
    have HBL := Lib.hid hbl
    clear hno hK hbl hv
    have z0 : W.cell? ⟨w.heap.size + 1 + 1, 0, none⟩ = some (.int .i64 0) := Ly.cellAt a2 0 rfl
    have z1 : W.cell? ⟨w.heap.size + 1 + 1, 1, none⟩ = some (.int .u8 0) := Ly.cellAt a2 1 rfl
    have z2 : W.cell? ⟨w.heap.size + 1 + 1, 2, none⟩ = some (.int .i64 0) := Ly.cellAt a2 2 rfl
    have z3 : W.cell? ⟨w.heap.size + 1 + 1, 3, none⟩ = some (.int .i64 0) := Ly.cellAt a2 3 rfl
    have z4 : W.cell? ⟨w.heap.size + 1 + 1, 4, none⟩ = some (.int .i64 0) := Ly.cellAt a2 4 rfl
    have z5 : W.cell? ⟨w.heap.size + 1 + 1, 5, none⟩ = some (.int .i64 0) := Ly.cellAt a2 5 rfl
    have z6 : W.cell? ⟨w.heap.size + 1 + 1, 6, none⟩ = some (.int .i64 0) := Ly.cellAt a2 6 rfl
    have z7 : W.cell? ⟨w.heap.size + 1 + 1, 7, none⟩ = some (.int .i64 0) := Ly.cellAt a2 7 rfl
    have z8 : W.cell? ⟨w.heap.size + 1 + 1, 8, none⟩ = some (.int .i64 0) := Ly.cellAt a2 8 rfl
    have z9 : W.cell? ⟨w.heap.size + 1 + 1, 9, none⟩ = some (.int .i64 0) := Ly.cellAt a2 9 rfl
    have z10 : W.cell? ⟨w.heap.size + 1 + 1, 10, none⟩ = some (.bool false) := Ly.cellAt a2 10 rfl
    have z11 : W.cell? ⟨w.heap.size + 1 + 1, 11, none⟩ = some (.int .i64 0) := Ly.cellAt a2 11 rfl
    have z12 : W.cell? ⟨w.heap.size + 1 + 1, 12, none⟩ = some (.int .u64 0) := Ly.cellAt a2 12 rfl
    have f0 := Ly.frozAt a2 0
    have f1 := Ly.frozAt a2 1
    have f2 := Ly.frozAt a2 2
    have f3 := Ly.frozAt a2 3
    have f4 := Ly.frozAt a2 4
    have f5 := Ly.frozAt a2 5
    have f6 := Ly.frozAt a2 6
    have f7 := Ly.frozAt a2 7
    have f8 := Ly.frozAt a2 8
    have f9 := Ly.frozAt a2 9
    have f10 := Ly.frozAt a2 10
    have f11 := Ly.frozAt a2 11
    have f12 := Ly.frozAt a2 12
    have q1 : W.cell? ⟨w.heap.size + 1, 0, none⟩ = some (.int .i64 0) := Ly.cellAt a1 0 rfl
    have r1 := Ly.frozAt a1 0
    have q3 : W.cell? ⟨w.heap.size + 1 + 1 + 1, 0, none⟩ = some (.bool false) := Ly.cellAt a3 0 rfl
    have r3 := Ly.frozAt a3 0
    have hlt := (Array.getElem?_eq_some_iff.1 a3).1
    have A1 := Lib.hid a1
    have A2 := Lib.hid a2
    have A3 := Lib.hid a3
    clear a1 a2 a3
    have mixed : Try.prog.follows .mixedOrders = true := by kernel_rfl
    gi_upto_region 6 with fail
    refine wpIn_wide.2 ?_
    go_region_o
    all_goals
      go_wp2
      gi_wp2
      rw [HV.out]
      obtain ⟨x1, x2, x3, x4, x5⟩ := chain_says A1.out A2.out A3.out (HB1.out.trans (HBL.out.mono (by omega))) rfl
      exact last_end k0 (-1) ⟨0, 0, 0, 0, 0, 0, 0, 0, 0, 0, false, 0, 0⟩ false x5 (by omega) (x4.same D _ HK2.out rfl) x1 x2 x3 rfl rfl rfl
  case stop =>
    rintro D c pre W hD _ ⟨rfl, ⟨i, y, hf, t1, t2, t3⟩, hB⟩ hK
    have HV := Lib.hid (show lastV ks l = .tuple #[.int .i64 i, y.agg, .bool true] by rw [lastV, hf])
    have TT := Lib.hid (And.intro t1 (And.intro t2 t3))
    have HB := Lib.hid hB
    have HK2 := Lib.hid hK
    clear hf t1 t2 t3 hB hK
    gi_wp2
    rw [HV.out]
    exact last_end k0 i y true HB.out (by omega) HK2.out TT.out.1 TT.out.2.1 TT.out.2.2 rfl rfl rfl
theorem last_any {w : World} {p : Nat} {v0 : Value} {l : List EntV} {A : Option Addr} {n c : Nat} {ks : List Int} (h : LogAt w p v0 l) (hk : kByt.R w (.slice A n c) ks) (h0 : 0 < ks.length) :
    Calls Try.prog 30 #[.pointer (some ⟨p, 0, none⟩), .slice A n c] w fun e w' => e = .returned (lastV ks l) ∧ Below w.heap.size w w' := callsIn_wide.1 (last_in 3 (by omega) h hk h0)
end Go.Proofs.Ytljfloopjgpaeab
