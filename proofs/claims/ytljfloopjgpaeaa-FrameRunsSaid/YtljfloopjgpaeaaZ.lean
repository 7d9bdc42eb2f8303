/- tollbarlaw13.FrameRuns: the walk. -/
import Derived.Test.YtljfloopjgpaeaaY
import Derived.Test.YtljfloopjgpaeaaP
namespace Go.Proofs.Ytljfloopjgpaeaa
set_option linter.unusedVariables false
set_option linter.unusedSimpArgs false
open Go.RowKit
attribute [local go_sem] Oper.semAt_some
set_option maxRecDepth 100000

theorem frozAt {w : World} {B : Nat} {cs : Array Value} {t : Nat} (h : w.heap[B]? = some (.cells cs t (0, 0))) (i : Nat) : w.frozen? ⟨B, i, none⟩ = false := by
  simp [World.frozen?, h]

/-- What Run tells of a program that may be. -/
theorem runF_cases {P : ProgV} (hs : saneP P = true) {f : FrameV} (hat : atB P f.code f.pc = true) {m : Int} (h0 : 0 ≤ m) (h1 : m ≤ 65536) :
    ∃ K : Nat, okTo P f K ∧ (((K : Int) ≤ m ∧ errN P f K = 8 ∧ runF P f m = (nthF P f K, (K : Int), 0)) ∨ ((K : Int) = m + 1 ∧ runF P f m = (FrameV.zero, 0, 5))) := by
  by_cases hok : okTo P f (m.toNat + 1)
  · refine ⟨m.toNat + 1, hok, .inr ⟨by omega, ?_⟩⟩
    unfold runF
    rw [if_pos (by simp [hat]; omega)]
    exact runK_long (fun i hi => hok i (by omega)) (hok _ (Nat.lt_succ_self _))
  · obtain ⟨k, hk, ho, he⟩ := firstBad hok
    rcases sane_errN hs hat ho with h8 | h8
    · exact ⟨k, ho, .inl ⟨by omega, h8, runF_of (by omega) h1 ho h8 hat⟩⟩
    · exact absurd h8 he

structure FRS (P : ProgV) (c1 c2 c3 : Value) (x g : FrameV) (w : World) (g8 : Nat) (wr : World) : Prop where
  pb : wr.heap[w.heap.size]? = some (.cells #[c1, c2, c3] 44 (0, 0))
  fb : wr.heap[w.heap.size + 1]? = some (.cells x.cells 47 (0, 0))
  gb : wr.heap[g8]? = some (.cells g.cells 47 (0, 0))
  pa : RProg wr c1 c2 c3 P
  below : Below w.heap.size w wr
  size : w.heap.size + 2 ≤ wr.heap.size
/-- The frame's own block is written. -/
theorem FRS.put {P : ProgV} {c1 c2 c3 : Value} {x g : FrameV} {w : World} {g8 : Nat} {wr W' : World} (h : FRS P c1 c2 c3 x g w g8 wr) (hp : RProg w c1 c2 c3 P) (hg : w.heap.size + 2 ≤ g8) (ho : Only (w.heap.size + 1) wr W') {y : FrameV} (hy : FrB W' (w.heap.size + 1) y) : FRS P c1 c2 c3 y g w g8 W' := by
  have hb : Below w.heap.size w W' := h.below.trans (ho.below (by omega) h.below.size)
  exact ⟨(ho.block _ (by have := h.size; omega) (by omega)).trans h.pb, hy, (ho.block _ (Array.getElem?_eq_some_iff.1 h.gb).1 (by omega)).trans h.gb, hp.keep hb, hb, Nat.le_trans h.size ho.size⟩

set_option maxHeartbeats 4000000 in
theorem frameRuns_any {c1 c2 c3 : Value} {P : ProgV} {w : World} (h : RProg w c1 c2 c3 P) (f : FrameV) (hf : f.wf) (a : Int) (ha : 0 ≤ a ∧ a ≤ 65535) :
    Calls Try.prog 9 #[.agg #[c1, c2, c3], f.agg, .int .u16 a] w fun e w' => e = .returned (.bool true) ∧ Below w.heap.size w w' := by
  have HP0 := Lib.hid h
  have hal := fun W => alive13_any W
  have HAL := Lib.hid hal
  have hlo := fun (W : World) (h : RProg W c1 c2 c3 P) => long_any h
  have HLO := Lib.hid hlo
  have hsa := fun (W : World) (h : RProg W c1 c2 c3 P) => sane_any h
  have HSA := Lib.hid hsa
  have hck := fun (W : World) (h : RProg W c1 c2 c3 P) (g : FrameV) => fcheck_any h g.code g.pc (rg g.r 0) (rg g.r 1) (rg g.r 2) (rg g.r 3) (rg g.r 4) (rg g.r 5) (rg g.r 6) (rg g.r 7)
  have HCK := Lib.hid hck
  clear hal hlo hsa hck
  unfold FrameV.agg FrameV.cells
  go_enter Try.func9, Try.ntmps9
  go_upto_region 1 with fail
  generalize hW1 : (w.alloc _).alloc _ = W1
  have HPb := Lib.hid (show W1.heap[w.heap.size]? = some (.cells #[c1, c2, c3] 44 (0, 0)) by rw [← hW1, alloc_heap?, if_neg (by simp only [World.size_alloc]; omega), alloc_heap?, if_pos rfl])
  have HFb := Lib.hid (show W1.heap[w.heap.size + 1]? = some (.cells f.cells 47 (0, 0)) by rw [← hW1, alloc_heap?, if_pos (by simp only [World.size_alloc])]; rfl)
  have HB1 := Lib.hid (show Below w.heap.size w W1 by rw [← hW1]; (repeat (first | with_reducible exact Below.refl _ _ | (with_reducible refine Below.setCell ?_ (by first | (simp; done) | (simp; omega) | omega) _) | (with_reducible refine Below.alloc ?_ (by first | (simp; done) | (simp; omega) | omega) _) | (with_reducible refine Below.drew ?_))))
  have HS1 := Lib.hid (show w.heap.size + 2 ≤ W1.heap.size by rw [← hW1]; simp only [World.size_alloc]; omega)
  have HPA := Lib.hid (h.keep HB1.out)
  clear hW1 h
  refine Lx.region0 (by kernel_rfl) (by kernel_rfl) (fun Z hZ => ?_)
  (apply Lx.J.read 0); (case hi => (simp only [List.getElem?_toArray, List.getElem?_cons_zero, List.getElem?_cons_succ]; rfl)); (case hk => kernel_rfl); (case hr => kernel_rfl); (case ht => rfl); (case hw => rfl); (case hv => (intro w_ hw_; have P_ := (hw_.below.block _ (Array.getElem?_eq_some_iff.1 HPb.out).1).trans HPb.out; have q0 := cellAt P_ 0 rfl; have q1 := cellAt P_ 1 rfl; have q2 := cellAt P_ 2 rfl; clear P_; (go_simp <;> first | with_reducible rfl | exact ⟨rfl, rfl⟩))); (simp only [Act.put, List.setIfInBounds_toArray, List.set_cons_zero, List.set_cons_succ])
  (apply Lx.J.callR 1 (fun v_ φ_ => (∃ b_ : Bool, v_ = .bool b_) ∧ φ_ = fun _ => True)); (case hi => (simp only [List.getElem?_toArray, List.getElem?_cons_zero, List.getElem?_cons_succ]; rfl)); (case hk => kernel_rfl); (case hr => kernel_rfl); (case ht => rfl); (case hw => rfl); (case hne => exact ⟨_, _, ⟨true, rfl⟩, rfl⟩); (case hst => (rintro _ _ ⟨_, rfl⟩; exact fun _ _ _ _ => trivial)); (case hrun => (intro w_; (go_simp <;> first | with_reducible rfl | exact ⟨rfl, rfl⟩))); (case hc => (intro w_ hw_; refine Calls.mono (HLO.out _ (HPA.out.keep hw_.below)) ?_; rintro e_ w2_ ⟨⟨b_, rfl⟩, hb_⟩; exact ⟨_, _, rfl, ⟨⟨b_, rfl⟩, rfl⟩, trivial, hb_⟩)); rintro _ _ ⟨⟨b_, rfl⟩, rfl⟩; (simp only [Act.put, List.setIfInBounds_toArray, List.set_cons_zero, List.set_cons_succ])
  (apply Lx.J.pure 2); (case hi => (simp only [List.getElem?_toArray, List.getElem?_cons_zero, List.getElem?_cons_succ]; rfl)); (case hk => kernel_rfl); (case hr => kernel_rfl); (case ht => rfl); (case hw => rfl); (case hv => (intro w_ hw_; (go_simp <;> first | with_reducible rfl | exact ⟨rfl, rfl⟩))); (simp only [Act.put, List.setIfInBounds_toArray, List.set_cons_zero, List.set_cons_succ])
  cases b_
  case true =>
    (apply Lx.J.skip 3); (case hi => (simp only [List.getElem?_toArray, List.getElem?_cons_zero, List.getElem?_cons_succ]; rfl)); (case hk => kernel_rfl); (case hr => kernel_rfl); (case hw => rfl); (simp only [Act.put, List.setIfInBounds_toArray, List.set_cons_zero, List.set_cons_succ])
    (apply Lx.J.skip 4); (case hi => (simp only [List.getElem?_toArray, List.getElem?_cons_zero, List.getElem?_cons_succ]; rfl)); (case hk => kernel_rfl); (case hr => kernel_rfl); (case hw => rfl); (simp only [Act.put, List.setIfInBounds_toArray, List.set_cons_zero, List.set_cons_succ])
    (apply Lx.J.skip 5); (case hi => (simp only [List.getElem?_toArray, List.getElem?_cons_zero, List.getElem?_cons_succ]; rfl)); (case hk => kernel_rfl); (case hr => kernel_rfl); (case hw => rfl); (simp only [Act.put, List.setIfInBounds_toArray, List.set_cons_zero, List.set_cons_succ])
    (apply Lx.J.pure 6); (case hi => (simp only [List.getElem?_toArray, List.getElem?_cons_zero, List.getElem?_cons_succ]; rfl)); (case hk => kernel_rfl); (case hr => kernel_rfl); (case ht => rfl); (case hw => rfl); (case hv => (intro w_ hw_; (go_simp <;> first | with_reducible rfl | exact ⟨rfl, rfl⟩))); (simp only [Act.put, List.setIfInBounds_toArray, List.set_cons_zero, List.set_cons_succ])
    (apply Lx.J.pure 7); (case hi => (simp only [List.getElem?_toArray, List.getElem?_cons_zero, List.getElem?_cons_succ]; rfl)); (case hk => kernel_rfl); (case hr => kernel_rfl); (case ht => rfl); (case hw => rfl); (case hv => (intro w_ hw_; (go_simp <;> first | with_reducible rfl | exact ⟨rfl, rfl⟩))); (simp only [Act.put, List.setIfInBounds_toArray, List.set_cons_zero, List.set_cons_succ])
    (apply Lx.J.skip 8); (case hi => (simp only [List.getElem?_toArray, List.getElem?_cons_zero, List.getElem?_cons_succ]; rfl)); (case hk => kernel_rfl); (case hr => kernel_rfl); (case hw => rfl); (simp only [Act.put, List.setIfInBounds_toArray, List.set_cons_zero, List.set_cons_succ])
    (apply Lx.J.skip 9); (case hi => (simp only [List.getElem?_toArray, List.getElem?_cons_zero, List.getElem?_cons_succ]; rfl)); (case hk => kernel_rfl); (case hr => kernel_rfl); (case hw => rfl); (simp only [Act.put, List.setIfInBounds_toArray, List.set_cons_zero, List.set_cons_succ])
    (apply Lx.J.skip 10); (case hi => (simp only [List.getElem?_toArray, List.getElem?_cons_zero, List.getElem?_cons_succ]; rfl)); (case hk => kernel_rfl); (case hr => kernel_rfl); (case hw => rfl); (simp only [Act.put, List.setIfInBounds_toArray, List.set_cons_zero, List.set_cons_succ])
    (apply Lx.J.skip 11); (case hi => (simp only [List.getElem?_toArray, List.getElem?_cons_zero, List.getElem?_cons_succ]; rfl)); (case hk => kernel_rfl); (case hr => kernel_rfl); (case hw => rfl); (simp only [Act.put, List.setIfInBounds_toArray, List.set_cons_zero, List.set_cons_succ])
    (apply Lx.J.pure 12); (case hi => (simp only [List.getElem?_toArray, List.getElem?_cons_zero, List.getElem?_cons_succ]; rfl)); (case hk => kernel_rfl); (case hr => kernel_rfl); (case ht => rfl); (case hw => rfl); (case hv => (intro w_ hw_; (go_simp <;> first | with_reducible rfl | exact ⟨rfl, rfl⟩))); (simp only [Act.put, List.setIfInBounds_toArray, List.set_cons_zero, List.set_cons_succ])
    refine Lx.J.done (by kernel_rfl) (hZ _ _ (fun w2 hw2 => ?_)) _; clear hZ Z; have hb_ := hw2.below
    replace HPb := Lib.hid ((hw2.below.block _ (Array.getElem?_eq_some_iff.1 HPb.out).1).trans HPb.out); replace HFb := Lib.hid ((hw2.below.block _ (Array.getElem?_eq_some_iff.1 HFb.out).1).trans HFb.out); (replace HPA := Lib.hid (HPA.out.keep hb_)); (replace HB1 := Lib.hid (HB1.out.trans (hb_.mono (by have := HS1.out; omega)))); (replace HS1 := Lib.hid (Nat.le_trans HS1.out hb_.size))
    clear hw2 hb_
    (go_wp2_with (go_at_call 30; (with_reducible refine (HAL.out _).mono ?_); rintro e w' ⟨rfl, hbA⟩)); go_ret; exact ⟨rfl, HB1.out.trans (hbA.mono (by have := HS1.out; omega))⟩
  (apply Lx.J.read 3); (case hi => (simp only [List.getElem?_toArray, List.getElem?_cons_zero, List.getElem?_cons_succ]; rfl)); (case hk => kernel_rfl); (case hr => kernel_rfl); (case ht => rfl); (case hw => rfl); (case hv => (intro w_ hw_; have P_ := (hw_.below.block _ (Array.getElem?_eq_some_iff.1 HPb.out).1).trans HPb.out; have q0 := cellAt P_ 0 rfl; have q1 := cellAt P_ 1 rfl; have q2 := cellAt P_ 2 rfl; clear P_; (go_simp <;> first | with_reducible rfl | exact ⟨rfl, rfl⟩))); (simp only [Act.put, List.setIfInBounds_toArray, List.set_cons_zero, List.set_cons_succ])
  (apply Lx.J.call 4); (case hi => (simp only [List.getElem?_toArray, List.getElem?_cons_zero, List.getElem?_cons_succ]; rfl)); (case hk => kernel_rfl); (case hr => kernel_rfl); (case ht => rfl); (case hw => rfl); (case hrun => (intro w_; (go_simp <;> first | with_reducible rfl | exact ⟨rfl, rfl⟩))); (case hc => (intro w_ hw_; exact HSA.out _ (HPA.out.keep hw_.below))); (simp only [Act.put, List.setIfInBounds_toArray, List.set_cons_zero, List.set_cons_succ])
  cases hsane : saneP P
  case false =>
    (apply Lx.J.pure 5); (case hi => (simp only [List.getElem?_toArray, List.getElem?_cons_zero, List.getElem?_cons_succ]; rfl)); (case hk => kernel_rfl); (case hr => kernel_rfl); (case ht => rfl); (case hw => rfl); (case hv => (intro w_ hw_; (go_simp <;> first | with_reducible rfl | exact ⟨rfl, rfl⟩))); (simp only [Act.put, List.setIfInBounds_toArray, List.set_cons_zero, List.set_cons_succ])
    (apply Lx.J.pure 6); (case hi => (simp only [List.getElem?_toArray, List.getElem?_cons_zero, List.getElem?_cons_succ]; rfl)); (case hk => kernel_rfl); (case hr => kernel_rfl); (case ht => rfl); (case hw => rfl); (case hv => (intro w_ hw_; (go_simp <;> first | with_reducible rfl | exact ⟨rfl, rfl⟩))); (simp only [Act.put, List.setIfInBounds_toArray, List.set_cons_zero, List.set_cons_succ])
    (apply Lx.J.pure 7); (case hi => (simp only [List.getElem?_toArray, List.getElem?_cons_zero, List.getElem?_cons_succ]; rfl)); (case hk => kernel_rfl); (case hr => kernel_rfl); (case ht => rfl); (case hw => rfl); (case hv => (intro w_ hw_; (go_simp <;> first | with_reducible rfl | exact ⟨rfl, rfl⟩))); (simp only [Act.put, List.setIfInBounds_toArray, List.set_cons_zero, List.set_cons_succ])
    (apply Lx.J.skip 8); (case hi => (simp only [List.getElem?_toArray, List.getElem?_cons_zero, List.getElem?_cons_succ]; rfl)); (case hk => kernel_rfl); (case hr => kernel_rfl); (case hw => rfl); (simp only [Act.put, List.setIfInBounds_toArray, List.set_cons_zero, List.set_cons_succ])
    (apply Lx.J.skip 9); (case hi => (simp only [List.getElem?_toArray, List.getElem?_cons_zero, List.getElem?_cons_succ]; rfl)); (case hk => kernel_rfl); (case hr => kernel_rfl); (case hw => rfl); (simp only [Act.put, List.setIfInBounds_toArray, List.set_cons_zero, List.set_cons_succ])
    (apply Lx.J.skip 10); (case hi => (simp only [List.getElem?_toArray, List.getElem?_cons_zero, List.getElem?_cons_succ]; rfl)); (case hk => kernel_rfl); (case hr => kernel_rfl); (case hw => rfl); (simp only [Act.put, List.setIfInBounds_toArray, List.set_cons_zero, List.set_cons_succ])
    (apply Lx.J.skip 11); (case hi => (simp only [List.getElem?_toArray, List.getElem?_cons_zero, List.getElem?_cons_succ]; rfl)); (case hk => kernel_rfl); (case hr => kernel_rfl); (case hw => rfl); (simp only [Act.put, List.setIfInBounds_toArray, List.set_cons_zero, List.set_cons_succ])
    (apply Lx.J.pure 12); (case hi => (simp only [List.getElem?_toArray, List.getElem?_cons_zero, List.getElem?_cons_succ]; rfl)); (case hk => kernel_rfl); (case hr => kernel_rfl); (case ht => rfl); (case hw => rfl); (case hv => (intro w_ hw_; (go_simp <;> first | with_reducible rfl | exact ⟨rfl, rfl⟩))); (simp only [Act.put, List.setIfInBounds_toArray, List.set_cons_zero, List.set_cons_succ])
    refine Lx.J.done (by kernel_rfl) (hZ _ _ (fun w2 hw2 => ?_)) _; clear hZ Z; have hb_ := hw2.below
    replace HPb := Lib.hid ((hw2.below.block _ (Array.getElem?_eq_some_iff.1 HPb.out).1).trans HPb.out); replace HFb := Lib.hid ((hw2.below.block _ (Array.getElem?_eq_some_iff.1 HFb.out).1).trans HFb.out); (replace HPA := Lib.hid (HPA.out.keep hb_)); (replace HB1 := Lib.hid (HB1.out.trans (hb_.mono (by have := HS1.out; omega)))); (replace HS1 := Lib.hid (Nat.le_trans HS1.out hb_.size))
    clear hw2 hb_
    (go_wp2_with (go_at_call 30; (with_reducible refine (HAL.out _).mono ?_); rintro e w' ⟨rfl, hbA⟩)); go_ret; exact ⟨rfl, HB1.out.trans (hbA.mono (by have := HS1.out; omega))⟩
  (apply Lx.J.pure 5); (case hi => (simp only [List.getElem?_toArray, List.getElem?_cons_zero, List.getElem?_cons_succ]; rfl)); (case hk => kernel_rfl); (case hr => kernel_rfl); (case ht => rfl); (case hw => rfl); (case hv => (intro w_ hw_; (go_simp <;> first | with_reducible rfl | exact ⟨rfl, rfl⟩))); (simp only [Act.put, List.setIfInBounds_toArray, List.set_cons_zero, List.set_cons_succ])
  (apply Lx.J.pure 6); (case hi => (simp only [List.getElem?_toArray, List.getElem?_cons_zero, List.getElem?_cons_succ]; rfl)); (case hk => kernel_rfl); (case hr => kernel_rfl); (case ht => rfl); (case hw => rfl); (case hv => (intro w_ hw_; (go_simp <;> first | with_reducible rfl | exact ⟨rfl, rfl⟩))); (simp only [Act.put, List.setIfInBounds_toArray, List.set_cons_zero, List.set_cons_succ])
  (apply Lx.J.pure 7); (case hi => (simp only [List.getElem?_toArray, List.getElem?_cons_zero, List.getElem?_cons_succ]; rfl)); (case hk => kernel_rfl); (case hr => kernel_rfl); (case ht => rfl); (case hw => rfl); (case hv => (intro w_ hw_; (go_simp <;> first | with_reducible rfl | exact ⟨rfl, rfl⟩))); (simp only [Act.put, List.setIfInBounds_toArray, List.set_cons_zero, List.set_cons_succ])
  (apply Lx.J.read 8); (case hi => (simp only [List.getElem?_toArray, List.getElem?_cons_zero, List.getElem?_cons_succ]; rfl)); (case hk => kernel_rfl); (case hr => kernel_rfl); (case ht => rfl); (case hw => rfl); (case hv => (intro w_ hw_; have P_ := (hw_.below.block _ (Array.getElem?_eq_some_iff.1 HPb.out).1).trans HPb.out; have q0 := cellAt P_ 0 rfl; have q1 := cellAt P_ 1 rfl; have q2 := cellAt P_ 2 rfl; clear P_; (go_simp <;> first | with_reducible rfl | exact ⟨rfl, rfl⟩))); (simp only [Act.put, List.setIfInBounds_toArray, List.set_cons_zero, List.set_cons_succ])
  (apply Lx.J.read 9); (case hi => (simp only [List.getElem?_toArray, List.getElem?_cons_zero, List.getElem?_cons_succ]; rfl)); (case hk => kernel_rfl); (case hr => kernel_rfl); (case ht => rfl); (case hw => rfl); (case hv => (intro w_ hw_; have P_ := (hw_.below.block _ (Array.getElem?_eq_some_iff.1 HFb.out).1).trans HFb.out; have c0 : w_.cell? ⟨w.heap.size + 1, 0, none⟩ = some (.int .i64 f.code) := cellAt P_ 0 rfl; have c1 : w_.cell? ⟨w.heap.size + 1, 1, none⟩ = some (.int .i64 f.pc) := cellAt P_ 1 rfl; have c2 : w_.cell? ⟨w.heap.size + 1, 2, none⟩ = some (.int .i64 (rg f.r 0)) := cellAt P_ 2 rfl; have c3 : w_.cell? ⟨w.heap.size + 1, 3, none⟩ = some (.int .i64 (rg f.r 1)) := cellAt P_ 3 rfl; have c4 : w_.cell? ⟨w.heap.size + 1, 4, none⟩ = some (.int .i64 (rg f.r 2)) := cellAt P_ 4 rfl; have c5 : w_.cell? ⟨w.heap.size + 1, 5, none⟩ = some (.int .i64 (rg f.r 3)) := cellAt P_ 5 rfl; have c6 : w_.cell? ⟨w.heap.size + 1, 6, none⟩ = some (.int .i64 (rg f.r 4)) := cellAt P_ 6 rfl; have c7 : w_.cell? ⟨w.heap.size + 1, 7, none⟩ = some (.int .i64 (rg f.r 5)) := cellAt P_ 7 rfl; have c8 : w_.cell? ⟨w.heap.size + 1, 8, none⟩ = some (.int .i64 (rg f.r 6)) := cellAt P_ 8 rfl; have c9 : w_.cell? ⟨w.heap.size + 1, 9, none⟩ = some (.int .i64 (rg f.r 7)) := cellAt P_ 9 rfl; clear P_; (go_simp <;> first | with_reducible rfl | exact ⟨rfl, rfl⟩))); (simp only [Act.put, List.setIfInBounds_toArray, List.set_cons_zero, List.set_cons_succ])
  have HSane := Lib.hid hsane
  clear hsane
  cases hat : atB P f.code f.pc
  case false =>
    (apply Lx.J.call 10); (case hi => (simp only [List.getElem?_toArray, List.getElem?_cons_zero, List.getElem?_cons_succ]; rfl)); (case hk => kernel_rfl); (case hr => kernel_rfl); (case ht => rfl); (case hw => rfl); (case hrun => (intro w_; (go_simp <;> first | with_reducible rfl | exact ⟨rfl, rfl⟩))); (case hc => (intro w_ hw_; have hc := HCK.out _ (HPA.out.keep hw_.below) f; rw [hat] at hc; exact hc)); (simp only [Act.put, List.setIfInBounds_toArray, List.set_cons_zero, List.set_cons_succ])
    clear hat
    (apply Lx.J.pure 11); (case hi => (simp only [List.getElem?_toArray, List.getElem?_cons_zero, List.getElem?_cons_succ]; rfl)); (case hk => kernel_rfl); (case hr => kernel_rfl); (case ht => rfl); (case hw => rfl); (case hv => (intro w_ hw_; (go_simp <;> first | with_reducible rfl | exact ⟨rfl, rfl⟩))); (simp only [Act.put, List.setIfInBounds_toArray, List.set_cons_zero, List.set_cons_succ])
    (apply Lx.J.pure 12); (case hi => (simp only [List.getElem?_toArray, List.getElem?_cons_zero, List.getElem?_cons_succ]; rfl)); (case hk => kernel_rfl); (case hr => kernel_rfl); (case ht => rfl); (case hw => rfl); (case hv => (intro w_ hw_; (go_simp <;> first | with_reducible rfl | exact ⟨rfl, rfl⟩))); (simp only [Act.put, List.setIfInBounds_toArray, List.set_cons_zero, List.set_cons_succ])
    refine Lx.J.done (by kernel_rfl) (hZ _ _ (fun w2 hw2 => ?_)) _; clear hZ Z; have hb_ := hw2.below
    replace HPb := Lib.hid ((hw2.below.block _ (Array.getElem?_eq_some_iff.1 HPb.out).1).trans HPb.out); replace HFb := Lib.hid ((hw2.below.block _ (Array.getElem?_eq_some_iff.1 HFb.out).1).trans HFb.out); (replace HPA := Lib.hid (HPA.out.keep hb_)); (replace HB1 := Lib.hid (HB1.out.trans (hb_.mono (by have := HS1.out; omega)))); (replace HS1 := Lib.hid (Nat.le_trans HS1.out hb_.size))
    clear hw2 hb_
    (go_wp2_with (go_at_call 30; (with_reducible refine (HAL.out _).mono ?_); rintro e w' ⟨rfl, hbA⟩)); go_ret; exact ⟨rfl, HB1.out.trans (hbA.mono (by have := HS1.out; omega))⟩
  (apply Lx.J.call 10); (case hi => (simp only [List.getElem?_toArray, List.getElem?_cons_zero, List.getElem?_cons_succ]; rfl)); (case hk => kernel_rfl); (case hr => kernel_rfl); (case ht => rfl); (case hw => rfl); (case hrun => (intro w_; (go_simp <;> first | with_reducible rfl | exact ⟨rfl, rfl⟩))); (case hc => (intro w_ hw_; have hc := HCK.out _ (HPA.out.keep hw_.below) f; rw [hat] at hc; exact hc)); (simp only [Act.put, List.setIfInBounds_toArray, List.set_cons_zero, List.set_cons_succ])
  have HAt := Lib.hid hat
  clear hat
  (apply Lx.J.pure 11); (case hi => (simp only [List.getElem?_toArray, List.getElem?_cons_zero, List.getElem?_cons_succ]; rfl)); (case hk => kernel_rfl); (case hr => kernel_rfl); (case ht => rfl); (case hw => rfl); (case hv => (intro w_ hw_; (go_simp <;> first | with_reducible rfl | exact ⟨rfl, rfl⟩))); (simp only [Act.put, List.setIfInBounds_toArray, List.set_cons_zero, List.set_cons_succ])
  (apply Lx.J.pure 12); (case hi => (simp only [List.getElem?_toArray, List.getElem?_cons_zero, List.getElem?_cons_succ]; rfl)); (case hk => kernel_rfl); (case hr => kernel_rfl); (case ht => rfl); (case hw => rfl); (case hv => (intro w_ hw_; (go_simp <;> first | with_reducible rfl | exact ⟨rfl, rfl⟩))); (simp only [Act.put, List.setIfInBounds_toArray, List.set_cons_zero, List.set_cons_succ])
  refine Lx.J.done (by kernel_rfl) (hZ _ _ (fun w2 hw2 => ?_)) _; clear hZ Z; have hb_ := hw2.below
  replace HPb := Lib.hid ((hw2.below.block _ (Array.getElem?_eq_some_iff.1 HPb.out).1).trans HPb.out); replace HFb := Lib.hid ((hw2.below.block _ (Array.getElem?_eq_some_iff.1 HFb.out).1).trans HFb.out); (replace HPA := Lib.hid (HPA.out.keep hb_)); (replace HB1 := Lib.hid (HB1.out.trans (hb_.mono (by have := HS1.out; omega)))); (replace HS1 := Lib.hid (Nat.le_trans HS1.out hb_.size))
  clear hw2 hb_
  go_upto_region 4 with fail
  obtain ⟨K, hK1, hK2⟩ := runF_cases HSane.out HAt.out (m := a % 3000) (by omega) (by omega)
  have HK1 := Lib.hid hK1
  obtain ⟨g, n, e, hR⟩ : ∃ g n e, runF P f (a % 3000) = (g, n, e) := ⟨_, _, _, rfl⟩
  rw [hR] at hK2
  simp only [Prod.mk.injEq] at hK2
  have HK2 := Lib.hid hK2
  have hr := fun (W : World) (h : RProg W c1 c2 c3 P) => run_any h f hf (a % 3000)
  rw [hR] at hr
  simp only [FrameV.agg, FrameV.cells] at hr
  have HR1 := Lib.hid hr
  clear hr hR hK1 hK2
  refine Lx.region0 (by kernel_rfl) (by kernel_rfl) (fun Z hZ => ?_)
  (apply Lx.J.read 0); (case hi => (simp only [List.getElem?_toArray, List.getElem?_cons_zero, List.getElem?_cons_succ]; rfl)); (case hk => kernel_rfl); (case hr => kernel_rfl); (case ht => rfl); (case hw => rfl); (case hv => (intro w_ hw_; have P_ := (hw_.below.block _ (Array.getElem?_eq_some_iff.1 HPb.out).1).trans HPb.out; have q0 := cellAt P_ 0 rfl; have q1 := cellAt P_ 1 rfl; have q2 := cellAt P_ 2 rfl; clear P_; (go_simp <;> first | with_reducible rfl | exact ⟨rfl, rfl⟩))); (simp only [Act.put, List.setIfInBounds_toArray, List.set_cons_zero, List.set_cons_succ])
  (apply Lx.J.read 1); (case hi => (simp only [List.getElem?_toArray, List.getElem?_cons_zero, List.getElem?_cons_succ]; rfl)); (case hk => kernel_rfl); (case hr => kernel_rfl); (case ht => rfl); (case hw => rfl); (case hv => (intro w_ hw_; have P_ := (hw_.below.block _ (Array.getElem?_eq_some_iff.1 HFb.out).1).trans HFb.out; have c0 : w_.cell? ⟨w.heap.size + 1, 0, none⟩ = some (.int .i64 f.code) := cellAt P_ 0 rfl; have c1 : w_.cell? ⟨w.heap.size + 1, 1, none⟩ = some (.int .i64 f.pc) := cellAt P_ 1 rfl; have c2 : w_.cell? ⟨w.heap.size + 1, 2, none⟩ = some (.int .i64 (rg f.r 0)) := cellAt P_ 2 rfl; have c3 : w_.cell? ⟨w.heap.size + 1, 3, none⟩ = some (.int .i64 (rg f.r 1)) := cellAt P_ 3 rfl; have c4 : w_.cell? ⟨w.heap.size + 1, 4, none⟩ = some (.int .i64 (rg f.r 2)) := cellAt P_ 4 rfl; have c5 : w_.cell? ⟨w.heap.size + 1, 5, none⟩ = some (.int .i64 (rg f.r 3)) := cellAt P_ 5 rfl; have c6 : w_.cell? ⟨w.heap.size + 1, 6, none⟩ = some (.int .i64 (rg f.r 4)) := cellAt P_ 6 rfl; have c7 : w_.cell? ⟨w.heap.size + 1, 7, none⟩ = some (.int .i64 (rg f.r 5)) := cellAt P_ 7 rfl; have c8 : w_.cell? ⟨w.heap.size + 1, 8, none⟩ = some (.int .i64 (rg f.r 6)) := cellAt P_ 8 rfl; have c9 : w_.cell? ⟨w.heap.size + 1, 9, none⟩ = some (.int .i64 (rg f.r 7)) := cellAt P_ 9 rfl; clear P_; (go_simp <;> first | with_reducible rfl | exact ⟨rfl, rfl⟩))); (simp only [Act.put, List.setIfInBounds_toArray, List.set_cons_zero, List.set_cons_succ])
  (apply Lx.J.pure 2); (case hi => (simp only [List.getElem?_toArray, List.getElem?_cons_zero, List.getElem?_cons_succ]; rfl)); (case hk => kernel_rfl); (case hr => kernel_rfl); (case ht => rfl); (case hw => rfl); (case hv => (intro w_ hw_; (go_simp <;> first | with_reducible rfl | exact ⟨rfl, rfl⟩))); (simp only [Act.put, List.setIfInBounds_toArray, List.set_cons_zero, List.set_cons_succ])
  (apply Lx.J.call 3); (case hi => (simp only [List.getElem?_toArray, List.getElem?_cons_zero, List.getElem?_cons_succ]; rfl)); (case hk => kernel_rfl); (case hr => kernel_rfl); (case ht => rfl); (case hw => rfl); (case hrun => (intro w_; (go_simp <;> first | with_reducible rfl | exact ⟨rfl, rfl⟩))); (case hc => (intro w_ hw_; with_reducible exact HR1.out _ (HPA.out.keep hw_.below))); (simp only [Act.put, List.setIfInBounds_toArray, List.set_cons_zero, List.set_cons_succ])
  (apply Lx.J.pure 4); (case hi => (simp only [List.getElem?_toArray, List.getElem?_cons_zero, List.getElem?_cons_succ]; rfl)); (case hk => kernel_rfl); (case hr => kernel_rfl); (case ht => rfl); (case hw => rfl); (case hv => (intro w_ hw_; (go_simp <;> first | with_reducible rfl | exact ⟨rfl, rfl⟩))); (simp only [Act.put, List.setIfInBounds_toArray, List.set_cons_zero, List.set_cons_succ])
  (apply Lx.J.pure 5); (case hi => (simp only [List.getElem?_toArray, List.getElem?_cons_zero, List.getElem?_cons_succ]; rfl)); (case hk => kernel_rfl); (case hr => kernel_rfl); (case ht => rfl); (case hw => rfl); (case hv => (intro w_ hw_; (go_simp <;> first | with_reducible rfl | exact ⟨rfl, rfl⟩))); (simp only [Act.put, List.setIfInBounds_toArray, List.set_cons_zero, List.set_cons_succ])
  (apply Lx.J.pure 6); (case hi => (simp only [List.getElem?_toArray, List.getElem?_cons_zero, List.getElem?_cons_succ]; rfl)); (case hk => kernel_rfl); (case hr => kernel_rfl); (case ht => rfl); (case hw => rfl); (case hv => (intro w_ hw_; (go_simp <;> first | with_reducible rfl | exact ⟨rfl, rfl⟩))); (simp only [Act.put, List.setIfInBounds_toArray, List.set_cons_zero, List.set_cons_succ])
  (apply Lx.J.pure 7); (case hi => (simp only [List.getElem?_toArray, List.getElem?_cons_zero, List.getElem?_cons_succ]; rfl)); (case hk => kernel_rfl); (case hr => kernel_rfl); (case ht => rfl); (case hw => rfl); (case hv => (intro w_ hw_; (go_simp <;> first | with_reducible rfl | exact ⟨rfl, rfl⟩))); (simp only [Act.put, List.setIfInBounds_toArray, List.set_cons_zero, List.set_cons_succ])
  (apply Lx.J.alloc 8); (case hi => (simp only [List.getElem?_toArray, List.getElem?_cons_zero, List.getElem?_cons_succ]; rfl)); (case hk => kernel_rfl); (case hr => kernel_rfl); (case ht => rfl); (case hw => rfl); (case hrun => (intro w_; (go_simp <;> first | with_reducible rfl | exact ⟨rfl, rfl⟩))); (simp only [Act.put, List.setIfInBounds_toArray, List.set_cons_zero, List.set_cons_succ])
  intro g8 hg8' _
  (apply Lx.J.store 9); (case hi => (simp only [List.getElem?_toArray, List.getElem?_cons_zero, List.getElem?_cons_succ]; rfl)); (case hk => kernel_rfl); (case hr => kernel_rfl); (case ht => rfl); (case hw => rfl); (case hG => exact fun _ _ h_ _ => h_); (case hg => exact Lx.St.upd_at _ _ _); (case hrun => (intro w_ hw_ hb_; exact storeFr g _ hb_ (fun c0 c1 c2 c3 c4 c5 c6 c7 c8 c9 d0 d1 d2 d3 d4 d5 d6 d7 d8 d9 => by (go_simp <;> first | with_reducible rfl | rfl)))); (simp only [Act.put, List.setIfInBounds_toArray, List.set_cons_zero, List.set_cons_succ])
  (apply Lx.J.pure 10); (case hi => (simp only [List.getElem?_toArray, List.getElem?_cons_zero, List.getElem?_cons_succ]; rfl)); (case hk => kernel_rfl); (case hr => kernel_rfl); (case ht => rfl); (case hw => rfl); (case hv => (intro w_ hw_; (go_simp <;> first | with_reducible rfl | exact ⟨rfl, rfl⟩))); (simp only [Act.put, List.setIfInBounds_toArray, List.set_cons_zero, List.set_cons_succ])
  (apply Lx.J.pure 11); (case hi => (simp only [List.getElem?_toArray, List.getElem?_cons_zero, List.getElem?_cons_succ]; rfl)); (case hk => kernel_rfl); (case hr => kernel_rfl); (case ht => rfl); (case hw => rfl); (case hv => (intro w_ hw_; (go_simp <;> first | with_reducible rfl | exact ⟨rfl, rfl⟩))); (simp only [Act.put, List.setIfInBounds_toArray, List.set_cons_zero, List.set_cons_succ])
  refine Lx.J.done (by kernel_rfl) (hZ _ _ (fun w3 hw2 => ?_)) _; clear hZ Z; have hb_ := hw2.below
  have HG8 := Lib.hid (hw2.holds g8 _ (Lx.St.upd_at _ _ _))
  have hg8 : w.heap.size + 2 ≤ g8 := Nat.le_trans HS1.out hg8'
  replace HPb := Lib.hid ((hw2.below.block _ (Array.getElem?_eq_some_iff.1 HPb.out).1).trans HPb.out); replace HFb := Lib.hid ((hw2.below.block _ (Array.getElem?_eq_some_iff.1 HFb.out).1).trans HFb.out); (replace HPA := Lib.hid (HPA.out.keep hb_)); (replace HB1 := Lib.hid (HB1.out.trans (hb_.mono (by have := HS1.out; omega)))); (replace HS1 := Lib.hid (Nat.le_trans HS1.out hb_.size))
  clear hw2 hb_ HR1 hg8'
  have HFR := Lib.hid (FRS.mk (x := nthF P f 0) HPb.out HFb.out HG8.out HPA.out HB1.out HS1.out)
  clear HPb HFb HG8 HPA HB1 HS1
  have he : e = 0 ∨ e = 5 := by rcases HK2.out with ⟨_, _, _, _, h⟩ | ⟨_, _, _, h⟩ <;> simp [h]
  rcases he with rfl | rfl
  all_goals
    go_wp2
    go_loopw [11] (fun i wr => ∃ j : Nat, i = .int .i64 j ∧ j ≤ K ∧ FRS P c1 c2 c3 (nthF P f j) g w g8 wr) (fun i _ => K + 1 - (intOf i).toNat)
    case atStart => exact ⟨0, rfl, Nat.zero_le _, HFR.out⟩
    case round =>
      obtain ⟨j, rfl, hjK, hFR⟩ := hrel
      have HFj := Lib.hid hFR
      clear hFR HFR
      have HPb := Lib.hid HFj.out.pb
      have HFb := Lib.hid HFj.out.fb
      have HG8 := Lib.hid HFj.out.gb
      have HPA := Lib.hid HFj.out.pa
      have HB1 := Lib.hid HFj.out.below
      have HS1 := Lib.hid HFj.out.size
      clear HFj
      by_cases hlt : j < K
      · have hle : (j : Int) ≤ a % 3000 := by rcases HK2.out with h | h <;> omega
        have he := HK1.out j hlt
        obtain ⟨hc1, _⟩ := sane_nth HSane.out HAt.out j (fun i hi => HK1.out i (by omega))
        obtain ⟨hc2, hat2⟩ := sane_nth HSane.out HAt.out (j + 1) (fun i hi => HK1.out i (by omega))
        have hcd : ((nthF P f (j + 1)).code != (nthF P f j).code) = false := by rw [hc1, hc2]; simp
        have hck := fun (W : World) (h : RProg W c1 c2 c3 P) => HCK.out W h (nthF P f (j + 1))
        rw [hat2] at hck
        have hst := fun (W : World) (h : RProg W c1 c2 c3 P) => step_any h (nthF P f j) (nthF_wf hf j)
        rw [show stepF P (nthF P f j) = (nthF P f (j + 1), errN P f j) from rfl, he] at hst
        have HNx := Lib.hid (rfl : nthF P f (j + 1) = nthF P f (j + 1))
        generalize nthF P f j = x at hst hcd HFb hc1
        generalize hy : nthF P f (j + 1) = y at hst hcd hck hc2 hat2
        have HY := Lib.hid hy
        simp only [FrameV.agg, FrameV.cells] at hst
        have HST := Lib.hid hst
        have HCY := Lib.hid hck
        clear hst hck he hc1 hc2 hat2 HNx hy
        go_upto_region 10 with fail
        refine Lx.region0 (by kernel_rfl) (by kernel_rfl) (fun Z hZ => ?_)
        (apply Lx.J.read 0); (case hi => (simp only [List.getElem?_toArray, List.getElem?_cons_zero, List.getElem?_cons_succ]; rfl)); (case hk => kernel_rfl); (case hr => kernel_rfl); (case ht => rfl); (case hw => rfl); (case hv => (intro w_ hw_; have P_ := (hw_.below.block _ (Array.getElem?_eq_some_iff.1 HPb.out).1).trans HPb.out; have q0 := cellAt P_ 0 rfl; have q1 := cellAt P_ 1 rfl; have q2 := cellAt P_ 2 rfl; clear P_; (go_simp <;> first | with_reducible rfl | exact ⟨rfl, rfl⟩))); (simp only [Act.put, List.setIfInBounds_toArray, List.set_cons_zero, List.set_cons_succ])
        (apply Lx.J.read 1); (case hi => (simp only [List.getElem?_toArray, List.getElem?_cons_zero, List.getElem?_cons_succ]; rfl)); (case hk => kernel_rfl); (case hr => kernel_rfl); (case ht => rfl); (case hw => rfl); (case hv => (intro w_ hw_; have P_ := (hw_.below.block _ (Array.getElem?_eq_some_iff.1 HFb.out).1).trans HFb.out; have c0 : w_.cell? ⟨w.heap.size + 1, 0, none⟩ = some (.int .i64 x.code) := cellAt P_ 0 rfl; have c1 : w_.cell? ⟨w.heap.size + 1, 1, none⟩ = some (.int .i64 x.pc) := cellAt P_ 1 rfl; have c2 : w_.cell? ⟨w.heap.size + 1, 2, none⟩ = some (.int .i64 (rg x.r 0)) := cellAt P_ 2 rfl; have c3 : w_.cell? ⟨w.heap.size + 1, 3, none⟩ = some (.int .i64 (rg x.r 1)) := cellAt P_ 3 rfl; have c4 : w_.cell? ⟨w.heap.size + 1, 4, none⟩ = some (.int .i64 (rg x.r 2)) := cellAt P_ 4 rfl; have c5 : w_.cell? ⟨w.heap.size + 1, 5, none⟩ = some (.int .i64 (rg x.r 3)) := cellAt P_ 5 rfl; have c6 : w_.cell? ⟨w.heap.size + 1, 6, none⟩ = some (.int .i64 (rg x.r 4)) := cellAt P_ 6 rfl; have c7 : w_.cell? ⟨w.heap.size + 1, 7, none⟩ = some (.int .i64 (rg x.r 5)) := cellAt P_ 7 rfl; have c8 : w_.cell? ⟨w.heap.size + 1, 8, none⟩ = some (.int .i64 (rg x.r 6)) := cellAt P_ 8 rfl; have c9 : w_.cell? ⟨w.heap.size + 1, 9, none⟩ = some (.int .i64 (rg x.r 7)) := cellAt P_ 9 rfl; clear P_; (go_simp <;> first | with_reducible rfl | exact ⟨rfl, rfl⟩))); (simp only [Act.put, List.setIfInBounds_toArray, List.set_cons_zero, List.set_cons_succ])
        (apply Lx.J.call 2); (case hi => (simp only [List.getElem?_toArray, List.getElem?_cons_zero, List.getElem?_cons_succ]; rfl)); (case hk => kernel_rfl); (case hr => kernel_rfl); (case ht => rfl); (case hw => rfl); (case hrun => (intro w_; (go_simp <;> first | with_reducible rfl | exact ⟨rfl, rfl⟩))); (case hc => (intro w_ hw_; with_reducible exact HST.out _ (HPA.out.keep hw_.below))); (simp only [Act.put, List.setIfInBounds_toArray, List.set_cons_zero, List.set_cons_succ])
        (apply Lx.J.pure 3); (case hi => (simp only [List.getElem?_toArray, List.getElem?_cons_zero, List.getElem?_cons_succ]; rfl)); (case hk => kernel_rfl); (case hr => kernel_rfl); (case ht => rfl); (case hw => rfl); (case hv => (intro w_ hw_; (go_simp <;> first | with_reducible rfl | exact ⟨rfl, rfl⟩))); (simp only [Act.put, List.setIfInBounds_toArray, List.set_cons_zero, List.set_cons_succ])
        (apply Lx.J.pure 4); (case hi => (simp only [List.getElem?_toArray, List.getElem?_cons_zero, List.getElem?_cons_succ]; rfl)); (case hk => kernel_rfl); (case hr => kernel_rfl); (case ht => rfl); (case hw => rfl); (case hv => (intro w_ hw_; (go_simp <;> first | with_reducible rfl | exact ⟨rfl, rfl⟩))); (simp only [Act.put, List.setIfInBounds_toArray, List.set_cons_zero, List.set_cons_succ])
        (apply Lx.J.pure 5); (case hi => (simp only [List.getElem?_toArray, List.getElem?_cons_zero, List.getElem?_cons_succ]; rfl)); (case hk => kernel_rfl); (case hr => kernel_rfl); (case ht => rfl); (case hw => rfl); (case hv => (intro w_ hw_; (go_simp <;> first | with_reducible rfl | exact ⟨rfl, rfl⟩))); (simp only [Act.put, List.setIfInBounds_toArray, List.set_cons_zero, List.set_cons_succ])
        (apply Lx.J.alloc 6); (case hi => (simp only [List.getElem?_toArray, List.getElem?_cons_zero, List.getElem?_cons_succ]; rfl)); (case hk => kernel_rfl); (case hr => kernel_rfl); (case ht => rfl); (case hw => rfl); (case hrun => (intro w_; (go_simp <;> first | with_reducible rfl | exact ⟨rfl, rfl⟩))); (simp only [Act.put, List.setIfInBounds_toArray, List.set_cons_zero, List.set_cons_succ])
        intro g12 hg12 _
        (apply Lx.J.store 7); (case hi => (simp only [List.getElem?_toArray, List.getElem?_cons_zero, List.getElem?_cons_succ]; rfl)); (case hk => kernel_rfl); (case hr => kernel_rfl); (case ht => rfl); (case hw => rfl); (case hG => exact fun _ _ h_ _ => h_); (case hg => exact Lx.St.upd_at _ _ _); (case hrun => (intro w_ hw_ hb_; exact storeFr y _ hb_ (fun c0 c1 c2 c3 c4 c5 c6 c7 c8 c9 d0 d1 d2 d3 d4 d5 d6 d7 d8 d9 => by (go_simp <;> first | with_reducible rfl | rfl)))); (simp only [Act.put, List.setIfInBounds_toArray, List.set_cons_zero, List.set_cons_succ])
        (apply Lx.J.pure 8); (case hi => (simp only [List.getElem?_toArray, List.getElem?_cons_zero, List.getElem?_cons_succ]; rfl)); (case hk => kernel_rfl); (case hr => kernel_rfl); (case ht => rfl); (case hw => rfl); (case hv => (intro w_ hw_; (go_simp <;> first | with_reducible rfl | exact ⟨rfl, rfl⟩))); (simp only [Act.put, List.setIfInBounds_toArray, List.set_cons_zero, List.set_cons_succ])
        refine Lx.J.done (by kernel_rfl) (hZ _ _ (fun w4 hw2 => ?_)) _; clear hZ Z; have hb_ := hw2.below
        have HG12 := Lib.hid (hw2.holds g12 _ (Lx.St.upd_at _ _ _))
        replace HG8 := Lib.hid ((hw2.below.block _ (Array.getElem?_eq_some_iff.1 HG8.out).1).trans HG8.out)
        replace HPb := Lib.hid ((hw2.below.block _ (Array.getElem?_eq_some_iff.1 HPb.out).1).trans HPb.out); replace HFb := Lib.hid ((hw2.below.block _ (Array.getElem?_eq_some_iff.1 HFb.out).1).trans HFb.out); (replace HPA := Lib.hid (HPA.out.keep hb_)); (replace HB1 := Lib.hid (HB1.out.trans (hb_.mono (by have := HS1.out; omega)))); (replace HS1 := Lib.hid (Nat.le_trans HS1.out hb_.size))
        clear hw2 hb_
        go_upto_region 13 with fail
        refine Lx.region0 (by kernel_rfl) (by kernel_rfl) (fun Z hZ => ?_)
        (apply Lx.J.pure 0); (case hi => (simp only [List.getElem?_toArray, List.getElem?_cons_zero, List.getElem?_cons_succ]; rfl)); (case hk => kernel_rfl); (case hr => kernel_rfl); (case ht => rfl); (case hw => rfl); (case hv => (intro w_ hw_; (go_simp <;> first | with_reducible rfl | exact ⟨rfl, rfl⟩))); (simp only [Act.put, List.setIfInBounds_toArray, List.set_cons_zero, List.set_cons_succ])
        (apply Lx.J.pure 1); (case hi => (simp only [List.getElem?_toArray, List.getElem?_cons_zero, List.getElem?_cons_succ]; rfl)); (case hk => kernel_rfl); (case hr => kernel_rfl); (case ht => rfl); (case hw => rfl); (case hv => (intro w_ hw_; (go_simp <;> first | with_reducible rfl | exact ⟨rfl, rfl⟩))); (simp only [Act.put, List.setIfInBounds_toArray, List.set_cons_zero, List.set_cons_succ])
        (apply Lx.J.pure 2); (case hi => (simp only [List.getElem?_toArray, List.getElem?_cons_zero, List.getElem?_cons_succ]; rfl)); (case hk => kernel_rfl); (case hr => kernel_rfl); (case ht => rfl); (case hw => rfl); (case hv => (intro w_ hw_; (go_simp <;> first | with_reducible rfl | exact ⟨rfl, rfl⟩))); (simp only [Act.put, List.setIfInBounds_toArray, List.set_cons_zero, List.set_cons_succ])
        (apply Lx.J.read 3); (case hi => (simp only [List.getElem?_toArray, List.getElem?_cons_zero, List.getElem?_cons_succ]; rfl)); (case hk => kernel_rfl); (case hr => kernel_rfl); (case ht => rfl); (case hw => rfl); (case hv => (intro w_ hw_; have P_ := (hw_.below.block _ (Array.getElem?_eq_some_iff.1 HPb.out).1).trans HPb.out; have q0 := cellAt P_ 0 rfl; have q1 := cellAt P_ 1 rfl; have q2 := cellAt P_ 2 rfl; clear P_; (go_simp <;> first | with_reducible rfl | exact ⟨rfl, rfl⟩))); (simp only [Act.put, List.setIfInBounds_toArray, List.set_cons_zero, List.set_cons_succ])
        (apply Lx.J.read 4); (case hi => (simp only [List.getElem?_toArray, List.getElem?_cons_zero, List.getElem?_cons_succ]; rfl)); (case hk => kernel_rfl); (case hr => kernel_rfl); (case ht => rfl); (case hw => rfl); (case hv => (intro w_ hw_; have P_ := (hw_.below.block _ (Array.getElem?_eq_some_iff.1 HG12.out).1).trans HG12.out; have c0 : w_.cell? ⟨g12, 0, none⟩ = some (.int .i64 y.code) := cellAt P_ 0 rfl; have c1 : w_.cell? ⟨g12, 1, none⟩ = some (.int .i64 y.pc) := cellAt P_ 1 rfl; have c2 : w_.cell? ⟨g12, 2, none⟩ = some (.int .i64 (rg y.r 0)) := cellAt P_ 2 rfl; have c3 : w_.cell? ⟨g12, 3, none⟩ = some (.int .i64 (rg y.r 1)) := cellAt P_ 3 rfl; have c4 : w_.cell? ⟨g12, 4, none⟩ = some (.int .i64 (rg y.r 2)) := cellAt P_ 4 rfl; have c5 : w_.cell? ⟨g12, 5, none⟩ = some (.int .i64 (rg y.r 3)) := cellAt P_ 5 rfl; have c6 : w_.cell? ⟨g12, 6, none⟩ = some (.int .i64 (rg y.r 4)) := cellAt P_ 6 rfl; have c7 : w_.cell? ⟨g12, 7, none⟩ = some (.int .i64 (rg y.r 5)) := cellAt P_ 7 rfl; have c8 : w_.cell? ⟨g12, 8, none⟩ = some (.int .i64 (rg y.r 6)) := cellAt P_ 8 rfl; have c9 : w_.cell? ⟨g12, 9, none⟩ = some (.int .i64 (rg y.r 7)) := cellAt P_ 9 rfl; clear P_; (go_simp <;> first | with_reducible rfl | exact ⟨rfl, rfl⟩))); (simp only [Act.put, List.setIfInBounds_toArray, List.set_cons_zero, List.set_cons_succ])
        (apply Lx.J.call 5); (case hi => (simp only [List.getElem?_toArray, List.getElem?_cons_zero, List.getElem?_cons_succ]; rfl)); (case hk => kernel_rfl); (case hr => kernel_rfl); (case ht => rfl); (case hw => rfl); (case hrun => (intro w_; (go_simp <;> first | with_reducible rfl | exact ⟨rfl, rfl⟩))); (case hc => (intro w_ hw_; with_reducible exact HCY.out _ (HPA.out.keep hw_.below))); (simp only [Act.put, List.setIfInBounds_toArray, List.set_cons_zero, List.set_cons_succ])
        (apply Lx.J.pure 6); (case hi => (simp only [List.getElem?_toArray, List.getElem?_cons_zero, List.getElem?_cons_succ]; rfl)); (case hk => kernel_rfl); (case hr => kernel_rfl); (case ht => rfl); (case hw => rfl); (case hv => (intro w_ hw_; (go_simp <;> first | with_reducible rfl | exact ⟨rfl, rfl⟩))); (simp only [Act.put, List.setIfInBounds_toArray, List.set_cons_zero, List.set_cons_succ])
        (apply Lx.J.pure 7); (case hi => (simp only [List.getElem?_toArray, List.getElem?_cons_zero, List.getElem?_cons_succ]; rfl)); (case hk => kernel_rfl); (case hr => kernel_rfl); (case ht => rfl); (case hw => rfl); (case hv => (intro w_ hw_; (go_simp <;> first | with_reducible rfl | exact ⟨rfl, rfl⟩))); (simp only [Act.put, List.setIfInBounds_toArray, List.set_cons_zero, List.set_cons_succ])
        (apply Lx.J.pure 8); (case hi => (simp only [List.getElem?_toArray, List.getElem?_cons_zero, List.getElem?_cons_succ]; rfl)); (case hk => kernel_rfl); (case hr => kernel_rfl); (case ht => rfl); (case hw => rfl); (case hv => (intro w_ hw_; (go_simp <;> first | with_reducible rfl | exact ⟨rfl, rfl⟩))); (simp only [Act.put, List.setIfInBounds_toArray, List.set_cons_zero, List.set_cons_succ])
        (apply Lx.J.pure 9); (case hi => (simp only [List.getElem?_toArray, List.getElem?_cons_zero, List.getElem?_cons_succ]; rfl)); (case hk => kernel_rfl); (case hr => kernel_rfl); (case ht => rfl); (case hw => rfl); (case hv => (intro w_ hw_; (go_simp <;> first | with_reducible rfl | exact ⟨rfl, rfl⟩))); (simp only [Act.put, List.setIfInBounds_toArray, List.set_cons_zero, List.set_cons_succ])
        (apply Lx.J.read 10); (case hi => (simp only [List.getElem?_toArray, List.getElem?_cons_zero, List.getElem?_cons_succ]; rfl)); (case hk => kernel_rfl); (case hr => kernel_rfl); (case ht => rfl); (case hw => rfl); (case hv => (intro w_ hw_; have P_ := (hw_.below.block _ (Array.getElem?_eq_some_iff.1 HG12.out).1).trans HG12.out; have c0 : w_.cell? ⟨g12, 0, none⟩ = some (.int .i64 y.code) := cellAt P_ 0 rfl; have c1 : w_.cell? ⟨g12, 1, none⟩ = some (.int .i64 y.pc) := cellAt P_ 1 rfl; have c2 : w_.cell? ⟨g12, 2, none⟩ = some (.int .i64 (rg y.r 0)) := cellAt P_ 2 rfl; have c3 : w_.cell? ⟨g12, 3, none⟩ = some (.int .i64 (rg y.r 1)) := cellAt P_ 3 rfl; have c4 : w_.cell? ⟨g12, 4, none⟩ = some (.int .i64 (rg y.r 2)) := cellAt P_ 4 rfl; have c5 : w_.cell? ⟨g12, 5, none⟩ = some (.int .i64 (rg y.r 3)) := cellAt P_ 5 rfl; have c6 : w_.cell? ⟨g12, 6, none⟩ = some (.int .i64 (rg y.r 4)) := cellAt P_ 6 rfl; have c7 : w_.cell? ⟨g12, 7, none⟩ = some (.int .i64 (rg y.r 5)) := cellAt P_ 7 rfl; have c8 : w_.cell? ⟨g12, 8, none⟩ = some (.int .i64 (rg y.r 6)) := cellAt P_ 8 rfl; have c9 : w_.cell? ⟨g12, 9, none⟩ = some (.int .i64 (rg y.r 7)) := cellAt P_ 9 rfl; clear P_; (go_simp <;> first | with_reducible rfl | exact ⟨rfl, rfl⟩))); (simp only [Act.put, List.setIfInBounds_toArray, List.set_cons_zero, List.set_cons_succ])
        (apply Lx.J.pure 11); (case hi => (simp only [List.getElem?_toArray, List.getElem?_cons_zero, List.getElem?_cons_succ]; rfl)); (case hk => kernel_rfl); (case hr => kernel_rfl); (case ht => rfl); (case hw => rfl); (case hv => (intro w_ hw_; (go_simp <;> first | with_reducible rfl | exact ⟨rfl, rfl⟩))); (simp only [Act.put, List.setIfInBounds_toArray, List.set_cons_zero, List.set_cons_succ])
        (apply Lx.J.read 12); (case hi => (simp only [List.getElem?_toArray, List.getElem?_cons_zero, List.getElem?_cons_succ]; rfl)); (case hk => kernel_rfl); (case hr => kernel_rfl); (case ht => rfl); (case hw => rfl); (case hv => (intro w_ hw_; have P_ := (hw_.below.block _ (Array.getElem?_eq_some_iff.1 HFb.out).1).trans HFb.out; have c0 : w_.cell? ⟨w.heap.size + 1, 0, none⟩ = some (.int .i64 x.code) := cellAt P_ 0 rfl; have c1 : w_.cell? ⟨w.heap.size + 1, 1, none⟩ = some (.int .i64 x.pc) := cellAt P_ 1 rfl; have c2 : w_.cell? ⟨w.heap.size + 1, 2, none⟩ = some (.int .i64 (rg x.r 0)) := cellAt P_ 2 rfl; have c3 : w_.cell? ⟨w.heap.size + 1, 3, none⟩ = some (.int .i64 (rg x.r 1)) := cellAt P_ 3 rfl; have c4 : w_.cell? ⟨w.heap.size + 1, 4, none⟩ = some (.int .i64 (rg x.r 2)) := cellAt P_ 4 rfl; have c5 : w_.cell? ⟨w.heap.size + 1, 5, none⟩ = some (.int .i64 (rg x.r 3)) := cellAt P_ 5 rfl; have c6 : w_.cell? ⟨w.heap.size + 1, 6, none⟩ = some (.int .i64 (rg x.r 4)) := cellAt P_ 6 rfl; have c7 : w_.cell? ⟨w.heap.size + 1, 7, none⟩ = some (.int .i64 (rg x.r 5)) := cellAt P_ 7 rfl; have c8 : w_.cell? ⟨w.heap.size + 1, 8, none⟩ = some (.int .i64 (rg x.r 6)) := cellAt P_ 8 rfl; have c9 : w_.cell? ⟨w.heap.size + 1, 9, none⟩ = some (.int .i64 (rg x.r 7)) := cellAt P_ 9 rfl; clear P_; (go_simp <;> first | with_reducible rfl | exact ⟨rfl, rfl⟩))); (simp only [Act.put, List.setIfInBounds_toArray, List.set_cons_zero, List.set_cons_succ])
        (apply Lx.J.pure 13); (case hi => (simp only [List.getElem?_toArray, List.getElem?_cons_zero, List.getElem?_cons_succ]; rfl)); (case hk => kernel_rfl); (case hr => kernel_rfl); (case ht => rfl); (case hw => rfl); (case hv => (intro w_ hw_; (go_simp <;> first | with_reducible rfl | exact ⟨rfl, rfl⟩))); (simp only [Act.put, List.setIfInBounds_toArray, List.set_cons_zero, List.set_cons_succ])
        (apply Lx.J.pure 14); (case hi => (simp only [List.getElem?_toArray, List.getElem?_cons_zero, List.getElem?_cons_succ]; rfl)); (case hk => kernel_rfl); (case hr => kernel_rfl); (case ht => rfl); (case hw => rfl); (case hv => (intro w_ hw_; (go_simp <;> first | with_reducible rfl | exact ⟨rfl, rfl⟩))); (simp only [Act.put, List.setIfInBounds_toArray, List.set_cons_zero, List.set_cons_succ])
        refine Lx.J.done (by kernel_rfl) (hZ _ _ (fun w5 hw2 => ?_)) _; clear hZ Z; have hb_ := hw2.below
        replace HG8 := Lib.hid ((hw2.below.block _ (Array.getElem?_eq_some_iff.1 HG8.out).1).trans HG8.out)
        replace HG12 := Lib.hid ((hw2.below.block _ (Array.getElem?_eq_some_iff.1 HG12.out).1).trans HG12.out)
        replace HPb := Lib.hid ((hw2.below.block _ (Array.getElem?_eq_some_iff.1 HPb.out).1).trans HPb.out); replace HFb := Lib.hid ((hw2.below.block _ (Array.getElem?_eq_some_iff.1 HFb.out).1).trans HFb.out); (replace HPA := Lib.hid (HPA.out.keep hb_)); (replace HB1 := Lib.hid (HB1.out.trans (hb_.mono (by have := HS1.out; omega)))); (replace HS1 := Lib.hid (Nat.le_trans HS1.out hb_.size))
        clear hw2 hb_ hcd
        have yc0 : w5.cell? ⟨g12, 0, none⟩ = some (.int .i64 y.code) := cellAt HG12.out 0 rfl
        have yc1 : w5.cell? ⟨g12, 1, none⟩ = some (.int .i64 y.pc) := cellAt HG12.out 1 rfl
        have yc2 : w5.cell? ⟨g12, 2, none⟩ = some (.int .i64 (rg y.r 0)) := cellAt HG12.out 2 rfl
        have yc3 : w5.cell? ⟨g12, 3, none⟩ = some (.int .i64 (rg y.r 1)) := cellAt HG12.out 3 rfl
        have yc4 : w5.cell? ⟨g12, 4, none⟩ = some (.int .i64 (rg y.r 2)) := cellAt HG12.out 4 rfl
        have yc5 : w5.cell? ⟨g12, 5, none⟩ = some (.int .i64 (rg y.r 3)) := cellAt HG12.out 5 rfl
        have yc6 : w5.cell? ⟨g12, 6, none⟩ = some (.int .i64 (rg y.r 4)) := cellAt HG12.out 6 rfl
        have yc7 : w5.cell? ⟨g12, 7, none⟩ = some (.int .i64 (rg y.r 5)) := cellAt HG12.out 7 rfl
        have yc8 : w5.cell? ⟨g12, 8, none⟩ = some (.int .i64 (rg y.r 6)) := cellAt HG12.out 8 rfl
        have yc9 : w5.cell? ⟨g12, 9, none⟩ = some (.int .i64 (rg y.r 7)) := cellAt HG12.out 9 rfl
        have xc0 : w5.cell? ⟨w.heap.size + 1, 0, none⟩ = some (.int .i64 x.code) := cellAt HFb.out 0 rfl
        have xc1 : w5.cell? ⟨w.heap.size + 1, 1, none⟩ = some (.int .i64 x.pc) := cellAt HFb.out 1 rfl
        have xc2 : w5.cell? ⟨w.heap.size + 1, 2, none⟩ = some (.int .i64 (rg x.r 0)) := cellAt HFb.out 2 rfl
        have xc3 : w5.cell? ⟨w.heap.size + 1, 3, none⟩ = some (.int .i64 (rg x.r 1)) := cellAt HFb.out 3 rfl
        have xc4 : w5.cell? ⟨w.heap.size + 1, 4, none⟩ = some (.int .i64 (rg x.r 2)) := cellAt HFb.out 4 rfl
        have xc5 : w5.cell? ⟨w.heap.size + 1, 5, none⟩ = some (.int .i64 (rg x.r 3)) := cellAt HFb.out 5 rfl
        have xc6 : w5.cell? ⟨w.heap.size + 1, 6, none⟩ = some (.int .i64 (rg x.r 4)) := cellAt HFb.out 6 rfl
        have xc7 : w5.cell? ⟨w.heap.size + 1, 7, none⟩ = some (.int .i64 (rg x.r 5)) := cellAt HFb.out 7 rfl
        have xc8 : w5.cell? ⟨w.heap.size + 1, 8, none⟩ = some (.int .i64 (rg x.r 6)) := cellAt HFb.out 8 rfl
        have xc9 : w5.cell? ⟨w.heap.size + 1, 9, none⟩ = some (.int .i64 (rg x.r 7)) := cellAt HFb.out 9 rfl
        have xf0 : w5.frozen? ⟨w.heap.size + 1, 0, none⟩ = false := frozAt HFb.out 0
        have xf1 : w5.frozen? ⟨w.heap.size + 1, 1, none⟩ = false := frozAt HFb.out 1
        have xf2 : w5.frozen? ⟨w.heap.size + 1, 2, none⟩ = false := frozAt HFb.out 2
        have xf3 : w5.frozen? ⟨w.heap.size + 1, 3, none⟩ = false := frozAt HFb.out 3
        have xf4 : w5.frozen? ⟨w.heap.size + 1, 4, none⟩ = false := frozAt HFb.out 4
        have xf5 : w5.frozen? ⟨w.heap.size + 1, 5, none⟩ = false := frozAt HFb.out 5
        have xf6 : w5.frozen? ⟨w.heap.size + 1, 6, none⟩ = false := frozAt HFb.out 6
        have xf7 : w5.frozen? ⟨w.heap.size + 1, 7, none⟩ = false := frozAt HFb.out 7
        have xf8 : w5.frozen? ⟨w.heap.size + 1, 8, none⟩ = false := frozAt HFb.out 8
        have xf9 : w5.frozen? ⟨w.heap.size + 1, 9, none⟩ = false := frozAt HFb.out 9
        have HN := Lib.hid (FRS.put (FRS.mk HPb.out HFb.out HG8.out HPA.out HB1.out HS1.out) HP0.out hg8 (Only.setAll _ _ y) (FrB.setAll (show FrB w5 (w.heap.size + 1) x from HFb.out) y))
        go_wp2
        go_roundw
        case rel => exact ⟨j + 1, by go_num, hlt, by rw [HY.out]; exact HN.out⟩
        case measure => simp [intOf]; omega
      · obtain rfl : j = K := by omega
        rcases HK2.out with ⟨hk, h8, hg, hn, h0⟩ | ⟨hk, hg, hn, h5⟩
        · first
            | exact absurd h0 (by decide)
            | (subst hn
               have hst := fun (W : World) (h : RProg W c1 c2 c3 P) => step_any h (nthF P f j) (nthF_wf hf j)
               rw [show stepF P (nthF P f j) = (nthF P f (j + 1), errN P f j) from rfl, h8] at hst
               clear HK2 h8 h0 HCK HK1
               generalize nthF P f (j + 1) = y at hst
               rw [← hg] at hst HFb
               clear hg
               simp only [FrameV.agg, FrameV.cells] at hst
               have HST := Lib.hid hst
               clear hst
               go_upto_region 10 with fail
               refine Lx.region0 (by kernel_rfl) (by kernel_rfl) (fun Z hZ => ?_)
               (apply Lx.J.read 0); (case hi => (simp only [List.getElem?_toArray, List.getElem?_cons_zero, List.getElem?_cons_succ]; rfl)); (case hk => kernel_rfl); (case hr => kernel_rfl); (case ht => rfl); (case hw => rfl); (case hv => (intro w_ hw_; have P_ := (hw_.below.block _ (Array.getElem?_eq_some_iff.1 HPb.out).1).trans HPb.out; have q0 := cellAt P_ 0 rfl; have q1 := cellAt P_ 1 rfl; have q2 := cellAt P_ 2 rfl; clear P_; (go_simp <;> first | with_reducible rfl | exact ⟨rfl, rfl⟩))); (simp only [Act.put, List.setIfInBounds_toArray, List.set_cons_zero, List.set_cons_succ])
               (apply Lx.J.read 1); (case hi => (simp only [List.getElem?_toArray, List.getElem?_cons_zero, List.getElem?_cons_succ]; rfl)); (case hk => kernel_rfl); (case hr => kernel_rfl); (case ht => rfl); (case hw => rfl); (case hv => (intro w_ hw_; have P_ := (hw_.below.block _ (Array.getElem?_eq_some_iff.1 HFb.out).1).trans HFb.out; have c0 : w_.cell? ⟨w.heap.size + 1, 0, none⟩ = some (.int .i64 g.code) := cellAt P_ 0 rfl; have c1 : w_.cell? ⟨w.heap.size + 1, 1, none⟩ = some (.int .i64 g.pc) := cellAt P_ 1 rfl; have c2 : w_.cell? ⟨w.heap.size + 1, 2, none⟩ = some (.int .i64 (rg g.r 0)) := cellAt P_ 2 rfl; have c3 : w_.cell? ⟨w.heap.size + 1, 3, none⟩ = some (.int .i64 (rg g.r 1)) := cellAt P_ 3 rfl; have c4 : w_.cell? ⟨w.heap.size + 1, 4, none⟩ = some (.int .i64 (rg g.r 2)) := cellAt P_ 4 rfl; have c5 : w_.cell? ⟨w.heap.size + 1, 5, none⟩ = some (.int .i64 (rg g.r 3)) := cellAt P_ 5 rfl; have c6 : w_.cell? ⟨w.heap.size + 1, 6, none⟩ = some (.int .i64 (rg g.r 4)) := cellAt P_ 6 rfl; have c7 : w_.cell? ⟨w.heap.size + 1, 7, none⟩ = some (.int .i64 (rg g.r 5)) := cellAt P_ 7 rfl; have c8 : w_.cell? ⟨w.heap.size + 1, 8, none⟩ = some (.int .i64 (rg g.r 6)) := cellAt P_ 8 rfl; have c9 : w_.cell? ⟨w.heap.size + 1, 9, none⟩ = some (.int .i64 (rg g.r 7)) := cellAt P_ 9 rfl; clear P_; (go_simp <;> first | with_reducible rfl | exact ⟨rfl, rfl⟩))); (simp only [Act.put, List.setIfInBounds_toArray, List.set_cons_zero, List.set_cons_succ])
               (apply Lx.J.call 2); (case hi => (simp only [List.getElem?_toArray, List.getElem?_cons_zero, List.getElem?_cons_succ]; rfl)); (case hk => kernel_rfl); (case hr => kernel_rfl); (case ht => rfl); (case hw => rfl); (case hrun => (intro w_; (go_simp <;> first | with_reducible rfl | exact ⟨rfl, rfl⟩))); (case hc => (intro w_ hw_; with_reducible exact HST.out _ (HPA.out.keep hw_.below))); (simp only [Act.put, List.setIfInBounds_toArray, List.set_cons_zero, List.set_cons_succ])
               (apply Lx.J.pure 3); (case hi => (simp only [List.getElem?_toArray, List.getElem?_cons_zero, List.getElem?_cons_succ]; rfl)); (case hk => kernel_rfl); (case hr => kernel_rfl); (case ht => rfl); (case hw => rfl); (case hv => (intro w_ hw_; (go_simp <;> first | with_reducible rfl | exact ⟨rfl, rfl⟩))); (simp only [Act.put, List.setIfInBounds_toArray, List.set_cons_zero, List.set_cons_succ])
               (apply Lx.J.pure 4); (case hi => (simp only [List.getElem?_toArray, List.getElem?_cons_zero, List.getElem?_cons_succ]; rfl)); (case hk => kernel_rfl); (case hr => kernel_rfl); (case ht => rfl); (case hw => rfl); (case hv => (intro w_ hw_; (go_simp <;> first | with_reducible rfl | exact ⟨rfl, rfl⟩))); (simp only [Act.put, List.setIfInBounds_toArray, List.set_cons_zero, List.set_cons_succ])
               (apply Lx.J.pure 5); (case hi => (simp only [List.getElem?_toArray, List.getElem?_cons_zero, List.getElem?_cons_succ]; rfl)); (case hk => kernel_rfl); (case hr => kernel_rfl); (case ht => rfl); (case hw => rfl); (case hv => (intro w_ hw_; (go_simp <;> first | with_reducible rfl | exact ⟨rfl, rfl⟩))); (simp only [Act.put, List.setIfInBounds_toArray, List.set_cons_zero, List.set_cons_succ])
               (apply Lx.J.alloc 6); (case hi => (simp only [List.getElem?_toArray, List.getElem?_cons_zero, List.getElem?_cons_succ]; rfl)); (case hk => kernel_rfl); (case hr => kernel_rfl); (case ht => rfl); (case hw => rfl); (case hrun => (intro w_; (go_simp <;> first | with_reducible rfl | exact ⟨rfl, rfl⟩))); (simp only [Act.put, List.setIfInBounds_toArray, List.set_cons_zero, List.set_cons_succ])
               intro g12 hg12 _
               (apply Lx.J.store 7); (case hi => (simp only [List.getElem?_toArray, List.getElem?_cons_zero, List.getElem?_cons_succ]; rfl)); (case hk => kernel_rfl); (case hr => kernel_rfl); (case ht => rfl); (case hw => rfl); (case hG => exact fun _ _ h_ _ => h_); (case hg => exact Lx.St.upd_at _ _ _); (case hrun => (intro w_ hw_ hb_; exact storeFr y _ hb_ (fun c0 c1 c2 c3 c4 c5 c6 c7 c8 c9 d0 d1 d2 d3 d4 d5 d6 d7 d8 d9 => by (go_simp <;> first | with_reducible rfl | rfl)))); (simp only [Act.put, List.setIfInBounds_toArray, List.set_cons_zero, List.set_cons_succ])
               (apply Lx.J.pure 8); (case hi => (simp only [List.getElem?_toArray, List.getElem?_cons_zero, List.getElem?_cons_succ]; rfl)); (case hk => kernel_rfl); (case hr => kernel_rfl); (case ht => rfl); (case hw => rfl); (case hv => (intro w_ hw_; (go_simp <;> first | with_reducible rfl | exact ⟨rfl, rfl⟩))); (simp only [Act.put, List.setIfInBounds_toArray, List.set_cons_zero, List.set_cons_succ])
               refine Lx.J.done (by kernel_rfl) (hZ _ _ (fun w4 hw2 => ?_)) _; clear hZ Z; have hb_ := hw2.below
               replace HG8 := Lib.hid ((hw2.below.block _ (Array.getElem?_eq_some_iff.1 HG8.out).1).trans HG8.out)
               replace HPb := Lib.hid ((hw2.below.block _ (Array.getElem?_eq_some_iff.1 HPb.out).1).trans HPb.out); replace HFb := Lib.hid ((hw2.below.block _ (Array.getElem?_eq_some_iff.1 HFb.out).1).trans HFb.out); (replace HPA := Lib.hid (HPA.out.keep hb_)); (replace HB1 := Lib.hid (HB1.out.trans (hb_.mono (by have := HS1.out; omega)))); (replace HS1 := Lib.hid (Nat.le_trans HS1.out hb_.size))
               clear hw2 hb_
               have x0 : w4.cell? ⟨g8, 0, none⟩ = some (.int .i64 g.code) := cellAt HG8.out 0 rfl; have x1 : w4.cell? ⟨g8, 1, none⟩ = some (.int .i64 g.pc) := cellAt HG8.out 1 rfl; have x2 : w4.cell? ⟨g8, 2, none⟩ = some (.int .i64 (rg g.r 0)) := cellAt HG8.out 2 rfl; have x3 : w4.cell? ⟨g8, 3, none⟩ = some (.int .i64 (rg g.r 1)) := cellAt HG8.out 3 rfl; have x4 : w4.cell? ⟨g8, 4, none⟩ = some (.int .i64 (rg g.r 2)) := cellAt HG8.out 4 rfl; have x5 : w4.cell? ⟨g8, 5, none⟩ = some (.int .i64 (rg g.r 3)) := cellAt HG8.out 5 rfl; have x6 : w4.cell? ⟨g8, 6, none⟩ = some (.int .i64 (rg g.r 4)) := cellAt HG8.out 6 rfl; have x7 : w4.cell? ⟨g8, 7, none⟩ = some (.int .i64 (rg g.r 5)) := cellAt HG8.out 7 rfl; have x8 : w4.cell? ⟨g8, 8, none⟩ = some (.int .i64 (rg g.r 6)) := cellAt HG8.out 8 rfl; have x9 : w4.cell? ⟨g8, 9, none⟩ = some (.int .i64 (rg g.r 7)) := cellAt HG8.out 9 rfl
               have z0 : w4.cell? ⟨w.heap.size + 1, 0, none⟩ = some (.int .i64 g.code) := cellAt HFb.out 0 rfl; have z1 : w4.cell? ⟨w.heap.size + 1, 1, none⟩ = some (.int .i64 g.pc) := cellAt HFb.out 1 rfl; have z2 : w4.cell? ⟨w.heap.size + 1, 2, none⟩ = some (.int .i64 (rg g.r 0)) := cellAt HFb.out 2 rfl; have z3 : w4.cell? ⟨w.heap.size + 1, 3, none⟩ = some (.int .i64 (rg g.r 1)) := cellAt HFb.out 3 rfl; have z4 : w4.cell? ⟨w.heap.size + 1, 4, none⟩ = some (.int .i64 (rg g.r 2)) := cellAt HFb.out 4 rfl; have z5 : w4.cell? ⟨w.heap.size + 1, 5, none⟩ = some (.int .i64 (rg g.r 3)) := cellAt HFb.out 5 rfl; have z6 : w4.cell? ⟨w.heap.size + 1, 6, none⟩ = some (.int .i64 (rg g.r 4)) := cellAt HFb.out 6 rfl; have z7 : w4.cell? ⟨w.heap.size + 1, 7, none⟩ = some (.int .i64 (rg g.r 5)) := cellAt HFb.out 7 rfl; have z8 : w4.cell? ⟨w.heap.size + 1, 8, none⟩ = some (.int .i64 (rg g.r 6)) := cellAt HFb.out 8 rfl; have z9 : w4.cell? ⟨w.heap.size + 1, 9, none⟩ = some (.int .i64 (rg g.r 7)) := cellAt HFb.out 9 rfl
               have q47 := fun (d : Nat) => @eq_frame_same d
               (go_wp2_with (go_at_call 30; (with_reducible refine (HAL.out _).mono ?_); rintro e w' ⟨rfl, hbA⟩)); go_ret; exact ⟨rfl, HB1.out.trans (hbA.mono (by have := HS1.out; omega))⟩)
        · first
            | exact absurd h5 (by decide)
            | (have hgt : a % 3000 < (j : Int) := by omega
               (go_wp2_with (go_at_call 30; (with_reducible refine (HAL.out _).mono ?_); rintro e w' ⟨rfl, hbA⟩)); go_ret; exact ⟨rfl, HB1.out.trans (hbA.mono (by have := HS1.out; omega))⟩)
end Go.Proofs.Ytljfloopjgpaeaa
