/- tollbarlaw13.FrameMore: the walk. -/
import Derived.Test.YtljfloopjgpaeaaW
namespace Go.Proofs.Ytljfloopjgpaeaa
set_option linter.unusedVariables false
set_option linter.unusedSimpArgs false
open Go.RowKit
attribute [local go_sem] Oper.semAt_some
set_option maxRecDepth 100000

theorem cellAt {w : World} {B : Nat} {cs : Array Value} {t : Nat} {z : Nat × Nat} (h : w.heap[B]? = some (.cells cs t z)) (i : Nat) {v : Value} (hv : cs[i]? = some v) : w.cell? ⟨B, i, none⟩ = some v := by
  simp [World.cell?, h, hv]

/-! ### What Run tells -/
theorem firstBad {P : ProgV} {f : FrameV} : ∀ {m : Nat}, ¬ okTo P f m → ∃ k, k < m ∧ okTo P f k ∧ errN P f k ≠ 0
  | 0, h => absurd (fun i hi => absurd hi (Nat.not_lt_zero i)) h
  | m + 1, h => by
    by_cases hm : okTo P f m
    · refine ⟨m, Nat.lt_succ_self m, hm, fun he => h (fun i hi => ?_)⟩
      rcases Nat.lt_succ_iff_lt_or_eq.1 hi with hi | rfl
      · exact hm i hi
      · exact he
    · obtain ⟨k, h1, h2, h3⟩ := firstBad hm
      exact ⟨k, by omega, h2, h3⟩
theorem runF_zero {P : ProgV} {f : FrameV} {m : Int} (h : (runF P f m).2.2 = 0) :
    ∃ k : Nat, (k : Int) ≤ m ∧ m ≤ 65536 ∧ okTo P f k ∧ errN P f k = 8 ∧ atB P f.code f.pc = true ∧ runF P f m = (nthF P f k, (k : Int), 0) := by
  unfold runF at h ⊢
  split at h
  case isFalse => cases h
  case isTrue hc =>
    rw [if_pos hc]
    simp only [Bool.and_eq_true, decide_eq_true_eq] at hc
    obtain ⟨hat, h0, h1⟩ := hc
    by_cases hok : okTo P f (m.toNat + 1)
    · rw [runK_long (fun i hi => hok i (by omega)) (hok _ (Nat.lt_succ_self _))] at h
      cases h
    · obtain ⟨k, hk, ho, he⟩ := firstBad hok
      by_cases he8 : errN P f k = 8
      · exact ⟨k, by omega, h1, ho, he8, hat, runK_ends ho (by omega) he8⟩
      · rw [runK_err ho (by omega) he8 he] at h
        exact absurd h he
theorem runF_of {P : ProgV} {f : FrameV} {m : Int} {k : Nat} (h1 : (k : Int) ≤ m) (h2 : m ≤ 65536) (ho : okTo P f k) (he : errN P f k = 8) (hat : atB P f.code f.pc = true) : runF P f m = (nthF P f k, (k : Int), 0) := by
  unfold runF
  rw [if_pos (by simp [hat]; omega)]
  exact runK_ends ho (by omega) he
theorem errN_at {P : ProgV} {f : FrameV} {k : Nat} (h : errN P f k = 8) : atB P (nthF P f k).code (nthF P f k).pc = true := by
  unfold errN stepF at h
  split at h
  · rename_i hc
    simp only [Bool.and_eq_true] at hc
    exact hc.1
  · cases h
theorem runF_there {P : ProgV} {f : FrameV} {k : Nat} (h : errN P f k = 8) {b : Int} (h0 : 0 ≤ b) (h1 : b ≤ 65536) : runF P (nthF P f k) b = (nthF P f k, 0, 0) := by
  have := runF_of (P := P) (f := nthF P f k) (m := b) (k := 0) h0 h1 (fun i hi => absurd hi (Nat.not_lt_zero i)) (by exact h) (errN_at h)
  exact this

set_option maxHeartbeats 4000000 in
theorem frameMore_any {c1 c2 c3 : Value} {P : ProgV} {w : World} (h : RProg w c1 c2 c3 P) (f : FrameV) (hf : f.wf) (a b : Int) (ha : 0 ≤ a ∧ a ≤ 65535) (hb : 0 ≤ b ∧ b ≤ 65535) :
    Calls Try.prog 10 #[.agg #[c1, c2, c3], f.agg, .int .u16 a, .int .u16 b] w fun e w' => e = .returned (.bool true) ∧ Below w.heap.size w w' := by
  obtain ⟨g, n, e, hR⟩ : ∃ g n e, runF P f (a % 2000) = (g, n, e) := ⟨_, _, _, rfl⟩
  have hr := fun (W : World) (h : RProg W c1 c2 c3 P) => run_any h f hf (a % 2000)
  rw [hR] at hr
  simp only [FrameV.agg, FrameV.cells] at hr
  have HR1 := Lib.hid hr
  clear hr
  have HRR := Lib.hid hR
  clear hR
  have hal := fun W => alive13_any W
  have HAL := Lib.hid hal
  have hlo := fun (W : World) (h : RProg W c1 c2 c3 P) => long_any h
  have HLO := Lib.hid hlo
  have hsa := fun (W : World) (h : RProg W c1 c2 c3 P) => sane_any h
  have HSA := Lib.hid hsa
  clear hal hlo hsa
  unfold FrameV.agg FrameV.cells
  go_enter Try.func10, Try.ntmps10
  go_upto_region 1 with fail
  generalize hW1 : (w.alloc _).alloc _ = W1
  have HPb := Lib.hid (show W1.heap[w.heap.size]? = some (.cells #[c1, c2, c3] 44 (0, 0)) by rw [← hW1, alloc_heap?, if_neg (by simp only [World.size_alloc]; omega), alloc_heap?, if_pos rfl])
  have HFb := Lib.hid (show W1.heap[w.heap.size + 1]? = some (.cells f.cells 47 (0, 0)) by rw [← hW1, alloc_heap?, if_pos (by simp only [World.size_alloc])]; rfl)
  have HB1 := Lib.hid (show Below w.heap.size w W1 by rw [← hW1]; (repeat (first | with_reducible exact Below.refl _ _ | (with_reducible refine Below.setCell ?_ (by first | (simp; done) | (simp; omega) | omega) _) | (with_reducible refine Below.alloc ?_ (by first | (simp; done) | (simp; omega) | omega) _) | (with_reducible refine Below.drew ?_))))
  have HS1 := Lib.hid (show w.heap.size + 2 ≤ W1.heap.size by rw [← hW1]; simp only [World.size_alloc]; omega)
  have HPA := Lib.hid (h.keep HB1.out)
  clear hW1 h
  refine Lx.region0 (by kernel_rfl) (by kernel_rfl) (fun Z hZ => ?_)
  (apply Lx.J.read 0); (case hi => (simp only [List.getElem?_toArray, List.getElem?_cons_zero, List.getElem?_cons_succ]; rfl)); (case hk => kernel_rfl); (case hr => kernel_rfl); (case ht => rfl); (case hw => rfl); (case hv => (intro w_ hw_; have P_ := (hw_.below.block _ (Array.getElem?_eq_some_iff.1 HPb.out).1).trans HPb.out; have q0 := cellAt P_ 0 rfl; have q1 := cellAt P_ 1 rfl; have q2 := cellAt P_ 2 rfl; clear P_; (go_simp <;> first | with_reducible rfl | exact ⟨rfl, rfl⟩))); (simp only [Act.put, List.setIfInBounds_toArray, List.set_cons_zero, List.set_cons_succ])
  (apply Lx.J.callR 1 (fun v_ φ_ => (∃ b_ : Bool, v_ = .bool b_) ∧ φ_ = fun _ => True)); (case hi => (simp only [List.getElem?_toArray, List.getElem?_cons_zero, List.getElem?_cons_succ]; rfl)); (case hk => kernel_rfl); (case hr => kernel_rfl); (case ht => rfl); (case hw => rfl); (case hne => exact ⟨_, _, ⟨true, rfl⟩, rfl⟩); (case hst => (rintro _ _ ⟨_, rfl⟩; exact fun _ _ _ _ => trivial)); (case hrun => (intro w_; (go_simp <;> first | with_reducible rfl | exact ⟨rfl, rfl⟩))); (case hc => (intro w_ hw_; refine Calls.mono (HLO.out _ (HPA.out.keep hw_.below)) ?_; rintro e_ w2_ ⟨⟨b_, rfl⟩, hb_⟩; exact ⟨_, _, rfl, ⟨⟨b_, rfl⟩, rfl⟩, trivial, hb_⟩)); rintro _ _ ⟨⟨b_, rfl⟩, rfl⟩; (simp only [Act.put, List.setIfInBounds_toArray, List.set_cons_zero, List.set_cons_succ])
  (apply Lx.J.pure 2); (case hi => (simp only [List.getElem?_toArray, List.getElem?_cons_zero, List.getElem?_cons_succ]; rfl)); (case hk => kernel_rfl); (case hr => kernel_rfl); (case ht => rfl); (case hw => rfl); (case hv => (intro w_ hw_; (go_simp <;> first | with_reducible rfl | exact ⟨rfl, rfl⟩))); (simp only [Act.put, List.setIfInBounds_toArray, List.set_cons_zero, List.set_cons_succ])
  cases b_
  case true =>
    (apply Lx.J.skip 3); (case hi => (simp only [List.getElem?_toArray, List.getElem?_cons_zero, List.getElem?_cons_succ]; rfl)); (case hk => kernel_rfl); (case hr => kernel_rfl); (case hw => rfl); (simp only [Act.put, List.setIfInBounds_toArray, List.set_cons_zero, List.set_cons_succ])
    (apply Lx.J.skip 4); (case hi => (simp only [List.getElem?_toArray, List.getElem?_cons_zero, List.getElem?_cons_succ]; rfl)); (case hk => kernel_rfl); (case hr => kernel_rfl); (case hw => rfl); (simp only [Act.put, List.setIfInBounds_toArray, List.set_cons_zero, List.set_cons_succ])
    (apply Lx.J.skip 5); (case hi => (simp only [List.getElem?_toArray, List.getElem?_cons_zero, List.getElem?_cons_succ]; rfl)); (case hk => kernel_rfl); (case hr => kernel_rfl); (case hw => rfl); (simp only [Act.put, List.setIfInBounds_toArray, List.set_cons_zero, List.set_cons_succ])
    (apply Lx.J.pure 6); (case hi => (simp only [List.getElem?_toArray, List.getElem?_cons_zero, List.getElem?_cons_succ]; rfl)); (case hk => kernel_rfl); (case hr => kernel_rfl); (case ht => rfl); (case hw => rfl); (case hv => (intro w_ hw_; (go_simp <;> first | with_reducible rfl | exact ⟨rfl, rfl⟩))); (simp only [Act.put, List.setIfInBounds_toArray, List.set_cons_zero, List.set_cons_succ])
    refine Lx.J.done (by kernel_rfl) (hZ _ _ (fun w2 hw2 => ?_)) _; clear hZ Z; have hb_ := hw2.below
    replace HPb := Lib.hid ((hw2.below.block _ (Array.getElem?_eq_some_iff.1 HPb.out).1).trans HPb.out); replace HFb := Lib.hid ((hw2.below.block _ (Array.getElem?_eq_some_iff.1 HFb.out).1).trans HFb.out); (replace HPA := Lib.hid (HPA.out.keep hb_)); (replace HB1 := Lib.hid (HB1.out.trans (hb_.mono (by have := HS1.out; omega)))); (replace HS1 := Lib.hid (Nat.le_trans HS1.out hb_.size))
    clear hw2 hb_
    (go_wp2_with (go_at_call 30; (with_reducible refine (HAL.out _).mono ?_); rintro e w' ⟨rfl, hbA⟩)); go_ret; exact ⟨rfl, HB1.out.trans (hbA.mono (by have := HS1.out; omega))⟩
  (apply Lx.J.read 3); (case hi => (simp only [List.getElem?_toArray, List.getElem?_cons_zero, List.getElem?_cons_succ]; rfl)); (case hk => kernel_rfl); (case hr => kernel_rfl); (case ht => rfl); (case hw => rfl); (case hv => (intro w_ hw_; have P_ := (hw_.below.block _ (Array.getElem?_eq_some_iff.1 HPb.out).1).trans HPb.out; have q0 := cellAt P_ 0 rfl; have q1 := cellAt P_ 1 rfl; have q2 := cellAt P_ 2 rfl; clear P_; (go_simp <;> first | with_reducible rfl | exact ⟨rfl, rfl⟩))); (simp only [Act.put, List.setIfInBounds_toArray, List.set_cons_zero, List.set_cons_succ])
  (apply Lx.J.call 4); (case hi => (simp only [List.getElem?_toArray, List.getElem?_cons_zero, List.getElem?_cons_succ]; rfl)); (case hk => kernel_rfl); (case hr => kernel_rfl); (case ht => rfl); (case hw => rfl); (case hrun => (intro w_; (go_simp <;> first | with_reducible rfl | exact ⟨rfl, rfl⟩))); (case hc => (intro w_ hw_; exact HSA.out _ (HPA.out.keep hw_.below))); (simp only [Act.put, List.setIfInBounds_toArray, List.set_cons_zero, List.set_cons_succ])
  cases hsane : saneP P
  case false =>
    (apply Lx.J.pure 5); (case hi => (simp only [List.getElem?_toArray, List.getElem?_cons_zero, List.getElem?_cons_succ]; rfl)); (case hk => kernel_rfl); (case hr => kernel_rfl); (case ht => rfl); (case hw => rfl); (case hv => (intro w_ hw_; (go_simp <;> first | with_reducible rfl | exact ⟨rfl, rfl⟩))); (simp only [Act.put, List.setIfInBounds_toArray, List.set_cons_zero, List.set_cons_succ])
    (apply Lx.J.pure 6); (case hi => (simp only [List.getElem?_toArray, List.getElem?_cons_zero, List.getElem?_cons_succ]; rfl)); (case hk => kernel_rfl); (case hr => kernel_rfl); (case ht => rfl); (case hw => rfl); (case hv => (intro w_ hw_; (go_simp <;> first | with_reducible rfl | exact ⟨rfl, rfl⟩))); (simp only [Act.put, List.setIfInBounds_toArray, List.set_cons_zero, List.set_cons_succ])
    refine Lx.J.done (by kernel_rfl) (hZ _ _ (fun w2 hw2 => ?_)) _; clear hZ Z; have hb_ := hw2.below
    replace HPb := Lib.hid ((hw2.below.block _ (Array.getElem?_eq_some_iff.1 HPb.out).1).trans HPb.out); replace HFb := Lib.hid ((hw2.below.block _ (Array.getElem?_eq_some_iff.1 HFb.out).1).trans HFb.out); (replace HPA := Lib.hid (HPA.out.keep hb_)); (replace HB1 := Lib.hid (HB1.out.trans (hb_.mono (by have := HS1.out; omega)))); (replace HS1 := Lib.hid (Nat.le_trans HS1.out hb_.size))
    clear hw2 hb_
    (go_wp2_with (go_at_call 30; (with_reducible refine (HAL.out _).mono ?_); rintro e w' ⟨rfl, hbA⟩)); go_ret; exact ⟨rfl, HB1.out.trans (hbA.mono (by have := HS1.out; omega))⟩
  (apply Lx.J.pure 5); (case hi => (simp only [List.getElem?_toArray, List.getElem?_cons_zero, List.getElem?_cons_succ]; rfl)); (case hk => kernel_rfl); (case hr => kernel_rfl); (case ht => rfl); (case hw => rfl); (case hv => (intro w_ hw_; (go_simp <;> first | with_reducible rfl | exact ⟨rfl, rfl⟩))); (simp only [Act.put, List.setIfInBounds_toArray, List.set_cons_zero, List.set_cons_succ])
  (apply Lx.J.pure 6); (case hi => (simp only [List.getElem?_toArray, List.getElem?_cons_zero, List.getElem?_cons_succ]; rfl)); (case hk => kernel_rfl); (case hr => kernel_rfl); (case ht => rfl); (case hw => rfl); (case hv => (intro w_ hw_; (go_simp <;> first | with_reducible rfl | exact ⟨rfl, rfl⟩))); (simp only [Act.put, List.setIfInBounds_toArray, List.set_cons_zero, List.set_cons_succ])
  refine Lx.J.done (by kernel_rfl) (hZ _ _ (fun w2 hw2 => ?_)) _; clear hZ Z; have hb_ := hw2.below
  replace HPb := Lib.hid ((hw2.below.block _ (Array.getElem?_eq_some_iff.1 HPb.out).1).trans HPb.out); replace HFb := Lib.hid ((hw2.below.block _ (Array.getElem?_eq_some_iff.1 HFb.out).1).trans HFb.out); (replace HPA := Lib.hid (HPA.out.keep hb_)); (replace HB1 := Lib.hid (HB1.out.trans (hb_.mono (by have := HS1.out; omega)))); (replace HS1 := Lib.hid (Nat.le_trans HS1.out hb_.size))
  clear hw2 hb_
  go_upto_region 4 with fail
  refine Lx.region0 (by kernel_rfl) (by kernel_rfl) (fun Z hZ => ?_)
  (apply Lx.J.read 0); (case hi => (simp only [List.getElem?_toArray, List.getElem?_cons_zero, List.getElem?_cons_succ]; rfl)); (case hk => kernel_rfl); (case hr => kernel_rfl); (case ht => rfl); (case hw => rfl); (case hv => (intro w_ hw_; have P_ := (hw_.below.block _ (Array.getElem?_eq_some_iff.1 HPb.out).1).trans HPb.out; have q0 := cellAt P_ 0 rfl; have q1 := cellAt P_ 1 rfl; have q2 := cellAt P_ 2 rfl; clear P_; (go_simp <;> first | with_reducible rfl | exact ⟨rfl, rfl⟩))); (simp only [Act.put, List.setIfInBounds_toArray, List.set_cons_zero, List.set_cons_succ])
  (apply Lx.J.read 1); (case hi => (simp only [List.getElem?_toArray, List.getElem?_cons_zero, List.getElem?_cons_succ]; rfl)); (case hk => kernel_rfl); (case hr => kernel_rfl); (case ht => rfl); (case hw => rfl); (case hv => (intro w_ hw_; have P_ := (hw_.below.block _ (Array.getElem?_eq_some_iff.1 HFb.out).1).trans HFb.out; have c0 : w_.cell? ⟨w.heap.size + 1, 0, none⟩ = some (.int .i64 f.code) := cellAt P_ 0 rfl; have c1 : w_.cell? ⟨w.heap.size + 1, 1, none⟩ = some (.int .i64 f.pc) := cellAt P_ 1 rfl; have c2 : w_.cell? ⟨w.heap.size + 1, 2, none⟩ = some (.int .i64 (rg f.r 0)) := cellAt P_ 2 rfl; have c3 : w_.cell? ⟨w.heap.size + 1, 3, none⟩ = some (.int .i64 (rg f.r 1)) := cellAt P_ 3 rfl; have c4 : w_.cell? ⟨w.heap.size + 1, 4, none⟩ = some (.int .i64 (rg f.r 2)) := cellAt P_ 4 rfl; have c5 : w_.cell? ⟨w.heap.size + 1, 5, none⟩ = some (.int .i64 (rg f.r 3)) := cellAt P_ 5 rfl; have c6 : w_.cell? ⟨w.heap.size + 1, 6, none⟩ = some (.int .i64 (rg f.r 4)) := cellAt P_ 6 rfl; have c7 : w_.cell? ⟨w.heap.size + 1, 7, none⟩ = some (.int .i64 (rg f.r 5)) := cellAt P_ 7 rfl; have c8 : w_.cell? ⟨w.heap.size + 1, 8, none⟩ = some (.int .i64 (rg f.r 6)) := cellAt P_ 8 rfl; have c9 : w_.cell? ⟨w.heap.size + 1, 9, none⟩ = some (.int .i64 (rg f.r 7)) := cellAt P_ 9 rfl; clear P_; (go_simp <;> first | with_reducible rfl | exact ⟨rfl, rfl⟩))); (simp only [Act.put, List.setIfInBounds_toArray, List.set_cons_zero, List.set_cons_succ])
  (apply Lx.J.pure 2); (case hi => (simp only [List.getElem?_toArray, List.getElem?_cons_zero, List.getElem?_cons_succ]; rfl)); (case hk => kernel_rfl); (case hr => kernel_rfl); (case ht => rfl); (case hw => rfl); (case hv => (intro w_ hw_; (go_simp <;> first | with_reducible rfl | exact ⟨rfl, rfl⟩))); (simp only [Act.put, List.setIfInBounds_toArray, List.set_cons_zero, List.set_cons_succ])
  (apply Lx.J.call 3); (case hi => (simp only [List.getElem?_toArray, List.getElem?_cons_zero, List.getElem?_cons_succ]; rfl)); (case hk => kernel_rfl); (case hr => kernel_rfl); (case ht => rfl); (case hw => rfl); (case hrun => (intro w_; (go_simp <;> first | with_reducible rfl | exact ⟨rfl, rfl⟩))); (case hc => (intro w_ hw_; exact HR1.out _ (HPA.out.keep hw_.below))); (simp only [Act.put, List.setIfInBounds_toArray, List.set_cons_zero, List.set_cons_succ])
  (apply Lx.J.pure 4); (case hi => (simp only [List.getElem?_toArray, List.getElem?_cons_zero, List.getElem?_cons_succ]; rfl)); (case hk => kernel_rfl); (case hr => kernel_rfl); (case ht => rfl); (case hw => rfl); (case hv => (intro w_ hw_; (go_simp <;> first | with_reducible rfl | exact ⟨rfl, rfl⟩))); (simp only [Act.put, List.setIfInBounds_toArray, List.set_cons_zero, List.set_cons_succ])
  (apply Lx.J.pure 5); (case hi => (simp only [List.getElem?_toArray, List.getElem?_cons_zero, List.getElem?_cons_succ]; rfl)); (case hk => kernel_rfl); (case hr => kernel_rfl); (case ht => rfl); (case hw => rfl); (case hv => (intro w_ hw_; (go_simp <;> first | with_reducible rfl | exact ⟨rfl, rfl⟩))); (simp only [Act.put, List.setIfInBounds_toArray, List.set_cons_zero, List.set_cons_succ])
  (apply Lx.J.pure 6); (case hi => (simp only [List.getElem?_toArray, List.getElem?_cons_zero, List.getElem?_cons_succ]; rfl)); (case hk => kernel_rfl); (case hr => kernel_rfl); (case ht => rfl); (case hw => rfl); (case hv => (intro w_ hw_; (go_simp <;> first | with_reducible rfl | exact ⟨rfl, rfl⟩))); (simp only [Act.put, List.setIfInBounds_toArray, List.set_cons_zero, List.set_cons_succ])
  (apply Lx.J.pure 7); (case hi => (simp only [List.getElem?_toArray, List.getElem?_cons_zero, List.getElem?_cons_succ]; rfl)); (case hk => kernel_rfl); (case hr => kernel_rfl); (case ht => rfl); (case hw => rfl); (case hv => (intro w_ hw_; (go_simp <;> first | with_reducible rfl | exact ⟨rfl, rfl⟩))); (simp only [Act.put, List.setIfInBounds_toArray, List.set_cons_zero, List.set_cons_succ])
  (apply Lx.J.alloc 8); (case hi => (simp only [List.getElem?_toArray, List.getElem?_cons_zero, List.getElem?_cons_succ]; rfl)); (case hk => kernel_rfl); (case hr => kernel_rfl); (case ht => rfl); (case hw => rfl); (case hrun => (intro w_; (go_simp <;> first | with_reducible rfl | exact ⟨rfl, rfl⟩))); (simp only [Act.put, List.setIfInBounds_toArray, List.set_cons_zero, List.set_cons_succ])
  intro g10 hg10 _
  (apply Lx.J.store 9); (case hi => (simp only [List.getElem?_toArray, List.getElem?_cons_zero, List.getElem?_cons_succ]; rfl)); (case hk => kernel_rfl); (case hr => kernel_rfl); (case ht => rfl); (case hw => rfl); (case hG => exact fun _ _ h_ _ => h_); (case hg => exact Lx.St.upd_at _ _ _); (case hrun => (intro w_ hw_ hb_; exact storeFr g _ hb_ (fun c0 c1 c2 c3 c4 c5 c6 c7 c8 c9 d0 d1 d2 d3 d4 d5 d6 d7 d8 d9 => by (go_simp <;> first | with_reducible rfl | rfl)))); (simp only [Act.put, List.setIfInBounds_toArray, List.set_cons_zero, List.set_cons_succ])
  (apply Lx.J.pure 10); (case hi => (simp only [List.getElem?_toArray, List.getElem?_cons_zero, List.getElem?_cons_succ]; rfl)); (case hk => kernel_rfl); (case hr => kernel_rfl); (case ht => rfl); (case hw => rfl); (case hv => (intro w_ hw_; (go_simp <;> first | with_reducible rfl | exact ⟨rfl, rfl⟩))); (simp only [Act.put, List.setIfInBounds_toArray, List.set_cons_zero, List.set_cons_succ])
  (apply Lx.J.pure 11); (case hi => (simp only [List.getElem?_toArray, List.getElem?_cons_zero, List.getElem?_cons_succ]; rfl)); (case hk => kernel_rfl); (case hr => kernel_rfl); (case ht => rfl); (case hw => rfl); (case hv => (intro w_ hw_; (go_simp <;> first | with_reducible rfl | exact ⟨rfl, rfl⟩))); (simp only [Act.put, List.setIfInBounds_toArray, List.set_cons_zero, List.set_cons_succ])
  refine Lx.J.done (by kernel_rfl) (hZ _ _ (fun w3 hw2 => ?_)) _; clear hZ Z; have hb_ := hw2.below
  have HG10 := Lib.hid (hw2.holds g10 _ (Lx.St.upd_at _ _ _))
  replace HPb := Lib.hid ((hw2.below.block _ (Array.getElem?_eq_some_iff.1 HPb.out).1).trans HPb.out); replace HFb := Lib.hid ((hw2.below.block _ (Array.getElem?_eq_some_iff.1 HFb.out).1).trans HFb.out); (replace HPA := Lib.hid (HPA.out.keep hb_)); (replace HB1 := Lib.hid (HB1.out.trans (hb_.mono (by have := HS1.out; omega)))); (replace HS1 := Lib.hid (Nat.le_trans HS1.out hb_.size))
  clear hw2 hb_
  clear HR1
  by_cases he : e = 0
  case neg =>
    have hne : (e != 0) = true := by simpa using he
    clear he
    (go_wp2_with (go_at_call 30; (with_reducible refine (HAL.out _).mono ?_); rintro e w' ⟨rfl, hbA⟩)); go_ret; exact ⟨rfl, HB1.out.trans (hbA.mono (by have := HS1.out; omega))⟩
  subst he
  obtain ⟨k, hk1, hk2, hk3, hk4, hk5, hk6⟩ := runF_zero (P := P) (f := f) (m := a % 2000) (by rw [HRR.out])
  obtain ⟨rfl, rfl⟩ : nthF P f k = g ∧ (k : Int) = n := by rw [HRR.out] at hk6; simpa using hk6.symm
  have hr := fun (W : World) (h : RProg W c1 c2 c3 P) => run_any h f hf (a % 2000 + b % 2000)
  rw [runF_of (k := k) (by omega) (by omega) hk3 hk4 hk5] at hr
  simp only [FrameV.agg, FrameV.cells] at hr
  have HR2 := Lib.hid hr
  clear hr
  have hr := fun (W : World) (h : RProg W c1 c2 c3 P) => run_any h (nthF P f k) (nthF_wf hf k) (b % 2000)
  rw [runF_there hk4 (by omega) (by omega)] at hr
  generalize nthF P f k = g at *
  simp only [FrameV.agg, FrameV.cells] at hr
  have HR3 := Lib.hid hr
  clear hr HRR hk3 hk4 hk6
  go_upto_region 7 with fail
  have m1 : IntKind.i64.wrap b = b := IntWalk.i64_in _ (by omega)
  have m2 : b.tmod 2000 = b % 2000 := Int.tmod_eq_emod_of_nonneg hb.1
  have m3 : IntKind.i64.wrap (a % 2000 + b % 2000) = a % 2000 + b % 2000 := IntWalk.i64_in _ (by omega)
  refine Lx.region0 (by kernel_rfl) (by kernel_rfl) (fun Z hZ => ?_)
  (apply Lx.J.read 0); (case hi => (simp only [List.getElem?_toArray, List.getElem?_cons_zero, List.getElem?_cons_succ]; rfl)); (case hk => kernel_rfl); (case hr => kernel_rfl); (case ht => rfl); (case hw => rfl); (case hv => (intro w_ hw_; have P_ := (hw_.below.block _ (Array.getElem?_eq_some_iff.1 HPb.out).1).trans HPb.out; have q0 := cellAt P_ 0 rfl; have q1 := cellAt P_ 1 rfl; have q2 := cellAt P_ 2 rfl; clear P_; (go_simp <;> first | with_reducible rfl | exact ⟨rfl, rfl⟩))); (simp only [Act.put, List.setIfInBounds_toArray, List.set_cons_zero, List.set_cons_succ])
  (apply Lx.J.read 1); (case hi => (simp only [List.getElem?_toArray, List.getElem?_cons_zero, List.getElem?_cons_succ]; rfl)); (case hk => kernel_rfl); (case hr => kernel_rfl); (case ht => rfl); (case hw => rfl); (case hv => (intro w_ hw_; have P_ := (hw_.below.block _ (Array.getElem?_eq_some_iff.1 HFb.out).1).trans HFb.out; have c0 : w_.cell? ⟨w.heap.size + 1, 0, none⟩ = some (.int .i64 f.code) := cellAt P_ 0 rfl; have c1 : w_.cell? ⟨w.heap.size + 1, 1, none⟩ = some (.int .i64 f.pc) := cellAt P_ 1 rfl; have c2 : w_.cell? ⟨w.heap.size + 1, 2, none⟩ = some (.int .i64 (rg f.r 0)) := cellAt P_ 2 rfl; have c3 : w_.cell? ⟨w.heap.size + 1, 3, none⟩ = some (.int .i64 (rg f.r 1)) := cellAt P_ 3 rfl; have c4 : w_.cell? ⟨w.heap.size + 1, 4, none⟩ = some (.int .i64 (rg f.r 2)) := cellAt P_ 4 rfl; have c5 : w_.cell? ⟨w.heap.size + 1, 5, none⟩ = some (.int .i64 (rg f.r 3)) := cellAt P_ 5 rfl; have c6 : w_.cell? ⟨w.heap.size + 1, 6, none⟩ = some (.int .i64 (rg f.r 4)) := cellAt P_ 6 rfl; have c7 : w_.cell? ⟨w.heap.size + 1, 7, none⟩ = some (.int .i64 (rg f.r 5)) := cellAt P_ 7 rfl; have c8 : w_.cell? ⟨w.heap.size + 1, 8, none⟩ = some (.int .i64 (rg f.r 6)) := cellAt P_ 8 rfl; have c9 : w_.cell? ⟨w.heap.size + 1, 9, none⟩ = some (.int .i64 (rg f.r 7)) := cellAt P_ 9 rfl; clear P_; (go_simp <;> first | with_reducible rfl | exact ⟨rfl, rfl⟩))); (simp only [Act.put, List.setIfInBounds_toArray, List.set_cons_zero, List.set_cons_succ])
  (apply Lx.J.pure 2); (case hi => (simp only [List.getElem?_toArray, List.getElem?_cons_zero, List.getElem?_cons_succ]; rfl)); (case hk => kernel_rfl); (case hr => kernel_rfl); (case ht => rfl); (case hw => rfl); (case hv => (intro w_ hw_; (go_simp <;> first | with_reducible rfl | exact ⟨rfl, rfl⟩))); (simp only [Act.put, List.setIfInBounds_toArray, List.set_cons_zero, List.set_cons_succ])
  (apply Lx.J.pure 3); (case hi => (simp only [List.getElem?_toArray, List.getElem?_cons_zero, List.getElem?_cons_succ]; rfl)); (case hk => kernel_rfl); (case hr => kernel_rfl); (case ht => rfl); (case hw => rfl); (case hv => (intro w_ hw_; (go_simp <;> first | with_reducible rfl | exact ⟨rfl, rfl⟩))); (simp only [Act.put, List.setIfInBounds_toArray, List.set_cons_zero, List.set_cons_succ])
  (apply Lx.J.pure 4); (case hi => (simp only [List.getElem?_toArray, List.getElem?_cons_zero, List.getElem?_cons_succ]; rfl)); (case hk => kernel_rfl); (case hr => kernel_rfl); (case ht => rfl); (case hw => rfl); (case hv => (intro w_ hw_; (go_simp <;> first | with_reducible rfl | exact ⟨rfl, rfl⟩))); (simp only [Act.put, List.setIfInBounds_toArray, List.set_cons_zero, List.set_cons_succ])
  (apply Lx.J.pure 5); (case hi => (simp only [List.getElem?_toArray, List.getElem?_cons_zero, List.getElem?_cons_succ]; rfl)); (case hk => kernel_rfl); (case hr => kernel_rfl); (case ht => rfl); (case hw => rfl); (case hv => (intro w_ hw_; (go_simp <;> first | with_reducible rfl | exact ⟨rfl, rfl⟩))); (simp only [Act.put, List.setIfInBounds_toArray, List.set_cons_zero, List.set_cons_succ])
  (apply Lx.J.pure 6); (case hi => (simp only [List.getElem?_toArray, List.getElem?_cons_zero, List.getElem?_cons_succ]; rfl)); (case hk => kernel_rfl); (case hr => kernel_rfl); (case ht => rfl); (case hw => rfl); (case hv => (intro w_ hw_; (go_simp <;> first | with_reducible rfl | exact ⟨rfl, rfl⟩))); (simp only [Act.put, List.setIfInBounds_toArray, List.set_cons_zero, List.set_cons_succ])
  (apply Lx.J.call 7); (case hi => (simp only [List.getElem?_toArray, List.getElem?_cons_zero, List.getElem?_cons_succ]; rfl)); (case hk => kernel_rfl); (case hr => kernel_rfl); (case ht => rfl); (case hw => rfl); (case hrun => (intro w_; (go_simp <;> first | with_reducible rfl | exact ⟨rfl, rfl⟩))); (case hc => (intro w_ hw_; with_reducible exact HR2.out _ (HPA.out.keep hw_.below))); (simp only [Act.put, List.setIfInBounds_toArray, List.set_cons_zero, List.set_cons_succ])
  (apply Lx.J.pure 8); (case hi => (simp only [List.getElem?_toArray, List.getElem?_cons_zero, List.getElem?_cons_succ]; rfl)); (case hk => kernel_rfl); (case hr => kernel_rfl); (case ht => rfl); (case hw => rfl); (case hv => (intro w_ hw_; (go_simp <;> first | with_reducible rfl | exact ⟨rfl, rfl⟩))); (simp only [Act.put, List.setIfInBounds_toArray, List.set_cons_zero, List.set_cons_succ])
  (apply Lx.J.pure 9); (case hi => (simp only [List.getElem?_toArray, List.getElem?_cons_zero, List.getElem?_cons_succ]; rfl)); (case hk => kernel_rfl); (case hr => kernel_rfl); (case ht => rfl); (case hw => rfl); (case hv => (intro w_ hw_; (go_simp <;> first | with_reducible rfl | exact ⟨rfl, rfl⟩))); (simp only [Act.put, List.setIfInBounds_toArray, List.set_cons_zero, List.set_cons_succ])
  (apply Lx.J.pure 10); (case hi => (simp only [List.getElem?_toArray, List.getElem?_cons_zero, List.getElem?_cons_succ]; rfl)); (case hk => kernel_rfl); (case hr => kernel_rfl); (case ht => rfl); (case hw => rfl); (case hv => (intro w_ hw_; (go_simp <;> first | with_reducible rfl | exact ⟨rfl, rfl⟩))); (simp only [Act.put, List.setIfInBounds_toArray, List.set_cons_zero, List.set_cons_succ])
  (apply Lx.J.pure 11); (case hi => (simp only [List.getElem?_toArray, List.getElem?_cons_zero, List.getElem?_cons_succ]; rfl)); (case hk => kernel_rfl); (case hr => kernel_rfl); (case ht => rfl); (case hw => rfl); (case hv => (intro w_ hw_; (go_simp <;> first | with_reducible rfl | exact ⟨rfl, rfl⟩))); (simp only [Act.put, List.setIfInBounds_toArray, List.set_cons_zero, List.set_cons_succ])
  (apply Lx.J.alloc 12); (case hi => (simp only [List.getElem?_toArray, List.getElem?_cons_zero, List.getElem?_cons_succ]; rfl)); (case hk => kernel_rfl); (case hr => kernel_rfl); (case ht => rfl); (case hw => rfl); (case hrun => (intro w_; (go_simp <;> first | with_reducible rfl | exact ⟨rfl, rfl⟩))); (simp only [Act.put, List.setIfInBounds_toArray, List.set_cons_zero, List.set_cons_succ])
  intro g13 hg13 _
  (apply Lx.J.store 13); (case hi => (simp only [List.getElem?_toArray, List.getElem?_cons_zero, List.getElem?_cons_succ]; rfl)); (case hk => kernel_rfl); (case hr => kernel_rfl); (case ht => rfl); (case hw => rfl); (case hG => exact fun _ _ h_ _ => h_); (case hg => exact Lx.St.upd_at _ _ _); (case hrun => (intro w_ hw_ hb_; exact storeFr g _ hb_ (fun c0 c1 c2 c3 c4 c5 c6 c7 c8 c9 d0 d1 d2 d3 d4 d5 d6 d7 d8 d9 => by (go_simp <;> first | with_reducible rfl | rfl)))); (simp only [Act.put, List.setIfInBounds_toArray, List.set_cons_zero, List.set_cons_succ])
  (apply Lx.J.pure 14); (case hi => (simp only [List.getElem?_toArray, List.getElem?_cons_zero, List.getElem?_cons_succ]; rfl)); (case hk => kernel_rfl); (case hr => kernel_rfl); (case ht => rfl); (case hw => rfl); (case hv => (intro w_ hw_; (go_simp <;> first | with_reducible rfl | exact ⟨rfl, rfl⟩))); (simp only [Act.put, List.setIfInBounds_toArray, List.set_cons_zero, List.set_cons_succ])
  (apply Lx.J.pure 15); (case hi => (simp only [List.getElem?_toArray, List.getElem?_cons_zero, List.getElem?_cons_succ]; rfl)); (case hk => kernel_rfl); (case hr => kernel_rfl); (case ht => rfl); (case hw => rfl); (case hv => (intro w_ hw_; (go_simp <;> first | with_reducible rfl | exact ⟨rfl, rfl⟩))); (simp only [Act.put, List.setIfInBounds_toArray, List.set_cons_zero, List.set_cons_succ])
  refine Lx.J.done (by kernel_rfl) (hZ _ _ (fun w4 hw2 => ?_)) _; clear hZ Z; have hb_ := hw2.below
  have HG13 := Lib.hid (hw2.holds g13 _ (Lx.St.upd_at _ _ _))
  replace HG10 := Lib.hid ((hw2.below.block _ (Array.getElem?_eq_some_iff.1 HG10.out).1).trans HG10.out)
  replace HPb := Lib.hid ((hw2.below.block _ (Array.getElem?_eq_some_iff.1 HPb.out).1).trans HPb.out); replace HFb := Lib.hid ((hw2.below.block _ (Array.getElem?_eq_some_iff.1 HFb.out).1).trans HFb.out); (replace HPA := Lib.hid (HPA.out.keep hb_)); (replace HB1 := Lib.hid (HB1.out.trans (hb_.mono (by have := HS1.out; omega)))); (replace HS1 := Lib.hid (Nat.le_trans HS1.out hb_.size))
  clear hw2 hb_
  go_upto_region 8 with fail
  refine Lx.region0 (by kernel_rfl) (by kernel_rfl) (fun Z hZ => ?_)
  (apply Lx.J.read 0); (case hi => (simp only [List.getElem?_toArray, List.getElem?_cons_zero, List.getElem?_cons_succ]; rfl)); (case hk => kernel_rfl); (case hr => kernel_rfl); (case ht => rfl); (case hw => rfl); (case hv => (intro w_ hw_; have P_ := (hw_.below.block _ (Array.getElem?_eq_some_iff.1 HPb.out).1).trans HPb.out; have q0 := cellAt P_ 0 rfl; have q1 := cellAt P_ 1 rfl; have q2 := cellAt P_ 2 rfl; clear P_; (go_simp <;> first | with_reducible rfl | exact ⟨rfl, rfl⟩))); (simp only [Act.put, List.setIfInBounds_toArray, List.set_cons_zero, List.set_cons_succ])
  (apply Lx.J.read 1); (case hi => (simp only [List.getElem?_toArray, List.getElem?_cons_zero, List.getElem?_cons_succ]; rfl)); (case hk => kernel_rfl); (case hr => kernel_rfl); (case ht => rfl); (case hw => rfl); (case hv => (intro w_ hw_; have P_ := (hw_.below.block _ (Array.getElem?_eq_some_iff.1 HG10.out).1).trans HG10.out; have c0 : w_.cell? ⟨g10, 0, none⟩ = some (.int .i64 g.code) := cellAt P_ 0 rfl; have c1 : w_.cell? ⟨g10, 1, none⟩ = some (.int .i64 g.pc) := cellAt P_ 1 rfl; have c2 : w_.cell? ⟨g10, 2, none⟩ = some (.int .i64 (rg g.r 0)) := cellAt P_ 2 rfl; have c3 : w_.cell? ⟨g10, 3, none⟩ = some (.int .i64 (rg g.r 1)) := cellAt P_ 3 rfl; have c4 : w_.cell? ⟨g10, 4, none⟩ = some (.int .i64 (rg g.r 2)) := cellAt P_ 4 rfl; have c5 : w_.cell? ⟨g10, 5, none⟩ = some (.int .i64 (rg g.r 3)) := cellAt P_ 5 rfl; have c6 : w_.cell? ⟨g10, 6, none⟩ = some (.int .i64 (rg g.r 4)) := cellAt P_ 6 rfl; have c7 : w_.cell? ⟨g10, 7, none⟩ = some (.int .i64 (rg g.r 5)) := cellAt P_ 7 rfl; have c8 : w_.cell? ⟨g10, 8, none⟩ = some (.int .i64 (rg g.r 6)) := cellAt P_ 8 rfl; have c9 : w_.cell? ⟨g10, 9, none⟩ = some (.int .i64 (rg g.r 7)) := cellAt P_ 9 rfl; clear P_; (go_simp <;> first | with_reducible rfl | exact ⟨rfl, rfl⟩))); (simp only [Act.put, List.setIfInBounds_toArray, List.set_cons_zero, List.set_cons_succ])
  (apply Lx.J.pure 2); (case hi => (simp only [List.getElem?_toArray, List.getElem?_cons_zero, List.getElem?_cons_succ]; rfl)); (case hk => kernel_rfl); (case hr => kernel_rfl); (case ht => rfl); (case hw => rfl); (case hv => (intro w_ hw_; (go_simp <;> first | with_reducible rfl | exact ⟨rfl, rfl⟩))); (simp only [Act.put, List.setIfInBounds_toArray, List.set_cons_zero, List.set_cons_succ])
  (apply Lx.J.pure 3); (case hi => (simp only [List.getElem?_toArray, List.getElem?_cons_zero, List.getElem?_cons_succ]; rfl)); (case hk => kernel_rfl); (case hr => kernel_rfl); (case ht => rfl); (case hw => rfl); (case hv => (intro w_ hw_; (go_simp <;> first | with_reducible rfl | exact ⟨rfl, rfl⟩))); (simp only [Act.put, List.setIfInBounds_toArray, List.set_cons_zero, List.set_cons_succ])
  (apply Lx.J.pure 4); (case hi => (simp only [List.getElem?_toArray, List.getElem?_cons_zero, List.getElem?_cons_succ]; rfl)); (case hk => kernel_rfl); (case hr => kernel_rfl); (case ht => rfl); (case hw => rfl); (case hv => (intro w_ hw_; (go_simp <;> first | with_reducible rfl | exact ⟨rfl, rfl⟩))); (simp only [Act.put, List.setIfInBounds_toArray, List.set_cons_zero, List.set_cons_succ])
  (apply Lx.J.call 5); (case hi => (simp only [List.getElem?_toArray, List.getElem?_cons_zero, List.getElem?_cons_succ]; rfl)); (case hk => kernel_rfl); (case hr => kernel_rfl); (case ht => rfl); (case hw => rfl); (case hrun => (intro w_; (go_simp <;> first | with_reducible rfl | exact ⟨rfl, rfl⟩))); (case hc => (intro w_ hw_; with_reducible exact HR3.out _ (HPA.out.keep hw_.below))); (simp only [Act.put, List.setIfInBounds_toArray, List.set_cons_zero, List.set_cons_succ])
  (apply Lx.J.pure 6); (case hi => (simp only [List.getElem?_toArray, List.getElem?_cons_zero, List.getElem?_cons_succ]; rfl)); (case hk => kernel_rfl); (case hr => kernel_rfl); (case ht => rfl); (case hw => rfl); (case hv => (intro w_ hw_; (go_simp <;> first | with_reducible rfl | exact ⟨rfl, rfl⟩))); (simp only [Act.put, List.setIfInBounds_toArray, List.set_cons_zero, List.set_cons_succ])
  (apply Lx.J.pure 7); (case hi => (simp only [List.getElem?_toArray, List.getElem?_cons_zero, List.getElem?_cons_succ]; rfl)); (case hk => kernel_rfl); (case hr => kernel_rfl); (case ht => rfl); (case hw => rfl); (case hv => (intro w_ hw_; (go_simp <;> first | with_reducible rfl | exact ⟨rfl, rfl⟩))); (simp only [Act.put, List.setIfInBounds_toArray, List.set_cons_zero, List.set_cons_succ])
  (apply Lx.J.pure 8); (case hi => (simp only [List.getElem?_toArray, List.getElem?_cons_zero, List.getElem?_cons_succ]; rfl)); (case hk => kernel_rfl); (case hr => kernel_rfl); (case ht => rfl); (case hw => rfl); (case hv => (intro w_ hw_; (go_simp <;> first | with_reducible rfl | exact ⟨rfl, rfl⟩))); (simp only [Act.put, List.setIfInBounds_toArray, List.set_cons_zero, List.set_cons_succ])
  (apply Lx.J.pure 9); (case hi => (simp only [List.getElem?_toArray, List.getElem?_cons_zero, List.getElem?_cons_succ]; rfl)); (case hk => kernel_rfl); (case hr => kernel_rfl); (case ht => rfl); (case hw => rfl); (case hv => (intro w_ hw_; (go_simp <;> first | with_reducible rfl | exact ⟨rfl, rfl⟩))); (simp only [Act.put, List.setIfInBounds_toArray, List.set_cons_zero, List.set_cons_succ])
  (apply Lx.J.alloc 10); (case hi => (simp only [List.getElem?_toArray, List.getElem?_cons_zero, List.getElem?_cons_succ]; rfl)); (case hk => kernel_rfl); (case hr => kernel_rfl); (case ht => rfl); (case hw => rfl); (case hrun => (intro w_; (go_simp <;> first | with_reducible rfl | exact ⟨rfl, rfl⟩))); (simp only [Act.put, List.setIfInBounds_toArray, List.set_cons_zero, List.set_cons_succ])
  intro g16 hg16 _
  (apply Lx.J.store 11); (case hi => (simp only [List.getElem?_toArray, List.getElem?_cons_zero, List.getElem?_cons_succ]; rfl)); (case hk => kernel_rfl); (case hr => kernel_rfl); (case ht => rfl); (case hw => rfl); (case hG => exact fun _ _ h_ _ => h_); (case hg => exact Lx.St.upd_at _ _ _); (case hrun => (intro w_ hw_ hb_; exact storeFr g _ hb_ (fun c0 c1 c2 c3 c4 c5 c6 c7 c8 c9 d0 d1 d2 d3 d4 d5 d6 d7 d8 d9 => by (go_simp <;> first | with_reducible rfl | rfl)))); (simp only [Act.put, List.setIfInBounds_toArray, List.set_cons_zero, List.set_cons_succ])
  (apply Lx.J.pure 12); (case hi => (simp only [List.getElem?_toArray, List.getElem?_cons_zero, List.getElem?_cons_succ]; rfl)); (case hk => kernel_rfl); (case hr => kernel_rfl); (case ht => rfl); (case hw => rfl); (case hv => (intro w_ hw_; (go_simp <;> first | with_reducible rfl | exact ⟨rfl, rfl⟩))); (simp only [Act.put, List.setIfInBounds_toArray, List.set_cons_zero, List.set_cons_succ])
  (apply Lx.J.pure 13); (case hi => (simp only [List.getElem?_toArray, List.getElem?_cons_zero, List.getElem?_cons_succ]; rfl)); (case hk => kernel_rfl); (case hr => kernel_rfl); (case ht => rfl); (case hw => rfl); (case hv => (intro w_ hw_; (go_simp <;> first | with_reducible rfl | exact ⟨rfl, rfl⟩))); (simp only [Act.put, List.setIfInBounds_toArray, List.set_cons_zero, List.set_cons_succ])
  refine Lx.J.done (by kernel_rfl) (hZ _ _ (fun w5 hw2 => ?_)) _; clear hZ Z; have hb_ := hw2.below
  have HG16 := Lib.hid (hw2.holds g16 _ (Lx.St.upd_at _ _ _))
  replace HG10 := Lib.hid ((hw2.below.block _ (Array.getElem?_eq_some_iff.1 HG10.out).1).trans HG10.out)
  replace HG13 := Lib.hid ((hw2.below.block _ (Array.getElem?_eq_some_iff.1 HG13.out).1).trans HG13.out)
  replace HPb := Lib.hid ((hw2.below.block _ (Array.getElem?_eq_some_iff.1 HPb.out).1).trans HPb.out); replace HFb := Lib.hid ((hw2.below.block _ (Array.getElem?_eq_some_iff.1 HFb.out).1).trans HFb.out); (replace HPA := Lib.hid (HPA.out.keep hb_)); (replace HB1 := Lib.hid (HB1.out.trans (hb_.mono (by have := HS1.out; omega)))); (replace HS1 := Lib.hid (Nat.le_trans HS1.out hb_.size))
  clear hw2 hb_
  go_upto_region 9 with fail
  clear m1 m2 m3
  have x0 : w5.cell? ⟨g10, 0, none⟩ = some (.int .i64 g.code) := cellAt HG10.out 0 rfl; have x1 : w5.cell? ⟨g10, 1, none⟩ = some (.int .i64 g.pc) := cellAt HG10.out 1 rfl; have x2 : w5.cell? ⟨g10, 2, none⟩ = some (.int .i64 (rg g.r 0)) := cellAt HG10.out 2 rfl; have x3 : w5.cell? ⟨g10, 3, none⟩ = some (.int .i64 (rg g.r 1)) := cellAt HG10.out 3 rfl; have x4 : w5.cell? ⟨g10, 4, none⟩ = some (.int .i64 (rg g.r 2)) := cellAt HG10.out 4 rfl; have x5 : w5.cell? ⟨g10, 5, none⟩ = some (.int .i64 (rg g.r 3)) := cellAt HG10.out 5 rfl; have x6 : w5.cell? ⟨g10, 6, none⟩ = some (.int .i64 (rg g.r 4)) := cellAt HG10.out 6 rfl; have x7 : w5.cell? ⟨g10, 7, none⟩ = some (.int .i64 (rg g.r 5)) := cellAt HG10.out 7 rfl; have x8 : w5.cell? ⟨g10, 8, none⟩ = some (.int .i64 (rg g.r 6)) := cellAt HG10.out 8 rfl; have x9 : w5.cell? ⟨g10, 9, none⟩ = some (.int .i64 (rg g.r 7)) := cellAt HG10.out 9 rfl
  have y0 : w5.cell? ⟨g13, 0, none⟩ = some (.int .i64 g.code) := cellAt HG13.out 0 rfl; have y1 : w5.cell? ⟨g13, 1, none⟩ = some (.int .i64 g.pc) := cellAt HG13.out 1 rfl; have y2 : w5.cell? ⟨g13, 2, none⟩ = some (.int .i64 (rg g.r 0)) := cellAt HG13.out 2 rfl; have y3 : w5.cell? ⟨g13, 3, none⟩ = some (.int .i64 (rg g.r 1)) := cellAt HG13.out 3 rfl; have y4 : w5.cell? ⟨g13, 4, none⟩ = some (.int .i64 (rg g.r 2)) := cellAt HG13.out 4 rfl; have y5 : w5.cell? ⟨g13, 5, none⟩ = some (.int .i64 (rg g.r 3)) := cellAt HG13.out 5 rfl; have y6 : w5.cell? ⟨g13, 6, none⟩ = some (.int .i64 (rg g.r 4)) := cellAt HG13.out 6 rfl; have y7 : w5.cell? ⟨g13, 7, none⟩ = some (.int .i64 (rg g.r 5)) := cellAt HG13.out 7 rfl; have y8 : w5.cell? ⟨g13, 8, none⟩ = some (.int .i64 (rg g.r 6)) := cellAt HG13.out 8 rfl; have y9 : w5.cell? ⟨g13, 9, none⟩ = some (.int .i64 (rg g.r 7)) := cellAt HG13.out 9 rfl
  have z0 : w5.cell? ⟨g16, 0, none⟩ = some (.int .i64 g.code) := cellAt HG16.out 0 rfl; have z1 : w5.cell? ⟨g16, 1, none⟩ = some (.int .i64 g.pc) := cellAt HG16.out 1 rfl; have z2 : w5.cell? ⟨g16, 2, none⟩ = some (.int .i64 (rg g.r 0)) := cellAt HG16.out 2 rfl; have z3 : w5.cell? ⟨g16, 3, none⟩ = some (.int .i64 (rg g.r 1)) := cellAt HG16.out 3 rfl; have z4 : w5.cell? ⟨g16, 4, none⟩ = some (.int .i64 (rg g.r 2)) := cellAt HG16.out 4 rfl; have z5 : w5.cell? ⟨g16, 5, none⟩ = some (.int .i64 (rg g.r 3)) := cellAt HG16.out 5 rfl; have z6 : w5.cell? ⟨g16, 6, none⟩ = some (.int .i64 (rg g.r 4)) := cellAt HG16.out 6 rfl; have z7 : w5.cell? ⟨g16, 7, none⟩ = some (.int .i64 (rg g.r 5)) := cellAt HG16.out 7 rfl; have z8 : w5.cell? ⟨g16, 8, none⟩ = some (.int .i64 (rg g.r 6)) := cellAt HG16.out 8 rfl; have z9 : w5.cell? ⟨g16, 9, none⟩ = some (.int .i64 (rg g.r 7)) := cellAt HG16.out 9 rfl
  have q47 := fun (d : Nat) => @eq_frame_same d
  (go_wp2_with (go_at_call 30; (with_reducible refine (HAL.out _).mono ?_); rintro e w' ⟨rfl, hbA⟩)); go_ret; exact ⟨rfl, HB1.out.trans (hbA.mono (by have := HS1.out; omega))⟩
end Go.Proofs.Ytljfloopjgpaeaa
