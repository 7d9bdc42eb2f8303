/- tollbarlaw13.FrameTells: the walk, of a frame that may be: true. -/
import Derived.Test.YtljfloopjgpaeaaFT
import Derived.Test.YtljfloopjgpaeaaQD
namespace Go.Proofs.Ytljfloopjgpaeaa
set_option linter.unusedVariables false
set_option linter.unusedSimpArgs false
open Go.RowKit
attribute [local go_sem] Oper.semAt_some
set_option maxRecDepth 100000
set_option maxHeartbeats 60000000 in
theorem frameTells_true {c1 c2 c3 : Value} {P : ProgV} {w : World} (h : RProg w c1 c2 c3 P) (f : FrameV) (hf : f.wf) (most code : Int) (hm : ¬ (5000 < most ∧ most ≤ 65536)) (hat : atB P f.code f.pc = true) :
    Calls Try.prog 8 #[.agg #[c1, c2, c3], f.agg, .int .i64 most, .int .i64 code] w fun e w' => e = .returned (.bool true) ∧ Below w.heap.size w w' := by
  have HP0 := Lib.hid h
  have HAL := Lib.hid (fun W => alive13_any W)
  have HLO := Lib.hid (fun (W : World) (h : RProg W c1 c2 c3 P) => long_any h)
  have HSA := Lib.hid (fun (W : World) (h : RProg W c1 c2 c3 P) => sane_any h)
  have HSN := Lib.hid (fun (hs : saneP P = true) (W : World) (h : RProg W c1 c2 c3 P) => (⟨rStep_any h hs f hf, rRun_any h hs f hf most⟩ : _ ∧ _))
  have hck := fun (W : World) (h : RProg W c1 c2 c3 P) => fcheck_any h f.code f.pc (rg f.r 0) (rg f.r 1) (rg f.r 2) (rg f.r 3) (rg f.r 4) (rg f.r 5) (rg f.r 6) (rg f.r 7)
  have hat0 := fun (W : World) (h : RProg W c1 c2 c3 P) => fAt_any h f.code f.pc (rg f.r 0) (rg f.r 1) (rg f.r 2) (rg f.r 3) (rg f.r 4) (rg f.r 5) (rg f.r 6) (rg f.r 7)
  have hmay := fun (W : World) (h : RProg W c1 c2 c3 P) => rMay_any h f
  have hst := fun (W : World) (h : RProg W c1 c2 c3 P) => step_any h f hf
  have hrn := fun (W : World) (h : RProg W c1 c2 c3 P) => run_any h f hf most
  have hsp := fun (W : World) => spawn_any f code W
  have hbg := fun (W : World) => begin_any code W
  have hratx := fun (W : World) (h : RProg W c1 c2 c3 P) (hat : atB P f.code f.pc = true) => rAt_any h f hat
  rw [hat] at hck hat0 hmay
  have HRAX := Lib.hid (fun (W : World) (h : RProg W c1 c2 c3 P) => hratx W h hat)
  have hrax := HRAX.out
  clear hratx HRAX
  simp only [FrameV.agg, FrameV.cells, rg, List.getD_cons_zero, List.getD_cons_succ] at hbg
  obtain ⟨x, hx⟩ : ∃ x, atX P f.code f.pc = x := ⟨_, rfl⟩
  simp only [hx] at hat0 hrax
  clear hx hat
  obtain ⟨y, e, hy⟩ : ∃ y e, stepF P f = (y, e) := ⟨_, _, rfl⟩
  have hsn := HSN.out
  clear HSN
  rw [hy] at hst hsn
  obtain ⟨g, n, i, hg⟩ : ∃ g n i, runF P f most = (g, n, i) := ⟨_, _, _, rfl⟩
  rw [hg] at hrn hsn
  clear hy hg
  simp only [FrameV.agg, FrameV.cells, InsV.agg] at hck hat0 hmay hst hrn hsp hsn hrax
  have HCK := Lib.hid hck
  have HAT0 := Lib.hid hat0
  have HMAY := Lib.hid hmay
  have HST := Lib.hid hst
  have HRN := Lib.hid hrn
  have HSP := Lib.hid hsp
  have HBG := Lib.hid hbg
  have HSN := Lib.hid hsn
  have HRAX := Lib.hid hrax
  clear hck hat0 hmay hst hrn hsp hbg hsn h hf hrax
  have hcs : (decide (5000 < most) = false) ∨ (decide (5000 < most) = true ∧ decide (most ≤ 65536) = false) := by by_cases h1 : 5000 < most; (exact .inr ⟨by simpa using h1, by simp; omega⟩); (exact .inl (by simpa using h1))
  clear hm
  unfold FrameV.agg FrameV.cells
  go_enter Try.func8, Try.ntmps8
  go_upto_region 1 with fail
  generalize hW1 : (w.alloc _).alloc _ = W1
  have hB1 : Below w.heap.size w W1 := by rw [← hW1]; (repeat (first | with_reducible exact Below.refl _ _ | (with_reducible refine Below.setCell ?_ (by first | (simp; done) | (simp; omega) | omega) _) | (with_reducible refine Below.alloc ?_ (by first | (simp; done) | (simp; omega) | omega) _) | (with_reducible refine Below.drew ?_)))
  have hpb : W1.heap[w.heap.size]? = some (.cells #[c1, c2, c3] 44 (0, 0)) := by rw [← hW1, alloc_heap?, if_neg (by simp only [World.size_alloc]; omega), alloc_heap?, if_pos rfl]
  have hfb : W1.heap[w.heap.size + 1]? = some (.cells f.cells 47 (0, 0)) := by rw [← hW1, alloc_heap?, if_pos (by simp only [World.size_alloc])]; rfl
  have HIN := Lib.hid ((Lx.In.one hB1 hpb).put hfb)
  have HIV := Lib.hid ((Lx.Inv.nil w.heap.size).upd (Nat.le_refl _) (.cells #[c1, c2, c3] 44 (0, 0)) |>.upd (Nat.le_add_right _ 1) (.cells f.cells 47 (0, 0)))
  clear hfb hpb hB1 hW1
  have HW1 := Lib.hid HIN.out
  go_cut [36] (fun t wx => ∃ b : Bool, t = .bool b ∧ (b = false → saneP P = true) ∧ Lx.In w.heap.size w ((Lx.St.nil.upd w.heap.size (.cells #[c1, c2, c3] 44 (0, 0))).upd (w.heap.size + 1) (.cells f.cells 47 (0, 0))) wx)
  case first =>
    refine Lx.regionS0 (by kernel_rfl) (by kernel_rfl) HIN.out HIV.out (by simp only [List.size_toArray, List.length_cons, List.length_nil, Nat.reduceAdd]; rfl) (fun O Z hO hZ => ?_); have HO := Lib.hid hO; clear hO
    (apply Lx.J.read 0); (case hi => (rw [HO.out]; simp only [List.getElem?_toArray, List.getElem?_cons_zero, List.getElem?_cons_succ]; rfl)); (case hk => (rw [HO.out]; decide +kernel)); (case hr => (rw [HO.out]; decide +kernel)); (case ht => rfl); (case hw => (rw [HO.out]; rfl)); (case hv => (intro w_ hw_; have P_ := hw_.holds (w.heap.size) _ (by (repeat (first | exact Lx.St.upd_at _ _ _ | rw [Lx.St.upd_ne _ _ (by omega)] | rw [Lx.St.add_M]))); have q0 := cellAt P_ 0 rfl; have q1 := cellAt P_ 1 rfl; have q2 := cellAt P_ 2 rfl; clear P_; (go_simp <;> first | with_reducible rfl | exact ⟨rfl, rfl⟩))); (simp only [Act.put, List.setIfInBounds_toArray, List.set_cons_zero, List.set_cons_succ])
    (apply Lx.J.callR 1 (fun v_ φ_ => (∃ b_ : Bool, v_ = .bool b_) ∧ φ_ = fun _ => True)); (case hi => (rw [HO.out]; simp only [List.getElem?_toArray, List.getElem?_cons_zero, List.getElem?_cons_succ]; rfl)); (case hk => (rw [HO.out]; decide +kernel)); (case hr => (rw [HO.out]; decide +kernel)); (case ht => rfl); (case hw => (rw [HO.out]; rfl)); (case hne => exact ⟨_, _, ⟨true, rfl⟩, rfl⟩); (case hst => (rintro _ _ ⟨_, rfl⟩; exact fun _ _ _ _ => trivial)); (case hrun => (intro w_; (go_simp <;> first | with_reducible rfl | exact ⟨rfl, rfl⟩))); (case hc => (intro w_ hw_; refine Calls.mono (HLO.out _ (HP0.out.keep hw_.below)) ?_; rintro e_ w2_ ⟨⟨b_, rfl⟩, hb_⟩; exact ⟨_, _, rfl, ⟨⟨b_, rfl⟩, rfl⟩, trivial, hb_⟩)); rintro _ _ ⟨⟨b_, rfl⟩, rfl⟩; (simp only [Act.put, List.setIfInBounds_toArray, List.set_cons_zero, List.set_cons_succ])
    (apply Lx.J.pure 2); (case hi => (rw [HO.out]; simp only [List.getElem?_toArray, List.getElem?_cons_zero, List.getElem?_cons_succ]; rfl)); (case hk => (rw [HO.out]; decide +kernel)); (case hr => (rw [HO.out]; decide +kernel)); (case ht => rfl); (case hw => (rw [HO.out]; rfl)); (case hv => (intro w_ hw_; (go_simp <;> first | with_reducible rfl | exact ⟨rfl, rfl⟩))); (simp only [Act.put, List.setIfInBounds_toArray, List.set_cons_zero, List.set_cons_succ])
    cases b_
    case true =>
      (apply Lx.J.skip 3); (case hi => (rw [HO.out]; simp only [List.getElem?_toArray, List.getElem?_cons_zero, List.getElem?_cons_succ]; rfl)); (case hk => (rw [HO.out]; decide +kernel)); (case hr => (rw [HO.out]; decide +kernel)); (case hw => (rw [HO.out]; rfl)); (simp only [Act.put, List.setIfInBounds_toArray, List.set_cons_zero, List.set_cons_succ])
      (apply Lx.J.skip 4); (case hi => (rw [HO.out]; simp only [List.getElem?_toArray, List.getElem?_cons_zero, List.getElem?_cons_succ]; rfl)); (case hk => (rw [HO.out]; decide +kernel)); (case hr => (rw [HO.out]; decide +kernel)); (case hw => (rw [HO.out]; rfl)); (simp only [Act.put, List.setIfInBounds_toArray, List.set_cons_zero, List.set_cons_succ])
      (apply Lx.J.skip 5); (case hi => (rw [HO.out]; simp only [List.getElem?_toArray, List.getElem?_cons_zero, List.getElem?_cons_succ]; rfl)); (case hk => (rw [HO.out]; decide +kernel)); (case hr => (rw [HO.out]; decide +kernel)); (case hw => (rw [HO.out]; rfl)); (simp only [Act.put, List.setIfInBounds_toArray, List.set_cons_zero, List.set_cons_succ])
      (apply Lx.J.skip 6); (case hi => (rw [HO.out]; simp only [List.getElem?_toArray, List.getElem?_cons_zero, List.getElem?_cons_succ]; rfl)); (case hk => (rw [HO.out]; decide +kernel)); (case hr => (rw [HO.out]; decide +kernel)); (case hw => (rw [HO.out]; rfl)); (simp only [Act.put, List.setIfInBounds_toArray, List.set_cons_zero, List.set_cons_succ])
      (apply Lx.J.skip 7); (case hi => (rw [HO.out]; simp only [List.getElem?_toArray, List.getElem?_cons_zero, List.getElem?_cons_succ]; rfl)); (case hk => (rw [HO.out]; decide +kernel)); (case hr => (rw [HO.out]; decide +kernel)); (case hw => (rw [HO.out]; rfl)); (simp only [Act.put, List.setIfInBounds_toArray, List.set_cons_zero, List.set_cons_succ])
      (apply Lx.J.skip 8); (case hi => (rw [HO.out]; simp only [List.getElem?_toArray, List.getElem?_cons_zero, List.getElem?_cons_succ]; rfl)); (case hk => (rw [HO.out]; decide +kernel)); (case hr => (rw [HO.out]; decide +kernel)); (case hw => (rw [HO.out]; rfl)); (simp only [Act.put, List.setIfInBounds_toArray, List.set_cons_zero, List.set_cons_succ])
      (apply Lx.J.pure 9); (case hi => (rw [HO.out]; simp only [List.getElem?_toArray, List.getElem?_cons_zero, List.getElem?_cons_succ]; rfl)); (case hk => (rw [HO.out]; decide +kernel)); (case hr => (rw [HO.out]; decide +kernel)); (case ht => rfl); (case hw => (rw [HO.out]; rfl)); (case hv => (intro w_ hw_; (go_simp <;> first | with_reducible rfl | exact ⟨rfl, rfl⟩))); (simp only [Act.put, List.setIfInBounds_toArray, List.set_cons_zero, List.set_cons_succ])
      (apply Lx.J.pure 10); (case hi => (rw [HO.out]; simp only [List.getElem?_toArray, List.getElem?_cons_zero, List.getElem?_cons_succ]; rfl)); (case hk => (rw [HO.out]; decide +kernel)); (case hr => (rw [HO.out]; decide +kernel)); (case ht => rfl); (case hw => (rw [HO.out]; rfl)); (case hv => (intro w_ hw_; (go_simp <;> first | with_reducible rfl | exact ⟨rfl, rfl⟩))); (simp only [Act.put, List.setIfInBounds_toArray, List.set_cons_zero, List.set_cons_succ])
      (apply Lx.J.skip 11); (case hi => (rw [HO.out]; simp only [List.getElem?_toArray, List.getElem?_cons_zero, List.getElem?_cons_succ]; rfl)); (case hk => (rw [HO.out]; decide +kernel)); (case hr => (rw [HO.out]; decide +kernel)); (case hw => (rw [HO.out]; rfl)); (simp only [Act.put, List.setIfInBounds_toArray, List.set_cons_zero, List.set_cons_succ])
      (apply Lx.J.skip 12); (case hi => (rw [HO.out]; simp only [List.getElem?_toArray, List.getElem?_cons_zero, List.getElem?_cons_succ]; rfl)); (case hk => (rw [HO.out]; decide +kernel)); (case hr => (rw [HO.out]; decide +kernel)); (case hw => (rw [HO.out]; rfl)); (simp only [Act.put, List.setIfInBounds_toArray, List.set_cons_zero, List.set_cons_succ])
      (apply Lx.J.skip 13); (case hi => (rw [HO.out]; simp only [List.getElem?_toArray, List.getElem?_cons_zero, List.getElem?_cons_succ]; rfl)); (case hk => (rw [HO.out]; decide +kernel)); (case hr => (rw [HO.out]; decide +kernel)); (case hw => (rw [HO.out]; rfl)); (simp only [Act.put, List.setIfInBounds_toArray, List.set_cons_zero, List.set_cons_succ])
      (apply Lx.J.pure 14); (case hi => (rw [HO.out]; simp only [List.getElem?_toArray, List.getElem?_cons_zero, List.getElem?_cons_succ]; rfl)); (case hk => (rw [HO.out]; decide +kernel)); (case hr => (rw [HO.out]; decide +kernel)); (case ht => rfl); (case hw => (rw [HO.out]; rfl)); (case hv => (intro w_ hw_; (go_simp <;> first | with_reducible rfl | exact ⟨rfl, rfl⟩))); (simp only [Act.put, List.setIfInBounds_toArray, List.set_cons_zero, List.set_cons_succ])
      refine Lx.J.done (by rw [HO.out]; kernel_rfl) (fun hiv2 => hZ _ _ (fun w2 hw2 => ?_)) _; clear hZ Z HO O; replace HIN := Lib.hid hw2; replace HIV := Lib.hid hiv2; clear hw2 hiv2
      have hn := (Lx.In.one HIN.out.below (HIN.out.holds w.heap.size _ (by (repeat (first | exact Lx.St.upd_at _ _ _ | rw [Lx.St.upd_ne _ _ (by omega)] | rw [Lx.St.add_M]))))).put (HIN.out.holds (w.heap.size + 1) _ (by (repeat (first | exact Lx.St.upd_at _ _ _ | rw [Lx.St.upd_ne _ _ (by omega)] | rw [Lx.St.add_M]))))
      go_wp2
      go_meet
      exact ⟨true, rfl, (fun h => by cases h), hn⟩
    rcases hcs with hd1 | ⟨hd1, hd2⟩
    all_goals
      (apply Lx.J.pure 3); (case hi => (rw [HO.out]; simp only [List.getElem?_toArray, List.getElem?_cons_zero, List.getElem?_cons_succ]; rfl)); (case hk => (rw [HO.out]; decide +kernel)); (case hr => (rw [HO.out]; decide +kernel)); (case ht => rfl); (case hw => (rw [HO.out]; rfl)); (case hv => (intro w_ hw_; (go_simp <;> first | with_reducible rfl | exact ⟨rfl, rfl⟩))); (simp only [Act.put, List.setIfInBounds_toArray, List.set_cons_zero, List.set_cons_succ])
      (apply Lx.J.pure 4); (case hi => (rw [HO.out]; simp only [List.getElem?_toArray, List.getElem?_cons_zero, List.getElem?_cons_succ]; rfl)); (case hk => (rw [HO.out]; decide +kernel)); (case hr => (rw [HO.out]; decide +kernel)); (case ht => rfl); (case hw => (rw [HO.out]; rfl)); (case hv => (intro w_ hw_; (go_simp <;> first | with_reducible rfl | exact ⟨rfl, rfl⟩))); (simp only [Act.put, List.setIfInBounds_toArray, List.set_cons_zero, List.set_cons_succ])
      (apply Lx.J.pure 5); (case hi => (rw [HO.out]; simp only [List.getElem?_toArray, List.getElem?_cons_zero, List.getElem?_cons_succ]; rfl)); (case hk => (rw [HO.out]; decide +kernel)); (case hr => (rw [HO.out]; decide +kernel)); (case ht => rfl); (case hw => (rw [HO.out]; rfl)); (case hv => (intro w_ hw_; (go_simp <;> first | with_reducible rfl | exact ⟨rfl, rfl⟩))); (simp only [Act.put, List.setIfInBounds_toArray, List.set_cons_zero, List.set_cons_succ])
      first
        | ((apply Lx.J.skip 6); (case hi => (rw [HO.out]; simp only [List.getElem?_toArray, List.getElem?_cons_zero, List.getElem?_cons_succ]; rfl)); (case hk => (rw [HO.out]; decide +kernel)); (case hr => (rw [HO.out]; decide +kernel)); (case hw => (rw [HO.out]; rfl)); (simp only [Act.put, List.setIfInBounds_toArray, List.set_cons_zero, List.set_cons_succ]); (apply Lx.J.skip 7); (case hi => (rw [HO.out]; simp only [List.getElem?_toArray, List.getElem?_cons_zero, List.getElem?_cons_succ]; rfl)); (case hk => (rw [HO.out]; decide +kernel)); (case hr => (rw [HO.out]; decide +kernel)); (case hw => (rw [HO.out]; rfl)); (simp only [Act.put, List.setIfInBounds_toArray, List.set_cons_zero, List.set_cons_succ]))
        | ((apply Lx.J.pure 6); (case hi => (rw [HO.out]; simp only [List.getElem?_toArray, List.getElem?_cons_zero, List.getElem?_cons_succ]; rfl)); (case hk => (rw [HO.out]; decide +kernel)); (case hr => (rw [HO.out]; decide +kernel)); (case ht => rfl); (case hw => (rw [HO.out]; rfl)); (case hv => (intro w_ hw_; (go_simp <;> first | with_reducible rfl | exact ⟨rfl, rfl⟩))); (simp only [Act.put, List.setIfInBounds_toArray, List.set_cons_zero, List.set_cons_succ]); (apply Lx.J.pure 7); (case hi => (rw [HO.out]; simp only [List.getElem?_toArray, List.getElem?_cons_zero, List.getElem?_cons_succ]; rfl)); (case hk => (rw [HO.out]; decide +kernel)); (case hr => (rw [HO.out]; decide +kernel)); (case ht => rfl); (case hw => (rw [HO.out]; rfl)); (case hv => (intro w_ hw_; (go_simp <;> first | with_reducible rfl | exact ⟨rfl, rfl⟩))); (simp only [Act.put, List.setIfInBounds_toArray, List.set_cons_zero, List.set_cons_succ]))
      (apply Lx.J.pure 8); (case hi => (rw [HO.out]; simp only [List.getElem?_toArray, List.getElem?_cons_zero, List.getElem?_cons_succ]; rfl)); (case hk => (rw [HO.out]; decide +kernel)); (case hr => (rw [HO.out]; decide +kernel)); (case ht => rfl); (case hw => (rw [HO.out]; rfl)); (case hv => (intro w_ hw_; (go_simp <;> first | with_reducible rfl | exact ⟨rfl, rfl⟩))); (simp only [Act.put, List.setIfInBounds_toArray, List.set_cons_zero, List.set_cons_succ])
      (apply Lx.J.pure 9); (case hi => (rw [HO.out]; simp only [List.getElem?_toArray, List.getElem?_cons_zero, List.getElem?_cons_succ]; rfl)); (case hk => (rw [HO.out]; decide +kernel)); (case hr => (rw [HO.out]; decide +kernel)); (case ht => rfl); (case hw => (rw [HO.out]; rfl)); (case hv => (intro w_ hw_; (go_simp <;> first | with_reducible rfl | exact ⟨rfl, rfl⟩))); (simp only [Act.put, List.setIfInBounds_toArray, List.set_cons_zero, List.set_cons_succ])
      (apply Lx.J.pure 10); (case hi => (rw [HO.out]; simp only [List.getElem?_toArray, List.getElem?_cons_zero, List.getElem?_cons_succ]; rfl)); (case hk => (rw [HO.out]; decide +kernel)); (case hr => (rw [HO.out]; decide +kernel)); (case ht => rfl); (case hw => (rw [HO.out]; rfl)); (case hv => (intro w_ hw_; (go_simp <;> first | with_reducible rfl | exact ⟨rfl, rfl⟩))); (simp only [Act.put, List.setIfInBounds_toArray, List.set_cons_zero, List.set_cons_succ])
      (apply Lx.J.read 11); (case hi => (rw [HO.out]; simp only [List.getElem?_toArray, List.getElem?_cons_zero, List.getElem?_cons_succ]; rfl)); (case hk => (rw [HO.out]; decide +kernel)); (case hr => (rw [HO.out]; decide +kernel)); (case ht => rfl); (case hw => (rw [HO.out]; rfl)); (case hv => (intro w_ hw_; have P_ := hw_.holds (w.heap.size) _ (by (repeat (first | exact Lx.St.upd_at _ _ _ | rw [Lx.St.upd_ne _ _ (by omega)] | rw [Lx.St.add_M]))); have q0 := cellAt P_ 0 rfl; have q1 := cellAt P_ 1 rfl; have q2 := cellAt P_ 2 rfl; clear P_; (go_simp <;> first | with_reducible rfl | exact ⟨rfl, rfl⟩))); (simp only [Act.put, List.setIfInBounds_toArray, List.set_cons_zero, List.set_cons_succ])
      (apply Lx.J.call 12); (case hi => (rw [HO.out]; simp only [List.getElem?_toArray, List.getElem?_cons_zero, List.getElem?_cons_succ]; rfl)); (case hk => (rw [HO.out]; decide +kernel)); (case hr => (rw [HO.out]; decide +kernel)); (case ht => rfl); (case hw => (rw [HO.out]; rfl)); (case hrun => (intro w_; (go_simp <;> first | with_reducible rfl | exact ⟨rfl, rfl⟩))); (case hc => (intro w_ hw_; exact HSA.out _ (HP0.out.keep hw_.below))); (simp only [Act.put, List.setIfInBounds_toArray, List.set_cons_zero, List.set_cons_succ])
      cases hsane : saneP P
      case false =>
        (apply Lx.J.pure 13); (case hi => (rw [HO.out]; simp only [List.getElem?_toArray, List.getElem?_cons_zero, List.getElem?_cons_succ]; rfl)); (case hk => (rw [HO.out]; decide +kernel)); (case hr => (rw [HO.out]; decide +kernel)); (case ht => rfl); (case hw => (rw [HO.out]; rfl)); (case hv => (intro w_ hw_; (go_simp <;> first | with_reducible rfl | exact ⟨rfl, rfl⟩))); (simp only [Act.put, List.setIfInBounds_toArray, List.set_cons_zero, List.set_cons_succ])
        (apply Lx.J.pure 14); (case hi => (rw [HO.out]; simp only [List.getElem?_toArray, List.getElem?_cons_zero, List.getElem?_cons_succ]; rfl)); (case hk => (rw [HO.out]; decide +kernel)); (case hr => (rw [HO.out]; decide +kernel)); (case ht => rfl); (case hw => (rw [HO.out]; rfl)); (case hv => (intro w_ hw_; (go_simp <;> first | with_reducible rfl | exact ⟨rfl, rfl⟩))); (simp only [Act.put, List.setIfInBounds_toArray, List.set_cons_zero, List.set_cons_succ])
        refine Lx.J.done (by rw [HO.out]; kernel_rfl) (fun hiv2 => hZ _ _ (fun w2 hw2 => ?_)) _; clear hZ Z HO O; replace HIN := Lib.hid hw2; replace HIV := Lib.hid hiv2; clear hw2 hiv2
        have hn := (Lx.In.one HIN.out.below (HIN.out.holds w.heap.size _ (by (repeat (first | exact Lx.St.upd_at _ _ _ | rw [Lx.St.upd_ne _ _ (by omega)] | rw [Lx.St.add_M]))))).put (HIN.out.holds (w.heap.size + 1) _ (by (repeat (first | exact Lx.St.upd_at _ _ _ | rw [Lx.St.upd_ne _ _ (by omega)] | rw [Lx.St.add_M]))))
        go_wp2
        go_meet
        exact ⟨true, rfl, (fun h => by cases h), hn⟩
      (apply Lx.J.pure 13); (case hi => (rw [HO.out]; simp only [List.getElem?_toArray, List.getElem?_cons_zero, List.getElem?_cons_succ]; rfl)); (case hk => (rw [HO.out]; decide +kernel)); (case hr => (rw [HO.out]; decide +kernel)); (case ht => rfl); (case hw => (rw [HO.out]; rfl)); (case hv => (intro w_ hw_; (go_simp <;> first | with_reducible rfl | exact ⟨rfl, rfl⟩))); (simp only [Act.put, List.setIfInBounds_toArray, List.set_cons_zero, List.set_cons_succ])
      (apply Lx.J.pure 14); (case hi => (rw [HO.out]; simp only [List.getElem?_toArray, List.getElem?_cons_zero, List.getElem?_cons_succ]; rfl)); (case hk => (rw [HO.out]; decide +kernel)); (case hr => (rw [HO.out]; decide +kernel)); (case ht => rfl); (case hw => (rw [HO.out]; rfl)); (case hv => (intro w_ hw_; (go_simp <;> first | with_reducible rfl | exact ⟨rfl, rfl⟩))); (simp only [Act.put, List.setIfInBounds_toArray, List.set_cons_zero, List.set_cons_succ])
      refine Lx.J.done (by rw [HO.out]; kernel_rfl) (fun hiv2 => hZ _ _ (fun w2 hw2 => ?_)) _; clear hZ Z HO O; replace HIN := Lib.hid hw2; replace HIV := Lib.hid hiv2; clear hw2 hiv2
      have hn := (Lx.In.one HIN.out.below (HIN.out.holds w.heap.size _ (by (repeat (first | exact Lx.St.upd_at _ _ _ | rw [Lx.St.upd_ne _ _ (by omega)] | rw [Lx.St.add_M]))))).put (HIN.out.holds (w.heap.size + 1) _ (by (repeat (first | exact Lx.St.upd_at _ _ _ | rw [Lx.St.upd_ne _ _ (by omega)] | rw [Lx.St.add_M]))))
      go_wp2
      go_meet
      exact ⟨false, rfl, fun _ => hsane, hn⟩
  case rest =>
    clear HIN HW1 HLO HSA hcs
    obtain ⟨b_, rfl, hsane, hIN⟩ := hcut
    have HIN := Lib.hid hIN
    clear hIN
    cases b_
    case true =>
      clear hsane
      (go_wp2_with (go_at_call 30; (with_reducible refine (HAL.out _).mono ?_); rintro e w' ⟨rfl, hbA⟩)); go_ret; exact ⟨rfl, HIN.out.below.trans (hbA.mono (by have := HIN.out.below.size; omega))⟩
    have hsn2 := HSN.out (hsane rfl)
    have HS2 := Lib.hid hsn2
    clear hsn2 hsane HSN
    have hii := And.intro HIN.out HIV.out
    replace HIN := Lib.hid (show Lx.II w.heap.size w ((Lx.St.nil.upd w.heap.size (.cells #[c1, c2, c3] 44 (0, 0))).upd (w.heap.size + 1) (.cells #[.int .i64 f.code, .int .i64 f.pc, .int .i64 (rg f.r 0), .int .i64 (rg f.r 1), .int .i64 (rg f.r 2), .int .i64 (rg f.r 3), .int .i64 (rg f.r 4), .int .i64 (rg f.r 5), .int .i64 (rg f.r 6), .int .i64 (rg f.r 7)] 47 (0, 0))) _ from hii)
    clear hii HIV
    go_upto_region 3 with fail
    refine Lx.regionS0 (by kernel_rfl) (by kernel_rfl) HIN.out.1 HIN.out.2 (by simp only [List.size_toArray, List.length_cons, List.length_nil, Nat.reduceAdd]; rfl) (fun O Z hO hZ => ?_); have HO := Lib.hid hO; clear hO
    first
      | (apply Lx.kr HO 0; (case hx => exact ⟨rfl, rfl, rfl⟩); (case hk => decide +kernel); (case hv => intro w_ hw_; have P_ := hw_.holds (w.heap.size) _ (by (repeat (first | exact Lx.ua _ _ _ | rw [Lx.un _ _ (by omega)] | rw [Lx.am]))); obtain ⟨c0, c1, c2⟩ := Lx.cells3 P_; clear P_; (go_simp <;> first | with_reducible rfl | exact ⟨rfl, rfl⟩)); simp only [Act.put, Lx.p1, Lx.p2, Lx.p3])
    first
      | (apply Lx.kr HO 1; (case hx => exact ⟨rfl, rfl, rfl⟩); (case hk => decide +kernel); (case hv => intro w_ hw_; have P_ := hw_.holds (w.heap.size + 1) _ (by (repeat (first | exact Lx.ua _ _ _ | rw [Lx.un _ _ (by omega)] | rw [Lx.am]))); obtain ⟨c0, c1, c2, c3, c4, c5, c6, c7, c8, c9⟩ := Lx.cells10 P_; clear P_; (go_simp <;> first | with_reducible rfl | exact ⟨rfl, rfl⟩)); simp only [Act.put, Lx.p1, Lx.p2, Lx.p3])
    first
      | (apply Lx.kc HO 2; (case hx => exact ⟨rfl, rfl, rfl⟩); (case hk => decide +kernel); (case hrun => intro w_; (go_simp <;> first | with_reducible rfl | exact ⟨rfl, rfl⟩)); (case hc => intro w_ hw_; with_reducible exact HAT0.out _ (HP0.out.keep hw_.below)); simp only [Act.put, Lx.p1, Lx.p2, Lx.p3])
    first
      | (apply Lx.kp HO 3; (case hx => exact ⟨rfl, rfl, rfl⟩); (case hk => decide +kernel); (case hv => intro w_ hw_; (go_simp <;> first | with_reducible rfl | exact ⟨rfl, rfl⟩)); simp only [Act.put, Lx.p1, Lx.p2, Lx.p3])
    first
      | (apply Lx.kp HO 4; (case hx => exact ⟨rfl, rfl, rfl⟩); (case hk => decide +kernel); (case hv => intro w_ hw_; (go_simp <;> first | with_reducible rfl | exact ⟨rfl, rfl⟩)); simp only [Act.put, Lx.p1, Lx.p2, Lx.p3])
    first
      | (apply Lx.kp HO 5; (case hx => exact ⟨rfl, rfl, rfl⟩); (case hk => decide +kernel); (case hv => intro w_ hw_; (go_simp <;> first | with_reducible rfl | exact ⟨rfl, rfl⟩)); simp only [Act.put, Lx.p1, Lx.p2, Lx.p3])
    first
      | (apply Lx.ka HO 6; (case hx => exact ⟨rfl, rfl, rfl⟩); (case hk => decide +kernel); (case hrun => intro w_; (go_simp <;> first | with_reducible rfl | exact ⟨rfl, rfl⟩)); simp only [Act.put, Lx.p1, Lx.p2, Lx.p3])
    intro g8_1 hg_ hfr
    (repeat (first | (rw [Lx.St.add_M] at hfr) | (replace hfr := Lx.St.fresh_upd hfr; have n_ := hfr.1; replace hfr := hfr.2))); clear hfr
    first
      | (apply Lx.ks HO 7 (g := g8_1); (case hx => exact ⟨rfl, rfl, rfl⟩); (case hk => decide +kernel); (case hG => exact fun _ _ h_ _ => h_); (case hg => (repeat (first | exact Lx.ua _ _ _ | rw [Lx.un _ _ (by omega)] | rw [Lx.am]))); (case hrun => intro w_ hw_ hb_; obtain ⟨c0, c1, c2, c3, c4⟩ := Lx.cells5 hb_; obtain ⟨d0, d1, d2, d3, d4⟩ := Lx.froz5 hb_; refine ⟨?_, ?_, ?_, ?_⟩; rotate_left; (next => (go_simp <;> first | with_reducible rfl | rfl)); (next => (repeat (first | (with_reducible exact Lx.OnlyAt.refl _ _) | (with_reducible refine Lx.OnlyAt.set ?_ _ _)))); (next => (first | with_reducible exact Lx.sets10 hb_ | with_reducible exact Lx.sets5 hb_ | with_reducible exact Lx.sets3 hb_ | with_reducible exact Lx.sets2 hb_ | with_reducible exact Lx.sets4 hb_ | (simp [World.setCell, Array.getElem?_modify, hb_] <;> rfl)))); simp only [Act.put, Lx.p1, Lx.p2, Lx.p3])
    first
      | (apply Lx.kp HO 8; (case hx => exact ⟨rfl, rfl, rfl⟩); (case hk => decide +kernel); (case hv => intro w_ hw_; (go_simp <;> first | with_reducible rfl | exact ⟨rfl, rfl⟩)); simp only [Act.put, Lx.p1, Lx.p2, Lx.p3])
    refine Lx.kd HO (by kernel_rfl) (fun hiv2 => hZ _ _ (fun W2 hw2 => ?_))
    clear hZ Z HO O
    have hin_ := Lib.hid (And.intro hw2 hiv2 : Lx.II _ _ _ _)
    clear hw2 hiv2
    replace HIN := Lib.hid (Lx.tk hin_.out (Lx.tk hin_.out (Lx.tk hin_.out (Lx.II.nil hin_.out.1.below) (w.heap.size) (by (repeat (first | exact Lx.ua _ _ _ | rw [Lx.un _ _ (by omega)] | rw [Lx.am])))) (w.heap.size + 1) (by (repeat (first | exact Lx.ua _ _ _ | rw [Lx.un _ _ (by omega)] | rw [Lx.am])))) (g8_1) (by (repeat (first | exact Lx.ua _ _ _ | rw [Lx.un _ _ (by omega)] | rw [Lx.am]))))
    clear hin_
    go_upto_region 4 with fail
    refine Lx.regionS0 (by kernel_rfl) (by kernel_rfl) HIN.out.1 HIN.out.2 (by simp only [List.size_toArray, List.length_cons, List.length_nil, Nat.reduceAdd]; rfl) (fun O Z hO hZ => ?_); have HO := Lib.hid hO; clear hO
    first
      | (apply Lx.kp HO 0; (case hx => exact ⟨rfl, rfl, rfl⟩); (case hk => decide +kernel); (case hv => intro w_ hw_; (go_simp <;> first | with_reducible rfl | exact ⟨rfl, rfl⟩)); simp only [Act.put, Lx.p1, Lx.p2, Lx.p3])
    first
      | (apply Lx.ka HO 1; (case hx => exact ⟨rfl, rfl, rfl⟩); (case hk => decide +kernel); (case hrun => intro w_; (go_simp <;> first | with_reducible rfl | exact ⟨rfl, rfl⟩)); simp only [Act.put, Lx.p1, Lx.p2, Lx.p3])
    intro g8_2 hg_ hfr
    (repeat (first | (rw [Lx.St.add_M] at hfr) | (replace hfr := Lx.St.fresh_upd hfr; have n_ := hfr.1; replace hfr := hfr.2))); clear hfr
    first
      | (apply Lx.ks HO 2 (g := g8_2); (case hx => exact ⟨rfl, rfl, rfl⟩); (case hk => decide +kernel); (case hG => exact fun _ _ h_ _ => h_); (case hg => (repeat (first | exact Lx.ua _ _ _ | rw [Lx.un _ _ (by omega)] | rw [Lx.am]))); (case hrun => intro w_ hw_ hb_; obtain ⟨c0, c1, c2, c3, c4⟩ := Lx.cells5 hb_; obtain ⟨d0, d1, d2, d3, d4⟩ := Lx.froz5 hb_; refine ⟨?_, ?_, ?_, ?_⟩; rotate_left; (next => (go_simp <;> first | with_reducible rfl | rfl)); (next => (repeat (first | (with_reducible exact Lx.OnlyAt.refl _ _) | (with_reducible refine Lx.OnlyAt.set ?_ _ _)))); (next => (first | with_reducible exact Lx.sets10 hb_ | with_reducible exact Lx.sets5 hb_ | with_reducible exact Lx.sets3 hb_ | with_reducible exact Lx.sets2 hb_ | with_reducible exact Lx.sets4 hb_ | (simp [World.setCell, Array.getElem?_modify, hb_] <;> rfl)))); simp only [Act.put, Lx.p1, Lx.p2, Lx.p3])
    refine Lx.kd HO (by kernel_rfl) (fun hiv2 => hZ _ _ (fun W3 hw2 => ?_))
    clear hZ Z HO O
    have hin_ := Lib.hid (And.intro hw2 hiv2 : Lx.II _ _ _ _)
    clear hw2 hiv2
    replace HIN := Lib.hid (Lx.tk hin_.out (Lx.tk hin_.out (Lx.tk hin_.out (Lx.tk hin_.out (Lx.II.nil hin_.out.1.below) (w.heap.size) (by (repeat (first | exact Lx.ua _ _ _ | rw [Lx.un _ _ (by omega)] | rw [Lx.am])))) (w.heap.size + 1) (by (repeat (first | exact Lx.ua _ _ _ | rw [Lx.un _ _ (by omega)] | rw [Lx.am])))) (g8_1) (by (repeat (first | exact Lx.ua _ _ _ | rw [Lx.un _ _ (by omega)] | rw [Lx.am])))) (g8_2) (by (repeat (first | exact Lx.ua _ _ _ | rw [Lx.un _ _ (by omega)] | rw [Lx.am]))))
    clear hin_
    go_upto_region 5 with fail
    refine Lx.regionS0 (by kernel_rfl) (by kernel_rfl) HIN.out.1 HIN.out.2 (by simp only [List.size_toArray, List.length_cons, List.length_nil, Nat.reduceAdd]; rfl) (fun O Z hO hZ => ?_); have HO := Lib.hid hO; clear hO
    first
      | (apply Lx.kr HO 0; (case hx => exact ⟨rfl, rfl, rfl⟩); (case hk => decide +kernel); (case hv => intro w_ hw_; have P_ := hw_.holds (w.heap.size) _ (by (repeat (first | exact Lx.ua _ _ _ | rw [Lx.un _ _ (by omega)] | rw [Lx.am]))); obtain ⟨c0, c1, c2⟩ := Lx.cells3 P_; clear P_; (go_simp <;> first | with_reducible rfl | exact ⟨rfl, rfl⟩)); simp only [Act.put, Lx.p1, Lx.p2, Lx.p3])
    first
      | (apply Lx.kr HO 1; (case hx => exact ⟨rfl, rfl, rfl⟩); (case hk => decide +kernel); (case hv => intro w_ hw_; have P_ := hw_.holds (w.heap.size + 1) _ (by (repeat (first | exact Lx.ua _ _ _ | rw [Lx.un _ _ (by omega)] | rw [Lx.am]))); obtain ⟨c0, c1, c2, c3, c4, c5, c6, c7, c8, c9⟩ := Lx.cells10 P_; clear P_; (go_simp <;> first | with_reducible rfl | exact ⟨rfl, rfl⟩)); simp only [Act.put, Lx.p1, Lx.p2, Lx.p3])
    first
      | (apply Lx.kc HO 2; (case hx => exact ⟨rfl, rfl, rfl⟩); (case hk => decide +kernel); (case hrun => intro w_; (go_simp <;> first | with_reducible rfl | exact ⟨rfl, rfl⟩)); (case hc => intro w_ hw_; with_reducible exact HMAY.out _ (HP0.out.keep hw_.below)); simp only [Act.put, Lx.p1, Lx.p2, Lx.p3])
    refine Lx.kd HO (by kernel_rfl) (fun hiv2 => hZ _ _ (fun W4 hw2 => ?_))
    clear hZ Z HO O
    have hin_ := Lib.hid (And.intro hw2 hiv2 : Lx.II _ _ _ _)
    clear hw2 hiv2
    replace HIN := Lib.hid (Lx.tk hin_.out (Lx.tk hin_.out (Lx.tk hin_.out (Lx.tk hin_.out (Lx.II.nil hin_.out.1.below) (w.heap.size) (by (repeat (first | exact Lx.ua _ _ _ | rw [Lx.un _ _ (by omega)] | rw [Lx.am])))) (w.heap.size + 1) (by (repeat (first | exact Lx.ua _ _ _ | rw [Lx.un _ _ (by omega)] | rw [Lx.am])))) (g8_1) (by (repeat (first | exact Lx.ua _ _ _ | rw [Lx.un _ _ (by omega)] | rw [Lx.am])))) (g8_2) (by (repeat (first | exact Lx.ua _ _ _ | rw [Lx.un _ _ (by omega)] | rw [Lx.am]))))
    clear hin_
    go_upto_region 6 with fail
    refine Lx.regionS0 (by kernel_rfl) (by kernel_rfl) HIN.out.1 HIN.out.2 (by simp only [List.size_toArray, List.length_cons, List.length_nil, Nat.reduceAdd]; rfl) (fun O Z hO hZ => ?_); have HO := Lib.hid hO; clear hO
    first
      | (apply Lx.kr HO 0; (case hx => exact ⟨rfl, rfl, rfl⟩); (case hk => decide +kernel); (case hv => intro w_ hw_; have P_ := hw_.holds (w.heap.size) _ (by (repeat (first | exact Lx.ua _ _ _ | rw [Lx.un _ _ (by omega)] | rw [Lx.am]))); obtain ⟨c0, c1, c2⟩ := Lx.cells3 P_; clear P_; (go_simp <;> first | with_reducible rfl | exact ⟨rfl, rfl⟩)); simp only [Act.put, Lx.p1, Lx.p2, Lx.p3])
    first
      | (apply Lx.kr HO 1; (case hx => exact ⟨rfl, rfl, rfl⟩); (case hk => decide +kernel); (case hv => intro w_ hw_; have P_ := hw_.holds (w.heap.size + 1) _ (by (repeat (first | exact Lx.ua _ _ _ | rw [Lx.un _ _ (by omega)] | rw [Lx.am]))); obtain ⟨c0, c1, c2, c3, c4, c5, c6, c7, c8, c9⟩ := Lx.cells10 P_; clear P_; (go_simp <;> first | with_reducible rfl | exact ⟨rfl, rfl⟩)); simp only [Act.put, Lx.p1, Lx.p2, Lx.p3])
    first
      | (apply Lx.kc HO 2; (case hx => exact ⟨rfl, rfl, rfl⟩); (case hk => decide +kernel); (case hrun => intro w_; (go_simp <;> first | with_reducible rfl | exact ⟨rfl, rfl⟩)); (case hc => intro w_ hw_; with_reducible exact HRAX.out _ (HP0.out.keep hw_.below)); simp only [Act.put, Lx.p1, Lx.p2, Lx.p3])
    first
      | (apply Lx.ks HO 3 (g := g8_2); (case hx => exact ⟨rfl, rfl, rfl⟩); (case hk => decide +kernel); (case hG => exact fun _ _ h_ _ => h_); (case hg => (repeat (first | exact Lx.ua _ _ _ | rw [Lx.un _ _ (by omega)] | rw [Lx.am]))); (case hrun => intro w_ hw_ hb_; obtain ⟨c0, c1, c2, c3, c4⟩ := Lx.cells5 hb_; obtain ⟨d0, d1, d2, d3, d4⟩ := Lx.froz5 hb_; refine ⟨?_, ?_, ?_, ?_⟩; rotate_left; (next => (go_simp <;> first | with_reducible rfl | rfl)); (next => (repeat (first | (with_reducible exact Lx.OnlyAt.refl _ _) | (with_reducible refine Lx.OnlyAt.set ?_ _ _)))); (next => (first | with_reducible exact Lx.sets10 hb_ | with_reducible exact Lx.sets5 hb_ | with_reducible exact Lx.sets3 hb_ | with_reducible exact Lx.sets2 hb_ | with_reducible exact Lx.sets4 hb_ | (simp [World.setCell, Array.getElem?_modify, hb_] <;> rfl)))); simp only [Act.put, Lx.p1, Lx.p2, Lx.p3])
    refine Lx.kd HO (by kernel_rfl) (fun hiv2 => hZ _ _ (fun W5 hw2 => ?_))
    clear hZ Z HO O
    have hin_ := Lib.hid (And.intro hw2 hiv2 : Lx.II _ _ _ _)
    clear hw2 hiv2
    replace HIN := Lib.hid (Lx.tk hin_.out (Lx.tk hin_.out (Lx.tk hin_.out (Lx.tk hin_.out (Lx.II.nil hin_.out.1.below) (w.heap.size) (by (repeat (first | exact Lx.ua _ _ _ | rw [Lx.un _ _ (by omega)] | rw [Lx.am])))) (w.heap.size + 1) (by (repeat (first | exact Lx.ua _ _ _ | rw [Lx.un _ _ (by omega)] | rw [Lx.am])))) (g8_1) (by (repeat (first | exact Lx.ua _ _ _ | rw [Lx.un _ _ (by omega)] | rw [Lx.am])))) (g8_2) (by (repeat (first | exact Lx.ua _ _ _ | rw [Lx.un _ _ (by omega)] | rw [Lx.am]))))
    clear hin_
    go_upto_region 7 with fail
    refine Lx.regionS0 (by kernel_rfl) (by kernel_rfl) HIN.out.1 HIN.out.2 (by simp only [List.size_toArray, List.length_cons, List.length_nil, Nat.reduceAdd]; rfl) (fun O Z hO hZ => ?_); have HO := Lib.hid hO; clear hO
    first
      | (apply Lx.kr HO 0; (case hx => exact ⟨rfl, rfl, rfl⟩); (case hk => decide +kernel); (case hv => intro w_ hw_; have P_ := hw_.holds (w.heap.size) _ (by (repeat (first | exact Lx.ua _ _ _ | rw [Lx.un _ _ (by omega)] | rw [Lx.am]))); obtain ⟨c0, c1, c2⟩ := Lx.cells3 P_; clear P_; (go_simp <;> first | with_reducible rfl | exact ⟨rfl, rfl⟩)); simp only [Act.put, Lx.p1, Lx.p2, Lx.p3])
    first
      | (apply Lx.kr HO 1; (case hx => exact ⟨rfl, rfl, rfl⟩); (case hk => decide +kernel); (case hv => intro w_ hw_; have P_ := hw_.holds (w.heap.size + 1) _ (by (repeat (first | exact Lx.ua _ _ _ | rw [Lx.un _ _ (by omega)] | rw [Lx.am]))); obtain ⟨c0, c1, c2, c3, c4, c5, c6, c7, c8, c9⟩ := Lx.cells10 P_; clear P_; (go_simp <;> first | with_reducible rfl | exact ⟨rfl, rfl⟩)); simp only [Act.put, Lx.p1, Lx.p2, Lx.p3])
    first
      | (apply Lx.kc HO 2; (case hx => exact ⟨rfl, rfl, rfl⟩); (case hk => decide +kernel); (case hrun => intro w_; (go_simp <;> first | with_reducible rfl | exact ⟨rfl, rfl⟩)); (case hc => intro w_ hw_; with_reducible exact HST.out _ (HP0.out.keep hw_.below)); simp only [Act.put, Lx.p1, Lx.p2, Lx.p3])
    first
      | (apply Lx.kp HO 3; (case hx => exact ⟨rfl, rfl, rfl⟩); (case hk => decide +kernel); (case hv => intro w_ hw_; (go_simp <;> first | with_reducible rfl | exact ⟨rfl, rfl⟩)); simp only [Act.put, Lx.p1, Lx.p2, Lx.p3])
    first
      | (apply Lx.kp HO 4; (case hx => exact ⟨rfl, rfl, rfl⟩); (case hk => decide +kernel); (case hv => intro w_ hw_; (go_simp <;> first | with_reducible rfl | exact ⟨rfl, rfl⟩)); simp only [Act.put, Lx.p1, Lx.p2, Lx.p3])
    first
      | (apply Lx.kp HO 5; (case hx => exact ⟨rfl, rfl, rfl⟩); (case hk => decide +kernel); (case hv => intro w_ hw_; (go_simp <;> first | with_reducible rfl | exact ⟨rfl, rfl⟩)); simp only [Act.put, Lx.p1, Lx.p2, Lx.p3])
    first
      | (apply Lx.ka HO 6; (case hx => exact ⟨rfl, rfl, rfl⟩); (case hk => decide +kernel); (case hrun => intro w_; (go_simp <;> first | with_reducible rfl | exact ⟨rfl, rfl⟩)); simp only [Act.put, Lx.p1, Lx.p2, Lx.p3])
    intro g8_3 hg_ hfr
    (repeat (first | (rw [Lx.St.add_M] at hfr) | (replace hfr := Lx.St.fresh_upd hfr; have n_ := hfr.1; replace hfr := hfr.2))); clear hfr
    first
      | (apply Lx.ks HO 7 (g := g8_3); (case hx => exact ⟨rfl, rfl, rfl⟩); (case hk => decide +kernel); (case hG => exact fun _ _ h_ _ => h_); (case hg => (repeat (first | exact Lx.ua _ _ _ | rw [Lx.un _ _ (by omega)] | rw [Lx.am]))); (case hrun => intro w_ hw_ hb_; obtain ⟨c0, c1, c2, c3, c4, c5, c6, c7, c8, c9⟩ := Lx.cells10 hb_; obtain ⟨d0, d1, d2, d3, d4, d5, d6, d7, d8, d9⟩ := Lx.froz10 hb_; refine ⟨?_, ?_, ?_, ?_⟩; rotate_left; (next => (go_simp <;> first | with_reducible rfl | rfl)); (next => (repeat (first | (with_reducible exact Lx.OnlyAt.refl _ _) | (with_reducible refine Lx.OnlyAt.set ?_ _ _)))); (next => (first | with_reducible exact Lx.sets10 hb_ | with_reducible exact Lx.sets5 hb_ | with_reducible exact Lx.sets3 hb_ | with_reducible exact Lx.sets2 hb_ | with_reducible exact Lx.sets4 hb_ | (simp [World.setCell, Array.getElem?_modify, hb_] <;> rfl)))); simp only [Act.put, Lx.p1, Lx.p2, Lx.p3])
    first
      | (apply Lx.kp HO 8; (case hx => exact ⟨rfl, rfl, rfl⟩); (case hk => decide +kernel); (case hv => intro w_ hw_; (go_simp <;> first | with_reducible rfl | exact ⟨rfl, rfl⟩)); simp only [Act.put, Lx.p1, Lx.p2, Lx.p3])
    refine Lx.kd HO (by kernel_rfl) (fun hiv2 => hZ _ _ (fun W6 hw2 => ?_))
    clear hZ Z HO O
    have hin_ := Lib.hid (And.intro hw2 hiv2 : Lx.II _ _ _ _)
    clear hw2 hiv2
    replace HIN := Lib.hid (Lx.tk hin_.out (Lx.tk hin_.out (Lx.tk hin_.out (Lx.tk hin_.out (Lx.tk hin_.out (Lx.II.nil hin_.out.1.below) (w.heap.size) (by (repeat (first | exact Lx.ua _ _ _ | rw [Lx.un _ _ (by omega)] | rw [Lx.am])))) (w.heap.size + 1) (by (repeat (first | exact Lx.ua _ _ _ | rw [Lx.un _ _ (by omega)] | rw [Lx.am])))) (g8_1) (by (repeat (first | exact Lx.ua _ _ _ | rw [Lx.un _ _ (by omega)] | rw [Lx.am])))) (g8_2) (by (repeat (first | exact Lx.ua _ _ _ | rw [Lx.un _ _ (by omega)] | rw [Lx.am])))) (g8_3) (by (repeat (first | exact Lx.ua _ _ _ | rw [Lx.un _ _ (by omega)] | rw [Lx.am]))))
    clear hin_
    go_upto_region 8 with fail
    refine Lx.regionS0 (by kernel_rfl) (by kernel_rfl) HIN.out.1 HIN.out.2 (by simp only [List.size_toArray, List.length_cons, List.length_nil, Nat.reduceAdd]; rfl) (fun O Z hO hZ => ?_); have HO := Lib.hid hO; clear hO
    first
      | (apply Lx.kr HO 0; (case hx => exact ⟨rfl, rfl, rfl⟩); (case hk => decide +kernel); (case hv => intro w_ hw_; have P_ := hw_.holds (w.heap.size) _ (by (repeat (first | exact Lx.ua _ _ _ | rw [Lx.un _ _ (by omega)] | rw [Lx.am]))); obtain ⟨c0, c1, c2⟩ := Lx.cells3 P_; clear P_; (go_simp <;> first | with_reducible rfl | exact ⟨rfl, rfl⟩)); simp only [Act.put, Lx.p1, Lx.p2, Lx.p3])
    first
      | (apply Lx.kr HO 1; (case hx => exact ⟨rfl, rfl, rfl⟩); (case hk => decide +kernel); (case hv => intro w_ hw_; have P_ := hw_.holds (w.heap.size + 1) _ (by (repeat (first | exact Lx.ua _ _ _ | rw [Lx.un _ _ (by omega)] | rw [Lx.am]))); obtain ⟨c0, c1, c2, c3, c4, c5, c6, c7, c8, c9⟩ := Lx.cells10 P_; clear P_; (go_simp <;> first | with_reducible rfl | exact ⟨rfl, rfl⟩)); simp only [Act.put, Lx.p1, Lx.p2, Lx.p3])
    first
      | (apply Lx.kc HO 2; (case hx => exact ⟨rfl, rfl, rfl⟩); (case hk => decide +kernel); (case hrun => intro w_; (go_simp <;> first | with_reducible rfl | exact ⟨rfl, rfl⟩)); (case hc => intro w_ hw_; with_reducible exact (HS2.out _ (HP0.out.keep hw_.below)).1); simp only [Act.put, Lx.p1, Lx.p2, Lx.p3])
    first
      | (apply Lx.kp HO 3; (case hx => exact ⟨rfl, rfl, rfl⟩); (case hk => decide +kernel); (case hv => intro w_ hw_; (go_simp <;> first | with_reducible rfl | exact ⟨rfl, rfl⟩)); simp only [Act.put, Lx.p1, Lx.p2, Lx.p3])
    first
      | (apply Lx.kp HO 4; (case hx => exact ⟨rfl, rfl, rfl⟩); (case hk => decide +kernel); (case hv => intro w_ hw_; (go_simp <;> first | with_reducible rfl | exact ⟨rfl, rfl⟩)); simp only [Act.put, Lx.p1, Lx.p2, Lx.p3])
    first
      | (apply Lx.kp HO 5; (case hx => exact ⟨rfl, rfl, rfl⟩); (case hk => decide +kernel); (case hv => intro w_ hw_; (go_simp <;> first | with_reducible rfl | exact ⟨rfl, rfl⟩)); simp only [Act.put, Lx.p1, Lx.p2, Lx.p3])
    first
      | (apply Lx.ka HO 6; (case hx => exact ⟨rfl, rfl, rfl⟩); (case hk => decide +kernel); (case hrun => intro w_; (go_simp <;> first | with_reducible rfl | exact ⟨rfl, rfl⟩)); simp only [Act.put, Lx.p1, Lx.p2, Lx.p3])
    intro g8_4 hg_ hfr
    (repeat (first | (rw [Lx.St.add_M] at hfr) | (replace hfr := Lx.St.fresh_upd hfr; have n_ := hfr.1; replace hfr := hfr.2))); clear hfr
    first
      | (apply Lx.ks HO 7 (g := g8_4); (case hx => exact ⟨rfl, rfl, rfl⟩); (case hk => decide +kernel); (case hG => exact fun _ _ h_ _ => h_); (case hg => (repeat (first | exact Lx.ua _ _ _ | rw [Lx.un _ _ (by omega)] | rw [Lx.am]))); (case hrun => intro w_ hw_ hb_; obtain ⟨c0, c1, c2, c3, c4, c5, c6, c7, c8, c9⟩ := Lx.cells10 hb_; obtain ⟨d0, d1, d2, d3, d4, d5, d6, d7, d8, d9⟩ := Lx.froz10 hb_; refine ⟨?_, ?_, ?_, ?_⟩; rotate_left; (next => (go_simp <;> first | with_reducible rfl | rfl)); (next => (repeat (first | (with_reducible exact Lx.OnlyAt.refl _ _) | (with_reducible refine Lx.OnlyAt.set ?_ _ _)))); (next => (first | with_reducible exact Lx.sets10 hb_ | with_reducible exact Lx.sets5 hb_ | with_reducible exact Lx.sets3 hb_ | with_reducible exact Lx.sets2 hb_ | with_reducible exact Lx.sets4 hb_ | (simp [World.setCell, Array.getElem?_modify, hb_] <;> rfl)))); simp only [Act.put, Lx.p1, Lx.p2, Lx.p3])
    first
      | (apply Lx.kp HO 8; (case hx => exact ⟨rfl, rfl, rfl⟩); (case hk => decide +kernel); (case hv => intro w_ hw_; (go_simp <;> first | with_reducible rfl | exact ⟨rfl, rfl⟩)); simp only [Act.put, Lx.p1, Lx.p2, Lx.p3])
    refine Lx.kd HO (by kernel_rfl) (fun hiv2 => hZ _ _ (fun W7 hw2 => ?_))
    clear hZ Z HO O
    have hin_ := Lib.hid (And.intro hw2 hiv2 : Lx.II _ _ _ _)
    clear hw2 hiv2
    replace HIN := Lib.hid (Lx.tk hin_.out (Lx.tk hin_.out (Lx.tk hin_.out (Lx.tk hin_.out (Lx.tk hin_.out (Lx.tk hin_.out (Lx.II.nil hin_.out.1.below) (w.heap.size) (by (repeat (first | exact Lx.ua _ _ _ | rw [Lx.un _ _ (by omega)] | rw [Lx.am])))) (w.heap.size + 1) (by (repeat (first | exact Lx.ua _ _ _ | rw [Lx.un _ _ (by omega)] | rw [Lx.am])))) (g8_1) (by (repeat (first | exact Lx.ua _ _ _ | rw [Lx.un _ _ (by omega)] | rw [Lx.am])))) (g8_2) (by (repeat (first | exact Lx.ua _ _ _ | rw [Lx.un _ _ (by omega)] | rw [Lx.am])))) (g8_3) (by (repeat (first | exact Lx.ua _ _ _ | rw [Lx.un _ _ (by omega)] | rw [Lx.am])))) (g8_4) (by (repeat (first | exact Lx.ua _ _ _ | rw [Lx.un _ _ (by omega)] | rw [Lx.am]))))
    clear hin_
    go_upto_region 9 with fail
    refine Lx.regionS0 (by kernel_rfl) (by kernel_rfl) HIN.out.1 HIN.out.2 (by simp only [List.size_toArray, List.length_cons, List.length_nil, Nat.reduceAdd]; rfl) (fun O Z hO hZ => ?_); have HO := Lib.hid hO; clear hO
    first
      | (apply Lx.kr HO 0; (case hx => exact ⟨rfl, rfl, rfl⟩); (case hk => decide +kernel); (case hv => intro w_ hw_; have P_ := hw_.holds (w.heap.size) _ (by (repeat (first | exact Lx.ua _ _ _ | rw [Lx.un _ _ (by omega)] | rw [Lx.am]))); obtain ⟨c0, c1, c2⟩ := Lx.cells3 P_; clear P_; (go_simp <;> first | with_reducible rfl | exact ⟨rfl, rfl⟩)); simp only [Act.put, Lx.p1, Lx.p2, Lx.p3])
    first
      | (apply Lx.kr HO 1; (case hx => exact ⟨rfl, rfl, rfl⟩); (case hk => decide +kernel); (case hv => intro w_ hw_; have P_ := hw_.holds (w.heap.size + 1) _ (by (repeat (first | exact Lx.ua _ _ _ | rw [Lx.un _ _ (by omega)] | rw [Lx.am]))); obtain ⟨c0, c1, c2, c3, c4, c5, c6, c7, c8, c9⟩ := Lx.cells10 P_; clear P_; (go_simp <;> first | with_reducible rfl | exact ⟨rfl, rfl⟩)); simp only [Act.put, Lx.p1, Lx.p2, Lx.p3])
    first
      | (apply Lx.kp HO 2; (case hx => exact ⟨rfl, rfl, rfl⟩); (case hk => decide +kernel); (case hv => intro w_ hw_; (go_simp <;> first | with_reducible rfl | exact ⟨rfl, rfl⟩)); simp only [Act.put, Lx.p1, Lx.p2, Lx.p3])
    first
      | (apply Lx.kc HO 3; (case hx => exact ⟨rfl, rfl, rfl⟩); (case hk => decide +kernel); (case hrun => intro w_; (go_simp <;> first | with_reducible rfl | exact ⟨rfl, rfl⟩)); (case hc => intro w_ hw_; with_reducible exact HRN.out _ (HP0.out.keep hw_.below)); simp only [Act.put, Lx.p1, Lx.p2, Lx.p3])
    first
      | (apply Lx.kp HO 4; (case hx => exact ⟨rfl, rfl, rfl⟩); (case hk => decide +kernel); (case hv => intro w_ hw_; (go_simp <;> first | with_reducible rfl | exact ⟨rfl, rfl⟩)); simp only [Act.put, Lx.p1, Lx.p2, Lx.p3])
    first
      | (apply Lx.kp HO 5; (case hx => exact ⟨rfl, rfl, rfl⟩); (case hk => decide +kernel); (case hv => intro w_ hw_; (go_simp <;> first | with_reducible rfl | exact ⟨rfl, rfl⟩)); simp only [Act.put, Lx.p1, Lx.p2, Lx.p3])
    first
      | (apply Lx.kp HO 6; (case hx => exact ⟨rfl, rfl, rfl⟩); (case hk => decide +kernel); (case hv => intro w_ hw_; (go_simp <;> first | with_reducible rfl | exact ⟨rfl, rfl⟩)); simp only [Act.put, Lx.p1, Lx.p2, Lx.p3])
    first
      | (apply Lx.kp HO 7; (case hx => exact ⟨rfl, rfl, rfl⟩); (case hk => decide +kernel); (case hv => intro w_ hw_; (go_simp <;> first | with_reducible rfl | exact ⟨rfl, rfl⟩)); simp only [Act.put, Lx.p1, Lx.p2, Lx.p3])
    first
      | (apply Lx.ka HO 8; (case hx => exact ⟨rfl, rfl, rfl⟩); (case hk => decide +kernel); (case hrun => intro w_; (go_simp <;> first | with_reducible rfl | exact ⟨rfl, rfl⟩)); simp only [Act.put, Lx.p1, Lx.p2, Lx.p3])
    intro g8_5 hg_ hfr
    (repeat (first | (rw [Lx.St.add_M] at hfr) | (replace hfr := Lx.St.fresh_upd hfr; have n_ := hfr.1; replace hfr := hfr.2))); clear hfr
    first
      | (apply Lx.ks HO 9 (g := g8_5); (case hx => exact ⟨rfl, rfl, rfl⟩); (case hk => decide +kernel); (case hG => exact fun _ _ h_ _ => h_); (case hg => (repeat (first | exact Lx.ua _ _ _ | rw [Lx.un _ _ (by omega)] | rw [Lx.am]))); (case hrun => intro w_ hw_ hb_; obtain ⟨c0, c1, c2, c3, c4, c5, c6, c7, c8, c9⟩ := Lx.cells10 hb_; obtain ⟨d0, d1, d2, d3, d4, d5, d6, d7, d8, d9⟩ := Lx.froz10 hb_; refine ⟨?_, ?_, ?_, ?_⟩; rotate_left; (next => (go_simp <;> first | with_reducible rfl | rfl)); (next => (repeat (first | (with_reducible exact Lx.OnlyAt.refl _ _) | (with_reducible refine Lx.OnlyAt.set ?_ _ _)))); (next => (first | with_reducible exact Lx.sets10 hb_ | with_reducible exact Lx.sets5 hb_ | with_reducible exact Lx.sets3 hb_ | with_reducible exact Lx.sets2 hb_ | with_reducible exact Lx.sets4 hb_ | (simp [World.setCell, Array.getElem?_modify, hb_] <;> rfl)))); simp only [Act.put, Lx.p1, Lx.p2, Lx.p3])
    first
      | (apply Lx.kp HO 10; (case hx => exact ⟨rfl, rfl, rfl⟩); (case hk => decide +kernel); (case hv => intro w_ hw_; (go_simp <;> first | with_reducible rfl | exact ⟨rfl, rfl⟩)); simp only [Act.put, Lx.p1, Lx.p2, Lx.p3])
    first
      | (apply Lx.kp HO 11; (case hx => exact ⟨rfl, rfl, rfl⟩); (case hk => decide +kernel); (case hv => intro w_ hw_; (go_simp <;> first | with_reducible rfl | exact ⟨rfl, rfl⟩)); simp only [Act.put, Lx.p1, Lx.p2, Lx.p3])
    refine Lx.kd HO (by kernel_rfl) (fun hiv2 => hZ _ _ (fun W8 hw2 => ?_))
    clear hZ Z HO O
    have hin_ := Lib.hid (And.intro hw2 hiv2 : Lx.II _ _ _ _)
    clear hw2 hiv2
    replace HIN := Lib.hid (Lx.tk hin_.out (Lx.tk hin_.out (Lx.tk hin_.out (Lx.tk hin_.out (Lx.tk hin_.out (Lx.tk hin_.out (Lx.tk hin_.out (Lx.II.nil hin_.out.1.below) (w.heap.size) (by (repeat (first | exact Lx.ua _ _ _ | rw [Lx.un _ _ (by omega)] | rw [Lx.am])))) (w.heap.size + 1) (by (repeat (first | exact Lx.ua _ _ _ | rw [Lx.un _ _ (by omega)] | rw [Lx.am])))) (g8_1) (by (repeat (first | exact Lx.ua _ _ _ | rw [Lx.un _ _ (by omega)] | rw [Lx.am])))) (g8_2) (by (repeat (first | exact Lx.ua _ _ _ | rw [Lx.un _ _ (by omega)] | rw [Lx.am])))) (g8_3) (by (repeat (first | exact Lx.ua _ _ _ | rw [Lx.un _ _ (by omega)] | rw [Lx.am])))) (g8_4) (by (repeat (first | exact Lx.ua _ _ _ | rw [Lx.un _ _ (by omega)] | rw [Lx.am])))) (g8_5) (by (repeat (first | exact Lx.ua _ _ _ | rw [Lx.un _ _ (by omega)] | rw [Lx.am]))))
    clear hin_
    go_upto_region 10 with fail
    refine Lx.regionS0 (by kernel_rfl) (by kernel_rfl) HIN.out.1 HIN.out.2 (by simp only [List.size_toArray, List.length_cons, List.length_nil, Nat.reduceAdd]; rfl) (fun O Z hO hZ => ?_); have HO := Lib.hid hO; clear hO
    first
      | (apply Lx.kr HO 0; (case hx => exact ⟨rfl, rfl, rfl⟩); (case hk => decide +kernel); (case hv => intro w_ hw_; have P_ := hw_.holds (w.heap.size) _ (by (repeat (first | exact Lx.ua _ _ _ | rw [Lx.un _ _ (by omega)] | rw [Lx.am]))); obtain ⟨c0, c1, c2⟩ := Lx.cells3 P_; clear P_; (go_simp <;> first | with_reducible rfl | exact ⟨rfl, rfl⟩)); simp only [Act.put, Lx.p1, Lx.p2, Lx.p3])
    first
      | (apply Lx.kr HO 1; (case hx => exact ⟨rfl, rfl, rfl⟩); (case hk => decide +kernel); (case hv => intro w_ hw_; have P_ := hw_.holds (w.heap.size + 1) _ (by (repeat (first | exact Lx.ua _ _ _ | rw [Lx.un _ _ (by omega)] | rw [Lx.am]))); obtain ⟨c0, c1, c2, c3, c4, c5, c6, c7, c8, c9⟩ := Lx.cells10 P_; clear P_; (go_simp <;> first | with_reducible rfl | exact ⟨rfl, rfl⟩)); simp only [Act.put, Lx.p1, Lx.p2, Lx.p3])
    first
      | (apply Lx.kp HO 2; (case hx => exact ⟨rfl, rfl, rfl⟩); (case hk => decide +kernel); (case hv => intro w_ hw_; (go_simp <;> first | with_reducible rfl | exact ⟨rfl, rfl⟩)); simp only [Act.put, Lx.p1, Lx.p2, Lx.p3])
    first
      | (apply Lx.kc HO 3; (case hx => exact ⟨rfl, rfl, rfl⟩); (case hk => decide +kernel); (case hrun => intro w_; (go_simp <;> first | with_reducible rfl | exact ⟨rfl, rfl⟩)); (case hc => intro w_ hw_; with_reducible exact (HS2.out _ (HP0.out.keep hw_.below)).2); simp only [Act.put, Lx.p1, Lx.p2, Lx.p3])
    first
      | (apply Lx.kp HO 4; (case hx => exact ⟨rfl, rfl, rfl⟩); (case hk => decide +kernel); (case hv => intro w_ hw_; (go_simp <;> first | with_reducible rfl | exact ⟨rfl, rfl⟩)); simp only [Act.put, Lx.p1, Lx.p2, Lx.p3])
    first
      | (apply Lx.kp HO 5; (case hx => exact ⟨rfl, rfl, rfl⟩); (case hk => decide +kernel); (case hv => intro w_ hw_; (go_simp <;> first | with_reducible rfl | exact ⟨rfl, rfl⟩)); simp only [Act.put, Lx.p1, Lx.p2, Lx.p3])
    first
      | (apply Lx.kp HO 6; (case hx => exact ⟨rfl, rfl, rfl⟩); (case hk => decide +kernel); (case hv => intro w_ hw_; (go_simp <;> first | with_reducible rfl | exact ⟨rfl, rfl⟩)); simp only [Act.put, Lx.p1, Lx.p2, Lx.p3])
    first
      | (apply Lx.kp HO 7; (case hx => exact ⟨rfl, rfl, rfl⟩); (case hk => decide +kernel); (case hv => intro w_ hw_; (go_simp <;> first | with_reducible rfl | exact ⟨rfl, rfl⟩)); simp only [Act.put, Lx.p1, Lx.p2, Lx.p3])
    first
      | (apply Lx.ka HO 8; (case hx => exact ⟨rfl, rfl, rfl⟩); (case hk => decide +kernel); (case hrun => intro w_; (go_simp <;> first | with_reducible rfl | exact ⟨rfl, rfl⟩)); simp only [Act.put, Lx.p1, Lx.p2, Lx.p3])
    intro g8_6 hg_ hfr
    (repeat (first | (rw [Lx.St.add_M] at hfr) | (replace hfr := Lx.St.fresh_upd hfr; have n_ := hfr.1; replace hfr := hfr.2))); clear hfr
    first
      | (apply Lx.ks HO 9 (g := g8_6); (case hx => exact ⟨rfl, rfl, rfl⟩); (case hk => decide +kernel); (case hG => exact fun _ _ h_ _ => h_); (case hg => (repeat (first | exact Lx.ua _ _ _ | rw [Lx.un _ _ (by omega)] | rw [Lx.am]))); (case hrun => intro w_ hw_ hb_; obtain ⟨c0, c1, c2, c3, c4, c5, c6, c7, c8, c9⟩ := Lx.cells10 hb_; obtain ⟨d0, d1, d2, d3, d4, d5, d6, d7, d8, d9⟩ := Lx.froz10 hb_; refine ⟨?_, ?_, ?_, ?_⟩; rotate_left; (next => (go_simp <;> first | with_reducible rfl | rfl)); (next => (repeat (first | (with_reducible exact Lx.OnlyAt.refl _ _) | (with_reducible refine Lx.OnlyAt.set ?_ _ _)))); (next => (first | with_reducible exact Lx.sets10 hb_ | with_reducible exact Lx.sets5 hb_ | with_reducible exact Lx.sets3 hb_ | with_reducible exact Lx.sets2 hb_ | with_reducible exact Lx.sets4 hb_ | (simp [World.setCell, Array.getElem?_modify, hb_] <;> rfl)))); simp only [Act.put, Lx.p1, Lx.p2, Lx.p3])
    first
      | (apply Lx.kp HO 10; (case hx => exact ⟨rfl, rfl, rfl⟩); (case hk => decide +kernel); (case hv => intro w_ hw_; (go_simp <;> first | with_reducible rfl | exact ⟨rfl, rfl⟩)); simp only [Act.put, Lx.p1, Lx.p2, Lx.p3])
    first
      | (apply Lx.kp HO 11; (case hx => exact ⟨rfl, rfl, rfl⟩); (case hk => decide +kernel); (case hv => intro w_ hw_; (go_simp <;> first | with_reducible rfl | exact ⟨rfl, rfl⟩)); simp only [Act.put, Lx.p1, Lx.p2, Lx.p3])
    refine Lx.kd HO (by kernel_rfl) (fun hiv2 => hZ _ _ (fun W9 hw2 => ?_))
    clear hZ Z HO O
    have hin_ := Lib.hid (And.intro hw2 hiv2 : Lx.II _ _ _ _)
    clear hw2 hiv2
    replace HIN := Lib.hid (Lx.tk hin_.out (Lx.tk hin_.out (Lx.tk hin_.out (Lx.tk hin_.out (Lx.tk hin_.out (Lx.tk hin_.out (Lx.tk hin_.out (Lx.tk hin_.out (Lx.II.nil hin_.out.1.below) (w.heap.size) (by (repeat (first | exact Lx.ua _ _ _ | rw [Lx.un _ _ (by omega)] | rw [Lx.am])))) (w.heap.size + 1) (by (repeat (first | exact Lx.ua _ _ _ | rw [Lx.un _ _ (by omega)] | rw [Lx.am])))) (g8_1) (by (repeat (first | exact Lx.ua _ _ _ | rw [Lx.un _ _ (by omega)] | rw [Lx.am])))) (g8_2) (by (repeat (first | exact Lx.ua _ _ _ | rw [Lx.un _ _ (by omega)] | rw [Lx.am])))) (g8_3) (by (repeat (first | exact Lx.ua _ _ _ | rw [Lx.un _ _ (by omega)] | rw [Lx.am])))) (g8_4) (by (repeat (first | exact Lx.ua _ _ _ | rw [Lx.un _ _ (by omega)] | rw [Lx.am])))) (g8_5) (by (repeat (first | exact Lx.ua _ _ _ | rw [Lx.un _ _ (by omega)] | rw [Lx.am])))) (g8_6) (by (repeat (first | exact Lx.ua _ _ _ | rw [Lx.un _ _ (by omega)] | rw [Lx.am]))))
    clear hin_
    have q47 := fun (d : Nat) => @eq_frame_same d
    have q56 := fun (d : Nat) => @eq_ins_same d
    go_upto_region 11 with fail
    refine Lx.regionS (by kernel_rfl) (by kernel_rfl) HIN.out.1 HIN.out.2 (by simp only [List.size_toArray, List.length_cons, List.length_nil, Nat.reduceAdd]; rfl) (fun O Z hO hZ => ?_); have HO := Lib.hid hO; clear hO
    first
      | (apply Lx.kr HO 0; (case hx => exact ⟨rfl, rfl, rfl⟩); (case hk => decide +kernel); (case hv => intro w_ hw_; have P_ := hw_.holds (w.heap.size) _ (by (repeat (first | exact Lx.ua _ _ _ | rw [Lx.un _ _ (by omega)] | rw [Lx.am]))); obtain ⟨c0, c1, c2⟩ := Lx.cells3 P_; clear P_; (go_simp <;> first | with_reducible rfl | exact ⟨rfl, rfl⟩)); simp only [Act.put, Lx.p1, Lx.p2, Lx.p3])
    first
      | (apply Lx.kr HO 1; (case hx => exact ⟨rfl, rfl, rfl⟩); (case hk => decide +kernel); (case hv => intro w_ hw_; have P_ := hw_.holds (w.heap.size + 1) _ (by (repeat (first | exact Lx.ua _ _ _ | rw [Lx.un _ _ (by omega)] | rw [Lx.am]))); obtain ⟨c0, c1, c2, c3, c4, c5, c6, c7, c8, c9⟩ := Lx.cells10 P_; clear P_; (go_simp <;> first | with_reducible rfl | exact ⟨rfl, rfl⟩)); simp only [Act.put, Lx.p1, Lx.p2, Lx.p3])
    first
      | (apply Lx.kr HO 4; (case hx => exact ⟨rfl, rfl, rfl⟩); (case hk => decide +kernel); (case hv => intro w_ hw_; have P_ := hw_.holds (w.heap.size) _ (by (repeat (first | exact Lx.ua _ _ _ | rw [Lx.un _ _ (by omega)] | rw [Lx.am]))); obtain ⟨c0, c1, c2⟩ := Lx.cells3 P_; clear P_; (go_simp <;> first | with_reducible rfl | exact ⟨rfl, rfl⟩)); simp only [Act.put, Lx.p1, Lx.p2, Lx.p3])
    first
      | (apply Lx.kr HO 5; (case hx => exact ⟨rfl, rfl, rfl⟩); (case hk => decide +kernel); (case hv => intro w_ hw_; have P_ := hw_.holds (w.heap.size + 1) _ (by (repeat (first | exact Lx.ua _ _ _ | rw [Lx.un _ _ (by omega)] | rw [Lx.am]))); obtain ⟨c0, c1, c2, c3, c4, c5, c6, c7, c8, c9⟩ := Lx.cells10 P_; clear P_; (go_simp <;> first | with_reducible rfl | exact ⟨rfl, rfl⟩)); simp only [Act.put, Lx.p1, Lx.p2, Lx.p3])
    first
      | (apply Lx.kc HO 2; (case hx => exact ⟨rfl, rfl, rfl⟩); (case hk => decide +kernel); (case hrun => intro w_; (go_simp <;> first | with_reducible rfl | exact ⟨rfl, rfl⟩)); (case hc => intro w_ hw_; with_reducible exact HCK.out _ (HP0.out.keep hw_.below)); simp only [Act.put, Lx.p1, Lx.p2, Lx.p3])
    first
      | (apply Lx.kp HO 3; (case hx => exact ⟨rfl, rfl, rfl⟩); (case hk => decide +kernel); (case hv => intro w_ hw_; (go_simp <;> first | with_reducible rfl | exact ⟨rfl, rfl⟩)); simp only [Act.put, Lx.p1, Lx.p2, Lx.p3])
    first
      | (apply Lx.kc HO 6; (case hx => exact ⟨rfl, rfl, rfl⟩); (case hk => decide +kernel); (case hrun => intro w_; (go_simp <;> first | with_reducible rfl | exact ⟨rfl, rfl⟩)); (case hc => intro w_ hw_; with_reducible exact HMAY.out _ (HP0.out.keep hw_.below)); simp only [Act.put, Lx.p1, Lx.p2, Lx.p3])
    first
      | (apply Lx.kp HO 7; (case hx => exact ⟨rfl, rfl, rfl⟩); (case hk => decide +kernel); (case hv => intro w_ hw_; (go_simp <;> first | with_reducible rfl | exact ⟨rfl, rfl⟩)); simp only [Act.put, Lx.p1, Lx.p2, Lx.p3])
    first
      | (apply Lx.kp HO 8; (case hx => exact ⟨rfl, rfl, rfl⟩); (case hk => decide +kernel); (case hv => intro w_ hw_; (go_simp <;> first | with_reducible rfl | exact ⟨rfl, rfl⟩)); simp only [Act.put, Lx.p1, Lx.p2, Lx.p3])
    first
      | (apply Lx.kk HO 9; (case hx => exact ⟨rfl, rfl⟩); (case hk => decide +kernel); simp only [Act.put, Lx.p1, Lx.p2, Lx.p3])
      | (apply Lx.kr HO 9; (case hx => exact ⟨rfl, rfl, rfl⟩); (case hk => decide +kernel); (case hv => intro w_ hw_; have P_ := hw_.holds (g8_1) _ (by (repeat (first | exact Lx.ua _ _ _ | rw [Lx.un _ _ (by omega)] | rw [Lx.am]))); obtain ⟨c0, c1, c2, c3, c4⟩ := Lx.cells5 P_; clear P_; (go_simp <;> first | with_reducible rfl | exact ⟨rfl, rfl⟩)); simp only [Act.put, Lx.p1, Lx.p2, Lx.p3])
    first
      | (apply Lx.kk HO 10; (case hx => exact ⟨rfl, rfl⟩); (case hk => decide +kernel); simp only [Act.put, Lx.p1, Lx.p2, Lx.p3])
      | (apply Lx.kr HO 10; (case hx => exact ⟨rfl, rfl, rfl⟩); (case hk => decide +kernel); (case hv => intro w_ hw_; have P_ := hw_.holds (g8_2) _ (by (repeat (first | exact Lx.ua _ _ _ | rw [Lx.un _ _ (by omega)] | rw [Lx.am]))); obtain ⟨c0, c1, c2, c3, c4⟩ := Lx.cells5 P_; clear P_; (go_simp <;> first | with_reducible rfl | exact ⟨rfl, rfl⟩)); simp only [Act.put, Lx.p1, Lx.p2, Lx.p3])
    first
      | (apply Lx.kk HO 11; (case hx => exact ⟨rfl, rfl⟩); (case hk => decide +kernel); simp only [Act.put, Lx.p1, Lx.p2, Lx.p3])
      | (apply Lx.kp HO 11; (case hx => exact ⟨rfl, rfl, rfl⟩); (case hk => decide +kernel); (case hv => intro w_ hw_; (go_simp <;> first | with_reducible rfl | exact ⟨rfl, rfl⟩)); simp only [Act.put, Lx.p1, Lx.p2, Lx.p3])
    first
      | (apply Lx.kp HO 12; (case hx => exact ⟨rfl, rfl, rfl⟩); (case hk => decide +kernel); (case hv => intro w_ hw_; (go_simp <;> first | with_reducible rfl | exact ⟨rfl, rfl⟩)); simp only [Act.put, Lx.p1, Lx.p2, Lx.p3])
    first
      | (apply Lx.kp HO 13; (case hx => exact ⟨rfl, rfl, rfl⟩); (case hk => decide +kernel); (case hv => intro w_ hw_; (go_simp <;> first | with_reducible rfl | exact ⟨rfl, rfl⟩)); simp only [Act.put, Lx.p1, Lx.p2, Lx.p3])
    first
      | (apply Lx.kk HO 14; (case hx => exact ⟨rfl, rfl⟩); (case hk => decide +kernel); simp only [Act.put, Lx.p1, Lx.p2, Lx.p3])
      | (apply Lx.kp HO 14; (case hx => exact ⟨rfl, rfl, rfl⟩); (case hk => decide +kernel); (case hv => intro w_ hw_; (go_simp <;> first | with_reducible rfl | exact ⟨rfl, rfl⟩)); simp only [Act.put, Lx.p1, Lx.p2, Lx.p3])
    first
      | (apply Lx.kk HO 15; (case hx => exact ⟨rfl, rfl⟩); (case hk => decide +kernel); simp only [Act.put, Lx.p1, Lx.p2, Lx.p3])
      | (apply Lx.kr HO 15; (case hx => exact ⟨rfl, rfl, rfl⟩); (case hk => decide +kernel); (case hv => intro w_ hw_; have P_ := hw_.holds (w.heap.size) _ (by (repeat (first | exact Lx.ua _ _ _ | rw [Lx.un _ _ (by omega)] | rw [Lx.am]))); obtain ⟨c0, c1, c2⟩ := Lx.cells3 P_; clear P_; (go_simp <;> first | with_reducible rfl | exact ⟨rfl, rfl⟩)); simp only [Act.put, Lx.p1, Lx.p2, Lx.p3])
    first
      | (apply Lx.kk HO 16; (case hx => exact ⟨rfl, rfl⟩); (case hk => decide +kernel); simp only [Act.put, Lx.p1, Lx.p2, Lx.p3])
      | (apply Lx.kr HO 16; (case hx => exact ⟨rfl, rfl, rfl⟩); (case hk => decide +kernel); (case hv => intro w_ hw_; have P_ := hw_.holds (w.heap.size + 1) _ (by (repeat (first | exact Lx.ua _ _ _ | rw [Lx.un _ _ (by omega)] | rw [Lx.am]))); obtain ⟨c0, c1, c2, c3, c4, c5, c6, c7, c8, c9⟩ := Lx.cells10 P_; clear P_; (go_simp <;> first | with_reducible rfl | exact ⟨rfl, rfl⟩)); simp only [Act.put, Lx.p1, Lx.p2, Lx.p3])
    first
      | (apply Lx.kk HO 17; (case hx => exact ⟨rfl, rfl⟩); (case hk => decide +kernel); simp only [Act.put, Lx.p1, Lx.p2, Lx.p3])
      | (apply Lx.kc HO 17; (case hx => exact ⟨rfl, rfl, rfl⟩); (case hk => decide +kernel); (case hrun => intro w_; (go_simp <;> first | with_reducible rfl | exact ⟨rfl, rfl⟩)); (case hc => intro w_ hw_; with_reducible exact HMAY.out _ (HP0.out.keep hw_.below)); simp only [Act.put, Lx.p1, Lx.p2, Lx.p3])
    first
      | (apply Lx.kk HO 18; (case hx => exact ⟨rfl, rfl⟩); (case hk => decide +kernel); simp only [Act.put, Lx.p1, Lx.p2, Lx.p3])
      | (apply Lx.kp HO 18; (case hx => exact ⟨rfl, rfl, rfl⟩); (case hk => decide +kernel); (case hv => intro w_ hw_; (go_simp <;> first | with_reducible rfl | exact ⟨rfl, rfl⟩)); simp only [Act.put, Lx.p1, Lx.p2, Lx.p3])
    first
      | (apply Lx.kp HO 19; (case hx => exact ⟨rfl, rfl, rfl⟩); (case hk => decide +kernel); (case hv => intro w_ hw_; (go_simp <;> first | with_reducible rfl | exact ⟨rfl, rfl⟩)); simp only [Act.put, Lx.p1, Lx.p2, Lx.p3])
    first
      | (apply Lx.kp HO 20; (case hx => exact ⟨rfl, rfl, rfl⟩); (case hk => decide +kernel); (case hv => intro w_ hw_; (go_simp <;> first | with_reducible rfl | exact ⟨rfl, rfl⟩)); simp only [Act.put, Lx.p1, Lx.p2, Lx.p3])
    first
      | (apply Lx.kk HO 21; (case hx => exact ⟨rfl, rfl⟩); (case hk => decide +kernel); simp only [Act.put, Lx.p1, Lx.p2, Lx.p3])
      | (apply Lx.kr HO 21; (case hx => exact ⟨rfl, rfl, rfl⟩); (case hk => decide +kernel); (case hv => intro w_ hw_; have P_ := hw_.holds (g8_3) _ (by (repeat (first | exact Lx.ua _ _ _ | rw [Lx.un _ _ (by omega)] | rw [Lx.am]))); obtain ⟨c0, c1, c2, c3, c4, c5, c6, c7, c8, c9⟩ := Lx.cells10 P_; clear P_; (go_simp <;> first | with_reducible rfl | exact ⟨rfl, rfl⟩)); simp only [Act.put, Lx.p1, Lx.p2, Lx.p3])
    first
      | (apply Lx.kk HO 22; (case hx => exact ⟨rfl, rfl⟩); (case hk => decide +kernel); simp only [Act.put, Lx.p1, Lx.p2, Lx.p3])
      | (apply Lx.kr HO 22; (case hx => exact ⟨rfl, rfl, rfl⟩); (case hk => decide +kernel); (case hv => intro w_ hw_; have P_ := hw_.holds (g8_4) _ (by (repeat (first | exact Lx.ua _ _ _ | rw [Lx.un _ _ (by omega)] | rw [Lx.am]))); obtain ⟨c0, c1, c2, c3, c4, c5, c6, c7, c8, c9⟩ := Lx.cells10 P_; clear P_; (go_simp <;> first | with_reducible rfl | exact ⟨rfl, rfl⟩)); simp only [Act.put, Lx.p1, Lx.p2, Lx.p3])
    first
      | (apply Lx.kk HO 23; (case hx => exact ⟨rfl, rfl⟩); (case hk => decide +kernel); simp only [Act.put, Lx.p1, Lx.p2, Lx.p3])
      | (apply Lx.kp HO 23; (case hx => exact ⟨rfl, rfl, rfl⟩); (case hk => decide +kernel); (case hv => intro w_ hw_; (go_simp <;> first | with_reducible rfl | exact ⟨rfl, rfl⟩)); simp only [Act.put, Lx.p1, Lx.p2, Lx.p3])
    first
      | (apply Lx.kp HO 24; (case hx => exact ⟨rfl, rfl, rfl⟩); (case hk => decide +kernel); (case hv => intro w_ hw_; (go_simp <;> first | with_reducible rfl | exact ⟨rfl, rfl⟩)); simp only [Act.put, Lx.p1, Lx.p2, Lx.p3])
    first
      | (apply Lx.kp HO 25; (case hx => exact ⟨rfl, rfl, rfl⟩); (case hk => decide +kernel); (case hv => intro w_ hw_; (go_simp <;> first | with_reducible rfl | exact ⟨rfl, rfl⟩)); simp only [Act.put, Lx.p1, Lx.p2, Lx.p3])
    first
      | (apply Lx.kk HO 26; (case hx => exact ⟨rfl, rfl⟩); (case hk => decide +kernel); simp only [Act.put, Lx.p1, Lx.p2, Lx.p3])
      | (apply Lx.kp HO 26; (case hx => exact ⟨rfl, rfl, rfl⟩); (case hk => decide +kernel); (case hv => intro w_ hw_; (go_simp <;> first | with_reducible rfl | exact ⟨rfl, rfl⟩)); simp only [Act.put, Lx.p1, Lx.p2, Lx.p3])
    first
      | (apply Lx.kk HO 27; (case hx => exact ⟨rfl, rfl⟩); (case hk => decide +kernel); simp only [Act.put, Lx.p1, Lx.p2, Lx.p3])
      | (apply Lx.kp HO 27; (case hx => exact ⟨rfl, rfl, rfl⟩); (case hk => decide +kernel); (case hv => intro w_ hw_; (go_simp <;> first | with_reducible rfl | exact ⟨rfl, rfl⟩)); simp only [Act.put, Lx.p1, Lx.p2, Lx.p3])
    first
      | (apply Lx.kk HO 28; (case hx => exact ⟨rfl, rfl⟩); (case hk => decide +kernel); simp only [Act.put, Lx.p1, Lx.p2, Lx.p3])
      | (apply Lx.kp HO 28; (case hx => exact ⟨rfl, rfl, rfl⟩); (case hk => decide +kernel); (case hv => intro w_ hw_; (go_simp <;> first | with_reducible rfl | exact ⟨rfl, rfl⟩)); simp only [Act.put, Lx.p1, Lx.p2, Lx.p3])
    first
      | (apply Lx.kp HO 29; (case hx => exact ⟨rfl, rfl, rfl⟩); (case hk => decide +kernel); (case hv => intro w_ hw_; (go_simp <;> first | with_reducible rfl | exact ⟨rfl, rfl⟩)); simp only [Act.put, Lx.p1, Lx.p2, Lx.p3])
    first
      | (apply Lx.kp HO 30; (case hx => exact ⟨rfl, rfl, rfl⟩); (case hk => decide +kernel); (case hv => intro w_ hw_; (go_simp <;> first | with_reducible rfl | exact ⟨rfl, rfl⟩)); simp only [Act.put, Lx.p1, Lx.p2, Lx.p3])
    first
      | (apply Lx.kk HO 31; (case hx => exact ⟨rfl, rfl⟩); (case hk => decide +kernel); simp only [Act.put, Lx.p1, Lx.p2, Lx.p3])
      | (apply Lx.kr HO 31; (case hx => exact ⟨rfl, rfl, rfl⟩); (case hk => decide +kernel); (case hv => intro w_ hw_; have P_ := hw_.holds (g8_5) _ (by (repeat (first | exact Lx.ua _ _ _ | rw [Lx.un _ _ (by omega)] | rw [Lx.am]))); obtain ⟨c0, c1, c2, c3, c4, c5, c6, c7, c8, c9⟩ := Lx.cells10 P_; clear P_; (go_simp <;> first | with_reducible rfl | exact ⟨rfl, rfl⟩)); simp only [Act.put, Lx.p1, Lx.p2, Lx.p3])
    first
      | (apply Lx.kk HO 32; (case hx => exact ⟨rfl, rfl⟩); (case hk => decide +kernel); simp only [Act.put, Lx.p1, Lx.p2, Lx.p3])
      | (apply Lx.kr HO 32; (case hx => exact ⟨rfl, rfl, rfl⟩); (case hk => decide +kernel); (case hv => intro w_ hw_; have P_ := hw_.holds (g8_6) _ (by (repeat (first | exact Lx.ua _ _ _ | rw [Lx.un _ _ (by omega)] | rw [Lx.am]))); obtain ⟨c0, c1, c2, c3, c4, c5, c6, c7, c8, c9⟩ := Lx.cells10 P_; clear P_; (go_simp <;> first | with_reducible rfl | exact ⟨rfl, rfl⟩)); simp only [Act.put, Lx.p1, Lx.p2, Lx.p3])
    first
      | (apply Lx.kk HO 33; (case hx => exact ⟨rfl, rfl⟩); (case hk => decide +kernel); simp only [Act.put, Lx.p1, Lx.p2, Lx.p3])
      | (apply Lx.kp HO 33; (case hx => exact ⟨rfl, rfl, rfl⟩); (case hk => decide +kernel); (case hv => intro w_ hw_; (go_simp <;> first | with_reducible rfl | exact ⟨rfl, rfl⟩)); simp only [Act.put, Lx.p1, Lx.p2, Lx.p3])
    first
      | (apply Lx.kp HO 34; (case hx => exact ⟨rfl, rfl, rfl⟩); (case hk => decide +kernel); (case hv => intro w_ hw_; (go_simp <;> first | with_reducible rfl | exact ⟨rfl, rfl⟩)); simp only [Act.put, Lx.p1, Lx.p2, Lx.p3])
    first
      | (apply Lx.kp HO 35; (case hx => exact ⟨rfl, rfl, rfl⟩); (case hk => decide +kernel); (case hv => intro w_ hw_; (go_simp <;> first | with_reducible rfl | exact ⟨rfl, rfl⟩)); simp only [Act.put, Lx.p1, Lx.p2, Lx.p3])
    first
      | (apply Lx.kk HO 36; (case hx => exact ⟨rfl, rfl⟩); (case hk => decide +kernel); simp only [Act.put, Lx.p1, Lx.p2, Lx.p3])
      | (apply Lx.kp HO 36; (case hx => exact ⟨rfl, rfl, rfl⟩); (case hk => decide +kernel); (case hv => intro w_ hw_; (go_simp <;> first | with_reducible rfl | exact ⟨rfl, rfl⟩)); simp only [Act.put, Lx.p1, Lx.p2, Lx.p3])
    first
      | (apply Lx.kk HO 37; (case hx => exact ⟨rfl, rfl⟩); (case hk => decide +kernel); simp only [Act.put, Lx.p1, Lx.p2, Lx.p3])
      | (apply Lx.kp HO 37; (case hx => exact ⟨rfl, rfl, rfl⟩); (case hk => decide +kernel); (case hv => intro w_ hw_; (go_simp <;> first | with_reducible rfl | exact ⟨rfl, rfl⟩)); simp only [Act.put, Lx.p1, Lx.p2, Lx.p3])
    first
      | (apply Lx.kk HO 38; (case hx => exact ⟨rfl, rfl⟩); (case hk => decide +kernel); simp only [Act.put, Lx.p1, Lx.p2, Lx.p3])
      | (apply Lx.kp HO 38; (case hx => exact ⟨rfl, rfl, rfl⟩); (case hk => decide +kernel); (case hv => intro w_ hw_; (go_simp <;> first | with_reducible rfl | exact ⟨rfl, rfl⟩)); simp only [Act.put, Lx.p1, Lx.p2, Lx.p3])
    first
      | (apply Lx.kp HO 39; (case hx => exact ⟨rfl, rfl, rfl⟩); (case hk => decide +kernel); (case hv => intro w_ hw_; (go_simp <;> first | with_reducible rfl | exact ⟨rfl, rfl⟩)); simp only [Act.put, Lx.p1, Lx.p2, Lx.p3])
    first
      | (apply Lx.kp HO 40; (case hx => exact ⟨rfl, rfl, rfl⟩); (case hk => decide +kernel); (case hv => intro w_ hw_; (go_simp <;> first | with_reducible rfl | exact ⟨rfl, rfl⟩)); simp only [Act.put, Lx.p1, Lx.p2, Lx.p3])
    first
      | (apply Lx.kk HO 41; (case hx => exact ⟨rfl, rfl⟩); (case hk => decide +kernel); simp only [Act.put, Lx.p1, Lx.p2, Lx.p3])
      | (apply Lx.kp HO 41; (case hx => exact ⟨rfl, rfl, rfl⟩); (case hk => decide +kernel); (case hv => intro w_ hw_; (go_simp <;> first | with_reducible rfl | exact ⟨rfl, rfl⟩)); simp only [Act.put, Lx.p1, Lx.p2, Lx.p3])
    first
      | (apply Lx.kk HO 42; (case hx => exact ⟨rfl, rfl⟩); (case hk => decide +kernel); simp only [Act.put, Lx.p1, Lx.p2, Lx.p3])
      | (apply Lx.kp HO 42; (case hx => exact ⟨rfl, rfl, rfl⟩); (case hk => decide +kernel); (case hv => intro w_ hw_; (go_simp <;> first | with_reducible rfl | exact ⟨rfl, rfl⟩)); simp only [Act.put, Lx.p1, Lx.p2, Lx.p3])
    first
      | (apply Lx.kk HO 43; (case hx => exact ⟨rfl, rfl⟩); (case hk => decide +kernel); simp only [Act.put, Lx.p1, Lx.p2, Lx.p3])
      | (apply Lx.kp HO 43; (case hx => exact ⟨rfl, rfl, rfl⟩); (case hk => decide +kernel); (case hv => intro w_ hw_; (go_simp <;> first | with_reducible rfl | exact ⟨rfl, rfl⟩)); simp only [Act.put, Lx.p1, Lx.p2, Lx.p3])
    first
      | (apply Lx.kp HO 44; (case hx => exact ⟨rfl, rfl, rfl⟩); (case hk => decide +kernel); (case hv => intro w_ hw_; (go_simp <;> first | with_reducible rfl | exact ⟨rfl, rfl⟩)); simp only [Act.put, Lx.p1, Lx.p2, Lx.p3])
    first
      | (apply Lx.kp HO 45; (case hx => exact ⟨rfl, rfl, rfl⟩); (case hk => decide +kernel); (case hv => intro w_ hw_; (go_simp <;> first | with_reducible rfl | exact ⟨rfl, rfl⟩)); simp only [Act.put, Lx.p1, Lx.p2, Lx.p3])
    first
      | (apply Lx.kk HO 46; (case hx => exact ⟨rfl, rfl⟩); (case hk => decide +kernel); simp only [Act.put, Lx.p1, Lx.p2, Lx.p3])
      | (apply Lx.kp HO 46; (case hx => exact ⟨rfl, rfl, rfl⟩); (case hk => decide +kernel); (case hv => intro w_ hw_; (go_simp <;> first | with_reducible rfl | exact ⟨rfl, rfl⟩)); simp only [Act.put, Lx.p1, Lx.p2, Lx.p3])
    first
      | (apply Lx.kk HO 47; (case hx => exact ⟨rfl, rfl⟩); (case hk => decide +kernel); simp only [Act.put, Lx.p1, Lx.p2, Lx.p3])
      | (apply Lx.kc HO 47; (case hx => exact ⟨rfl, rfl, rfl⟩); (case hk => decide +kernel); (case hrun => intro w_; (go_simp <;> first | with_reducible rfl | exact ⟨rfl, rfl⟩)); (case hc => intro w_ hw_; with_reducible exact HBG.out _); simp only [Act.put, Lx.p1, Lx.p2, Lx.p3])
    first
      | (apply Lx.kk HO 48; (case hx => exact ⟨rfl, rfl⟩); (case hk => decide +kernel); simp only [Act.put, Lx.p1, Lx.p2, Lx.p3])
      | (apply Lx.kp HO 48; (case hx => exact ⟨rfl, rfl, rfl⟩); (case hk => decide +kernel); (case hv => intro w_ hw_; (go_simp <;> first | with_reducible rfl | exact ⟨rfl, rfl⟩)); simp only [Act.put, Lx.p1, Lx.p2, Lx.p3])
    first
      | (apply Lx.kk HO 49; (case hx => exact ⟨rfl, rfl⟩); (case hk => decide +kernel); simp only [Act.put, Lx.p1, Lx.p2, Lx.p3])
      | (apply Lx.kp HO 49; (case hx => exact ⟨rfl, rfl, rfl⟩); (case hk => decide +kernel); (case hv => intro w_ hw_; (go_simp <;> first | with_reducible rfl | exact ⟨rfl, rfl⟩)); simp only [Act.put, Lx.p1, Lx.p2, Lx.p3])
    first
      | (apply Lx.kk HO 50; (case hx => exact ⟨rfl, rfl⟩); (case hk => decide +kernel); simp only [Act.put, Lx.p1, Lx.p2, Lx.p3])
      | (apply Lx.kp HO 50; (case hx => exact ⟨rfl, rfl, rfl⟩); (case hk => decide +kernel); (case hv => intro w_ hw_; (go_simp <;> first | with_reducible rfl | exact ⟨rfl, rfl⟩)); simp only [Act.put, Lx.p1, Lx.p2, Lx.p3])
    first
      | (apply Lx.kp HO 51; (case hx => exact ⟨rfl, rfl, rfl⟩); (case hk => decide +kernel); (case hv => intro w_ hw_; (go_simp <;> first | with_reducible rfl | exact ⟨rfl, rfl⟩)); simp only [Act.put, Lx.p1, Lx.p2, Lx.p3])
    first
      | (apply Lx.kp HO 52; (case hx => exact ⟨rfl, rfl, rfl⟩); (case hk => decide +kernel); (case hv => intro w_ hw_; (go_simp <;> first | with_reducible rfl | exact ⟨rfl, rfl⟩)); simp only [Act.put, Lx.p1, Lx.p2, Lx.p3])
    first
      | (apply Lx.kk HO 53; (case hx => exact ⟨rfl, rfl⟩); (case hk => decide +kernel); simp only [Act.put, Lx.p1, Lx.p2, Lx.p3])
      | (apply Lx.kr HO 53; (case hx => exact ⟨rfl, rfl, rfl⟩); (case hk => decide +kernel); (case hv => intro w_ hw_; have P_ := hw_.holds (w.heap.size + 1) _ (by (repeat (first | exact Lx.ua _ _ _ | rw [Lx.un _ _ (by omega)] | rw [Lx.am]))); obtain ⟨c0, c1, c2, c3, c4, c5, c6, c7, c8, c9⟩ := Lx.cells10 P_; clear P_; (go_simp <;> first | with_reducible rfl | exact ⟨rfl, rfl⟩)); simp only [Act.put, Lx.p1, Lx.p2, Lx.p3])
    first
      | (apply Lx.kk HO 54; (case hx => exact ⟨rfl, rfl⟩); (case hk => decide +kernel); simp only [Act.put, Lx.p1, Lx.p2, Lx.p3])
      | (apply Lx.kp HO 54; (case hx => exact ⟨rfl, rfl, rfl⟩); (case hk => decide +kernel); (case hv => intro w_ hw_; (go_simp <;> first | with_reducible rfl | exact ⟨rfl, rfl⟩)); simp only [Act.put, Lx.p1, Lx.p2, Lx.p3])
    first
      | (apply Lx.kk HO 56; (case hx => exact ⟨rfl, rfl⟩); (case hk => decide +kernel); simp only [Act.put, Lx.p1, Lx.p2, Lx.p3])
      | (apply Lx.kp HO 56; (case hx => exact ⟨rfl, rfl, rfl⟩); (case hk => decide +kernel); (case hv => intro w_ hw_; (go_simp <;> first | with_reducible rfl | exact ⟨rfl, rfl⟩)); simp only [Act.put, Lx.p1, Lx.p2, Lx.p3])
    first
      | (apply Lx.kk HO 57; (case hx => exact ⟨rfl, rfl⟩); (case hk => decide +kernel); simp only [Act.put, Lx.p1, Lx.p2, Lx.p3])
      | (apply Lx.kp HO 57; (case hx => exact ⟨rfl, rfl, rfl⟩); (case hk => decide +kernel); (case hv => intro w_ hw_; (go_simp <;> first | with_reducible rfl | exact ⟨rfl, rfl⟩)); simp only [Act.put, Lx.p1, Lx.p2, Lx.p3])
    first
      | (apply Lx.kk HO 58; (case hx => exact ⟨rfl, rfl⟩); (case hk => decide +kernel); simp only [Act.put, Lx.p1, Lx.p2, Lx.p3])
      | (apply Lx.kr HO 58; (case hx => exact ⟨rfl, rfl, rfl⟩); (case hk => decide +kernel); (case hv => intro w_ hw_; have P_ := hw_.holds (w.heap.size + 1) _ (by (repeat (first | exact Lx.ua _ _ _ | rw [Lx.un _ _ (by omega)] | rw [Lx.am]))); have c2 := Lx.cellAt P_ 2 rfl; have c3 := Lx.cellAt P_ 3 rfl; have c4 := Lx.cellAt P_ 4 rfl; have c5 := Lx.cellAt P_ 5 rfl; have c6 := Lx.cellAt P_ 6 rfl; have c7 := Lx.cellAt P_ 7 rfl; have c8 := Lx.cellAt P_ 8 rfl; have c9 := Lx.cellAt P_ 9 rfl; clear P_; (go_simp <;> first | with_reducible rfl | exact ⟨rfl, rfl⟩)); simp only [Act.put, Lx.p1, Lx.p2, Lx.p3])
    first
      | (apply Lx.kk HO 55; (case hx => exact ⟨rfl, rfl⟩); (case hk => decide +kernel); simp only [Act.put, Lx.p1, Lx.p2, Lx.p3])
      | (apply Lx.kc HO 55; (case hx => exact ⟨rfl, rfl, rfl⟩); (case hk => decide +kernel); (case hrun => intro w_; (go_simp <;> first | with_reducible rfl | exact ⟨rfl, rfl⟩)); (case hc => intro w_ hw_; with_reducible exact HSP.out _); simp only [Act.put, Lx.p1, Lx.p2, Lx.p3])
    first
      | (apply Lx.kk HO 59; (case hx => exact ⟨rfl, rfl⟩); (case hk => decide +kernel); simp only [Act.put, Lx.p1, Lx.p2, Lx.p3])
      | (apply Lx.kp HO 59; (case hx => exact ⟨rfl, rfl, rfl⟩); (case hk => decide +kernel); (case hv => intro w_ hw_; (go_simp <;> first | with_reducible rfl | exact ⟨rfl, rfl⟩)); simp only [Act.put, Lx.p1, Lx.p2, Lx.p3])
    first
      | (apply Lx.kk HO 60; (case hx => exact ⟨rfl, rfl⟩); (case hk => decide +kernel); simp only [Act.put, Lx.p1, Lx.p2, Lx.p3])
      | (apply Lx.kp HO 60; (case hx => exact ⟨rfl, rfl, rfl⟩); (case hk => decide +kernel); (case hv => intro w_ hw_; (go_simp <;> first | with_reducible rfl | exact ⟨rfl, rfl⟩)); simp only [Act.put, Lx.p1, Lx.p2, Lx.p3])
    first
      | (apply Lx.kp HO 61; (case hx => exact ⟨rfl, rfl, rfl⟩); (case hk => decide +kernel); (case hv => intro w_ hw_; (go_simp <;> first | with_reducible rfl | exact ⟨rfl, rfl⟩)); simp only [Act.put, Lx.p1, Lx.p2, Lx.p3])
    first
      | (apply Lx.kp HO 62; (case hx => exact ⟨rfl, rfl, rfl⟩); (case hk => decide +kernel); (case hv => intro w_ hw_; (go_simp <;> first | with_reducible rfl | exact ⟨rfl, rfl⟩)); simp only [Act.put, Lx.p1, Lx.p2, Lx.p3])
    first
      | (apply Lx.kk HO 63; (case hx => exact ⟨rfl, rfl⟩); (case hk => decide +kernel); simp only [Act.put, Lx.p1, Lx.p2, Lx.p3])
      | (apply Lx.kc HO 63; (case hx => exact ⟨rfl, rfl, rfl⟩); (case hk => decide +kernel); (case hrun => intro w_; (go_simp <;> first | with_reducible rfl | exact ⟨rfl, rfl⟩)); (case hc => intro w_ hw_; exact HAL.out _); simp only [Act.put, Lx.p1, Lx.p2, Lx.p3])
    first
      | (apply Lx.kp HO 64; (case hx => exact ⟨rfl, rfl, rfl⟩); (case hk => decide +kernel); (case hv => intro w_ hw_; (go_simp <;> first | with_reducible rfl | exact ⟨rfl, rfl⟩)); simp only [Act.put, Lx.p1, Lx.p2, Lx.p3])
    first
      | (apply Lx.kp HO 65; (case hx => exact ⟨rfl, rfl, rfl⟩); (case hk => decide +kernel); (case hv => intro w_ hw_; (go_simp <;> first | with_reducible rfl | exact ⟨rfl, rfl⟩)); simp only [Act.put, Lx.p1, Lx.p2, Lx.p3])
    refine Lx.kd HO (by kernel_rfl) (fun hiv2 => hZ _ _ (fun W10 hw2 => ?_))
    clear hZ Z HO O
    have hin_ := Lib.hid (And.intro hw2 hiv2 : Lx.II _ _ _ _)
    clear hw2 hiv2
    replace HIN := Lib.hid (Lx.II.nil hin_.out.1.below)
    clear hin_
    clear q47 q56
    go_wp2
    go_ret
    exact ⟨rfl, HIN.out.1.below⟩
end Go.Proofs.Ytljfloopjgpaeaa
