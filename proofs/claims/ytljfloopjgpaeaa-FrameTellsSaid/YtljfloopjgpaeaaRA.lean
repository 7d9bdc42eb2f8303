/- tollbarref13: May, At, reg; tollbarref10.Local. -/
import Derived.Test.YtljfloopjgpaeaaZ
import Derived.Deep.QuietTactic
import Derived.BigQuiet
namespace Go.Proofs.Ytljfloopjgpaeaa
set_option linter.unusedVariables false
set_option linter.unusedSimpArgs false
open Go.RowKit
attribute [local go_sem] Oper.semAt_some
set_option maxRecDepth 100000

theorem Below.drewN' {B : Nat} {a w : World} (h : Below B a w) (n : Nat) : Below B a (w.drewN n) := ⟨h.os, h.tape, h.output, h.size, h.block⟩

theorem rLocal_any (k : Int) (w : World) : Calls Try.prog 80 #[.int .u8 k] w fun e w' => e = .returned (.bool (localB k)) ∧ w = w' := by
  go_enter Try.func80, Try.ntmps80
  go_wp2
  all_goals
    go_ret
    exact ⟨ret_bool (by simp [localB, *] <;> omega), rfl⟩
theorem rreg_any (k : Int) (w : World) : Calls Try.prog 81 #[.int .i64 k] w fun e w' => e = .returned (.bool (regB k)) ∧ w = w' := by
  go_enter Try.func81, Try.ntmps81
  go_wp2
  all_goals
    go_ret
    exact ⟨ret_bool (by simp [regB, *] <;> omega), rfl⟩

set_option maxHeartbeats 2000000 in
theorem rMay_true {c1 c2 c3 : Value} {P : ProgV} {w : World} (h : RProg w c1 c2 c3 P) (f : FrameV) (hat : atB P f.code f.pc = true) :
    Calls Try.prog 32 #[.agg #[c1, c2, c3], f.agg] w fun e w' => e = .returned (.bool true) ∧ Below w.heap.size w w' := by
  obtain ⟨h1, h2, l, h3, h4⟩ := atB_iff.1 hat
  obtain ⟨A1, n1, rfl, _, _, hl1⟩ := h.caps.val
  obtain ⟨A2, n2, rfl, _, _, hl2⟩ := h.codes.val
  obtain ⟨A3, n3, rfl, _, _, hl3⟩ := h.sites.val
  obtain ⟨i, hi⟩ := Int.eq_ofNat_of_zero_le h1
  have hil : i < P.codes.length := by
    have := (List.getElem?_eq_some_iff.1 h3).1
    rw [hi] at this; simpa using this
  obtain ⟨b, o, A4, c4, rfl, hb, g1, g2, _, _, hl4⟩ := kInss_at h.codes hil
  obtain rfl : P.codes[i] = l := by rw [hi] at h3; simpa [List.getElem?_eq_getElem hil] using h3
  obtain ⟨fc, fp, fr⟩ := f
  simp only at hi h1 h2 h4 hat
  subst hi
  generalize P.codes[i] = l at *
  have hlen : (i : Int) < P.codes.length := by omega
  have hpc : fp < (l.length : Int) := by omega
  clear h3 h4 hat g2
  unfold FrameV.agg FrameV.cells
  go_enter Try.func32, Try.ntmps32
  go_upto_region 1 with fail
  have hd1 : decide ((0 : Int) ≤ (i : Int)) = true := by simp
  have hd2 : decide ((0 : Int) ≤ fp) = true := by simpa using h2
  have g3 : w.cell? ⟨b, o + (max (min (i : Int) ((P.codes.length : Int) - 1)) 0).toNat, none⟩ = some (.slice A4 l.length c4) := by
    rw [show (max (min (i : Int) ((P.codes.length : Int) - 1)) 0).toNat = i by omega]; exact g1
  clear g1
  go_quiet (fail)
  go_wp2
  go_ret
  exact ⟨rfl, by (first | (refine Below.drewN' ?_ _; (repeat (first | with_reducible exact Below.refl _ _ | (with_reducible refine Below.setCell ?_ (by first | (simp; done) | (simp; omega) | omega) _) | (with_reducible refine Below.alloc ?_ (by first | (simp; done) | (simp; omega) | omega) _) | (with_reducible refine Below.drew ?_)))) | (repeat (first | with_reducible exact Below.refl _ _ | (with_reducible refine Below.setCell ?_ (by first | (simp; done) | (simp; omega) | omega) _) | (with_reducible refine Below.alloc ?_ (by first | (simp; done) | (simp; omega) | omega) _) | (with_reducible refine Below.drew ?_))))⟩
set_option maxHeartbeats 2000000 in
theorem rMay_false {c1 c2 c3 : Value} {P : ProgV} {w : World} (h : RProg w c1 c2 c3 P) (f : FrameV) (hat : atB P f.code f.pc = false) :
    Calls Try.prog 32 #[.agg #[c1, c2, c3], f.agg] w fun e w' => e = .returned (.bool false) ∧ Below w.heap.size w w' := by
  have HP := Lib.hid h
  have HAT := Lib.hid hat
  obtain ⟨A1, n1, rfl, _, _, hl1⟩ := h.caps.val
  obtain ⟨A2, n2, rfl, _, _, hl2⟩ := h.codes.val
  obtain ⟨A3, n3, rfl, _, _, hl3⟩ := h.sites.val
  obtain ⟨fc, fp, fr⟩ := f
  unfold FrameV.agg FrameV.cells
  clear h hat
  simp only
  by_cases h1 : 0 ≤ fc
  case neg =>
    have hd1 : decide ((0 : Int) ≤ fc) = false := by simpa using h1
    clear h1
    go_enter Try.func32, Try.ntmps32
    go_upto_region 1 with fail
    go_quiet (fail)
    go_wp2
    go_ret
    exact ⟨rfl, by (first | (refine Below.drewN' ?_ _; (repeat (first | with_reducible exact Below.refl _ _ | (with_reducible refine Below.setCell ?_ (by first | (simp; done) | (simp; omega) | omega) _) | (with_reducible refine Below.alloc ?_ (by first | (simp; done) | (simp; omega) | omega) _) | (with_reducible refine Below.drew ?_)))) | (repeat (first | with_reducible exact Below.refl _ _ | (with_reducible refine Below.setCell ?_ (by first | (simp; done) | (simp; omega) | omega) _) | (with_reducible refine Below.alloc ?_ (by first | (simp; done) | (simp; omega) | omega) _) | (with_reducible refine Below.drew ?_))))⟩
  case pos =>
    obtain ⟨i, rfl⟩ := Int.eq_ofNat_of_zero_le h1
    have hd1 : decide ((0 : Int) ≤ (i : Int)) = true := by simp
    by_cases h2 : i < P.codes.length
    case neg =>
      have hd2 : decide ((i : Int) < (P.codes.length : Int)) = false := by simp; omega
      have hd3 : decide (i < P.codes.length) = false := by simpa using h2
      clear h2
      go_enter Try.func32, Try.ntmps32
      go_upto_region 1 with fail
      go_quiet (fail)
      go_wp2
      go_ret
      exact ⟨rfl, by (first | (refine Below.drewN' ?_ _; (repeat (first | with_reducible exact Below.refl _ _ | (with_reducible refine Below.setCell ?_ (by first | (simp; done) | (simp; omega) | omega) _) | (with_reducible refine Below.alloc ?_ (by first | (simp; done) | (simp; omega) | omega) _) | (with_reducible refine Below.drew ?_)))) | (repeat (first | with_reducible exact Below.refl _ _ | (with_reducible refine Below.setCell ?_ (by first | (simp; done) | (simp; omega) | omega) _) | (with_reducible refine Below.alloc ?_ (by first | (simp; done) | (simp; omega) | omega) _) | (with_reducible refine Below.drew ?_))))⟩
    case pos =>
      have hlen : (i : Int) < P.codes.length := by omega
      have hd2 : decide ((i : Int) < (P.codes.length : Int)) = true := by simpa using hlen
      have hd3 : decide (i < P.codes.length) = true := by simpa using h2
      by_cases h3 : 0 ≤ fp
      case neg =>
        have hd4 : decide ((0 : Int) ≤ fp) = false := by simpa using h3
        clear h3
        go_enter Try.func32, Try.ntmps32
        go_upto_region 1 with fail
        go_quiet (fail)
        go_wp2
        go_ret
        exact ⟨rfl, by (first | (refine Below.drewN' ?_ _; (repeat (first | with_reducible exact Below.refl _ _ | (with_reducible refine Below.setCell ?_ (by first | (simp; done) | (simp; omega) | omega) _) | (with_reducible refine Below.alloc ?_ (by first | (simp; done) | (simp; omega) | omega) _) | (with_reducible refine Below.drew ?_)))) | (repeat (first | with_reducible exact Below.refl _ _ | (with_reducible refine Below.setCell ?_ (by first | (simp; done) | (simp; omega) | omega) _) | (with_reducible refine Below.alloc ?_ (by first | (simp; done) | (simp; omega) | omega) _) | (with_reducible refine Below.drew ?_))))⟩
      case pos =>
        have hd4 : decide ((0 : Int) ≤ fp) = true := by simpa using h3
        obtain ⟨b, o, A4, c4, rfl, hb, g1, g2, _, _, hl4⟩ := kInss_at HP.out.codes h2
        have hge : (P.codes[i].length : Int) ≤ fp := by
          have := HAT.out
          by_cases hx : fp.toNat < P.codes[i].length
          · have h5 : atB P (i : Int) fp = true := by
              rw [atB_here (l := P.codes[i]) (by omega) (by simp [List.getElem?_eq_getElem h2])]
              exact ⟨h3, hx⟩
            rw [h5] at this; cases this
          · omega
        generalize P.codes[i] = l at *
        have hd5 : decide (fp < (l.length : Int)) = false := by simpa using hge
        have g3 : w.cell? ⟨b, o + (max (min (i : Int) ((P.codes.length : Int) - 1)) 0).toNat, none⟩ = some (.slice A4 l.length c4) := by
          rw [show (max (min (i : Int) ((P.codes.length : Int) - 1)) 0).toNat = i by omega]; exact g1
        clear g1 g2
        go_enter Try.func32, Try.ntmps32
        go_upto_region 1 with fail
        go_quiet (fail)
        go_wp2
        go_ret
        exact ⟨rfl, by (first | (refine Below.drewN' ?_ _; (repeat (first | with_reducible exact Below.refl _ _ | (with_reducible refine Below.setCell ?_ (by first | (simp; done) | (simp; omega) | omega) _) | (with_reducible refine Below.alloc ?_ (by first | (simp; done) | (simp; omega) | omega) _) | (with_reducible refine Below.drew ?_)))) | (repeat (first | with_reducible exact Below.refl _ _ | (with_reducible refine Below.setCell ?_ (by first | (simp; done) | (simp; omega) | omega) _) | (with_reducible refine Below.alloc ?_ (by first | (simp; done) | (simp; omega) | omega) _) | (with_reducible refine Below.drew ?_))))⟩
theorem rMay_any {c1 c2 c3 : Value} {P : ProgV} {w : World} (h : RProg w c1 c2 c3 P) (f : FrameV) :
    Calls Try.prog 32 #[.agg #[c1, c2, c3], f.agg] w fun e w' => e = .returned (.bool (atB P f.code f.pc)) ∧ Below w.heap.size w w' := by
  cases hat : atB P f.code f.pc
  · exact rMay_false h f hat
  · exact rMay_true h f hat

set_option maxHeartbeats 2000000 in
theorem rAt_any {c1 c2 c3 : Value} {P : ProgV} {w : World} (h : RProg w c1 c2 c3 P) (f : FrameV) (hat : atB P f.code f.pc = true) :
    Calls Try.prog 33 #[.agg #[c1, c2, c3], f.agg] w fun e w' => e = .returned (atX P f.code f.pc).agg ∧ Below w.heap.size w w' := by
  obtain ⟨h1, h2, l, h3, h4⟩ := atB_iff.1 hat
  have HX := Lib.hid (atX_get h1 h2 h3 h4)
  obtain ⟨A1, n1, rfl, _, _, hl1⟩ := h.caps.val
  obtain ⟨A2, n2, rfl, _, _, hl2⟩ := h.codes.val
  obtain ⟨A3, n3, rfl, _, _, hl3⟩ := h.sites.val
  obtain ⟨i, hi⟩ := Int.eq_ofNat_of_zero_le h1
  obtain ⟨j, hj⟩ := Int.eq_ofNat_of_zero_le h2
  have hil : i < P.codes.length := by
    have := (List.getElem?_eq_some_iff.1 h3).1
    rw [hi] at this; simpa using this
  obtain ⟨b, o, A4, c4, rfl, hb, g1, g2, _, _, hl4⟩ := kInss_at h.codes hil
  obtain rfl : P.codes[i] = l := by rw [hi] at h3; simpa [List.getElem?_eq_getElem hil] using h3
  obtain ⟨fc, fp, fr⟩ := f
  simp only at hi hj h1 h2 h4 HX
  subst hi hj
  generalize P.codes[i] = l at *
  have hjl : j < l.length := by simpa using h4
  obtain ⟨b2, o2, rfl, hb2, d0, d1, d2, d3, d4, _⟩ := kIns_at g2 hjl
  have HX2 := Lib.hid (show atX P (i : Int) (j : Int) = l[j] by rw [HX.out]; rfl)
  clear HX h3 h4 hat g2 h
  generalize l[j] = x at *
  have e1 : (0 : Int) ≤ (i : Int) := by omega
  have e2 : (0 : Int) ≤ (j : Int) := by omega
  have e3 : (i : Int) < P.codes.length := by omega
  have e4 : (j : Int) < l.length := by omega
  have HB := Lib.hid hb
  unfold FrameV.agg FrameV.cells
  simp only [HX2.out]
  go_enter Try.func33, Try.ntmps33
  go_upto_region 1 with fail
  generalize hW1 : ((w.alloc _).alloc _).alloc _ = W1
  have hB1 : Below w.heap.size w W1 := by rw [← hW1]; (repeat (first | with_reducible exact Below.refl _ _ | (with_reducible refine Below.setCell ?_ (by first | (simp; done) | (simp; omega) | omega) _) | (with_reducible refine Below.alloc ?_ (by first | (simp; done) | (simp; omega) | omega) _) | (with_reducible refine Below.drew ?_)))
  have hpb : W1.heap[w.heap.size]? = some (.cells #[.slice A1 P.caps.length n1, .slice (some ⟨b, o, none⟩) P.codes.length n2, .slice A3 P.sites.length n3] 44 (0, 0)) := by rw [← hW1, alloc_heap?, if_neg (by simp only [World.size_alloc]; omega), alloc_heap?, if_neg (by simp only [World.size_alloc]; omega), alloc_heap?, if_pos rfl]
  have hfb : W1.heap[w.heap.size + 1]? = some (.cells (FrameV.mk i j fr).cells 47 (0, 0)) := by rw [← hW1, alloc_heap?, if_neg (by simp only [World.size_alloc]; omega), alloc_heap?, if_pos (by simp only [World.size_alloc])]; rfl
  have hrb : W1.heap[w.heap.size + 1 + 1]? = some (.cells InsV.zero.cellsA 56 (0, 0)) := by rw [← hW1, alloc_heap?, if_pos (by simp only [World.size_alloc])]; rfl
  have hin := ((Lx.In.one hB1 hpb).put hfb).put hrb
  refine Lx.regionS (by kernel_rfl) (by kernel_rfl) hin (((Lx.Inv.nil _).upd (Nat.le_refl _) _ |>.upd (by omega) _).upd (by omega) _) (by simp only [List.size_toArray, List.length_cons, List.length_nil, Nat.reduceAdd]; rfl) (fun O Z hO hZ => ?_)
  have HO := Lib.hid hO
  clear hO
  clear hin hrb hfb hpb hB1 hW1
  (apply Lx.J.pure 0); (case hi => (rw [HO.out]; simp only [List.getElem?_toArray, List.getElem?_cons_zero, List.getElem?_cons_succ]; rfl)); (case hk => (rw [HO.out]; decide +kernel)); (case hr => (rw [HO.out]; decide +kernel)); (case ht => rfl); (case hw => (rw [HO.out]; rfl)); (case hv => (intro w_ hw_; (go_simp <;> first | with_reducible rfl | exact ⟨rfl, rfl⟩))); (simp only [Act.put, List.setIfInBounds_toArray, List.set_cons_zero, List.set_cons_succ])
  (apply Lx.J.read 1); (case hi => (rw [HO.out]; simp only [List.getElem?_toArray, List.getElem?_cons_zero, List.getElem?_cons_succ]; rfl)); (case hk => (rw [HO.out]; decide +kernel)); (case hr => (rw [HO.out]; decide +kernel)); (case ht => rfl); (case hw => (rw [HO.out]; rfl)); (case hv => (intro w_ hw_; have P_ := hw_.holds (w.heap.size) _ (by (repeat (first | exact Lx.St.upd_at _ _ _ | rw [Lx.St.upd_ne _ _ (by omega)] | rw [Lx.St.add_M]))); have q0 := cellAt P_ 1 rfl; clear P_; (go_simp <;> first | with_reducible rfl | exact ⟨rfl, rfl⟩))); (simp only [Act.put, List.setIfInBounds_toArray, List.set_cons_zero, List.set_cons_succ])
  (apply Lx.J.pure 2); (case hi => (rw [HO.out]; simp only [List.getElem?_toArray, List.getElem?_cons_zero, List.getElem?_cons_succ]; rfl)); (case hk => (rw [HO.out]; decide +kernel)); (case hr => (rw [HO.out]; decide +kernel)); (case ht => rfl); (case hw => (rw [HO.out]; rfl)); (case hv => (intro w_ hw_; (go_simp <;> first | with_reducible rfl | exact ⟨rfl, rfl⟩))); (simp only [Act.put, List.setIfInBounds_toArray, List.set_cons_zero, List.set_cons_succ])
  (apply Lx.J.read 3); (case hi => (rw [HO.out]; simp only [List.getElem?_toArray, List.getElem?_cons_zero, List.getElem?_cons_succ]; rfl)); (case hk => (rw [HO.out]; decide +kernel)); (case hr => (rw [HO.out]; decide +kernel)); (case ht => rfl); (case hw => (rw [HO.out]; rfl)); (case hv => (intro w_ hw_; have P_ := hw_.holds (w.heap.size + 1) _ (by (repeat (first | exact Lx.St.upd_at _ _ _ | rw [Lx.St.upd_ne _ _ (by omega)] | rw [Lx.St.add_M]))); have q0 : w_.cell? ⟨w.heap.size + 1, 0, none⟩ = some (.int .i64 i) := cellAt P_ 0 rfl; clear P_; (go_simp <;> first | with_reducible rfl | exact ⟨rfl, rfl⟩))); (simp only [Act.put, List.setIfInBounds_toArray, List.set_cons_zero, List.set_cons_succ])
  (apply Lx.J.pure 4); (case hi => (rw [HO.out]; simp only [List.getElem?_toArray, List.getElem?_cons_zero, List.getElem?_cons_succ]; rfl)); (case hk => (rw [HO.out]; decide +kernel)); (case hr => (rw [HO.out]; decide +kernel)); (case ht => rfl); (case hw => (rw [HO.out]; rfl)); (case hv => (intro w_ hw_; (go_simp <;> first | with_reducible rfl | exact ⟨rfl, rfl⟩))); (simp only [Act.put, List.setIfInBounds_toArray, List.set_cons_zero, List.set_cons_succ])
  (apply Lx.J.read 5); (case hi => (rw [HO.out]; simp only [List.getElem?_toArray, List.getElem?_cons_zero, List.getElem?_cons_succ]; rfl)); (case hk => (rw [HO.out]; decide +kernel)); (case hr => (rw [HO.out]; decide +kernel)); (case ht => rfl); (case hw => (rw [HO.out]; rfl)); (case hv => (intro w_ hw_; have q0 := Below.at hw_.below g1 HB.out; (go_simp <;> first | with_reducible rfl | exact ⟨rfl, rfl⟩))); (simp only [Act.put, List.setIfInBounds_toArray, List.set_cons_zero, List.set_cons_succ])
  (apply Lx.J.pure 6); (case hi => (rw [HO.out]; simp only [List.getElem?_toArray, List.getElem?_cons_zero, List.getElem?_cons_succ]; rfl)); (case hk => (rw [HO.out]; decide +kernel)); (case hr => (rw [HO.out]; decide +kernel)); (case ht => rfl); (case hw => (rw [HO.out]; rfl)); (case hv => (intro w_ hw_; (go_simp <;> first | with_reducible rfl | exact ⟨rfl, rfl⟩))); (simp only [Act.put, List.setIfInBounds_toArray, List.set_cons_zero, List.set_cons_succ])
  (apply Lx.J.read 7); (case hi => (rw [HO.out]; simp only [List.getElem?_toArray, List.getElem?_cons_zero, List.getElem?_cons_succ]; rfl)); (case hk => (rw [HO.out]; decide +kernel)); (case hr => (rw [HO.out]; decide +kernel)); (case ht => rfl); (case hw => (rw [HO.out]; rfl)); (case hv => (intro w_ hw_; have P_ := hw_.holds (w.heap.size + 1) _ (by (repeat (first | exact Lx.St.upd_at _ _ _ | rw [Lx.St.upd_ne _ _ (by omega)] | rw [Lx.St.add_M]))); have q0 : w_.cell? ⟨w.heap.size + 1, 1, none⟩ = some (.int .i64 j) := cellAt P_ 1 rfl; clear P_; (go_simp <;> first | with_reducible rfl | exact ⟨rfl, rfl⟩))); (simp only [Act.put, List.setIfInBounds_toArray, List.set_cons_zero, List.set_cons_succ])
  (apply Lx.J.pure 8); (case hi => (rw [HO.out]; simp only [List.getElem?_toArray, List.getElem?_cons_zero, List.getElem?_cons_succ]; rfl)); (case hk => (rw [HO.out]; decide +kernel)); (case hr => (rw [HO.out]; decide +kernel)); (case ht => rfl); (case hw => (rw [HO.out]; rfl)); (case hv => (intro w_ hw_; (go_simp <;> first | with_reducible rfl | exact ⟨rfl, rfl⟩))); (simp only [Act.put, List.setIfInBounds_toArray, List.set_cons_zero, List.set_cons_succ])
  (apply Lx.J.read 9); (case hi => (rw [HO.out]; simp only [List.getElem?_toArray, List.getElem?_cons_zero, List.getElem?_cons_succ]; rfl)); (case hk => (rw [HO.out]; decide +kernel)); (case hr => (rw [HO.out]; decide +kernel)); (case ht => rfl); (case hw => (rw [HO.out]; rfl)); (case hv => (intro w_ hw_; have q0 := Below.at hw_.below d0 hb2; have q1 := Below.at hw_.below d1 hb2; have q2 := Below.at hw_.below d2 hb2; have q3 := Below.at hw_.below d3 hb2; have q4 := Below.at hw_.below d4 hb2; (go_simp <;> first | with_reducible rfl | exact ⟨rfl, rfl⟩))); (simp only [Act.put, List.setIfInBounds_toArray, List.set_cons_zero, List.set_cons_succ])
  (apply Lx.J.store 10); (case hi => (rw [HO.out]; simp only [List.getElem?_toArray, List.getElem?_cons_zero, List.getElem?_cons_succ]; rfl)); (case hk => (rw [HO.out]; decide +kernel)); (case hr => (rw [HO.out]; decide +kernel)); (case ht => rfl); (case hw => (rw [HO.out]; rfl)); (case hG => exact fun _ _ h_ _ => h_); (case hg => (repeat (first | exact Lx.St.upd_at _ _ _ | rw [Lx.St.upd_ne _ _ (by omega)] | rw [Lx.St.add_M]))); (case hrun => (intro w_ hw_ hb_; exact storeIns x _ hb_ (fun c0 c1 c2 c3 c4 d0 d1 d2 d3 d4 => by (go_simp <;> first | with_reducible rfl | rfl)))); (simp only [Act.put, List.setIfInBounds_toArray, List.set_cons_zero, List.set_cons_succ])
  refine Lx.J.done (by rw [HO.out]; kernel_rfl) (fun hiv2 => hZ _ _ (fun w2 hw2 => ?_)) _
  clear hZ Z HO O
  have P_ := hw2.holds (w.heap.size + 1 + 1) _ (by (repeat (first | exact Lx.St.upd_at _ _ _ | rw [Lx.St.upd_ne _ _ (by omega)] | rw [Lx.St.add_M])))
  have q0 : w2.cell? ⟨w.heap.size + 1 + 1, 0, none⟩ = some (.int .u8 x.op) := cellAt P_ 0 rfl
  have q1 : w2.cell? ⟨w.heap.size + 1 + 1, 1, none⟩ = some (.int .i64 x.a) := cellAt P_ 1 rfl
  have q2 : w2.cell? ⟨w.heap.size + 1 + 1, 2, none⟩ = some (.int .i64 x.b) := cellAt P_ 2 rfl
  have q3 : w2.cell? ⟨w.heap.size + 1 + 1, 3, none⟩ = some (.int .i64 x.ch) := cellAt P_ 3 rfl
  have q4 : w2.cell? ⟨w.heap.size + 1 + 1, 4, none⟩ = some (.int .i64 x.k) := cellAt P_ 4 rfl
  clear P_
  go_wp2
  exact bodyPost_ret (v := x.agg) (by simp [results, Try.results33, go_sem, q0, q1, q2, q3, q4, InsV.agg]) rfl ⟨rfl, hw2.below⟩
end Go.Proofs.Ytljfloopjgpaeaa
