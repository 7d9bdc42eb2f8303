/- live.Most of two. -/
import Derived.Test.YtljfloopjgpaeabLI
import Derived.LoopN
namespace Go.Proofs.Ytljfloopjgpaeab
set_option linter.unusedVariables false
set_option linter.unusedSimpArgs false
open Go.RowKit Go.Shelf
attribute [local go_sem] Oper.semAt_some
set_option maxRecDepth 100000
def mx (a b : Int) : Int := if a < b then b else a
theorem hmx (a b : Int) : (if a < b then b else a) = mx a b := rfl
theorem mx_self (a : Int) : mx a a = a := by simp [mx]
set_option maxHeartbeats 8000000 in
theorem most2_any {w : World} {g : Nat} (x0 x1 x2 x3 y0 y1 y2 y3 : Int) (hg : w.heap[g]? = some (.cells #[.int .i64 x0, .int .i64 x1, .int .i64 x2, .int .i64 x3, .int .i64 y0, .int .i64 y1, .int .i64 y2, .int .i64 y3] 32 (0, 0))) :
    Calls Try.prog 8 #[.slice (some ⟨g, 0, none⟩) 2 2] w fun e w' => e = .returned (.agg #[.int .i64 (mx (mx 0 x0) y0), .int .i64 (mx (mx 0 x1) y1), .int .i64 (mx (mx 0 x2) y2), .int .i64 (mx (mx 0 x3) y3)]) ∧ Below w.heap.size w w' := by
  have hgl : g < w.heap.size := (Array.getElem?_eq_some_iff.1 hg).1
  have he4 := fun (a0 a1 a2 a3 b0 b1 b2 b3 : Int) (w : World) => eq_a4 9998 a0 a1 a2 a3 b0 b1 b2 b3 w
  have HE := Lib.hid he4
  have HG := Lib.hid hg
  clear he4 hg
  go_enter Try.func8, Try.ntmps8
  go_wp2
  obtain ⟨W0, hW⟩ : ∃ W0, W0 = w.alloc (.cells #[.int .i64 0, .int .i64 0, .int .i64 0, .int .i64 0] 32) := ⟨_, rfl⟩
  have hm : HasC W0 w.heap.size (.cells #[.int .i64 0, .int .i64 0, .int .i64 0, .int .i64 0] 32) := by (rw [hW]; exact World.alloc_heap_new w _)
  have hb : Below w.heap.size w W0 := by rw [hW]; (repeat (first | with_reducible exact Below.refl _ _ | (with_reducible refine Below.setCell ?_ (by first | (simp; done) | (simp; omega) | omega) _) | (with_reducible refine Below.alloc ?_ (by first | (simp; done) | (simp; omega) | omega) _) | (with_reducible refine Below.drew ?_)))
  rw [← hW]
  clear hW
  have HM := Lib.hid hm
  have HB := Lib.hid hb
  clear hm hb
  refine wp_loop_rounds 3 ?_
  rw [rounds_succ]
  have hs := HB.out.size
  have lm := HM.out.lt
  have u0 := Below.at HB.out (Lx.cellAt HG.out 0 rfl) hgl
  have u1 := Below.at HB.out (Lx.cellAt HG.out 1 rfl) hgl
  have u2 := Below.at HB.out (Lx.cellAt HG.out 2 rfl) hgl
  have u3 := Below.at HB.out (Lx.cellAt HG.out 3 rfl) hgl
  have ug := Nat.lt_of_lt_of_le hgl hs
  go_wp2
  clear u0 u1 u2 u3
  obtain ⟨V, hV⟩ : ∃ V, V = W0.alloc (.cells #[.int .i64 x0, .int .i64 x1, .int .i64 x2, .int .i64 x3] 32) := ⟨_, rfl⟩
  have hx : HasC V W0.heap.size (.cells #[.int .i64 x0, .int .i64 x1, .int .i64 x2, .int .i64 x3] 32) := by (rw [hV]; exact World.alloc_heap_new _ _)
  have hbv : Below W0.heap.size W0 V := by rw [hV]; (repeat (first | with_reducible exact Below.refl _ _ | (with_reducible refine Below.setCell ?_ (by first | (simp; done) | (simp; omega) | omega) _) | (with_reducible refine Below.alloc ?_ (by first | (simp; done) | (simp; omega) | omega) _) | (with_reducible refine Below.drew ?_)))
  have hm : HasC V w.heap.size (.cells #[.int .i64 (0), .int .i64 (0), .int .i64 (0), .int .i64 (0)] 32) := (hbv.block _ HM.out.lt).trans HM.out
  have hb := HB.out.trans (hbv.mono hs)
  rw [← hV]
  clear hV
  have HIN := Lib.hid ((((Lx.II.nil hb).put (Nat.le_refl _) hm).put hs hx))
  clear hm hx hb hbv
  refine Lx.regionS (by kernel_rfl) (by kernel_rfl) HIN.out.1 HIN.out.2 (by simp only [List.size_toArray, List.length_cons, List.length_nil, Nat.reduceAdd]; rfl) (fun O Z hO hZ => ?_); have HO := Lib.hid hO; clear hO
  apply Lx.kr HO 0; (case hx => exact ⟨rfl, rfl, rfl⟩); (case hk => decide +kernel); (case hv => intro w_ hw_; have P_ := hw_.holds (W0.heap.size) _ (by (repeat (first | exact Lx.ua _ _ _ | rw [Lx.un _ _ (by omega)] | rw [Lx.am]))); obtain ⟨c0, c1, c2, c3⟩ := Lx.cells4 P_; clear P_; have l_ := hw_.below.size; (go_simp <;> first | with_reducible rfl | exact ⟨rfl, rfl⟩)); simp only [Act.put, Lx.p1, Lx.p2, Lx.p3]
  apply Lx.kr HO 2; (case hx => exact ⟨rfl, rfl, rfl⟩); (case hk => decide +kernel); (case hv => intro w_ hw_; have P_ := hw_.holds (w.heap.size) _ (by (repeat (first | exact Lx.ua _ _ _ | rw [Lx.un _ _ (by omega)] | rw [Lx.am]))); obtain ⟨c0, c1, c2, c3⟩ := Lx.cells4 P_; clear P_; (go_simp <;> first | with_reducible rfl | exact ⟨rfl, rfl⟩)); simp only [Act.put, Lx.p1, Lx.p2, Lx.p3]
  apply Lx.kc HO 1; (case hx => exact ⟨rfl, rfl, rfl⟩); (case hk => decide +kernel); (case hrun => intro w_; (go_simp <;> first | with_reducible rfl | exact ⟨rfl, rfl⟩)); (case hc => intro w_ hw_; exact row_any _ _ _ _ _); simp only [Act.put, Lx.p1, Lx.p2, Lx.p3]
  apply Lx.kc HO 3; (case hx => exact ⟨rfl, rfl, rfl⟩); (case hk => decide +kernel); (case hrun => intro w_; (go_simp <;> first | with_reducible rfl | exact ⟨rfl, rfl⟩)); (case hc => intro w_ hw_; exact row_any _ _ _ _ _); simp only [Act.put, Lx.p1, Lx.p2, Lx.p3]
  (apply Lx.kp HO 4); (case hx => exact ⟨rfl, rfl, rfl⟩); (case hk => decide +kernel); (case hv => (intro w_ hw_; have he_ := HE.out; (go_simp <;> first | with_reducible rfl | rfl))); simp only [Act.put, Lx.p1, Lx.p2, Lx.p3]
  refine Lx.kd HO (by kernel_rfl) (fun hiv2 => hZ _ _ (fun V2 hw2 => ?_))
  clear hZ Z HO O
  have hin_ := Lib.hid (And.intro hw2 hiv2 : Lx.II _ _ _ _)
  clear hw2 hiv2
  replace HIN := Lib.hid (Lx.tk hin_.out (Lx.tk hin_.out (Lx.II.nil hin_.out.1.below) (w.heap.size) (by (repeat (first | exact Lx.ua _ _ _ | rw [Lx.un _ _ (by omega)] | rw [Lx.am])))) (W0.heap.size) (by (repeat (first | exact Lx.ua _ _ _ | rw [Lx.un _ _ (by omega)] | rw [Lx.am]))))
  clear hin_
  cases hq0 : ((x0 : Int) == (0) && ((x1 : Int) == (0) && ((x2 : Int) == (0) && (x3 : Int) == (0))))
  · skip
    have HQ0 := Lib.hid hq0
    (try simp only [hq0])
    clear hq0
    go_upto_region 5 with fail
    refine Lx.regionS0 (by kernel_rfl) (by kernel_rfl) HIN.out.1 HIN.out.2 (by simp only [List.size_toArray, List.length_cons, List.length_nil, Nat.reduceAdd]; rfl) (fun O Z hO hZ => ?_); have HO := Lib.hid hO; clear hO
    apply Lx.kp HO 0; (case hx => exact ⟨rfl, rfl, rfl⟩); (case hk => decide +kernel); (case hv => intro w_ hw_; (go_simp <;> first | with_reducible rfl | exact ⟨rfl, rfl⟩)); simp only [Act.put, Lx.p1, Lx.p2, Lx.p3]
    apply Lx.kr HO 1; (case hx => exact ⟨rfl, rfl, rfl⟩); (case hk => decide +kernel); (case hv => intro w_ hw_; have P_ := hw_.holds (w.heap.size) _ (by (repeat (first | exact Lx.ua _ _ _ | rw [Lx.un _ _ (by omega)] | rw [Lx.am]))); have c_ := Lx.cellAt P_ 0 rfl; clear P_; (go_simp <;> first | with_reducible rfl | exact ⟨rfl, rfl⟩)); simp only [Act.put, Lx.p1, Lx.p2, Lx.p3]
    apply Lx.kp HO 2; (case hx => exact ⟨rfl, rfl, rfl⟩); (case hk => decide +kernel); (case hv => intro w_ hw_; (go_simp <;> first | with_reducible rfl | exact ⟨rfl, rfl⟩)); simp only [Act.put, Lx.p1, Lx.p2, Lx.p3]
    apply Lx.kr HO 3; (case hx => exact ⟨rfl, rfl, rfl⟩); (case hk => decide +kernel); (case hv => intro w_ hw_; have P_ := hw_.holds (W0.heap.size) _ (by (repeat (first | exact Lx.ua _ _ _ | rw [Lx.un _ _ (by omega)] | rw [Lx.am]))); have c_ := Lx.cellAt P_ 0 rfl; clear P_; (go_simp <;> first | with_reducible rfl | exact ⟨rfl, rfl⟩)); simp only [Act.put, Lx.p1, Lx.p2, Lx.p3]
    apply Lx.kr HO 4; (case hx => exact ⟨rfl, rfl, rfl⟩); (case hk => decide +kernel); (case hv => intro w_ hw_; skip; (go_simp <;> first | with_reducible rfl | exact ⟨rfl, rfl⟩)); simp only [Act.put, Lx.p1, Lx.p2, Lx.p3]
    apply Lx.kp HO 5; (case hx => exact ⟨rfl, rfl, rfl⟩); (case hk => decide +kernel); (case hv => intro w_ hw_; (go_simp <;> first | with_reducible rfl | exact ⟨rfl, rfl⟩)); simp only [Act.put, Lx.p1, Lx.p2, Lx.p3]
    apply Lx.kr HO 6; (case hx => exact ⟨rfl, rfl, rfl⟩); (case hk => decide +kernel); (case hv => intro w_ hw_; have P_ := hw_.holds (w.heap.size) _ (by (repeat (first | exact Lx.ua _ _ _ | rw [Lx.un _ _ (by omega)] | rw [Lx.am]))); have c_ := Lx.cellAt P_ 1 rfl; clear P_; (go_simp <;> first | with_reducible rfl | exact ⟨rfl, rfl⟩)); simp only [Act.put, Lx.p1, Lx.p2, Lx.p3]
    apply Lx.kp HO 7; (case hx => exact ⟨rfl, rfl, rfl⟩); (case hk => decide +kernel); (case hv => intro w_ hw_; (go_simp <;> first | with_reducible rfl | exact ⟨rfl, rfl⟩)); simp only [Act.put, Lx.p1, Lx.p2, Lx.p3]
    apply Lx.kr HO 8; (case hx => exact ⟨rfl, rfl, rfl⟩); (case hk => decide +kernel); (case hv => intro w_ hw_; have P_ := hw_.holds (W0.heap.size) _ (by (repeat (first | exact Lx.ua _ _ _ | rw [Lx.un _ _ (by omega)] | rw [Lx.am]))); have c_ := Lx.cellAt P_ 1 rfl; clear P_; (go_simp <;> first | with_reducible rfl | exact ⟨rfl, rfl⟩)); simp only [Act.put, Lx.p1, Lx.p2, Lx.p3]
    apply Lx.kr HO 9; (case hx => exact ⟨rfl, rfl, rfl⟩); (case hk => decide +kernel); (case hv => intro w_ hw_; skip; (go_simp <;> first | with_reducible rfl | exact ⟨rfl, rfl⟩)); simp only [Act.put, Lx.p1, Lx.p2, Lx.p3]
    apply Lx.kp HO 10; (case hx => exact ⟨rfl, rfl, rfl⟩); (case hk => decide +kernel); (case hv => intro w_ hw_; (go_simp <;> first | with_reducible rfl | exact ⟨rfl, rfl⟩)); simp only [Act.put, Lx.p1, Lx.p2, Lx.p3]
    apply Lx.kr HO 11; (case hx => exact ⟨rfl, rfl, rfl⟩); (case hk => decide +kernel); (case hv => intro w_ hw_; have P_ := hw_.holds (w.heap.size) _ (by (repeat (first | exact Lx.ua _ _ _ | rw [Lx.un _ _ (by omega)] | rw [Lx.am]))); have c_ := Lx.cellAt P_ 2 rfl; clear P_; (go_simp <;> first | with_reducible rfl | exact ⟨rfl, rfl⟩)); simp only [Act.put, Lx.p1, Lx.p2, Lx.p3]
    apply Lx.kp HO 12; (case hx => exact ⟨rfl, rfl, rfl⟩); (case hk => decide +kernel); (case hv => intro w_ hw_; (go_simp <;> first | with_reducible rfl | exact ⟨rfl, rfl⟩)); simp only [Act.put, Lx.p1, Lx.p2, Lx.p3]
    apply Lx.kr HO 13; (case hx => exact ⟨rfl, rfl, rfl⟩); (case hk => decide +kernel); (case hv => intro w_ hw_; have P_ := hw_.holds (W0.heap.size) _ (by (repeat (first | exact Lx.ua _ _ _ | rw [Lx.un _ _ (by omega)] | rw [Lx.am]))); have c_ := Lx.cellAt P_ 2 rfl; clear P_; (go_simp <;> first | with_reducible rfl | exact ⟨rfl, rfl⟩)); simp only [Act.put, Lx.p1, Lx.p2, Lx.p3]
    apply Lx.kr HO 14; (case hx => exact ⟨rfl, rfl, rfl⟩); (case hk => decide +kernel); (case hv => intro w_ hw_; skip; (go_simp <;> first | with_reducible rfl | exact ⟨rfl, rfl⟩)); simp only [Act.put, Lx.p1, Lx.p2, Lx.p3]
    apply Lx.kp HO 15; (case hx => exact ⟨rfl, rfl, rfl⟩); (case hk => decide +kernel); (case hv => intro w_ hw_; (go_simp <;> first | with_reducible rfl | exact ⟨rfl, rfl⟩)); simp only [Act.put, Lx.p1, Lx.p2, Lx.p3]
    apply Lx.kr HO 16; (case hx => exact ⟨rfl, rfl, rfl⟩); (case hk => decide +kernel); (case hv => intro w_ hw_; have P_ := hw_.holds (w.heap.size) _ (by (repeat (first | exact Lx.ua _ _ _ | rw [Lx.un _ _ (by omega)] | rw [Lx.am]))); have c_ := Lx.cellAt P_ 3 rfl; clear P_; (go_simp <;> first | with_reducible rfl | exact ⟨rfl, rfl⟩)); simp only [Act.put, Lx.p1, Lx.p2, Lx.p3]
    apply Lx.kp HO 17; (case hx => exact ⟨rfl, rfl, rfl⟩); (case hk => decide +kernel); (case hv => intro w_ hw_; (go_simp <;> first | with_reducible rfl | exact ⟨rfl, rfl⟩)); simp only [Act.put, Lx.p1, Lx.p2, Lx.p3]
    apply Lx.kr HO 18; (case hx => exact ⟨rfl, rfl, rfl⟩); (case hk => decide +kernel); (case hv => intro w_ hw_; have P_ := hw_.holds (W0.heap.size) _ (by (repeat (first | exact Lx.ua _ _ _ | rw [Lx.un _ _ (by omega)] | rw [Lx.am]))); have c_ := Lx.cellAt P_ 3 rfl; clear P_; (go_simp <;> first | with_reducible rfl | exact ⟨rfl, rfl⟩)); simp only [Act.put, Lx.p1, Lx.p2, Lx.p3]
    apply Lx.kr HO 19; (case hx => exact ⟨rfl, rfl, rfl⟩); (case hk => decide +kernel); (case hv => intro w_ hw_; skip; (go_simp <;> first | with_reducible rfl | exact ⟨rfl, rfl⟩)); simp only [Act.put, Lx.p1, Lx.p2, Lx.p3]
    apply Lx.kp HO 20; (case hx => exact ⟨rfl, rfl, rfl⟩); (case hk => decide +kernel); (case hv => intro w_ hw_; (go_simp <;> first | with_reducible rfl | exact ⟨rfl, rfl⟩)); simp only [Act.put, Lx.p1, Lx.p2, Lx.p3]
    apply Lx.ks HO 21 (g := w.heap.size); (case hx => exact ⟨rfl, rfl, rfl⟩); (case hk => decide +kernel); (case hG => exact fun _ _ h_ _ => h_); (case hg => (repeat (first | exact Lx.ua _ _ _ | rw [Lx.un _ _ (by omega)] | rw [Lx.am]))); (case hrun => intro w_ hw_ hb_; obtain ⟨c0, c1, c2, c3⟩ := Lx.cells4 hb_; obtain ⟨d0, d1, d2, d3⟩ := Lx.froz4 hb_; refine ⟨?_, ?_, ?_, ?_⟩; rotate_left; (next => (go_simp <;> first | with_reducible rfl | rfl)); (next => (repeat (first | (with_reducible exact Lx.OnlyAt.refl _ _) | (with_reducible refine Lx.OnlyAt.set ?_ _ _)))); (next => (first | with_reducible exact Lx.sets10 hb_ | with_reducible exact Lx.sets5 hb_ | with_reducible exact Lx.sets3 hb_ | with_reducible exact Lx.sets2 hb_ | with_reducible exact Lx.sets4 hb_ | (simp [World.setCell, Array.getElem?_modify, hb_] <;> rfl)))); simp only [Act.put, Lx.p1, Lx.p2, Lx.p3]
    refine Lx.kd HO (by kernel_rfl) (fun hiv2 => hZ _ _ (fun W0f hw2 => ?_))
    clear hZ Z HO O
    have hmN := hw2.holds (w.heap.size) _ (by (repeat (first | exact Lx.ua _ _ _ | rw [Lx.un _ _ (by omega)] | rw [Lx.am])))
    simp only [hmx] at hmN ⊢
    have hbN := hw2.below
    clear hw2 hiv2 HIN
    replace HM := Lib.hid (show HasC W0f w.heap.size _ from hmN)
    replace HB := Lib.hid hbN
    clear hmN hbN hs lm ug
    go_wp2
    rw [rounds_succ]
    have hs := HB.out.size
    have lm := HM.out.lt
    have u0 := Below.at HB.out (Lx.cellAt HG.out 4 rfl) hgl
    have u1 := Below.at HB.out (Lx.cellAt HG.out 5 rfl) hgl
    have u2 := Below.at HB.out (Lx.cellAt HG.out 6 rfl) hgl
    have u3 := Below.at HB.out (Lx.cellAt HG.out 7 rfl) hgl
    have ug := Nat.lt_of_lt_of_le hgl hs
    go_wp2
    clear u0 u1 u2 u3
    obtain ⟨V, hV⟩ : ∃ V, V = W0f.alloc (.cells #[.int .i64 y0, .int .i64 y1, .int .i64 y2, .int .i64 y3] 32) := ⟨_, rfl⟩
    have hx : HasC V W0f.heap.size (.cells #[.int .i64 y0, .int .i64 y1, .int .i64 y2, .int .i64 y3] 32) := by (rw [hV]; exact World.alloc_heap_new _ _)
    have hbv : Below W0f.heap.size W0f V := by rw [hV]; (repeat (first | with_reducible exact Below.refl _ _ | (with_reducible refine Below.setCell ?_ (by first | (simp; done) | (simp; omega) | omega) _) | (with_reducible refine Below.alloc ?_ (by first | (simp; done) | (simp; omega) | omega) _) | (with_reducible refine Below.drew ?_)))
    have hm : HasC V w.heap.size (.cells #[.int .i64 ((mx 0 x0)), .int .i64 ((mx 0 x1)), .int .i64 ((mx 0 x2)), .int .i64 ((mx 0 x3))] 32) := (hbv.block _ HM.out.lt).trans HM.out
    have hb := HB.out.trans (hbv.mono hs)
    rw [← hV]
    clear hV
    have HIN := Lib.hid ((((Lx.II.nil hb).put (Nat.le_refl _) hm).put hs hx))
    clear hm hx hb hbv
    refine Lx.regionS (by kernel_rfl) (by kernel_rfl) HIN.out.1 HIN.out.2 (by simp only [List.size_toArray, List.length_cons, List.length_nil, Nat.reduceAdd]; rfl) (fun O Z hO hZ => ?_); have HO := Lib.hid hO; clear hO
    apply Lx.kr HO 0; (case hx => exact ⟨rfl, rfl, rfl⟩); (case hk => decide +kernel); (case hv => intro w_ hw_; have P_ := hw_.holds (W0f.heap.size) _ (by (repeat (first | exact Lx.ua _ _ _ | rw [Lx.un _ _ (by omega)] | rw [Lx.am]))); obtain ⟨c0, c1, c2, c3⟩ := Lx.cells4 P_; clear P_; have l_ := hw_.below.size; (go_simp <;> first | with_reducible rfl | exact ⟨rfl, rfl⟩)); simp only [Act.put, Lx.p1, Lx.p2, Lx.p3]
    apply Lx.kr HO 2; (case hx => exact ⟨rfl, rfl, rfl⟩); (case hk => decide +kernel); (case hv => intro w_ hw_; have P_ := hw_.holds (w.heap.size) _ (by (repeat (first | exact Lx.ua _ _ _ | rw [Lx.un _ _ (by omega)] | rw [Lx.am]))); obtain ⟨c0, c1, c2, c3⟩ := Lx.cells4 P_; clear P_; (go_simp <;> first | with_reducible rfl | exact ⟨rfl, rfl⟩)); simp only [Act.put, Lx.p1, Lx.p2, Lx.p3]
    apply Lx.kc HO 1; (case hx => exact ⟨rfl, rfl, rfl⟩); (case hk => decide +kernel); (case hrun => intro w_; (go_simp <;> first | with_reducible rfl | exact ⟨rfl, rfl⟩)); (case hc => intro w_ hw_; exact row_any _ _ _ _ _); simp only [Act.put, Lx.p1, Lx.p2, Lx.p3]
    apply Lx.kc HO 3; (case hx => exact ⟨rfl, rfl, rfl⟩); (case hk => decide +kernel); (case hrun => intro w_; (go_simp <;> first | with_reducible rfl | exact ⟨rfl, rfl⟩)); (case hc => intro w_ hw_; exact row_any _ _ _ _ _); simp only [Act.put, Lx.p1, Lx.p2, Lx.p3]
    (apply Lx.kp HO 4); (case hx => exact ⟨rfl, rfl, rfl⟩); (case hk => decide +kernel); (case hv => (intro w_ hw_; have he_ := HE.out; (go_simp <;> first | with_reducible rfl | rfl))); simp only [Act.put, Lx.p1, Lx.p2, Lx.p3]
    refine Lx.kd HO (by kernel_rfl) (fun hiv2 => hZ _ _ (fun V2 hw2 => ?_))
    clear hZ Z HO O
    have hin_ := Lib.hid (And.intro hw2 hiv2 : Lx.II _ _ _ _)
    clear hw2 hiv2
    replace HIN := Lib.hid (Lx.tk hin_.out (Lx.tk hin_.out (Lx.II.nil hin_.out.1.below) (w.heap.size) (by (repeat (first | exact Lx.ua _ _ _ | rw [Lx.un _ _ (by omega)] | rw [Lx.am])))) (W0f.heap.size) (by (repeat (first | exact Lx.ua _ _ _ | rw [Lx.un _ _ (by omega)] | rw [Lx.am]))))
    clear hin_
    cases hq1 : ((y0 : Int) == ((mx 0 x0)) && ((y1 : Int) == ((mx 0 x1)) && ((y2 : Int) == ((mx 0 x2)) && (y3 : Int) == ((mx 0 x3)))))
    · skip
      have HQ1 := Lib.hid hq1
      (try simp only [hq1])
      clear hq1
      go_upto_region 5 with fail
      refine Lx.regionS0 (by kernel_rfl) (by kernel_rfl) HIN.out.1 HIN.out.2 (by simp only [List.size_toArray, List.length_cons, List.length_nil, Nat.reduceAdd]; rfl) (fun O Z hO hZ => ?_); have HO := Lib.hid hO; clear hO
      apply Lx.kp HO 0; (case hx => exact ⟨rfl, rfl, rfl⟩); (case hk => decide +kernel); (case hv => intro w_ hw_; (go_simp <;> first | with_reducible rfl | exact ⟨rfl, rfl⟩)); simp only [Act.put, Lx.p1, Lx.p2, Lx.p3]
      apply Lx.kr HO 1; (case hx => exact ⟨rfl, rfl, rfl⟩); (case hk => decide +kernel); (case hv => intro w_ hw_; have P_ := hw_.holds (w.heap.size) _ (by (repeat (first | exact Lx.ua _ _ _ | rw [Lx.un _ _ (by omega)] | rw [Lx.am]))); have c_ := Lx.cellAt P_ 0 rfl; clear P_; (go_simp <;> first | with_reducible rfl | exact ⟨rfl, rfl⟩)); simp only [Act.put, Lx.p1, Lx.p2, Lx.p3]
      apply Lx.kp HO 2; (case hx => exact ⟨rfl, rfl, rfl⟩); (case hk => decide +kernel); (case hv => intro w_ hw_; (go_simp <;> first | with_reducible rfl | exact ⟨rfl, rfl⟩)); simp only [Act.put, Lx.p1, Lx.p2, Lx.p3]
      apply Lx.kr HO 3; (case hx => exact ⟨rfl, rfl, rfl⟩); (case hk => decide +kernel); (case hv => intro w_ hw_; have P_ := hw_.holds (W0f.heap.size) _ (by (repeat (first | exact Lx.ua _ _ _ | rw [Lx.un _ _ (by omega)] | rw [Lx.am]))); have c_ := Lx.cellAt P_ 0 rfl; clear P_; (go_simp <;> first | with_reducible rfl | exact ⟨rfl, rfl⟩)); simp only [Act.put, Lx.p1, Lx.p2, Lx.p3]
      apply Lx.kr HO 4; (case hx => exact ⟨rfl, rfl, rfl⟩); (case hk => decide +kernel); (case hv => intro w_ hw_; skip; (go_simp <;> first | with_reducible rfl | exact ⟨rfl, rfl⟩)); simp only [Act.put, Lx.p1, Lx.p2, Lx.p3]
      apply Lx.kp HO 5; (case hx => exact ⟨rfl, rfl, rfl⟩); (case hk => decide +kernel); (case hv => intro w_ hw_; (go_simp <;> first | with_reducible rfl | exact ⟨rfl, rfl⟩)); simp only [Act.put, Lx.p1, Lx.p2, Lx.p3]
      apply Lx.kr HO 6; (case hx => exact ⟨rfl, rfl, rfl⟩); (case hk => decide +kernel); (case hv => intro w_ hw_; have P_ := hw_.holds (w.heap.size) _ (by (repeat (first | exact Lx.ua _ _ _ | rw [Lx.un _ _ (by omega)] | rw [Lx.am]))); have c_ := Lx.cellAt P_ 1 rfl; clear P_; (go_simp <;> first | with_reducible rfl | exact ⟨rfl, rfl⟩)); simp only [Act.put, Lx.p1, Lx.p2, Lx.p3]
      apply Lx.kp HO 7; (case hx => exact ⟨rfl, rfl, rfl⟩); (case hk => decide +kernel); (case hv => intro w_ hw_; (go_simp <;> first | with_reducible rfl | exact ⟨rfl, rfl⟩)); simp only [Act.put, Lx.p1, Lx.p2, Lx.p3]
      apply Lx.kr HO 8; (case hx => exact ⟨rfl, rfl, rfl⟩); (case hk => decide +kernel); (case hv => intro w_ hw_; have P_ := hw_.holds (W0f.heap.size) _ (by (repeat (first | exact Lx.ua _ _ _ | rw [Lx.un _ _ (by omega)] | rw [Lx.am]))); have c_ := Lx.cellAt P_ 1 rfl; clear P_; (go_simp <;> first | with_reducible rfl | exact ⟨rfl, rfl⟩)); simp only [Act.put, Lx.p1, Lx.p2, Lx.p3]
      apply Lx.kr HO 9; (case hx => exact ⟨rfl, rfl, rfl⟩); (case hk => decide +kernel); (case hv => intro w_ hw_; skip; (go_simp <;> first | with_reducible rfl | exact ⟨rfl, rfl⟩)); simp only [Act.put, Lx.p1, Lx.p2, Lx.p3]
      apply Lx.kp HO 10; (case hx => exact ⟨rfl, rfl, rfl⟩); (case hk => decide +kernel); (case hv => intro w_ hw_; (go_simp <;> first | with_reducible rfl | exact ⟨rfl, rfl⟩)); simp only [Act.put, Lx.p1, Lx.p2, Lx.p3]
      apply Lx.kr HO 11; (case hx => exact ⟨rfl, rfl, rfl⟩); (case hk => decide +kernel); (case hv => intro w_ hw_; have P_ := hw_.holds (w.heap.size) _ (by (repeat (first | exact Lx.ua _ _ _ | rw [Lx.un _ _ (by omega)] | rw [Lx.am]))); have c_ := Lx.cellAt P_ 2 rfl; clear P_; (go_simp <;> first | with_reducible rfl | exact ⟨rfl, rfl⟩)); simp only [Act.put, Lx.p1, Lx.p2, Lx.p3]
      apply Lx.kp HO 12; (case hx => exact ⟨rfl, rfl, rfl⟩); (case hk => decide +kernel); (case hv => intro w_ hw_; (go_simp <;> first | with_reducible rfl | exact ⟨rfl, rfl⟩)); simp only [Act.put, Lx.p1, Lx.p2, Lx.p3]
      apply Lx.kr HO 13; (case hx => exact ⟨rfl, rfl, rfl⟩); (case hk => decide +kernel); (case hv => intro w_ hw_; have P_ := hw_.holds (W0f.heap.size) _ (by (repeat (first | exact Lx.ua _ _ _ | rw [Lx.un _ _ (by omega)] | rw [Lx.am]))); have c_ := Lx.cellAt P_ 2 rfl; clear P_; (go_simp <;> first | with_reducible rfl | exact ⟨rfl, rfl⟩)); simp only [Act.put, Lx.p1, Lx.p2, Lx.p3]
      apply Lx.kr HO 14; (case hx => exact ⟨rfl, rfl, rfl⟩); (case hk => decide +kernel); (case hv => intro w_ hw_; skip; (go_simp <;> first | with_reducible rfl | exact ⟨rfl, rfl⟩)); simp only [Act.put, Lx.p1, Lx.p2, Lx.p3]
      apply Lx.kp HO 15; (case hx => exact ⟨rfl, rfl, rfl⟩); (case hk => decide +kernel); (case hv => intro w_ hw_; (go_simp <;> first | with_reducible rfl | exact ⟨rfl, rfl⟩)); simp only [Act.put, Lx.p1, Lx.p2, Lx.p3]
      apply Lx.kr HO 16; (case hx => exact ⟨rfl, rfl, rfl⟩); (case hk => decide +kernel); (case hv => intro w_ hw_; have P_ := hw_.holds (w.heap.size) _ (by (repeat (first | exact Lx.ua _ _ _ | rw [Lx.un _ _ (by omega)] | rw [Lx.am]))); have c_ := Lx.cellAt P_ 3 rfl; clear P_; (go_simp <;> first | with_reducible rfl | exact ⟨rfl, rfl⟩)); simp only [Act.put, Lx.p1, Lx.p2, Lx.p3]
      apply Lx.kp HO 17; (case hx => exact ⟨rfl, rfl, rfl⟩); (case hk => decide +kernel); (case hv => intro w_ hw_; (go_simp <;> first | with_reducible rfl | exact ⟨rfl, rfl⟩)); simp only [Act.put, Lx.p1, Lx.p2, Lx.p3]
      apply Lx.kr HO 18; (case hx => exact ⟨rfl, rfl, rfl⟩); (case hk => decide +kernel); (case hv => intro w_ hw_; have P_ := hw_.holds (W0f.heap.size) _ (by (repeat (first | exact Lx.ua _ _ _ | rw [Lx.un _ _ (by omega)] | rw [Lx.am]))); have c_ := Lx.cellAt P_ 3 rfl; clear P_; (go_simp <;> first | with_reducible rfl | exact ⟨rfl, rfl⟩)); simp only [Act.put, Lx.p1, Lx.p2, Lx.p3]
      apply Lx.kr HO 19; (case hx => exact ⟨rfl, rfl, rfl⟩); (case hk => decide +kernel); (case hv => intro w_ hw_; skip; (go_simp <;> first | with_reducible rfl | exact ⟨rfl, rfl⟩)); simp only [Act.put, Lx.p1, Lx.p2, Lx.p3]
      apply Lx.kp HO 20; (case hx => exact ⟨rfl, rfl, rfl⟩); (case hk => decide +kernel); (case hv => intro w_ hw_; (go_simp <;> first | with_reducible rfl | exact ⟨rfl, rfl⟩)); simp only [Act.put, Lx.p1, Lx.p2, Lx.p3]
      apply Lx.ks HO 21 (g := w.heap.size); (case hx => exact ⟨rfl, rfl, rfl⟩); (case hk => decide +kernel); (case hG => exact fun _ _ h_ _ => h_); (case hg => (repeat (first | exact Lx.ua _ _ _ | rw [Lx.un _ _ (by omega)] | rw [Lx.am]))); (case hrun => intro w_ hw_ hb_; obtain ⟨c0, c1, c2, c3⟩ := Lx.cells4 hb_; obtain ⟨d0, d1, d2, d3⟩ := Lx.froz4 hb_; refine ⟨?_, ?_, ?_, ?_⟩; rotate_left; (next => (go_simp <;> first | with_reducible rfl | rfl)); (next => (repeat (first | (with_reducible exact Lx.OnlyAt.refl _ _) | (with_reducible refine Lx.OnlyAt.set ?_ _ _)))); (next => (first | with_reducible exact Lx.sets10 hb_ | with_reducible exact Lx.sets5 hb_ | with_reducible exact Lx.sets3 hb_ | with_reducible exact Lx.sets2 hb_ | with_reducible exact Lx.sets4 hb_ | (simp [World.setCell, Array.getElem?_modify, hb_] <;> rfl)))); simp only [Act.put, Lx.p1, Lx.p2, Lx.p3]
      refine Lx.kd HO (by kernel_rfl) (fun hiv2 => hZ _ _ (fun W1ff hw2 => ?_))
      clear hZ Z HO O
      have hmN := hw2.holds (w.heap.size) _ (by (repeat (first | exact Lx.ua _ _ _ | rw [Lx.un _ _ (by omega)] | rw [Lx.am])))
      simp only [hmx] at hmN ⊢
      have hbN := hw2.below
      clear hw2 hiv2 HIN
      replace HM := Lib.hid (show HasC W1ff w.heap.size _ from hmN)
      replace HB := Lib.hid hbN
      clear hmN hbN hs lm ug
      go_wp2
      rw [rounds_succ]
      have lm := HM.out.lt
      obtain ⟨m0, m1, m2, m3⟩ := Lx.cells4 HM.out
      obtain ⟨n0, n1, n2, n3⟩ := Lx.froz4 HM.out
      go_wp2
      obtain ⟨z0, z1, z2, z3⟩ := Lx.cells4 (Lx.sets4 (v0 := .int .i64 ((mx (mx 0 x0) y0))) (v1 := .int .i64 ((mx (mx 0 x1) y1))) (v2 := .int .i64 ((mx (mx 0 x2) y2))) (v3 := .int .i64 ((mx (mx 0 x3) y3))) HM.out)
      have v0 : mx (mx 0 x0) y0 = (mx (mx 0 x0) y0) := by first | rfl | (have h0 := HQ0.out; have h1 := HQ1.out; (try simp only [Bool.and_eq_true, beq_iff_eq] at h0); (try simp only [Bool.and_eq_true, beq_iff_eq] at h1); first | rfl | (simp_all [mx]; done) | (rw [← h1.1]; simp_all [mx]; done))
      have v1 : mx (mx 0 x1) y1 = (mx (mx 0 x1) y1) := by first | rfl | (have h0 := HQ0.out; have h1 := HQ1.out; (try simp only [Bool.and_eq_true, beq_iff_eq] at h0); (try simp only [Bool.and_eq_true, beq_iff_eq] at h1); first | rfl | (simp_all [mx]; done) | (rw [← h1.2.1]; simp_all [mx]; done))
      have v2 : mx (mx 0 x2) y2 = (mx (mx 0 x2) y2) := by first | rfl | (have h0 := HQ0.out; have h1 := HQ1.out; (try simp only [Bool.and_eq_true, beq_iff_eq] at h0); (try simp only [Bool.and_eq_true, beq_iff_eq] at h1); first | rfl | (simp_all [mx]; done) | (rw [← h1.2.2.1]; simp_all [mx]; done))
      have v3 : mx (mx 0 x3) y3 = (mx (mx 0 x3) y3) := by first | rfl | (have h0 := HQ0.out; have h1 := HQ1.out; (try simp only [Bool.and_eq_true, beq_iff_eq] at h0); (try simp only [Bool.and_eq_true, beq_iff_eq] at h1); first | rfl | (simp_all [mx]; done) | (rw [← h1.2.2.2]; simp_all [mx]; done))
      rw [v0, v1, v2, v3]
      refine Lx.ret_of (by simp [results, Try.results8, go_sem, z0, z1, z2, z3] <;> (repeat' (first | rfl | apply And.intro))) rfl ⟨rfl, ?_⟩
      exact (((HB.out.setCell (p := ⟨w.heap.size, 0, none⟩) (Nat.le_refl _) _).setCell (p := ⟨w.heap.size, 1, none⟩) (Nat.le_refl _) _).setCell (p := ⟨w.heap.size, 2, none⟩) (Nat.le_refl _) _).setCell (p := ⟨w.heap.size, 3, none⟩) (Nat.le_refl _) _
    · skip
      have HQ1 := Lib.hid hq1
      (try simp only [hq1])
      clear hq1
      obtain ⟨W1ft, hWW⟩ : ∃ W, W = V2 := ⟨_, rfl⟩
      have hmN := HIN.out.1.holds (w.heap.size) _ (by (repeat (first | exact Lx.ua _ _ _ | rw [Lx.un _ _ (by omega)] | rw [Lx.am])))
      have hbN := HIN.out.1.below
      rw [← hWW] at hmN hbN ⊢
      clear hWW HIN
      replace HM := Lib.hid (show HasC W1ft w.heap.size _ from hmN)
      replace HB := Lib.hid hbN
      clear hmN hbN hs lm ug
      go_wp2
      rw [rounds_succ]
      have lm := HM.out.lt
      obtain ⟨m0, m1, m2, m3⟩ := Lx.cells4 HM.out
      obtain ⟨n0, n1, n2, n3⟩ := Lx.froz4 HM.out
      go_wp2
      obtain ⟨z0, z1, z2, z3⟩ := Lx.cells4 (Lx.sets4 (v0 := .int .i64 ((mx 0 x0))) (v1 := .int .i64 ((mx 0 x1))) (v2 := .int .i64 ((mx 0 x2))) (v3 := .int .i64 ((mx 0 x3))) HM.out)
      have v0 : mx (mx 0 x0) y0 = (mx 0 x0) := by first | rfl | (have h0 := HQ0.out; have h1 := HQ1.out; (try simp only [Bool.and_eq_true, beq_iff_eq] at h0); (try simp only [Bool.and_eq_true, beq_iff_eq] at h1); first | rfl | (simp_all [mx]; done) | (rw [← h1.1]; simp_all [mx]; done))
      have v1 : mx (mx 0 x1) y1 = (mx 0 x1) := by first | rfl | (have h0 := HQ0.out; have h1 := HQ1.out; (try simp only [Bool.and_eq_true, beq_iff_eq] at h0); (try simp only [Bool.and_eq_true, beq_iff_eq] at h1); first | rfl | (simp_all [mx]; done) | (rw [← h1.2.1]; simp_all [mx]; done))
      have v2 : mx (mx 0 x2) y2 = (mx 0 x2) := by first | rfl | (have h0 := HQ0.out; have h1 := HQ1.out; (try simp only [Bool.and_eq_true, beq_iff_eq] at h0); (try simp only [Bool.and_eq_true, beq_iff_eq] at h1); first | rfl | (simp_all [mx]; done) | (rw [← h1.2.2.1]; simp_all [mx]; done))
      have v3 : mx (mx 0 x3) y3 = (mx 0 x3) := by first | rfl | (have h0 := HQ0.out; have h1 := HQ1.out; (try simp only [Bool.and_eq_true, beq_iff_eq] at h0); (try simp only [Bool.and_eq_true, beq_iff_eq] at h1); first | rfl | (simp_all [mx]; done) | (rw [← h1.2.2.2]; simp_all [mx]; done))
      rw [v0, v1, v2, v3]
      refine Lx.ret_of (by simp [results, Try.results8, go_sem, z0, z1, z2, z3] <;> (repeat' (first | rfl | apply And.intro))) rfl ⟨rfl, ?_⟩
      exact (((HB.out.setCell (p := ⟨w.heap.size, 0, none⟩) (Nat.le_refl _) _).setCell (p := ⟨w.heap.size, 1, none⟩) (Nat.le_refl _) _).setCell (p := ⟨w.heap.size, 2, none⟩) (Nat.le_refl _) _).setCell (p := ⟨w.heap.size, 3, none⟩) (Nat.le_refl _) _
  · skip
    have HQ0 := Lib.hid hq0
    (try simp only [hq0])
    clear hq0
    obtain ⟨W0t, hWW⟩ : ∃ W, W = V2 := ⟨_, rfl⟩
    have hmN := HIN.out.1.holds (w.heap.size) _ (by (repeat (first | exact Lx.ua _ _ _ | rw [Lx.un _ _ (by omega)] | rw [Lx.am])))
    have hbN := HIN.out.1.below
    rw [← hWW] at hmN hbN ⊢
    clear hWW HIN
    replace HM := Lib.hid (show HasC W0t w.heap.size _ from hmN)
    replace HB := Lib.hid hbN
    clear hmN hbN hs lm ug
    go_wp2
    rw [rounds_succ]
    have hs := HB.out.size
    have lm := HM.out.lt
    have u0 := Below.at HB.out (Lx.cellAt HG.out 4 rfl) hgl
    have u1 := Below.at HB.out (Lx.cellAt HG.out 5 rfl) hgl
    have u2 := Below.at HB.out (Lx.cellAt HG.out 6 rfl) hgl
    have u3 := Below.at HB.out (Lx.cellAt HG.out 7 rfl) hgl
    have ug := Nat.lt_of_lt_of_le hgl hs
    go_wp2
    clear u0 u1 u2 u3
    obtain ⟨V, hV⟩ : ∃ V, V = W0t.alloc (.cells #[.int .i64 y0, .int .i64 y1, .int .i64 y2, .int .i64 y3] 32) := ⟨_, rfl⟩
    have hx : HasC V W0t.heap.size (.cells #[.int .i64 y0, .int .i64 y1, .int .i64 y2, .int .i64 y3] 32) := by (rw [hV]; exact World.alloc_heap_new _ _)
    have hbv : Below W0t.heap.size W0t V := by rw [hV]; (repeat (first | with_reducible exact Below.refl _ _ | (with_reducible refine Below.setCell ?_ (by first | (simp; done) | (simp; omega) | omega) _) | (with_reducible refine Below.alloc ?_ (by first | (simp; done) | (simp; omega) | omega) _) | (with_reducible refine Below.drew ?_)))
    have hm : HasC V w.heap.size (.cells #[.int .i64 (0), .int .i64 (0), .int .i64 (0), .int .i64 (0)] 32) := (hbv.block _ HM.out.lt).trans HM.out
    have hb := HB.out.trans (hbv.mono hs)
    rw [← hV]
    clear hV
    have HIN := Lib.hid ((((Lx.II.nil hb).put (Nat.le_refl _) hm).put hs hx))
    clear hm hx hb hbv
    refine Lx.regionS (by kernel_rfl) (by kernel_rfl) HIN.out.1 HIN.out.2 (by simp only [List.size_toArray, List.length_cons, List.length_nil, Nat.reduceAdd]; rfl) (fun O Z hO hZ => ?_); have HO := Lib.hid hO; clear hO
    apply Lx.kr HO 0; (case hx => exact ⟨rfl, rfl, rfl⟩); (case hk => decide +kernel); (case hv => intro w_ hw_; have P_ := hw_.holds (W0t.heap.size) _ (by (repeat (first | exact Lx.ua _ _ _ | rw [Lx.un _ _ (by omega)] | rw [Lx.am]))); obtain ⟨c0, c1, c2, c3⟩ := Lx.cells4 P_; clear P_; have l_ := hw_.below.size; (go_simp <;> first | with_reducible rfl | exact ⟨rfl, rfl⟩)); simp only [Act.put, Lx.p1, Lx.p2, Lx.p3]
    apply Lx.kr HO 2; (case hx => exact ⟨rfl, rfl, rfl⟩); (case hk => decide +kernel); (case hv => intro w_ hw_; have P_ := hw_.holds (w.heap.size) _ (by (repeat (first | exact Lx.ua _ _ _ | rw [Lx.un _ _ (by omega)] | rw [Lx.am]))); obtain ⟨c0, c1, c2, c3⟩ := Lx.cells4 P_; clear P_; (go_simp <;> first | with_reducible rfl | exact ⟨rfl, rfl⟩)); simp only [Act.put, Lx.p1, Lx.p2, Lx.p3]
    apply Lx.kc HO 1; (case hx => exact ⟨rfl, rfl, rfl⟩); (case hk => decide +kernel); (case hrun => intro w_; (go_simp <;> first | with_reducible rfl | exact ⟨rfl, rfl⟩)); (case hc => intro w_ hw_; exact row_any _ _ _ _ _); simp only [Act.put, Lx.p1, Lx.p2, Lx.p3]
    apply Lx.kc HO 3; (case hx => exact ⟨rfl, rfl, rfl⟩); (case hk => decide +kernel); (case hrun => intro w_; (go_simp <;> first | with_reducible rfl | exact ⟨rfl, rfl⟩)); (case hc => intro w_ hw_; exact row_any _ _ _ _ _); simp only [Act.put, Lx.p1, Lx.p2, Lx.p3]
    (apply Lx.kp HO 4); (case hx => exact ⟨rfl, rfl, rfl⟩); (case hk => decide +kernel); (case hv => (intro w_ hw_; have he_ := HE.out; (go_simp <;> first | with_reducible rfl | rfl))); simp only [Act.put, Lx.p1, Lx.p2, Lx.p3]
    refine Lx.kd HO (by kernel_rfl) (fun hiv2 => hZ _ _ (fun V2 hw2 => ?_))
    clear hZ Z HO O
    have hin_ := Lib.hid (And.intro hw2 hiv2 : Lx.II _ _ _ _)
    clear hw2 hiv2
    replace HIN := Lib.hid (Lx.tk hin_.out (Lx.tk hin_.out (Lx.II.nil hin_.out.1.below) (w.heap.size) (by (repeat (first | exact Lx.ua _ _ _ | rw [Lx.un _ _ (by omega)] | rw [Lx.am])))) (W0t.heap.size) (by (repeat (first | exact Lx.ua _ _ _ | rw [Lx.un _ _ (by omega)] | rw [Lx.am]))))
    clear hin_
    cases hq1 : ((y0 : Int) == (0) && ((y1 : Int) == (0) && ((y2 : Int) == (0) && (y3 : Int) == (0))))
    · skip
      have HQ1 := Lib.hid hq1
      (try simp only [hq1])
      clear hq1
      go_upto_region 5 with fail
      refine Lx.regionS0 (by kernel_rfl) (by kernel_rfl) HIN.out.1 HIN.out.2 (by simp only [List.size_toArray, List.length_cons, List.length_nil, Nat.reduceAdd]; rfl) (fun O Z hO hZ => ?_); have HO := Lib.hid hO; clear hO
      apply Lx.kp HO 0; (case hx => exact ⟨rfl, rfl, rfl⟩); (case hk => decide +kernel); (case hv => intro w_ hw_; (go_simp <;> first | with_reducible rfl | exact ⟨rfl, rfl⟩)); simp only [Act.put, Lx.p1, Lx.p2, Lx.p3]
      apply Lx.kr HO 1; (case hx => exact ⟨rfl, rfl, rfl⟩); (case hk => decide +kernel); (case hv => intro w_ hw_; have P_ := hw_.holds (w.heap.size) _ (by (repeat (first | exact Lx.ua _ _ _ | rw [Lx.un _ _ (by omega)] | rw [Lx.am]))); have c_ := Lx.cellAt P_ 0 rfl; clear P_; (go_simp <;> first | with_reducible rfl | exact ⟨rfl, rfl⟩)); simp only [Act.put, Lx.p1, Lx.p2, Lx.p3]
      apply Lx.kp HO 2; (case hx => exact ⟨rfl, rfl, rfl⟩); (case hk => decide +kernel); (case hv => intro w_ hw_; (go_simp <;> first | with_reducible rfl | exact ⟨rfl, rfl⟩)); simp only [Act.put, Lx.p1, Lx.p2, Lx.p3]
      apply Lx.kr HO 3; (case hx => exact ⟨rfl, rfl, rfl⟩); (case hk => decide +kernel); (case hv => intro w_ hw_; have P_ := hw_.holds (W0t.heap.size) _ (by (repeat (first | exact Lx.ua _ _ _ | rw [Lx.un _ _ (by omega)] | rw [Lx.am]))); have c_ := Lx.cellAt P_ 0 rfl; clear P_; (go_simp <;> first | with_reducible rfl | exact ⟨rfl, rfl⟩)); simp only [Act.put, Lx.p1, Lx.p2, Lx.p3]
      apply Lx.kr HO 4; (case hx => exact ⟨rfl, rfl, rfl⟩); (case hk => decide +kernel); (case hv => intro w_ hw_; skip; (go_simp <;> first | with_reducible rfl | exact ⟨rfl, rfl⟩)); simp only [Act.put, Lx.p1, Lx.p2, Lx.p3]
      apply Lx.kp HO 5; (case hx => exact ⟨rfl, rfl, rfl⟩); (case hk => decide +kernel); (case hv => intro w_ hw_; (go_simp <;> first | with_reducible rfl | exact ⟨rfl, rfl⟩)); simp only [Act.put, Lx.p1, Lx.p2, Lx.p3]
      apply Lx.kr HO 6; (case hx => exact ⟨rfl, rfl, rfl⟩); (case hk => decide +kernel); (case hv => intro w_ hw_; have P_ := hw_.holds (w.heap.size) _ (by (repeat (first | exact Lx.ua _ _ _ | rw [Lx.un _ _ (by omega)] | rw [Lx.am]))); have c_ := Lx.cellAt P_ 1 rfl; clear P_; (go_simp <;> first | with_reducible rfl | exact ⟨rfl, rfl⟩)); simp only [Act.put, Lx.p1, Lx.p2, Lx.p3]
      apply Lx.kp HO 7; (case hx => exact ⟨rfl, rfl, rfl⟩); (case hk => decide +kernel); (case hv => intro w_ hw_; (go_simp <;> first | with_reducible rfl | exact ⟨rfl, rfl⟩)); simp only [Act.put, Lx.p1, Lx.p2, Lx.p3]
      apply Lx.kr HO 8; (case hx => exact ⟨rfl, rfl, rfl⟩); (case hk => decide +kernel); (case hv => intro w_ hw_; have P_ := hw_.holds (W0t.heap.size) _ (by (repeat (first | exact Lx.ua _ _ _ | rw [Lx.un _ _ (by omega)] | rw [Lx.am]))); have c_ := Lx.cellAt P_ 1 rfl; clear P_; (go_simp <;> first | with_reducible rfl | exact ⟨rfl, rfl⟩)); simp only [Act.put, Lx.p1, Lx.p2, Lx.p3]
      apply Lx.kr HO 9; (case hx => exact ⟨rfl, rfl, rfl⟩); (case hk => decide +kernel); (case hv => intro w_ hw_; skip; (go_simp <;> first | with_reducible rfl | exact ⟨rfl, rfl⟩)); simp only [Act.put, Lx.p1, Lx.p2, Lx.p3]
      apply Lx.kp HO 10; (case hx => exact ⟨rfl, rfl, rfl⟩); (case hk => decide +kernel); (case hv => intro w_ hw_; (go_simp <;> first | with_reducible rfl | exact ⟨rfl, rfl⟩)); simp only [Act.put, Lx.p1, Lx.p2, Lx.p3]
      apply Lx.kr HO 11; (case hx => exact ⟨rfl, rfl, rfl⟩); (case hk => decide +kernel); (case hv => intro w_ hw_; have P_ := hw_.holds (w.heap.size) _ (by (repeat (first | exact Lx.ua _ _ _ | rw [Lx.un _ _ (by omega)] | rw [Lx.am]))); have c_ := Lx.cellAt P_ 2 rfl; clear P_; (go_simp <;> first | with_reducible rfl | exact ⟨rfl, rfl⟩)); simp only [Act.put, Lx.p1, Lx.p2, Lx.p3]
      apply Lx.kp HO 12; (case hx => exact ⟨rfl, rfl, rfl⟩); (case hk => decide +kernel); (case hv => intro w_ hw_; (go_simp <;> first | with_reducible rfl | exact ⟨rfl, rfl⟩)); simp only [Act.put, Lx.p1, Lx.p2, Lx.p3]
      apply Lx.kr HO 13; (case hx => exact ⟨rfl, rfl, rfl⟩); (case hk => decide +kernel); (case hv => intro w_ hw_; have P_ := hw_.holds (W0t.heap.size) _ (by (repeat (first | exact Lx.ua _ _ _ | rw [Lx.un _ _ (by omega)] | rw [Lx.am]))); have c_ := Lx.cellAt P_ 2 rfl; clear P_; (go_simp <;> first | with_reducible rfl | exact ⟨rfl, rfl⟩)); simp only [Act.put, Lx.p1, Lx.p2, Lx.p3]
      apply Lx.kr HO 14; (case hx => exact ⟨rfl, rfl, rfl⟩); (case hk => decide +kernel); (case hv => intro w_ hw_; skip; (go_simp <;> first | with_reducible rfl | exact ⟨rfl, rfl⟩)); simp only [Act.put, Lx.p1, Lx.p2, Lx.p3]
      apply Lx.kp HO 15; (case hx => exact ⟨rfl, rfl, rfl⟩); (case hk => decide +kernel); (case hv => intro w_ hw_; (go_simp <;> first | with_reducible rfl | exact ⟨rfl, rfl⟩)); simp only [Act.put, Lx.p1, Lx.p2, Lx.p3]
      apply Lx.kr HO 16; (case hx => exact ⟨rfl, rfl, rfl⟩); (case hk => decide +kernel); (case hv => intro w_ hw_; have P_ := hw_.holds (w.heap.size) _ (by (repeat (first | exact Lx.ua _ _ _ | rw [Lx.un _ _ (by omega)] | rw [Lx.am]))); have c_ := Lx.cellAt P_ 3 rfl; clear P_; (go_simp <;> first | with_reducible rfl | exact ⟨rfl, rfl⟩)); simp only [Act.put, Lx.p1, Lx.p2, Lx.p3]
      apply Lx.kp HO 17; (case hx => exact ⟨rfl, rfl, rfl⟩); (case hk => decide +kernel); (case hv => intro w_ hw_; (go_simp <;> first | with_reducible rfl | exact ⟨rfl, rfl⟩)); simp only [Act.put, Lx.p1, Lx.p2, Lx.p3]
      apply Lx.kr HO 18; (case hx => exact ⟨rfl, rfl, rfl⟩); (case hk => decide +kernel); (case hv => intro w_ hw_; have P_ := hw_.holds (W0t.heap.size) _ (by (repeat (first | exact Lx.ua _ _ _ | rw [Lx.un _ _ (by omega)] | rw [Lx.am]))); have c_ := Lx.cellAt P_ 3 rfl; clear P_; (go_simp <;> first | with_reducible rfl | exact ⟨rfl, rfl⟩)); simp only [Act.put, Lx.p1, Lx.p2, Lx.p3]
      apply Lx.kr HO 19; (case hx => exact ⟨rfl, rfl, rfl⟩); (case hk => decide +kernel); (case hv => intro w_ hw_; skip; (go_simp <;> first | with_reducible rfl | exact ⟨rfl, rfl⟩)); simp only [Act.put, Lx.p1, Lx.p2, Lx.p3]
      apply Lx.kp HO 20; (case hx => exact ⟨rfl, rfl, rfl⟩); (case hk => decide +kernel); (case hv => intro w_ hw_; (go_simp <;> first | with_reducible rfl | exact ⟨rfl, rfl⟩)); simp only [Act.put, Lx.p1, Lx.p2, Lx.p3]
      apply Lx.ks HO 21 (g := w.heap.size); (case hx => exact ⟨rfl, rfl, rfl⟩); (case hk => decide +kernel); (case hG => exact fun _ _ h_ _ => h_); (case hg => (repeat (first | exact Lx.ua _ _ _ | rw [Lx.un _ _ (by omega)] | rw [Lx.am]))); (case hrun => intro w_ hw_ hb_; obtain ⟨c0, c1, c2, c3⟩ := Lx.cells4 hb_; obtain ⟨d0, d1, d2, d3⟩ := Lx.froz4 hb_; refine ⟨?_, ?_, ?_, ?_⟩; rotate_left; (next => (go_simp <;> first | with_reducible rfl | rfl)); (next => (repeat (first | (with_reducible exact Lx.OnlyAt.refl _ _) | (with_reducible refine Lx.OnlyAt.set ?_ _ _)))); (next => (first | with_reducible exact Lx.sets10 hb_ | with_reducible exact Lx.sets5 hb_ | with_reducible exact Lx.sets3 hb_ | with_reducible exact Lx.sets2 hb_ | with_reducible exact Lx.sets4 hb_ | (simp [World.setCell, Array.getElem?_modify, hb_] <;> rfl)))); simp only [Act.put, Lx.p1, Lx.p2, Lx.p3]
      refine Lx.kd HO (by kernel_rfl) (fun hiv2 => hZ _ _ (fun W1tf hw2 => ?_))
      clear hZ Z HO O
      have hmN := hw2.holds (w.heap.size) _ (by (repeat (first | exact Lx.ua _ _ _ | rw [Lx.un _ _ (by omega)] | rw [Lx.am])))
      simp only [hmx] at hmN ⊢
      have hbN := hw2.below
      clear hw2 hiv2 HIN
      replace HM := Lib.hid (show HasC W1tf w.heap.size _ from hmN)
      replace HB := Lib.hid hbN
      clear hmN hbN hs lm ug
      go_wp2
      rw [rounds_succ]
      have lm := HM.out.lt
      obtain ⟨m0, m1, m2, m3⟩ := Lx.cells4 HM.out
      obtain ⟨n0, n1, n2, n3⟩ := Lx.froz4 HM.out
      go_wp2
      obtain ⟨z0, z1, z2, z3⟩ := Lx.cells4 (Lx.sets4 (v0 := .int .i64 ((mx 0 y0))) (v1 := .int .i64 ((mx 0 y1))) (v2 := .int .i64 ((mx 0 y2))) (v3 := .int .i64 ((mx 0 y3))) HM.out)
      have v0 : mx (mx 0 x0) y0 = (mx 0 y0) := by first | rfl | (have h0 := HQ0.out; have h1 := HQ1.out; (try simp only [Bool.and_eq_true, beq_iff_eq] at h0); (try simp only [Bool.and_eq_true, beq_iff_eq] at h1); first | rfl | (simp_all [mx]; done) | (rw [← h1.1]; simp_all [mx]; done))
      have v1 : mx (mx 0 x1) y1 = (mx 0 y1) := by first | rfl | (have h0 := HQ0.out; have h1 := HQ1.out; (try simp only [Bool.and_eq_true, beq_iff_eq] at h0); (try simp only [Bool.and_eq_true, beq_iff_eq] at h1); first | rfl | (simp_all [mx]; done) | (rw [← h1.2.1]; simp_all [mx]; done))
      have v2 : mx (mx 0 x2) y2 = (mx 0 y2) := by first | rfl | (have h0 := HQ0.out; have h1 := HQ1.out; (try simp only [Bool.and_eq_true, beq_iff_eq] at h0); (try simp only [Bool.and_eq_true, beq_iff_eq] at h1); first | rfl | (simp_all [mx]; done) | (rw [← h1.2.2.1]; simp_all [mx]; done))
      have v3 : mx (mx 0 x3) y3 = (mx 0 y3) := by first | rfl | (have h0 := HQ0.out; have h1 := HQ1.out; (try simp only [Bool.and_eq_true, beq_iff_eq] at h0); (try simp only [Bool.and_eq_true, beq_iff_eq] at h1); first | rfl | (simp_all [mx]; done) | (rw [← h1.2.2.2]; simp_all [mx]; done))
      rw [v0, v1, v2, v3]
      refine Lx.ret_of (by simp [results, Try.results8, go_sem, z0, z1, z2, z3] <;> (repeat' (first | rfl | apply And.intro))) rfl ⟨rfl, ?_⟩
      exact (((HB.out.setCell (p := ⟨w.heap.size, 0, none⟩) (Nat.le_refl _) _).setCell (p := ⟨w.heap.size, 1, none⟩) (Nat.le_refl _) _).setCell (p := ⟨w.heap.size, 2, none⟩) (Nat.le_refl _) _).setCell (p := ⟨w.heap.size, 3, none⟩) (Nat.le_refl _) _
    · skip
      have HQ1 := Lib.hid hq1
      (try simp only [hq1])
      clear hq1
      obtain ⟨W1tt, hWW⟩ : ∃ W, W = V2 := ⟨_, rfl⟩
      have hmN := HIN.out.1.holds (w.heap.size) _ (by (repeat (first | exact Lx.ua _ _ _ | rw [Lx.un _ _ (by omega)] | rw [Lx.am])))
      have hbN := HIN.out.1.below
      rw [← hWW] at hmN hbN ⊢
      clear hWW HIN
      replace HM := Lib.hid (show HasC W1tt w.heap.size _ from hmN)
      replace HB := Lib.hid hbN
      clear hmN hbN hs lm ug
      go_wp2
      rw [rounds_succ]
      have lm := HM.out.lt
      obtain ⟨m0, m1, m2, m3⟩ := Lx.cells4 HM.out
      obtain ⟨n0, n1, n2, n3⟩ := Lx.froz4 HM.out
      go_wp2
      obtain ⟨z0, z1, z2, z3⟩ := Lx.cells4 (Lx.sets4 (v0 := .int .i64 (0)) (v1 := .int .i64 (0)) (v2 := .int .i64 (0)) (v3 := .int .i64 (0)) HM.out)
      have v0 : mx (mx 0 x0) y0 = 0 := by first | rfl | (have h0 := HQ0.out; have h1 := HQ1.out; (try simp only [Bool.and_eq_true, beq_iff_eq] at h0); (try simp only [Bool.and_eq_true, beq_iff_eq] at h1); first | rfl | (simp_all [mx]; done) | (rw [← h1.1]; simp_all [mx]; done))
      have v1 : mx (mx 0 x1) y1 = 0 := by first | rfl | (have h0 := HQ0.out; have h1 := HQ1.out; (try simp only [Bool.and_eq_true, beq_iff_eq] at h0); (try simp only [Bool.and_eq_true, beq_iff_eq] at h1); first | rfl | (simp_all [mx]; done) | (rw [← h1.2.1]; simp_all [mx]; done))
      have v2 : mx (mx 0 x2) y2 = 0 := by first | rfl | (have h0 := HQ0.out; have h1 := HQ1.out; (try simp only [Bool.and_eq_true, beq_iff_eq] at h0); (try simp only [Bool.and_eq_true, beq_iff_eq] at h1); first | rfl | (simp_all [mx]; done) | (rw [← h1.2.2.1]; simp_all [mx]; done))
      have v3 : mx (mx 0 x3) y3 = 0 := by first | rfl | (have h0 := HQ0.out; have h1 := HQ1.out; (try simp only [Bool.and_eq_true, beq_iff_eq] at h0); (try simp only [Bool.and_eq_true, beq_iff_eq] at h1); first | rfl | (simp_all [mx]; done) | (rw [← h1.2.2.2]; simp_all [mx]; done))
      rw [v0, v1, v2, v3]
      refine Lx.ret_of (by simp [results, Try.results8, go_sem, z0, z1, z2, z3] <;> (repeat' (first | rfl | apply And.intro))) rfl ⟨rfl, ?_⟩
      exact (((HB.out.setCell (p := ⟨w.heap.size, 0, none⟩) (Nat.le_refl _) _).setCell (p := ⟨w.heap.size, 1, none⟩) (Nat.le_refl _) _).setCell (p := ⟨w.heap.size, 2, none⟩) (Nat.le_refl _) _).setCell (p := ⟨w.heap.size, 3, none⟩) (Nat.le_refl _) _
end Go.Proofs.Ytljfloopjgpaeab
