/- bound.locks, Of of a size of ones; live.Within, Size of the example. -/
import Derived.Test.YtljfloopjgpaeabLK
import Derived.Test.YtljfloopjgpaeabLL
namespace Go.Proofs.Ytljfloopjgpaeab
set_option linter.unusedVariables false
set_option linter.unusedSimpArgs false
open Go.RowKit Go.Shelf
attribute [local go_sem] Oper.semAt_some
set_option maxRecDepth 100000
theorem sets6 {w : World} {B t : Nat} {z : Nat × Nat} {u0 u1 u2 u3 u4 u5 v0 v1 v2 v3 v4 v5 : Value} (h : w.heap[B]? = some (.cells #[u0, u1, u2, u3, u4, u5] t z)) : ((((((w.setCell ⟨B, 0, none⟩ v0).setCell ⟨B, 1, none⟩ v1).setCell ⟨B, 2, none⟩ v2).setCell ⟨B, 3, none⟩ v3).setCell ⟨B, 4, none⟩ v4).setCell ⟨B, 5, none⟩ v5).heap[B]? = some (.cells #[v0, v1, v2, v3, v4, v5] t z) := by
  simp [World.setCell, Array.getElem?_modify, h]
def onesO : Obj := .cells #[.int .i64 1, .int .i64 1, .int .i64 1, .int .i64 1, .int .i64 1, .int .i64 1] 48
set_option maxHeartbeats 4000000 in
theorem locks_1 (w : World) : Calls Try.prog 61 #[.agg #[.int .i64 1, .int .i64 1, .int .i64 1, .int .i64 1, .int .i64 1, .int .i64 1]] w fun e w' => e = .returned (.tuple #[.agg #[.int .u64 56, .int .u64 0, .int .u64 0, .int .u64 0, .int .u64 0, .int .u64 0], .int .u64 58]) ∧ Below w.heap.size w w' := by
  go_enter Try.func61, Try.ntmps61
  go_wp2
  refine wp_loop_rounds 2 ?_
  rw [rounds_succ]
  go_wp2
  refine Lx.start2 (fun W1 hII => ?_)
  have HIN := Lib.hid hII
  clear hII
  refine Lx.regionS (by kernel_rfl) (by kernel_rfl) HIN.out.1 HIN.out.2 (by simp only [List.size_toArray, List.length_cons, List.length_nil, Nat.reduceAdd]; rfl) (fun O Z hO hZ => ?_); have HO := Lib.hid hO; clear hO
  apply Lx.kp HO 0; (case hx => exact ⟨rfl, rfl, rfl⟩); (case hk => decide +kernel); (case hv => intro w_ hw_; (go_simp <;> first | with_reducible rfl | exact ⟨rfl, rfl⟩)); simp only [Act.put, Lx.p1, Lx.p2, Lx.p3]
  apply Lx.kp HO 1; (case hx => exact ⟨rfl, rfl, rfl⟩); (case hk => decide +kernel); (case hv => intro w_ hw_; (go_simp <;> first | with_reducible rfl | exact ⟨rfl, rfl⟩)); simp only [Act.put, Lx.p1, Lx.p2, Lx.p3]
  apply Lx.kr HO 2; (case hx => exact ⟨rfl, rfl, rfl⟩); (case hk => decide +kernel); (case hv => intro w_ hw_; have P_ := hw_.holds (w.heap.size) _ (by (repeat (first | exact Lx.ua _ _ _ | rw [Lx.un _ _ (by omega)] | rw [Lx.am]))); have y0 := Lx.cellAt P_ 0 rfl; have y1 := Lx.cellAt P_ 1 rfl; have y2 := Lx.cellAt P_ 2 rfl; have y3 := Lx.cellAt P_ 3 rfl; have y4 := Lx.cellAt P_ 4 rfl; have y5 := Lx.cellAt P_ 5 rfl; have l_ := (Array.getElem?_eq_some_iff.1 P_).1; clear P_; (go_simp <;> first | with_reducible rfl | exact ⟨rfl, rfl⟩)); simp only [Act.put, Lx.p1, Lx.p2, Lx.p3]
  apply Lx.kp HO 3; (case hx => exact ⟨rfl, rfl, rfl⟩); (case hk => decide +kernel); (case hv => intro w_ hw_; (go_simp <;> first | with_reducible rfl | exact ⟨rfl, rfl⟩)); simp only [Act.put, Lx.p1, Lx.p2, Lx.p3]
  apply Lx.kr HO 4; (case hx => exact ⟨rfl, rfl, rfl⟩); (case hk => decide +kernel); (case hv => intro w_ hw_; have P_ := hw_.holds (w.heap.size) _ (by (repeat (first | exact Lx.ua _ _ _ | rw [Lx.un _ _ (by omega)] | rw [Lx.am]))); have y0 := Lx.cellAt P_ 0 rfl; have y1 := Lx.cellAt P_ 1 rfl; have y2 := Lx.cellAt P_ 2 rfl; have y3 := Lx.cellAt P_ 3 rfl; have y4 := Lx.cellAt P_ 4 rfl; have y5 := Lx.cellAt P_ 5 rfl; have l_ := (Array.getElem?_eq_some_iff.1 P_).1; clear P_; (go_simp <;> first | with_reducible rfl | exact ⟨rfl, rfl⟩)); simp only [Act.put, Lx.p1, Lx.p2, Lx.p3]
  apply Lx.kp HO 6; (case hx => exact ⟨rfl, rfl, rfl⟩); (case hk => decide +kernel); (case hv => intro w_ hw_; (go_simp <;> first | with_reducible rfl | exact ⟨rfl, rfl⟩)); simp only [Act.put, Lx.p1, Lx.p2, Lx.p3]
  apply Lx.kc HO 5; (case hx => exact ⟨rfl, rfl, rfl⟩); (case hk => decide +kernel); (case hrun => intro w_; (go_simp <;> first | with_reducible rfl | exact ⟨rfl, rfl⟩)); (case hc => intro w_ hw_; exact hold_1 _); simp only [Act.put, Lx.p1, Lx.p2, Lx.p3]
  apply Lx.kn HO 7 (mk := fun n => .slice (some ⟨n, 0, none⟩) 2 2); (case hx => exact ⟨rfl, rfl, rfl⟩); (case hk => decide +kernel); (case hrun => intro w_; (go_simp <;> first | with_reducible rfl | exact ⟨rfl, rfl⟩)); simp only [Act.put, Lx.p1, Lx.p2, Lx.p3]
  intro g7 hg7 hfr
  (repeat (first | (rw [Lx.St.add_M] at hfr) | (replace hfr := Lx.St.fresh_upd hfr; have n_ := hfr.1; replace hfr := hfr.2))); clear hfr
  apply Lx.kc HO 8; (case hx => exact ⟨rfl, rfl, rfl⟩); (case hk => decide +kernel); (case hrun => intro w_; (go_simp <;> first | with_reducible rfl | exact ⟨rfl, rfl⟩)); (case hc => intro w_ hw_; have P_ := hw_.holds (g7) _ (by (repeat (first | exact Lx.ua _ _ _ | rw [Lx.un _ _ (by omega)] | rw [Lx.am]))); exact plus_56_0 P_); simp only [Act.put, Lx.p1, Lx.p2, Lx.p3]
  apply Lx.kn HO 9 (mk := fun n => .slice (some ⟨n, 0, none⟩) 2 2); (case hx => exact ⟨rfl, rfl, rfl⟩); (case hk => decide +kernel); (case hrun => intro w_; (go_simp <;> first | with_reducible rfl | exact ⟨rfl, rfl⟩)); simp only [Act.put, Lx.p1, Lx.p2, Lx.p3]
  intro g9 hg9 hfr
  (repeat (first | (rw [Lx.St.add_M] at hfr) | (replace hfr := Lx.St.fresh_upd hfr; have n_ := hfr.1; replace hfr := hfr.2))); clear hfr
  apply Lx.kc HO 10; (case hx => exact ⟨rfl, rfl, rfl⟩); (case hk => decide +kernel); (case hrun => intro w_; (go_simp <;> first | with_reducible rfl | exact ⟨rfl, rfl⟩)); (case hc => intro w_ hw_; have P_ := hw_.holds (g9) _ (by (repeat (first | exact Lx.ua _ _ _ | rw [Lx.un _ _ (by omega)] | rw [Lx.am]))); exact times_1_56 P_); simp only [Act.put, Lx.p1, Lx.p2, Lx.p3]
  apply Lx.kp HO 11; (case hx => exact ⟨rfl, rfl, rfl⟩); (case hk => decide +kernel); (case hv => intro w_ hw_; (go_simp <;> first | with_reducible rfl | exact ⟨rfl, rfl⟩)); simp only [Act.put, Lx.p1, Lx.p2, Lx.p3]
  apply Lx.ks HO 12 (g := w.heap.size + 1); (case hx => exact ⟨rfl, rfl, rfl⟩); (case hk => decide +kernel); (case hG => exact fun _ _ h_ _ => h_); (case hg => (repeat (first | exact Lx.ua _ _ _ | rw [Lx.un _ _ (by omega)] | rw [Lx.am]))); (case hrun => intro w_ hw_ hb_; have d0 := Lx.cellAt hb_ 0 rfl; have d1 := Lx.frozAt hb_ 0; have l_ := (Array.getElem?_eq_some_iff.1 hb_).1; refine ⟨?_, ?_, ?_, ?_⟩; rotate_left; (next => (go_simp <;> first | with_reducible rfl | rfl)); (next => (repeat (first | (with_reducible exact Lx.OnlyAt.refl _ _) | (with_reducible refine Lx.OnlyAt.set ?_ _ _)))); (next => (first | with_reducible exact Lx.sets10 hb_ | with_reducible exact Lx.sets5 hb_ | with_reducible exact Lx.sets3 hb_ | with_reducible exact Lx.sets2 hb_ | with_reducible exact Lx.sets4 hb_ | (simp [World.setCell, Array.getElem?_modify, hb_] <;> rfl)))); simp only [Act.put, Lx.p1, Lx.p2, Lx.p3]
  refine Lx.kd HO (by kernel_rfl) (fun hiv2 => hZ _ _ (fun W2 hw2 => ?_))
  have ha := hw2.holds (w.heap.size + 1) _ (by (repeat (first | exact Lx.ua _ _ _ | rw [Lx.un _ _ (by omega)] | rw [Lx.am])))
  have hb := hw2.below
  clear hZ Z HO O hw2 hiv2 HIN
  have HA := Lib.hid ha
  have HB := Lib.hid hb
  have q0 := Lx.cellAt ha 0 rfl
  have ql := (Array.getElem?_eq_some_iff.1 ha).1
  clear ha hb
  go_wp2_with (go_at_call 62; (with_reducible refine (plus_0_56_2 (World.alloc_heap_new W2 _)).mono ?_); rintro e w3 ⟨rfl, hb3⟩; have hbz : Below W2.heap.size W2 w3 := Below.trans ((Below.refl _ _).alloc (Nat.le_refl _) _) (hb3.mono (by simp)); have HB3 := Lib.hid (HB.out.trans (hbz.mono HB.out.size)); have ha3 := (hbz.block _ ql).trans HA.out; have HA3 := Lib.hid ha3; clear hb3 hbz ha3)
  clear q0 ql
  have ha3 := HA3.out
  have q0 := Lx.cellAt ha3 0 rfl
  have q1 := Lx.cellAt ha3 1 rfl
  have q2 := Lx.cellAt ha3 2 rfl
  have q3 := Lx.cellAt ha3 3 rfl
  have q4 := Lx.cellAt ha3 4 rfl
  have q5 := Lx.cellAt ha3 5 rfl
  have f0 := Lx.frozAt ha3 0
  have f1 := Lx.frozAt ha3 1
  have f2 := Lx.frozAt ha3 2
  have f3 := Lx.frozAt ha3 3
  have f4 := Lx.frozAt ha3 4
  have f5 := Lx.frozAt ha3 5
  have ql := (Array.getElem?_eq_some_iff.1 ha3).1
  clear ha3
  rw [rounds_succ]
  go_wp2
  have hE := sets6 (v0 := .int .u64 56) (v1 := .int .u64 0) (v2 := .int .u64 0) (v3 := .int .u64 0) (v4 := .int .u64 0) (v5 := .int .u64 0) HA3.out
  have z0 := Lx.cellAt hE 0 rfl
  have z1 := Lx.cellAt hE 1 rfl
  have z2 := Lx.cellAt hE 2 rfl
  have z3 := Lx.cellAt hE 3 rfl
  have z4 := Lx.cellAt hE 4 rfl
  have z5 := Lx.cellAt hE 5 rfl
  refine Lx.ret_of (by simp [results, Try.results61, go_sem, z0, z1, z2, z3, z4, z5] <;> (repeat' (first | rfl | apply And.intro))) rfl ⟨rfl, ?_⟩
  exact (((((HB3.out.setCell (p := ⟨w.heap.size + 1, 0, none⟩) (Nat.le_add_right _ _) _).setCell (p := ⟨w.heap.size + 1, 1, none⟩) (Nat.le_add_right _ _) _).setCell (p := ⟨w.heap.size + 1, 2, none⟩) (Nat.le_add_right _ _) _).setCell (p := ⟨w.heap.size + 1, 3, none⟩) (Nat.le_add_right _ _) _).setCell (p := ⟨w.heap.size + 1, 4, none⟩) (Nat.le_add_right _ _) _).setCell (p := ⟨w.heap.size + 1, 5, none⟩) (Nat.le_add_right _ _) _
set_option maxHeartbeats 4000000 in
theorem bOf_0 (w : World) : Calls Try.prog 46 #[.agg #[.int .i64 0, .int .i64 0, .int .i64 0, .int .i64 0, .int .i64 0, .int .i64 0]] w fun e w' => e = .returned (.tuple #[.int .u64 0, .int .i64 2]) ∧ Below w.heap.size w w' := by
  go_enter Try.func46, Try.ntmps46
  go_wp2_with (go_at_call 60; (with_reducible refine (check_0 _).mono ?_); rintro e w1 ⟨rfl, hb1⟩; have HB := Lib.hid hb1; clear hb1)
  refine Lx.ret_of (by simp [results, Try.results46, go_sem] <;> (repeat' (first | rfl | apply And.intro))) rfl ⟨rfl, by (have hszq := HB.out.size; (try simp only [World.size_alloc] at hszq); (repeat (first | (with_reducible refine Below.setCell ?_ (by first | (simp; done) | (simp; omega) | omega) _) | (with_reducible refine Below.alloc ?_ (by first | (simp; done) | (simp; omega) | omega) _) | (with_reducible refine Below.drew ?_))); refine Below.trans ?_ (HB.out.mono (by first | (simp; done) | (simp; omega) | omega)); (repeat (first | with_reducible exact Below.refl _ _ | (with_reducible refine Below.setCell ?_ (by first | (simp; done) | (simp; omega) | omega) _) | (with_reducible refine Below.alloc ?_ (by first | (simp; done) | (simp; omega) | omega) _) | (with_reducible refine Below.drew ?_))))⟩
set_option maxHeartbeats 8000000 in
theorem bOf_1 (w : World) : Calls Try.prog 46 #[.agg #[.int .i64 1, .int .i64 1, .int .i64 1, .int .i64 1, .int .i64 1, .int .i64 1]] w fun e w' => e = .returned (.tuple #[.int .u64 892, .int .i64 0]) ∧ Below w.heap.size w w' := by
  go_enter Try.func46, Try.ntmps46
  go_upto_region 2 with (go_at_call 60; (with_reducible refine (check_1 _).mono ?_); rintro e w1 ⟨rfl, hb1⟩; have hz := (hb1.block w.heap.size (by simp)).trans (World.alloc_heap_new w _); have HZ := Lib.hid hz; have HB := Lib.hid (show Below w.heap.size w w1 by (have hszq := hb1.size; (try simp only [World.size_alloc] at hszq); (repeat (first | (with_reducible refine Below.setCell ?_ (by first | (simp; done) | (simp; omega) | omega) _) | (with_reducible refine Below.alloc ?_ (by first | (simp; done) | (simp; omega) | omega) _) | (with_reducible refine Below.drew ?_))); refine Below.trans ?_ (hb1.mono (by first | (simp; done) | (simp; omega) | omega)); (repeat (first | with_reducible exact Below.refl _ _ | (with_reducible refine Below.setCell ?_ (by first | (simp; done) | (simp; omega) | omega) _) | (with_reducible refine Below.alloc ?_ (by first | (simp; done) | (simp; omega) | omega) _) | (with_reducible refine Below.drew ?_))))); clear hb1 hz)
  have P_ := HZ.out
  have y0 := Lx.cellAt P_ 0 rfl; have y1 := Lx.cellAt P_ 1 rfl; have y2 := Lx.cellAt P_ 2 rfl; have y3 := Lx.cellAt P_ 3 rfl; have y4 := Lx.cellAt P_ 4 rfl; have y5 := Lx.cellAt P_ 5 rfl; have l_ := (Array.getElem?_eq_some_iff.1 P_).1; clear P_
  go_upto_region 6 with (go_at_call 61; (with_reducible refine (locks_1 _).mono ?_); rintro e w2 ⟨rfl, hb2⟩; have hz := (hb2.block _ (Array.getElem?_eq_some_iff.1 HZ.out).1).trans HZ.out; have HZ2 := Lib.hid hz; have HB2 := Lib.hid (HB.out.trans (hb2.mono HB.out.size)); clear hb2 hz)
  clear y0 y1 y2 y3 y4 y5 l_
  have HIN := Lib.hid ((Lx.II.nil (HB2.out.alloc HB2.out.size _)).put (Nat.le_refl _) ((Below.heap_alloc w2 (.cells #[.int .u64 56, .int .u64 0, .int .u64 0, .int .u64 0, .int .u64 0, .int .u64 0] 113) _ (Array.getElem?_eq_some_iff.1 HZ2.out).1).trans HZ2.out))
  refine Lx.regionS (by kernel_rfl) (by kernel_rfl) HIN.out.1 HIN.out.2 (by simp only [List.size_toArray, List.length_cons, List.length_nil, Nat.reduceAdd]; rfl) (fun O Z hO hZ => ?_); have HO := Lib.hid hO; clear hO
  apply Lx.kp HO 0; (case hx => exact ⟨rfl, rfl, rfl⟩); (case hk => decide +kernel); (case hv => intro w_ hw_; (go_simp <;> first | with_reducible rfl | exact ⟨rfl, rfl⟩)); simp only [Act.put, Lx.p1, Lx.p2, Lx.p3]
  apply Lx.kr HO 1; (case hx => exact ⟨rfl, rfl, rfl⟩); (case hk => decide +kernel); (case hv => intro w_ hw_; have P_ := hw_.holds (w.heap.size) _ (by (repeat (first | exact Lx.ua _ _ _ | rw [Lx.un _ _ (by omega)] | rw [Lx.am]))); have y0 := Lx.cellAt P_ 0 rfl; have y1 := Lx.cellAt P_ 1 rfl; have y2 := Lx.cellAt P_ 2 rfl; have y3 := Lx.cellAt P_ 3 rfl; have y4 := Lx.cellAt P_ 4 rfl; have y5 := Lx.cellAt P_ 5 rfl; have l_ := (Array.getElem?_eq_some_iff.1 P_).1; clear P_; (go_simp <;> first | with_reducible rfl | exact ⟨rfl, rfl⟩)); simp only [Act.put, Lx.p1, Lx.p2, Lx.p3]
  apply Lx.kp HO 3; (case hx => exact ⟨rfl, rfl, rfl⟩); (case hk => decide +kernel); (case hv => intro w_ hw_; (go_simp <;> first | with_reducible rfl | exact ⟨rfl, rfl⟩)); simp only [Act.put, Lx.p1, Lx.p2, Lx.p3]
  apply Lx.kr HO 4; (case hx => exact ⟨rfl, rfl, rfl⟩); (case hk => decide +kernel); (case hv => intro w_ hw_; have P_ := hw_.holds (w.heap.size) _ (by (repeat (first | exact Lx.ua _ _ _ | rw [Lx.un _ _ (by omega)] | rw [Lx.am]))); have y0 := Lx.cellAt P_ 0 rfl; have y1 := Lx.cellAt P_ 1 rfl; have y2 := Lx.cellAt P_ 2 rfl; have y3 := Lx.cellAt P_ 3 rfl; have y4 := Lx.cellAt P_ 4 rfl; have y5 := Lx.cellAt P_ 5 rfl; have l_ := (Array.getElem?_eq_some_iff.1 P_).1; clear P_; (go_simp <;> first | with_reducible rfl | exact ⟨rfl, rfl⟩)); simp only [Act.put, Lx.p1, Lx.p2, Lx.p3]
  apply Lx.kp HO 5; (case hx => exact ⟨rfl, rfl, rfl⟩); (case hk => decide +kernel); (case hv => intro w_ hw_; (go_simp <;> first | with_reducible rfl | exact ⟨rfl, rfl⟩)); simp only [Act.put, Lx.p1, Lx.p2, Lx.p3]
  apply Lx.kp HO 6; (case hx => exact ⟨rfl, rfl, rfl⟩); (case hk => decide +kernel); (case hv => intro w_ hw_; (go_simp <;> first | with_reducible rfl | exact ⟨rfl, rfl⟩)); simp only [Act.put, Lx.p1, Lx.p2, Lx.p3]
  apply Lx.kp HO 7; (case hx => exact ⟨rfl, rfl, rfl⟩); (case hk => decide +kernel); (case hv => intro w_ hw_; (go_simp <;> first | with_reducible rfl | exact ⟨rfl, rfl⟩)); simp only [Act.put, Lx.p1, Lx.p2, Lx.p3]
  apply Lx.kc HO 2; (case hx => exact ⟨rfl, rfl, rfl⟩); (case hk => decide +kernel); (case hrun => intro w_; (go_simp <;> first | with_reducible rfl | exact ⟨rfl, rfl⟩)); (case hc => intro w_ hw_; exact hold_1 _); simp only [Act.put, Lx.p1, Lx.p2, Lx.p3]
  apply Lx.kn HO 8 (mk := fun n => .slice (some ⟨n, 0, none⟩) 2 2); (case hx => exact ⟨rfl, rfl, rfl⟩); (case hk => decide +kernel); (case hrun => intro w_; (go_simp <;> first | with_reducible rfl | exact ⟨rfl, rfl⟩)); simp only [Act.put, Lx.p1, Lx.p2, Lx.p3]
  intro g8 hg8 hfr
  (repeat (first | (rw [Lx.St.add_M] at hfr) | (replace hfr := Lx.St.fresh_upd hfr; have n_ := hfr.1; replace hfr := hfr.2))); clear hfr
  apply Lx.kc HO 9; (case hx => exact ⟨rfl, rfl, rfl⟩); (case hk => decide +kernel); (case hrun => intro w_; (go_simp <;> first | with_reducible rfl | exact ⟨rfl, rfl⟩)); (case hc => intro w_ hw_; have P_ := hw_.holds (g8) _ (by (repeat (first | exact Lx.ua _ _ _ | rw [Lx.un _ _ (by omega)] | rw [Lx.am]))); exact times_3_8 P_); simp only [Act.put, Lx.p1, Lx.p2, Lx.p3]
  apply Lx.kn HO 10 (mk := fun n => .slice (some ⟨n, 0, none⟩) 3 3); (case hx => exact ⟨rfl, rfl, rfl⟩); (case hk => decide +kernel); (case hrun => intro w_; (go_simp <;> first | with_reducible rfl | exact ⟨rfl, rfl⟩)); simp only [Act.put, Lx.p1, Lx.p2, Lx.p3]
  intro g10 hg10 hfr
  (repeat (first | (rw [Lx.St.add_M] at hfr) | (replace hfr := Lx.St.fresh_upd hfr; have n_ := hfr.1; replace hfr := hfr.2))); clear hfr
  apply Lx.kc HO 11; (case hx => exact ⟨rfl, rfl, rfl⟩); (case hk => decide +kernel); (case hrun => intro w_; (go_simp <;> first | with_reducible rfl | exact ⟨rfl, rfl⟩)); (case hc => intro w_ hw_; have P_ := hw_.holds (g10) _ (by (repeat (first | exact Lx.ua _ _ _ | rw [Lx.un _ _ (by omega)] | rw [Lx.am]))); exact plus_58_56_24 P_); simp only [Act.put, Lx.p1, Lx.p2, Lx.p3]
  apply Lx.kp HO 12; (case hx => exact ⟨rfl, rfl, rfl⟩); (case hk => decide +kernel); (case hv => intro w_ hw_; (go_simp <;> first | with_reducible rfl | exact ⟨rfl, rfl⟩)); simp only [Act.put, Lx.p1, Lx.p2, Lx.p3]
  refine Lx.kd HO (by kernel_rfl) (fun hiv2 => hZ _ _ (fun W6 hw2 => ?_))
  clear hZ Z HO O
  have hin_ := Lib.hid (And.intro hw2 hiv2 : Lx.II _ _ _ _)
  clear hw2 hiv2
  replace HIN := Lib.hid (Lx.tk hin_.out (Lx.II.nil hin_.out.1.below) (w.heap.size) (by (repeat (first | exact Lx.ua _ _ _ | rw [Lx.un _ _ (by omega)] | rw [Lx.am]))))
  clear hin_
  go_upto_region 7 with fail
  refine Lx.regionS (by kernel_rfl) (by kernel_rfl) HIN.out.1 HIN.out.2 (by simp only [List.size_toArray, List.length_cons, List.length_nil, Nat.reduceAdd]; rfl) (fun O Z hO hZ => ?_); have HO := Lib.hid hO; clear hO
  apply Lx.kp HO 0; (case hx => exact ⟨rfl, rfl, rfl⟩); (case hk => decide +kernel); (case hv => intro w_ hw_; (go_simp <;> first | with_reducible rfl | exact ⟨rfl, rfl⟩)); simp only [Act.put, Lx.p1, Lx.p2, Lx.p3]
  apply Lx.kr HO 1; (case hx => exact ⟨rfl, rfl, rfl⟩); (case hk => decide +kernel); (case hv => intro w_ hw_; have P_ := hw_.holds (w.heap.size) _ (by (repeat (first | exact Lx.ua _ _ _ | rw [Lx.un _ _ (by omega)] | rw [Lx.am]))); have y0 := Lx.cellAt P_ 0 rfl; have y1 := Lx.cellAt P_ 1 rfl; have y2 := Lx.cellAt P_ 2 rfl; have y3 := Lx.cellAt P_ 3 rfl; have y4 := Lx.cellAt P_ 4 rfl; have y5 := Lx.cellAt P_ 5 rfl; have l_ := (Array.getElem?_eq_some_iff.1 P_).1; clear P_; (go_simp <;> first | with_reducible rfl | exact ⟨rfl, rfl⟩)); simp only [Act.put, Lx.p1, Lx.p2, Lx.p3]
  apply Lx.kp HO 2; (case hx => exact ⟨rfl, rfl, rfl⟩); (case hk => decide +kernel); (case hv => intro w_ hw_; (go_simp <;> first | with_reducible rfl | exact ⟨rfl, rfl⟩)); simp only [Act.put, Lx.p1, Lx.p2, Lx.p3]
  apply Lx.kp HO 3; (case hx => exact ⟨rfl, rfl, rfl⟩); (case hk => decide +kernel); (case hv => intro w_ hw_; (go_simp <;> first | with_reducible rfl | exact ⟨rfl, rfl⟩)); simp only [Act.put, Lx.p1, Lx.p2, Lx.p3]
  apply Lx.kr HO 4; (case hx => exact ⟨rfl, rfl, rfl⟩); (case hk => decide +kernel); (case hv => intro w_ hw_; have P_ := hw_.holds (w.heap.size) _ (by (repeat (first | exact Lx.ua _ _ _ | rw [Lx.un _ _ (by omega)] | rw [Lx.am]))); have y0 := Lx.cellAt P_ 0 rfl; have y1 := Lx.cellAt P_ 1 rfl; have y2 := Lx.cellAt P_ 2 rfl; have y3 := Lx.cellAt P_ 3 rfl; have y4 := Lx.cellAt P_ 4 rfl; have y5 := Lx.cellAt P_ 5 rfl; have l_ := (Array.getElem?_eq_some_iff.1 P_).1; clear P_; (go_simp <;> first | with_reducible rfl | exact ⟨rfl, rfl⟩)); simp only [Act.put, Lx.p1, Lx.p2, Lx.p3]
  apply Lx.kp HO 5; (case hx => exact ⟨rfl, rfl, rfl⟩); (case hk => decide +kernel); (case hv => intro w_ hw_; (go_simp <;> first | with_reducible rfl | exact ⟨rfl, rfl⟩)); simp only [Act.put, Lx.p1, Lx.p2, Lx.p3]
  apply Lx.kp HO 6; (case hx => exact ⟨rfl, rfl, rfl⟩); (case hk => decide +kernel); (case hv => intro w_ hw_; (go_simp <;> first | with_reducible rfl | exact ⟨rfl, rfl⟩)); simp only [Act.put, Lx.p1, Lx.p2, Lx.p3]
  apply Lx.kp HO 7; (case hx => exact ⟨rfl, rfl, rfl⟩); (case hk => decide +kernel); (case hv => intro w_ hw_; (go_simp <;> first | with_reducible rfl | exact ⟨rfl, rfl⟩)); simp only [Act.put, Lx.p1, Lx.p2, Lx.p3]
  apply Lx.kr HO 8; (case hx => exact ⟨rfl, rfl, rfl⟩); (case hk => decide +kernel); (case hv => intro w_ hw_; have P_ := hw_.holds (w.heap.size) _ (by (repeat (first | exact Lx.ua _ _ _ | rw [Lx.un _ _ (by omega)] | rw [Lx.am]))); have y0 := Lx.cellAt P_ 0 rfl; have y1 := Lx.cellAt P_ 1 rfl; have y2 := Lx.cellAt P_ 2 rfl; have y3 := Lx.cellAt P_ 3 rfl; have y4 := Lx.cellAt P_ 4 rfl; have y5 := Lx.cellAt P_ 5 rfl; have l_ := (Array.getElem?_eq_some_iff.1 P_).1; clear P_; (go_simp <;> first | with_reducible rfl | exact ⟨rfl, rfl⟩)); simp only [Act.put, Lx.p1, Lx.p2, Lx.p3]
  apply Lx.kp HO 9; (case hx => exact ⟨rfl, rfl, rfl⟩); (case hk => decide +kernel); (case hv => intro w_ hw_; (go_simp <;> first | with_reducible rfl | exact ⟨rfl, rfl⟩)); simp only [Act.put, Lx.p1, Lx.p2, Lx.p3]
  apply Lx.kp HO 10; (case hx => exact ⟨rfl, rfl, rfl⟩); (case hk => decide +kernel); (case hv => intro w_ hw_; (go_simp <;> first | with_reducible rfl | exact ⟨rfl, rfl⟩)); simp only [Act.put, Lx.p1, Lx.p2, Lx.p3]
  apply Lx.kp HO 11; (case hx => exact ⟨rfl, rfl, rfl⟩); (case hk => decide +kernel); (case hv => intro w_ hw_; (go_simp <;> first | with_reducible rfl | exact ⟨rfl, rfl⟩)); simp only [Act.put, Lx.p1, Lx.p2, Lx.p3]
  apply Lx.kp HO 14; (case hx => exact ⟨rfl, rfl, rfl⟩); (case hk => decide +kernel); (case hv => intro w_ hw_; (go_simp <;> first | with_reducible rfl | exact ⟨rfl, rfl⟩)); simp only [Act.put, Lx.p1, Lx.p2, Lx.p3]
  apply Lx.kp HO 15; (case hx => exact ⟨rfl, rfl, rfl⟩); (case hk => decide +kernel); (case hv => intro w_ hw_; (go_simp <;> first | with_reducible rfl | exact ⟨rfl, rfl⟩)); simp only [Act.put, Lx.p1, Lx.p2, Lx.p3]
  apply Lx.kn HO 12 (mk := fun n => .slice (some ⟨n, 0, none⟩) 2 2); (case hx => exact ⟨rfl, rfl, rfl⟩); (case hk => decide +kernel); (case hrun => intro w_; (go_simp <;> first | with_reducible rfl | exact ⟨rfl, rfl⟩)); simp only [Act.put, Lx.p1, Lx.p2, Lx.p3]
  intro g12 hg12 hfr
  (repeat (first | (rw [Lx.St.add_M] at hfr) | (replace hfr := Lx.St.fresh_upd hfr; have n_ := hfr.1; replace hfr := hfr.2))); clear hfr
  apply Lx.kc HO 13; (case hx => exact ⟨rfl, rfl, rfl⟩); (case hk => decide +kernel); (case hrun => intro w_; (go_simp <;> first | with_reducible rfl | exact ⟨rfl, rfl⟩)); (case hc => intro w_ hw_; have P_ := hw_.holds (g12) _ (by (repeat (first | exact Lx.ua _ _ _ | rw [Lx.un _ _ (by omega)] | rw [Lx.am]))); exact times_3_138 P_); simp only [Act.put, Lx.p1, Lx.p2, Lx.p3]
  apply Lx.kn HO 16 (mk := fun n => .slice (some ⟨n, 0, none⟩) 2 2); (case hx => exact ⟨rfl, rfl, rfl⟩); (case hk => decide +kernel); (case hrun => intro w_; (go_simp <;> first | with_reducible rfl | exact ⟨rfl, rfl⟩)); simp only [Act.put, Lx.p1, Lx.p2, Lx.p3]
  intro g16 hg16 hfr
  (repeat (first | (rw [Lx.St.add_M] at hfr) | (replace hfr := Lx.St.fresh_upd hfr; have n_ := hfr.1; replace hfr := hfr.2))); clear hfr
  apply Lx.kc HO 17; (case hx => exact ⟨rfl, rfl, rfl⟩); (case hk => decide +kernel); (case hrun => intro w_; (go_simp <;> first | with_reducible rfl | exact ⟨rfl, rfl⟩)); (case hc => intro w_ hw_; have P_ := hw_.holds (g16) _ (by (repeat (first | exact Lx.ua _ _ _ | rw [Lx.un _ _ (by omega)] | rw [Lx.am]))); exact plus_414_32 P_); simp only [Act.put, Lx.p1, Lx.p2, Lx.p3]
  apply Lx.kn HO 18 (mk := fun n => .slice (some ⟨n, 0, none⟩) 3 3); (case hx => exact ⟨rfl, rfl, rfl⟩); (case hk => decide +kernel); (case hrun => intro w_; (go_simp <;> first | with_reducible rfl | exact ⟨rfl, rfl⟩)); simp only [Act.put, Lx.p1, Lx.p2, Lx.p3]
  intro g18 hg18 hfr
  (repeat (first | (rw [Lx.St.add_M] at hfr) | (replace hfr := Lx.St.fresh_upd hfr; have n_ := hfr.1; replace hfr := hfr.2))); clear hfr
  apply Lx.kc HO 19; (case hx => exact ⟨rfl, rfl, rfl⟩); (case hk => decide +kernel); (case hrun => intro w_; (go_simp <;> first | with_reducible rfl | exact ⟨rfl, rfl⟩)); (case hc => intro w_ hw_; have P_ := hw_.holds (g18) _ (by (repeat (first | exact Lx.ua _ _ _ | rw [Lx.un _ _ (by omega)] | rw [Lx.am]))); exact times_1_2_446 P_); simp only [Act.put, Lx.p1, Lx.p2, Lx.p3]
  apply Lx.kp HO 20; (case hx => exact ⟨rfl, rfl, rfl⟩); (case hk => decide +kernel); (case hv => intro w_ hw_; (go_simp <;> first | with_reducible rfl | exact ⟨rfl, rfl⟩)); simp only [Act.put, Lx.p1, Lx.p2, Lx.p3]
  apply Lx.kp HO 21; (case hx => exact ⟨rfl, rfl, rfl⟩); (case hk => decide +kernel); (case hv => intro w_ hw_; (go_simp <;> first | with_reducible rfl | exact ⟨rfl, rfl⟩)); simp only [Act.put, Lx.p1, Lx.p2, Lx.p3]
  refine Lx.kd HO (by kernel_rfl) (fun hiv2 => hZ _ _ (fun W7 hw2 => ?_))
  go_wp2
  refine Lx.ret_of (by simp [results, Try.results46, go_sem] <;> (repeat' (first | rfl | apply And.intro))) rfl ⟨rfl, hw2.below⟩
end Go.Proofs.Ytljfloopjgpaeab
