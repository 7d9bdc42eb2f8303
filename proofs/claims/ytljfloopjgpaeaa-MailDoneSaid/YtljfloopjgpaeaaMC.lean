/- mail.Done, tollbarref27.May, Done; tollbarlaw27.MailDone. -/
import Derived.Test.YtljfloopjgpaeaaRI
import Derived.Test.YtljfloopjgpaeaaMB
namespace Go.Proofs.Ytljfloopjgpaeaa
set_option linter.unusedVariables false
set_option linter.unusedSimpArgs false
open Go.RowKit
attribute [local go_sem] Oper.semAt_some
set_option maxRecDepth 100000

def doneM (P : ProgV) (f : FrameV) (c v : Int) (ok : Bool) (code : Int) : FrameV × Int :=
  if mayB c v ok code then (if code = 0 then doneF P f c v ok else (FrameV.zero, code)) else (FrameV.zero, 2)
set_option maxHeartbeats 2000000 in
theorem rmay_any (c v : Int) (ok : Bool) (code : Int) (w : World) : Calls Try.prog 61 #[.agg #[.int .i64 c, .int .i64 v, .bool ok, .int .i64 code]] w fun e w' => e = .returned (.bool (mayB c v ok code)) ∧ Below w.heap.size w w' := by
  by_cases h1 : -1 ≤ c
  · by_cases h2 : c < 6
    · by_cases k0 : code = 0
      · subst k0
        go_enter Try.func61, Try.ntmps61
        go_wp2
        go_ret
        exact ⟨by simp [mayB, h1, h2], by (repeat (first | with_reducible exact Below.refl _ _ | (with_reducible refine Below.setCell ?_ (by first | (simp; done) | (simp; omega) | omega) _) | (with_reducible refine Below.alloc ?_ (by first | (simp; done) | (simp; omega) | omega) _) | (with_reducible refine Below.drew ?_)))⟩
      · by_cases k1 : code = 140 ∨ code = 141 ∨ code = 142 ∨ code = 143
        · rcases k1 with rfl | rfl | rfl | rfl
          all_goals
            go_enter Try.func61, Try.ntmps61
            cases hv : (v == 0)
            all_goals
              go_wp2
              go_ret
              exact ⟨by simp [mayB, h1, h2, hv], by (repeat (first | with_reducible exact Below.refl _ _ | (with_reducible refine Below.setCell ?_ (by first | (simp; done) | (simp; omega) | omega) _) | (with_reducible refine Below.alloc ?_ (by first | (simp; done) | (simp; omega) | omega) _) | (with_reducible refine Below.drew ?_)))⟩
        · simp only [not_or] at k1
          obtain ⟨q0, q1, q2, q3⟩ := k1
          have e0 : (code == 140) = false := by simpa using q0
          have e1 : (code == 141) = false := by simpa using q1
          have e2 : (code == 142) = false := by simpa using q2
          have e3 : (code == 143) = false := by simpa using q3
          go_enter Try.func61, Try.ntmps61
          go_wp2
          go_ret
          exact ⟨by simp [mayB, k0, q0, q1, q2, q3], by (repeat (first | with_reducible exact Below.refl _ _ | (with_reducible refine Below.setCell ?_ (by first | (simp; done) | (simp; omega) | omega) _) | (with_reducible refine Below.alloc ?_ (by first | (simp; done) | (simp; omega) | omega) _) | (with_reducible refine Below.drew ?_)))⟩
    · go_enter Try.func61, Try.ntmps61
      go_wp2
      go_ret
      exact ⟨by simp [mayB]; intro p q; omega, by (repeat (first | with_reducible exact Below.refl _ _ | (with_reducible refine Below.setCell ?_ (by first | (simp; done) | (simp; omega) | omega) _) | (with_reducible refine Below.alloc ?_ (by first | (simp; done) | (simp; omega) | omega) _) | (with_reducible refine Below.drew ?_)))⟩
  · go_enter Try.func61, Try.ntmps61
    go_wp2
    go_ret
    exact ⟨by simp [mayB]; intro p q; omega, by (repeat (first | with_reducible exact Below.refl _ _ | (with_reducible refine Below.setCell ?_ (by first | (simp; done) | (simp; omega) | omega) _) | (with_reducible refine Below.alloc ?_ (by first | (simp; done) | (simp; omega) | omega) _) | (with_reducible refine Below.drew ?_)))⟩
set_option maxHeartbeats 2000000 in
theorem mdone_bad {c1 c2 c3 : Value} {P : ProgV} {w : World} (h : RProg w c1 c2 c3 P) (hs : saneP P = true) (f : FrameV) (hf : f.wf) (c v : Int) (ok : Bool) (code : Int) (hmay : mayB c v ok code = false) :
    Calls Try.prog 20 #[.agg #[c1, c2, c3], f.agg, .agg #[.int .i64 c, .int .i64 v, .bool ok, .int .i64 code]] w fun e w' => e = .returned (.tuple #[(doneM P f c v ok code).1.agg, .int .i64 (doneM P f c v ok code).2]) ∧ Below w.heap.size w w' := by
  have HP0 := Lib.hid h
  have hm := fun (W : World) => may_any c v ok code W
  rw [hmay] at hm
  have HMY := Lib.hid hm
  clear hm
  have hR : doneM P f c v ok code = (FrameV.zero, 2) := by unfold doneM; rw [if_neg (by rw [hmay]; decide)]
  rw [hR]
  clear hR hmay
  clear h hs hf
  unfold FrameV.agg FrameV.cells
  go_enter Try.func20, Try.ntmps20
  go_upto_region 1 with fail
  refine Ly.start4 (fun W1 hII => ?_)
  have HIN := Lib.hid hII
  clear hII
  go_upto_region 1 with fail
  refine Ly.regionS0 (by kernel_rfl) (by kernel_rfl) HIN.out.1 HIN.out.2 (by simp only [List.size_toArray, List.length_cons, List.length_nil, Nat.reduceAdd]; rfl) (fun O Z hO hZ => ?_); have HO := Lib.hid hO; clear hO
  first
    | (apply Ly.kr HO 0; (case hx => exact ⟨rfl, rfl, rfl⟩); (case hk => decide +kernel); (case hv => intro w_ hw_; have P_ := hw_.holds (w.heap.size + 1 + 1) _ (by (repeat (first | exact Ly.ua _ _ _ | rw [Ly.un _ _ (by omega)] | rw [Ly.am] | rw [Ly.fz]))); obtain ⟨c0, c1, c2, c3⟩ := Ly.cells4 P_; clear P_; (go_simp <;> first | with_reducible rfl | exact ⟨rfl, rfl⟩)); simp only [Act.put, Ly.p1, Ly.p2, Ly.p3])
  first
    | (apply Ly.kc HO 1; (case hx => exact ⟨rfl, rfl, rfl⟩); (case hk => decide +kernel); (case hrun => intro w_; (go_simp <;> first | with_reducible rfl | exact ⟨rfl, rfl⟩)); (case hc => intro w_ hw_; with_reducible exact HMY.out _); simp only [Act.put, Ly.p1, Ly.p2, Ly.p3])
  first
    | (apply Ly.kp HO 2; (case hx => exact ⟨rfl, rfl, rfl⟩); (case hk => decide +kernel); (case hv => intro w_ hw_; (go_simp <;> first | with_reducible rfl | exact ⟨rfl, rfl⟩)); simp only [Act.put, Ly.p1, Ly.p2, Ly.p3])
  first
    | (apply Ly.kp HO 3; (case hx => exact ⟨rfl, rfl, rfl⟩); (case hk => decide +kernel); (case hv => intro w_ hw_; (go_simp <;> first | with_reducible rfl | exact ⟨rfl, rfl⟩)); simp only [Act.put, Ly.p1, Ly.p2, Ly.p3])
  refine Ly.kd HO (by kernel_rfl) (fun hiv2 => hZ _ _ (fun W2 hw2 => ?_))
  clear hZ Z HO O
  have hin_ := Lib.hid (And.intro hw2 hiv2 : Ly.II _ _ _ _)
  clear hw2 hiv2
  replace HIN := Lib.hid (Ly.tk hin_.out (Ly.tk hin_.out (Ly.tk hin_.out (Ly.tk hin_.out (Ly.II.nil hin_.out.1.below) (w.heap.size) (by (repeat (first | exact Ly.ua _ _ _ | rw [Ly.un _ _ (by omega)] | rw [Ly.am] | rw [Ly.fz])))) (w.heap.size + 1) (by (repeat (first | exact Ly.ua _ _ _ | rw [Ly.un _ _ (by omega)] | rw [Ly.am] | rw [Ly.fz])))) (w.heap.size + 1 + 1) (by (repeat (first | exact Ly.ua _ _ _ | rw [Ly.un _ _ (by omega)] | rw [Ly.am] | rw [Ly.fz])))) (w.heap.size + 1 + 1 + 1) (by (repeat (first | exact Ly.ua _ _ _ | rw [Ly.un _ _ (by omega)] | rw [Ly.am] | rw [Ly.fz]))))
  clear hin_
  go_upto_region 2 with fail
  refine Ly.regionS0 (by kernel_rfl) (by kernel_rfl) HIN.out.1 HIN.out.2 (by simp only [List.size_toArray, List.length_cons, List.length_nil, Nat.reduceAdd]; rfl) (fun O Z hO hZ => ?_); have HO := Lib.hid hO; clear hO
  first
    | (apply Ly.kp HO 0; (case hx => exact ⟨rfl, rfl, rfl⟩); (case hk => decide +kernel); (case hv => intro w_ hw_; (go_simp <;> first | with_reducible rfl | exact ⟨rfl, rfl⟩)); simp only [Act.put, Ly.p1, Ly.p2, Ly.p3])
  first
    | (apply Ly.ks HO 1 (g := w.heap.size + 1 + 1 + 1); (case hx => exact ⟨rfl, rfl, rfl⟩); (case hk => decide +kernel); (case hF => exact fun h_ => h_); (case hG => exact fun _ _ h_ _ => h_); (case hg => (repeat (first | exact Ly.ua _ _ _ | rw [Ly.un _ _ (by omega)] | rw [Ly.am] | rw [Ly.fz]))); (case hrun => intro w_ hw_ hb_; obtain ⟨c0, c1, c2, c3, c4, c5, c6, c7, c8, c9⟩ := Ly.cells10 hb_; obtain ⟨d0, d1, d2, d3, d4, d5, d6, d7, d8, d9⟩ := Ly.froz10 hb_; refine ⟨?_, ?_, ?_, ?_⟩; rotate_left; (next => (go_simp <;> first | with_reducible rfl | rfl)); (next => (repeat (first | (with_reducible exact Ly.OnlyAt.refl _ _) | (with_reducible refine Ly.OnlyAt.set ?_ _ _)))); (next => (simp [World.setCell, Array.getElem?_modify, hb_] <;> rfl))); simp only [Act.put, Ly.p1, Ly.p2, Ly.p3])
  first
    | (apply Ly.kp HO 2; (case hx => exact ⟨rfl, rfl, rfl⟩); (case hk => decide +kernel); (case hv => intro w_ hw_; (go_simp <;> first | with_reducible rfl | exact ⟨rfl, rfl⟩)); simp only [Act.put, Ly.p1, Ly.p2, Ly.p3])
  refine Ly.kd HO (by kernel_rfl) (fun hiv2 => hZ _ _ (fun W3 hw2 => ?_))
  clear hZ Z HO O
  have hin_ := Lib.hid (And.intro hw2 hiv2 : Ly.II _ _ _ _)
  clear hw2 hiv2
  replace HIN := Lib.hid (Ly.tk hin_.out (Ly.tk hin_.out (Ly.tk hin_.out (Ly.tk hin_.out (Ly.II.nil hin_.out.1.below) (w.heap.size) (by (repeat (first | exact Ly.ua _ _ _ | rw [Ly.un _ _ (by omega)] | rw [Ly.am] | rw [Ly.fz])))) (w.heap.size + 1) (by (repeat (first | exact Ly.ua _ _ _ | rw [Ly.un _ _ (by omega)] | rw [Ly.am] | rw [Ly.fz])))) (w.heap.size + 1 + 1) (by (repeat (first | exact Ly.ua _ _ _ | rw [Ly.un _ _ (by omega)] | rw [Ly.am] | rw [Ly.fz])))) (w.heap.size + 1 + 1 + 1) (by (repeat (first | exact Ly.ua _ _ _ | rw [Ly.un _ _ (by omega)] | rw [Ly.am] | rw [Ly.fz]))))
  clear hin_
  have P_ := HIN.out.1.holds (w.heap.size + 1 + 1 + 1) _ (by (repeat (first | exact Ly.ua _ _ _ | rw [Ly.un _ _ (by omega)] | rw [Ly.am] | rw [Ly.fz])))
  obtain ⟨r0_0, r0_1, r0_2, r0_3, r0_4, r0_5, r0_6, r0_7, r0_8, r0_9⟩ := Ly.cells10 P_
  clear P_
  go_wp2
  refine Ly.ret_of (by simp [results, Try.results20, go_sem, r0_0, r0_1, r0_2, r0_3, r0_4, r0_5, r0_6, r0_7, r0_8, r0_9] <;> (repeat' (first | rfl | apply And.intro))) rfl ⟨rfl, HIN.out.1.below⟩
set_option maxHeartbeats 2000000 in
theorem mdone_fault {c1 c2 c3 : Value} {P : ProgV} {w : World} (h : RProg w c1 c2 c3 P) (hs : saneP P = true) (f : FrameV) (hf : f.wf) (c v : Int) (ok : Bool) (code : Int) (hmay : mayB c v ok code = true) (hc : code ≠ 0) :
    Calls Try.prog 20 #[.agg #[c1, c2, c3], f.agg, .agg #[.int .i64 c, .int .i64 v, .bool ok, .int .i64 code]] w fun e w' => e = .returned (.tuple #[(doneM P f c v ok code).1.agg, .int .i64 (doneM P f c v ok code).2]) ∧ Below w.heap.size w w' := by
  have HP0 := Lib.hid h
  have hm := fun (W : World) => may_any c v ok code W
  rw [hmay] at hm
  have HMY := Lib.hid hm
  clear hm
  have hR : doneM P f c v ok code = (FrameV.zero, code) := by unfold doneM; rw [if_pos hmay, if_neg hc]
  rw [hR]
  clear hR hmay
  have hc1 : (code != 0) = true := by simpa using hc
  clear hc
  clear h hs hf
  unfold FrameV.agg FrameV.cells
  go_enter Try.func20, Try.ntmps20
  go_upto_region 1 with fail
  refine Ly.start4 (fun W1 hII => ?_)
  have HIN := Lib.hid hII
  clear hII
  go_upto_region 1 with fail
  refine Ly.regionS0 (by kernel_rfl) (by kernel_rfl) HIN.out.1 HIN.out.2 (by simp only [List.size_toArray, List.length_cons, List.length_nil, Nat.reduceAdd]; rfl) (fun O Z hO hZ => ?_); have HO := Lib.hid hO; clear hO
  first
    | (apply Ly.kr HO 0; (case hx => exact ⟨rfl, rfl, rfl⟩); (case hk => decide +kernel); (case hv => intro w_ hw_; have P_ := hw_.holds (w.heap.size + 1 + 1) _ (by (repeat (first | exact Ly.ua _ _ _ | rw [Ly.un _ _ (by omega)] | rw [Ly.am] | rw [Ly.fz]))); obtain ⟨c0, c1, c2, c3⟩ := Ly.cells4 P_; clear P_; (go_simp <;> first | with_reducible rfl | exact ⟨rfl, rfl⟩)); simp only [Act.put, Ly.p1, Ly.p2, Ly.p3])
  first
    | (apply Ly.kc HO 1; (case hx => exact ⟨rfl, rfl, rfl⟩); (case hk => decide +kernel); (case hrun => intro w_; (go_simp <;> first | with_reducible rfl | exact ⟨rfl, rfl⟩)); (case hc => intro w_ hw_; with_reducible exact HMY.out _); simp only [Act.put, Ly.p1, Ly.p2, Ly.p3])
  first
    | (apply Ly.kp HO 2; (case hx => exact ⟨rfl, rfl, rfl⟩); (case hk => decide +kernel); (case hv => intro w_ hw_; (go_simp <;> first | with_reducible rfl | exact ⟨rfl, rfl⟩)); simp only [Act.put, Ly.p1, Ly.p2, Ly.p3])
  first
    | (apply Ly.kp HO 3; (case hx => exact ⟨rfl, rfl, rfl⟩); (case hk => decide +kernel); (case hv => intro w_ hw_; (go_simp <;> first | with_reducible rfl | exact ⟨rfl, rfl⟩)); simp only [Act.put, Ly.p1, Ly.p2, Ly.p3])
  refine Ly.kd HO (by kernel_rfl) (fun hiv2 => hZ _ _ (fun W2 hw2 => ?_))
  clear hZ Z HO O
  have hin_ := Lib.hid (And.intro hw2 hiv2 : Ly.II _ _ _ _)
  clear hw2 hiv2
  replace HIN := Lib.hid (Ly.tk hin_.out (Ly.tk hin_.out (Ly.tk hin_.out (Ly.tk hin_.out (Ly.II.nil hin_.out.1.below) (w.heap.size) (by (repeat (first | exact Ly.ua _ _ _ | rw [Ly.un _ _ (by omega)] | rw [Ly.am] | rw [Ly.fz])))) (w.heap.size + 1) (by (repeat (first | exact Ly.ua _ _ _ | rw [Ly.un _ _ (by omega)] | rw [Ly.am] | rw [Ly.fz])))) (w.heap.size + 1 + 1) (by (repeat (first | exact Ly.ua _ _ _ | rw [Ly.un _ _ (by omega)] | rw [Ly.am] | rw [Ly.fz])))) (w.heap.size + 1 + 1 + 1) (by (repeat (first | exact Ly.ua _ _ _ | rw [Ly.un _ _ (by omega)] | rw [Ly.am] | rw [Ly.fz]))))
  clear hin_
  go_upto_region 3 with fail
  refine Ly.regionS0 (by kernel_rfl) (by kernel_rfl) HIN.out.1 HIN.out.2 (by simp only [List.size_toArray, List.length_cons, List.length_nil, Nat.reduceAdd]; rfl) (fun O Z hO hZ => ?_); have HO := Lib.hid hO; clear hO
  first
    | (apply Ly.kp HO 0; (case hx => exact ⟨rfl, rfl, rfl⟩); (case hk => decide +kernel); (case hv => intro w_ hw_; (go_simp <;> first | with_reducible rfl | exact ⟨rfl, rfl⟩)); simp only [Act.put, Ly.p1, Ly.p2, Ly.p3])
  first
    | (apply Ly.kr HO 1; (case hx => exact ⟨rfl, rfl, rfl⟩); (case hk => decide +kernel); (case hv => intro w_ hw_; have P_ := hw_.holds (w.heap.size + 1 + 1) _ (by (repeat (first | exact Ly.ua _ _ _ | rw [Ly.un _ _ (by omega)] | rw [Ly.am] | rw [Ly.fz]))); have c3 := cellAt P_ 3 rfl; clear P_; (go_simp <;> first | with_reducible rfl | exact ⟨rfl, rfl⟩)); simp only [Act.put, Ly.p1, Ly.p2, Ly.p3])
  first
    | (apply Ly.kp HO 2; (case hx => exact ⟨rfl, rfl, rfl⟩); (case hk => decide +kernel); (case hv => intro w_ hw_; (go_simp <;> first | with_reducible rfl | exact ⟨rfl, rfl⟩)); simp only [Act.put, Ly.p1, Ly.p2, Ly.p3])
  first
    | (apply Ly.kp HO 3; (case hx => exact ⟨rfl, rfl, rfl⟩); (case hk => decide +kernel); (case hv => intro w_ hw_; (go_simp <;> first | with_reducible rfl | exact ⟨rfl, rfl⟩)); simp only [Act.put, Ly.p1, Ly.p2, Ly.p3])
  refine Ly.kd HO (by kernel_rfl) (fun hiv2 => hZ _ _ (fun W3 hw2 => ?_))
  clear hZ Z HO O
  have hin_ := Lib.hid (And.intro hw2 hiv2 : Ly.II _ _ _ _)
  clear hw2 hiv2
  replace HIN := Lib.hid (Ly.tk hin_.out (Ly.tk hin_.out (Ly.tk hin_.out (Ly.tk hin_.out (Ly.II.nil hin_.out.1.below) (w.heap.size) (by (repeat (first | exact Ly.ua _ _ _ | rw [Ly.un _ _ (by omega)] | rw [Ly.am] | rw [Ly.fz])))) (w.heap.size + 1) (by (repeat (first | exact Ly.ua _ _ _ | rw [Ly.un _ _ (by omega)] | rw [Ly.am] | rw [Ly.fz])))) (w.heap.size + 1 + 1) (by (repeat (first | exact Ly.ua _ _ _ | rw [Ly.un _ _ (by omega)] | rw [Ly.am] | rw [Ly.fz])))) (w.heap.size + 1 + 1 + 1) (by (repeat (first | exact Ly.ua _ _ _ | rw [Ly.un _ _ (by omega)] | rw [Ly.am] | rw [Ly.fz]))))
  clear hin_
  go_upto_region 4 with fail
  replace HIN := Lib.hid (HIN.out.frz (fun k_ => k_ = w.heap.size + 1 + 1))
  refine Ly.regionS (by kernel_rfl) (by kernel_rfl) HIN.out.1 HIN.out.2 (by simp only [List.size_toArray, List.length_cons, List.length_nil, Nat.reduceAdd]; rfl) (fun O Z hO hZ => ?_); have HO := Lib.hid hO; clear hO
  first
    | (apply Ly.kp HO 0; (case hx => exact ⟨rfl, rfl, rfl⟩); (case hk => decide +kernel); (case hv => intro w_ hw_; (go_simp <;> first | with_reducible rfl | exact ⟨rfl, rfl⟩)); simp only [Act.put, Ly.p1, Ly.p2, Ly.p3])
  first
    | (apply Ly.kp HO 1; (case hx => exact ⟨rfl, rfl, rfl⟩); (case hk => decide +kernel); (case hv => intro w_ hw_; (go_simp <;> first | with_reducible rfl | exact ⟨rfl, rfl⟩)); simp only [Act.put, Ly.p1, Ly.p2, Ly.p3])
  first
    | (apply Ly.kf HO 2; (case hx => exact ⟨rfl, rfl, rfl⟩); (case hk => decide +kernel); (case hv => intro w_ hw_ hF_; have P_ := hF_ (w.heap.size + 1 + 1) _ (show w.heap.size + 1 + 1 = w.heap.size + 1 + 1 from rfl) (by (repeat (first | exact Ly.ua _ _ _ | rw [Ly.un _ _ (by omega)] | rw [Ly.am] | rw [Ly.fz]))); have c3 := cellAt P_ 3 rfl; clear P_; (go_simp <;> first | with_reducible rfl | exact ⟨rfl, rfl⟩)); simp only [Act.put, Ly.p1, Ly.p2, Ly.p3])
  first
    | (apply Ly.ks HO 3 (g := w.heap.size + 1 + 1 + 1); (case hx => exact ⟨rfl, rfl, rfl⟩); (case hk => decide +kernel); (case hF => exact fun h_ => by (have h2_ : w.heap.size + 1 + 1 + 1 = w.heap.size + 1 + 1 := h_; omega)); (case hG => exact fun _ _ h_ _ => h_); (case hg => (repeat (first | exact Ly.ua _ _ _ | rw [Ly.un _ _ (by omega)] | rw [Ly.am] | rw [Ly.fz]))); (case hrun => intro w_ hw_ hb_; obtain ⟨c0, c1, c2, c3, c4, c5, c6, c7, c8, c9⟩ := Ly.cells10 hb_; obtain ⟨d0, d1, d2, d3, d4, d5, d6, d7, d8, d9⟩ := Ly.froz10 hb_; refine ⟨?_, ?_, ?_, ?_⟩; rotate_left; (next => (go_simp <;> first | with_reducible rfl | rfl)); (next => (repeat (first | (with_reducible exact Ly.OnlyAt.refl _ _) | (with_reducible refine Ly.OnlyAt.set ?_ _ _)))); (next => (simp [World.setCell, Array.getElem?_modify, hb_] <;> rfl))); simp only [Act.put, Ly.p1, Ly.p2, Ly.p3])
  first
    | (apply Ly.kp HO 4; (case hx => exact ⟨rfl, rfl, rfl⟩); (case hk => decide +kernel); (case hv => intro w_ hw_; (go_simp <;> first | with_reducible rfl | exact ⟨rfl, rfl⟩)); simp only [Act.put, Ly.p1, Ly.p2, Ly.p3])
  refine Ly.kd HO (by kernel_rfl) (fun hiv2 => hZ _ _ (fun W4 hw2 => ?_))
  clear hZ Z HO O
  have hin_ := Lib.hid (And.intro hw2 hiv2 : Ly.II _ _ _ _)
  clear hw2 hiv2
  replace HIN := Lib.hid (Ly.tk hin_.out (Ly.tk hin_.out (Ly.tk hin_.out (Ly.tk hin_.out (Ly.II.nil hin_.out.1.below) (w.heap.size) (by (repeat (first | exact Ly.ua _ _ _ | rw [Ly.un _ _ (by omega)] | rw [Ly.am] | rw [Ly.fz])))) (w.heap.size + 1) (by (repeat (first | exact Ly.ua _ _ _ | rw [Ly.un _ _ (by omega)] | rw [Ly.am] | rw [Ly.fz])))) (w.heap.size + 1 + 1) (by (repeat (first | exact Ly.ua _ _ _ | rw [Ly.un _ _ (by omega)] | rw [Ly.am] | rw [Ly.fz])))) (w.heap.size + 1 + 1 + 1) (by (repeat (first | exact Ly.ua _ _ _ | rw [Ly.un _ _ (by omega)] | rw [Ly.am] | rw [Ly.fz]))))
  clear hin_
  have P_ := HIN.out.1.holds (w.heap.size + 1 + 1 + 1) _ (by (repeat (first | exact Ly.ua _ _ _ | rw [Ly.un _ _ (by omega)] | rw [Ly.am] | rw [Ly.fz])))
  obtain ⟨r0_0, r0_1, r0_2, r0_3, r0_4, r0_5, r0_6, r0_7, r0_8, r0_9⟩ := Ly.cells10 P_
  clear P_
  go_wp2
  refine Ly.ret_of (by simp [results, Try.results20, go_sem, r0_0, r0_1, r0_2, r0_3, r0_4, r0_5, r0_6, r0_7, r0_8, r0_9] <;> (repeat' (first | rfl | apply And.intro))) rfl ⟨rfl, HIN.out.1.below⟩
set_option maxHeartbeats 2000000 in
theorem mdone_go {c1 c2 c3 : Value} {P : ProgV} {w : World} (h : RProg w c1 c2 c3 P) (hs : saneP P = true) (f : FrameV) (hf : f.wf) (c v : Int) (ok : Bool)  (hmay : mayB c v ok 0 = true) :
    Calls Try.prog 20 #[.agg #[c1, c2, c3], f.agg, .agg #[.int .i64 c, .int .i64 v, .bool ok, .int .i64 0]] w fun e w' => e = .returned (.tuple #[(doneM P f c v ok 0).1.agg, .int .i64 (doneM P f c v ok 0).2]) ∧ Below w.heap.size w w' := by
  have HP0 := Lib.hid h
  have hm := fun (W : World) => may_any c v ok 0 W
  rw [hmay] at hm
  have HMY := Lib.hid hm
  clear hm
  have hR : doneM P f c v ok 0 = doneF P f c v ok := by unfold doneM; rw [if_pos hmay, if_pos rfl]
  rw [hR]
  clear hR hmay
  have hdn := fun (W : World) (h : RProg W c1 c2 c3 P) => done_any h hs f hf c v ok
  obtain ⟨g, e, hg⟩ : ∃ g e, doneF P f c v ok = (g, e) := ⟨_, _, rfl⟩
  rw [hg] at hdn ⊢
  simp only [FrameV.agg, FrameV.cells] at hdn
  have HDN := Lib.hid hdn
  clear hdn hg
  clear h hs hf
  unfold FrameV.agg FrameV.cells
  go_enter Try.func20, Try.ntmps20
  go_upto_region 1 with fail
  refine Ly.start4 (fun W1 hII => ?_)
  have HIN := Lib.hid hII
  clear hII
  go_upto_region 1 with fail
  refine Ly.regionS0 (by kernel_rfl) (by kernel_rfl) HIN.out.1 HIN.out.2 (by simp only [List.size_toArray, List.length_cons, List.length_nil, Nat.reduceAdd]; rfl) (fun O Z hO hZ => ?_); have HO := Lib.hid hO; clear hO
  first
    | (apply Ly.kr HO 0; (case hx => exact ⟨rfl, rfl, rfl⟩); (case hk => decide +kernel); (case hv => intro w_ hw_; have P_ := hw_.holds (w.heap.size + 1 + 1) _ (by (repeat (first | exact Ly.ua _ _ _ | rw [Ly.un _ _ (by omega)] | rw [Ly.am] | rw [Ly.fz]))); obtain ⟨c0, c1, c2, c3⟩ := Ly.cells4 P_; clear P_; (go_simp <;> first | with_reducible rfl | exact ⟨rfl, rfl⟩)); simp only [Act.put, Ly.p1, Ly.p2, Ly.p3])
  first
    | (apply Ly.kc HO 1; (case hx => exact ⟨rfl, rfl, rfl⟩); (case hk => decide +kernel); (case hrun => intro w_; (go_simp <;> first | with_reducible rfl | exact ⟨rfl, rfl⟩)); (case hc => intro w_ hw_; with_reducible exact HMY.out _); simp only [Act.put, Ly.p1, Ly.p2, Ly.p3])
  first
    | (apply Ly.kp HO 2; (case hx => exact ⟨rfl, rfl, rfl⟩); (case hk => decide +kernel); (case hv => intro w_ hw_; (go_simp <;> first | with_reducible rfl | exact ⟨rfl, rfl⟩)); simp only [Act.put, Ly.p1, Ly.p2, Ly.p3])
  first
    | (apply Ly.kp HO 3; (case hx => exact ⟨rfl, rfl, rfl⟩); (case hk => decide +kernel); (case hv => intro w_ hw_; (go_simp <;> first | with_reducible rfl | exact ⟨rfl, rfl⟩)); simp only [Act.put, Ly.p1, Ly.p2, Ly.p3])
  refine Ly.kd HO (by kernel_rfl) (fun hiv2 => hZ _ _ (fun W2 hw2 => ?_))
  clear hZ Z HO O
  have hin_ := Lib.hid (And.intro hw2 hiv2 : Ly.II _ _ _ _)
  clear hw2 hiv2
  replace HIN := Lib.hid (Ly.tk hin_.out (Ly.tk hin_.out (Ly.tk hin_.out (Ly.tk hin_.out (Ly.II.nil hin_.out.1.below) (w.heap.size) (by (repeat (first | exact Ly.ua _ _ _ | rw [Ly.un _ _ (by omega)] | rw [Ly.am] | rw [Ly.fz])))) (w.heap.size + 1) (by (repeat (first | exact Ly.ua _ _ _ | rw [Ly.un _ _ (by omega)] | rw [Ly.am] | rw [Ly.fz])))) (w.heap.size + 1 + 1) (by (repeat (first | exact Ly.ua _ _ _ | rw [Ly.un _ _ (by omega)] | rw [Ly.am] | rw [Ly.fz])))) (w.heap.size + 1 + 1 + 1) (by (repeat (first | exact Ly.ua _ _ _ | rw [Ly.un _ _ (by omega)] | rw [Ly.am] | rw [Ly.fz]))))
  clear hin_
  go_upto_region 3 with fail
  refine Ly.regionS0 (by kernel_rfl) (by kernel_rfl) HIN.out.1 HIN.out.2 (by simp only [List.size_toArray, List.length_cons, List.length_nil, Nat.reduceAdd]; rfl) (fun O Z hO hZ => ?_); have HO := Lib.hid hO; clear hO
  first
    | (apply Ly.kp HO 0; (case hx => exact ⟨rfl, rfl, rfl⟩); (case hk => decide +kernel); (case hv => intro w_ hw_; (go_simp <;> first | with_reducible rfl | exact ⟨rfl, rfl⟩)); simp only [Act.put, Ly.p1, Ly.p2, Ly.p3])
  first
    | (apply Ly.kr HO 1; (case hx => exact ⟨rfl, rfl, rfl⟩); (case hk => decide +kernel); (case hv => intro w_ hw_; have P_ := hw_.holds (w.heap.size + 1 + 1) _ (by (repeat (first | exact Ly.ua _ _ _ | rw [Ly.un _ _ (by omega)] | rw [Ly.am] | rw [Ly.fz]))); have c3 := cellAt P_ 3 rfl; clear P_; (go_simp <;> first | with_reducible rfl | exact ⟨rfl, rfl⟩)); simp only [Act.put, Ly.p1, Ly.p2, Ly.p3])
  first
    | (apply Ly.kp HO 2; (case hx => exact ⟨rfl, rfl, rfl⟩); (case hk => decide +kernel); (case hv => intro w_ hw_; (go_simp <;> first | with_reducible rfl | exact ⟨rfl, rfl⟩)); simp only [Act.put, Ly.p1, Ly.p2, Ly.p3])
  first
    | (apply Ly.kp HO 3; (case hx => exact ⟨rfl, rfl, rfl⟩); (case hk => decide +kernel); (case hv => intro w_ hw_; (go_simp <;> first | with_reducible rfl | exact ⟨rfl, rfl⟩)); simp only [Act.put, Ly.p1, Ly.p2, Ly.p3])
  refine Ly.kd HO (by kernel_rfl) (fun hiv2 => hZ _ _ (fun W3 hw2 => ?_))
  clear hZ Z HO O
  have hin_ := Lib.hid (And.intro hw2 hiv2 : Ly.II _ _ _ _)
  clear hw2 hiv2
  replace HIN := Lib.hid (Ly.tk hin_.out (Ly.tk hin_.out (Ly.tk hin_.out (Ly.tk hin_.out (Ly.II.nil hin_.out.1.below) (w.heap.size) (by (repeat (first | exact Ly.ua _ _ _ | rw [Ly.un _ _ (by omega)] | rw [Ly.am] | rw [Ly.fz])))) (w.heap.size + 1) (by (repeat (first | exact Ly.ua _ _ _ | rw [Ly.un _ _ (by omega)] | rw [Ly.am] | rw [Ly.fz])))) (w.heap.size + 1 + 1) (by (repeat (first | exact Ly.ua _ _ _ | rw [Ly.un _ _ (by omega)] | rw [Ly.am] | rw [Ly.fz])))) (w.heap.size + 1 + 1 + 1) (by (repeat (first | exact Ly.ua _ _ _ | rw [Ly.un _ _ (by omega)] | rw [Ly.am] | rw [Ly.fz]))))
  clear hin_
  go_upto_region 5 with fail
  refine Ly.regionS0 (by kernel_rfl) (by kernel_rfl) HIN.out.1 HIN.out.2 (by simp only [List.size_toArray, List.length_cons, List.length_nil, Nat.reduceAdd]; rfl) (fun O Z hO hZ => ?_); have HO := Lib.hid hO; clear hO
  first
    | (apply Ly.kr HO 0; (case hx => exact ⟨rfl, rfl, rfl⟩); (case hk => decide +kernel); (case hv => intro w_ hw_; have P_ := hw_.holds (w.heap.size) _ (by (repeat (first | exact Ly.ua _ _ _ | rw [Ly.un _ _ (by omega)] | rw [Ly.am] | rw [Ly.fz]))); obtain ⟨c0, c1, c2⟩ := Ly.cells3 P_; clear P_; (go_simp <;> first | with_reducible rfl | exact ⟨rfl, rfl⟩)); simp only [Act.put, Ly.p1, Ly.p2, Ly.p3])
  first
    | (apply Ly.kr HO 1; (case hx => exact ⟨rfl, rfl, rfl⟩); (case hk => decide +kernel); (case hv => intro w_ hw_; have P_ := hw_.holds (w.heap.size + 1) _ (by (repeat (first | exact Ly.ua _ _ _ | rw [Ly.un _ _ (by omega)] | rw [Ly.am] | rw [Ly.fz]))); obtain ⟨c0, c1, c2, c3, c4, c5, c6, c7, c8, c9⟩ := Ly.cells10 P_; clear P_; (go_simp <;> first | with_reducible rfl | exact ⟨rfl, rfl⟩)); simp only [Act.put, Ly.p1, Ly.p2, Ly.p3])
  first
    | (apply Ly.kp HO 2; (case hx => exact ⟨rfl, rfl, rfl⟩); (case hk => decide +kernel); (case hv => intro w_ hw_; (go_simp <;> first | with_reducible rfl | exact ⟨rfl, rfl⟩)); simp only [Act.put, Ly.p1, Ly.p2, Ly.p3])
  first
    | (apply Ly.kr HO 3; (case hx => exact ⟨rfl, rfl, rfl⟩); (case hk => decide +kernel); (case hv => intro w_ hw_; have P_ := hw_.holds (w.heap.size + 1 + 1) _ (by (repeat (first | exact Ly.ua _ _ _ | rw [Ly.un _ _ (by omega)] | rw [Ly.am] | rw [Ly.fz]))); have c0 := cellAt P_ 0 rfl; clear P_; (go_simp <;> first | with_reducible rfl | exact ⟨rfl, rfl⟩)); simp only [Act.put, Ly.p1, Ly.p2, Ly.p3])
  first
    | (apply Ly.kp HO 4; (case hx => exact ⟨rfl, rfl, rfl⟩); (case hk => decide +kernel); (case hv => intro w_ hw_; (go_simp <;> first | with_reducible rfl | exact ⟨rfl, rfl⟩)); simp only [Act.put, Ly.p1, Ly.p2, Ly.p3])
  first
    | (apply Ly.kr HO 5; (case hx => exact ⟨rfl, rfl, rfl⟩); (case hk => decide +kernel); (case hv => intro w_ hw_; have P_ := hw_.holds (w.heap.size + 1 + 1) _ (by (repeat (first | exact Ly.ua _ _ _ | rw [Ly.un _ _ (by omega)] | rw [Ly.am] | rw [Ly.fz]))); have c1 := cellAt P_ 1 rfl; clear P_; (go_simp <;> first | with_reducible rfl | exact ⟨rfl, rfl⟩)); simp only [Act.put, Ly.p1, Ly.p2, Ly.p3])
  first
    | (apply Ly.kp HO 6; (case hx => exact ⟨rfl, rfl, rfl⟩); (case hk => decide +kernel); (case hv => intro w_ hw_; (go_simp <;> first | with_reducible rfl | exact ⟨rfl, rfl⟩)); simp only [Act.put, Ly.p1, Ly.p2, Ly.p3])
  first
    | (apply Ly.kr HO 7; (case hx => exact ⟨rfl, rfl, rfl⟩); (case hk => decide +kernel); (case hv => intro w_ hw_; have P_ := hw_.holds (w.heap.size + 1 + 1) _ (by (repeat (first | exact Ly.ua _ _ _ | rw [Ly.un _ _ (by omega)] | rw [Ly.am] | rw [Ly.fz]))); have c2 := cellAt P_ 2 rfl; clear P_; (go_simp <;> first | with_reducible rfl | exact ⟨rfl, rfl⟩)); simp only [Act.put, Ly.p1, Ly.p2, Ly.p3])
  first
    | (apply Ly.kc HO 8; (case hx => exact ⟨rfl, rfl, rfl⟩); (case hk => decide +kernel); (case hrun => intro w_; (go_simp <;> first | with_reducible rfl | exact ⟨rfl, rfl⟩)); (case hc => intro w_ hw_; with_reducible exact HDN.out _ (HP0.out.keep hw_.below)); simp only [Act.put, Ly.p1, Ly.p2, Ly.p3])
  first
    | (apply Ly.kp HO 9; (case hx => exact ⟨rfl, rfl, rfl⟩); (case hk => decide +kernel); (case hv => intro w_ hw_; (go_simp <;> first | with_reducible rfl | exact ⟨rfl, rfl⟩)); simp only [Act.put, Ly.p1, Ly.p2, Ly.p3])
  first
    | (apply Ly.kp HO 10; (case hx => exact ⟨rfl, rfl, rfl⟩); (case hk => decide +kernel); (case hv => intro w_ hw_; (go_simp <;> first | with_reducible rfl | exact ⟨rfl, rfl⟩)); simp only [Act.put, Ly.p1, Ly.p2, Ly.p3])
  first
    | (apply Ly.ks HO 11 (g := w.heap.size + 1 + 1 + 1); (case hx => exact ⟨rfl, rfl, rfl⟩); (case hk => decide +kernel); (case hF => exact fun h_ => h_); (case hG => exact fun _ _ h_ _ => h_); (case hg => (repeat (first | exact Ly.ua _ _ _ | rw [Ly.un _ _ (by omega)] | rw [Ly.am] | rw [Ly.fz]))); (case hrun => intro w_ hw_ hb_; obtain ⟨c0, c1, c2, c3, c4, c5, c6, c7, c8, c9⟩ := Ly.cells10 hb_; obtain ⟨d0, d1, d2, d3, d4, d5, d6, d7, d8, d9⟩ := Ly.froz10 hb_; refine ⟨?_, ?_, ?_, ?_⟩; rotate_left; (next => (go_simp <;> first | with_reducible rfl | rfl)); (next => (repeat (first | (with_reducible exact Ly.OnlyAt.refl _ _) | (with_reducible refine Ly.OnlyAt.set ?_ _ _)))); (next => (simp [World.setCell, Array.getElem?_modify, hb_] <;> rfl))); simp only [Act.put, Ly.p1, Ly.p2, Ly.p3])
  first
    | (apply Ly.kp HO 12; (case hx => exact ⟨rfl, rfl, rfl⟩); (case hk => decide +kernel); (case hv => intro w_ hw_; (go_simp <;> first | with_reducible rfl | exact ⟨rfl, rfl⟩)); simp only [Act.put, Ly.p1, Ly.p2, Ly.p3])
  refine Ly.kd HO (by kernel_rfl) (fun hiv2 => hZ _ _ (fun W4 hw2 => ?_))
  clear hZ Z HO O
  have hin_ := Lib.hid (And.intro hw2 hiv2 : Ly.II _ _ _ _)
  clear hw2 hiv2
  replace HIN := Lib.hid (Ly.tk hin_.out (Ly.tk hin_.out (Ly.tk hin_.out (Ly.tk hin_.out (Ly.II.nil hin_.out.1.below) (w.heap.size) (by (repeat (first | exact Ly.ua _ _ _ | rw [Ly.un _ _ (by omega)] | rw [Ly.am] | rw [Ly.fz])))) (w.heap.size + 1) (by (repeat (first | exact Ly.ua _ _ _ | rw [Ly.un _ _ (by omega)] | rw [Ly.am] | rw [Ly.fz])))) (w.heap.size + 1 + 1) (by (repeat (first | exact Ly.ua _ _ _ | rw [Ly.un _ _ (by omega)] | rw [Ly.am] | rw [Ly.fz])))) (w.heap.size + 1 + 1 + 1) (by (repeat (first | exact Ly.ua _ _ _ | rw [Ly.un _ _ (by omega)] | rw [Ly.am] | rw [Ly.fz]))))
  clear hin_
  have P_ := HIN.out.1.holds (w.heap.size + 1 + 1 + 1) _ (by (repeat (first | exact Ly.ua _ _ _ | rw [Ly.un _ _ (by omega)] | rw [Ly.am] | rw [Ly.fz])))
  obtain ⟨r0_0, r0_1, r0_2, r0_3, r0_4, r0_5, r0_6, r0_7, r0_8, r0_9⟩ := Ly.cells10 P_
  clear P_
  go_wp2
  refine Ly.ret_of (by simp [results, Try.results20, go_sem, r0_0, r0_1, r0_2, r0_3, r0_4, r0_5, r0_6, r0_7, r0_8, r0_9] <;> (repeat' (first | rfl | apply And.intro))) rfl ⟨rfl, HIN.out.1.below⟩
theorem mdone_any {c1 c2 c3 : Value} {P : ProgV} {w : World} (h : RProg w c1 c2 c3 P) (hs : saneP P = true) (f : FrameV) (hf : f.wf) (c v : Int) (ok : Bool) (code : Int) :
    Calls Try.prog 20 #[.agg #[c1, c2, c3], f.agg, .agg #[.int .i64 c, .int .i64 v, .bool ok, .int .i64 code]] w fun e w' => e = .returned (.tuple #[(doneM P f c v ok code).1.agg, .int .i64 (doneM P f c v ok code).2]) ∧ Below w.heap.size w w' := by
  cases hm : mayB c v ok code with
  | false => exact mdone_bad h hs f hf c v ok code hm
  | true =>
    by_cases hc : code = 0
    · subst hc; exact mdone_go h hs f hf c v ok hm
    · exact mdone_fault h hs f hf c v ok code hm hc
set_option maxHeartbeats 2000000 in
theorem rmdone_bad {c1 c2 c3 : Value} {P : ProgV} {w : World} (h : RProg w c1 c2 c3 P) (hs : saneP P = true) (f : FrameV) (hf : f.wf) (c v : Int) (ok : Bool) (code : Int) (hmay : mayB c v ok code = false) :
    Calls Try.prog 21 #[.agg #[c1, c2, c3], f.agg, .agg #[.int .i64 c, .int .i64 v, .bool ok, .int .i64 code]] w fun e w' => e = .returned (.tuple #[(doneM P f c v ok code).1.agg, .int .i64 (doneM P f c v ok code).2]) ∧ Below w.heap.size w w' := by
  have HP0 := Lib.hid h
  have hm := fun (W : World) => rmay_any c v ok code W
  rw [hmay] at hm
  have HMY := Lib.hid hm
  clear hm
  have hR : doneM P f c v ok code = (FrameV.zero, 2) := by unfold doneM; rw [if_neg (by rw [hmay]; decide)]
  rw [hR]
  clear hR hmay
  clear h hs hf
  unfold FrameV.agg FrameV.cells
  go_enter Try.func21, Try.ntmps21
  go_upto_region 1 with fail
  refine Ly.start4 (fun W1 hII => ?_)
  have HIN := Lib.hid hII
  clear hII
  go_upto_region 1 with fail
  refine Ly.regionS0 (by kernel_rfl) (by kernel_rfl) HIN.out.1 HIN.out.2 (by simp only [List.size_toArray, List.length_cons, List.length_nil, Nat.reduceAdd]; rfl) (fun O Z hO hZ => ?_); have HO := Lib.hid hO; clear hO
  first
    | (apply Ly.kr HO 0; (case hx => exact ⟨rfl, rfl, rfl⟩); (case hk => decide +kernel); (case hv => intro w_ hw_; have P_ := hw_.holds (w.heap.size + 1 + 1) _ (by (repeat (first | exact Ly.ua _ _ _ | rw [Ly.un _ _ (by omega)] | rw [Ly.am] | rw [Ly.fz]))); obtain ⟨c0, c1, c2, c3⟩ := Ly.cells4 P_; clear P_; (go_simp <;> first | with_reducible rfl | exact ⟨rfl, rfl⟩)); simp only [Act.put, Ly.p1, Ly.p2, Ly.p3])
  first
    | (apply Ly.kc HO 1; (case hx => exact ⟨rfl, rfl, rfl⟩); (case hk => decide +kernel); (case hrun => intro w_; (go_simp <;> first | with_reducible rfl | exact ⟨rfl, rfl⟩)); (case hc => intro w_ hw_; with_reducible exact HMY.out _); simp only [Act.put, Ly.p1, Ly.p2, Ly.p3])
  first
    | (apply Ly.kp HO 2; (case hx => exact ⟨rfl, rfl, rfl⟩); (case hk => decide +kernel); (case hv => intro w_ hw_; (go_simp <;> first | with_reducible rfl | exact ⟨rfl, rfl⟩)); simp only [Act.put, Ly.p1, Ly.p2, Ly.p3])
  refine Ly.kd HO (by kernel_rfl) (fun hiv2 => hZ _ _ (fun W2 hw2 => ?_))
  clear hZ Z HO O
  have hin_ := Lib.hid (And.intro hw2 hiv2 : Ly.II _ _ _ _)
  clear hw2 hiv2
  replace HIN := Lib.hid (Ly.tk hin_.out (Ly.tk hin_.out (Ly.tk hin_.out (Ly.tk hin_.out (Ly.II.nil hin_.out.1.below) (w.heap.size) (by (repeat (first | exact Ly.ua _ _ _ | rw [Ly.un _ _ (by omega)] | rw [Ly.am] | rw [Ly.fz])))) (w.heap.size + 1) (by (repeat (first | exact Ly.ua _ _ _ | rw [Ly.un _ _ (by omega)] | rw [Ly.am] | rw [Ly.fz])))) (w.heap.size + 1 + 1) (by (repeat (first | exact Ly.ua _ _ _ | rw [Ly.un _ _ (by omega)] | rw [Ly.am] | rw [Ly.fz])))) (w.heap.size + 1 + 1 + 1) (by (repeat (first | exact Ly.ua _ _ _ | rw [Ly.un _ _ (by omega)] | rw [Ly.am] | rw [Ly.fz]))))
  clear hin_
  go_upto_region 2 with fail
  refine Ly.regionS0 (by kernel_rfl) (by kernel_rfl) HIN.out.1 HIN.out.2 (by simp only [List.size_toArray, List.length_cons, List.length_nil, Nat.reduceAdd]; rfl) (fun O Z hO hZ => ?_); have HO := Lib.hid hO; clear hO
  first
    | (apply Ly.kp HO 0; (case hx => exact ⟨rfl, rfl, rfl⟩); (case hk => decide +kernel); (case hv => intro w_ hw_; (go_simp <;> first | with_reducible rfl | exact ⟨rfl, rfl⟩)); simp only [Act.put, Ly.p1, Ly.p2, Ly.p3])
  first
    | (apply Ly.ks HO 1 (g := w.heap.size + 1 + 1 + 1); (case hx => exact ⟨rfl, rfl, rfl⟩); (case hk => decide +kernel); (case hF => exact fun h_ => h_); (case hG => exact fun _ _ h_ _ => h_); (case hg => (repeat (first | exact Ly.ua _ _ _ | rw [Ly.un _ _ (by omega)] | rw [Ly.am] | rw [Ly.fz]))); (case hrun => intro w_ hw_ hb_; obtain ⟨c0, c1, c2, c3, c4, c5, c6, c7, c8, c9⟩ := Ly.cells10 hb_; obtain ⟨d0, d1, d2, d3, d4, d5, d6, d7, d8, d9⟩ := Ly.froz10 hb_; refine ⟨?_, ?_, ?_, ?_⟩; rotate_left; (next => (go_simp <;> first | with_reducible rfl | rfl)); (next => (repeat (first | (with_reducible exact Ly.OnlyAt.refl _ _) | (with_reducible refine Ly.OnlyAt.set ?_ _ _)))); (next => (simp [World.setCell, Array.getElem?_modify, hb_] <;> rfl))); simp only [Act.put, Ly.p1, Ly.p2, Ly.p3])
  first
    | (apply Ly.kp HO 2; (case hx => exact ⟨rfl, rfl, rfl⟩); (case hk => decide +kernel); (case hv => intro w_ hw_; (go_simp <;> first | with_reducible rfl | exact ⟨rfl, rfl⟩)); simp only [Act.put, Ly.p1, Ly.p2, Ly.p3])
  refine Ly.kd HO (by kernel_rfl) (fun hiv2 => hZ _ _ (fun W3 hw2 => ?_))
  clear hZ Z HO O
  have hin_ := Lib.hid (And.intro hw2 hiv2 : Ly.II _ _ _ _)
  clear hw2 hiv2
  replace HIN := Lib.hid (Ly.tk hin_.out (Ly.tk hin_.out (Ly.tk hin_.out (Ly.tk hin_.out (Ly.II.nil hin_.out.1.below) (w.heap.size) (by (repeat (first | exact Ly.ua _ _ _ | rw [Ly.un _ _ (by omega)] | rw [Ly.am] | rw [Ly.fz])))) (w.heap.size + 1) (by (repeat (first | exact Ly.ua _ _ _ | rw [Ly.un _ _ (by omega)] | rw [Ly.am] | rw [Ly.fz])))) (w.heap.size + 1 + 1) (by (repeat (first | exact Ly.ua _ _ _ | rw [Ly.un _ _ (by omega)] | rw [Ly.am] | rw [Ly.fz])))) (w.heap.size + 1 + 1 + 1) (by (repeat (first | exact Ly.ua _ _ _ | rw [Ly.un _ _ (by omega)] | rw [Ly.am] | rw [Ly.fz]))))
  clear hin_
  have P_ := HIN.out.1.holds (w.heap.size + 1 + 1 + 1) _ (by (repeat (first | exact Ly.ua _ _ _ | rw [Ly.un _ _ (by omega)] | rw [Ly.am] | rw [Ly.fz])))
  obtain ⟨r0_0, r0_1, r0_2, r0_3, r0_4, r0_5, r0_6, r0_7, r0_8, r0_9⟩ := Ly.cells10 P_
  clear P_
  go_wp2
  refine Ly.ret_of (by simp [results, Try.results21, go_sem, r0_0, r0_1, r0_2, r0_3, r0_4, r0_5, r0_6, r0_7, r0_8, r0_9] <;> (repeat' (first | rfl | apply And.intro))) rfl ⟨rfl, HIN.out.1.below⟩
set_option maxHeartbeats 2000000 in
theorem rmdone_fault {c1 c2 c3 : Value} {P : ProgV} {w : World} (h : RProg w c1 c2 c3 P) (hs : saneP P = true) (f : FrameV) (hf : f.wf) (c v : Int) (ok : Bool) (code : Int) (hmay : mayB c v ok code = true) (hc : code ≠ 0) :
    Calls Try.prog 21 #[.agg #[c1, c2, c3], f.agg, .agg #[.int .i64 c, .int .i64 v, .bool ok, .int .i64 code]] w fun e w' => e = .returned (.tuple #[(doneM P f c v ok code).1.agg, .int .i64 (doneM P f c v ok code).2]) ∧ Below w.heap.size w w' := by
  have HP0 := Lib.hid h
  have hm := fun (W : World) => rmay_any c v ok code W
  rw [hmay] at hm
  have HMY := Lib.hid hm
  clear hm
  have hR : doneM P f c v ok code = (FrameV.zero, code) := by unfold doneM; rw [if_pos hmay, if_neg hc]
  rw [hR]
  clear hR hmay
  have hc1 : (code != 0) = true := by simpa using hc
  clear hc
  clear h hs hf
  unfold FrameV.agg FrameV.cells
  go_enter Try.func21, Try.ntmps21
  go_upto_region 1 with fail
  refine Ly.start4 (fun W1 hII => ?_)
  have HIN := Lib.hid hII
  clear hII
  go_upto_region 1 with fail
  refine Ly.regionS0 (by kernel_rfl) (by kernel_rfl) HIN.out.1 HIN.out.2 (by simp only [List.size_toArray, List.length_cons, List.length_nil, Nat.reduceAdd]; rfl) (fun O Z hO hZ => ?_); have HO := Lib.hid hO; clear hO
  first
    | (apply Ly.kr HO 0; (case hx => exact ⟨rfl, rfl, rfl⟩); (case hk => decide +kernel); (case hv => intro w_ hw_; have P_ := hw_.holds (w.heap.size + 1 + 1) _ (by (repeat (first | exact Ly.ua _ _ _ | rw [Ly.un _ _ (by omega)] | rw [Ly.am] | rw [Ly.fz]))); obtain ⟨c0, c1, c2, c3⟩ := Ly.cells4 P_; clear P_; (go_simp <;> first | with_reducible rfl | exact ⟨rfl, rfl⟩)); simp only [Act.put, Ly.p1, Ly.p2, Ly.p3])
  first
    | (apply Ly.kc HO 1; (case hx => exact ⟨rfl, rfl, rfl⟩); (case hk => decide +kernel); (case hrun => intro w_; (go_simp <;> first | with_reducible rfl | exact ⟨rfl, rfl⟩)); (case hc => intro w_ hw_; with_reducible exact HMY.out _); simp only [Act.put, Ly.p1, Ly.p2, Ly.p3])
  first
    | (apply Ly.kp HO 2; (case hx => exact ⟨rfl, rfl, rfl⟩); (case hk => decide +kernel); (case hv => intro w_ hw_; (go_simp <;> first | with_reducible rfl | exact ⟨rfl, rfl⟩)); simp only [Act.put, Ly.p1, Ly.p2, Ly.p3])
  refine Ly.kd HO (by kernel_rfl) (fun hiv2 => hZ _ _ (fun W2 hw2 => ?_))
  clear hZ Z HO O
  have hin_ := Lib.hid (And.intro hw2 hiv2 : Ly.II _ _ _ _)
  clear hw2 hiv2
  replace HIN := Lib.hid (Ly.tk hin_.out (Ly.tk hin_.out (Ly.tk hin_.out (Ly.tk hin_.out (Ly.II.nil hin_.out.1.below) (w.heap.size) (by (repeat (first | exact Ly.ua _ _ _ | rw [Ly.un _ _ (by omega)] | rw [Ly.am] | rw [Ly.fz])))) (w.heap.size + 1) (by (repeat (first | exact Ly.ua _ _ _ | rw [Ly.un _ _ (by omega)] | rw [Ly.am] | rw [Ly.fz])))) (w.heap.size + 1 + 1) (by (repeat (first | exact Ly.ua _ _ _ | rw [Ly.un _ _ (by omega)] | rw [Ly.am] | rw [Ly.fz])))) (w.heap.size + 1 + 1 + 1) (by (repeat (first | exact Ly.ua _ _ _ | rw [Ly.un _ _ (by omega)] | rw [Ly.am] | rw [Ly.fz]))))
  clear hin_
  go_upto_region 3 with fail
  refine Ly.regionS0 (by kernel_rfl) (by kernel_rfl) HIN.out.1 HIN.out.2 (by simp only [List.size_toArray, List.length_cons, List.length_nil, Nat.reduceAdd]; rfl) (fun O Z hO hZ => ?_); have HO := Lib.hid hO; clear hO
  first
    | (apply Ly.kp HO 0; (case hx => exact ⟨rfl, rfl, rfl⟩); (case hk => decide +kernel); (case hv => intro w_ hw_; (go_simp <;> first | with_reducible rfl | exact ⟨rfl, rfl⟩)); simp only [Act.put, Ly.p1, Ly.p2, Ly.p3])
  first
    | (apply Ly.kr HO 1; (case hx => exact ⟨rfl, rfl, rfl⟩); (case hk => decide +kernel); (case hv => intro w_ hw_; have P_ := hw_.holds (w.heap.size + 1 + 1) _ (by (repeat (first | exact Ly.ua _ _ _ | rw [Ly.un _ _ (by omega)] | rw [Ly.am] | rw [Ly.fz]))); have c3 := cellAt P_ 3 rfl; clear P_; (go_simp <;> first | with_reducible rfl | exact ⟨rfl, rfl⟩)); simp only [Act.put, Ly.p1, Ly.p2, Ly.p3])
  first
    | (apply Ly.kp HO 2; (case hx => exact ⟨rfl, rfl, rfl⟩); (case hk => decide +kernel); (case hv => intro w_ hw_; (go_simp <;> first | with_reducible rfl | exact ⟨rfl, rfl⟩)); simp only [Act.put, Ly.p1, Ly.p2, Ly.p3])
  refine Ly.kd HO (by kernel_rfl) (fun hiv2 => hZ _ _ (fun W3 hw2 => ?_))
  clear hZ Z HO O
  have hin_ := Lib.hid (And.intro hw2 hiv2 : Ly.II _ _ _ _)
  clear hw2 hiv2
  replace HIN := Lib.hid (Ly.tk hin_.out (Ly.tk hin_.out (Ly.tk hin_.out (Ly.tk hin_.out (Ly.II.nil hin_.out.1.below) (w.heap.size) (by (repeat (first | exact Ly.ua _ _ _ | rw [Ly.un _ _ (by omega)] | rw [Ly.am] | rw [Ly.fz])))) (w.heap.size + 1) (by (repeat (first | exact Ly.ua _ _ _ | rw [Ly.un _ _ (by omega)] | rw [Ly.am] | rw [Ly.fz])))) (w.heap.size + 1 + 1) (by (repeat (first | exact Ly.ua _ _ _ | rw [Ly.un _ _ (by omega)] | rw [Ly.am] | rw [Ly.fz])))) (w.heap.size + 1 + 1 + 1) (by (repeat (first | exact Ly.ua _ _ _ | rw [Ly.un _ _ (by omega)] | rw [Ly.am] | rw [Ly.fz]))))
  clear hin_
  go_upto_region 4 with fail
  replace HIN := Lib.hid (HIN.out.frz (fun k_ => k_ = w.heap.size + 1 + 1))
  refine Ly.regionS (by kernel_rfl) (by kernel_rfl) HIN.out.1 HIN.out.2 (by simp only [List.size_toArray, List.length_cons, List.length_nil, Nat.reduceAdd]; rfl) (fun O Z hO hZ => ?_); have HO := Lib.hid hO; clear hO
  first
    | (apply Ly.kp HO 0; (case hx => exact ⟨rfl, rfl, rfl⟩); (case hk => decide +kernel); (case hv => intro w_ hw_; (go_simp <;> first | with_reducible rfl | exact ⟨rfl, rfl⟩)); simp only [Act.put, Ly.p1, Ly.p2, Ly.p3])
  first
    | (apply Ly.kp HO 1; (case hx => exact ⟨rfl, rfl, rfl⟩); (case hk => decide +kernel); (case hv => intro w_ hw_; (go_simp <;> first | with_reducible rfl | exact ⟨rfl, rfl⟩)); simp only [Act.put, Ly.p1, Ly.p2, Ly.p3])
  first
    | (apply Ly.kf HO 2; (case hx => exact ⟨rfl, rfl, rfl⟩); (case hk => decide +kernel); (case hv => intro w_ hw_ hF_; have P_ := hF_ (w.heap.size + 1 + 1) _ (show w.heap.size + 1 + 1 = w.heap.size + 1 + 1 from rfl) (by (repeat (first | exact Ly.ua _ _ _ | rw [Ly.un _ _ (by omega)] | rw [Ly.am] | rw [Ly.fz]))); have c3 := cellAt P_ 3 rfl; clear P_; (go_simp <;> first | with_reducible rfl | exact ⟨rfl, rfl⟩)); simp only [Act.put, Ly.p1, Ly.p2, Ly.p3])
  first
    | (apply Ly.ks HO 3 (g := w.heap.size + 1 + 1 + 1); (case hx => exact ⟨rfl, rfl, rfl⟩); (case hk => decide +kernel); (case hF => exact fun h_ => by (have h2_ : w.heap.size + 1 + 1 + 1 = w.heap.size + 1 + 1 := h_; omega)); (case hG => exact fun _ _ h_ _ => h_); (case hg => (repeat (first | exact Ly.ua _ _ _ | rw [Ly.un _ _ (by omega)] | rw [Ly.am] | rw [Ly.fz]))); (case hrun => intro w_ hw_ hb_; obtain ⟨c0, c1, c2, c3, c4, c5, c6, c7, c8, c9⟩ := Ly.cells10 hb_; obtain ⟨d0, d1, d2, d3, d4, d5, d6, d7, d8, d9⟩ := Ly.froz10 hb_; refine ⟨?_, ?_, ?_, ?_⟩; rotate_left; (next => (go_simp <;> first | with_reducible rfl | rfl)); (next => (repeat (first | (with_reducible exact Ly.OnlyAt.refl _ _) | (with_reducible refine Ly.OnlyAt.set ?_ _ _)))); (next => (simp [World.setCell, Array.getElem?_modify, hb_] <;> rfl))); simp only [Act.put, Ly.p1, Ly.p2, Ly.p3])
  first
    | (apply Ly.kp HO 4; (case hx => exact ⟨rfl, rfl, rfl⟩); (case hk => decide +kernel); (case hv => intro w_ hw_; (go_simp <;> first | with_reducible rfl | exact ⟨rfl, rfl⟩)); simp only [Act.put, Ly.p1, Ly.p2, Ly.p3])
  refine Ly.kd HO (by kernel_rfl) (fun hiv2 => hZ _ _ (fun W4 hw2 => ?_))
  clear hZ Z HO O
  have hin_ := Lib.hid (And.intro hw2 hiv2 : Ly.II _ _ _ _)
  clear hw2 hiv2
  replace HIN := Lib.hid (Ly.tk hin_.out (Ly.tk hin_.out (Ly.tk hin_.out (Ly.tk hin_.out (Ly.II.nil hin_.out.1.below) (w.heap.size) (by (repeat (first | exact Ly.ua _ _ _ | rw [Ly.un _ _ (by omega)] | rw [Ly.am] | rw [Ly.fz])))) (w.heap.size + 1) (by (repeat (first | exact Ly.ua _ _ _ | rw [Ly.un _ _ (by omega)] | rw [Ly.am] | rw [Ly.fz])))) (w.heap.size + 1 + 1) (by (repeat (first | exact Ly.ua _ _ _ | rw [Ly.un _ _ (by omega)] | rw [Ly.am] | rw [Ly.fz])))) (w.heap.size + 1 + 1 + 1) (by (repeat (first | exact Ly.ua _ _ _ | rw [Ly.un _ _ (by omega)] | rw [Ly.am] | rw [Ly.fz]))))
  clear hin_
  have P_ := HIN.out.1.holds (w.heap.size + 1 + 1 + 1) _ (by (repeat (first | exact Ly.ua _ _ _ | rw [Ly.un _ _ (by omega)] | rw [Ly.am] | rw [Ly.fz])))
  obtain ⟨r0_0, r0_1, r0_2, r0_3, r0_4, r0_5, r0_6, r0_7, r0_8, r0_9⟩ := Ly.cells10 P_
  clear P_
  go_wp2
  refine Ly.ret_of (by simp [results, Try.results21, go_sem, r0_0, r0_1, r0_2, r0_3, r0_4, r0_5, r0_6, r0_7, r0_8, r0_9] <;> (repeat' (first | rfl | apply And.intro))) rfl ⟨rfl, HIN.out.1.below⟩
set_option maxHeartbeats 2000000 in
theorem rmdone_go {c1 c2 c3 : Value} {P : ProgV} {w : World} (h : RProg w c1 c2 c3 P) (hs : saneP P = true) (f : FrameV) (hf : f.wf) (c v : Int) (ok : Bool)  (hmay : mayB c v ok 0 = true) :
    Calls Try.prog 21 #[.agg #[c1, c2, c3], f.agg, .agg #[.int .i64 c, .int .i64 v, .bool ok, .int .i64 0]] w fun e w' => e = .returned (.tuple #[(doneM P f c v ok 0).1.agg, .int .i64 (doneM P f c v ok 0).2]) ∧ Below w.heap.size w w' := by
  have HP0 := Lib.hid h
  have hm := fun (W : World) => rmay_any c v ok 0 W
  rw [hmay] at hm
  have HMY := Lib.hid hm
  clear hm
  have hR : doneM P f c v ok 0 = doneF P f c v ok := by unfold doneM; rw [if_pos hmay, if_pos rfl]
  rw [hR]
  clear hR hmay
  have hdn := fun (W : World) (h : RProg W c1 c2 c3 P) => rdone_any h hs f hf c v ok
  obtain ⟨g, e, hg⟩ : ∃ g e, doneF P f c v ok = (g, e) := ⟨_, _, rfl⟩
  rw [hg] at hdn ⊢
  simp only [FrameV.agg, FrameV.cells] at hdn
  have HDN := Lib.hid hdn
  clear hdn hg
  clear h hs hf
  unfold FrameV.agg FrameV.cells
  go_enter Try.func21, Try.ntmps21
  go_upto_region 1 with fail
  refine Ly.start4 (fun W1 hII => ?_)
  have HIN := Lib.hid hII
  clear hII
  go_upto_region 1 with fail
  refine Ly.regionS0 (by kernel_rfl) (by kernel_rfl) HIN.out.1 HIN.out.2 (by simp only [List.size_toArray, List.length_cons, List.length_nil, Nat.reduceAdd]; rfl) (fun O Z hO hZ => ?_); have HO := Lib.hid hO; clear hO
  first
    | (apply Ly.kr HO 0; (case hx => exact ⟨rfl, rfl, rfl⟩); (case hk => decide +kernel); (case hv => intro w_ hw_; have P_ := hw_.holds (w.heap.size + 1 + 1) _ (by (repeat (first | exact Ly.ua _ _ _ | rw [Ly.un _ _ (by omega)] | rw [Ly.am] | rw [Ly.fz]))); obtain ⟨c0, c1, c2, c3⟩ := Ly.cells4 P_; clear P_; (go_simp <;> first | with_reducible rfl | exact ⟨rfl, rfl⟩)); simp only [Act.put, Ly.p1, Ly.p2, Ly.p3])
  first
    | (apply Ly.kc HO 1; (case hx => exact ⟨rfl, rfl, rfl⟩); (case hk => decide +kernel); (case hrun => intro w_; (go_simp <;> first | with_reducible rfl | exact ⟨rfl, rfl⟩)); (case hc => intro w_ hw_; with_reducible exact HMY.out _); simp only [Act.put, Ly.p1, Ly.p2, Ly.p3])
  first
    | (apply Ly.kp HO 2; (case hx => exact ⟨rfl, rfl, rfl⟩); (case hk => decide +kernel); (case hv => intro w_ hw_; (go_simp <;> first | with_reducible rfl | exact ⟨rfl, rfl⟩)); simp only [Act.put, Ly.p1, Ly.p2, Ly.p3])
  refine Ly.kd HO (by kernel_rfl) (fun hiv2 => hZ _ _ (fun W2 hw2 => ?_))
  clear hZ Z HO O
  have hin_ := Lib.hid (And.intro hw2 hiv2 : Ly.II _ _ _ _)
  clear hw2 hiv2
  replace HIN := Lib.hid (Ly.tk hin_.out (Ly.tk hin_.out (Ly.tk hin_.out (Ly.tk hin_.out (Ly.II.nil hin_.out.1.below) (w.heap.size) (by (repeat (first | exact Ly.ua _ _ _ | rw [Ly.un _ _ (by omega)] | rw [Ly.am] | rw [Ly.fz])))) (w.heap.size + 1) (by (repeat (first | exact Ly.ua _ _ _ | rw [Ly.un _ _ (by omega)] | rw [Ly.am] | rw [Ly.fz])))) (w.heap.size + 1 + 1) (by (repeat (first | exact Ly.ua _ _ _ | rw [Ly.un _ _ (by omega)] | rw [Ly.am] | rw [Ly.fz])))) (w.heap.size + 1 + 1 + 1) (by (repeat (first | exact Ly.ua _ _ _ | rw [Ly.un _ _ (by omega)] | rw [Ly.am] | rw [Ly.fz]))))
  clear hin_
  go_upto_region 3 with fail
  refine Ly.regionS0 (by kernel_rfl) (by kernel_rfl) HIN.out.1 HIN.out.2 (by simp only [List.size_toArray, List.length_cons, List.length_nil, Nat.reduceAdd]; rfl) (fun O Z hO hZ => ?_); have HO := Lib.hid hO; clear hO
  first
    | (apply Ly.kp HO 0; (case hx => exact ⟨rfl, rfl, rfl⟩); (case hk => decide +kernel); (case hv => intro w_ hw_; (go_simp <;> first | with_reducible rfl | exact ⟨rfl, rfl⟩)); simp only [Act.put, Ly.p1, Ly.p2, Ly.p3])
  first
    | (apply Ly.kr HO 1; (case hx => exact ⟨rfl, rfl, rfl⟩); (case hk => decide +kernel); (case hv => intro w_ hw_; have P_ := hw_.holds (w.heap.size + 1 + 1) _ (by (repeat (first | exact Ly.ua _ _ _ | rw [Ly.un _ _ (by omega)] | rw [Ly.am] | rw [Ly.fz]))); have c3 := cellAt P_ 3 rfl; clear P_; (go_simp <;> first | with_reducible rfl | exact ⟨rfl, rfl⟩)); simp only [Act.put, Ly.p1, Ly.p2, Ly.p3])
  first
    | (apply Ly.kp HO 2; (case hx => exact ⟨rfl, rfl, rfl⟩); (case hk => decide +kernel); (case hv => intro w_ hw_; (go_simp <;> first | with_reducible rfl | exact ⟨rfl, rfl⟩)); simp only [Act.put, Ly.p1, Ly.p2, Ly.p3])
  refine Ly.kd HO (by kernel_rfl) (fun hiv2 => hZ _ _ (fun W3 hw2 => ?_))
  clear hZ Z HO O
  have hin_ := Lib.hid (And.intro hw2 hiv2 : Ly.II _ _ _ _)
  clear hw2 hiv2
  replace HIN := Lib.hid (Ly.tk hin_.out (Ly.tk hin_.out (Ly.tk hin_.out (Ly.tk hin_.out (Ly.II.nil hin_.out.1.below) (w.heap.size) (by (repeat (first | exact Ly.ua _ _ _ | rw [Ly.un _ _ (by omega)] | rw [Ly.am] | rw [Ly.fz])))) (w.heap.size + 1) (by (repeat (first | exact Ly.ua _ _ _ | rw [Ly.un _ _ (by omega)] | rw [Ly.am] | rw [Ly.fz])))) (w.heap.size + 1 + 1) (by (repeat (first | exact Ly.ua _ _ _ | rw [Ly.un _ _ (by omega)] | rw [Ly.am] | rw [Ly.fz])))) (w.heap.size + 1 + 1 + 1) (by (repeat (first | exact Ly.ua _ _ _ | rw [Ly.un _ _ (by omega)] | rw [Ly.am] | rw [Ly.fz]))))
  clear hin_
  go_upto_region 5 with fail
  refine Ly.regionS0 (by kernel_rfl) (by kernel_rfl) HIN.out.1 HIN.out.2 (by simp only [List.size_toArray, List.length_cons, List.length_nil, Nat.reduceAdd]; rfl) (fun O Z hO hZ => ?_); have HO := Lib.hid hO; clear hO
  first
    | (apply Ly.kr HO 0; (case hx => exact ⟨rfl, rfl, rfl⟩); (case hk => decide +kernel); (case hv => intro w_ hw_; have P_ := hw_.holds (w.heap.size) _ (by (repeat (first | exact Ly.ua _ _ _ | rw [Ly.un _ _ (by omega)] | rw [Ly.am] | rw [Ly.fz]))); obtain ⟨c0, c1, c2⟩ := Ly.cells3 P_; clear P_; (go_simp <;> first | with_reducible rfl | exact ⟨rfl, rfl⟩)); simp only [Act.put, Ly.p1, Ly.p2, Ly.p3])
  first
    | (apply Ly.kr HO 1; (case hx => exact ⟨rfl, rfl, rfl⟩); (case hk => decide +kernel); (case hv => intro w_ hw_; have P_ := hw_.holds (w.heap.size + 1) _ (by (repeat (first | exact Ly.ua _ _ _ | rw [Ly.un _ _ (by omega)] | rw [Ly.am] | rw [Ly.fz]))); obtain ⟨c0, c1, c2, c3, c4, c5, c6, c7, c8, c9⟩ := Ly.cells10 P_; clear P_; (go_simp <;> first | with_reducible rfl | exact ⟨rfl, rfl⟩)); simp only [Act.put, Ly.p1, Ly.p2, Ly.p3])
  first
    | (apply Ly.kp HO 2; (case hx => exact ⟨rfl, rfl, rfl⟩); (case hk => decide +kernel); (case hv => intro w_ hw_; (go_simp <;> first | with_reducible rfl | exact ⟨rfl, rfl⟩)); simp only [Act.put, Ly.p1, Ly.p2, Ly.p3])
  first
    | (apply Ly.kr HO 3; (case hx => exact ⟨rfl, rfl, rfl⟩); (case hk => decide +kernel); (case hv => intro w_ hw_; have P_ := hw_.holds (w.heap.size + 1 + 1) _ (by (repeat (first | exact Ly.ua _ _ _ | rw [Ly.un _ _ (by omega)] | rw [Ly.am] | rw [Ly.fz]))); have c0 := cellAt P_ 0 rfl; clear P_; (go_simp <;> first | with_reducible rfl | exact ⟨rfl, rfl⟩)); simp only [Act.put, Ly.p1, Ly.p2, Ly.p3])
  first
    | (apply Ly.kp HO 4; (case hx => exact ⟨rfl, rfl, rfl⟩); (case hk => decide +kernel); (case hv => intro w_ hw_; (go_simp <;> first | with_reducible rfl | exact ⟨rfl, rfl⟩)); simp only [Act.put, Ly.p1, Ly.p2, Ly.p3])
  first
    | (apply Ly.kr HO 5; (case hx => exact ⟨rfl, rfl, rfl⟩); (case hk => decide +kernel); (case hv => intro w_ hw_; have P_ := hw_.holds (w.heap.size + 1 + 1) _ (by (repeat (first | exact Ly.ua _ _ _ | rw [Ly.un _ _ (by omega)] | rw [Ly.am] | rw [Ly.fz]))); have c1 := cellAt P_ 1 rfl; clear P_; (go_simp <;> first | with_reducible rfl | exact ⟨rfl, rfl⟩)); simp only [Act.put, Ly.p1, Ly.p2, Ly.p3])
  first
    | (apply Ly.kp HO 6; (case hx => exact ⟨rfl, rfl, rfl⟩); (case hk => decide +kernel); (case hv => intro w_ hw_; (go_simp <;> first | with_reducible rfl | exact ⟨rfl, rfl⟩)); simp only [Act.put, Ly.p1, Ly.p2, Ly.p3])
  first
    | (apply Ly.kr HO 7; (case hx => exact ⟨rfl, rfl, rfl⟩); (case hk => decide +kernel); (case hv => intro w_ hw_; have P_ := hw_.holds (w.heap.size + 1 + 1) _ (by (repeat (first | exact Ly.ua _ _ _ | rw [Ly.un _ _ (by omega)] | rw [Ly.am] | rw [Ly.fz]))); have c2 := cellAt P_ 2 rfl; clear P_; (go_simp <;> first | with_reducible rfl | exact ⟨rfl, rfl⟩)); simp only [Act.put, Ly.p1, Ly.p2, Ly.p3])
  first
    | (apply Ly.kc HO 8; (case hx => exact ⟨rfl, rfl, rfl⟩); (case hk => decide +kernel); (case hrun => intro w_; (go_simp <;> first | with_reducible rfl | exact ⟨rfl, rfl⟩)); (case hc => intro w_ hw_; with_reducible exact HDN.out _ (HP0.out.keep hw_.below)); simp only [Act.put, Ly.p1, Ly.p2, Ly.p3])
  first
    | (apply Ly.kp HO 9; (case hx => exact ⟨rfl, rfl, rfl⟩); (case hk => decide +kernel); (case hv => intro w_ hw_; (go_simp <;> first | with_reducible rfl | exact ⟨rfl, rfl⟩)); simp only [Act.put, Ly.p1, Ly.p2, Ly.p3])
  first
    | (apply Ly.kp HO 10; (case hx => exact ⟨rfl, rfl, rfl⟩); (case hk => decide +kernel); (case hv => intro w_ hw_; (go_simp <;> first | with_reducible rfl | exact ⟨rfl, rfl⟩)); simp only [Act.put, Ly.p1, Ly.p2, Ly.p3])
  first
    | (apply Ly.ks HO 11 (g := w.heap.size + 1 + 1 + 1); (case hx => exact ⟨rfl, rfl, rfl⟩); (case hk => decide +kernel); (case hF => exact fun h_ => h_); (case hG => exact fun _ _ h_ _ => h_); (case hg => (repeat (first | exact Ly.ua _ _ _ | rw [Ly.un _ _ (by omega)] | rw [Ly.am] | rw [Ly.fz]))); (case hrun => intro w_ hw_ hb_; obtain ⟨c0, c1, c2, c3, c4, c5, c6, c7, c8, c9⟩ := Ly.cells10 hb_; obtain ⟨d0, d1, d2, d3, d4, d5, d6, d7, d8, d9⟩ := Ly.froz10 hb_; refine ⟨?_, ?_, ?_, ?_⟩; rotate_left; (next => (go_simp <;> first | with_reducible rfl | rfl)); (next => (repeat (first | (with_reducible exact Ly.OnlyAt.refl _ _) | (with_reducible refine Ly.OnlyAt.set ?_ _ _)))); (next => (simp [World.setCell, Array.getElem?_modify, hb_] <;> rfl))); simp only [Act.put, Ly.p1, Ly.p2, Ly.p3])
  first
    | (apply Ly.kp HO 12; (case hx => exact ⟨rfl, rfl, rfl⟩); (case hk => decide +kernel); (case hv => intro w_ hw_; (go_simp <;> first | with_reducible rfl | exact ⟨rfl, rfl⟩)); simp only [Act.put, Ly.p1, Ly.p2, Ly.p3])
  refine Ly.kd HO (by kernel_rfl) (fun hiv2 => hZ _ _ (fun W4 hw2 => ?_))
  clear hZ Z HO O
  have hin_ := Lib.hid (And.intro hw2 hiv2 : Ly.II _ _ _ _)
  clear hw2 hiv2
  replace HIN := Lib.hid (Ly.tk hin_.out (Ly.tk hin_.out (Ly.tk hin_.out (Ly.tk hin_.out (Ly.II.nil hin_.out.1.below) (w.heap.size) (by (repeat (first | exact Ly.ua _ _ _ | rw [Ly.un _ _ (by omega)] | rw [Ly.am] | rw [Ly.fz])))) (w.heap.size + 1) (by (repeat (first | exact Ly.ua _ _ _ | rw [Ly.un _ _ (by omega)] | rw [Ly.am] | rw [Ly.fz])))) (w.heap.size + 1 + 1) (by (repeat (first | exact Ly.ua _ _ _ | rw [Ly.un _ _ (by omega)] | rw [Ly.am] | rw [Ly.fz])))) (w.heap.size + 1 + 1 + 1) (by (repeat (first | exact Ly.ua _ _ _ | rw [Ly.un _ _ (by omega)] | rw [Ly.am] | rw [Ly.fz]))))
  clear hin_
  have P_ := HIN.out.1.holds (w.heap.size + 1 + 1 + 1) _ (by (repeat (first | exact Ly.ua _ _ _ | rw [Ly.un _ _ (by omega)] | rw [Ly.am] | rw [Ly.fz])))
  obtain ⟨r0_0, r0_1, r0_2, r0_3, r0_4, r0_5, r0_6, r0_7, r0_8, r0_9⟩ := Ly.cells10 P_
  clear P_
  go_wp2
  refine Ly.ret_of (by simp [results, Try.results21, go_sem, r0_0, r0_1, r0_2, r0_3, r0_4, r0_5, r0_6, r0_7, r0_8, r0_9] <;> (repeat' (first | rfl | apply And.intro))) rfl ⟨rfl, HIN.out.1.below⟩
theorem rmdone_any {c1 c2 c3 : Value} {P : ProgV} {w : World} (h : RProg w c1 c2 c3 P) (hs : saneP P = true) (f : FrameV) (hf : f.wf) (c v : Int) (ok : Bool) (code : Int) :
    Calls Try.prog 21 #[.agg #[c1, c2, c3], f.agg, .agg #[.int .i64 c, .int .i64 v, .bool ok, .int .i64 code]] w fun e w' => e = .returned (.tuple #[(doneM P f c v ok code).1.agg, .int .i64 (doneM P f c v ok code).2]) ∧ Below w.heap.size w w' := by
  cases hm : mayB c v ok code with
  | false => exact rmdone_bad h hs f hf c v ok code hm
  | true =>
    by_cases hc : code = 0
    · subst hc; exact rmdone_go h hs f hf c v ok hm
    · exact rmdone_fault h hs f hf c v ok code hm hc
set_option maxHeartbeats 4000000 in
theorem mailDone_false {c1 c2 c3 : Value} {P : ProgV} {w : World} (h : RProg w c1 c2 c3 P) (f : FrameV) (hf : f.wf) (c v : Int) (ok : Bool) (code : Int) (hs : saneP P = false) :
    Calls Try.prog 4 #[.agg #[c1, c2, c3], f.agg, .agg #[.int .i64 c, .int .i64 v, .bool ok, .int .i64 code]] w fun e w' => e = .returned (.bool true) ∧ Below w.heap.size w w' := by
  have HP0 := Lib.hid h
  have HAL := Lib.hid (fun W => alive27_any W)
  have hck := fun (W : World) (h : RProg W c1 c2 c3 P) => check_any c1 c2 c3 P W h
  simp only [tripV] at hck
  have hs0 := hs
  unfold saneP at hs0
  obtain ⟨x1, x2, x3, hx⟩ : ∃ a b d, checkW P = (a, b, d) := ⟨_, _, _, rfl⟩
  rw [hx] at hs0 hck
  simp only at hs0 hck
  clear hx
  have HCK := Lib.hid hck
  clear hck
  have hd : (x3 != 0) = true := by simpa using hs0
  clear h hf hs hs0
  unfold FrameV.agg FrameV.cells
  go_enter Try.func4, Try.ntmps4
  go_upto_region 1 with fail
  refine Ly.start3 (fun W1 hII => ?_)
  have HIN := Lib.hid hII
  clear hII
  go_upto_region 1 with fail
  refine Ly.regionS0 (by kernel_rfl) (by kernel_rfl) HIN.out.1 HIN.out.2 (by simp only [List.size_toArray, List.length_cons, List.length_nil, Nat.reduceAdd]; rfl) (fun O Z hO hZ => ?_); have HO := Lib.hid hO; clear hO
  first
    | (apply Ly.kr HO 0; (case hx => exact ⟨rfl, rfl, rfl⟩); (case hk => decide +kernel); (case hv => intro w_ hw_; have P_ := hw_.holds (w.heap.size) _ (by (repeat (first | exact Ly.ua _ _ _ | rw [Ly.un _ _ (by omega)] | rw [Ly.am] | rw [Ly.fz]))); obtain ⟨c0, c1, c2⟩ := Ly.cells3 P_; clear P_; (go_simp <;> first | with_reducible rfl | exact ⟨rfl, rfl⟩)); simp only [Act.put, Ly.p1, Ly.p2, Ly.p3])
  first
    | (apply Ly.kc HO 1; (case hx => exact ⟨rfl, rfl, rfl⟩); (case hk => decide +kernel); (case hrun => intro w_; (go_simp <;> first | with_reducible rfl | exact ⟨rfl, rfl⟩)); (case hc => intro w_ hw_; with_reducible exact HCK.out _ (HP0.out.keep hw_.below)); simp only [Act.put, Ly.p1, Ly.p2, Ly.p3])
  first
    | (apply Ly.kp HO 2; (case hx => exact ⟨rfl, rfl, rfl⟩); (case hk => decide +kernel); (case hv => intro w_ hw_; (go_simp <;> first | with_reducible rfl | exact ⟨rfl, rfl⟩)); simp only [Act.put, Ly.p1, Ly.p2, Ly.p3])
  first
    | (apply Ly.kp HO 3; (case hx => exact ⟨rfl, rfl, rfl⟩); (case hk => decide +kernel); (case hv => intro w_ hw_; (go_simp <;> first | with_reducible rfl | exact ⟨rfl, rfl⟩)); simp only [Act.put, Ly.p1, Ly.p2, Ly.p3])
  first
    | (apply Ly.kp HO 4; (case hx => exact ⟨rfl, rfl, rfl⟩); (case hk => decide +kernel); (case hv => intro w_ hw_; (go_simp <;> first | with_reducible rfl | exact ⟨rfl, rfl⟩)); simp only [Act.put, Ly.p1, Ly.p2, Ly.p3])
  first
    | (apply Ly.kp HO 5; (case hx => exact ⟨rfl, rfl, rfl⟩); (case hk => decide +kernel); (case hv => intro w_ hw_; (go_simp <;> first | with_reducible rfl | exact ⟨rfl, rfl⟩)); simp only [Act.put, Ly.p1, Ly.p2, Ly.p3])
  first
    | (apply Ly.kp HO 6; (case hx => exact ⟨rfl, rfl, rfl⟩); (case hk => decide +kernel); (case hv => intro w_ hw_; (go_simp <;> first | with_reducible rfl | exact ⟨rfl, rfl⟩)); simp only [Act.put, Ly.p1, Ly.p2, Ly.p3])
  first
    | (apply Ly.kp HO 7; (case hx => exact ⟨rfl, rfl, rfl⟩); (case hk => decide +kernel); (case hv => intro w_ hw_; (go_simp <;> first | with_reducible rfl | exact ⟨rfl, rfl⟩)); simp only [Act.put, Ly.p1, Ly.p2, Ly.p3])
  first
    | (apply Ly.kp HO 8; (case hx => exact ⟨rfl, rfl, rfl⟩); (case hk => decide +kernel); (case hv => intro w_ hw_; (go_simp <;> first | with_reducible rfl | exact ⟨rfl, rfl⟩)); simp only [Act.put, Ly.p1, Ly.p2, Ly.p3])
  refine Ly.kd HO (by kernel_rfl) (fun hiv2 => hZ _ _ (fun W2 hw2 => ?_))
  clear hZ Z HO O
  have hin_ := Lib.hid (And.intro hw2 hiv2 : Ly.II _ _ _ _)
  clear hw2 hiv2
  replace HIN := Lib.hid (Ly.tk hin_.out (Ly.tk hin_.out (Ly.tk hin_.out (Ly.II.nil hin_.out.1.below) (w.heap.size) (by (repeat (first | exact Ly.ua _ _ _ | rw [Ly.un _ _ (by omega)] | rw [Ly.am] | rw [Ly.fz])))) (w.heap.size + 1) (by (repeat (first | exact Ly.ua _ _ _ | rw [Ly.un _ _ (by omega)] | rw [Ly.am] | rw [Ly.fz])))) (w.heap.size + 1 + 1) (by (repeat (first | exact Ly.ua _ _ _ | rw [Ly.un _ _ (by omega)] | rw [Ly.am] | rw [Ly.fz]))))
  clear hin_
  go_upto_region 2 with fail
  refine Ly.regionS0 (by kernel_rfl) (by kernel_rfl) HIN.out.1 HIN.out.2 (by simp only [List.size_toArray, List.length_cons, List.length_nil, Nat.reduceAdd]; rfl) (fun O Z hO hZ => ?_); have HO := Lib.hid hO; clear hO
  first
    | (apply Ly.kp HO 0; (case hx => exact ⟨rfl, rfl, rfl⟩); (case hk => decide +kernel); (case hv => intro w_ hw_; (go_simp <;> first | with_reducible rfl | exact ⟨rfl, rfl⟩)); simp only [Act.put, Ly.p1, Ly.p2, Ly.p3])
  first
    | (apply Ly.kp HO 1; (case hx => exact ⟨rfl, rfl, rfl⟩); (case hk => decide +kernel); (case hv => intro w_ hw_; (go_simp <;> first | with_reducible rfl | exact ⟨rfl, rfl⟩)); simp only [Act.put, Ly.p1, Ly.p2, Ly.p3])
  refine Ly.kd HO (by kernel_rfl) (fun hiv2 => hZ _ _ (fun W3 hw2 => ?_))
  clear hZ Z HO O
  have hin_ := Lib.hid (And.intro hw2 hiv2 : Ly.II _ _ _ _)
  clear hw2 hiv2
  replace HIN := Lib.hid (Ly.tk hin_.out (Ly.tk hin_.out (Ly.tk hin_.out (Ly.II.nil hin_.out.1.below) (w.heap.size) (by (repeat (first | exact Ly.ua _ _ _ | rw [Ly.un _ _ (by omega)] | rw [Ly.am] | rw [Ly.fz])))) (w.heap.size + 1) (by (repeat (first | exact Ly.ua _ _ _ | rw [Ly.un _ _ (by omega)] | rw [Ly.am] | rw [Ly.fz])))) (w.heap.size + 1 + 1) (by (repeat (first | exact Ly.ua _ _ _ | rw [Ly.un _ _ (by omega)] | rw [Ly.am] | rw [Ly.fz]))))
  clear hin_
  go_upto_region 3 with fail
  refine Ly.regionS0 (by kernel_rfl) (by kernel_rfl) HIN.out.1 HIN.out.2 (by simp only [List.size_toArray, List.length_cons, List.length_nil, Nat.reduceAdd]; rfl) (fun O Z hO hZ => ?_); have HO := Lib.hid hO; clear hO
  first
    | (apply Ly.kc HO 0; (case hx => exact ⟨rfl, rfl, rfl⟩); (case hk => decide +kernel); (case hrun => intro w_; (go_simp <;> first | with_reducible rfl | exact ⟨rfl, rfl⟩)); (case hc => intro w_ hw_; exact HAL.out _); simp only [Act.put, Ly.p1, Ly.p2, Ly.p3])
  first
    | (apply Ly.kp HO 1; (case hx => exact ⟨rfl, rfl, rfl⟩); (case hk => decide +kernel); (case hv => intro w_ hw_; (go_simp <;> first | with_reducible rfl | exact ⟨rfl, rfl⟩)); simp only [Act.put, Ly.p1, Ly.p2, Ly.p3])
  refine Ly.kd HO (by kernel_rfl) (fun hiv2 => hZ _ _ (fun W4 hw2 => ?_))
  clear hZ Z HO O
  have hin_ := Lib.hid (And.intro hw2 hiv2 : Ly.II _ _ _ _)
  clear hw2 hiv2
  replace HIN := Lib.hid (Ly.tk hin_.out (Ly.tk hin_.out (Ly.tk hin_.out (Ly.II.nil hin_.out.1.below) (w.heap.size) (by (repeat (first | exact Ly.ua _ _ _ | rw [Ly.un _ _ (by omega)] | rw [Ly.am] | rw [Ly.fz])))) (w.heap.size + 1) (by (repeat (first | exact Ly.ua _ _ _ | rw [Ly.un _ _ (by omega)] | rw [Ly.am] | rw [Ly.fz])))) (w.heap.size + 1 + 1) (by (repeat (first | exact Ly.ua _ _ _ | rw [Ly.un _ _ (by omega)] | rw [Ly.am] | rw [Ly.fz]))))
  clear hin_
  go_wp2
  refine Ly.ret_of (by simp [results, Try.results4, go_sem] <;> (repeat' (first | rfl | apply And.intro))) rfl ⟨rfl, HIN.out.1.below⟩
set_option maxHeartbeats 4000000 in
theorem mailDone_true {c1 c2 c3 : Value} {P : ProgV} {w : World} (h : RProg w c1 c2 c3 P) (f : FrameV) (hf : f.wf) (c v : Int) (ok : Bool) (code : Int) (hs : saneP P = true) :
    Calls Try.prog 4 #[.agg #[c1, c2, c3], f.agg, .agg #[.int .i64 c, .int .i64 v, .bool ok, .int .i64 code]] w fun e w' => e = .returned (.bool true) ∧ Below w.heap.size w w' := by
  have HP0 := Lib.hid h
  have HAL := Lib.hid (fun W => alive27_any W)
  have hck := fun (W : World) (h : RProg W c1 c2 c3 P) => check_any c1 c2 c3 P W h
  simp only [tripV] at hck
  have hs0 := hs
  unfold saneP at hs0
  obtain ⟨x1, x2, x3, hx⟩ : ∃ a b d, checkW P = (a, b, d) := ⟨_, _, _, rfl⟩
  rw [hx] at hs0 hck
  simp only at hs0 hck
  clear hx
  have HCK := Lib.hid hck
  clear hck
  obtain rfl : x3 = 0 := by simpa using hs0
  have hmd := fun (W : World) (h : RProg W c1 c2 c3 P) => mdone_any h hs f hf c v ok code
  have hrm := fun (W : World) (h : RProg W c1 c2 c3 P) => rmdone_any h hs f hf c v ok code
  obtain ⟨g, e, hg⟩ : ∃ g e, doneM P f c v ok code = (g, e) := ⟨_, _, rfl⟩
  rw [hg] at hmd hrm
  simp only [FrameV.agg, FrameV.cells] at hmd hrm
  have HMD := Lib.hid hmd
  have HRM := Lib.hid hrm
  clear hmd hrm hg
  clear h hf hs hs0
  unfold FrameV.agg FrameV.cells
  go_enter Try.func4, Try.ntmps4
  go_upto_region 1 with fail
  refine Ly.start3 (fun W1 hII => ?_)
  have HIN := Lib.hid hII
  clear hII
  go_upto_region 1 with fail
  refine Ly.regionS0 (by kernel_rfl) (by kernel_rfl) HIN.out.1 HIN.out.2 (by simp only [List.size_toArray, List.length_cons, List.length_nil, Nat.reduceAdd]; rfl) (fun O Z hO hZ => ?_); have HO := Lib.hid hO; clear hO
  first
    | (apply Ly.kr HO 0; (case hx => exact ⟨rfl, rfl, rfl⟩); (case hk => decide +kernel); (case hv => intro w_ hw_; have P_ := hw_.holds (w.heap.size) _ (by (repeat (first | exact Ly.ua _ _ _ | rw [Ly.un _ _ (by omega)] | rw [Ly.am] | rw [Ly.fz]))); obtain ⟨c0, c1, c2⟩ := Ly.cells3 P_; clear P_; (go_simp <;> first | with_reducible rfl | exact ⟨rfl, rfl⟩)); simp only [Act.put, Ly.p1, Ly.p2, Ly.p3])
  first
    | (apply Ly.kc HO 1; (case hx => exact ⟨rfl, rfl, rfl⟩); (case hk => decide +kernel); (case hrun => intro w_; (go_simp <;> first | with_reducible rfl | exact ⟨rfl, rfl⟩)); (case hc => intro w_ hw_; with_reducible exact HCK.out _ (HP0.out.keep hw_.below)); simp only [Act.put, Ly.p1, Ly.p2, Ly.p3])
  first
    | (apply Ly.kp HO 2; (case hx => exact ⟨rfl, rfl, rfl⟩); (case hk => decide +kernel); (case hv => intro w_ hw_; (go_simp <;> first | with_reducible rfl | exact ⟨rfl, rfl⟩)); simp only [Act.put, Ly.p1, Ly.p2, Ly.p3])
  first
    | (apply Ly.kp HO 3; (case hx => exact ⟨rfl, rfl, rfl⟩); (case hk => decide +kernel); (case hv => intro w_ hw_; (go_simp <;> first | with_reducible rfl | exact ⟨rfl, rfl⟩)); simp only [Act.put, Ly.p1, Ly.p2, Ly.p3])
  first
    | (apply Ly.kp HO 4; (case hx => exact ⟨rfl, rfl, rfl⟩); (case hk => decide +kernel); (case hv => intro w_ hw_; (go_simp <;> first | with_reducible rfl | exact ⟨rfl, rfl⟩)); simp only [Act.put, Ly.p1, Ly.p2, Ly.p3])
  first
    | (apply Ly.kp HO 5; (case hx => exact ⟨rfl, rfl, rfl⟩); (case hk => decide +kernel); (case hv => intro w_ hw_; (go_simp <;> first | with_reducible rfl | exact ⟨rfl, rfl⟩)); simp only [Act.put, Ly.p1, Ly.p2, Ly.p3])
  first
    | (apply Ly.kp HO 6; (case hx => exact ⟨rfl, rfl, rfl⟩); (case hk => decide +kernel); (case hv => intro w_ hw_; (go_simp <;> first | with_reducible rfl | exact ⟨rfl, rfl⟩)); simp only [Act.put, Ly.p1, Ly.p2, Ly.p3])
  first
    | (apply Ly.kp HO 7; (case hx => exact ⟨rfl, rfl, rfl⟩); (case hk => decide +kernel); (case hv => intro w_ hw_; (go_simp <;> first | with_reducible rfl | exact ⟨rfl, rfl⟩)); simp only [Act.put, Ly.p1, Ly.p2, Ly.p3])
  first
    | (apply Ly.kp HO 8; (case hx => exact ⟨rfl, rfl, rfl⟩); (case hk => decide +kernel); (case hv => intro w_ hw_; (go_simp <;> first | with_reducible rfl | exact ⟨rfl, rfl⟩)); simp only [Act.put, Ly.p1, Ly.p2, Ly.p3])
  refine Ly.kd HO (by kernel_rfl) (fun hiv2 => hZ _ _ (fun W2 hw2 => ?_))
  clear hZ Z HO O
  have hin_ := Lib.hid (And.intro hw2 hiv2 : Ly.II _ _ _ _)
  clear hw2 hiv2
  replace HIN := Lib.hid (Ly.tk hin_.out (Ly.tk hin_.out (Ly.tk hin_.out (Ly.II.nil hin_.out.1.below) (w.heap.size) (by (repeat (first | exact Ly.ua _ _ _ | rw [Ly.un _ _ (by omega)] | rw [Ly.am] | rw [Ly.fz])))) (w.heap.size + 1) (by (repeat (first | exact Ly.ua _ _ _ | rw [Ly.un _ _ (by omega)] | rw [Ly.am] | rw [Ly.fz])))) (w.heap.size + 1 + 1) (by (repeat (first | exact Ly.ua _ _ _ | rw [Ly.un _ _ (by omega)] | rw [Ly.am] | rw [Ly.fz]))))
  clear hin_
  go_upto_region 2 with fail
  refine Ly.regionS0 (by kernel_rfl) (by kernel_rfl) HIN.out.1 HIN.out.2 (by simp only [List.size_toArray, List.length_cons, List.length_nil, Nat.reduceAdd]; rfl) (fun O Z hO hZ => ?_); have HO := Lib.hid hO; clear hO
  first
    | (apply Ly.kp HO 0; (case hx => exact ⟨rfl, rfl, rfl⟩); (case hk => decide +kernel); (case hv => intro w_ hw_; (go_simp <;> first | with_reducible rfl | exact ⟨rfl, rfl⟩)); simp only [Act.put, Ly.p1, Ly.p2, Ly.p3])
  first
    | (apply Ly.kp HO 1; (case hx => exact ⟨rfl, rfl, rfl⟩); (case hk => decide +kernel); (case hv => intro w_ hw_; (go_simp <;> first | with_reducible rfl | exact ⟨rfl, rfl⟩)); simp only [Act.put, Ly.p1, Ly.p2, Ly.p3])
  refine Ly.kd HO (by kernel_rfl) (fun hiv2 => hZ _ _ (fun W3 hw2 => ?_))
  clear hZ Z HO O
  have hin_ := Lib.hid (And.intro hw2 hiv2 : Ly.II _ _ _ _)
  clear hw2 hiv2
  replace HIN := Lib.hid (Ly.tk hin_.out (Ly.tk hin_.out (Ly.tk hin_.out (Ly.II.nil hin_.out.1.below) (w.heap.size) (by (repeat (first | exact Ly.ua _ _ _ | rw [Ly.un _ _ (by omega)] | rw [Ly.am] | rw [Ly.fz])))) (w.heap.size + 1) (by (repeat (first | exact Ly.ua _ _ _ | rw [Ly.un _ _ (by omega)] | rw [Ly.am] | rw [Ly.fz])))) (w.heap.size + 1 + 1) (by (repeat (first | exact Ly.ua _ _ _ | rw [Ly.un _ _ (by omega)] | rw [Ly.am] | rw [Ly.fz]))))
  clear hin_
  go_upto_region 4 with fail
  refine Ly.regionS0 (by kernel_rfl) (by kernel_rfl) HIN.out.1 HIN.out.2 (by simp only [List.size_toArray, List.length_cons, List.length_nil, Nat.reduceAdd]; rfl) (fun O Z hO hZ => ?_); have HO := Lib.hid hO; clear hO
  first
    | (apply Ly.kr HO 0; (case hx => exact ⟨rfl, rfl, rfl⟩); (case hk => decide +kernel); (case hv => intro w_ hw_; have P_ := hw_.holds (w.heap.size) _ (by (repeat (first | exact Ly.ua _ _ _ | rw [Ly.un _ _ (by omega)] | rw [Ly.am] | rw [Ly.fz]))); obtain ⟨c0, c1, c2⟩ := Ly.cells3 P_; clear P_; (go_simp <;> first | with_reducible rfl | exact ⟨rfl, rfl⟩)); simp only [Act.put, Ly.p1, Ly.p2, Ly.p3])
  first
    | (apply Ly.kr HO 1; (case hx => exact ⟨rfl, rfl, rfl⟩); (case hk => decide +kernel); (case hv => intro w_ hw_; have P_ := hw_.holds (w.heap.size + 1) _ (by (repeat (first | exact Ly.ua _ _ _ | rw [Ly.un _ _ (by omega)] | rw [Ly.am] | rw [Ly.fz]))); obtain ⟨c0, c1, c2, c3, c4, c5, c6, c7, c8, c9⟩ := Ly.cells10 P_; clear P_; (go_simp <;> first | with_reducible rfl | exact ⟨rfl, rfl⟩)); simp only [Act.put, Ly.p1, Ly.p2, Ly.p3])
  first
    | (apply Ly.kr HO 2; (case hx => exact ⟨rfl, rfl, rfl⟩); (case hk => decide +kernel); (case hv => intro w_ hw_; have P_ := hw_.holds (w.heap.size + 1 + 1) _ (by (repeat (first | exact Ly.ua _ _ _ | rw [Ly.un _ _ (by omega)] | rw [Ly.am] | rw [Ly.fz]))); obtain ⟨c0, c1, c2, c3⟩ := Ly.cells4 P_; clear P_; (go_simp <;> first | with_reducible rfl | exact ⟨rfl, rfl⟩)); simp only [Act.put, Ly.p1, Ly.p2, Ly.p3])
  first
    | (apply Ly.kc HO 3; (case hx => exact ⟨rfl, rfl, rfl⟩); (case hk => decide +kernel); (case hrun => intro w_; (go_simp <;> first | with_reducible rfl | exact ⟨rfl, rfl⟩)); (case hc => intro w_ hw_; with_reducible exact HMD.out _ (HP0.out.keep hw_.below)); simp only [Act.put, Ly.p1, Ly.p2, Ly.p3])
  first
    | (apply Ly.kp HO 4; (case hx => exact ⟨rfl, rfl, rfl⟩); (case hk => decide +kernel); (case hv => intro w_ hw_; (go_simp <;> first | with_reducible rfl | exact ⟨rfl, rfl⟩)); simp only [Act.put, Ly.p1, Ly.p2, Ly.p3])
  first
    | (apply Ly.kp HO 5; (case hx => exact ⟨rfl, rfl, rfl⟩); (case hk => decide +kernel); (case hv => intro w_ hw_; (go_simp <;> first | with_reducible rfl | exact ⟨rfl, rfl⟩)); simp only [Act.put, Ly.p1, Ly.p2, Ly.p3])
  first
    | (apply Ly.kp HO 6; (case hx => exact ⟨rfl, rfl, rfl⟩); (case hk => decide +kernel); (case hv => intro w_ hw_; (go_simp <;> first | with_reducible rfl | exact ⟨rfl, rfl⟩)); simp only [Act.put, Ly.p1, Ly.p2, Ly.p3])
  first
    | (apply Ly.ka HO 7; (case hx => exact ⟨rfl, rfl, rfl⟩); (case hk => decide +kernel); (case hrun => intro w_; (go_simp <;> first | with_reducible rfl | exact ⟨rfl, rfl⟩)); simp only [Act.put, Ly.p1, Ly.p2, Ly.p3])
  intro g4_1 hg_ hfr
  (repeat (first | (rw [Ly.St.add_M] at hfr) | (replace hfr := Ly.St.fresh_upd hfr; have n_ := hfr.1; replace hfr := hfr.2))); clear hfr
  first
    | (apply Ly.ks HO 8 (g := g4_1); (case hx => exact ⟨rfl, rfl, rfl⟩); (case hk => decide +kernel); (case hF => exact fun h_ => h_); (case hG => exact fun _ _ h_ _ => h_); (case hg => (repeat (first | exact Ly.ua _ _ _ | rw [Ly.un _ _ (by omega)] | rw [Ly.am] | rw [Ly.fz]))); (case hrun => intro w_ hw_ hb_; obtain ⟨c0, c1, c2, c3, c4, c5, c6, c7, c8, c9⟩ := Ly.cells10 hb_; obtain ⟨d0, d1, d2, d3, d4, d5, d6, d7, d8, d9⟩ := Ly.froz10 hb_; refine ⟨?_, ?_, ?_, ?_⟩; rotate_left; (next => (go_simp <;> first | with_reducible rfl | rfl)); (next => (repeat (first | (with_reducible exact Ly.OnlyAt.refl _ _) | (with_reducible refine Ly.OnlyAt.set ?_ _ _)))); (next => (simp [World.setCell, Array.getElem?_modify, hb_] <;> rfl))); simp only [Act.put, Ly.p1, Ly.p2, Ly.p3])
  first
    | (apply Ly.kp HO 9; (case hx => exact ⟨rfl, rfl, rfl⟩); (case hk => decide +kernel); (case hv => intro w_ hw_; (go_simp <;> first | with_reducible rfl | exact ⟨rfl, rfl⟩)); simp only [Act.put, Ly.p1, Ly.p2, Ly.p3])
  refine Ly.kd HO (by kernel_rfl) (fun hiv2 => hZ _ _ (fun W4 hw2 => ?_))
  clear hZ Z HO O
  have hin_ := Lib.hid (And.intro hw2 hiv2 : Ly.II _ _ _ _)
  clear hw2 hiv2
  replace HIN := Lib.hid (Ly.tk hin_.out (Ly.tk hin_.out (Ly.tk hin_.out (Ly.tk hin_.out (Ly.II.nil hin_.out.1.below) (w.heap.size) (by (repeat (first | exact Ly.ua _ _ _ | rw [Ly.un _ _ (by omega)] | rw [Ly.am] | rw [Ly.fz])))) (w.heap.size + 1) (by (repeat (first | exact Ly.ua _ _ _ | rw [Ly.un _ _ (by omega)] | rw [Ly.am] | rw [Ly.fz])))) (w.heap.size + 1 + 1) (by (repeat (first | exact Ly.ua _ _ _ | rw [Ly.un _ _ (by omega)] | rw [Ly.am] | rw [Ly.fz])))) (g4_1) (by (repeat (first | exact Ly.ua _ _ _ | rw [Ly.un _ _ (by omega)] | rw [Ly.am] | rw [Ly.fz]))))
  clear hin_
  go_upto_region 5 with fail
  refine Ly.regionS0 (by kernel_rfl) (by kernel_rfl) HIN.out.1 HIN.out.2 (by simp only [List.size_toArray, List.length_cons, List.length_nil, Nat.reduceAdd]; rfl) (fun O Z hO hZ => ?_); have HO := Lib.hid hO; clear hO
  first
    | (apply Ly.kr HO 0; (case hx => exact ⟨rfl, rfl, rfl⟩); (case hk => decide +kernel); (case hv => intro w_ hw_; have P_ := hw_.holds (w.heap.size) _ (by (repeat (first | exact Ly.ua _ _ _ | rw [Ly.un _ _ (by omega)] | rw [Ly.am] | rw [Ly.fz]))); obtain ⟨c0, c1, c2⟩ := Ly.cells3 P_; clear P_; (go_simp <;> first | with_reducible rfl | exact ⟨rfl, rfl⟩)); simp only [Act.put, Ly.p1, Ly.p2, Ly.p3])
  first
    | (apply Ly.kr HO 1; (case hx => exact ⟨rfl, rfl, rfl⟩); (case hk => decide +kernel); (case hv => intro w_ hw_; have P_ := hw_.holds (w.heap.size + 1) _ (by (repeat (first | exact Ly.ua _ _ _ | rw [Ly.un _ _ (by omega)] | rw [Ly.am] | rw [Ly.fz]))); obtain ⟨c0, c1, c2, c3, c4, c5, c6, c7, c8, c9⟩ := Ly.cells10 P_; clear P_; (go_simp <;> first | with_reducible rfl | exact ⟨rfl, rfl⟩)); simp only [Act.put, Ly.p1, Ly.p2, Ly.p3])
  first
    | (apply Ly.kr HO 2; (case hx => exact ⟨rfl, rfl, rfl⟩); (case hk => decide +kernel); (case hv => intro w_ hw_; have P_ := hw_.holds (w.heap.size + 1 + 1) _ (by (repeat (first | exact Ly.ua _ _ _ | rw [Ly.un _ _ (by omega)] | rw [Ly.am] | rw [Ly.fz]))); obtain ⟨c0, c1, c2, c3⟩ := Ly.cells4 P_; clear P_; (go_simp <;> first | with_reducible rfl | exact ⟨rfl, rfl⟩)); simp only [Act.put, Ly.p1, Ly.p2, Ly.p3])
  first
    | (apply Ly.kc HO 3; (case hx => exact ⟨rfl, rfl, rfl⟩); (case hk => decide +kernel); (case hrun => intro w_; (go_simp <;> first | with_reducible rfl | exact ⟨rfl, rfl⟩)); (case hc => intro w_ hw_; with_reducible exact HRM.out _ (HP0.out.keep hw_.below)); simp only [Act.put, Ly.p1, Ly.p2, Ly.p3])
  first
    | (apply Ly.kp HO 4; (case hx => exact ⟨rfl, rfl, rfl⟩); (case hk => decide +kernel); (case hv => intro w_ hw_; (go_simp <;> first | with_reducible rfl | exact ⟨rfl, rfl⟩)); simp only [Act.put, Ly.p1, Ly.p2, Ly.p3])
  first
    | (apply Ly.kp HO 5; (case hx => exact ⟨rfl, rfl, rfl⟩); (case hk => decide +kernel); (case hv => intro w_ hw_; (go_simp <;> first | with_reducible rfl | exact ⟨rfl, rfl⟩)); simp only [Act.put, Ly.p1, Ly.p2, Ly.p3])
  first
    | (apply Ly.kp HO 6; (case hx => exact ⟨rfl, rfl, rfl⟩); (case hk => decide +kernel); (case hv => intro w_ hw_; (go_simp <;> first | with_reducible rfl | exact ⟨rfl, rfl⟩)); simp only [Act.put, Ly.p1, Ly.p2, Ly.p3])
  first
    | (apply Ly.ka HO 7; (case hx => exact ⟨rfl, rfl, rfl⟩); (case hk => decide +kernel); (case hrun => intro w_; (go_simp <;> first | with_reducible rfl | exact ⟨rfl, rfl⟩)); simp only [Act.put, Ly.p1, Ly.p2, Ly.p3])
  intro g4_2 hg_ hfr
  (repeat (first | (rw [Ly.St.add_M] at hfr) | (replace hfr := Ly.St.fresh_upd hfr; have n_ := hfr.1; replace hfr := hfr.2))); clear hfr
  first
    | (apply Ly.ks HO 8 (g := g4_2); (case hx => exact ⟨rfl, rfl, rfl⟩); (case hk => decide +kernel); (case hF => exact fun h_ => h_); (case hG => exact fun _ _ h_ _ => h_); (case hg => (repeat (first | exact Ly.ua _ _ _ | rw [Ly.un _ _ (by omega)] | rw [Ly.am] | rw [Ly.fz]))); (case hrun => intro w_ hw_ hb_; obtain ⟨c0, c1, c2, c3, c4, c5, c6, c7, c8, c9⟩ := Ly.cells10 hb_; obtain ⟨d0, d1, d2, d3, d4, d5, d6, d7, d8, d9⟩ := Ly.froz10 hb_; refine ⟨?_, ?_, ?_, ?_⟩; rotate_left; (next => (go_simp <;> first | with_reducible rfl | rfl)); (next => (repeat (first | (with_reducible exact Ly.OnlyAt.refl _ _) | (with_reducible refine Ly.OnlyAt.set ?_ _ _)))); (next => (simp [World.setCell, Array.getElem?_modify, hb_] <;> rfl))); simp only [Act.put, Ly.p1, Ly.p2, Ly.p3])
  first
    | (apply Ly.kp HO 9; (case hx => exact ⟨rfl, rfl, rfl⟩); (case hk => decide +kernel); (case hv => intro w_ hw_; (go_simp <;> first | with_reducible rfl | exact ⟨rfl, rfl⟩)); simp only [Act.put, Ly.p1, Ly.p2, Ly.p3])
  refine Ly.kd HO (by kernel_rfl) (fun hiv2 => hZ _ _ (fun W5 hw2 => ?_))
  clear hZ Z HO O
  have hin_ := Lib.hid (And.intro hw2 hiv2 : Ly.II _ _ _ _)
  clear hw2 hiv2
  replace HIN := Lib.hid (Ly.tk hin_.out (Ly.tk hin_.out (Ly.tk hin_.out (Ly.tk hin_.out (Ly.tk hin_.out (Ly.II.nil hin_.out.1.below) (w.heap.size) (by (repeat (first | exact Ly.ua _ _ _ | rw [Ly.un _ _ (by omega)] | rw [Ly.am] | rw [Ly.fz])))) (w.heap.size + 1) (by (repeat (first | exact Ly.ua _ _ _ | rw [Ly.un _ _ (by omega)] | rw [Ly.am] | rw [Ly.fz])))) (w.heap.size + 1 + 1) (by (repeat (first | exact Ly.ua _ _ _ | rw [Ly.un _ _ (by omega)] | rw [Ly.am] | rw [Ly.fz])))) (g4_1) (by (repeat (first | exact Ly.ua _ _ _ | rw [Ly.un _ _ (by omega)] | rw [Ly.am] | rw [Ly.fz])))) (g4_2) (by (repeat (first | exact Ly.ua _ _ _ | rw [Ly.un _ _ (by omega)] | rw [Ly.am] | rw [Ly.fz]))))
  clear hin_
  have q47 := fun (d : Nat) => @eq_frame_same d
  go_upto_region 6 with fail
  refine Ly.regionS0 (by kernel_rfl) (by kernel_rfl) HIN.out.1 HIN.out.2 (by simp only [List.size_toArray, List.length_cons, List.length_nil, Nat.reduceAdd]; rfl) (fun O Z hO hZ => ?_); have HO := Lib.hid hO; clear hO
  first
    | (apply Ly.kr HO 0; (case hx => exact ⟨rfl, rfl, rfl⟩); (case hk => decide +kernel); (case hv => intro w_ hw_; have P_ := hw_.holds (g4_1) _ (by (repeat (first | exact Ly.ua _ _ _ | rw [Ly.un _ _ (by omega)] | rw [Ly.am] | rw [Ly.fz]))); obtain ⟨c0, c1, c2, c3, c4, c5, c6, c7, c8, c9⟩ := Ly.cells10 P_; clear P_; (go_simp <;> first | with_reducible rfl | exact ⟨rfl, rfl⟩)); simp only [Act.put, Ly.p1, Ly.p2, Ly.p3])
  first
    | (apply Ly.kr HO 1; (case hx => exact ⟨rfl, rfl, rfl⟩); (case hk => decide +kernel); (case hv => intro w_ hw_; have P_ := hw_.holds (g4_2) _ (by (repeat (first | exact Ly.ua _ _ _ | rw [Ly.un _ _ (by omega)] | rw [Ly.am] | rw [Ly.fz]))); obtain ⟨c0, c1, c2, c3, c4, c5, c6, c7, c8, c9⟩ := Ly.cells10 P_; clear P_; (go_simp <;> first | with_reducible rfl | exact ⟨rfl, rfl⟩)); simp only [Act.put, Ly.p1, Ly.p2, Ly.p3])
  first
    | (apply Ly.kp HO 2; (case hx => exact ⟨rfl, rfl, rfl⟩); (case hk => decide +kernel); (case hv => intro w_ hw_; (go_simp <;> first | with_reducible rfl | exact ⟨rfl, rfl⟩)); simp only [Act.put, Ly.p1, Ly.p2, Ly.p3])
  first
    | (apply Ly.kp HO 3; (case hx => exact ⟨rfl, rfl, rfl⟩); (case hk => decide +kernel); (case hv => intro w_ hw_; (go_simp <;> first | with_reducible rfl | exact ⟨rfl, rfl⟩)); simp only [Act.put, Ly.p1, Ly.p2, Ly.p3])
  first
    | (apply Ly.kk HO 4; (case hx => exact ⟨rfl, rfl⟩); (case hk => decide +kernel); simp only [Act.put, Ly.p1, Ly.p2, Ly.p3])
    | (apply Ly.kp HO 4; (case hx => exact ⟨rfl, rfl, rfl⟩); (case hk => decide +kernel); (case hv => intro w_ hw_; (go_simp <;> first | with_reducible rfl | exact ⟨rfl, rfl⟩)); simp only [Act.put, Ly.p1, Ly.p2, Ly.p3])
  first
    | (apply Ly.kk HO 5; (case hx => exact ⟨rfl, rfl⟩); (case hk => decide +kernel); simp only [Act.put, Ly.p1, Ly.p2, Ly.p3])
    | (apply Ly.kp HO 5; (case hx => exact ⟨rfl, rfl, rfl⟩); (case hk => decide +kernel); (case hv => intro w_ hw_; (go_simp <;> first | with_reducible rfl | exact ⟨rfl, rfl⟩)); simp only [Act.put, Ly.p1, Ly.p2, Ly.p3])
  first
    | (apply Ly.kk HO 6; (case hx => exact ⟨rfl, rfl⟩); (case hk => decide +kernel); simp only [Act.put, Ly.p1, Ly.p2, Ly.p3])
    | (apply Ly.kp HO 6; (case hx => exact ⟨rfl, rfl, rfl⟩); (case hk => decide +kernel); (case hv => intro w_ hw_; (go_simp <;> first | with_reducible rfl | exact ⟨rfl, rfl⟩)); simp only [Act.put, Ly.p1, Ly.p2, Ly.p3])
  first
    | (apply Ly.kp HO 7; (case hx => exact ⟨rfl, rfl, rfl⟩); (case hk => decide +kernel); (case hv => intro w_ hw_; (go_simp <;> first | with_reducible rfl | exact ⟨rfl, rfl⟩)); simp only [Act.put, Ly.p1, Ly.p2, Ly.p3])
  first
    | (apply Ly.kp HO 8; (case hx => exact ⟨rfl, rfl, rfl⟩); (case hk => decide +kernel); (case hv => intro w_ hw_; (go_simp <;> first | with_reducible rfl | exact ⟨rfl, rfl⟩)); simp only [Act.put, Ly.p1, Ly.p2, Ly.p3])
  first
    | (apply Ly.kk HO 9; (case hx => exact ⟨rfl, rfl⟩); (case hk => decide +kernel); simp only [Act.put, Ly.p1, Ly.p2, Ly.p3])
    | (apply Ly.kc HO 9; (case hx => exact ⟨rfl, rfl, rfl⟩); (case hk => decide +kernel); (case hrun => intro w_; (go_simp <;> first | with_reducible rfl | exact ⟨rfl, rfl⟩)); (case hc => intro w_ hw_; exact HAL.out _); simp only [Act.put, Ly.p1, Ly.p2, Ly.p3])
  first
    | (apply Ly.kp HO 10; (case hx => exact ⟨rfl, rfl, rfl⟩); (case hk => decide +kernel); (case hv => intro w_ hw_; (go_simp <;> first | with_reducible rfl | exact ⟨rfl, rfl⟩)); simp only [Act.put, Ly.p1, Ly.p2, Ly.p3])
  first
    | (apply Ly.kp HO 11; (case hx => exact ⟨rfl, rfl, rfl⟩); (case hk => decide +kernel); (case hv => intro w_ hw_; (go_simp <;> first | with_reducible rfl | exact ⟨rfl, rfl⟩)); simp only [Act.put, Ly.p1, Ly.p2, Ly.p3])
  refine Ly.kd HO (by kernel_rfl) (fun hiv2 => hZ _ _ (fun W6 hw2 => ?_))
  clear hZ Z HO O
  have hin_ := Lib.hid (And.intro hw2 hiv2 : Ly.II _ _ _ _)
  clear hw2 hiv2
  replace HIN := Lib.hid (Ly.tk hin_.out (Ly.tk hin_.out (Ly.tk hin_.out (Ly.tk hin_.out (Ly.tk hin_.out (Ly.II.nil hin_.out.1.below) (w.heap.size) (by (repeat (first | exact Ly.ua _ _ _ | rw [Ly.un _ _ (by omega)] | rw [Ly.am] | rw [Ly.fz])))) (w.heap.size + 1) (by (repeat (first | exact Ly.ua _ _ _ | rw [Ly.un _ _ (by omega)] | rw [Ly.am] | rw [Ly.fz])))) (w.heap.size + 1 + 1) (by (repeat (first | exact Ly.ua _ _ _ | rw [Ly.un _ _ (by omega)] | rw [Ly.am] | rw [Ly.fz])))) (g4_1) (by (repeat (first | exact Ly.ua _ _ _ | rw [Ly.un _ _ (by omega)] | rw [Ly.am] | rw [Ly.fz])))) (g4_2) (by (repeat (first | exact Ly.ua _ _ _ | rw [Ly.un _ _ (by omega)] | rw [Ly.am] | rw [Ly.fz]))))
  clear hin_
  clear q47
  go_wp2
  refine Ly.ret_of (by simp [results, Try.results4, go_sem] <;> (repeat' (first | rfl | apply And.intro))) rfl ⟨rfl, HIN.out.1.below⟩
theorem mailDone_any {c1 c2 c3 : Value} {P : ProgV} {w : World} (h : RProg w c1 c2 c3 P) (f : FrameV) (hf : f.wf) (c v : Int) (ok : Bool) (code : Int) :
    Calls Try.prog 4 #[.agg #[c1, c2, c3], f.agg, .agg #[.int .i64 c, .int .i64 v, .bool ok, .int .i64 code]] w fun e w' => e = .returned (.bool true) ∧ Below w.heap.size w w' := by
  cases hs : saneP P with
  | false => exact mailDone_false h f hf c v ok code hs
  | true => exact mailDone_true h f hf c v ok code hs
end Go.Proofs.Ytljfloopjgpaeaa
