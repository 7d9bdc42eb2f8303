/- tollbarref13.Done: selects. -/
import Derived.Test.YtljfloopjgpaeaaRF
namespace Go.Proofs.Ytljfloopjgpaeaa
set_option linter.unusedVariables false
set_option linter.unusedSimpArgs false
open Go.RowKit
attribute [local go_sem] Oper.semAt_some
set_option maxRecDepth 100000

set_option maxHeartbeats 4000000 in
theorem rdone_sel_bad {c1 c2 c3 : Value} {P : ProgV} {w : World} (h : RProg w c1 c2 c3 P) (hs : saneP P = true) (f : FrameV) (hf : f.wf) (k val : Int) (ok : Bool) (hat : atB P f.code f.pc = true) (ho : (atX P f.code f.pc).op = 8) (n : Nat) (hxk : (atX P f.code f.pc).k = n) (hn : n < P.sites.length) (hk : k < 0 ∨ ((P.sites[n]).cases.length : Int) < k ∨ (k = (P.sites[n]).cases.length ∧ (P.sites[n]).dflt = false)) :
    Calls Try.prog 42 #[.agg #[c1, c2, c3], f.agg, .int .i64 k, .int .i64 val, .bool ok] w fun e w' => e = .returned (.tuple #[(doneF P f k val ok).1.agg, .int .i64 (doneF P f k val ok).2]) ∧ Below w.heap.size w w' := by
  have HP0 := Lib.hid h
  have hmay := fun (W : World) (h : RProg W c1 c2 c3 P) => rMay_any h f
  rw [hat] at hmay
  have hat0 := fun (W : World) (h : RProg W c1 c2 c3 P) => rAt_any h f hat
  obtain ⟨hra, hrb, hnx, hkk⟩ := sane_at hs hat
  obtain ⟨q1, q2, l, q3, q4⟩ := atB_iff.1 hat
  have hlen := (code_ok (sane_parts hs).2.2.1 (List.mem_of_getElem? q3)).1.2
  have hpc : 0 ≤ f.pc ∧ f.pc < 100 := ⟨q2, by omega⟩
  clear q1 q2 q3 q4 hlen l hnx hkk
  have hR : doneF P f k val ok = chosenF P.sites[n] f (atX P f.code f.pc) k val ok := by
    unfold doneF; rw [if_pos hat]; simp only; rw [if_neg (by rw [ho]; decide), if_pos ho]
    have : siteOf P (atX P f.code f.pc) = P.sites[n] := by unfold siteOf; rw [hxk]; simp [List.getD_eq_getElem?_getD, List.getElem?_eq_getElem hn]
    rw [this]
  rw [hR]
  clear hR
  obtain ⟨⟨xo, xa, xb, xc, xk⟩, hx⟩ : ∃ x, atX P f.code f.pc = x := ⟨_, rfl⟩
  rw [hx] at hra hrb ho hxk
  simp only [hx] at hat0 ⊢
  clear hx hat
  simp only at hra hrb ho hxk
  subst ho hxk
  obtain ⟨nb, rfl⟩ := Int.eq_ofNat_of_zero_le (regI_of hrb).1
  have nb8 : nb < 8 := by have := (regI_of hrb).2; omega
  have nba : (0 : Int) ≤ (nb : Int) := by omega
  have nbb : (nb : Int) < 8 := by omega
  clear hra hrb
  have hSite := HP0.out.sites
  obtain ⟨A1, n1, rfl, _, _, hl1⟩ := h.caps.val
  obtain ⟨A2, n2, rfl, _, _, hl2⟩ := h.codes.val
  obtain ⟨A3, n3, rfl, _, _, hl3⟩ := h.sites.val
  obtain ⟨b, o, A4, c4, rfl, hb, gs0, gs1, gs2, _, _, hl4⟩ := kSite_at h.sites hn
  have e1 : (0 : Int) ≤ (n : Int) := by omega
  have e2 : (n : Int) < P.sites.length := by omega
  clear hSite
  try have hsc := sane_case (m := m) hs hn
  generalize P.sites[n] = s at *
  have hR : chosenF s f ⟨8, xa, (nb : Int), xc, (n : Int)⟩ k val ok = (FrameV.zero, 2) := by unfold chosenF; rw [if_pos hk]
  rw [hR]
  clear hR
  clear h hs
  simp only [FrameV.agg, FrameV.cells, InsV.agg] at hmay hat0
  have HMAY := Lib.hid hmay
  have HAT0 := Lib.hid hat0
  clear hat0
  clear hmay
  try clear h
  unfold FrameV.agg FrameV.cells
  go_enter Try.func42, Try.ntmps42
  go_upto_region 1 with fail
  refine Lx.start3 (fun W1 hII => ?_)
  have HIN := Lib.hid hII
  clear hII
  go_upto_region 1 with fail
  refine Lx.regionS0 (by kernel_rfl) (by kernel_rfl) HIN.out.1 HIN.out.2 (by simp only [List.size_toArray, List.length_cons, List.length_nil, Nat.reduceAdd]; rfl) (fun O Z hO hZ => ?_); have HO := Lib.hid hO; clear hO
  first
    | (apply Lx.kr HO 0; (case hx => exact ⟨rfl, rfl, rfl⟩); (case hk => decide +kernel); (case hv => intro w_ hw_; have P_ := hw_.holds (w.heap.size) _ (by (repeat (first | exact Lx.ua _ _ _ | rw [Lx.un _ _ (by omega)] | rw [Lx.am]))); obtain ⟨c0, c1, c2⟩ := Lx.cells3 P_; clear P_; (go_simp <;> first | with_reducible rfl | exact ⟨rfl, rfl⟩)); simp only [Act.put, Lx.p1, Lx.p2, Lx.p3])
  first
    | (apply Lx.kr HO 1; (case hx => exact ⟨rfl, rfl, rfl⟩); (case hk => decide +kernel); (case hv => intro w_ hw_; have P_ := hw_.holds (w.heap.size + 1) _ (by (repeat (first | exact Lx.ua _ _ _ | rw [Lx.un _ _ (by omega)] | rw [Lx.am]))); obtain ⟨c0, c1, c2, c3, c4, c5, c6, c7, c8, c9⟩ := Lx.cells10 P_; clear P_; (go_simp <;> first | with_reducible rfl | exact ⟨rfl, rfl⟩)); simp only [Act.put, Lx.p1, Lx.p2, Lx.p3])
  first
    | (apply Lx.kc HO 2; (case hx => exact ⟨rfl, rfl, rfl⟩); (case hk => decide +kernel); (case hrun => intro w_; (go_simp <;> first | with_reducible rfl | exact ⟨rfl, rfl⟩)); (case hc => intro w_ hw_; with_reducible exact HMAY.out _ (HP0.out.keep hw_.below)); simp only [Act.put, Lx.p1, Lx.p2, Lx.p3])
  first
    | (apply Lx.kp HO 3; (case hx => exact ⟨rfl, rfl, rfl⟩); (case hk => decide +kernel); (case hv => intro w_ hw_; (go_simp <;> first | with_reducible rfl | exact ⟨rfl, rfl⟩)); simp only [Act.put, Lx.p1, Lx.p2, Lx.p3])
  refine Lx.kd HO (by kernel_rfl) (fun hiv2 => hZ _ _ (fun W2 hw2 => ?_))
  clear hZ Z HO O
  have hin_ := Lib.hid (And.intro hw2 hiv2 : Lx.II _ _ _ _)
  clear hw2 hiv2
  replace HIN := Lib.hid (Lx.tk hin_.out (Lx.tk hin_.out (Lx.tk hin_.out (Lx.II.nil hin_.out.1.below) (w.heap.size) (by (repeat (first | exact Lx.ua _ _ _ | rw [Lx.un _ _ (by omega)] | rw [Lx.am])))) (w.heap.size + 1) (by (repeat (first | exact Lx.ua _ _ _ | rw [Lx.un _ _ (by omega)] | rw [Lx.am])))) (w.heap.size + 1 + 1) (by (repeat (first | exact Lx.ua _ _ _ | rw [Lx.un _ _ (by omega)] | rw [Lx.am]))))
  clear hin_
  go_upto_region 3 with fail
  refine Lx.regionS0 (by kernel_rfl) (by kernel_rfl) HIN.out.1 HIN.out.2 (by simp only [List.size_toArray, List.length_cons, List.length_nil, Nat.reduceAdd]; rfl) (fun O Z hO hZ => ?_); have HO := Lib.hid hO; clear hO
  first
    | (apply Lx.kr HO 0; (case hx => exact ⟨rfl, rfl, rfl⟩); (case hk => decide +kernel); (case hv => intro w_ hw_; have P_ := hw_.holds (w.heap.size) _ (by (repeat (first | exact Lx.ua _ _ _ | rw [Lx.un _ _ (by omega)] | rw [Lx.am]))); obtain ⟨c0, c1, c2⟩ := Lx.cells3 P_; clear P_; (go_simp <;> first | with_reducible rfl | exact ⟨rfl, rfl⟩)); simp only [Act.put, Lx.p1, Lx.p2, Lx.p3])
  first
    | (apply Lx.kr HO 1; (case hx => exact ⟨rfl, rfl, rfl⟩); (case hk => decide +kernel); (case hv => intro w_ hw_; have P_ := hw_.holds (w.heap.size + 1) _ (by (repeat (first | exact Lx.ua _ _ _ | rw [Lx.un _ _ (by omega)] | rw [Lx.am]))); obtain ⟨c0, c1, c2, c3, c4, c5, c6, c7, c8, c9⟩ := Lx.cells10 P_; clear P_; (go_simp <;> first | with_reducible rfl | exact ⟨rfl, rfl⟩)); simp only [Act.put, Lx.p1, Lx.p2, Lx.p3])
  first
    | (apply Lx.kc HO 2; (case hx => exact ⟨rfl, rfl, rfl⟩); (case hk => decide +kernel); (case hrun => intro w_; (go_simp <;> first | with_reducible rfl | exact ⟨rfl, rfl⟩)); (case hc => intro w_ hw_; with_reducible exact HAT0.out _ (HP0.out.keep hw_.below)); simp only [Act.put, Lx.p1, Lx.p2, Lx.p3])
  first
    | (apply Lx.ka HO 3; (case hx => exact ⟨rfl, rfl, rfl⟩); (case hk => decide +kernel); (case hrun => intro w_; (go_simp <;> first | with_reducible rfl | exact ⟨rfl, rfl⟩)); simp only [Act.put, Lx.p1, Lx.p2, Lx.p3])
  intro g42_1 hg_ hfr
  (repeat (first | (rw [Lx.St.add_M] at hfr) | (replace hfr := Lx.St.fresh_upd hfr; have n_ := hfr.1; replace hfr := hfr.2))); clear hfr
  first
    | (apply Lx.ks HO 4 (g := g42_1); (case hx => exact ⟨rfl, rfl, rfl⟩); (case hk => decide +kernel); (case hG => exact fun _ _ h_ _ => h_); (case hg => (repeat (first | exact Lx.ua _ _ _ | rw [Lx.un _ _ (by omega)] | rw [Lx.am]))); (case hrun => intro w_ hw_ hb_; obtain ⟨c0, c1, c2, c3, c4⟩ := Lx.cells5 hb_; obtain ⟨d0, d1, d2, d3, d4⟩ := Lx.froz5 hb_; refine ⟨?_, ?_, ?_, ?_⟩; rotate_left; (next => (go_simp <;> first | with_reducible rfl | rfl)); (next => (repeat (first | (with_reducible exact Lx.OnlyAt.refl _ _) | (with_reducible refine Lx.OnlyAt.set ?_ _ _)))); (next => (simp [World.setCell, Array.getElem?_modify, hb_] <;> rfl))); simp only [Act.put, Lx.p1, Lx.p2, Lx.p3])
  refine Lx.kd HO (by kernel_rfl) (fun hiv2 => hZ _ _ (fun W3 hw2 => ?_))
  clear hZ Z HO O
  have hin_ := Lib.hid (And.intro hw2 hiv2 : Lx.II _ _ _ _)
  clear hw2 hiv2
  replace HIN := Lib.hid (Lx.tk hin_.out (Lx.tk hin_.out (Lx.tk hin_.out (Lx.tk hin_.out (Lx.II.nil hin_.out.1.below) (w.heap.size) (by (repeat (first | exact Lx.ua _ _ _ | rw [Lx.un _ _ (by omega)] | rw [Lx.am])))) (w.heap.size + 1) (by (repeat (first | exact Lx.ua _ _ _ | rw [Lx.un _ _ (by omega)] | rw [Lx.am])))) (w.heap.size + 1 + 1) (by (repeat (first | exact Lx.ua _ _ _ | rw [Lx.un _ _ (by omega)] | rw [Lx.am])))) (g42_1) (by (repeat (first | exact Lx.ua _ _ _ | rw [Lx.un _ _ (by omega)] | rw [Lx.am]))))
  clear hin_
  go_upto_region 4 with fail
  refine Lx.regionS0 (by kernel_rfl) (by kernel_rfl) HIN.out.1 HIN.out.2 (by simp only [List.size_toArray, List.length_cons, List.length_nil, Nat.reduceAdd]; rfl) (fun O Z hO hZ => ?_); have HO := Lib.hid hO; clear hO
  first
    | (apply Lx.kp HO 0; (case hx => exact ⟨rfl, rfl, rfl⟩); (case hk => decide +kernel); (case hv => intro w_ hw_; (go_simp <;> first | with_reducible rfl | exact ⟨rfl, rfl⟩)); simp only [Act.put, Lx.p1, Lx.p2, Lx.p3])
  first
    | (apply Lx.kr HO 1; (case hx => exact ⟨rfl, rfl, rfl⟩); (case hk => decide +kernel); (case hv => intro w_ hw_; have P_ := hw_.holds (g42_1) _ (by (repeat (first | exact Lx.ua _ _ _ | rw [Lx.un _ _ (by omega)] | rw [Lx.am]))); have c0 := cellAt P_ 0 rfl; clear P_; (go_simp <;> first | with_reducible rfl | exact ⟨rfl, rfl⟩)); simp only [Act.put, Lx.p1, Lx.p2, Lx.p3])
  first
    | (apply Lx.kc HO 2; (case hx => exact ⟨rfl, rfl, rfl⟩); (case hk => decide +kernel); (case hrun => intro w_; (go_simp <;> first | with_reducible rfl | exact ⟨rfl, rfl⟩)); (case hc => intro w_ hw_; exact rlocal_b rfl _); simp only [Act.put, Lx.p1, Lx.p2, Lx.p3])
  refine Lx.kd HO (by kernel_rfl) (fun hiv2 => hZ _ _ (fun W4 hw2 => ?_))
  clear hZ Z HO O
  have hin_ := Lib.hid (And.intro hw2 hiv2 : Lx.II _ _ _ _)
  clear hw2 hiv2
  replace HIN := Lib.hid (Lx.tk hin_.out (Lx.tk hin_.out (Lx.tk hin_.out (Lx.tk hin_.out (Lx.II.nil hin_.out.1.below) (w.heap.size) (by (repeat (first | exact Lx.ua _ _ _ | rw [Lx.un _ _ (by omega)] | rw [Lx.am])))) (w.heap.size + 1) (by (repeat (first | exact Lx.ua _ _ _ | rw [Lx.un _ _ (by omega)] | rw [Lx.am])))) (w.heap.size + 1 + 1) (by (repeat (first | exact Lx.ua _ _ _ | rw [Lx.un _ _ (by omega)] | rw [Lx.am])))) (g42_1) (by (repeat (first | exact Lx.ua _ _ _ | rw [Lx.un _ _ (by omega)] | rw [Lx.am]))))
  clear hin_
  go_upto_region 6 with fail
  refine Lx.regionS0 (by kernel_rfl) (by kernel_rfl) HIN.out.1 HIN.out.2 (by simp only [List.size_toArray, List.length_cons, List.length_nil, Nat.reduceAdd]; rfl) (fun O Z hO hZ => ?_); have HO := Lib.hid hO; clear hO
  first
    | (apply Lx.kp HO 0; (case hx => exact ⟨rfl, rfl, rfl⟩); (case hk => decide +kernel); (case hv => intro w_ hw_; (go_simp <;> first | with_reducible rfl | exact ⟨rfl, rfl⟩)); simp only [Act.put, Lx.p1, Lx.p2, Lx.p3])
  first
    | (apply Lx.kr HO 1; (case hx => exact ⟨rfl, rfl, rfl⟩); (case hk => decide +kernel); (case hv => intro w_ hw_; have P_ := hw_.holds (w.heap.size + 1) _ (by (repeat (first | exact Lx.ua _ _ _ | rw [Lx.un _ _ (by omega)] | rw [Lx.am]))); have c2 := cellAt P_ 2 rfl; have c3 := cellAt P_ 3 rfl; have c4 := cellAt P_ 4 rfl; have c5 := cellAt P_ 5 rfl; have c6 := cellAt P_ 6 rfl; have c7 := cellAt P_ 7 rfl; have c8 := cellAt P_ 8 rfl; have c9 := cellAt P_ 9 rfl; clear P_; (go_simp <;> first | with_reducible rfl | exact ⟨rfl, rfl⟩)); simp only [Act.put, Lx.p1, Lx.p2, Lx.p3])
  first
    | (apply Lx.ka HO 2; (case hx => exact ⟨rfl, rfl, rfl⟩); (case hk => decide +kernel); (case hrun => intro w_; (go_simp <;> first | with_reducible rfl | exact ⟨rfl, rfl⟩)); simp only [Act.put, Lx.p1, Lx.p2, Lx.p3])
  intro g42_2 hg_ hfr
  (repeat (first | (rw [Lx.St.add_M] at hfr) | (replace hfr := Lx.St.fresh_upd hfr; have n_ := hfr.1; replace hfr := hfr.2))); clear hfr
  first
    | (apply Lx.ks HO 3 (g := g42_2); (case hx => exact ⟨rfl, rfl, rfl⟩); (case hk => decide +kernel); (case hG => exact fun _ _ h_ _ => h_); (case hg => (repeat (first | exact Lx.ua _ _ _ | rw [Lx.un _ _ (by omega)] | rw [Lx.am]))); (case hrun => intro w_ hw_ hb_; obtain ⟨c0, c1, c2, c3, c4, c5, c6, c7⟩ := Lx.cells8 hb_; obtain ⟨d0, d1, d2, d3, d4, d5, d6, d7⟩ := Lx.froz8 hb_; refine ⟨?_, ?_, ?_, ?_⟩; rotate_left; (next => (go_simp <;> first | with_reducible rfl | rfl)); (next => (repeat (first | (with_reducible exact Lx.OnlyAt.refl _ _) | (with_reducible refine Lx.OnlyAt.set ?_ _ _)))); (next => (simp [World.setCell, Array.getElem?_modify, hb_] <;> rfl))); simp only [Act.put, Lx.p1, Lx.p2, Lx.p3])
  refine Lx.kd HO (by kernel_rfl) (fun hiv2 => hZ _ _ (fun W5 hw2 => ?_))
  clear hZ Z HO O
  have hin_ := Lib.hid (And.intro hw2 hiv2 : Lx.II _ _ _ _)
  clear hw2 hiv2
  replace HIN := Lib.hid (Lx.tk hin_.out (Lx.tk hin_.out (Lx.tk hin_.out (Lx.tk hin_.out (Lx.tk hin_.out (Lx.II.nil hin_.out.1.below) (w.heap.size) (by (repeat (first | exact Lx.ua _ _ _ | rw [Lx.un _ _ (by omega)] | rw [Lx.am])))) (w.heap.size + 1) (by (repeat (first | exact Lx.ua _ _ _ | rw [Lx.un _ _ (by omega)] | rw [Lx.am])))) (w.heap.size + 1 + 1) (by (repeat (first | exact Lx.ua _ _ _ | rw [Lx.un _ _ (by omega)] | rw [Lx.am])))) (g42_1) (by (repeat (first | exact Lx.ua _ _ _ | rw [Lx.un _ _ (by omega)] | rw [Lx.am])))) (g42_2) (by (repeat (first | exact Lx.ua _ _ _ | rw [Lx.un _ _ (by omega)] | rw [Lx.am]))))
  clear hin_
  have m1 : IntKind.i64.wrap (f.pc + 1) = f.pc + 1 := IntWalk.i64_in _ (by omega)
  go_upto_region 7 with fail
  refine Lx.regionS0 (by kernel_rfl) (by kernel_rfl) HIN.out.1 HIN.out.2 (by simp only [List.size_toArray, List.length_cons, List.length_nil, Nat.reduceAdd]; rfl) (fun O Z hO hZ => ?_); have HO := Lib.hid hO; clear hO
  first
    | (apply Lx.kp HO 0; (case hx => exact ⟨rfl, rfl, rfl⟩); (case hk => decide +kernel); (case hv => intro w_ hw_; (go_simp <;> first | with_reducible rfl | exact ⟨rfl, rfl⟩)); simp only [Act.put, Lx.p1, Lx.p2, Lx.p3])
  first
    | (apply Lx.kr HO 1; (case hx => exact ⟨rfl, rfl, rfl⟩); (case hk => decide +kernel); (case hv => intro w_ hw_; have P_ := hw_.holds (w.heap.size + 1) _ (by (repeat (first | exact Lx.ua _ _ _ | rw [Lx.un _ _ (by omega)] | rw [Lx.am]))); have c0 := cellAt P_ 0 rfl; clear P_; (go_simp <;> first | with_reducible rfl | exact ⟨rfl, rfl⟩)); simp only [Act.put, Lx.p1, Lx.p2, Lx.p3])
  first
    | (apply Lx.kp HO 2; (case hx => exact ⟨rfl, rfl, rfl⟩); (case hk => decide +kernel); (case hv => intro w_ hw_; (go_simp <;> first | with_reducible rfl | exact ⟨rfl, rfl⟩)); simp only [Act.put, Lx.p1, Lx.p2, Lx.p3])
  first
    | (apply Lx.kr HO 3; (case hx => exact ⟨rfl, rfl, rfl⟩); (case hk => decide +kernel); (case hv => intro w_ hw_; have P_ := hw_.holds (w.heap.size + 1) _ (by (repeat (first | exact Lx.ua _ _ _ | rw [Lx.un _ _ (by omega)] | rw [Lx.am]))); have c1 := cellAt P_ 1 rfl; clear P_; (go_simp <;> first | with_reducible rfl | exact ⟨rfl, rfl⟩)); simp only [Act.put, Lx.p1, Lx.p2, Lx.p3])
  first
    | (apply Lx.kp HO 4; (case hx => exact ⟨rfl, rfl, rfl⟩); (case hk => decide +kernel); (case hv => intro w_ hw_; (go_simp <;> first | with_reducible rfl | exact ⟨rfl, rfl⟩)); simp only [Act.put, Lx.p1, Lx.p2, Lx.p3])
  first
    | (apply Lx.kr HO 5; (case hx => exact ⟨rfl, rfl, rfl⟩); (case hk => decide +kernel); (case hv => intro w_ hw_; have P_ := hw_.holds (g42_2) _ (by (repeat (first | exact Lx.ua _ _ _ | rw [Lx.un _ _ (by omega)] | rw [Lx.am]))); obtain ⟨c0, c1, c2, c3, c4, c5, c6, c7⟩ := Lx.cells8 P_; clear P_; (go_simp <;> first | with_reducible rfl | exact ⟨rfl, rfl⟩)); simp only [Act.put, Lx.p1, Lx.p2, Lx.p3])
  first
    | (apply Lx.kp HO 6; (case hx => exact ⟨rfl, rfl, rfl⟩); (case hk => decide +kernel); (case hv => intro w_ hw_; (go_simp <;> first | with_reducible rfl | exact ⟨rfl, rfl⟩)); simp only [Act.put, Lx.p1, Lx.p2, Lx.p3])
  first
    | (apply Lx.ka HO 7; (case hx => exact ⟨rfl, rfl, rfl⟩); (case hk => decide +kernel); (case hrun => intro w_; (go_simp <;> first | with_reducible rfl | exact ⟨rfl, rfl⟩)); simp only [Act.put, Lx.p1, Lx.p2, Lx.p3])
  intro g42_3 hg_ hfr
  (repeat (first | (rw [Lx.St.add_M] at hfr) | (replace hfr := Lx.St.fresh_upd hfr; have n_ := hfr.1; replace hfr := hfr.2))); clear hfr
  first
    | (apply Lx.ks HO 8 (g := g42_3); (case hx => exact ⟨rfl, rfl, rfl⟩); (case hk => decide +kernel); (case hG => exact fun _ _ h_ _ => h_); (case hg => (repeat (first | exact Lx.ua _ _ _ | rw [Lx.un _ _ (by omega)] | rw [Lx.am]))); (case hrun => intro w_ hw_ hb_; obtain ⟨c0, c1, c2, c3, c4, c5, c6, c7, c8, c9⟩ := Lx.cells10 hb_; obtain ⟨d0, d1, d2, d3, d4, d5, d6, d7, d8, d9⟩ := Lx.froz10 hb_; refine ⟨?_, ?_, ?_, ?_⟩; rotate_left; (next => (go_simp <;> first | with_reducible rfl | rfl)); (next => (repeat (first | (with_reducible exact Lx.OnlyAt.refl _ _) | (with_reducible refine Lx.OnlyAt.set ?_ _ _)))); (next => (simp [World.setCell, Array.getElem?_modify, hb_] <;> rfl))); simp only [Act.put, Lx.p1, Lx.p2, Lx.p3])
  refine Lx.kd HO (by kernel_rfl) (fun hiv2 => hZ _ _ (fun W6 hw2 => ?_))
  clear hZ Z HO O
  have hin_ := Lib.hid (And.intro hw2 hiv2 : Lx.II _ _ _ _)
  clear hw2 hiv2
  replace HIN := Lib.hid (Lx.tk hin_.out (Lx.tk hin_.out (Lx.tk hin_.out (Lx.tk hin_.out (Lx.tk hin_.out (Lx.tk hin_.out (Lx.II.nil hin_.out.1.below) (w.heap.size) (by (repeat (first | exact Lx.ua _ _ _ | rw [Lx.un _ _ (by omega)] | rw [Lx.am])))) (w.heap.size + 1) (by (repeat (first | exact Lx.ua _ _ _ | rw [Lx.un _ _ (by omega)] | rw [Lx.am])))) (w.heap.size + 1 + 1) (by (repeat (first | exact Lx.ua _ _ _ | rw [Lx.un _ _ (by omega)] | rw [Lx.am])))) (g42_1) (by (repeat (first | exact Lx.ua _ _ _ | rw [Lx.un _ _ (by omega)] | rw [Lx.am])))) (g42_2) (by (repeat (first | exact Lx.ua _ _ _ | rw [Lx.un _ _ (by omega)] | rw [Lx.am])))) (g42_3) (by (repeat (first | exact Lx.ua _ _ _ | rw [Lx.un _ _ (by omega)] | rw [Lx.am]))))
  clear hin_
  clear m1
  go_upto_region 8 with fail
  refine Lx.regionS0 (by kernel_rfl) (by kernel_rfl) HIN.out.1 HIN.out.2 (by simp only [List.size_toArray, List.length_cons, List.length_nil, Nat.reduceAdd]; rfl) (fun O Z hO hZ => ?_); have HO := Lib.hid hO; clear hO
  first
    | (apply Lx.kp HO 0; (case hx => exact ⟨rfl, rfl, rfl⟩); (case hk => decide +kernel); (case hv => intro w_ hw_; (go_simp <;> first | with_reducible rfl | exact ⟨rfl, rfl⟩)); simp only [Act.put, Lx.p1, Lx.p2, Lx.p3])
  first
    | (apply Lx.kr HO 1; (case hx => exact ⟨rfl, rfl, rfl⟩); (case hk => decide +kernel); (case hv => intro w_ hw_; have P_ := hw_.holds (g42_1) _ (by (repeat (first | exact Lx.ua _ _ _ | rw [Lx.un _ _ (by omega)] | rw [Lx.am]))); have c0 := cellAt P_ 0 rfl; clear P_; (go_simp <;> first | with_reducible rfl | exact ⟨rfl, rfl⟩)); simp only [Act.put, Lx.p1, Lx.p2, Lx.p3])
  first
    | (apply Lx.kp HO 2; (case hx => exact ⟨rfl, rfl, rfl⟩); (case hk => decide +kernel); (case hv => intro w_ hw_; (go_simp <;> first | with_reducible rfl | exact ⟨rfl, rfl⟩)); simp only [Act.put, Lx.p1, Lx.p2, Lx.p3])
  refine Lx.kd HO (by kernel_rfl) (fun hiv2 => hZ _ _ (fun W7 hw2 => ?_))
  clear hZ Z HO O
  have hin_ := Lib.hid (And.intro hw2 hiv2 : Lx.II _ _ _ _)
  clear hw2 hiv2
  replace HIN := Lib.hid (Lx.tk hin_.out (Lx.tk hin_.out (Lx.tk hin_.out (Lx.tk hin_.out (Lx.tk hin_.out (Lx.tk hin_.out (Lx.II.nil hin_.out.1.below) (w.heap.size) (by (repeat (first | exact Lx.ua _ _ _ | rw [Lx.un _ _ (by omega)] | rw [Lx.am])))) (w.heap.size + 1) (by (repeat (first | exact Lx.ua _ _ _ | rw [Lx.un _ _ (by omega)] | rw [Lx.am])))) (w.heap.size + 1 + 1) (by (repeat (first | exact Lx.ua _ _ _ | rw [Lx.un _ _ (by omega)] | rw [Lx.am])))) (g42_1) (by (repeat (first | exact Lx.ua _ _ _ | rw [Lx.un _ _ (by omega)] | rw [Lx.am])))) (g42_2) (by (repeat (first | exact Lx.ua _ _ _ | rw [Lx.un _ _ (by omega)] | rw [Lx.am])))) (g42_3) (by (repeat (first | exact Lx.ua _ _ _ | rw [Lx.un _ _ (by omega)] | rw [Lx.am]))))
  clear hin_
  go_upto_region 16 with fail
  refine Lx.regionS0 (by kernel_rfl) (by kernel_rfl) HIN.out.1 HIN.out.2 (by simp only [List.size_toArray, List.length_cons, List.length_nil, Nat.reduceAdd]; rfl) (fun O Z hO hZ => ?_); have HO := Lib.hid hO; clear hO
  first
    | (apply Lx.kp HO 0; (case hx => exact ⟨rfl, rfl, rfl⟩); (case hk => decide +kernel); (case hv => intro w_ hw_; (go_simp <;> first | with_reducible rfl | exact ⟨rfl, rfl⟩)); simp only [Act.put, Lx.p1, Lx.p2, Lx.p3])
  first
    | (apply Lx.kr HO 1; (case hx => exact ⟨rfl, rfl, rfl⟩); (case hk => decide +kernel); (case hv => intro w_ hw_; have P_ := hw_.holds (w.heap.size) _ (by (repeat (first | exact Lx.ua _ _ _ | rw [Lx.un _ _ (by omega)] | rw [Lx.am]))); have c2 := cellAt P_ 2 rfl; clear P_; (go_simp <;> first | with_reducible rfl | exact ⟨rfl, rfl⟩)); simp only [Act.put, Lx.p1, Lx.p2, Lx.p3])
  first
    | (apply Lx.kp HO 2; (case hx => exact ⟨rfl, rfl, rfl⟩); (case hk => decide +kernel); (case hv => intro w_ hw_; (go_simp <;> first | with_reducible rfl | exact ⟨rfl, rfl⟩)); simp only [Act.put, Lx.p1, Lx.p2, Lx.p3])
  first
    | (apply Lx.kr HO 3; (case hx => exact ⟨rfl, rfl, rfl⟩); (case hk => decide +kernel); (case hv => intro w_ hw_; have P_ := hw_.holds (g42_1) _ (by (repeat (first | exact Lx.ua _ _ _ | rw [Lx.un _ _ (by omega)] | rw [Lx.am]))); have c4 := cellAt P_ 4 rfl; clear P_; (go_simp <;> first | with_reducible rfl | exact ⟨rfl, rfl⟩)); simp only [Act.put, Lx.p1, Lx.p2, Lx.p3])
  first
    | (apply Lx.kp HO 4; (case hx => exact ⟨rfl, rfl, rfl⟩); (case hk => decide +kernel); (case hv => intro w_ hw_; (go_simp <;> first | with_reducible rfl | exact ⟨rfl, rfl⟩)); simp only [Act.put, Lx.p1, Lx.p2, Lx.p3])
  first
    | (apply Lx.kr HO 5; (case hx => exact ⟨rfl, rfl, rfl⟩); (case hk => decide +kernel); (case hv => intro w_ hw_; have q0 := Below.at hw_.below gs0 hb; have q1 := Below.at hw_.below gs1 hb; (go_simp <;> first | with_reducible rfl | exact ⟨rfl, rfl⟩)); simp only [Act.put, Lx.p1, Lx.p2, Lx.p3])
  first
    | (apply Lx.ka HO 6; (case hx => exact ⟨rfl, rfl, rfl⟩); (case hk => decide +kernel); (case hrun => intro w_; (go_simp <;> first | with_reducible rfl | exact ⟨rfl, rfl⟩)); simp only [Act.put, Lx.p1, Lx.p2, Lx.p3])
  intro g42_4 hg_ hfr
  (repeat (first | (rw [Lx.St.add_M] at hfr) | (replace hfr := Lx.St.fresh_upd hfr; have n_ := hfr.1; replace hfr := hfr.2))); clear hfr
  first
    | (apply Lx.ks HO 7 (g := g42_4); (case hx => exact ⟨rfl, rfl, rfl⟩); (case hk => decide +kernel); (case hG => exact fun _ _ h_ _ => h_); (case hg => (repeat (first | exact Lx.ua _ _ _ | rw [Lx.un _ _ (by omega)] | rw [Lx.am]))); (case hrun => intro w_ hw_ hb_; obtain ⟨c0, c1⟩ := Lx.cells2 hb_; obtain ⟨d0, d1⟩ := Lx.froz2 hb_; refine ⟨?_, ?_, ?_, ?_⟩; rotate_left; (next => (go_simp <;> first | with_reducible rfl | rfl)); (next => (repeat (first | (with_reducible exact Lx.OnlyAt.refl _ _) | (with_reducible refine Lx.OnlyAt.set ?_ _ _)))); (next => (simp [World.setCell, Array.getElem?_modify, hb_] <;> rfl))); simp only [Act.put, Lx.p1, Lx.p2, Lx.p3])
  refine Lx.kd HO (by kernel_rfl) (fun hiv2 => hZ _ _ (fun W8 hw2 => ?_))
  clear hZ Z HO O
  have hin_ := Lib.hid (And.intro hw2 hiv2 : Lx.II _ _ _ _)
  clear hw2 hiv2
  replace HIN := Lib.hid (Lx.tk hin_.out (Lx.tk hin_.out (Lx.tk hin_.out (Lx.tk hin_.out (Lx.tk hin_.out (Lx.tk hin_.out (Lx.tk hin_.out (Lx.II.nil hin_.out.1.below) (w.heap.size) (by (repeat (first | exact Lx.ua _ _ _ | rw [Lx.un _ _ (by omega)] | rw [Lx.am])))) (w.heap.size + 1) (by (repeat (first | exact Lx.ua _ _ _ | rw [Lx.un _ _ (by omega)] | rw [Lx.am])))) (w.heap.size + 1 + 1) (by (repeat (first | exact Lx.ua _ _ _ | rw [Lx.un _ _ (by omega)] | rw [Lx.am])))) (g42_1) (by (repeat (first | exact Lx.ua _ _ _ | rw [Lx.un _ _ (by omega)] | rw [Lx.am])))) (g42_2) (by (repeat (first | exact Lx.ua _ _ _ | rw [Lx.un _ _ (by omega)] | rw [Lx.am])))) (g42_3) (by (repeat (first | exact Lx.ua _ _ _ | rw [Lx.un _ _ (by omega)] | rw [Lx.am])))) (g42_4) (by (repeat (first | exact Lx.ua _ _ _ | rw [Lx.un _ _ (by omega)] | rw [Lx.am]))))
  clear hin_
  have hcs : (decide (k < 0) = true) ∨ (decide (k < 0) = false ∧ decide ((s.cases.length : Int) < k) = true) ∨ (decide (k < 0) = false ∧ decide ((s.cases.length : Int) < k) = false ∧ (k == (s.cases.length : Int)) = true ∧ s.dflt = false) := by
    by_cases h1 : k < 0
    · exact .inl (by simpa using h1)
    · by_cases h2 : (s.cases.length : Int) < k
      · exact .inr (.inl ⟨by simpa using h1, by simpa using h2⟩)
      · rcases hk with hk | hk | ⟨hk, hd⟩
        · exact absurd hk h1
        · exact absurd hk h2
        · exact .inr (.inr ⟨by simpa using h1, by simpa using h2, by simpa using hk, hd⟩)
  clear hk
  rcases hcs with hd0 | ⟨hd0, hd1⟩ | ⟨hd0, hd1, hd2, hdf⟩
  all_goals
    go_upto_region 17 with fail
    refine Lx.regionS0 (by kernel_rfl) (by kernel_rfl) HIN.out.1 HIN.out.2 (by simp only [List.size_toArray, List.length_cons, List.length_nil, Nat.reduceAdd]; rfl) (fun O Z hO hZ => ?_); have HO := Lib.hid hO; clear hO
    first
      | (apply Lx.kp HO 0; (case hx => exact ⟨rfl, rfl, rfl⟩); (case hk => decide +kernel); (case hv => intro w_ hw_; (go_simp <;> first | with_reducible rfl | exact ⟨rfl, rfl⟩)); simp only [Act.put, Lx.p1, Lx.p2, Lx.p3])
    first
      | (apply Lx.kp HO 1; (case hx => exact ⟨rfl, rfl, rfl⟩); (case hk => decide +kernel); (case hv => intro w_ hw_; (go_simp <;> first | with_reducible rfl | exact ⟨rfl, rfl⟩)); simp only [Act.put, Lx.p1, Lx.p2, Lx.p3])
    first
      | (apply Lx.kp HO 2; (case hx => exact ⟨rfl, rfl, rfl⟩); (case hk => decide +kernel); (case hv => intro w_ hw_; (go_simp <;> first | with_reducible rfl | exact ⟨rfl, rfl⟩)); simp only [Act.put, Lx.p1, Lx.p2, Lx.p3])
    first
      | (apply Lx.kk HO 3; (case hx => exact ⟨rfl, rfl⟩); (case hk => decide +kernel); simp only [Act.put, Lx.p1, Lx.p2, Lx.p3])
      | (apply Lx.kp HO 3; (case hx => exact ⟨rfl, rfl, rfl⟩); (case hk => decide +kernel); (case hv => intro w_ hw_; (go_simp <;> first | with_reducible rfl | exact ⟨rfl, rfl⟩)); simp only [Act.put, Lx.p1, Lx.p2, Lx.p3])
    first
      | (apply Lx.kk HO 4; (case hx => exact ⟨rfl, rfl⟩); (case hk => decide +kernel); simp only [Act.put, Lx.p1, Lx.p2, Lx.p3])
      | (apply Lx.kp HO 4; (case hx => exact ⟨rfl, rfl, rfl⟩); (case hk => decide +kernel); (case hv => intro w_ hw_; (go_simp <;> first | with_reducible rfl | exact ⟨rfl, rfl⟩)); simp only [Act.put, Lx.p1, Lx.p2, Lx.p3])
    first
      | (apply Lx.kk HO 5; (case hx => exact ⟨rfl, rfl⟩); (case hk => decide +kernel); simp only [Act.put, Lx.p1, Lx.p2, Lx.p3])
      | (apply Lx.kr HO 5; (case hx => exact ⟨rfl, rfl, rfl⟩); (case hk => decide +kernel); (case hv => intro w_ hw_; have P_ := hw_.holds (g42_4) _ (by (repeat (first | exact Lx.ua _ _ _ | rw [Lx.un _ _ (by omega)] | rw [Lx.am]))); have c0 := cellAt P_ 0 rfl; clear P_; (go_simp <;> first | with_reducible rfl | exact ⟨rfl, rfl⟩)); simp only [Act.put, Lx.p1, Lx.p2, Lx.p3])
    first
      | (apply Lx.kk HO 6; (case hx => exact ⟨rfl, rfl⟩); (case hk => decide +kernel); simp only [Act.put, Lx.p1, Lx.p2, Lx.p3])
      | (apply Lx.kr HO 6; (case hx => exact ⟨rfl, rfl, rfl⟩); (case hk => decide +kernel); (case hv => intro w_ hw_; skip; (go_simp <;> first | with_reducible rfl | exact ⟨rfl, rfl⟩)); simp only [Act.put, Lx.p1, Lx.p2, Lx.p3])
    first
      | (apply Lx.kk HO 7; (case hx => exact ⟨rfl, rfl⟩); (case hk => decide +kernel); simp only [Act.put, Lx.p1, Lx.p2, Lx.p3])
      | (apply Lx.kp HO 7; (case hx => exact ⟨rfl, rfl, rfl⟩); (case hk => decide +kernel); (case hv => intro w_ hw_; (go_simp <;> first | with_reducible rfl | exact ⟨rfl, rfl⟩)); simp only [Act.put, Lx.p1, Lx.p2, Lx.p3])
    first
      | (apply Lx.kp HO 8; (case hx => exact ⟨rfl, rfl, rfl⟩); (case hk => decide +kernel); (case hv => intro w_ hw_; (go_simp <;> first | with_reducible rfl | exact ⟨rfl, rfl⟩)); simp only [Act.put, Lx.p1, Lx.p2, Lx.p3])
    first
      | (apply Lx.kp HO 9; (case hx => exact ⟨rfl, rfl, rfl⟩); (case hk => decide +kernel); (case hv => intro w_ hw_; (go_simp <;> first | with_reducible rfl | exact ⟨rfl, rfl⟩)); simp only [Act.put, Lx.p1, Lx.p2, Lx.p3])
    first
      | (apply Lx.kk HO 10; (case hx => exact ⟨rfl, rfl⟩); (case hk => decide +kernel); simp only [Act.put, Lx.p1, Lx.p2, Lx.p3])
      | (apply Lx.kp HO 10; (case hx => exact ⟨rfl, rfl, rfl⟩); (case hk => decide +kernel); (case hv => intro w_ hw_; (go_simp <;> first | with_reducible rfl | exact ⟨rfl, rfl⟩)); simp only [Act.put, Lx.p1, Lx.p2, Lx.p3])
    first
      | (apply Lx.kk HO 11; (case hx => exact ⟨rfl, rfl⟩); (case hk => decide +kernel); simp only [Act.put, Lx.p1, Lx.p2, Lx.p3])
      | (apply Lx.kp HO 11; (case hx => exact ⟨rfl, rfl, rfl⟩); (case hk => decide +kernel); (case hv => intro w_ hw_; (go_simp <;> first | with_reducible rfl | exact ⟨rfl, rfl⟩)); simp only [Act.put, Lx.p1, Lx.p2, Lx.p3])
    first
      | (apply Lx.kk HO 12; (case hx => exact ⟨rfl, rfl⟩); (case hk => decide +kernel); simp only [Act.put, Lx.p1, Lx.p2, Lx.p3])
      | (apply Lx.kr HO 12; (case hx => exact ⟨rfl, rfl, rfl⟩); (case hk => decide +kernel); (case hv => intro w_ hw_; have P_ := hw_.holds (g42_4) _ (by (repeat (first | exact Lx.ua _ _ _ | rw [Lx.un _ _ (by omega)] | rw [Lx.am]))); have c0 := cellAt P_ 0 rfl; clear P_; (go_simp <;> first | with_reducible rfl | exact ⟨rfl, rfl⟩)); simp only [Act.put, Lx.p1, Lx.p2, Lx.p3])
    first
      | (apply Lx.kk HO 13; (case hx => exact ⟨rfl, rfl⟩); (case hk => decide +kernel); simp only [Act.put, Lx.p1, Lx.p2, Lx.p3])
      | (apply Lx.kr HO 13; (case hx => exact ⟨rfl, rfl, rfl⟩); (case hk => decide +kernel); (case hv => intro w_ hw_; skip; (go_simp <;> first | with_reducible rfl | exact ⟨rfl, rfl⟩)); simp only [Act.put, Lx.p1, Lx.p2, Lx.p3])
    first
      | (apply Lx.kk HO 14; (case hx => exact ⟨rfl, rfl⟩); (case hk => decide +kernel); simp only [Act.put, Lx.p1, Lx.p2, Lx.p3])
      | (apply Lx.kp HO 14; (case hx => exact ⟨rfl, rfl, rfl⟩); (case hk => decide +kernel); (case hv => intro w_ hw_; (go_simp <;> first | with_reducible rfl | exact ⟨rfl, rfl⟩)); simp only [Act.put, Lx.p1, Lx.p2, Lx.p3])
    first
      | (apply Lx.kk HO 15; (case hx => exact ⟨rfl, rfl⟩); (case hk => decide +kernel); simp only [Act.put, Lx.p1, Lx.p2, Lx.p3])
      | (apply Lx.kp HO 15; (case hx => exact ⟨rfl, rfl, rfl⟩); (case hk => decide +kernel); (case hv => intro w_ hw_; (go_simp <;> first | with_reducible rfl | exact ⟨rfl, rfl⟩)); simp only [Act.put, Lx.p1, Lx.p2, Lx.p3])
    first
      | (apply Lx.kk HO 16; (case hx => exact ⟨rfl, rfl⟩); (case hk => decide +kernel); simp only [Act.put, Lx.p1, Lx.p2, Lx.p3])
      | (apply Lx.kp HO 16; (case hx => exact ⟨rfl, rfl, rfl⟩); (case hk => decide +kernel); (case hv => intro w_ hw_; (go_simp <;> first | with_reducible rfl | exact ⟨rfl, rfl⟩)); simp only [Act.put, Lx.p1, Lx.p2, Lx.p3])
    first
      | (apply Lx.kk HO 17; (case hx => exact ⟨rfl, rfl⟩); (case hk => decide +kernel); simp only [Act.put, Lx.p1, Lx.p2, Lx.p3])
      | (apply Lx.kr HO 17; (case hx => exact ⟨rfl, rfl, rfl⟩); (case hk => decide +kernel); (case hv => intro w_ hw_; have P_ := hw_.holds (g42_4) _ (by (repeat (first | exact Lx.ua _ _ _ | rw [Lx.un _ _ (by omega)] | rw [Lx.am]))); have c1 := cellAt P_ 1 rfl; clear P_; (go_simp <;> first | with_reducible rfl | exact ⟨rfl, rfl⟩)); simp only [Act.put, Lx.p1, Lx.p2, Lx.p3])
    first
      | (apply Lx.kk HO 18; (case hx => exact ⟨rfl, rfl⟩); (case hk => decide +kernel); simp only [Act.put, Lx.p1, Lx.p2, Lx.p3])
      | (apply Lx.kp HO 18; (case hx => exact ⟨rfl, rfl, rfl⟩); (case hk => decide +kernel); (case hv => intro w_ hw_; (go_simp <;> first | with_reducible rfl | exact ⟨rfl, rfl⟩)); simp only [Act.put, Lx.p1, Lx.p2, Lx.p3])
    first
      | (apply Lx.kk HO 19; (case hx => exact ⟨rfl, rfl⟩); (case hk => decide +kernel); simp only [Act.put, Lx.p1, Lx.p2, Lx.p3])
      | (apply Lx.kp HO 19; (case hx => exact ⟨rfl, rfl, rfl⟩); (case hk => decide +kernel); (case hv => intro w_ hw_; (go_simp <;> first | with_reducible rfl | exact ⟨rfl, rfl⟩)); simp only [Act.put, Lx.p1, Lx.p2, Lx.p3])
    first
      | (apply Lx.kp HO 20; (case hx => exact ⟨rfl, rfl, rfl⟩); (case hk => decide +kernel); (case hv => intro w_ hw_; (go_simp <;> first | with_reducible rfl | exact ⟨rfl, rfl⟩)); simp only [Act.put, Lx.p1, Lx.p2, Lx.p3])
    refine Lx.kd HO (by kernel_rfl) (fun hiv2 => hZ _ _ (fun W9 hw2 => ?_))
    clear hZ Z HO O
    have hin_ := Lib.hid (And.intro hw2 hiv2 : Lx.II _ _ _ _)
    clear hw2 hiv2
    replace HIN := Lib.hid (Lx.tk hin_.out (Lx.tk hin_.out (Lx.tk hin_.out (Lx.tk hin_.out (Lx.tk hin_.out (Lx.tk hin_.out (Lx.tk hin_.out (Lx.II.nil hin_.out.1.below) (w.heap.size) (by (repeat (first | exact Lx.ua _ _ _ | rw [Lx.un _ _ (by omega)] | rw [Lx.am])))) (w.heap.size + 1) (by (repeat (first | exact Lx.ua _ _ _ | rw [Lx.un _ _ (by omega)] | rw [Lx.am])))) (w.heap.size + 1 + 1) (by (repeat (first | exact Lx.ua _ _ _ | rw [Lx.un _ _ (by omega)] | rw [Lx.am])))) (g42_1) (by (repeat (first | exact Lx.ua _ _ _ | rw [Lx.un _ _ (by omega)] | rw [Lx.am])))) (g42_2) (by (repeat (first | exact Lx.ua _ _ _ | rw [Lx.un _ _ (by omega)] | rw [Lx.am])))) (g42_3) (by (repeat (first | exact Lx.ua _ _ _ | rw [Lx.un _ _ (by omega)] | rw [Lx.am])))) (g42_4) (by (repeat (first | exact Lx.ua _ _ _ | rw [Lx.un _ _ (by omega)] | rw [Lx.am]))))
    clear hin_
    go_upto_region 18 with fail
    refine Lx.regionS0 (by kernel_rfl) (by kernel_rfl) HIN.out.1 HIN.out.2 (by simp only [List.size_toArray, List.length_cons, List.length_nil, Nat.reduceAdd]; rfl) (fun O Z hO hZ => ?_); have HO := Lib.hid hO; clear hO
    first
      | (apply Lx.kp HO 0; (case hx => exact ⟨rfl, rfl, rfl⟩); (case hk => decide +kernel); (case hv => intro w_ hw_; (go_simp <;> first | with_reducible rfl | exact ⟨rfl, rfl⟩)); simp only [Act.put, Lx.p1, Lx.p2, Lx.p3])
    first
      | (apply Lx.ks HO 1 (g := w.heap.size + 1 + 1); (case hx => exact ⟨rfl, rfl, rfl⟩); (case hk => decide +kernel); (case hG => exact fun _ _ h_ _ => h_); (case hg => (repeat (first | exact Lx.ua _ _ _ | rw [Lx.un _ _ (by omega)] | rw [Lx.am]))); (case hrun => intro w_ hw_ hb_; obtain ⟨c0, c1, c2, c3, c4, c5, c6, c7, c8, c9⟩ := Lx.cells10 hb_; obtain ⟨d0, d1, d2, d3, d4, d5, d6, d7, d8, d9⟩ := Lx.froz10 hb_; refine ⟨?_, ?_, ?_, ?_⟩; rotate_left; (next => (go_simp <;> first | with_reducible rfl | rfl)); (next => (repeat (first | (with_reducible exact Lx.OnlyAt.refl _ _) | (with_reducible refine Lx.OnlyAt.set ?_ _ _)))); (next => (simp [World.setCell, Array.getElem?_modify, hb_] <;> rfl))); simp only [Act.put, Lx.p1, Lx.p2, Lx.p3])
    first
      | (apply Lx.kp HO 2; (case hx => exact ⟨rfl, rfl, rfl⟩); (case hk => decide +kernel); (case hv => intro w_ hw_; (go_simp <;> first | with_reducible rfl | exact ⟨rfl, rfl⟩)); simp only [Act.put, Lx.p1, Lx.p2, Lx.p3])
    refine Lx.kd HO (by kernel_rfl) (fun hiv2 => hZ _ _ (fun W10 hw2 => ?_))
    clear hZ Z HO O
    have hin_ := Lib.hid (And.intro hw2 hiv2 : Lx.II _ _ _ _)
    clear hw2 hiv2
    replace HIN := Lib.hid (Lx.tk hin_.out (Lx.tk hin_.out (Lx.tk hin_.out (Lx.tk hin_.out (Lx.tk hin_.out (Lx.tk hin_.out (Lx.tk hin_.out (Lx.II.nil hin_.out.1.below) (w.heap.size) (by (repeat (first | exact Lx.ua _ _ _ | rw [Lx.un _ _ (by omega)] | rw [Lx.am])))) (w.heap.size + 1) (by (repeat (first | exact Lx.ua _ _ _ | rw [Lx.un _ _ (by omega)] | rw [Lx.am])))) (w.heap.size + 1 + 1) (by (repeat (first | exact Lx.ua _ _ _ | rw [Lx.un _ _ (by omega)] | rw [Lx.am])))) (g42_1) (by (repeat (first | exact Lx.ua _ _ _ | rw [Lx.un _ _ (by omega)] | rw [Lx.am])))) (g42_2) (by (repeat (first | exact Lx.ua _ _ _ | rw [Lx.un _ _ (by omega)] | rw [Lx.am])))) (g42_3) (by (repeat (first | exact Lx.ua _ _ _ | rw [Lx.un _ _ (by omega)] | rw [Lx.am])))) (g42_4) (by (repeat (first | exact Lx.ua _ _ _ | rw [Lx.un _ _ (by omega)] | rw [Lx.am]))))
    clear hin_
    have P_ := HIN.out.1.holds (w.heap.size + 1 + 1) _ (by (repeat (first | exact Lx.ua _ _ _ | rw [Lx.un _ _ (by omega)] | rw [Lx.am])))
    obtain ⟨r0_0, r0_1, r0_2, r0_3, r0_4, r0_5, r0_6, r0_7, r0_8, r0_9⟩ := Lx.cells10 P_
    clear P_
    go_wp2
    refine Lx.ret_of (by simp [results, Try.results42, go_sem, r0_0, r0_1, r0_2, r0_3, r0_4, r0_5, r0_6, r0_7, r0_8, r0_9] <;> (repeat' (first | rfl | apply And.intro))) rfl ⟨rfl, HIN.out.1.below⟩
set_option maxHeartbeats 4000000 in
theorem rdone_sel_dflt {c1 c2 c3 : Value} {P : ProgV} {w : World} (h : RProg w c1 c2 c3 P) (hs : saneP P = true) (f : FrameV) (hf : f.wf) (k val : Int) (ok : Bool) (hat : atB P f.code f.pc = true) (ho : (atX P f.code f.pc).op = 8) (n : Nat) (hxk : (atX P f.code f.pc).k = n) (hn : n < P.sites.length) (hk : k = (P.sites[n]).cases.length) (hd : (P.sites[n]).dflt = true) :
    Calls Try.prog 42 #[.agg #[c1, c2, c3], f.agg, .int .i64 k, .int .i64 val, .bool ok] w fun e w' => e = .returned (.tuple #[(doneF P f k val ok).1.agg, .int .i64 (doneF P f k val ok).2]) ∧ Below w.heap.size w w' := by
  have HP0 := Lib.hid h
  have hmay := fun (W : World) (h : RProg W c1 c2 c3 P) => rMay_any h f
  rw [hat] at hmay
  have hat0 := fun (W : World) (h : RProg W c1 c2 c3 P) => rAt_any h f hat
  obtain ⟨hra, hrb, hnx, hkk⟩ := sane_at hs hat
  obtain ⟨q1, q2, l, q3, q4⟩ := atB_iff.1 hat
  have hlen := (code_ok (sane_parts hs).2.2.1 (List.mem_of_getElem? q3)).1.2
  have hpc : 0 ≤ f.pc ∧ f.pc < 100 := ⟨q2, by omega⟩
  clear q1 q2 q3 q4 hlen l hnx hkk
  have hR : doneF P f k val ok = chosenF P.sites[n] f (atX P f.code f.pc) k val ok := by
    unfold doneF; rw [if_pos hat]; simp only; rw [if_neg (by rw [ho]; decide), if_pos ho]
    have : siteOf P (atX P f.code f.pc) = P.sites[n] := by unfold siteOf; rw [hxk]; simp [List.getD_eq_getElem?_getD, List.getElem?_eq_getElem hn]
    rw [this]
  rw [hR]
  clear hR
  obtain ⟨⟨xo, xa, xb, xc, xk⟩, hx⟩ : ∃ x, atX P f.code f.pc = x := ⟨_, rfl⟩
  rw [hx] at hra hrb ho hxk
  simp only [hx] at hat0 ⊢
  clear hx hat
  simp only at hra hrb ho hxk
  subst ho hxk
  obtain ⟨nb, rfl⟩ := Int.eq_ofNat_of_zero_le (regI_of hrb).1
  have nb8 : nb < 8 := by have := (regI_of hrb).2; omega
  have nba : (0 : Int) ≤ (nb : Int) := by omega
  have nbb : (nb : Int) < 8 := by omega
  clear hra hrb
  have hSite := HP0.out.sites
  obtain ⟨A1, n1, rfl, _, _, hl1⟩ := h.caps.val
  obtain ⟨A2, n2, rfl, _, _, hl2⟩ := h.codes.val
  obtain ⟨A3, n3, rfl, _, _, hl3⟩ := h.sites.val
  obtain ⟨b, o, A4, c4, rfl, hb, gs0, gs1, gs2, _, _, hl4⟩ := kSite_at h.sites hn
  have e1 : (0 : Int) ≤ (n : Int) := by omega
  have e2 : (n : Int) < P.sites.length := by omega
  clear hSite
  try have hsc := sane_case (m := m) hs hn
  generalize P.sites[n] = s at *
  have hR : chosenF s f ⟨8, xa, (nb : Int), xc, (n : Int)⟩ k val ok = (⟨f.code, f.pc + 1, f.r.set nb k⟩, 0) := by
    unfold chosenF
    rw [if_neg (by rw [hd]; simp; omega)]
    simp [hk]
  rw [hR]
  clear hR
  subst hk
  clear h hs
  simp only [FrameV.agg, FrameV.cells, InsV.agg] at hmay hat0
  have HMAY := Lib.hid hmay
  have HAT0 := Lib.hid hat0
  clear hat0
  clear hmay
  try clear h
  unfold FrameV.agg FrameV.cells
  go_enter Try.func42, Try.ntmps42
  go_upto_region 1 with fail
  refine Lx.start3 (fun W1 hII => ?_)
  have HIN := Lib.hid hII
  clear hII
  go_upto_region 1 with fail
  refine Lx.regionS0 (by kernel_rfl) (by kernel_rfl) HIN.out.1 HIN.out.2 (by simp only [List.size_toArray, List.length_cons, List.length_nil, Nat.reduceAdd]; rfl) (fun O Z hO hZ => ?_); have HO := Lib.hid hO; clear hO
  first
    | (apply Lx.kr HO 0; (case hx => exact ⟨rfl, rfl, rfl⟩); (case hk => decide +kernel); (case hv => intro w_ hw_; have P_ := hw_.holds (w.heap.size) _ (by (repeat (first | exact Lx.ua _ _ _ | rw [Lx.un _ _ (by omega)] | rw [Lx.am]))); obtain ⟨c0, c1, c2⟩ := Lx.cells3 P_; clear P_; (go_simp <;> first | with_reducible rfl | exact ⟨rfl, rfl⟩)); simp only [Act.put, Lx.p1, Lx.p2, Lx.p3])
  first
    | (apply Lx.kr HO 1; (case hx => exact ⟨rfl, rfl, rfl⟩); (case hk => decide +kernel); (case hv => intro w_ hw_; have P_ := hw_.holds (w.heap.size + 1) _ (by (repeat (first | exact Lx.ua _ _ _ | rw [Lx.un _ _ (by omega)] | rw [Lx.am]))); obtain ⟨c0, c1, c2, c3, c4, c5, c6, c7, c8, c9⟩ := Lx.cells10 P_; clear P_; (go_simp <;> first | with_reducible rfl | exact ⟨rfl, rfl⟩)); simp only [Act.put, Lx.p1, Lx.p2, Lx.p3])
  first
    | (apply Lx.kc HO 2; (case hx => exact ⟨rfl, rfl, rfl⟩); (case hk => decide +kernel); (case hrun => intro w_; (go_simp <;> first | with_reducible rfl | exact ⟨rfl, rfl⟩)); (case hc => intro w_ hw_; with_reducible exact HMAY.out _ (HP0.out.keep hw_.below)); simp only [Act.put, Lx.p1, Lx.p2, Lx.p3])
  first
    | (apply Lx.kp HO 3; (case hx => exact ⟨rfl, rfl, rfl⟩); (case hk => decide +kernel); (case hv => intro w_ hw_; (go_simp <;> first | with_reducible rfl | exact ⟨rfl, rfl⟩)); simp only [Act.put, Lx.p1, Lx.p2, Lx.p3])
  refine Lx.kd HO (by kernel_rfl) (fun hiv2 => hZ _ _ (fun W2 hw2 => ?_))
  clear hZ Z HO O
  have hin_ := Lib.hid (And.intro hw2 hiv2 : Lx.II _ _ _ _)
  clear hw2 hiv2
  replace HIN := Lib.hid (Lx.tk hin_.out (Lx.tk hin_.out (Lx.tk hin_.out (Lx.II.nil hin_.out.1.below) (w.heap.size) (by (repeat (first | exact Lx.ua _ _ _ | rw [Lx.un _ _ (by omega)] | rw [Lx.am])))) (w.heap.size + 1) (by (repeat (first | exact Lx.ua _ _ _ | rw [Lx.un _ _ (by omega)] | rw [Lx.am])))) (w.heap.size + 1 + 1) (by (repeat (first | exact Lx.ua _ _ _ | rw [Lx.un _ _ (by omega)] | rw [Lx.am]))))
  clear hin_
  go_upto_region 3 with fail
  refine Lx.regionS0 (by kernel_rfl) (by kernel_rfl) HIN.out.1 HIN.out.2 (by simp only [List.size_toArray, List.length_cons, List.length_nil, Nat.reduceAdd]; rfl) (fun O Z hO hZ => ?_); have HO := Lib.hid hO; clear hO
  first
    | (apply Lx.kr HO 0; (case hx => exact ⟨rfl, rfl, rfl⟩); (case hk => decide +kernel); (case hv => intro w_ hw_; have P_ := hw_.holds (w.heap.size) _ (by (repeat (first | exact Lx.ua _ _ _ | rw [Lx.un _ _ (by omega)] | rw [Lx.am]))); obtain ⟨c0, c1, c2⟩ := Lx.cells3 P_; clear P_; (go_simp <;> first | with_reducible rfl | exact ⟨rfl, rfl⟩)); simp only [Act.put, Lx.p1, Lx.p2, Lx.p3])
  first
    | (apply Lx.kr HO 1; (case hx => exact ⟨rfl, rfl, rfl⟩); (case hk => decide +kernel); (case hv => intro w_ hw_; have P_ := hw_.holds (w.heap.size + 1) _ (by (repeat (first | exact Lx.ua _ _ _ | rw [Lx.un _ _ (by omega)] | rw [Lx.am]))); obtain ⟨c0, c1, c2, c3, c4, c5, c6, c7, c8, c9⟩ := Lx.cells10 P_; clear P_; (go_simp <;> first | with_reducible rfl | exact ⟨rfl, rfl⟩)); simp only [Act.put, Lx.p1, Lx.p2, Lx.p3])
  first
    | (apply Lx.kc HO 2; (case hx => exact ⟨rfl, rfl, rfl⟩); (case hk => decide +kernel); (case hrun => intro w_; (go_simp <;> first | with_reducible rfl | exact ⟨rfl, rfl⟩)); (case hc => intro w_ hw_; with_reducible exact HAT0.out _ (HP0.out.keep hw_.below)); simp only [Act.put, Lx.p1, Lx.p2, Lx.p3])
  first
    | (apply Lx.ka HO 3; (case hx => exact ⟨rfl, rfl, rfl⟩); (case hk => decide +kernel); (case hrun => intro w_; (go_simp <;> first | with_reducible rfl | exact ⟨rfl, rfl⟩)); simp only [Act.put, Lx.p1, Lx.p2, Lx.p3])
  intro g42_1 hg_ hfr
  (repeat (first | (rw [Lx.St.add_M] at hfr) | (replace hfr := Lx.St.fresh_upd hfr; have n_ := hfr.1; replace hfr := hfr.2))); clear hfr
  first
    | (apply Lx.ks HO 4 (g := g42_1); (case hx => exact ⟨rfl, rfl, rfl⟩); (case hk => decide +kernel); (case hG => exact fun _ _ h_ _ => h_); (case hg => (repeat (first | exact Lx.ua _ _ _ | rw [Lx.un _ _ (by omega)] | rw [Lx.am]))); (case hrun => intro w_ hw_ hb_; obtain ⟨c0, c1, c2, c3, c4⟩ := Lx.cells5 hb_; obtain ⟨d0, d1, d2, d3, d4⟩ := Lx.froz5 hb_; refine ⟨?_, ?_, ?_, ?_⟩; rotate_left; (next => (go_simp <;> first | with_reducible rfl | rfl)); (next => (repeat (first | (with_reducible exact Lx.OnlyAt.refl _ _) | (with_reducible refine Lx.OnlyAt.set ?_ _ _)))); (next => (simp [World.setCell, Array.getElem?_modify, hb_] <;> rfl))); simp only [Act.put, Lx.p1, Lx.p2, Lx.p3])
  refine Lx.kd HO (by kernel_rfl) (fun hiv2 => hZ _ _ (fun W3 hw2 => ?_))
  clear hZ Z HO O
  have hin_ := Lib.hid (And.intro hw2 hiv2 : Lx.II _ _ _ _)
  clear hw2 hiv2
  replace HIN := Lib.hid (Lx.tk hin_.out (Lx.tk hin_.out (Lx.tk hin_.out (Lx.tk hin_.out (Lx.II.nil hin_.out.1.below) (w.heap.size) (by (repeat (first | exact Lx.ua _ _ _ | rw [Lx.un _ _ (by omega)] | rw [Lx.am])))) (w.heap.size + 1) (by (repeat (first | exact Lx.ua _ _ _ | rw [Lx.un _ _ (by omega)] | rw [Lx.am])))) (w.heap.size + 1 + 1) (by (repeat (first | exact Lx.ua _ _ _ | rw [Lx.un _ _ (by omega)] | rw [Lx.am])))) (g42_1) (by (repeat (first | exact Lx.ua _ _ _ | rw [Lx.un _ _ (by omega)] | rw [Lx.am]))))
  clear hin_
  go_upto_region 4 with fail
  refine Lx.regionS0 (by kernel_rfl) (by kernel_rfl) HIN.out.1 HIN.out.2 (by simp only [List.size_toArray, List.length_cons, List.length_nil, Nat.reduceAdd]; rfl) (fun O Z hO hZ => ?_); have HO := Lib.hid hO; clear hO
  first
    | (apply Lx.kp HO 0; (case hx => exact ⟨rfl, rfl, rfl⟩); (case hk => decide +kernel); (case hv => intro w_ hw_; (go_simp <;> first | with_reducible rfl | exact ⟨rfl, rfl⟩)); simp only [Act.put, Lx.p1, Lx.p2, Lx.p3])
  first
    | (apply Lx.kr HO 1; (case hx => exact ⟨rfl, rfl, rfl⟩); (case hk => decide +kernel); (case hv => intro w_ hw_; have P_ := hw_.holds (g42_1) _ (by (repeat (first | exact Lx.ua _ _ _ | rw [Lx.un _ _ (by omega)] | rw [Lx.am]))); have c0 := cellAt P_ 0 rfl; clear P_; (go_simp <;> first | with_reducible rfl | exact ⟨rfl, rfl⟩)); simp only [Act.put, Lx.p1, Lx.p2, Lx.p3])
  first
    | (apply Lx.kc HO 2; (case hx => exact ⟨rfl, rfl, rfl⟩); (case hk => decide +kernel); (case hrun => intro w_; (go_simp <;> first | with_reducible rfl | exact ⟨rfl, rfl⟩)); (case hc => intro w_ hw_; exact rlocal_b rfl _); simp only [Act.put, Lx.p1, Lx.p2, Lx.p3])
  refine Lx.kd HO (by kernel_rfl) (fun hiv2 => hZ _ _ (fun W4 hw2 => ?_))
  clear hZ Z HO O
  have hin_ := Lib.hid (And.intro hw2 hiv2 : Lx.II _ _ _ _)
  clear hw2 hiv2
  replace HIN := Lib.hid (Lx.tk hin_.out (Lx.tk hin_.out (Lx.tk hin_.out (Lx.tk hin_.out (Lx.II.nil hin_.out.1.below) (w.heap.size) (by (repeat (first | exact Lx.ua _ _ _ | rw [Lx.un _ _ (by omega)] | rw [Lx.am])))) (w.heap.size + 1) (by (repeat (first | exact Lx.ua _ _ _ | rw [Lx.un _ _ (by omega)] | rw [Lx.am])))) (w.heap.size + 1 + 1) (by (repeat (first | exact Lx.ua _ _ _ | rw [Lx.un _ _ (by omega)] | rw [Lx.am])))) (g42_1) (by (repeat (first | exact Lx.ua _ _ _ | rw [Lx.un _ _ (by omega)] | rw [Lx.am]))))
  clear hin_
  go_upto_region 6 with fail
  refine Lx.regionS0 (by kernel_rfl) (by kernel_rfl) HIN.out.1 HIN.out.2 (by simp only [List.size_toArray, List.length_cons, List.length_nil, Nat.reduceAdd]; rfl) (fun O Z hO hZ => ?_); have HO := Lib.hid hO; clear hO
  first
    | (apply Lx.kp HO 0; (case hx => exact ⟨rfl, rfl, rfl⟩); (case hk => decide +kernel); (case hv => intro w_ hw_; (go_simp <;> first | with_reducible rfl | exact ⟨rfl, rfl⟩)); simp only [Act.put, Lx.p1, Lx.p2, Lx.p3])
  first
    | (apply Lx.kr HO 1; (case hx => exact ⟨rfl, rfl, rfl⟩); (case hk => decide +kernel); (case hv => intro w_ hw_; have P_ := hw_.holds (w.heap.size + 1) _ (by (repeat (first | exact Lx.ua _ _ _ | rw [Lx.un _ _ (by omega)] | rw [Lx.am]))); have c2 := cellAt P_ 2 rfl; have c3 := cellAt P_ 3 rfl; have c4 := cellAt P_ 4 rfl; have c5 := cellAt P_ 5 rfl; have c6 := cellAt P_ 6 rfl; have c7 := cellAt P_ 7 rfl; have c8 := cellAt P_ 8 rfl; have c9 := cellAt P_ 9 rfl; clear P_; (go_simp <;> first | with_reducible rfl | exact ⟨rfl, rfl⟩)); simp only [Act.put, Lx.p1, Lx.p2, Lx.p3])
  first
    | (apply Lx.ka HO 2; (case hx => exact ⟨rfl, rfl, rfl⟩); (case hk => decide +kernel); (case hrun => intro w_; (go_simp <;> first | with_reducible rfl | exact ⟨rfl, rfl⟩)); simp only [Act.put, Lx.p1, Lx.p2, Lx.p3])
  intro g42_2 hg_ hfr
  (repeat (first | (rw [Lx.St.add_M] at hfr) | (replace hfr := Lx.St.fresh_upd hfr; have n_ := hfr.1; replace hfr := hfr.2))); clear hfr
  first
    | (apply Lx.ks HO 3 (g := g42_2); (case hx => exact ⟨rfl, rfl, rfl⟩); (case hk => decide +kernel); (case hG => exact fun _ _ h_ _ => h_); (case hg => (repeat (first | exact Lx.ua _ _ _ | rw [Lx.un _ _ (by omega)] | rw [Lx.am]))); (case hrun => intro w_ hw_ hb_; obtain ⟨c0, c1, c2, c3, c4, c5, c6, c7⟩ := Lx.cells8 hb_; obtain ⟨d0, d1, d2, d3, d4, d5, d6, d7⟩ := Lx.froz8 hb_; refine ⟨?_, ?_, ?_, ?_⟩; rotate_left; (next => (go_simp <;> first | with_reducible rfl | rfl)); (next => (repeat (first | (with_reducible exact Lx.OnlyAt.refl _ _) | (with_reducible refine Lx.OnlyAt.set ?_ _ _)))); (next => (simp [World.setCell, Array.getElem?_modify, hb_] <;> rfl))); simp only [Act.put, Lx.p1, Lx.p2, Lx.p3])
  refine Lx.kd HO (by kernel_rfl) (fun hiv2 => hZ _ _ (fun W5 hw2 => ?_))
  clear hZ Z HO O
  have hin_ := Lib.hid (And.intro hw2 hiv2 : Lx.II _ _ _ _)
  clear hw2 hiv2
  replace HIN := Lib.hid (Lx.tk hin_.out (Lx.tk hin_.out (Lx.tk hin_.out (Lx.tk hin_.out (Lx.tk hin_.out (Lx.II.nil hin_.out.1.below) (w.heap.size) (by (repeat (first | exact Lx.ua _ _ _ | rw [Lx.un _ _ (by omega)] | rw [Lx.am])))) (w.heap.size + 1) (by (repeat (first | exact Lx.ua _ _ _ | rw [Lx.un _ _ (by omega)] | rw [Lx.am])))) (w.heap.size + 1 + 1) (by (repeat (first | exact Lx.ua _ _ _ | rw [Lx.un _ _ (by omega)] | rw [Lx.am])))) (g42_1) (by (repeat (first | exact Lx.ua _ _ _ | rw [Lx.un _ _ (by omega)] | rw [Lx.am])))) (g42_2) (by (repeat (first | exact Lx.ua _ _ _ | rw [Lx.un _ _ (by omega)] | rw [Lx.am]))))
  clear hin_
  have m1 : IntKind.i64.wrap (f.pc + 1) = f.pc + 1 := IntWalk.i64_in _ (by omega)
  go_upto_region 7 with fail
  refine Lx.regionS0 (by kernel_rfl) (by kernel_rfl) HIN.out.1 HIN.out.2 (by simp only [List.size_toArray, List.length_cons, List.length_nil, Nat.reduceAdd]; rfl) (fun O Z hO hZ => ?_); have HO := Lib.hid hO; clear hO
  first
    | (apply Lx.kp HO 0; (case hx => exact ⟨rfl, rfl, rfl⟩); (case hk => decide +kernel); (case hv => intro w_ hw_; (go_simp <;> first | with_reducible rfl | exact ⟨rfl, rfl⟩)); simp only [Act.put, Lx.p1, Lx.p2, Lx.p3])
  first
    | (apply Lx.kr HO 1; (case hx => exact ⟨rfl, rfl, rfl⟩); (case hk => decide +kernel); (case hv => intro w_ hw_; have P_ := hw_.holds (w.heap.size + 1) _ (by (repeat (first | exact Lx.ua _ _ _ | rw [Lx.un _ _ (by omega)] | rw [Lx.am]))); have c0 := cellAt P_ 0 rfl; clear P_; (go_simp <;> first | with_reducible rfl | exact ⟨rfl, rfl⟩)); simp only [Act.put, Lx.p1, Lx.p2, Lx.p3])
  first
    | (apply Lx.kp HO 2; (case hx => exact ⟨rfl, rfl, rfl⟩); (case hk => decide +kernel); (case hv => intro w_ hw_; (go_simp <;> first | with_reducible rfl | exact ⟨rfl, rfl⟩)); simp only [Act.put, Lx.p1, Lx.p2, Lx.p3])
  first
    | (apply Lx.kr HO 3; (case hx => exact ⟨rfl, rfl, rfl⟩); (case hk => decide +kernel); (case hv => intro w_ hw_; have P_ := hw_.holds (w.heap.size + 1) _ (by (repeat (first | exact Lx.ua _ _ _ | rw [Lx.un _ _ (by omega)] | rw [Lx.am]))); have c1 := cellAt P_ 1 rfl; clear P_; (go_simp <;> first | with_reducible rfl | exact ⟨rfl, rfl⟩)); simp only [Act.put, Lx.p1, Lx.p2, Lx.p3])
  first
    | (apply Lx.kp HO 4; (case hx => exact ⟨rfl, rfl, rfl⟩); (case hk => decide +kernel); (case hv => intro w_ hw_; (go_simp <;> first | with_reducible rfl | exact ⟨rfl, rfl⟩)); simp only [Act.put, Lx.p1, Lx.p2, Lx.p3])
  first
    | (apply Lx.kr HO 5; (case hx => exact ⟨rfl, rfl, rfl⟩); (case hk => decide +kernel); (case hv => intro w_ hw_; have P_ := hw_.holds (g42_2) _ (by (repeat (first | exact Lx.ua _ _ _ | rw [Lx.un _ _ (by omega)] | rw [Lx.am]))); obtain ⟨c0, c1, c2, c3, c4, c5, c6, c7⟩ := Lx.cells8 P_; clear P_; (go_simp <;> first | with_reducible rfl | exact ⟨rfl, rfl⟩)); simp only [Act.put, Lx.p1, Lx.p2, Lx.p3])
  first
    | (apply Lx.kp HO 6; (case hx => exact ⟨rfl, rfl, rfl⟩); (case hk => decide +kernel); (case hv => intro w_ hw_; (go_simp <;> first | with_reducible rfl | exact ⟨rfl, rfl⟩)); simp only [Act.put, Lx.p1, Lx.p2, Lx.p3])
  first
    | (apply Lx.ka HO 7; (case hx => exact ⟨rfl, rfl, rfl⟩); (case hk => decide +kernel); (case hrun => intro w_; (go_simp <;> first | with_reducible rfl | exact ⟨rfl, rfl⟩)); simp only [Act.put, Lx.p1, Lx.p2, Lx.p3])
  intro g42_3 hg_ hfr
  (repeat (first | (rw [Lx.St.add_M] at hfr) | (replace hfr := Lx.St.fresh_upd hfr; have n_ := hfr.1; replace hfr := hfr.2))); clear hfr
  first
    | (apply Lx.ks HO 8 (g := g42_3); (case hx => exact ⟨rfl, rfl, rfl⟩); (case hk => decide +kernel); (case hG => exact fun _ _ h_ _ => h_); (case hg => (repeat (first | exact Lx.ua _ _ _ | rw [Lx.un _ _ (by omega)] | rw [Lx.am]))); (case hrun => intro w_ hw_ hb_; obtain ⟨c0, c1, c2, c3, c4, c5, c6, c7, c8, c9⟩ := Lx.cells10 hb_; obtain ⟨d0, d1, d2, d3, d4, d5, d6, d7, d8, d9⟩ := Lx.froz10 hb_; refine ⟨?_, ?_, ?_, ?_⟩; rotate_left; (next => (go_simp <;> first | with_reducible rfl | rfl)); (next => (repeat (first | (with_reducible exact Lx.OnlyAt.refl _ _) | (with_reducible refine Lx.OnlyAt.set ?_ _ _)))); (next => (simp [World.setCell, Array.getElem?_modify, hb_] <;> rfl))); simp only [Act.put, Lx.p1, Lx.p2, Lx.p3])
  refine Lx.kd HO (by kernel_rfl) (fun hiv2 => hZ _ _ (fun W6 hw2 => ?_))
  clear hZ Z HO O
  have hin_ := Lib.hid (And.intro hw2 hiv2 : Lx.II _ _ _ _)
  clear hw2 hiv2
  replace HIN := Lib.hid (Lx.tk hin_.out (Lx.tk hin_.out (Lx.tk hin_.out (Lx.tk hin_.out (Lx.tk hin_.out (Lx.tk hin_.out (Lx.II.nil hin_.out.1.below) (w.heap.size) (by (repeat (first | exact Lx.ua _ _ _ | rw [Lx.un _ _ (by omega)] | rw [Lx.am])))) (w.heap.size + 1) (by (repeat (first | exact Lx.ua _ _ _ | rw [Lx.un _ _ (by omega)] | rw [Lx.am])))) (w.heap.size + 1 + 1) (by (repeat (first | exact Lx.ua _ _ _ | rw [Lx.un _ _ (by omega)] | rw [Lx.am])))) (g42_1) (by (repeat (first | exact Lx.ua _ _ _ | rw [Lx.un _ _ (by omega)] | rw [Lx.am])))) (g42_2) (by (repeat (first | exact Lx.ua _ _ _ | rw [Lx.un _ _ (by omega)] | rw [Lx.am])))) (g42_3) (by (repeat (first | exact Lx.ua _ _ _ | rw [Lx.un _ _ (by omega)] | rw [Lx.am]))))
  clear hin_
  clear m1
  go_upto_region 8 with fail
  refine Lx.regionS0 (by kernel_rfl) (by kernel_rfl) HIN.out.1 HIN.out.2 (by simp only [List.size_toArray, List.length_cons, List.length_nil, Nat.reduceAdd]; rfl) (fun O Z hO hZ => ?_); have HO := Lib.hid hO; clear hO
  first
    | (apply Lx.kp HO 0; (case hx => exact ⟨rfl, rfl, rfl⟩); (case hk => decide +kernel); (case hv => intro w_ hw_; (go_simp <;> first | with_reducible rfl | exact ⟨rfl, rfl⟩)); simp only [Act.put, Lx.p1, Lx.p2, Lx.p3])
  first
    | (apply Lx.kr HO 1; (case hx => exact ⟨rfl, rfl, rfl⟩); (case hk => decide +kernel); (case hv => intro w_ hw_; have P_ := hw_.holds (g42_1) _ (by (repeat (first | exact Lx.ua _ _ _ | rw [Lx.un _ _ (by omega)] | rw [Lx.am]))); have c0 := cellAt P_ 0 rfl; clear P_; (go_simp <;> first | with_reducible rfl | exact ⟨rfl, rfl⟩)); simp only [Act.put, Lx.p1, Lx.p2, Lx.p3])
  first
    | (apply Lx.kp HO 2; (case hx => exact ⟨rfl, rfl, rfl⟩); (case hk => decide +kernel); (case hv => intro w_ hw_; (go_simp <;> first | with_reducible rfl | exact ⟨rfl, rfl⟩)); simp only [Act.put, Lx.p1, Lx.p2, Lx.p3])
  refine Lx.kd HO (by kernel_rfl) (fun hiv2 => hZ _ _ (fun W7 hw2 => ?_))
  clear hZ Z HO O
  have hin_ := Lib.hid (And.intro hw2 hiv2 : Lx.II _ _ _ _)
  clear hw2 hiv2
  replace HIN := Lib.hid (Lx.tk hin_.out (Lx.tk hin_.out (Lx.tk hin_.out (Lx.tk hin_.out (Lx.tk hin_.out (Lx.tk hin_.out (Lx.II.nil hin_.out.1.below) (w.heap.size) (by (repeat (first | exact Lx.ua _ _ _ | rw [Lx.un _ _ (by omega)] | rw [Lx.am])))) (w.heap.size + 1) (by (repeat (first | exact Lx.ua _ _ _ | rw [Lx.un _ _ (by omega)] | rw [Lx.am])))) (w.heap.size + 1 + 1) (by (repeat (first | exact Lx.ua _ _ _ | rw [Lx.un _ _ (by omega)] | rw [Lx.am])))) (g42_1) (by (repeat (first | exact Lx.ua _ _ _ | rw [Lx.un _ _ (by omega)] | rw [Lx.am])))) (g42_2) (by (repeat (first | exact Lx.ua _ _ _ | rw [Lx.un _ _ (by omega)] | rw [Lx.am])))) (g42_3) (by (repeat (first | exact Lx.ua _ _ _ | rw [Lx.un _ _ (by omega)] | rw [Lx.am]))))
  clear hin_
  go_upto_region 16 with fail
  refine Lx.regionS0 (by kernel_rfl) (by kernel_rfl) HIN.out.1 HIN.out.2 (by simp only [List.size_toArray, List.length_cons, List.length_nil, Nat.reduceAdd]; rfl) (fun O Z hO hZ => ?_); have HO := Lib.hid hO; clear hO
  first
    | (apply Lx.kp HO 0; (case hx => exact ⟨rfl, rfl, rfl⟩); (case hk => decide +kernel); (case hv => intro w_ hw_; (go_simp <;> first | with_reducible rfl | exact ⟨rfl, rfl⟩)); simp only [Act.put, Lx.p1, Lx.p2, Lx.p3])
  first
    | (apply Lx.kr HO 1; (case hx => exact ⟨rfl, rfl, rfl⟩); (case hk => decide +kernel); (case hv => intro w_ hw_; have P_ := hw_.holds (w.heap.size) _ (by (repeat (first | exact Lx.ua _ _ _ | rw [Lx.un _ _ (by omega)] | rw [Lx.am]))); have c2 := cellAt P_ 2 rfl; clear P_; (go_simp <;> first | with_reducible rfl | exact ⟨rfl, rfl⟩)); simp only [Act.put, Lx.p1, Lx.p2, Lx.p3])
  first
    | (apply Lx.kp HO 2; (case hx => exact ⟨rfl, rfl, rfl⟩); (case hk => decide +kernel); (case hv => intro w_ hw_; (go_simp <;> first | with_reducible rfl | exact ⟨rfl, rfl⟩)); simp only [Act.put, Lx.p1, Lx.p2, Lx.p3])
  first
    | (apply Lx.kr HO 3; (case hx => exact ⟨rfl, rfl, rfl⟩); (case hk => decide +kernel); (case hv => intro w_ hw_; have P_ := hw_.holds (g42_1) _ (by (repeat (first | exact Lx.ua _ _ _ | rw [Lx.un _ _ (by omega)] | rw [Lx.am]))); have c4 := cellAt P_ 4 rfl; clear P_; (go_simp <;> first | with_reducible rfl | exact ⟨rfl, rfl⟩)); simp only [Act.put, Lx.p1, Lx.p2, Lx.p3])
  first
    | (apply Lx.kp HO 4; (case hx => exact ⟨rfl, rfl, rfl⟩); (case hk => decide +kernel); (case hv => intro w_ hw_; (go_simp <;> first | with_reducible rfl | exact ⟨rfl, rfl⟩)); simp only [Act.put, Lx.p1, Lx.p2, Lx.p3])
  first
    | (apply Lx.kr HO 5; (case hx => exact ⟨rfl, rfl, rfl⟩); (case hk => decide +kernel); (case hv => intro w_ hw_; have q0 := Below.at hw_.below gs0 hb; have q1 := Below.at hw_.below gs1 hb; (go_simp <;> first | with_reducible rfl | exact ⟨rfl, rfl⟩)); simp only [Act.put, Lx.p1, Lx.p2, Lx.p3])
  first
    | (apply Lx.ka HO 6; (case hx => exact ⟨rfl, rfl, rfl⟩); (case hk => decide +kernel); (case hrun => intro w_; (go_simp <;> first | with_reducible rfl | exact ⟨rfl, rfl⟩)); simp only [Act.put, Lx.p1, Lx.p2, Lx.p3])
  intro g42_4 hg_ hfr
  (repeat (first | (rw [Lx.St.add_M] at hfr) | (replace hfr := Lx.St.fresh_upd hfr; have n_ := hfr.1; replace hfr := hfr.2))); clear hfr
  first
    | (apply Lx.ks HO 7 (g := g42_4); (case hx => exact ⟨rfl, rfl, rfl⟩); (case hk => decide +kernel); (case hG => exact fun _ _ h_ _ => h_); (case hg => (repeat (first | exact Lx.ua _ _ _ | rw [Lx.un _ _ (by omega)] | rw [Lx.am]))); (case hrun => intro w_ hw_ hb_; obtain ⟨c0, c1⟩ := Lx.cells2 hb_; obtain ⟨d0, d1⟩ := Lx.froz2 hb_; refine ⟨?_, ?_, ?_, ?_⟩; rotate_left; (next => (go_simp <;> first | with_reducible rfl | rfl)); (next => (repeat (first | (with_reducible exact Lx.OnlyAt.refl _ _) | (with_reducible refine Lx.OnlyAt.set ?_ _ _)))); (next => (simp [World.setCell, Array.getElem?_modify, hb_] <;> rfl))); simp only [Act.put, Lx.p1, Lx.p2, Lx.p3])
  refine Lx.kd HO (by kernel_rfl) (fun hiv2 => hZ _ _ (fun W8 hw2 => ?_))
  clear hZ Z HO O
  have hin_ := Lib.hid (And.intro hw2 hiv2 : Lx.II _ _ _ _)
  clear hw2 hiv2
  replace HIN := Lib.hid (Lx.tk hin_.out (Lx.tk hin_.out (Lx.tk hin_.out (Lx.tk hin_.out (Lx.tk hin_.out (Lx.tk hin_.out (Lx.tk hin_.out (Lx.II.nil hin_.out.1.below) (w.heap.size) (by (repeat (first | exact Lx.ua _ _ _ | rw [Lx.un _ _ (by omega)] | rw [Lx.am])))) (w.heap.size + 1) (by (repeat (first | exact Lx.ua _ _ _ | rw [Lx.un _ _ (by omega)] | rw [Lx.am])))) (w.heap.size + 1 + 1) (by (repeat (first | exact Lx.ua _ _ _ | rw [Lx.un _ _ (by omega)] | rw [Lx.am])))) (g42_1) (by (repeat (first | exact Lx.ua _ _ _ | rw [Lx.un _ _ (by omega)] | rw [Lx.am])))) (g42_2) (by (repeat (first | exact Lx.ua _ _ _ | rw [Lx.un _ _ (by omega)] | rw [Lx.am])))) (g42_3) (by (repeat (first | exact Lx.ua _ _ _ | rw [Lx.un _ _ (by omega)] | rw [Lx.am])))) (g42_4) (by (repeat (first | exact Lx.ua _ _ _ | rw [Lx.un _ _ (by omega)] | rw [Lx.am]))))
  clear hin_
  have hd0 : decide ((s.cases.length : Int) < 0) = false := by simp
  have hd1 : decide ((s.cases.length : Int) < (s.cases.length : Int)) = false := by simp
  have hdf := hd
  go_upto_region 17 with fail
  refine Lx.regionS0 (by kernel_rfl) (by kernel_rfl) HIN.out.1 HIN.out.2 (by simp only [List.size_toArray, List.length_cons, List.length_nil, Nat.reduceAdd]; rfl) (fun O Z hO hZ => ?_); have HO := Lib.hid hO; clear hO
  first
    | (apply Lx.kp HO 0; (case hx => exact ⟨rfl, rfl, rfl⟩); (case hk => decide +kernel); (case hv => intro w_ hw_; (go_simp <;> first | with_reducible rfl | exact ⟨rfl, rfl⟩)); simp only [Act.put, Lx.p1, Lx.p2, Lx.p3])
  first
    | (apply Lx.kp HO 1; (case hx => exact ⟨rfl, rfl, rfl⟩); (case hk => decide +kernel); (case hv => intro w_ hw_; (go_simp <;> first | with_reducible rfl | exact ⟨rfl, rfl⟩)); simp only [Act.put, Lx.p1, Lx.p2, Lx.p3])
  first
    | (apply Lx.kp HO 2; (case hx => exact ⟨rfl, rfl, rfl⟩); (case hk => decide +kernel); (case hv => intro w_ hw_; (go_simp <;> first | with_reducible rfl | exact ⟨rfl, rfl⟩)); simp only [Act.put, Lx.p1, Lx.p2, Lx.p3])
  first
    | (apply Lx.kk HO 3; (case hx => exact ⟨rfl, rfl⟩); (case hk => decide +kernel); simp only [Act.put, Lx.p1, Lx.p2, Lx.p3])
    | (apply Lx.kp HO 3; (case hx => exact ⟨rfl, rfl, rfl⟩); (case hk => decide +kernel); (case hv => intro w_ hw_; (go_simp <;> first | with_reducible rfl | exact ⟨rfl, rfl⟩)); simp only [Act.put, Lx.p1, Lx.p2, Lx.p3])
  first
    | (apply Lx.kk HO 4; (case hx => exact ⟨rfl, rfl⟩); (case hk => decide +kernel); simp only [Act.put, Lx.p1, Lx.p2, Lx.p3])
    | (apply Lx.kp HO 4; (case hx => exact ⟨rfl, rfl, rfl⟩); (case hk => decide +kernel); (case hv => intro w_ hw_; (go_simp <;> first | with_reducible rfl | exact ⟨rfl, rfl⟩)); simp only [Act.put, Lx.p1, Lx.p2, Lx.p3])
  first
    | (apply Lx.kk HO 5; (case hx => exact ⟨rfl, rfl⟩); (case hk => decide +kernel); simp only [Act.put, Lx.p1, Lx.p2, Lx.p3])
    | (apply Lx.kr HO 5; (case hx => exact ⟨rfl, rfl, rfl⟩); (case hk => decide +kernel); (case hv => intro w_ hw_; have P_ := hw_.holds (g42_4) _ (by (repeat (first | exact Lx.ua _ _ _ | rw [Lx.un _ _ (by omega)] | rw [Lx.am]))); have c0 := cellAt P_ 0 rfl; clear P_; (go_simp <;> first | with_reducible rfl | exact ⟨rfl, rfl⟩)); simp only [Act.put, Lx.p1, Lx.p2, Lx.p3])
  first
    | (apply Lx.kk HO 6; (case hx => exact ⟨rfl, rfl⟩); (case hk => decide +kernel); simp only [Act.put, Lx.p1, Lx.p2, Lx.p3])
    | (apply Lx.kr HO 6; (case hx => exact ⟨rfl, rfl, rfl⟩); (case hk => decide +kernel); (case hv => intro w_ hw_; skip; (go_simp <;> first | with_reducible rfl | exact ⟨rfl, rfl⟩)); simp only [Act.put, Lx.p1, Lx.p2, Lx.p3])
  first
    | (apply Lx.kk HO 7; (case hx => exact ⟨rfl, rfl⟩); (case hk => decide +kernel); simp only [Act.put, Lx.p1, Lx.p2, Lx.p3])
    | (apply Lx.kp HO 7; (case hx => exact ⟨rfl, rfl, rfl⟩); (case hk => decide +kernel); (case hv => intro w_ hw_; (go_simp <;> first | with_reducible rfl | exact ⟨rfl, rfl⟩)); simp only [Act.put, Lx.p1, Lx.p2, Lx.p3])
  first
    | (apply Lx.kp HO 8; (case hx => exact ⟨rfl, rfl, rfl⟩); (case hk => decide +kernel); (case hv => intro w_ hw_; (go_simp <;> first | with_reducible rfl | exact ⟨rfl, rfl⟩)); simp only [Act.put, Lx.p1, Lx.p2, Lx.p3])
  first
    | (apply Lx.kp HO 9; (case hx => exact ⟨rfl, rfl, rfl⟩); (case hk => decide +kernel); (case hv => intro w_ hw_; (go_simp <;> first | with_reducible rfl | exact ⟨rfl, rfl⟩)); simp only [Act.put, Lx.p1, Lx.p2, Lx.p3])
  first
    | (apply Lx.kk HO 10; (case hx => exact ⟨rfl, rfl⟩); (case hk => decide +kernel); simp only [Act.put, Lx.p1, Lx.p2, Lx.p3])
    | (apply Lx.kp HO 10; (case hx => exact ⟨rfl, rfl, rfl⟩); (case hk => decide +kernel); (case hv => intro w_ hw_; (go_simp <;> first | with_reducible rfl | exact ⟨rfl, rfl⟩)); simp only [Act.put, Lx.p1, Lx.p2, Lx.p3])
  first
    | (apply Lx.kk HO 11; (case hx => exact ⟨rfl, rfl⟩); (case hk => decide +kernel); simp only [Act.put, Lx.p1, Lx.p2, Lx.p3])
    | (apply Lx.kp HO 11; (case hx => exact ⟨rfl, rfl, rfl⟩); (case hk => decide +kernel); (case hv => intro w_ hw_; (go_simp <;> first | with_reducible rfl | exact ⟨rfl, rfl⟩)); simp only [Act.put, Lx.p1, Lx.p2, Lx.p3])
  first
    | (apply Lx.kk HO 12; (case hx => exact ⟨rfl, rfl⟩); (case hk => decide +kernel); simp only [Act.put, Lx.p1, Lx.p2, Lx.p3])
    | (apply Lx.kr HO 12; (case hx => exact ⟨rfl, rfl, rfl⟩); (case hk => decide +kernel); (case hv => intro w_ hw_; have P_ := hw_.holds (g42_4) _ (by (repeat (first | exact Lx.ua _ _ _ | rw [Lx.un _ _ (by omega)] | rw [Lx.am]))); have c0 := cellAt P_ 0 rfl; clear P_; (go_simp <;> first | with_reducible rfl | exact ⟨rfl, rfl⟩)); simp only [Act.put, Lx.p1, Lx.p2, Lx.p3])
  first
    | (apply Lx.kk HO 13; (case hx => exact ⟨rfl, rfl⟩); (case hk => decide +kernel); simp only [Act.put, Lx.p1, Lx.p2, Lx.p3])
    | (apply Lx.kr HO 13; (case hx => exact ⟨rfl, rfl, rfl⟩); (case hk => decide +kernel); (case hv => intro w_ hw_; skip; (go_simp <;> first | with_reducible rfl | exact ⟨rfl, rfl⟩)); simp only [Act.put, Lx.p1, Lx.p2, Lx.p3])
  first
    | (apply Lx.kk HO 14; (case hx => exact ⟨rfl, rfl⟩); (case hk => decide +kernel); simp only [Act.put, Lx.p1, Lx.p2, Lx.p3])
    | (apply Lx.kp HO 14; (case hx => exact ⟨rfl, rfl, rfl⟩); (case hk => decide +kernel); (case hv => intro w_ hw_; (go_simp <;> first | with_reducible rfl | exact ⟨rfl, rfl⟩)); simp only [Act.put, Lx.p1, Lx.p2, Lx.p3])
  first
    | (apply Lx.kk HO 15; (case hx => exact ⟨rfl, rfl⟩); (case hk => decide +kernel); simp only [Act.put, Lx.p1, Lx.p2, Lx.p3])
    | (apply Lx.kp HO 15; (case hx => exact ⟨rfl, rfl, rfl⟩); (case hk => decide +kernel); (case hv => intro w_ hw_; (go_simp <;> first | with_reducible rfl | exact ⟨rfl, rfl⟩)); simp only [Act.put, Lx.p1, Lx.p2, Lx.p3])
  first
    | (apply Lx.kk HO 16; (case hx => exact ⟨rfl, rfl⟩); (case hk => decide +kernel); simp only [Act.put, Lx.p1, Lx.p2, Lx.p3])
    | (apply Lx.kp HO 16; (case hx => exact ⟨rfl, rfl, rfl⟩); (case hk => decide +kernel); (case hv => intro w_ hw_; (go_simp <;> first | with_reducible rfl | exact ⟨rfl, rfl⟩)); simp only [Act.put, Lx.p1, Lx.p2, Lx.p3])
  first
    | (apply Lx.kk HO 17; (case hx => exact ⟨rfl, rfl⟩); (case hk => decide +kernel); simp only [Act.put, Lx.p1, Lx.p2, Lx.p3])
    | (apply Lx.kr HO 17; (case hx => exact ⟨rfl, rfl, rfl⟩); (case hk => decide +kernel); (case hv => intro w_ hw_; have P_ := hw_.holds (g42_4) _ (by (repeat (first | exact Lx.ua _ _ _ | rw [Lx.un _ _ (by omega)] | rw [Lx.am]))); have c1 := cellAt P_ 1 rfl; clear P_; (go_simp <;> first | with_reducible rfl | exact ⟨rfl, rfl⟩)); simp only [Act.put, Lx.p1, Lx.p2, Lx.p3])
  first
    | (apply Lx.kk HO 18; (case hx => exact ⟨rfl, rfl⟩); (case hk => decide +kernel); simp only [Act.put, Lx.p1, Lx.p2, Lx.p3])
    | (apply Lx.kp HO 18; (case hx => exact ⟨rfl, rfl, rfl⟩); (case hk => decide +kernel); (case hv => intro w_ hw_; (go_simp <;> first | with_reducible rfl | exact ⟨rfl, rfl⟩)); simp only [Act.put, Lx.p1, Lx.p2, Lx.p3])
  first
    | (apply Lx.kk HO 19; (case hx => exact ⟨rfl, rfl⟩); (case hk => decide +kernel); simp only [Act.put, Lx.p1, Lx.p2, Lx.p3])
    | (apply Lx.kp HO 19; (case hx => exact ⟨rfl, rfl, rfl⟩); (case hk => decide +kernel); (case hv => intro w_ hw_; (go_simp <;> first | with_reducible rfl | exact ⟨rfl, rfl⟩)); simp only [Act.put, Lx.p1, Lx.p2, Lx.p3])
  first
    | (apply Lx.kp HO 20; (case hx => exact ⟨rfl, rfl, rfl⟩); (case hk => decide +kernel); (case hv => intro w_ hw_; (go_simp <;> first | with_reducible rfl | exact ⟨rfl, rfl⟩)); simp only [Act.put, Lx.p1, Lx.p2, Lx.p3])
  refine Lx.kd HO (by kernel_rfl) (fun hiv2 => hZ _ _ (fun W9 hw2 => ?_))
  clear hZ Z HO O
  have hin_ := Lib.hid (And.intro hw2 hiv2 : Lx.II _ _ _ _)
  clear hw2 hiv2
  replace HIN := Lib.hid (Lx.tk hin_.out (Lx.tk hin_.out (Lx.tk hin_.out (Lx.tk hin_.out (Lx.tk hin_.out (Lx.tk hin_.out (Lx.tk hin_.out (Lx.II.nil hin_.out.1.below) (w.heap.size) (by (repeat (first | exact Lx.ua _ _ _ | rw [Lx.un _ _ (by omega)] | rw [Lx.am])))) (w.heap.size + 1) (by (repeat (first | exact Lx.ua _ _ _ | rw [Lx.un _ _ (by omega)] | rw [Lx.am])))) (w.heap.size + 1 + 1) (by (repeat (first | exact Lx.ua _ _ _ | rw [Lx.un _ _ (by omega)] | rw [Lx.am])))) (g42_1) (by (repeat (first | exact Lx.ua _ _ _ | rw [Lx.un _ _ (by omega)] | rw [Lx.am])))) (g42_2) (by (repeat (first | exact Lx.ua _ _ _ | rw [Lx.un _ _ (by omega)] | rw [Lx.am])))) (g42_3) (by (repeat (first | exact Lx.ua _ _ _ | rw [Lx.un _ _ (by omega)] | rw [Lx.am])))) (g42_4) (by (repeat (first | exact Lx.ua _ _ _ | rw [Lx.un _ _ (by omega)] | rw [Lx.am]))))
  clear hin_
  clear hd0 hdf
  go_upto_region 19 with fail
  refine Lx.regionS0 (by kernel_rfl) (by kernel_rfl) HIN.out.1 HIN.out.2 (by simp only [List.size_toArray, List.length_cons, List.length_nil, Nat.reduceAdd]; rfl) (fun O Z hO hZ => ?_); have HO := Lib.hid hO; clear hO
  first
    | (apply Lx.kp HO 0; (case hx => exact ⟨rfl, rfl, rfl⟩); (case hk => decide +kernel); (case hv => intro w_ hw_; (go_simp <;> first | with_reducible rfl | exact ⟨rfl, rfl⟩)); simp only [Act.put, Lx.p1, Lx.p2, Lx.p3])
  first
    | (apply Lx.kp HO 1; (case hx => exact ⟨rfl, rfl, rfl⟩); (case hk => decide +kernel); (case hv => intro w_ hw_; (go_simp <;> first | with_reducible rfl | exact ⟨rfl, rfl⟩)); simp only [Act.put, Lx.p1, Lx.p2, Lx.p3])
  first
    | (apply Lx.kr HO 2; (case hx => exact ⟨rfl, rfl, rfl⟩); (case hk => decide +kernel); (case hv => intro w_ hw_; have P_ := hw_.holds (g42_4) _ (by (repeat (first | exact Lx.ua _ _ _ | rw [Lx.un _ _ (by omega)] | rw [Lx.am]))); have c0 := cellAt P_ 0 rfl; clear P_; (go_simp <;> first | with_reducible rfl | exact ⟨rfl, rfl⟩)); simp only [Act.put, Lx.p1, Lx.p2, Lx.p3])
  first
    | (apply Lx.kr HO 3; (case hx => exact ⟨rfl, rfl, rfl⟩); (case hk => decide +kernel); (case hv => intro w_ hw_; skip; (go_simp <;> first | with_reducible rfl | exact ⟨rfl, rfl⟩)); simp only [Act.put, Lx.p1, Lx.p2, Lx.p3])
  first
    | (apply Lx.kp HO 4; (case hx => exact ⟨rfl, rfl, rfl⟩); (case hk => decide +kernel); (case hv => intro w_ hw_; (go_simp <;> first | with_reducible rfl | exact ⟨rfl, rfl⟩)); simp only [Act.put, Lx.p1, Lx.p2, Lx.p3])
  first
    | (apply Lx.kp HO 5; (case hx => exact ⟨rfl, rfl, rfl⟩); (case hk => decide +kernel); (case hv => intro w_ hw_; (go_simp <;> first | with_reducible rfl | exact ⟨rfl, rfl⟩)); simp only [Act.put, Lx.p1, Lx.p2, Lx.p3])
  first
    | (apply Lx.kk HO 6; (case hx => exact ⟨rfl, rfl⟩); (case hk => decide +kernel); simp only [Act.put, Lx.p1, Lx.p2, Lx.p3])
    | (apply Lx.kp HO 6; (case hx => exact ⟨rfl, rfl, rfl⟩); (case hk => decide +kernel); (case hv => intro w_ hw_; (go_simp <;> first | with_reducible rfl | exact ⟨rfl, rfl⟩)); simp only [Act.put, Lx.p1, Lx.p2, Lx.p3])
  first
    | (apply Lx.kk HO 7; (case hx => exact ⟨rfl, rfl⟩); (case hk => decide +kernel); simp only [Act.put, Lx.p1, Lx.p2, Lx.p3])
    | (apply Lx.kr HO 7; (case hx => exact ⟨rfl, rfl, rfl⟩); (case hk => decide +kernel); (case hv => intro w_ hw_; have P_ := hw_.holds (g42_4) _ (by (repeat (first | exact Lx.ua _ _ _ | rw [Lx.un _ _ (by omega)] | rw [Lx.am]))); have c0 := cellAt P_ 0 rfl; clear P_; (go_simp <;> first | with_reducible rfl | exact ⟨rfl, rfl⟩)); simp only [Act.put, Lx.p1, Lx.p2, Lx.p3])
  first
    | (apply Lx.kk HO 8; (case hx => exact ⟨rfl, rfl⟩); (case hk => decide +kernel); simp only [Act.put, Lx.p1, Lx.p2, Lx.p3])
    | (apply Lx.kp HO 8; (case hx => exact ⟨rfl, rfl, rfl⟩); (case hk => decide +kernel); (case hv => intro w_ hw_; (go_simp <;> first | with_reducible rfl | exact ⟨rfl, rfl⟩)); simp only [Act.put, Lx.p1, Lx.p2, Lx.p3])
  first
    | (apply Lx.kk HO 9; (case hx => exact ⟨rfl, rfl⟩); (case hk => decide +kernel); simp only [Act.put, Lx.p1, Lx.p2, Lx.p3])
    | (apply Lx.kp HO 9; (case hx => exact ⟨rfl, rfl, rfl⟩); (case hk => decide +kernel); (case hv => intro w_ hw_; (go_simp <;> first | with_reducible rfl | exact ⟨rfl, rfl⟩)); simp only [Act.put, Lx.p1, Lx.p2, Lx.p3])
  first
    | (apply Lx.kk HO 10; (case hx => exact ⟨rfl, rfl⟩); (case hk => decide +kernel); simp only [Act.put, Lx.p1, Lx.p2, Lx.p3])
    | (apply Lx.kp HO 10; (case hx => exact ⟨rfl, rfl, rfl⟩); (case hk => decide +kernel); (case hv => intro w_ hw_; (go_simp <;> first | with_reducible rfl | exact ⟨rfl, rfl⟩)); simp only [Act.put, Lx.p1, Lx.p2, Lx.p3])
  first
    | (apply Lx.kk HO 11; (case hx => exact ⟨rfl, rfl⟩); (case hk => decide +kernel); simp only [Act.put, Lx.p1, Lx.p2, Lx.p3])
    | (apply Lx.kr HO 11; (case hx => exact ⟨rfl, rfl, rfl⟩); (case hk => decide +kernel); (case hv => intro w_ hw_; skip; (go_simp <;> first | with_reducible rfl | exact ⟨rfl, rfl⟩)); simp only [Act.put, Lx.p1, Lx.p2, Lx.p3])
  first
    | (apply Lx.kk HO 12; (case hx => exact ⟨rfl, rfl⟩); (case hk => decide +kernel); simp only [Act.put, Lx.p1, Lx.p2, Lx.p3])
    | (apply Lx.kp HO 12; (case hx => exact ⟨rfl, rfl, rfl⟩); (case hk => decide +kernel); (case hv => intro w_ hw_; (go_simp <;> first | with_reducible rfl | exact ⟨rfl, rfl⟩)); simp only [Act.put, Lx.p1, Lx.p2, Lx.p3])
  first
    | (apply Lx.kp HO 13; (case hx => exact ⟨rfl, rfl, rfl⟩); (case hk => decide +kernel); (case hv => intro w_ hw_; (go_simp <;> first | with_reducible rfl | exact ⟨rfl, rfl⟩)); simp only [Act.put, Lx.p1, Lx.p2, Lx.p3])
  refine Lx.kd HO (by kernel_rfl) (fun hiv2 => hZ _ _ (fun W10 hw2 => ?_))
  clear hZ Z HO O
  have hin_ := Lib.hid (And.intro hw2 hiv2 : Lx.II _ _ _ _)
  clear hw2 hiv2
  replace HIN := Lib.hid (Lx.tk hin_.out (Lx.tk hin_.out (Lx.tk hin_.out (Lx.tk hin_.out (Lx.tk hin_.out (Lx.tk hin_.out (Lx.tk hin_.out (Lx.II.nil hin_.out.1.below) (w.heap.size) (by (repeat (first | exact Lx.ua _ _ _ | rw [Lx.un _ _ (by omega)] | rw [Lx.am])))) (w.heap.size + 1) (by (repeat (first | exact Lx.ua _ _ _ | rw [Lx.un _ _ (by omega)] | rw [Lx.am])))) (w.heap.size + 1 + 1) (by (repeat (first | exact Lx.ua _ _ _ | rw [Lx.un _ _ (by omega)] | rw [Lx.am])))) (g42_1) (by (repeat (first | exact Lx.ua _ _ _ | rw [Lx.un _ _ (by omega)] | rw [Lx.am])))) (g42_2) (by (repeat (first | exact Lx.ua _ _ _ | rw [Lx.un _ _ (by omega)] | rw [Lx.am])))) (g42_3) (by (repeat (first | exact Lx.ua _ _ _ | rw [Lx.un _ _ (by omega)] | rw [Lx.am])))) (g42_4) (by (repeat (first | exact Lx.ua _ _ _ | rw [Lx.un _ _ (by omega)] | rw [Lx.am]))))
  clear hin_
  go_upto_region 21 with fail
  refine Lx.regionS0 (by kernel_rfl) (by kernel_rfl) HIN.out.1 HIN.out.2 (by simp only [List.size_toArray, List.length_cons, List.length_nil, Nat.reduceAdd]; rfl) (fun O Z hO hZ => ?_); have HO := Lib.hid hO; clear hO
  first
    | (apply Lx.kr HO 0; (case hx => exact ⟨rfl, rfl, rfl⟩); (case hk => decide +kernel); (case hv => intro w_ hw_; have P_ := hw_.holds (g42_2) _ (by (repeat (first | exact Lx.ua _ _ _ | rw [Lx.un _ _ (by omega)] | rw [Lx.am]))); obtain ⟨c0, c1, c2, c3, c4, c5, c6, c7⟩ := Lx.cells8 P_; clear P_; (go_simp <;> first | with_reducible rfl | exact ⟨rfl, rfl⟩)); simp only [Act.put, Lx.p1, Lx.p2, Lx.p3])
  first
    | (apply Lx.kp HO 1; (case hx => exact ⟨rfl, rfl, rfl⟩); (case hk => decide +kernel); (case hv => intro w_ hw_; (go_simp <;> first | with_reducible rfl | exact ⟨rfl, rfl⟩)); simp only [Act.put, Lx.p1, Lx.p2, Lx.p3])
  first
    | (apply Lx.kr HO 2; (case hx => exact ⟨rfl, rfl, rfl⟩); (case hk => decide +kernel); (case hv => intro w_ hw_; have P_ := hw_.holds (g42_1) _ (by (repeat (first | exact Lx.ua _ _ _ | rw [Lx.un _ _ (by omega)] | rw [Lx.am]))); have c2 := cellAt P_ 2 rfl; clear P_; (go_simp <;> first | with_reducible rfl | exact ⟨rfl, rfl⟩)); simp only [Act.put, Lx.p1, Lx.p2, Lx.p3])
  first
    | (apply Lx.kp HO 3; (case hx => exact ⟨rfl, rfl, rfl⟩); (case hk => decide +kernel); (case hv => intro w_ hw_; (go_simp <;> first | with_reducible rfl | exact ⟨rfl, rfl⟩)); simp only [Act.put, Lx.p1, Lx.p2, Lx.p3])
  first
    | (apply Lx.kc HO 4; (case hx => exact ⟨rfl, rfl, rfl⟩); (case hk => decide +kernel); (case hrun => intro w_; (go_simp <;> first | with_reducible rfl | exact ⟨rfl, rfl⟩)); (case hc => intro w_ hw_; exact put_any f.r nb (s.cases.length : Int) hf nb8 _); simp only [Act.put, Lx.p1, Lx.p2, Lx.p3])
  first
    | (apply Lx.kp HO 5; (case hx => exact ⟨rfl, rfl, rfl⟩); (case hk => decide +kernel); (case hv => intro w_ hw_; (go_simp <;> first | with_reducible rfl | exact ⟨rfl, rfl⟩)); simp only [Act.put, Lx.p1, Lx.p2, Lx.p3])
  first
    | (apply Lx.ks HO 6 (g := g42_3); (case hx => exact ⟨rfl, rfl, rfl⟩); (case hk => decide +kernel); (case hG => exact fun _ _ h_ _ => h_); (case hg => (repeat (first | exact Lx.ua _ _ _ | rw [Lx.un _ _ (by omega)] | rw [Lx.am]))); (case hrun => intro w_ hw_ hb_; have c2 := cellAt hb_ 2 rfl; have d2 := frozAt hb_ 2; have c3 := cellAt hb_ 3 rfl; have d3 := frozAt hb_ 3; have c4 := cellAt hb_ 4 rfl; have d4 := frozAt hb_ 4; have c5 := cellAt hb_ 5 rfl; have d5 := frozAt hb_ 5; have c6 := cellAt hb_ 6 rfl; have d6 := frozAt hb_ 6; have c7 := cellAt hb_ 7 rfl; have d7 := frozAt hb_ 7; have c8 := cellAt hb_ 8 rfl; have d8 := frozAt hb_ 8; have c9 := cellAt hb_ 9 rfl; have d9 := frozAt hb_ 9; refine ⟨?_, ?_, ?_, ?_⟩; rotate_left; (next => (go_simp <;> first | with_reducible rfl | rfl)); (next => (repeat (first | (with_reducible exact Lx.OnlyAt.refl _ _) | (with_reducible refine Lx.OnlyAt.set ?_ _ _)))); (next => (simp [World.setCell, Array.getElem?_modify, hb_] <;> rfl))); simp only [Act.put, Lx.p1, Lx.p2, Lx.p3])
  refine Lx.kd HO (by kernel_rfl) (fun hiv2 => hZ _ _ (fun W11 hw2 => ?_))
  clear hZ Z HO O
  have hin_ := Lib.hid (And.intro hw2 hiv2 : Lx.II _ _ _ _)
  clear hw2 hiv2
  replace HIN := Lib.hid (Lx.tk hin_.out (Lx.tk hin_.out (Lx.tk hin_.out (Lx.tk hin_.out (Lx.tk hin_.out (Lx.tk hin_.out (Lx.tk hin_.out (Lx.II.nil hin_.out.1.below) (w.heap.size) (by (repeat (first | exact Lx.ua _ _ _ | rw [Lx.un _ _ (by omega)] | rw [Lx.am])))) (w.heap.size + 1) (by (repeat (first | exact Lx.ua _ _ _ | rw [Lx.un _ _ (by omega)] | rw [Lx.am])))) (w.heap.size + 1 + 1) (by (repeat (first | exact Lx.ua _ _ _ | rw [Lx.un _ _ (by omega)] | rw [Lx.am])))) (g42_1) (by (repeat (first | exact Lx.ua _ _ _ | rw [Lx.un _ _ (by omega)] | rw [Lx.am])))) (g42_2) (by (repeat (first | exact Lx.ua _ _ _ | rw [Lx.un _ _ (by omega)] | rw [Lx.am])))) (g42_3) (by (repeat (first | exact Lx.ua _ _ _ | rw [Lx.un _ _ (by omega)] | rw [Lx.am])))) (g42_4) (by (repeat (first | exact Lx.ua _ _ _ | rw [Lx.un _ _ (by omega)] | rw [Lx.am]))))
  clear hin_
  go_upto_region 22 with fail
  refine Lx.regionS0 (by kernel_rfl) (by kernel_rfl) HIN.out.1 HIN.out.2 (by simp only [List.size_toArray, List.length_cons, List.length_nil, Nat.reduceAdd]; rfl) (fun O Z hO hZ => ?_); have HO := Lib.hid hO; clear hO
  first
    | (apply Lx.kr HO 0; (case hx => exact ⟨rfl, rfl, rfl⟩); (case hk => decide +kernel); (case hv => intro w_ hw_; have P_ := hw_.holds (g42_3) _ (by (repeat (first | exact Lx.ua _ _ _ | rw [Lx.un _ _ (by omega)] | rw [Lx.am]))); obtain ⟨c0, c1, c2, c3, c4, c5, c6, c7, c8, c9⟩ := Lx.cells10 P_; clear P_; (go_simp <;> first | with_reducible rfl | exact ⟨rfl, rfl⟩)); simp only [Act.put, Lx.p1, Lx.p2, Lx.p3])
  first
    | (apply Lx.ks HO 1 (g := w.heap.size + 1 + 1); (case hx => exact ⟨rfl, rfl, rfl⟩); (case hk => decide +kernel); (case hG => exact fun _ _ h_ _ => h_); (case hg => (repeat (first | exact Lx.ua _ _ _ | rw [Lx.un _ _ (by omega)] | rw [Lx.am]))); (case hrun => intro w_ hw_ hb_; obtain ⟨c0, c1, c2, c3, c4, c5, c6, c7, c8, c9⟩ := Lx.cells10 hb_; obtain ⟨d0, d1, d2, d3, d4, d5, d6, d7, d8, d9⟩ := Lx.froz10 hb_; refine ⟨?_, ?_, ?_, ?_⟩; rotate_left; (next => (go_simp <;> first | with_reducible rfl | rfl)); (next => (repeat (first | (with_reducible exact Lx.OnlyAt.refl _ _) | (with_reducible refine Lx.OnlyAt.set ?_ _ _)))); (next => (simp [World.setCell, Array.getElem?_modify, hb_] <;> rfl))); simp only [Act.put, Lx.p1, Lx.p2, Lx.p3])
  first
    | (apply Lx.kp HO 2; (case hx => exact ⟨rfl, rfl, rfl⟩); (case hk => decide +kernel); (case hv => intro w_ hw_; (go_simp <;> first | with_reducible rfl | exact ⟨rfl, rfl⟩)); simp only [Act.put, Lx.p1, Lx.p2, Lx.p3])
  refine Lx.kd HO (by kernel_rfl) (fun hiv2 => hZ _ _ (fun W12 hw2 => ?_))
  clear hZ Z HO O
  have hin_ := Lib.hid (And.intro hw2 hiv2 : Lx.II _ _ _ _)
  clear hw2 hiv2
  replace HIN := Lib.hid (Lx.tk hin_.out (Lx.tk hin_.out (Lx.tk hin_.out (Lx.tk hin_.out (Lx.tk hin_.out (Lx.tk hin_.out (Lx.tk hin_.out (Lx.II.nil hin_.out.1.below) (w.heap.size) (by (repeat (first | exact Lx.ua _ _ _ | rw [Lx.un _ _ (by omega)] | rw [Lx.am])))) (w.heap.size + 1) (by (repeat (first | exact Lx.ua _ _ _ | rw [Lx.un _ _ (by omega)] | rw [Lx.am])))) (w.heap.size + 1 + 1) (by (repeat (first | exact Lx.ua _ _ _ | rw [Lx.un _ _ (by omega)] | rw [Lx.am])))) (g42_1) (by (repeat (first | exact Lx.ua _ _ _ | rw [Lx.un _ _ (by omega)] | rw [Lx.am])))) (g42_2) (by (repeat (first | exact Lx.ua _ _ _ | rw [Lx.un _ _ (by omega)] | rw [Lx.am])))) (g42_3) (by (repeat (first | exact Lx.ua _ _ _ | rw [Lx.un _ _ (by omega)] | rw [Lx.am])))) (g42_4) (by (repeat (first | exact Lx.ua _ _ _ | rw [Lx.un _ _ (by omega)] | rw [Lx.am]))))
  clear hin_
  have P_ := HIN.out.1.holds (w.heap.size + 1 + 1) _ (by (repeat (first | exact Lx.ua _ _ _ | rw [Lx.un _ _ (by omega)] | rw [Lx.am])))
  obtain ⟨r0_0, r0_1, r0_2, r0_3, r0_4, r0_5, r0_6, r0_7, r0_8, r0_9⟩ := Lx.cells10 P_
  clear P_
  go_wp2
  refine Lx.ret_of (by simp [results, Try.results42, go_sem, r0_0, r0_1, r0_2, r0_3, r0_4, r0_5, r0_6, r0_7, r0_8, r0_9] <;> (repeat' (first | rfl | apply And.intro))) rfl ⟨rfl, HIN.out.1.below⟩
set_option maxHeartbeats 4000000 in
theorem rdone_sel_send {c1 c2 c3 : Value} {P : ProgV} {w : World} (h : RProg w c1 c2 c3 P) (hs : saneP P = true) (f : FrameV) (hf : f.wf) (m : Nat) (val : Int) (ok : Bool) (hat : atB P f.code f.pc = true) (ho : (atX P f.code f.pc).op = 8) (n : Nat) (hxk : (atX P f.code f.pc).k = n) (hn : n < P.sites.length) (hk : m < (P.sites[n]).cases.length) (hsd : (P.sites[n]).cases[m].send = true) :
    Calls Try.prog 42 #[.agg #[c1, c2, c3], f.agg, .int .i64 m, .int .i64 val, .bool ok] w fun e w' => e = .returned (.tuple #[(doneF P f (m : Int) val ok).1.agg, .int .i64 (doneF P f (m : Int) val ok).2]) ∧ Below w.heap.size w w' := by
  have HP0 := Lib.hid h
  have hmay := fun (W : World) (h : RProg W c1 c2 c3 P) => rMay_any h f
  rw [hat] at hmay
  have hat0 := fun (W : World) (h : RProg W c1 c2 c3 P) => rAt_any h f hat
  obtain ⟨hra, hrb, hnx, hkk⟩ := sane_at hs hat
  obtain ⟨q1, q2, l, q3, q4⟩ := atB_iff.1 hat
  have hlen := (code_ok (sane_parts hs).2.2.1 (List.mem_of_getElem? q3)).1.2
  have hpc : 0 ≤ f.pc ∧ f.pc < 100 := ⟨q2, by omega⟩
  clear q1 q2 q3 q4 hlen l hnx hkk
  have hR : doneF P f (m : Int) val ok = chosenF P.sites[n] f (atX P f.code f.pc) (m : Int) val ok := by
    unfold doneF; rw [if_pos hat]; simp only; rw [if_neg (by rw [ho]; decide), if_pos ho]
    have : siteOf P (atX P f.code f.pc) = P.sites[n] := by unfold siteOf; rw [hxk]; simp [List.getD_eq_getElem?_getD, List.getElem?_eq_getElem hn]
    rw [this]
  rw [hR]
  clear hR
  obtain ⟨⟨xo, xa, xb, xc, xk⟩, hx⟩ : ∃ x, atX P f.code f.pc = x := ⟨_, rfl⟩
  rw [hx] at hra hrb ho hxk
  simp only [hx] at hat0 ⊢
  clear hx hat
  simp only at hra hrb ho hxk
  subst ho hxk
  obtain ⟨nb, rfl⟩ := Int.eq_ofNat_of_zero_le (regI_of hrb).1
  have nb8 : nb < 8 := by have := (regI_of hrb).2; omega
  have nba : (0 : Int) ≤ (nb : Int) := by omega
  have nbb : (nb : Int) < 8 := by omega
  clear hra hrb
  have hSite := HP0.out.sites
  obtain ⟨A1, n1, rfl, _, _, hl1⟩ := h.caps.val
  obtain ⟨A2, n2, rfl, _, _, hl2⟩ := h.codes.val
  obtain ⟨A3, n3, rfl, _, _, hl3⟩ := h.sites.val
  obtain ⟨b, o, A4, c4, rfl, hb, gs0, gs1, gs2, _, _, hl4⟩ := kSite_at h.sites hn
  have e1 : (0 : Int) ≤ (n : Int) := by omega
  have e2 : (n : Int) < P.sites.length := by omega
  clear hSite
  try have hsc := sane_case (m := m) hs hn
  generalize P.sites[n] = s at *
  have hc0 := List.getElem?_eq_getElem hk
  have hcd : s.cases.getD m ⟨true, 0, 0, 0⟩ = s.cases[m] := by simp [List.getD_eq_getElem?_getD, hc0]
  obtain ⟨b4, o4, rfl, hb4, gc0, gc1, gc2, gc3, _⟩ := kCase_at gs2 hk
  have hR : chosenF s f ⟨8, xa, (nb : Int), xc, (n : Int)⟩ (m : Int) val ok = (⟨f.code, f.pc + 1, f.r.set nb m⟩, 0) := by
    unfold chosenF
    rw [if_neg (by omega)]
    simp only [Int.toNat_natCast, hcd]
    rw [hsd]
    rfl
  rw [hR]
  clear hR hcd hc0 gs2
  clear hsc
  generalize s.cases[m] = c at *
  obtain ⟨cs, cc, cv, co⟩ := c
  simp only at hsd
  subst hsd
  clear h hs
  simp only [FrameV.agg, FrameV.cells, InsV.agg] at hmay hat0
  have HMAY := Lib.hid hmay
  have HAT0 := Lib.hid hat0
  clear hat0
  clear hmay
  try clear h
  unfold FrameV.agg FrameV.cells
  go_enter Try.func42, Try.ntmps42
  go_upto_region 1 with fail
  refine Lx.start3 (fun W1 hII => ?_)
  have HIN := Lib.hid hII
  clear hII
  go_upto_region 1 with fail
  refine Lx.regionS0 (by kernel_rfl) (by kernel_rfl) HIN.out.1 HIN.out.2 (by simp only [List.size_toArray, List.length_cons, List.length_nil, Nat.reduceAdd]; rfl) (fun O Z hO hZ => ?_); have HO := Lib.hid hO; clear hO
  first
    | (apply Lx.kr HO 0; (case hx => exact ⟨rfl, rfl, rfl⟩); (case hk => decide +kernel); (case hv => intro w_ hw_; have P_ := hw_.holds (w.heap.size) _ (by (repeat (first | exact Lx.ua _ _ _ | rw [Lx.un _ _ (by omega)] | rw [Lx.am]))); obtain ⟨c0, c1, c2⟩ := Lx.cells3 P_; clear P_; (go_simp <;> first | with_reducible rfl | exact ⟨rfl, rfl⟩)); simp only [Act.put, Lx.p1, Lx.p2, Lx.p3])
  first
    | (apply Lx.kr HO 1; (case hx => exact ⟨rfl, rfl, rfl⟩); (case hk => decide +kernel); (case hv => intro w_ hw_; have P_ := hw_.holds (w.heap.size + 1) _ (by (repeat (first | exact Lx.ua _ _ _ | rw [Lx.un _ _ (by omega)] | rw [Lx.am]))); obtain ⟨c0, c1, c2, c3, c4, c5, c6, c7, c8, c9⟩ := Lx.cells10 P_; clear P_; (go_simp <;> first | with_reducible rfl | exact ⟨rfl, rfl⟩)); simp only [Act.put, Lx.p1, Lx.p2, Lx.p3])
  first
    | (apply Lx.kc HO 2; (case hx => exact ⟨rfl, rfl, rfl⟩); (case hk => decide +kernel); (case hrun => intro w_; (go_simp <;> first | with_reducible rfl | exact ⟨rfl, rfl⟩)); (case hc => intro w_ hw_; with_reducible exact HMAY.out _ (HP0.out.keep hw_.below)); simp only [Act.put, Lx.p1, Lx.p2, Lx.p3])
  first
    | (apply Lx.kp HO 3; (case hx => exact ⟨rfl, rfl, rfl⟩); (case hk => decide +kernel); (case hv => intro w_ hw_; (go_simp <;> first | with_reducible rfl | exact ⟨rfl, rfl⟩)); simp only [Act.put, Lx.p1, Lx.p2, Lx.p3])
  refine Lx.kd HO (by kernel_rfl) (fun hiv2 => hZ _ _ (fun W2 hw2 => ?_))
  clear hZ Z HO O
  have hin_ := Lib.hid (And.intro hw2 hiv2 : Lx.II _ _ _ _)
  clear hw2 hiv2
  replace HIN := Lib.hid (Lx.tk hin_.out (Lx.tk hin_.out (Lx.tk hin_.out (Lx.II.nil hin_.out.1.below) (w.heap.size) (by (repeat (first | exact Lx.ua _ _ _ | rw [Lx.un _ _ (by omega)] | rw [Lx.am])))) (w.heap.size + 1) (by (repeat (first | exact Lx.ua _ _ _ | rw [Lx.un _ _ (by omega)] | rw [Lx.am])))) (w.heap.size + 1 + 1) (by (repeat (first | exact Lx.ua _ _ _ | rw [Lx.un _ _ (by omega)] | rw [Lx.am]))))
  clear hin_
  go_upto_region 3 with fail
  refine Lx.regionS0 (by kernel_rfl) (by kernel_rfl) HIN.out.1 HIN.out.2 (by simp only [List.size_toArray, List.length_cons, List.length_nil, Nat.reduceAdd]; rfl) (fun O Z hO hZ => ?_); have HO := Lib.hid hO; clear hO
  first
    | (apply Lx.kr HO 0; (case hx => exact ⟨rfl, rfl, rfl⟩); (case hk => decide +kernel); (case hv => intro w_ hw_; have P_ := hw_.holds (w.heap.size) _ (by (repeat (first | exact Lx.ua _ _ _ | rw [Lx.un _ _ (by omega)] | rw [Lx.am]))); obtain ⟨c0, c1, c2⟩ := Lx.cells3 P_; clear P_; (go_simp <;> first | with_reducible rfl | exact ⟨rfl, rfl⟩)); simp only [Act.put, Lx.p1, Lx.p2, Lx.p3])
  first
    | (apply Lx.kr HO 1; (case hx => exact ⟨rfl, rfl, rfl⟩); (case hk => decide +kernel); (case hv => intro w_ hw_; have P_ := hw_.holds (w.heap.size + 1) _ (by (repeat (first | exact Lx.ua _ _ _ | rw [Lx.un _ _ (by omega)] | rw [Lx.am]))); obtain ⟨c0, c1, c2, c3, c4, c5, c6, c7, c8, c9⟩ := Lx.cells10 P_; clear P_; (go_simp <;> first | with_reducible rfl | exact ⟨rfl, rfl⟩)); simp only [Act.put, Lx.p1, Lx.p2, Lx.p3])
  first
    | (apply Lx.kc HO 2; (case hx => exact ⟨rfl, rfl, rfl⟩); (case hk => decide +kernel); (case hrun => intro w_; (go_simp <;> first | with_reducible rfl | exact ⟨rfl, rfl⟩)); (case hc => intro w_ hw_; with_reducible exact HAT0.out _ (HP0.out.keep hw_.below)); simp only [Act.put, Lx.p1, Lx.p2, Lx.p3])
  first
    | (apply Lx.ka HO 3; (case hx => exact ⟨rfl, rfl, rfl⟩); (case hk => decide +kernel); (case hrun => intro w_; (go_simp <;> first | with_reducible rfl | exact ⟨rfl, rfl⟩)); simp only [Act.put, Lx.p1, Lx.p2, Lx.p3])
  intro g42_1 hg_ hfr
  (repeat (first | (rw [Lx.St.add_M] at hfr) | (replace hfr := Lx.St.fresh_upd hfr; have n_ := hfr.1; replace hfr := hfr.2))); clear hfr
  first
    | (apply Lx.ks HO 4 (g := g42_1); (case hx => exact ⟨rfl, rfl, rfl⟩); (case hk => decide +kernel); (case hG => exact fun _ _ h_ _ => h_); (case hg => (repeat (first | exact Lx.ua _ _ _ | rw [Lx.un _ _ (by omega)] | rw [Lx.am]))); (case hrun => intro w_ hw_ hb_; obtain ⟨c0, c1, c2, c3, c4⟩ := Lx.cells5 hb_; obtain ⟨d0, d1, d2, d3, d4⟩ := Lx.froz5 hb_; refine ⟨?_, ?_, ?_, ?_⟩; rotate_left; (next => (go_simp <;> first | with_reducible rfl | rfl)); (next => (repeat (first | (with_reducible exact Lx.OnlyAt.refl _ _) | (with_reducible refine Lx.OnlyAt.set ?_ _ _)))); (next => (simp [World.setCell, Array.getElem?_modify, hb_] <;> rfl))); simp only [Act.put, Lx.p1, Lx.p2, Lx.p3])
  refine Lx.kd HO (by kernel_rfl) (fun hiv2 => hZ _ _ (fun W3 hw2 => ?_))
  clear hZ Z HO O
  have hin_ := Lib.hid (And.intro hw2 hiv2 : Lx.II _ _ _ _)
  clear hw2 hiv2
  replace HIN := Lib.hid (Lx.tk hin_.out (Lx.tk hin_.out (Lx.tk hin_.out (Lx.tk hin_.out (Lx.II.nil hin_.out.1.below) (w.heap.size) (by (repeat (first | exact Lx.ua _ _ _ | rw [Lx.un _ _ (by omega)] | rw [Lx.am])))) (w.heap.size + 1) (by (repeat (first | exact Lx.ua _ _ _ | rw [Lx.un _ _ (by omega)] | rw [Lx.am])))) (w.heap.size + 1 + 1) (by (repeat (first | exact Lx.ua _ _ _ | rw [Lx.un _ _ (by omega)] | rw [Lx.am])))) (g42_1) (by (repeat (first | exact Lx.ua _ _ _ | rw [Lx.un _ _ (by omega)] | rw [Lx.am]))))
  clear hin_
  go_upto_region 4 with fail
  refine Lx.regionS0 (by kernel_rfl) (by kernel_rfl) HIN.out.1 HIN.out.2 (by simp only [List.size_toArray, List.length_cons, List.length_nil, Nat.reduceAdd]; rfl) (fun O Z hO hZ => ?_); have HO := Lib.hid hO; clear hO
  first
    | (apply Lx.kp HO 0; (case hx => exact ⟨rfl, rfl, rfl⟩); (case hk => decide +kernel); (case hv => intro w_ hw_; (go_simp <;> first | with_reducible rfl | exact ⟨rfl, rfl⟩)); simp only [Act.put, Lx.p1, Lx.p2, Lx.p3])
  first
    | (apply Lx.kr HO 1; (case hx => exact ⟨rfl, rfl, rfl⟩); (case hk => decide +kernel); (case hv => intro w_ hw_; have P_ := hw_.holds (g42_1) _ (by (repeat (first | exact Lx.ua _ _ _ | rw [Lx.un _ _ (by omega)] | rw [Lx.am]))); have c0 := cellAt P_ 0 rfl; clear P_; (go_simp <;> first | with_reducible rfl | exact ⟨rfl, rfl⟩)); simp only [Act.put, Lx.p1, Lx.p2, Lx.p3])
  first
    | (apply Lx.kc HO 2; (case hx => exact ⟨rfl, rfl, rfl⟩); (case hk => decide +kernel); (case hrun => intro w_; (go_simp <;> first | with_reducible rfl | exact ⟨rfl, rfl⟩)); (case hc => intro w_ hw_; exact rlocal_b rfl _); simp only [Act.put, Lx.p1, Lx.p2, Lx.p3])
  refine Lx.kd HO (by kernel_rfl) (fun hiv2 => hZ _ _ (fun W4 hw2 => ?_))
  clear hZ Z HO O
  have hin_ := Lib.hid (And.intro hw2 hiv2 : Lx.II _ _ _ _)
  clear hw2 hiv2
  replace HIN := Lib.hid (Lx.tk hin_.out (Lx.tk hin_.out (Lx.tk hin_.out (Lx.tk hin_.out (Lx.II.nil hin_.out.1.below) (w.heap.size) (by (repeat (first | exact Lx.ua _ _ _ | rw [Lx.un _ _ (by omega)] | rw [Lx.am])))) (w.heap.size + 1) (by (repeat (first | exact Lx.ua _ _ _ | rw [Lx.un _ _ (by omega)] | rw [Lx.am])))) (w.heap.size + 1 + 1) (by (repeat (first | exact Lx.ua _ _ _ | rw [Lx.un _ _ (by omega)] | rw [Lx.am])))) (g42_1) (by (repeat (first | exact Lx.ua _ _ _ | rw [Lx.un _ _ (by omega)] | rw [Lx.am]))))
  clear hin_
  go_upto_region 6 with fail
  refine Lx.regionS0 (by kernel_rfl) (by kernel_rfl) HIN.out.1 HIN.out.2 (by simp only [List.size_toArray, List.length_cons, List.length_nil, Nat.reduceAdd]; rfl) (fun O Z hO hZ => ?_); have HO := Lib.hid hO; clear hO
  first
    | (apply Lx.kp HO 0; (case hx => exact ⟨rfl, rfl, rfl⟩); (case hk => decide +kernel); (case hv => intro w_ hw_; (go_simp <;> first | with_reducible rfl | exact ⟨rfl, rfl⟩)); simp only [Act.put, Lx.p1, Lx.p2, Lx.p3])
  first
    | (apply Lx.kr HO 1; (case hx => exact ⟨rfl, rfl, rfl⟩); (case hk => decide +kernel); (case hv => intro w_ hw_; have P_ := hw_.holds (w.heap.size + 1) _ (by (repeat (first | exact Lx.ua _ _ _ | rw [Lx.un _ _ (by omega)] | rw [Lx.am]))); have c2 := cellAt P_ 2 rfl; have c3 := cellAt P_ 3 rfl; have c4 := cellAt P_ 4 rfl; have c5 := cellAt P_ 5 rfl; have c6 := cellAt P_ 6 rfl; have c7 := cellAt P_ 7 rfl; have c8 := cellAt P_ 8 rfl; have c9 := cellAt P_ 9 rfl; clear P_; (go_simp <;> first | with_reducible rfl | exact ⟨rfl, rfl⟩)); simp only [Act.put, Lx.p1, Lx.p2, Lx.p3])
  first
    | (apply Lx.ka HO 2; (case hx => exact ⟨rfl, rfl, rfl⟩); (case hk => decide +kernel); (case hrun => intro w_; (go_simp <;> first | with_reducible rfl | exact ⟨rfl, rfl⟩)); simp only [Act.put, Lx.p1, Lx.p2, Lx.p3])
  intro g42_2 hg_ hfr
  (repeat (first | (rw [Lx.St.add_M] at hfr) | (replace hfr := Lx.St.fresh_upd hfr; have n_ := hfr.1; replace hfr := hfr.2))); clear hfr
  first
    | (apply Lx.ks HO 3 (g := g42_2); (case hx => exact ⟨rfl, rfl, rfl⟩); (case hk => decide +kernel); (case hG => exact fun _ _ h_ _ => h_); (case hg => (repeat (first | exact Lx.ua _ _ _ | rw [Lx.un _ _ (by omega)] | rw [Lx.am]))); (case hrun => intro w_ hw_ hb_; obtain ⟨c0, c1, c2, c3, c4, c5, c6, c7⟩ := Lx.cells8 hb_; obtain ⟨d0, d1, d2, d3, d4, d5, d6, d7⟩ := Lx.froz8 hb_; refine ⟨?_, ?_, ?_, ?_⟩; rotate_left; (next => (go_simp <;> first | with_reducible rfl | rfl)); (next => (repeat (first | (with_reducible exact Lx.OnlyAt.refl _ _) | (with_reducible refine Lx.OnlyAt.set ?_ _ _)))); (next => (simp [World.setCell, Array.getElem?_modify, hb_] <;> rfl))); simp only [Act.put, Lx.p1, Lx.p2, Lx.p3])
  refine Lx.kd HO (by kernel_rfl) (fun hiv2 => hZ _ _ (fun W5 hw2 => ?_))
  clear hZ Z HO O
  have hin_ := Lib.hid (And.intro hw2 hiv2 : Lx.II _ _ _ _)
  clear hw2 hiv2
  replace HIN := Lib.hid (Lx.tk hin_.out (Lx.tk hin_.out (Lx.tk hin_.out (Lx.tk hin_.out (Lx.tk hin_.out (Lx.II.nil hin_.out.1.below) (w.heap.size) (by (repeat (first | exact Lx.ua _ _ _ | rw [Lx.un _ _ (by omega)] | rw [Lx.am])))) (w.heap.size + 1) (by (repeat (first | exact Lx.ua _ _ _ | rw [Lx.un _ _ (by omega)] | rw [Lx.am])))) (w.heap.size + 1 + 1) (by (repeat (first | exact Lx.ua _ _ _ | rw [Lx.un _ _ (by omega)] | rw [Lx.am])))) (g42_1) (by (repeat (first | exact Lx.ua _ _ _ | rw [Lx.un _ _ (by omega)] | rw [Lx.am])))) (g42_2) (by (repeat (first | exact Lx.ua _ _ _ | rw [Lx.un _ _ (by omega)] | rw [Lx.am]))))
  clear hin_
  have m1 : IntKind.i64.wrap (f.pc + 1) = f.pc + 1 := IntWalk.i64_in _ (by omega)
  go_upto_region 7 with fail
  refine Lx.regionS0 (by kernel_rfl) (by kernel_rfl) HIN.out.1 HIN.out.2 (by simp only [List.size_toArray, List.length_cons, List.length_nil, Nat.reduceAdd]; rfl) (fun O Z hO hZ => ?_); have HO := Lib.hid hO; clear hO
  first
    | (apply Lx.kp HO 0; (case hx => exact ⟨rfl, rfl, rfl⟩); (case hk => decide +kernel); (case hv => intro w_ hw_; (go_simp <;> first | with_reducible rfl | exact ⟨rfl, rfl⟩)); simp only [Act.put, Lx.p1, Lx.p2, Lx.p3])
  first
    | (apply Lx.kr HO 1; (case hx => exact ⟨rfl, rfl, rfl⟩); (case hk => decide +kernel); (case hv => intro w_ hw_; have P_ := hw_.holds (w.heap.size + 1) _ (by (repeat (first | exact Lx.ua _ _ _ | rw [Lx.un _ _ (by omega)] | rw [Lx.am]))); have c0 := cellAt P_ 0 rfl; clear P_; (go_simp <;> first | with_reducible rfl | exact ⟨rfl, rfl⟩)); simp only [Act.put, Lx.p1, Lx.p2, Lx.p3])
  first
    | (apply Lx.kp HO 2; (case hx => exact ⟨rfl, rfl, rfl⟩); (case hk => decide +kernel); (case hv => intro w_ hw_; (go_simp <;> first | with_reducible rfl | exact ⟨rfl, rfl⟩)); simp only [Act.put, Lx.p1, Lx.p2, Lx.p3])
  first
    | (apply Lx.kr HO 3; (case hx => exact ⟨rfl, rfl, rfl⟩); (case hk => decide +kernel); (case hv => intro w_ hw_; have P_ := hw_.holds (w.heap.size + 1) _ (by (repeat (first | exact Lx.ua _ _ _ | rw [Lx.un _ _ (by omega)] | rw [Lx.am]))); have c1 := cellAt P_ 1 rfl; clear P_; (go_simp <;> first | with_reducible rfl | exact ⟨rfl, rfl⟩)); simp only [Act.put, Lx.p1, Lx.p2, Lx.p3])
  first
    | (apply Lx.kp HO 4; (case hx => exact ⟨rfl, rfl, rfl⟩); (case hk => decide +kernel); (case hv => intro w_ hw_; (go_simp <;> first | with_reducible rfl | exact ⟨rfl, rfl⟩)); simp only [Act.put, Lx.p1, Lx.p2, Lx.p3])
  first
    | (apply Lx.kr HO 5; (case hx => exact ⟨rfl, rfl, rfl⟩); (case hk => decide +kernel); (case hv => intro w_ hw_; have P_ := hw_.holds (g42_2) _ (by (repeat (first | exact Lx.ua _ _ _ | rw [Lx.un _ _ (by omega)] | rw [Lx.am]))); obtain ⟨c0, c1, c2, c3, c4, c5, c6, c7⟩ := Lx.cells8 P_; clear P_; (go_simp <;> first | with_reducible rfl | exact ⟨rfl, rfl⟩)); simp only [Act.put, Lx.p1, Lx.p2, Lx.p3])
  first
    | (apply Lx.kp HO 6; (case hx => exact ⟨rfl, rfl, rfl⟩); (case hk => decide +kernel); (case hv => intro w_ hw_; (go_simp <;> first | with_reducible rfl | exact ⟨rfl, rfl⟩)); simp only [Act.put, Lx.p1, Lx.p2, Lx.p3])
  first
    | (apply Lx.ka HO 7; (case hx => exact ⟨rfl, rfl, rfl⟩); (case hk => decide +kernel); (case hrun => intro w_; (go_simp <;> first | with_reducible rfl | exact ⟨rfl, rfl⟩)); simp only [Act.put, Lx.p1, Lx.p2, Lx.p3])
  intro g42_3 hg_ hfr
  (repeat (first | (rw [Lx.St.add_M] at hfr) | (replace hfr := Lx.St.fresh_upd hfr; have n_ := hfr.1; replace hfr := hfr.2))); clear hfr
  first
    | (apply Lx.ks HO 8 (g := g42_3); (case hx => exact ⟨rfl, rfl, rfl⟩); (case hk => decide +kernel); (case hG => exact fun _ _ h_ _ => h_); (case hg => (repeat (first | exact Lx.ua _ _ _ | rw [Lx.un _ _ (by omega)] | rw [Lx.am]))); (case hrun => intro w_ hw_ hb_; obtain ⟨c0, c1, c2, c3, c4, c5, c6, c7, c8, c9⟩ := Lx.cells10 hb_; obtain ⟨d0, d1, d2, d3, d4, d5, d6, d7, d8, d9⟩ := Lx.froz10 hb_; refine ⟨?_, ?_, ?_, ?_⟩; rotate_left; (next => (go_simp <;> first | with_reducible rfl | rfl)); (next => (repeat (first | (with_reducible exact Lx.OnlyAt.refl _ _) | (with_reducible refine Lx.OnlyAt.set ?_ _ _)))); (next => (simp [World.setCell, Array.getElem?_modify, hb_] <;> rfl))); simp only [Act.put, Lx.p1, Lx.p2, Lx.p3])
  refine Lx.kd HO (by kernel_rfl) (fun hiv2 => hZ _ _ (fun W6 hw2 => ?_))
  clear hZ Z HO O
  have hin_ := Lib.hid (And.intro hw2 hiv2 : Lx.II _ _ _ _)
  clear hw2 hiv2
  replace HIN := Lib.hid (Lx.tk hin_.out (Lx.tk hin_.out (Lx.tk hin_.out (Lx.tk hin_.out (Lx.tk hin_.out (Lx.tk hin_.out (Lx.II.nil hin_.out.1.below) (w.heap.size) (by (repeat (first | exact Lx.ua _ _ _ | rw [Lx.un _ _ (by omega)] | rw [Lx.am])))) (w.heap.size + 1) (by (repeat (first | exact Lx.ua _ _ _ | rw [Lx.un _ _ (by omega)] | rw [Lx.am])))) (w.heap.size + 1 + 1) (by (repeat (first | exact Lx.ua _ _ _ | rw [Lx.un _ _ (by omega)] | rw [Lx.am])))) (g42_1) (by (repeat (first | exact Lx.ua _ _ _ | rw [Lx.un _ _ (by omega)] | rw [Lx.am])))) (g42_2) (by (repeat (first | exact Lx.ua _ _ _ | rw [Lx.un _ _ (by omega)] | rw [Lx.am])))) (g42_3) (by (repeat (first | exact Lx.ua _ _ _ | rw [Lx.un _ _ (by omega)] | rw [Lx.am]))))
  clear hin_
  clear m1
  go_upto_region 8 with fail
  refine Lx.regionS0 (by kernel_rfl) (by kernel_rfl) HIN.out.1 HIN.out.2 (by simp only [List.size_toArray, List.length_cons, List.length_nil, Nat.reduceAdd]; rfl) (fun O Z hO hZ => ?_); have HO := Lib.hid hO; clear hO
  first
    | (apply Lx.kp HO 0; (case hx => exact ⟨rfl, rfl, rfl⟩); (case hk => decide +kernel); (case hv => intro w_ hw_; (go_simp <;> first | with_reducible rfl | exact ⟨rfl, rfl⟩)); simp only [Act.put, Lx.p1, Lx.p2, Lx.p3])
  first
    | (apply Lx.kr HO 1; (case hx => exact ⟨rfl, rfl, rfl⟩); (case hk => decide +kernel); (case hv => intro w_ hw_; have P_ := hw_.holds (g42_1) _ (by (repeat (first | exact Lx.ua _ _ _ | rw [Lx.un _ _ (by omega)] | rw [Lx.am]))); have c0 := cellAt P_ 0 rfl; clear P_; (go_simp <;> first | with_reducible rfl | exact ⟨rfl, rfl⟩)); simp only [Act.put, Lx.p1, Lx.p2, Lx.p3])
  first
    | (apply Lx.kp HO 2; (case hx => exact ⟨rfl, rfl, rfl⟩); (case hk => decide +kernel); (case hv => intro w_ hw_; (go_simp <;> first | with_reducible rfl | exact ⟨rfl, rfl⟩)); simp only [Act.put, Lx.p1, Lx.p2, Lx.p3])
  refine Lx.kd HO (by kernel_rfl) (fun hiv2 => hZ _ _ (fun W7 hw2 => ?_))
  clear hZ Z HO O
  have hin_ := Lib.hid (And.intro hw2 hiv2 : Lx.II _ _ _ _)
  clear hw2 hiv2
  replace HIN := Lib.hid (Lx.tk hin_.out (Lx.tk hin_.out (Lx.tk hin_.out (Lx.tk hin_.out (Lx.tk hin_.out (Lx.tk hin_.out (Lx.II.nil hin_.out.1.below) (w.heap.size) (by (repeat (first | exact Lx.ua _ _ _ | rw [Lx.un _ _ (by omega)] | rw [Lx.am])))) (w.heap.size + 1) (by (repeat (first | exact Lx.ua _ _ _ | rw [Lx.un _ _ (by omega)] | rw [Lx.am])))) (w.heap.size + 1 + 1) (by (repeat (first | exact Lx.ua _ _ _ | rw [Lx.un _ _ (by omega)] | rw [Lx.am])))) (g42_1) (by (repeat (first | exact Lx.ua _ _ _ | rw [Lx.un _ _ (by omega)] | rw [Lx.am])))) (g42_2) (by (repeat (first | exact Lx.ua _ _ _ | rw [Lx.un _ _ (by omega)] | rw [Lx.am])))) (g42_3) (by (repeat (first | exact Lx.ua _ _ _ | rw [Lx.un _ _ (by omega)] | rw [Lx.am]))))
  clear hin_
  go_upto_region 16 with fail
  refine Lx.regionS0 (by kernel_rfl) (by kernel_rfl) HIN.out.1 HIN.out.2 (by simp only [List.size_toArray, List.length_cons, List.length_nil, Nat.reduceAdd]; rfl) (fun O Z hO hZ => ?_); have HO := Lib.hid hO; clear hO
  first
    | (apply Lx.kp HO 0; (case hx => exact ⟨rfl, rfl, rfl⟩); (case hk => decide +kernel); (case hv => intro w_ hw_; (go_simp <;> first | with_reducible rfl | exact ⟨rfl, rfl⟩)); simp only [Act.put, Lx.p1, Lx.p2, Lx.p3])
  first
    | (apply Lx.kr HO 1; (case hx => exact ⟨rfl, rfl, rfl⟩); (case hk => decide +kernel); (case hv => intro w_ hw_; have P_ := hw_.holds (w.heap.size) _ (by (repeat (first | exact Lx.ua _ _ _ | rw [Lx.un _ _ (by omega)] | rw [Lx.am]))); have c2 := cellAt P_ 2 rfl; clear P_; (go_simp <;> first | with_reducible rfl | exact ⟨rfl, rfl⟩)); simp only [Act.put, Lx.p1, Lx.p2, Lx.p3])
  first
    | (apply Lx.kp HO 2; (case hx => exact ⟨rfl, rfl, rfl⟩); (case hk => decide +kernel); (case hv => intro w_ hw_; (go_simp <;> first | with_reducible rfl | exact ⟨rfl, rfl⟩)); simp only [Act.put, Lx.p1, Lx.p2, Lx.p3])
  first
    | (apply Lx.kr HO 3; (case hx => exact ⟨rfl, rfl, rfl⟩); (case hk => decide +kernel); (case hv => intro w_ hw_; have P_ := hw_.holds (g42_1) _ (by (repeat (first | exact Lx.ua _ _ _ | rw [Lx.un _ _ (by omega)] | rw [Lx.am]))); have c4 := cellAt P_ 4 rfl; clear P_; (go_simp <;> first | with_reducible rfl | exact ⟨rfl, rfl⟩)); simp only [Act.put, Lx.p1, Lx.p2, Lx.p3])
  first
    | (apply Lx.kp HO 4; (case hx => exact ⟨rfl, rfl, rfl⟩); (case hk => decide +kernel); (case hv => intro w_ hw_; (go_simp <;> first | with_reducible rfl | exact ⟨rfl, rfl⟩)); simp only [Act.put, Lx.p1, Lx.p2, Lx.p3])
  first
    | (apply Lx.kr HO 5; (case hx => exact ⟨rfl, rfl, rfl⟩); (case hk => decide +kernel); (case hv => intro w_ hw_; have q0 := Below.at hw_.below gs0 hb; have q1 := Below.at hw_.below gs1 hb; (go_simp <;> first | with_reducible rfl | exact ⟨rfl, rfl⟩)); simp only [Act.put, Lx.p1, Lx.p2, Lx.p3])
  first
    | (apply Lx.ka HO 6; (case hx => exact ⟨rfl, rfl, rfl⟩); (case hk => decide +kernel); (case hrun => intro w_; (go_simp <;> first | with_reducible rfl | exact ⟨rfl, rfl⟩)); simp only [Act.put, Lx.p1, Lx.p2, Lx.p3])
  intro g42_4 hg_ hfr
  (repeat (first | (rw [Lx.St.add_M] at hfr) | (replace hfr := Lx.St.fresh_upd hfr; have n_ := hfr.1; replace hfr := hfr.2))); clear hfr
  first
    | (apply Lx.ks HO 7 (g := g42_4); (case hx => exact ⟨rfl, rfl, rfl⟩); (case hk => decide +kernel); (case hG => exact fun _ _ h_ _ => h_); (case hg => (repeat (first | exact Lx.ua _ _ _ | rw [Lx.un _ _ (by omega)] | rw [Lx.am]))); (case hrun => intro w_ hw_ hb_; obtain ⟨c0, c1⟩ := Lx.cells2 hb_; obtain ⟨d0, d1⟩ := Lx.froz2 hb_; refine ⟨?_, ?_, ?_, ?_⟩; rotate_left; (next => (go_simp <;> first | with_reducible rfl | rfl)); (next => (repeat (first | (with_reducible exact Lx.OnlyAt.refl _ _) | (with_reducible refine Lx.OnlyAt.set ?_ _ _)))); (next => (simp [World.setCell, Array.getElem?_modify, hb_] <;> rfl))); simp only [Act.put, Lx.p1, Lx.p2, Lx.p3])
  refine Lx.kd HO (by kernel_rfl) (fun hiv2 => hZ _ _ (fun W8 hw2 => ?_))
  clear hZ Z HO O
  have hin_ := Lib.hid (And.intro hw2 hiv2 : Lx.II _ _ _ _)
  clear hw2 hiv2
  replace HIN := Lib.hid (Lx.tk hin_.out (Lx.tk hin_.out (Lx.tk hin_.out (Lx.tk hin_.out (Lx.tk hin_.out (Lx.tk hin_.out (Lx.tk hin_.out (Lx.II.nil hin_.out.1.below) (w.heap.size) (by (repeat (first | exact Lx.ua _ _ _ | rw [Lx.un _ _ (by omega)] | rw [Lx.am])))) (w.heap.size + 1) (by (repeat (first | exact Lx.ua _ _ _ | rw [Lx.un _ _ (by omega)] | rw [Lx.am])))) (w.heap.size + 1 + 1) (by (repeat (first | exact Lx.ua _ _ _ | rw [Lx.un _ _ (by omega)] | rw [Lx.am])))) (g42_1) (by (repeat (first | exact Lx.ua _ _ _ | rw [Lx.un _ _ (by omega)] | rw [Lx.am])))) (g42_2) (by (repeat (first | exact Lx.ua _ _ _ | rw [Lx.un _ _ (by omega)] | rw [Lx.am])))) (g42_3) (by (repeat (first | exact Lx.ua _ _ _ | rw [Lx.un _ _ (by omega)] | rw [Lx.am])))) (g42_4) (by (repeat (first | exact Lx.ua _ _ _ | rw [Lx.un _ _ (by omega)] | rw [Lx.am]))))
  clear hin_
  have hd0 : decide ((m : Int) < 0) = false := by simp
  have hd1 : decide ((s.cases.length : Int) < (m : Int)) = false := by simp; omega
  have hd2 : ((m : Int) == (s.cases.length : Int)) = false := by simp; omega
  have hd3 : decide ((m : Int) < (s.cases.length : Int)) = true := by simpa using hk
  have hd4 : decide (s.cases.length < m) = false := by simp; omega
  have hd5 : decide (m < s.cases.length) = true := by simpa using hk
  have e3 : (0 : Int) ≤ (m : Int) := by omega
  have e4 : (m : Int) < s.cases.length := by omega
  go_upto_region 17 with fail
  refine Lx.regionS0 (by kernel_rfl) (by kernel_rfl) HIN.out.1 HIN.out.2 (by simp only [List.size_toArray, List.length_cons, List.length_nil, Nat.reduceAdd]; rfl) (fun O Z hO hZ => ?_); have HO := Lib.hid hO; clear hO
  first
    | (apply Lx.kp HO 0; (case hx => exact ⟨rfl, rfl, rfl⟩); (case hk => decide +kernel); (case hv => intro w_ hw_; (go_simp <;> first | with_reducible rfl | exact ⟨rfl, rfl⟩)); simp only [Act.put, Lx.p1, Lx.p2, Lx.p3])
  first
    | (apply Lx.kp HO 1; (case hx => exact ⟨rfl, rfl, rfl⟩); (case hk => decide +kernel); (case hv => intro w_ hw_; (go_simp <;> first | with_reducible rfl | exact ⟨rfl, rfl⟩)); simp only [Act.put, Lx.p1, Lx.p2, Lx.p3])
  first
    | (apply Lx.kp HO 2; (case hx => exact ⟨rfl, rfl, rfl⟩); (case hk => decide +kernel); (case hv => intro w_ hw_; (go_simp <;> first | with_reducible rfl | exact ⟨rfl, rfl⟩)); simp only [Act.put, Lx.p1, Lx.p2, Lx.p3])
  first
    | (apply Lx.kk HO 3; (case hx => exact ⟨rfl, rfl⟩); (case hk => decide +kernel); simp only [Act.put, Lx.p1, Lx.p2, Lx.p3])
    | (apply Lx.kp HO 3; (case hx => exact ⟨rfl, rfl, rfl⟩); (case hk => decide +kernel); (case hv => intro w_ hw_; (go_simp <;> first | with_reducible rfl | exact ⟨rfl, rfl⟩)); simp only [Act.put, Lx.p1, Lx.p2, Lx.p3])
  first
    | (apply Lx.kk HO 4; (case hx => exact ⟨rfl, rfl⟩); (case hk => decide +kernel); simp only [Act.put, Lx.p1, Lx.p2, Lx.p3])
    | (apply Lx.kp HO 4; (case hx => exact ⟨rfl, rfl, rfl⟩); (case hk => decide +kernel); (case hv => intro w_ hw_; (go_simp <;> first | with_reducible rfl | exact ⟨rfl, rfl⟩)); simp only [Act.put, Lx.p1, Lx.p2, Lx.p3])
  first
    | (apply Lx.kk HO 5; (case hx => exact ⟨rfl, rfl⟩); (case hk => decide +kernel); simp only [Act.put, Lx.p1, Lx.p2, Lx.p3])
    | (apply Lx.kr HO 5; (case hx => exact ⟨rfl, rfl, rfl⟩); (case hk => decide +kernel); (case hv => intro w_ hw_; have P_ := hw_.holds (g42_4) _ (by (repeat (first | exact Lx.ua _ _ _ | rw [Lx.un _ _ (by omega)] | rw [Lx.am]))); have c0 := cellAt P_ 0 rfl; clear P_; (go_simp <;> first | with_reducible rfl | exact ⟨rfl, rfl⟩)); simp only [Act.put, Lx.p1, Lx.p2, Lx.p3])
  first
    | (apply Lx.kk HO 6; (case hx => exact ⟨rfl, rfl⟩); (case hk => decide +kernel); simp only [Act.put, Lx.p1, Lx.p2, Lx.p3])
    | (apply Lx.kr HO 6; (case hx => exact ⟨rfl, rfl, rfl⟩); (case hk => decide +kernel); (case hv => intro w_ hw_; skip; (go_simp <;> first | with_reducible rfl | exact ⟨rfl, rfl⟩)); simp only [Act.put, Lx.p1, Lx.p2, Lx.p3])
  first
    | (apply Lx.kk HO 7; (case hx => exact ⟨rfl, rfl⟩); (case hk => decide +kernel); simp only [Act.put, Lx.p1, Lx.p2, Lx.p3])
    | (apply Lx.kp HO 7; (case hx => exact ⟨rfl, rfl, rfl⟩); (case hk => decide +kernel); (case hv => intro w_ hw_; (go_simp <;> first | with_reducible rfl | exact ⟨rfl, rfl⟩)); simp only [Act.put, Lx.p1, Lx.p2, Lx.p3])
  first
    | (apply Lx.kp HO 8; (case hx => exact ⟨rfl, rfl, rfl⟩); (case hk => decide +kernel); (case hv => intro w_ hw_; (go_simp <;> first | with_reducible rfl | exact ⟨rfl, rfl⟩)); simp only [Act.put, Lx.p1, Lx.p2, Lx.p3])
  first
    | (apply Lx.kp HO 9; (case hx => exact ⟨rfl, rfl, rfl⟩); (case hk => decide +kernel); (case hv => intro w_ hw_; (go_simp <;> first | with_reducible rfl | exact ⟨rfl, rfl⟩)); simp only [Act.put, Lx.p1, Lx.p2, Lx.p3])
  first
    | (apply Lx.kk HO 10; (case hx => exact ⟨rfl, rfl⟩); (case hk => decide +kernel); simp only [Act.put, Lx.p1, Lx.p2, Lx.p3])
    | (apply Lx.kp HO 10; (case hx => exact ⟨rfl, rfl, rfl⟩); (case hk => decide +kernel); (case hv => intro w_ hw_; (go_simp <;> first | with_reducible rfl | exact ⟨rfl, rfl⟩)); simp only [Act.put, Lx.p1, Lx.p2, Lx.p3])
  first
    | (apply Lx.kk HO 11; (case hx => exact ⟨rfl, rfl⟩); (case hk => decide +kernel); simp only [Act.put, Lx.p1, Lx.p2, Lx.p3])
    | (apply Lx.kp HO 11; (case hx => exact ⟨rfl, rfl, rfl⟩); (case hk => decide +kernel); (case hv => intro w_ hw_; (go_simp <;> first | with_reducible rfl | exact ⟨rfl, rfl⟩)); simp only [Act.put, Lx.p1, Lx.p2, Lx.p3])
  first
    | (apply Lx.kk HO 12; (case hx => exact ⟨rfl, rfl⟩); (case hk => decide +kernel); simp only [Act.put, Lx.p1, Lx.p2, Lx.p3])
    | (apply Lx.kr HO 12; (case hx => exact ⟨rfl, rfl, rfl⟩); (case hk => decide +kernel); (case hv => intro w_ hw_; have P_ := hw_.holds (g42_4) _ (by (repeat (first | exact Lx.ua _ _ _ | rw [Lx.un _ _ (by omega)] | rw [Lx.am]))); have c0 := cellAt P_ 0 rfl; clear P_; (go_simp <;> first | with_reducible rfl | exact ⟨rfl, rfl⟩)); simp only [Act.put, Lx.p1, Lx.p2, Lx.p3])
  first
    | (apply Lx.kk HO 13; (case hx => exact ⟨rfl, rfl⟩); (case hk => decide +kernel); simp only [Act.put, Lx.p1, Lx.p2, Lx.p3])
    | (apply Lx.kr HO 13; (case hx => exact ⟨rfl, rfl, rfl⟩); (case hk => decide +kernel); (case hv => intro w_ hw_; skip; (go_simp <;> first | with_reducible rfl | exact ⟨rfl, rfl⟩)); simp only [Act.put, Lx.p1, Lx.p2, Lx.p3])
  first
    | (apply Lx.kk HO 14; (case hx => exact ⟨rfl, rfl⟩); (case hk => decide +kernel); simp only [Act.put, Lx.p1, Lx.p2, Lx.p3])
    | (apply Lx.kp HO 14; (case hx => exact ⟨rfl, rfl, rfl⟩); (case hk => decide +kernel); (case hv => intro w_ hw_; (go_simp <;> first | with_reducible rfl | exact ⟨rfl, rfl⟩)); simp only [Act.put, Lx.p1, Lx.p2, Lx.p3])
  first
    | (apply Lx.kk HO 15; (case hx => exact ⟨rfl, rfl⟩); (case hk => decide +kernel); simp only [Act.put, Lx.p1, Lx.p2, Lx.p3])
    | (apply Lx.kp HO 15; (case hx => exact ⟨rfl, rfl, rfl⟩); (case hk => decide +kernel); (case hv => intro w_ hw_; (go_simp <;> first | with_reducible rfl | exact ⟨rfl, rfl⟩)); simp only [Act.put, Lx.p1, Lx.p2, Lx.p3])
  first
    | (apply Lx.kk HO 16; (case hx => exact ⟨rfl, rfl⟩); (case hk => decide +kernel); simp only [Act.put, Lx.p1, Lx.p2, Lx.p3])
    | (apply Lx.kp HO 16; (case hx => exact ⟨rfl, rfl, rfl⟩); (case hk => decide +kernel); (case hv => intro w_ hw_; (go_simp <;> first | with_reducible rfl | exact ⟨rfl, rfl⟩)); simp only [Act.put, Lx.p1, Lx.p2, Lx.p3])
  first
    | (apply Lx.kk HO 17; (case hx => exact ⟨rfl, rfl⟩); (case hk => decide +kernel); simp only [Act.put, Lx.p1, Lx.p2, Lx.p3])
    | (apply Lx.kr HO 17; (case hx => exact ⟨rfl, rfl, rfl⟩); (case hk => decide +kernel); (case hv => intro w_ hw_; have P_ := hw_.holds (g42_4) _ (by (repeat (first | exact Lx.ua _ _ _ | rw [Lx.un _ _ (by omega)] | rw [Lx.am]))); have c1 := cellAt P_ 1 rfl; clear P_; (go_simp <;> first | with_reducible rfl | exact ⟨rfl, rfl⟩)); simp only [Act.put, Lx.p1, Lx.p2, Lx.p3])
  first
    | (apply Lx.kk HO 18; (case hx => exact ⟨rfl, rfl⟩); (case hk => decide +kernel); simp only [Act.put, Lx.p1, Lx.p2, Lx.p3])
    | (apply Lx.kp HO 18; (case hx => exact ⟨rfl, rfl, rfl⟩); (case hk => decide +kernel); (case hv => intro w_ hw_; (go_simp <;> first | with_reducible rfl | exact ⟨rfl, rfl⟩)); simp only [Act.put, Lx.p1, Lx.p2, Lx.p3])
  first
    | (apply Lx.kk HO 19; (case hx => exact ⟨rfl, rfl⟩); (case hk => decide +kernel); simp only [Act.put, Lx.p1, Lx.p2, Lx.p3])
    | (apply Lx.kp HO 19; (case hx => exact ⟨rfl, rfl, rfl⟩); (case hk => decide +kernel); (case hv => intro w_ hw_; (go_simp <;> first | with_reducible rfl | exact ⟨rfl, rfl⟩)); simp only [Act.put, Lx.p1, Lx.p2, Lx.p3])
  first
    | (apply Lx.kp HO 20; (case hx => exact ⟨rfl, rfl, rfl⟩); (case hk => decide +kernel); (case hv => intro w_ hw_; (go_simp <;> first | with_reducible rfl | exact ⟨rfl, rfl⟩)); simp only [Act.put, Lx.p1, Lx.p2, Lx.p3])
  refine Lx.kd HO (by kernel_rfl) (fun hiv2 => hZ _ _ (fun W9 hw2 => ?_))
  clear hZ Z HO O
  have hin_ := Lib.hid (And.intro hw2 hiv2 : Lx.II _ _ _ _)
  clear hw2 hiv2
  replace HIN := Lib.hid (Lx.tk hin_.out (Lx.tk hin_.out (Lx.tk hin_.out (Lx.tk hin_.out (Lx.tk hin_.out (Lx.tk hin_.out (Lx.tk hin_.out (Lx.II.nil hin_.out.1.below) (w.heap.size) (by (repeat (first | exact Lx.ua _ _ _ | rw [Lx.un _ _ (by omega)] | rw [Lx.am])))) (w.heap.size + 1) (by (repeat (first | exact Lx.ua _ _ _ | rw [Lx.un _ _ (by omega)] | rw [Lx.am])))) (w.heap.size + 1 + 1) (by (repeat (first | exact Lx.ua _ _ _ | rw [Lx.un _ _ (by omega)] | rw [Lx.am])))) (g42_1) (by (repeat (first | exact Lx.ua _ _ _ | rw [Lx.un _ _ (by omega)] | rw [Lx.am])))) (g42_2) (by (repeat (first | exact Lx.ua _ _ _ | rw [Lx.un _ _ (by omega)] | rw [Lx.am])))) (g42_3) (by (repeat (first | exact Lx.ua _ _ _ | rw [Lx.un _ _ (by omega)] | rw [Lx.am])))) (g42_4) (by (repeat (first | exact Lx.ua _ _ _ | rw [Lx.un _ _ (by omega)] | rw [Lx.am]))))
  clear hin_
  go_upto_region 19 with fail
  refine Lx.regionS0 (by kernel_rfl) (by kernel_rfl) HIN.out.1 HIN.out.2 (by simp only [List.size_toArray, List.length_cons, List.length_nil, Nat.reduceAdd]; rfl) (fun O Z hO hZ => ?_); have HO := Lib.hid hO; clear hO
  first
    | (apply Lx.kp HO 0; (case hx => exact ⟨rfl, rfl, rfl⟩); (case hk => decide +kernel); (case hv => intro w_ hw_; (go_simp <;> first | with_reducible rfl | exact ⟨rfl, rfl⟩)); simp only [Act.put, Lx.p1, Lx.p2, Lx.p3])
  first
    | (apply Lx.kp HO 1; (case hx => exact ⟨rfl, rfl, rfl⟩); (case hk => decide +kernel); (case hv => intro w_ hw_; (go_simp <;> first | with_reducible rfl | exact ⟨rfl, rfl⟩)); simp only [Act.put, Lx.p1, Lx.p2, Lx.p3])
  first
    | (apply Lx.kr HO 2; (case hx => exact ⟨rfl, rfl, rfl⟩); (case hk => decide +kernel); (case hv => intro w_ hw_; have P_ := hw_.holds (g42_4) _ (by (repeat (first | exact Lx.ua _ _ _ | rw [Lx.un _ _ (by omega)] | rw [Lx.am]))); have c0 := cellAt P_ 0 rfl; clear P_; (go_simp <;> first | with_reducible rfl | exact ⟨rfl, rfl⟩)); simp only [Act.put, Lx.p1, Lx.p2, Lx.p3])
  first
    | (apply Lx.kr HO 3; (case hx => exact ⟨rfl, rfl, rfl⟩); (case hk => decide +kernel); (case hv => intro w_ hw_; skip; (go_simp <;> first | with_reducible rfl | exact ⟨rfl, rfl⟩)); simp only [Act.put, Lx.p1, Lx.p2, Lx.p3])
  first
    | (apply Lx.kp HO 4; (case hx => exact ⟨rfl, rfl, rfl⟩); (case hk => decide +kernel); (case hv => intro w_ hw_; (go_simp <;> first | with_reducible rfl | exact ⟨rfl, rfl⟩)); simp only [Act.put, Lx.p1, Lx.p2, Lx.p3])
  first
    | (apply Lx.kp HO 5; (case hx => exact ⟨rfl, rfl, rfl⟩); (case hk => decide +kernel); (case hv => intro w_ hw_; (go_simp <;> first | with_reducible rfl | exact ⟨rfl, rfl⟩)); simp only [Act.put, Lx.p1, Lx.p2, Lx.p3])
  first
    | (apply Lx.kk HO 6; (case hx => exact ⟨rfl, rfl⟩); (case hk => decide +kernel); simp only [Act.put, Lx.p1, Lx.p2, Lx.p3])
    | (apply Lx.kp HO 6; (case hx => exact ⟨rfl, rfl, rfl⟩); (case hk => decide +kernel); (case hv => intro w_ hw_; (go_simp <;> first | with_reducible rfl | exact ⟨rfl, rfl⟩)); simp only [Act.put, Lx.p1, Lx.p2, Lx.p3])
  first
    | (apply Lx.kk HO 7; (case hx => exact ⟨rfl, rfl⟩); (case hk => decide +kernel); simp only [Act.put, Lx.p1, Lx.p2, Lx.p3])
    | (apply Lx.kr HO 7; (case hx => exact ⟨rfl, rfl, rfl⟩); (case hk => decide +kernel); (case hv => intro w_ hw_; have P_ := hw_.holds (g42_4) _ (by (repeat (first | exact Lx.ua _ _ _ | rw [Lx.un _ _ (by omega)] | rw [Lx.am]))); have c0 := cellAt P_ 0 rfl; clear P_; (go_simp <;> first | with_reducible rfl | exact ⟨rfl, rfl⟩)); simp only [Act.put, Lx.p1, Lx.p2, Lx.p3])
  first
    | (apply Lx.kk HO 8; (case hx => exact ⟨rfl, rfl⟩); (case hk => decide +kernel); simp only [Act.put, Lx.p1, Lx.p2, Lx.p3])
    | (apply Lx.kp HO 8; (case hx => exact ⟨rfl, rfl, rfl⟩); (case hk => decide +kernel); (case hv => intro w_ hw_; (go_simp <;> first | with_reducible rfl | exact ⟨rfl, rfl⟩)); simp only [Act.put, Lx.p1, Lx.p2, Lx.p3])
  first
    | (apply Lx.kk HO 9; (case hx => exact ⟨rfl, rfl⟩); (case hk => decide +kernel); simp only [Act.put, Lx.p1, Lx.p2, Lx.p3])
    | (apply Lx.kp HO 9; (case hx => exact ⟨rfl, rfl, rfl⟩); (case hk => decide +kernel); (case hv => intro w_ hw_; (go_simp <;> first | with_reducible rfl | exact ⟨rfl, rfl⟩)); simp only [Act.put, Lx.p1, Lx.p2, Lx.p3])
  first
    | (apply Lx.kk HO 10; (case hx => exact ⟨rfl, rfl⟩); (case hk => decide +kernel); simp only [Act.put, Lx.p1, Lx.p2, Lx.p3])
    | (apply Lx.kp HO 10; (case hx => exact ⟨rfl, rfl, rfl⟩); (case hk => decide +kernel); (case hv => intro w_ hw_; (go_simp <;> first | with_reducible rfl | exact ⟨rfl, rfl⟩)); simp only [Act.put, Lx.p1, Lx.p2, Lx.p3])
  first
    | (apply Lx.kk HO 11; (case hx => exact ⟨rfl, rfl⟩); (case hk => decide +kernel); simp only [Act.put, Lx.p1, Lx.p2, Lx.p3])
    | ((first | (apply Lx.kk HO 11; (case hx => exact ⟨rfl, rfl⟩); (case hk => decide +kernel); simp only [Act.put, Lx.p1, Lx.p2, Lx.p3]) | (apply Lx.kr HO 11; (case hx => exact ⟨rfl, rfl, rfl⟩); (case hk => decide +kernel); (case hv => intro w_ hw_; have q0 := Below.at hw_.below gc0 hb4; (go_simp <;> first | with_reducible rfl | exact ⟨rfl, rfl⟩)); simp only [Act.put, Lx.p1, Lx.p2, Lx.p3])))
  first
    | (apply Lx.kk HO 12; (case hx => exact ⟨rfl, rfl⟩); (case hk => decide +kernel); simp only [Act.put, Lx.p1, Lx.p2, Lx.p3])
    | (apply Lx.kp HO 12; (case hx => exact ⟨rfl, rfl, rfl⟩); (case hk => decide +kernel); (case hv => intro w_ hw_; (go_simp <;> first | with_reducible rfl | exact ⟨rfl, rfl⟩)); simp only [Act.put, Lx.p1, Lx.p2, Lx.p3])
  first
    | (apply Lx.kp HO 13; (case hx => exact ⟨rfl, rfl, rfl⟩); (case hk => decide +kernel); (case hv => intro w_ hw_; (go_simp <;> first | with_reducible rfl | exact ⟨rfl, rfl⟩)); simp only [Act.put, Lx.p1, Lx.p2, Lx.p3])
  refine Lx.kd HO (by kernel_rfl) (fun hiv2 => hZ _ _ (fun W10 hw2 => ?_))
  clear hZ Z HO O
  have hin_ := Lib.hid (And.intro hw2 hiv2 : Lx.II _ _ _ _)
  clear hw2 hiv2
  replace HIN := Lib.hid (Lx.tk hin_.out (Lx.tk hin_.out (Lx.tk hin_.out (Lx.tk hin_.out (Lx.tk hin_.out (Lx.tk hin_.out (Lx.tk hin_.out (Lx.II.nil hin_.out.1.below) (w.heap.size) (by (repeat (first | exact Lx.ua _ _ _ | rw [Lx.un _ _ (by omega)] | rw [Lx.am])))) (w.heap.size + 1) (by (repeat (first | exact Lx.ua _ _ _ | rw [Lx.un _ _ (by omega)] | rw [Lx.am])))) (w.heap.size + 1 + 1) (by (repeat (first | exact Lx.ua _ _ _ | rw [Lx.un _ _ (by omega)] | rw [Lx.am])))) (g42_1) (by (repeat (first | exact Lx.ua _ _ _ | rw [Lx.un _ _ (by omega)] | rw [Lx.am])))) (g42_2) (by (repeat (first | exact Lx.ua _ _ _ | rw [Lx.un _ _ (by omega)] | rw [Lx.am])))) (g42_3) (by (repeat (first | exact Lx.ua _ _ _ | rw [Lx.un _ _ (by omega)] | rw [Lx.am])))) (g42_4) (by (repeat (first | exact Lx.ua _ _ _ | rw [Lx.un _ _ (by omega)] | rw [Lx.am]))))
  clear hin_
  go_upto_region 21 with fail
  refine Lx.regionS0 (by kernel_rfl) (by kernel_rfl) HIN.out.1 HIN.out.2 (by simp only [List.size_toArray, List.length_cons, List.length_nil, Nat.reduceAdd]; rfl) (fun O Z hO hZ => ?_); have HO := Lib.hid hO; clear hO
  first
    | (apply Lx.kr HO 0; (case hx => exact ⟨rfl, rfl, rfl⟩); (case hk => decide +kernel); (case hv => intro w_ hw_; have P_ := hw_.holds (g42_2) _ (by (repeat (first | exact Lx.ua _ _ _ | rw [Lx.un _ _ (by omega)] | rw [Lx.am]))); obtain ⟨c0, c1, c2, c3, c4, c5, c6, c7⟩ := Lx.cells8 P_; clear P_; (go_simp <;> first | with_reducible rfl | exact ⟨rfl, rfl⟩)); simp only [Act.put, Lx.p1, Lx.p2, Lx.p3])
  first
    | (apply Lx.kp HO 1; (case hx => exact ⟨rfl, rfl, rfl⟩); (case hk => decide +kernel); (case hv => intro w_ hw_; (go_simp <;> first | with_reducible rfl | exact ⟨rfl, rfl⟩)); simp only [Act.put, Lx.p1, Lx.p2, Lx.p3])
  first
    | (apply Lx.kr HO 2; (case hx => exact ⟨rfl, rfl, rfl⟩); (case hk => decide +kernel); (case hv => intro w_ hw_; have P_ := hw_.holds (g42_1) _ (by (repeat (first | exact Lx.ua _ _ _ | rw [Lx.un _ _ (by omega)] | rw [Lx.am]))); have c2 := cellAt P_ 2 rfl; clear P_; (go_simp <;> first | with_reducible rfl | exact ⟨rfl, rfl⟩)); simp only [Act.put, Lx.p1, Lx.p2, Lx.p3])
  first
    | (apply Lx.kp HO 3; (case hx => exact ⟨rfl, rfl, rfl⟩); (case hk => decide +kernel); (case hv => intro w_ hw_; (go_simp <;> first | with_reducible rfl | exact ⟨rfl, rfl⟩)); simp only [Act.put, Lx.p1, Lx.p2, Lx.p3])
  first
    | (apply Lx.kc HO 4; (case hx => exact ⟨rfl, rfl, rfl⟩); (case hk => decide +kernel); (case hrun => intro w_; (go_simp <;> first | with_reducible rfl | exact ⟨rfl, rfl⟩)); (case hc => intro w_ hw_; exact put_any f.r nb (m : Int) hf nb8 _); simp only [Act.put, Lx.p1, Lx.p2, Lx.p3])
  first
    | (apply Lx.kp HO 5; (case hx => exact ⟨rfl, rfl, rfl⟩); (case hk => decide +kernel); (case hv => intro w_ hw_; (go_simp <;> first | with_reducible rfl | exact ⟨rfl, rfl⟩)); simp only [Act.put, Lx.p1, Lx.p2, Lx.p3])
  first
    | (apply Lx.ks HO 6 (g := g42_3); (case hx => exact ⟨rfl, rfl, rfl⟩); (case hk => decide +kernel); (case hG => exact fun _ _ h_ _ => h_); (case hg => (repeat (first | exact Lx.ua _ _ _ | rw [Lx.un _ _ (by omega)] | rw [Lx.am]))); (case hrun => intro w_ hw_ hb_; have c2 := cellAt hb_ 2 rfl; have d2 := frozAt hb_ 2; have c3 := cellAt hb_ 3 rfl; have d3 := frozAt hb_ 3; have c4 := cellAt hb_ 4 rfl; have d4 := frozAt hb_ 4; have c5 := cellAt hb_ 5 rfl; have d5 := frozAt hb_ 5; have c6 := cellAt hb_ 6 rfl; have d6 := frozAt hb_ 6; have c7 := cellAt hb_ 7 rfl; have d7 := frozAt hb_ 7; have c8 := cellAt hb_ 8 rfl; have d8 := frozAt hb_ 8; have c9 := cellAt hb_ 9 rfl; have d9 := frozAt hb_ 9; refine ⟨?_, ?_, ?_, ?_⟩; rotate_left; (next => (go_simp <;> first | with_reducible rfl | rfl)); (next => (repeat (first | (with_reducible exact Lx.OnlyAt.refl _ _) | (with_reducible refine Lx.OnlyAt.set ?_ _ _)))); (next => (simp [World.setCell, Array.getElem?_modify, hb_] <;> rfl))); simp only [Act.put, Lx.p1, Lx.p2, Lx.p3])
  refine Lx.kd HO (by kernel_rfl) (fun hiv2 => hZ _ _ (fun W11 hw2 => ?_))
  clear hZ Z HO O
  have hin_ := Lib.hid (And.intro hw2 hiv2 : Lx.II _ _ _ _)
  clear hw2 hiv2
  replace HIN := Lib.hid (Lx.tk hin_.out (Lx.tk hin_.out (Lx.tk hin_.out (Lx.tk hin_.out (Lx.tk hin_.out (Lx.tk hin_.out (Lx.tk hin_.out (Lx.II.nil hin_.out.1.below) (w.heap.size) (by (repeat (first | exact Lx.ua _ _ _ | rw [Lx.un _ _ (by omega)] | rw [Lx.am])))) (w.heap.size + 1) (by (repeat (first | exact Lx.ua _ _ _ | rw [Lx.un _ _ (by omega)] | rw [Lx.am])))) (w.heap.size + 1 + 1) (by (repeat (first | exact Lx.ua _ _ _ | rw [Lx.un _ _ (by omega)] | rw [Lx.am])))) (g42_1) (by (repeat (first | exact Lx.ua _ _ _ | rw [Lx.un _ _ (by omega)] | rw [Lx.am])))) (g42_2) (by (repeat (first | exact Lx.ua _ _ _ | rw [Lx.un _ _ (by omega)] | rw [Lx.am])))) (g42_3) (by (repeat (first | exact Lx.ua _ _ _ | rw [Lx.un _ _ (by omega)] | rw [Lx.am])))) (g42_4) (by (repeat (first | exact Lx.ua _ _ _ | rw [Lx.un _ _ (by omega)] | rw [Lx.am]))))
  clear hin_
  go_upto_region 22 with fail
  refine Lx.regionS0 (by kernel_rfl) (by kernel_rfl) HIN.out.1 HIN.out.2 (by simp only [List.size_toArray, List.length_cons, List.length_nil, Nat.reduceAdd]; rfl) (fun O Z hO hZ => ?_); have HO := Lib.hid hO; clear hO
  first
    | (apply Lx.kr HO 0; (case hx => exact ⟨rfl, rfl, rfl⟩); (case hk => decide +kernel); (case hv => intro w_ hw_; have P_ := hw_.holds (g42_3) _ (by (repeat (first | exact Lx.ua _ _ _ | rw [Lx.un _ _ (by omega)] | rw [Lx.am]))); obtain ⟨c0, c1, c2, c3, c4, c5, c6, c7, c8, c9⟩ := Lx.cells10 P_; clear P_; (go_simp <;> first | with_reducible rfl | exact ⟨rfl, rfl⟩)); simp only [Act.put, Lx.p1, Lx.p2, Lx.p3])
  first
    | (apply Lx.ks HO 1 (g := w.heap.size + 1 + 1); (case hx => exact ⟨rfl, rfl, rfl⟩); (case hk => decide +kernel); (case hG => exact fun _ _ h_ _ => h_); (case hg => (repeat (first | exact Lx.ua _ _ _ | rw [Lx.un _ _ (by omega)] | rw [Lx.am]))); (case hrun => intro w_ hw_ hb_; obtain ⟨c0, c1, c2, c3, c4, c5, c6, c7, c8, c9⟩ := Lx.cells10 hb_; obtain ⟨d0, d1, d2, d3, d4, d5, d6, d7, d8, d9⟩ := Lx.froz10 hb_; refine ⟨?_, ?_, ?_, ?_⟩; rotate_left; (next => (go_simp <;> first | with_reducible rfl | rfl)); (next => (repeat (first | (with_reducible exact Lx.OnlyAt.refl _ _) | (with_reducible refine Lx.OnlyAt.set ?_ _ _)))); (next => (simp [World.setCell, Array.getElem?_modify, hb_] <;> rfl))); simp only [Act.put, Lx.p1, Lx.p2, Lx.p3])
  first
    | (apply Lx.kp HO 2; (case hx => exact ⟨rfl, rfl, rfl⟩); (case hk => decide +kernel); (case hv => intro w_ hw_; (go_simp <;> first | with_reducible rfl | exact ⟨rfl, rfl⟩)); simp only [Act.put, Lx.p1, Lx.p2, Lx.p3])
  refine Lx.kd HO (by kernel_rfl) (fun hiv2 => hZ _ _ (fun W12 hw2 => ?_))
  clear hZ Z HO O
  have hin_ := Lib.hid (And.intro hw2 hiv2 : Lx.II _ _ _ _)
  clear hw2 hiv2
  replace HIN := Lib.hid (Lx.tk hin_.out (Lx.tk hin_.out (Lx.tk hin_.out (Lx.tk hin_.out (Lx.tk hin_.out (Lx.tk hin_.out (Lx.tk hin_.out (Lx.II.nil hin_.out.1.below) (w.heap.size) (by (repeat (first | exact Lx.ua _ _ _ | rw [Lx.un _ _ (by omega)] | rw [Lx.am])))) (w.heap.size + 1) (by (repeat (first | exact Lx.ua _ _ _ | rw [Lx.un _ _ (by omega)] | rw [Lx.am])))) (w.heap.size + 1 + 1) (by (repeat (first | exact Lx.ua _ _ _ | rw [Lx.un _ _ (by omega)] | rw [Lx.am])))) (g42_1) (by (repeat (first | exact Lx.ua _ _ _ | rw [Lx.un _ _ (by omega)] | rw [Lx.am])))) (g42_2) (by (repeat (first | exact Lx.ua _ _ _ | rw [Lx.un _ _ (by omega)] | rw [Lx.am])))) (g42_3) (by (repeat (first | exact Lx.ua _ _ _ | rw [Lx.un _ _ (by omega)] | rw [Lx.am])))) (g42_4) (by (repeat (first | exact Lx.ua _ _ _ | rw [Lx.un _ _ (by omega)] | rw [Lx.am]))))
  clear hin_
  have P_ := HIN.out.1.holds (w.heap.size + 1 + 1) _ (by (repeat (first | exact Lx.ua _ _ _ | rw [Lx.un _ _ (by omega)] | rw [Lx.am])))
  obtain ⟨r0_0, r0_1, r0_2, r0_3, r0_4, r0_5, r0_6, r0_7, r0_8, r0_9⟩ := Lx.cells10 P_
  clear P_
  go_wp2
  refine Lx.ret_of (by simp [results, Try.results42, go_sem, r0_0, r0_1, r0_2, r0_3, r0_4, r0_5, r0_6, r0_7, r0_8, r0_9] <;> (repeat' (first | rfl | apply And.intro))) rfl ⟨rfl, HIN.out.1.below⟩
set_option maxHeartbeats 4000000 in
theorem rdone_sel_recv {c1 c2 c3 : Value} {P : ProgV} {w : World} (h : RProg w c1 c2 c3 P) (hs : saneP P = true) (f : FrameV) (hf : f.wf) (m : Nat) (val : Int) (ok : Bool) (hat : atB P f.code f.pc = true) (ho : (atX P f.code f.pc).op = 8) (n : Nat) (hxk : (atX P f.code f.pc).k = n) (hn : n < P.sites.length) (hk : m < (P.sites[n]).cases.length) (hsd : (P.sites[n]).cases[m].send = false) :
    Calls Try.prog 42 #[.agg #[c1, c2, c3], f.agg, .int .i64 m, .int .i64 val, .bool ok] w fun e w' => e = .returned (.tuple #[(doneF P f (m : Int) val ok).1.agg, .int .i64 (doneF P f (m : Int) val ok).2]) ∧ Below w.heap.size w w' := by
  have HP0 := Lib.hid h
  have hmay := fun (W : World) (h : RProg W c1 c2 c3 P) => rMay_any h f
  rw [hat] at hmay
  have hat0 := fun (W : World) (h : RProg W c1 c2 c3 P) => rAt_any h f hat
  obtain ⟨hra, hrb, hnx, hkk⟩ := sane_at hs hat
  obtain ⟨q1, q2, l, q3, q4⟩ := atB_iff.1 hat
  have hlen := (code_ok (sane_parts hs).2.2.1 (List.mem_of_getElem? q3)).1.2
  have hpc : 0 ≤ f.pc ∧ f.pc < 100 := ⟨q2, by omega⟩
  clear q1 q2 q3 q4 hlen l hnx hkk
  have hR : doneF P f (m : Int) val ok = chosenF P.sites[n] f (atX P f.code f.pc) (m : Int) val ok := by
    unfold doneF; rw [if_pos hat]; simp only; rw [if_neg (by rw [ho]; decide), if_pos ho]
    have : siteOf P (atX P f.code f.pc) = P.sites[n] := by unfold siteOf; rw [hxk]; simp [List.getD_eq_getElem?_getD, List.getElem?_eq_getElem hn]
    rw [this]
  rw [hR]
  clear hR
  obtain ⟨⟨xo, xa, xb, xc, xk⟩, hx⟩ : ∃ x, atX P f.code f.pc = x := ⟨_, rfl⟩
  rw [hx] at hra hrb ho hxk
  simp only [hx] at hat0 ⊢
  clear hx hat
  simp only at hra hrb ho hxk
  subst ho hxk
  obtain ⟨nb, rfl⟩ := Int.eq_ofNat_of_zero_le (regI_of hrb).1
  have nb8 : nb < 8 := by have := (regI_of hrb).2; omega
  have nba : (0 : Int) ≤ (nb : Int) := by omega
  have nbb : (nb : Int) < 8 := by omega
  clear hra hrb
  have hSite := HP0.out.sites
  obtain ⟨A1, n1, rfl, _, _, hl1⟩ := h.caps.val
  obtain ⟨A2, n2, rfl, _, _, hl2⟩ := h.codes.val
  obtain ⟨A3, n3, rfl, _, _, hl3⟩ := h.sites.val
  obtain ⟨b, o, A4, c4, rfl, hb, gs0, gs1, gs2, _, _, hl4⟩ := kSite_at h.sites hn
  have e1 : (0 : Int) ≤ (n : Int) := by omega
  have e2 : (n : Int) < P.sites.length := by omega
  clear hSite
  try have hsc := sane_case (m := m) hs hn
  generalize P.sites[n] = s at *
  have hc0 := List.getElem?_eq_getElem hk
  have hcd : s.cases.getD m ⟨true, 0, 0, 0⟩ = s.cases[m] := by simp [List.getD_eq_getElem?_getD, hc0]
  obtain ⟨b4, o4, rfl, hb4, gc0, gc1, gc2, gc3, _⟩ := kCase_at gs2 hk
  have hR : chosenF s f ⟨8, xa, (nb : Int), xc, (n : Int)⟩ (m : Int) val ok = (⟨f.code, f.pc + 1, ((f.r.set s.cases[m].val.toNat val).set s.cases[m].ok.toNat (flagI ok)).set nb m⟩, 0) := by
    unfold chosenF
    rw [if_neg (by omega)]
    simp only [Int.toNat_natCast, hcd]
    rw [hsd]
    rfl
  rw [hR]
  clear hR hcd hc0 gs2
  obtain ⟨hcv, hco⟩ := hsc hk
  clear hsc
  generalize s.cases[m] = c at *
  obtain ⟨cs, cc, cv, co⟩ := c
  simp only at hsd
  subst hsd
  simp only at hcv hco
  obtain ⟨nv, rfl⟩ := Int.eq_ofNat_of_zero_le (regI_of hcv).1
  have nv8 : nv < 8 := by have := (regI_of hcv).2; omega
  have nva : (0 : Int) ≤ (nv : Int) := by omega
  have nvb : (nv : Int) < 8 := by omega
  obtain ⟨no, rfl⟩ := Int.eq_ofNat_of_zero_le (regI_of hco).1
  have no8 : no < 8 := by have := (regI_of hco).2; omega
  have noa : (0 : Int) ≤ (no : Int) := by omega
  have nob : (no : Int) < 8 := by omega
  simp only [Int.toNat_natCast]
  clear h hs
  simp only [FrameV.agg, FrameV.cells, InsV.agg] at hmay hat0
  have HMAY := Lib.hid hmay
  have HAT0 := Lib.hid hat0
  clear hat0
  clear hmay
  try clear h
  unfold FrameV.agg FrameV.cells
  go_enter Try.func42, Try.ntmps42
  go_upto_region 1 with fail
  refine Lx.start3 (fun W1 hII => ?_)
  have HIN := Lib.hid hII
  clear hII
  go_upto_region 1 with fail
  refine Lx.regionS0 (by kernel_rfl) (by kernel_rfl) HIN.out.1 HIN.out.2 (by simp only [List.size_toArray, List.length_cons, List.length_nil, Nat.reduceAdd]; rfl) (fun O Z hO hZ => ?_); have HO := Lib.hid hO; clear hO
  first
    | (apply Lx.kr HO 0; (case hx => exact ⟨rfl, rfl, rfl⟩); (case hk => decide +kernel); (case hv => intro w_ hw_; have P_ := hw_.holds (w.heap.size) _ (by (repeat (first | exact Lx.ua _ _ _ | rw [Lx.un _ _ (by omega)] | rw [Lx.am]))); obtain ⟨c0, c1, c2⟩ := Lx.cells3 P_; clear P_; (go_simp <;> first | with_reducible rfl | exact ⟨rfl, rfl⟩)); simp only [Act.put, Lx.p1, Lx.p2, Lx.p3])
  first
    | (apply Lx.kr HO 1; (case hx => exact ⟨rfl, rfl, rfl⟩); (case hk => decide +kernel); (case hv => intro w_ hw_; have P_ := hw_.holds (w.heap.size + 1) _ (by (repeat (first | exact Lx.ua _ _ _ | rw [Lx.un _ _ (by omega)] | rw [Lx.am]))); obtain ⟨c0, c1, c2, c3, c4, c5, c6, c7, c8, c9⟩ := Lx.cells10 P_; clear P_; (go_simp <;> first | with_reducible rfl | exact ⟨rfl, rfl⟩)); simp only [Act.put, Lx.p1, Lx.p2, Lx.p3])
  first
    | (apply Lx.kc HO 2; (case hx => exact ⟨rfl, rfl, rfl⟩); (case hk => decide +kernel); (case hrun => intro w_; (go_simp <;> first | with_reducible rfl | exact ⟨rfl, rfl⟩)); (case hc => intro w_ hw_; with_reducible exact HMAY.out _ (HP0.out.keep hw_.below)); simp only [Act.put, Lx.p1, Lx.p2, Lx.p3])
  first
    | (apply Lx.kp HO 3; (case hx => exact ⟨rfl, rfl, rfl⟩); (case hk => decide +kernel); (case hv => intro w_ hw_; (go_simp <;> first | with_reducible rfl | exact ⟨rfl, rfl⟩)); simp only [Act.put, Lx.p1, Lx.p2, Lx.p3])
  refine Lx.kd HO (by kernel_rfl) (fun hiv2 => hZ _ _ (fun W2 hw2 => ?_))
  clear hZ Z HO O
  have hin_ := Lib.hid (And.intro hw2 hiv2 : Lx.II _ _ _ _)
  clear hw2 hiv2
  replace HIN := Lib.hid (Lx.tk hin_.out (Lx.tk hin_.out (Lx.tk hin_.out (Lx.II.nil hin_.out.1.below) (w.heap.size) (by (repeat (first | exact Lx.ua _ _ _ | rw [Lx.un _ _ (by omega)] | rw [Lx.am])))) (w.heap.size + 1) (by (repeat (first | exact Lx.ua _ _ _ | rw [Lx.un _ _ (by omega)] | rw [Lx.am])))) (w.heap.size + 1 + 1) (by (repeat (first | exact Lx.ua _ _ _ | rw [Lx.un _ _ (by omega)] | rw [Lx.am]))))
  clear hin_
  go_upto_region 3 with fail
  refine Lx.regionS0 (by kernel_rfl) (by kernel_rfl) HIN.out.1 HIN.out.2 (by simp only [List.size_toArray, List.length_cons, List.length_nil, Nat.reduceAdd]; rfl) (fun O Z hO hZ => ?_); have HO := Lib.hid hO; clear hO
  first
    | (apply Lx.kr HO 0; (case hx => exact ⟨rfl, rfl, rfl⟩); (case hk => decide +kernel); (case hv => intro w_ hw_; have P_ := hw_.holds (w.heap.size) _ (by (repeat (first | exact Lx.ua _ _ _ | rw [Lx.un _ _ (by omega)] | rw [Lx.am]))); obtain ⟨c0, c1, c2⟩ := Lx.cells3 P_; clear P_; (go_simp <;> first | with_reducible rfl | exact ⟨rfl, rfl⟩)); simp only [Act.put, Lx.p1, Lx.p2, Lx.p3])
  first
    | (apply Lx.kr HO 1; (case hx => exact ⟨rfl, rfl, rfl⟩); (case hk => decide +kernel); (case hv => intro w_ hw_; have P_ := hw_.holds (w.heap.size + 1) _ (by (repeat (first | exact Lx.ua _ _ _ | rw [Lx.un _ _ (by omega)] | rw [Lx.am]))); obtain ⟨c0, c1, c2, c3, c4, c5, c6, c7, c8, c9⟩ := Lx.cells10 P_; clear P_; (go_simp <;> first | with_reducible rfl | exact ⟨rfl, rfl⟩)); simp only [Act.put, Lx.p1, Lx.p2, Lx.p3])
  first
    | (apply Lx.kc HO 2; (case hx => exact ⟨rfl, rfl, rfl⟩); (case hk => decide +kernel); (case hrun => intro w_; (go_simp <;> first | with_reducible rfl | exact ⟨rfl, rfl⟩)); (case hc => intro w_ hw_; with_reducible exact HAT0.out _ (HP0.out.keep hw_.below)); simp only [Act.put, Lx.p1, Lx.p2, Lx.p3])
  first
    | (apply Lx.ka HO 3; (case hx => exact ⟨rfl, rfl, rfl⟩); (case hk => decide +kernel); (case hrun => intro w_; (go_simp <;> first | with_reducible rfl | exact ⟨rfl, rfl⟩)); simp only [Act.put, Lx.p1, Lx.p2, Lx.p3])
  intro g42_1 hg_ hfr
  (repeat (first | (rw [Lx.St.add_M] at hfr) | (replace hfr := Lx.St.fresh_upd hfr; have n_ := hfr.1; replace hfr := hfr.2))); clear hfr
  first
    | (apply Lx.ks HO 4 (g := g42_1); (case hx => exact ⟨rfl, rfl, rfl⟩); (case hk => decide +kernel); (case hG => exact fun _ _ h_ _ => h_); (case hg => (repeat (first | exact Lx.ua _ _ _ | rw [Lx.un _ _ (by omega)] | rw [Lx.am]))); (case hrun => intro w_ hw_ hb_; obtain ⟨c0, c1, c2, c3, c4⟩ := Lx.cells5 hb_; obtain ⟨d0, d1, d2, d3, d4⟩ := Lx.froz5 hb_; refine ⟨?_, ?_, ?_, ?_⟩; rotate_left; (next => (go_simp <;> first | with_reducible rfl | rfl)); (next => (repeat (first | (with_reducible exact Lx.OnlyAt.refl _ _) | (with_reducible refine Lx.OnlyAt.set ?_ _ _)))); (next => (simp [World.setCell, Array.getElem?_modify, hb_] <;> rfl))); simp only [Act.put, Lx.p1, Lx.p2, Lx.p3])
  refine Lx.kd HO (by kernel_rfl) (fun hiv2 => hZ _ _ (fun W3 hw2 => ?_))
  clear hZ Z HO O
  have hin_ := Lib.hid (And.intro hw2 hiv2 : Lx.II _ _ _ _)
  clear hw2 hiv2
  replace HIN := Lib.hid (Lx.tk hin_.out (Lx.tk hin_.out (Lx.tk hin_.out (Lx.tk hin_.out (Lx.II.nil hin_.out.1.below) (w.heap.size) (by (repeat (first | exact Lx.ua _ _ _ | rw [Lx.un _ _ (by omega)] | rw [Lx.am])))) (w.heap.size + 1) (by (repeat (first | exact Lx.ua _ _ _ | rw [Lx.un _ _ (by omega)] | rw [Lx.am])))) (w.heap.size + 1 + 1) (by (repeat (first | exact Lx.ua _ _ _ | rw [Lx.un _ _ (by omega)] | rw [Lx.am])))) (g42_1) (by (repeat (first | exact Lx.ua _ _ _ | rw [Lx.un _ _ (by omega)] | rw [Lx.am]))))
  clear hin_
  go_upto_region 4 with fail
  refine Lx.regionS0 (by kernel_rfl) (by kernel_rfl) HIN.out.1 HIN.out.2 (by simp only [List.size_toArray, List.length_cons, List.length_nil, Nat.reduceAdd]; rfl) (fun O Z hO hZ => ?_); have HO := Lib.hid hO; clear hO
  first
    | (apply Lx.kp HO 0; (case hx => exact ⟨rfl, rfl, rfl⟩); (case hk => decide +kernel); (case hv => intro w_ hw_; (go_simp <;> first | with_reducible rfl | exact ⟨rfl, rfl⟩)); simp only [Act.put, Lx.p1, Lx.p2, Lx.p3])
  first
    | (apply Lx.kr HO 1; (case hx => exact ⟨rfl, rfl, rfl⟩); (case hk => decide +kernel); (case hv => intro w_ hw_; have P_ := hw_.holds (g42_1) _ (by (repeat (first | exact Lx.ua _ _ _ | rw [Lx.un _ _ (by omega)] | rw [Lx.am]))); have c0 := cellAt P_ 0 rfl; clear P_; (go_simp <;> first | with_reducible rfl | exact ⟨rfl, rfl⟩)); simp only [Act.put, Lx.p1, Lx.p2, Lx.p3])
  first
    | (apply Lx.kc HO 2; (case hx => exact ⟨rfl, rfl, rfl⟩); (case hk => decide +kernel); (case hrun => intro w_; (go_simp <;> first | with_reducible rfl | exact ⟨rfl, rfl⟩)); (case hc => intro w_ hw_; exact rlocal_b rfl _); simp only [Act.put, Lx.p1, Lx.p2, Lx.p3])
  refine Lx.kd HO (by kernel_rfl) (fun hiv2 => hZ _ _ (fun W4 hw2 => ?_))
  clear hZ Z HO O
  have hin_ := Lib.hid (And.intro hw2 hiv2 : Lx.II _ _ _ _)
  clear hw2 hiv2
  replace HIN := Lib.hid (Lx.tk hin_.out (Lx.tk hin_.out (Lx.tk hin_.out (Lx.tk hin_.out (Lx.II.nil hin_.out.1.below) (w.heap.size) (by (repeat (first | exact Lx.ua _ _ _ | rw [Lx.un _ _ (by omega)] | rw [Lx.am])))) (w.heap.size + 1) (by (repeat (first | exact Lx.ua _ _ _ | rw [Lx.un _ _ (by omega)] | rw [Lx.am])))) (w.heap.size + 1 + 1) (by (repeat (first | exact Lx.ua _ _ _ | rw [Lx.un _ _ (by omega)] | rw [Lx.am])))) (g42_1) (by (repeat (first | exact Lx.ua _ _ _ | rw [Lx.un _ _ (by omega)] | rw [Lx.am]))))
  clear hin_
  go_upto_region 6 with fail
  refine Lx.regionS0 (by kernel_rfl) (by kernel_rfl) HIN.out.1 HIN.out.2 (by simp only [List.size_toArray, List.length_cons, List.length_nil, Nat.reduceAdd]; rfl) (fun O Z hO hZ => ?_); have HO := Lib.hid hO; clear hO
  first
    | (apply Lx.kp HO 0; (case hx => exact ⟨rfl, rfl, rfl⟩); (case hk => decide +kernel); (case hv => intro w_ hw_; (go_simp <;> first | with_reducible rfl | exact ⟨rfl, rfl⟩)); simp only [Act.put, Lx.p1, Lx.p2, Lx.p3])
  first
    | (apply Lx.kr HO 1; (case hx => exact ⟨rfl, rfl, rfl⟩); (case hk => decide +kernel); (case hv => intro w_ hw_; have P_ := hw_.holds (w.heap.size + 1) _ (by (repeat (first | exact Lx.ua _ _ _ | rw [Lx.un _ _ (by omega)] | rw [Lx.am]))); have c2 := cellAt P_ 2 rfl; have c3 := cellAt P_ 3 rfl; have c4 := cellAt P_ 4 rfl; have c5 := cellAt P_ 5 rfl; have c6 := cellAt P_ 6 rfl; have c7 := cellAt P_ 7 rfl; have c8 := cellAt P_ 8 rfl; have c9 := cellAt P_ 9 rfl; clear P_; (go_simp <;> first | with_reducible rfl | exact ⟨rfl, rfl⟩)); simp only [Act.put, Lx.p1, Lx.p2, Lx.p3])
  first
    | (apply Lx.ka HO 2; (case hx => exact ⟨rfl, rfl, rfl⟩); (case hk => decide +kernel); (case hrun => intro w_; (go_simp <;> first | with_reducible rfl | exact ⟨rfl, rfl⟩)); simp only [Act.put, Lx.p1, Lx.p2, Lx.p3])
  intro g42_2 hg_ hfr
  (repeat (first | (rw [Lx.St.add_M] at hfr) | (replace hfr := Lx.St.fresh_upd hfr; have n_ := hfr.1; replace hfr := hfr.2))); clear hfr
  first
    | (apply Lx.ks HO 3 (g := g42_2); (case hx => exact ⟨rfl, rfl, rfl⟩); (case hk => decide +kernel); (case hG => exact fun _ _ h_ _ => h_); (case hg => (repeat (first | exact Lx.ua _ _ _ | rw [Lx.un _ _ (by omega)] | rw [Lx.am]))); (case hrun => intro w_ hw_ hb_; obtain ⟨c0, c1, c2, c3, c4, c5, c6, c7⟩ := Lx.cells8 hb_; obtain ⟨d0, d1, d2, d3, d4, d5, d6, d7⟩ := Lx.froz8 hb_; refine ⟨?_, ?_, ?_, ?_⟩; rotate_left; (next => (go_simp <;> first | with_reducible rfl | rfl)); (next => (repeat (first | (with_reducible exact Lx.OnlyAt.refl _ _) | (with_reducible refine Lx.OnlyAt.set ?_ _ _)))); (next => (simp [World.setCell, Array.getElem?_modify, hb_] <;> rfl))); simp only [Act.put, Lx.p1, Lx.p2, Lx.p3])
  refine Lx.kd HO (by kernel_rfl) (fun hiv2 => hZ _ _ (fun W5 hw2 => ?_))
  clear hZ Z HO O
  have hin_ := Lib.hid (And.intro hw2 hiv2 : Lx.II _ _ _ _)
  clear hw2 hiv2
  replace HIN := Lib.hid (Lx.tk hin_.out (Lx.tk hin_.out (Lx.tk hin_.out (Lx.tk hin_.out (Lx.tk hin_.out (Lx.II.nil hin_.out.1.below) (w.heap.size) (by (repeat (first | exact Lx.ua _ _ _ | rw [Lx.un _ _ (by omega)] | rw [Lx.am])))) (w.heap.size + 1) (by (repeat (first | exact Lx.ua _ _ _ | rw [Lx.un _ _ (by omega)] | rw [Lx.am])))) (w.heap.size + 1 + 1) (by (repeat (first | exact Lx.ua _ _ _ | rw [Lx.un _ _ (by omega)] | rw [Lx.am])))) (g42_1) (by (repeat (first | exact Lx.ua _ _ _ | rw [Lx.un _ _ (by omega)] | rw [Lx.am])))) (g42_2) (by (repeat (first | exact Lx.ua _ _ _ | rw [Lx.un _ _ (by omega)] | rw [Lx.am]))))
  clear hin_
  have m1 : IntKind.i64.wrap (f.pc + 1) = f.pc + 1 := IntWalk.i64_in _ (by omega)
  go_upto_region 7 with fail
  refine Lx.regionS0 (by kernel_rfl) (by kernel_rfl) HIN.out.1 HIN.out.2 (by simp only [List.size_toArray, List.length_cons, List.length_nil, Nat.reduceAdd]; rfl) (fun O Z hO hZ => ?_); have HO := Lib.hid hO; clear hO
  first
    | (apply Lx.kp HO 0; (case hx => exact ⟨rfl, rfl, rfl⟩); (case hk => decide +kernel); (case hv => intro w_ hw_; (go_simp <;> first | with_reducible rfl | exact ⟨rfl, rfl⟩)); simp only [Act.put, Lx.p1, Lx.p2, Lx.p3])
  first
    | (apply Lx.kr HO 1; (case hx => exact ⟨rfl, rfl, rfl⟩); (case hk => decide +kernel); (case hv => intro w_ hw_; have P_ := hw_.holds (w.heap.size + 1) _ (by (repeat (first | exact Lx.ua _ _ _ | rw [Lx.un _ _ (by omega)] | rw [Lx.am]))); have c0 := cellAt P_ 0 rfl; clear P_; (go_simp <;> first | with_reducible rfl | exact ⟨rfl, rfl⟩)); simp only [Act.put, Lx.p1, Lx.p2, Lx.p3])
  first
    | (apply Lx.kp HO 2; (case hx => exact ⟨rfl, rfl, rfl⟩); (case hk => decide +kernel); (case hv => intro w_ hw_; (go_simp <;> first | with_reducible rfl | exact ⟨rfl, rfl⟩)); simp only [Act.put, Lx.p1, Lx.p2, Lx.p3])
  first
    | (apply Lx.kr HO 3; (case hx => exact ⟨rfl, rfl, rfl⟩); (case hk => decide +kernel); (case hv => intro w_ hw_; have P_ := hw_.holds (w.heap.size + 1) _ (by (repeat (first | exact Lx.ua _ _ _ | rw [Lx.un _ _ (by omega)] | rw [Lx.am]))); have c1 := cellAt P_ 1 rfl; clear P_; (go_simp <;> first | with_reducible rfl | exact ⟨rfl, rfl⟩)); simp only [Act.put, Lx.p1, Lx.p2, Lx.p3])
  first
    | (apply Lx.kp HO 4; (case hx => exact ⟨rfl, rfl, rfl⟩); (case hk => decide +kernel); (case hv => intro w_ hw_; (go_simp <;> first | with_reducible rfl | exact ⟨rfl, rfl⟩)); simp only [Act.put, Lx.p1, Lx.p2, Lx.p3])
  first
    | (apply Lx.kr HO 5; (case hx => exact ⟨rfl, rfl, rfl⟩); (case hk => decide +kernel); (case hv => intro w_ hw_; have P_ := hw_.holds (g42_2) _ (by (repeat (first | exact Lx.ua _ _ _ | rw [Lx.un _ _ (by omega)] | rw [Lx.am]))); obtain ⟨c0, c1, c2, c3, c4, c5, c6, c7⟩ := Lx.cells8 P_; clear P_; (go_simp <;> first | with_reducible rfl | exact ⟨rfl, rfl⟩)); simp only [Act.put, Lx.p1, Lx.p2, Lx.p3])
  first
    | (apply Lx.kp HO 6; (case hx => exact ⟨rfl, rfl, rfl⟩); (case hk => decide +kernel); (case hv => intro w_ hw_; (go_simp <;> first | with_reducible rfl | exact ⟨rfl, rfl⟩)); simp only [Act.put, Lx.p1, Lx.p2, Lx.p3])
  first
    | (apply Lx.ka HO 7; (case hx => exact ⟨rfl, rfl, rfl⟩); (case hk => decide +kernel); (case hrun => intro w_; (go_simp <;> first | with_reducible rfl | exact ⟨rfl, rfl⟩)); simp only [Act.put, Lx.p1, Lx.p2, Lx.p3])
  intro g42_3 hg_ hfr
  (repeat (first | (rw [Lx.St.add_M] at hfr) | (replace hfr := Lx.St.fresh_upd hfr; have n_ := hfr.1; replace hfr := hfr.2))); clear hfr
  first
    | (apply Lx.ks HO 8 (g := g42_3); (case hx => exact ⟨rfl, rfl, rfl⟩); (case hk => decide +kernel); (case hG => exact fun _ _ h_ _ => h_); (case hg => (repeat (first | exact Lx.ua _ _ _ | rw [Lx.un _ _ (by omega)] | rw [Lx.am]))); (case hrun => intro w_ hw_ hb_; obtain ⟨c0, c1, c2, c3, c4, c5, c6, c7, c8, c9⟩ := Lx.cells10 hb_; obtain ⟨d0, d1, d2, d3, d4, d5, d6, d7, d8, d9⟩ := Lx.froz10 hb_; refine ⟨?_, ?_, ?_, ?_⟩; rotate_left; (next => (go_simp <;> first | with_reducible rfl | rfl)); (next => (repeat (first | (with_reducible exact Lx.OnlyAt.refl _ _) | (with_reducible refine Lx.OnlyAt.set ?_ _ _)))); (next => (simp [World.setCell, Array.getElem?_modify, hb_] <;> rfl))); simp only [Act.put, Lx.p1, Lx.p2, Lx.p3])
  refine Lx.kd HO (by kernel_rfl) (fun hiv2 => hZ _ _ (fun W6 hw2 => ?_))
  clear hZ Z HO O
  have hin_ := Lib.hid (And.intro hw2 hiv2 : Lx.II _ _ _ _)
  clear hw2 hiv2
  replace HIN := Lib.hid (Lx.tk hin_.out (Lx.tk hin_.out (Lx.tk hin_.out (Lx.tk hin_.out (Lx.tk hin_.out (Lx.tk hin_.out (Lx.II.nil hin_.out.1.below) (w.heap.size) (by (repeat (first | exact Lx.ua _ _ _ | rw [Lx.un _ _ (by omega)] | rw [Lx.am])))) (w.heap.size + 1) (by (repeat (first | exact Lx.ua _ _ _ | rw [Lx.un _ _ (by omega)] | rw [Lx.am])))) (w.heap.size + 1 + 1) (by (repeat (first | exact Lx.ua _ _ _ | rw [Lx.un _ _ (by omega)] | rw [Lx.am])))) (g42_1) (by (repeat (first | exact Lx.ua _ _ _ | rw [Lx.un _ _ (by omega)] | rw [Lx.am])))) (g42_2) (by (repeat (first | exact Lx.ua _ _ _ | rw [Lx.un _ _ (by omega)] | rw [Lx.am])))) (g42_3) (by (repeat (first | exact Lx.ua _ _ _ | rw [Lx.un _ _ (by omega)] | rw [Lx.am]))))
  clear hin_
  clear m1
  go_upto_region 8 with fail
  refine Lx.regionS0 (by kernel_rfl) (by kernel_rfl) HIN.out.1 HIN.out.2 (by simp only [List.size_toArray, List.length_cons, List.length_nil, Nat.reduceAdd]; rfl) (fun O Z hO hZ => ?_); have HO := Lib.hid hO; clear hO
  first
    | (apply Lx.kp HO 0; (case hx => exact ⟨rfl, rfl, rfl⟩); (case hk => decide +kernel); (case hv => intro w_ hw_; (go_simp <;> first | with_reducible rfl | exact ⟨rfl, rfl⟩)); simp only [Act.put, Lx.p1, Lx.p2, Lx.p3])
  first
    | (apply Lx.kr HO 1; (case hx => exact ⟨rfl, rfl, rfl⟩); (case hk => decide +kernel); (case hv => intro w_ hw_; have P_ := hw_.holds (g42_1) _ (by (repeat (first | exact Lx.ua _ _ _ | rw [Lx.un _ _ (by omega)] | rw [Lx.am]))); have c0 := cellAt P_ 0 rfl; clear P_; (go_simp <;> first | with_reducible rfl | exact ⟨rfl, rfl⟩)); simp only [Act.put, Lx.p1, Lx.p2, Lx.p3])
  first
    | (apply Lx.kp HO 2; (case hx => exact ⟨rfl, rfl, rfl⟩); (case hk => decide +kernel); (case hv => intro w_ hw_; (go_simp <;> first | with_reducible rfl | exact ⟨rfl, rfl⟩)); simp only [Act.put, Lx.p1, Lx.p2, Lx.p3])
  refine Lx.kd HO (by kernel_rfl) (fun hiv2 => hZ _ _ (fun W7 hw2 => ?_))
  clear hZ Z HO O
  have hin_ := Lib.hid (And.intro hw2 hiv2 : Lx.II _ _ _ _)
  clear hw2 hiv2
  replace HIN := Lib.hid (Lx.tk hin_.out (Lx.tk hin_.out (Lx.tk hin_.out (Lx.tk hin_.out (Lx.tk hin_.out (Lx.tk hin_.out (Lx.II.nil hin_.out.1.below) (w.heap.size) (by (repeat (first | exact Lx.ua _ _ _ | rw [Lx.un _ _ (by omega)] | rw [Lx.am])))) (w.heap.size + 1) (by (repeat (first | exact Lx.ua _ _ _ | rw [Lx.un _ _ (by omega)] | rw [Lx.am])))) (w.heap.size + 1 + 1) (by (repeat (first | exact Lx.ua _ _ _ | rw [Lx.un _ _ (by omega)] | rw [Lx.am])))) (g42_1) (by (repeat (first | exact Lx.ua _ _ _ | rw [Lx.un _ _ (by omega)] | rw [Lx.am])))) (g42_2) (by (repeat (first | exact Lx.ua _ _ _ | rw [Lx.un _ _ (by omega)] | rw [Lx.am])))) (g42_3) (by (repeat (first | exact Lx.ua _ _ _ | rw [Lx.un _ _ (by omega)] | rw [Lx.am]))))
  clear hin_
  go_upto_region 16 with fail
  refine Lx.regionS0 (by kernel_rfl) (by kernel_rfl) HIN.out.1 HIN.out.2 (by simp only [List.size_toArray, List.length_cons, List.length_nil, Nat.reduceAdd]; rfl) (fun O Z hO hZ => ?_); have HO := Lib.hid hO; clear hO
  first
    | (apply Lx.kp HO 0; (case hx => exact ⟨rfl, rfl, rfl⟩); (case hk => decide +kernel); (case hv => intro w_ hw_; (go_simp <;> first | with_reducible rfl | exact ⟨rfl, rfl⟩)); simp only [Act.put, Lx.p1, Lx.p2, Lx.p3])
  first
    | (apply Lx.kr HO 1; (case hx => exact ⟨rfl, rfl, rfl⟩); (case hk => decide +kernel); (case hv => intro w_ hw_; have P_ := hw_.holds (w.heap.size) _ (by (repeat (first | exact Lx.ua _ _ _ | rw [Lx.un _ _ (by omega)] | rw [Lx.am]))); have c2 := cellAt P_ 2 rfl; clear P_; (go_simp <;> first | with_reducible rfl | exact ⟨rfl, rfl⟩)); simp only [Act.put, Lx.p1, Lx.p2, Lx.p3])
  first
    | (apply Lx.kp HO 2; (case hx => exact ⟨rfl, rfl, rfl⟩); (case hk => decide +kernel); (case hv => intro w_ hw_; (go_simp <;> first | with_reducible rfl | exact ⟨rfl, rfl⟩)); simp only [Act.put, Lx.p1, Lx.p2, Lx.p3])
  first
    | (apply Lx.kr HO 3; (case hx => exact ⟨rfl, rfl, rfl⟩); (case hk => decide +kernel); (case hv => intro w_ hw_; have P_ := hw_.holds (g42_1) _ (by (repeat (first | exact Lx.ua _ _ _ | rw [Lx.un _ _ (by omega)] | rw [Lx.am]))); have c4 := cellAt P_ 4 rfl; clear P_; (go_simp <;> first | with_reducible rfl | exact ⟨rfl, rfl⟩)); simp only [Act.put, Lx.p1, Lx.p2, Lx.p3])
  first
    | (apply Lx.kp HO 4; (case hx => exact ⟨rfl, rfl, rfl⟩); (case hk => decide +kernel); (case hv => intro w_ hw_; (go_simp <;> first | with_reducible rfl | exact ⟨rfl, rfl⟩)); simp only [Act.put, Lx.p1, Lx.p2, Lx.p3])
  first
    | (apply Lx.kr HO 5; (case hx => exact ⟨rfl, rfl, rfl⟩); (case hk => decide +kernel); (case hv => intro w_ hw_; have q0 := Below.at hw_.below gs0 hb; have q1 := Below.at hw_.below gs1 hb; (go_simp <;> first | with_reducible rfl | exact ⟨rfl, rfl⟩)); simp only [Act.put, Lx.p1, Lx.p2, Lx.p3])
  first
    | (apply Lx.ka HO 6; (case hx => exact ⟨rfl, rfl, rfl⟩); (case hk => decide +kernel); (case hrun => intro w_; (go_simp <;> first | with_reducible rfl | exact ⟨rfl, rfl⟩)); simp only [Act.put, Lx.p1, Lx.p2, Lx.p3])
  intro g42_4 hg_ hfr
  (repeat (first | (rw [Lx.St.add_M] at hfr) | (replace hfr := Lx.St.fresh_upd hfr; have n_ := hfr.1; replace hfr := hfr.2))); clear hfr
  first
    | (apply Lx.ks HO 7 (g := g42_4); (case hx => exact ⟨rfl, rfl, rfl⟩); (case hk => decide +kernel); (case hG => exact fun _ _ h_ _ => h_); (case hg => (repeat (first | exact Lx.ua _ _ _ | rw [Lx.un _ _ (by omega)] | rw [Lx.am]))); (case hrun => intro w_ hw_ hb_; obtain ⟨c0, c1⟩ := Lx.cells2 hb_; obtain ⟨d0, d1⟩ := Lx.froz2 hb_; refine ⟨?_, ?_, ?_, ?_⟩; rotate_left; (next => (go_simp <;> first | with_reducible rfl | rfl)); (next => (repeat (first | (with_reducible exact Lx.OnlyAt.refl _ _) | (with_reducible refine Lx.OnlyAt.set ?_ _ _)))); (next => (simp [World.setCell, Array.getElem?_modify, hb_] <;> rfl))); simp only [Act.put, Lx.p1, Lx.p2, Lx.p3])
  refine Lx.kd HO (by kernel_rfl) (fun hiv2 => hZ _ _ (fun W8 hw2 => ?_))
  clear hZ Z HO O
  have hin_ := Lib.hid (And.intro hw2 hiv2 : Lx.II _ _ _ _)
  clear hw2 hiv2
  replace HIN := Lib.hid (Lx.tk hin_.out (Lx.tk hin_.out (Lx.tk hin_.out (Lx.tk hin_.out (Lx.tk hin_.out (Lx.tk hin_.out (Lx.tk hin_.out (Lx.II.nil hin_.out.1.below) (w.heap.size) (by (repeat (first | exact Lx.ua _ _ _ | rw [Lx.un _ _ (by omega)] | rw [Lx.am])))) (w.heap.size + 1) (by (repeat (first | exact Lx.ua _ _ _ | rw [Lx.un _ _ (by omega)] | rw [Lx.am])))) (w.heap.size + 1 + 1) (by (repeat (first | exact Lx.ua _ _ _ | rw [Lx.un _ _ (by omega)] | rw [Lx.am])))) (g42_1) (by (repeat (first | exact Lx.ua _ _ _ | rw [Lx.un _ _ (by omega)] | rw [Lx.am])))) (g42_2) (by (repeat (first | exact Lx.ua _ _ _ | rw [Lx.un _ _ (by omega)] | rw [Lx.am])))) (g42_3) (by (repeat (first | exact Lx.ua _ _ _ | rw [Lx.un _ _ (by omega)] | rw [Lx.am])))) (g42_4) (by (repeat (first | exact Lx.ua _ _ _ | rw [Lx.un _ _ (by omega)] | rw [Lx.am]))))
  clear hin_
  have hd0 : decide ((m : Int) < 0) = false := by simp
  have hd1 : decide ((s.cases.length : Int) < (m : Int)) = false := by simp; omega
  have hd2 : ((m : Int) == (s.cases.length : Int)) = false := by simp; omega
  have hd3 : decide ((m : Int) < (s.cases.length : Int)) = true := by simpa using hk
  have hd4 : decide (s.cases.length < m) = false := by simp; omega
  have hd5 : decide (m < s.cases.length) = true := by simpa using hk
  have e3 : (0 : Int) ≤ (m : Int) := by omega
  have e4 : (m : Int) < s.cases.length := by omega
  go_upto_region 17 with fail
  refine Lx.regionS0 (by kernel_rfl) (by kernel_rfl) HIN.out.1 HIN.out.2 (by simp only [List.size_toArray, List.length_cons, List.length_nil, Nat.reduceAdd]; rfl) (fun O Z hO hZ => ?_); have HO := Lib.hid hO; clear hO
  first
    | (apply Lx.kp HO 0; (case hx => exact ⟨rfl, rfl, rfl⟩); (case hk => decide +kernel); (case hv => intro w_ hw_; (go_simp <;> first | with_reducible rfl | exact ⟨rfl, rfl⟩)); simp only [Act.put, Lx.p1, Lx.p2, Lx.p3])
  first
    | (apply Lx.kp HO 1; (case hx => exact ⟨rfl, rfl, rfl⟩); (case hk => decide +kernel); (case hv => intro w_ hw_; (go_simp <;> first | with_reducible rfl | exact ⟨rfl, rfl⟩)); simp only [Act.put, Lx.p1, Lx.p2, Lx.p3])
  first
    | (apply Lx.kp HO 2; (case hx => exact ⟨rfl, rfl, rfl⟩); (case hk => decide +kernel); (case hv => intro w_ hw_; (go_simp <;> first | with_reducible rfl | exact ⟨rfl, rfl⟩)); simp only [Act.put, Lx.p1, Lx.p2, Lx.p3])
  first
    | (apply Lx.kk HO 3; (case hx => exact ⟨rfl, rfl⟩); (case hk => decide +kernel); simp only [Act.put, Lx.p1, Lx.p2, Lx.p3])
    | (apply Lx.kp HO 3; (case hx => exact ⟨rfl, rfl, rfl⟩); (case hk => decide +kernel); (case hv => intro w_ hw_; (go_simp <;> first | with_reducible rfl | exact ⟨rfl, rfl⟩)); simp only [Act.put, Lx.p1, Lx.p2, Lx.p3])
  first
    | (apply Lx.kk HO 4; (case hx => exact ⟨rfl, rfl⟩); (case hk => decide +kernel); simp only [Act.put, Lx.p1, Lx.p2, Lx.p3])
    | (apply Lx.kp HO 4; (case hx => exact ⟨rfl, rfl, rfl⟩); (case hk => decide +kernel); (case hv => intro w_ hw_; (go_simp <;> first | with_reducible rfl | exact ⟨rfl, rfl⟩)); simp only [Act.put, Lx.p1, Lx.p2, Lx.p3])
  first
    | (apply Lx.kk HO 5; (case hx => exact ⟨rfl, rfl⟩); (case hk => decide +kernel); simp only [Act.put, Lx.p1, Lx.p2, Lx.p3])
    | (apply Lx.kr HO 5; (case hx => exact ⟨rfl, rfl, rfl⟩); (case hk => decide +kernel); (case hv => intro w_ hw_; have P_ := hw_.holds (g42_4) _ (by (repeat (first | exact Lx.ua _ _ _ | rw [Lx.un _ _ (by omega)] | rw [Lx.am]))); have c0 := cellAt P_ 0 rfl; clear P_; (go_simp <;> first | with_reducible rfl | exact ⟨rfl, rfl⟩)); simp only [Act.put, Lx.p1, Lx.p2, Lx.p3])
  first
    | (apply Lx.kk HO 6; (case hx => exact ⟨rfl, rfl⟩); (case hk => decide +kernel); simp only [Act.put, Lx.p1, Lx.p2, Lx.p3])
    | (apply Lx.kr HO 6; (case hx => exact ⟨rfl, rfl, rfl⟩); (case hk => decide +kernel); (case hv => intro w_ hw_; skip; (go_simp <;> first | with_reducible rfl | exact ⟨rfl, rfl⟩)); simp only [Act.put, Lx.p1, Lx.p2, Lx.p3])
  first
    | (apply Lx.kk HO 7; (case hx => exact ⟨rfl, rfl⟩); (case hk => decide +kernel); simp only [Act.put, Lx.p1, Lx.p2, Lx.p3])
    | (apply Lx.kp HO 7; (case hx => exact ⟨rfl, rfl, rfl⟩); (case hk => decide +kernel); (case hv => intro w_ hw_; (go_simp <;> first | with_reducible rfl | exact ⟨rfl, rfl⟩)); simp only [Act.put, Lx.p1, Lx.p2, Lx.p3])
  first
    | (apply Lx.kp HO 8; (case hx => exact ⟨rfl, rfl, rfl⟩); (case hk => decide +kernel); (case hv => intro w_ hw_; (go_simp <;> first | with_reducible rfl | exact ⟨rfl, rfl⟩)); simp only [Act.put, Lx.p1, Lx.p2, Lx.p3])
  first
    | (apply Lx.kp HO 9; (case hx => exact ⟨rfl, rfl, rfl⟩); (case hk => decide +kernel); (case hv => intro w_ hw_; (go_simp <;> first | with_reducible rfl | exact ⟨rfl, rfl⟩)); simp only [Act.put, Lx.p1, Lx.p2, Lx.p3])
  first
    | (apply Lx.kk HO 10; (case hx => exact ⟨rfl, rfl⟩); (case hk => decide +kernel); simp only [Act.put, Lx.p1, Lx.p2, Lx.p3])
    | (apply Lx.kp HO 10; (case hx => exact ⟨rfl, rfl, rfl⟩); (case hk => decide +kernel); (case hv => intro w_ hw_; (go_simp <;> first | with_reducible rfl | exact ⟨rfl, rfl⟩)); simp only [Act.put, Lx.p1, Lx.p2, Lx.p3])
  first
    | (apply Lx.kk HO 11; (case hx => exact ⟨rfl, rfl⟩); (case hk => decide +kernel); simp only [Act.put, Lx.p1, Lx.p2, Lx.p3])
    | (apply Lx.kp HO 11; (case hx => exact ⟨rfl, rfl, rfl⟩); (case hk => decide +kernel); (case hv => intro w_ hw_; (go_simp <;> first | with_reducible rfl | exact ⟨rfl, rfl⟩)); simp only [Act.put, Lx.p1, Lx.p2, Lx.p3])
  first
    | (apply Lx.kk HO 12; (case hx => exact ⟨rfl, rfl⟩); (case hk => decide +kernel); simp only [Act.put, Lx.p1, Lx.p2, Lx.p3])
    | (apply Lx.kr HO 12; (case hx => exact ⟨rfl, rfl, rfl⟩); (case hk => decide +kernel); (case hv => intro w_ hw_; have P_ := hw_.holds (g42_4) _ (by (repeat (first | exact Lx.ua _ _ _ | rw [Lx.un _ _ (by omega)] | rw [Lx.am]))); have c0 := cellAt P_ 0 rfl; clear P_; (go_simp <;> first | with_reducible rfl | exact ⟨rfl, rfl⟩)); simp only [Act.put, Lx.p1, Lx.p2, Lx.p3])
  first
    | (apply Lx.kk HO 13; (case hx => exact ⟨rfl, rfl⟩); (case hk => decide +kernel); simp only [Act.put, Lx.p1, Lx.p2, Lx.p3])
    | (apply Lx.kr HO 13; (case hx => exact ⟨rfl, rfl, rfl⟩); (case hk => decide +kernel); (case hv => intro w_ hw_; skip; (go_simp <;> first | with_reducible rfl | exact ⟨rfl, rfl⟩)); simp only [Act.put, Lx.p1, Lx.p2, Lx.p3])
  first
    | (apply Lx.kk HO 14; (case hx => exact ⟨rfl, rfl⟩); (case hk => decide +kernel); simp only [Act.put, Lx.p1, Lx.p2, Lx.p3])
    | (apply Lx.kp HO 14; (case hx => exact ⟨rfl, rfl, rfl⟩); (case hk => decide +kernel); (case hv => intro w_ hw_; (go_simp <;> first | with_reducible rfl | exact ⟨rfl, rfl⟩)); simp only [Act.put, Lx.p1, Lx.p2, Lx.p3])
  first
    | (apply Lx.kk HO 15; (case hx => exact ⟨rfl, rfl⟩); (case hk => decide +kernel); simp only [Act.put, Lx.p1, Lx.p2, Lx.p3])
    | (apply Lx.kp HO 15; (case hx => exact ⟨rfl, rfl, rfl⟩); (case hk => decide +kernel); (case hv => intro w_ hw_; (go_simp <;> first | with_reducible rfl | exact ⟨rfl, rfl⟩)); simp only [Act.put, Lx.p1, Lx.p2, Lx.p3])
  first
    | (apply Lx.kk HO 16; (case hx => exact ⟨rfl, rfl⟩); (case hk => decide +kernel); simp only [Act.put, Lx.p1, Lx.p2, Lx.p3])
    | (apply Lx.kp HO 16; (case hx => exact ⟨rfl, rfl, rfl⟩); (case hk => decide +kernel); (case hv => intro w_ hw_; (go_simp <;> first | with_reducible rfl | exact ⟨rfl, rfl⟩)); simp only [Act.put, Lx.p1, Lx.p2, Lx.p3])
  first
    | (apply Lx.kk HO 17; (case hx => exact ⟨rfl, rfl⟩); (case hk => decide +kernel); simp only [Act.put, Lx.p1, Lx.p2, Lx.p3])
    | (apply Lx.kr HO 17; (case hx => exact ⟨rfl, rfl, rfl⟩); (case hk => decide +kernel); (case hv => intro w_ hw_; have P_ := hw_.holds (g42_4) _ (by (repeat (first | exact Lx.ua _ _ _ | rw [Lx.un _ _ (by omega)] | rw [Lx.am]))); have c1 := cellAt P_ 1 rfl; clear P_; (go_simp <;> first | with_reducible rfl | exact ⟨rfl, rfl⟩)); simp only [Act.put, Lx.p1, Lx.p2, Lx.p3])
  first
    | (apply Lx.kk HO 18; (case hx => exact ⟨rfl, rfl⟩); (case hk => decide +kernel); simp only [Act.put, Lx.p1, Lx.p2, Lx.p3])
    | (apply Lx.kp HO 18; (case hx => exact ⟨rfl, rfl, rfl⟩); (case hk => decide +kernel); (case hv => intro w_ hw_; (go_simp <;> first | with_reducible rfl | exact ⟨rfl, rfl⟩)); simp only [Act.put, Lx.p1, Lx.p2, Lx.p3])
  first
    | (apply Lx.kk HO 19; (case hx => exact ⟨rfl, rfl⟩); (case hk => decide +kernel); simp only [Act.put, Lx.p1, Lx.p2, Lx.p3])
    | (apply Lx.kp HO 19; (case hx => exact ⟨rfl, rfl, rfl⟩); (case hk => decide +kernel); (case hv => intro w_ hw_; (go_simp <;> first | with_reducible rfl | exact ⟨rfl, rfl⟩)); simp only [Act.put, Lx.p1, Lx.p2, Lx.p3])
  first
    | (apply Lx.kp HO 20; (case hx => exact ⟨rfl, rfl, rfl⟩); (case hk => decide +kernel); (case hv => intro w_ hw_; (go_simp <;> first | with_reducible rfl | exact ⟨rfl, rfl⟩)); simp only [Act.put, Lx.p1, Lx.p2, Lx.p3])
  refine Lx.kd HO (by kernel_rfl) (fun hiv2 => hZ _ _ (fun W9 hw2 => ?_))
  clear hZ Z HO O
  have hin_ := Lib.hid (And.intro hw2 hiv2 : Lx.II _ _ _ _)
  clear hw2 hiv2
  replace HIN := Lib.hid (Lx.tk hin_.out (Lx.tk hin_.out (Lx.tk hin_.out (Lx.tk hin_.out (Lx.tk hin_.out (Lx.tk hin_.out (Lx.tk hin_.out (Lx.II.nil hin_.out.1.below) (w.heap.size) (by (repeat (first | exact Lx.ua _ _ _ | rw [Lx.un _ _ (by omega)] | rw [Lx.am])))) (w.heap.size + 1) (by (repeat (first | exact Lx.ua _ _ _ | rw [Lx.un _ _ (by omega)] | rw [Lx.am])))) (w.heap.size + 1 + 1) (by (repeat (first | exact Lx.ua _ _ _ | rw [Lx.un _ _ (by omega)] | rw [Lx.am])))) (g42_1) (by (repeat (first | exact Lx.ua _ _ _ | rw [Lx.un _ _ (by omega)] | rw [Lx.am])))) (g42_2) (by (repeat (first | exact Lx.ua _ _ _ | rw [Lx.un _ _ (by omega)] | rw [Lx.am])))) (g42_3) (by (repeat (first | exact Lx.ua _ _ _ | rw [Lx.un _ _ (by omega)] | rw [Lx.am])))) (g42_4) (by (repeat (first | exact Lx.ua _ _ _ | rw [Lx.un _ _ (by omega)] | rw [Lx.am]))))
  clear hin_
  go_upto_region 19 with fail
  refine Lx.regionS0 (by kernel_rfl) (by kernel_rfl) HIN.out.1 HIN.out.2 (by simp only [List.size_toArray, List.length_cons, List.length_nil, Nat.reduceAdd]; rfl) (fun O Z hO hZ => ?_); have HO := Lib.hid hO; clear hO
  first
    | (apply Lx.kp HO 0; (case hx => exact ⟨rfl, rfl, rfl⟩); (case hk => decide +kernel); (case hv => intro w_ hw_; (go_simp <;> first | with_reducible rfl | exact ⟨rfl, rfl⟩)); simp only [Act.put, Lx.p1, Lx.p2, Lx.p3])
  first
    | (apply Lx.kp HO 1; (case hx => exact ⟨rfl, rfl, rfl⟩); (case hk => decide +kernel); (case hv => intro w_ hw_; (go_simp <;> first | with_reducible rfl | exact ⟨rfl, rfl⟩)); simp only [Act.put, Lx.p1, Lx.p2, Lx.p3])
  first
    | (apply Lx.kr HO 2; (case hx => exact ⟨rfl, rfl, rfl⟩); (case hk => decide +kernel); (case hv => intro w_ hw_; have P_ := hw_.holds (g42_4) _ (by (repeat (first | exact Lx.ua _ _ _ | rw [Lx.un _ _ (by omega)] | rw [Lx.am]))); have c0 := cellAt P_ 0 rfl; clear P_; (go_simp <;> first | with_reducible rfl | exact ⟨rfl, rfl⟩)); simp only [Act.put, Lx.p1, Lx.p2, Lx.p3])
  first
    | (apply Lx.kr HO 3; (case hx => exact ⟨rfl, rfl, rfl⟩); (case hk => decide +kernel); (case hv => intro w_ hw_; skip; (go_simp <;> first | with_reducible rfl | exact ⟨rfl, rfl⟩)); simp only [Act.put, Lx.p1, Lx.p2, Lx.p3])
  first
    | (apply Lx.kp HO 4; (case hx => exact ⟨rfl, rfl, rfl⟩); (case hk => decide +kernel); (case hv => intro w_ hw_; (go_simp <;> first | with_reducible rfl | exact ⟨rfl, rfl⟩)); simp only [Act.put, Lx.p1, Lx.p2, Lx.p3])
  first
    | (apply Lx.kp HO 5; (case hx => exact ⟨rfl, rfl, rfl⟩); (case hk => decide +kernel); (case hv => intro w_ hw_; (go_simp <;> first | with_reducible rfl | exact ⟨rfl, rfl⟩)); simp only [Act.put, Lx.p1, Lx.p2, Lx.p3])
  first
    | (apply Lx.kk HO 6; (case hx => exact ⟨rfl, rfl⟩); (case hk => decide +kernel); simp only [Act.put, Lx.p1, Lx.p2, Lx.p3])
    | (apply Lx.kp HO 6; (case hx => exact ⟨rfl, rfl, rfl⟩); (case hk => decide +kernel); (case hv => intro w_ hw_; (go_simp <;> first | with_reducible rfl | exact ⟨rfl, rfl⟩)); simp only [Act.put, Lx.p1, Lx.p2, Lx.p3])
  first
    | (apply Lx.kk HO 7; (case hx => exact ⟨rfl, rfl⟩); (case hk => decide +kernel); simp only [Act.put, Lx.p1, Lx.p2, Lx.p3])
    | (apply Lx.kr HO 7; (case hx => exact ⟨rfl, rfl, rfl⟩); (case hk => decide +kernel); (case hv => intro w_ hw_; have P_ := hw_.holds (g42_4) _ (by (repeat (first | exact Lx.ua _ _ _ | rw [Lx.un _ _ (by omega)] | rw [Lx.am]))); have c0 := cellAt P_ 0 rfl; clear P_; (go_simp <;> first | with_reducible rfl | exact ⟨rfl, rfl⟩)); simp only [Act.put, Lx.p1, Lx.p2, Lx.p3])
  first
    | (apply Lx.kk HO 8; (case hx => exact ⟨rfl, rfl⟩); (case hk => decide +kernel); simp only [Act.put, Lx.p1, Lx.p2, Lx.p3])
    | (apply Lx.kp HO 8; (case hx => exact ⟨rfl, rfl, rfl⟩); (case hk => decide +kernel); (case hv => intro w_ hw_; (go_simp <;> first | with_reducible rfl | exact ⟨rfl, rfl⟩)); simp only [Act.put, Lx.p1, Lx.p2, Lx.p3])
  first
    | (apply Lx.kk HO 9; (case hx => exact ⟨rfl, rfl⟩); (case hk => decide +kernel); simp only [Act.put, Lx.p1, Lx.p2, Lx.p3])
    | (apply Lx.kp HO 9; (case hx => exact ⟨rfl, rfl, rfl⟩); (case hk => decide +kernel); (case hv => intro w_ hw_; (go_simp <;> first | with_reducible rfl | exact ⟨rfl, rfl⟩)); simp only [Act.put, Lx.p1, Lx.p2, Lx.p3])
  first
    | (apply Lx.kk HO 10; (case hx => exact ⟨rfl, rfl⟩); (case hk => decide +kernel); simp only [Act.put, Lx.p1, Lx.p2, Lx.p3])
    | (apply Lx.kp HO 10; (case hx => exact ⟨rfl, rfl, rfl⟩); (case hk => decide +kernel); (case hv => intro w_ hw_; (go_simp <;> first | with_reducible rfl | exact ⟨rfl, rfl⟩)); simp only [Act.put, Lx.p1, Lx.p2, Lx.p3])
  first
    | (apply Lx.kk HO 11; (case hx => exact ⟨rfl, rfl⟩); (case hk => decide +kernel); simp only [Act.put, Lx.p1, Lx.p2, Lx.p3])
    | ((first | (apply Lx.kk HO 11; (case hx => exact ⟨rfl, rfl⟩); (case hk => decide +kernel); simp only [Act.put, Lx.p1, Lx.p2, Lx.p3]) | (apply Lx.kr HO 11; (case hx => exact ⟨rfl, rfl, rfl⟩); (case hk => decide +kernel); (case hv => intro w_ hw_; have q0 := Below.at hw_.below gc0 hb4; (go_simp <;> first | with_reducible rfl | exact ⟨rfl, rfl⟩)); simp only [Act.put, Lx.p1, Lx.p2, Lx.p3])))
  first
    | (apply Lx.kk HO 12; (case hx => exact ⟨rfl, rfl⟩); (case hk => decide +kernel); simp only [Act.put, Lx.p1, Lx.p2, Lx.p3])
    | (apply Lx.kp HO 12; (case hx => exact ⟨rfl, rfl, rfl⟩); (case hk => decide +kernel); (case hv => intro w_ hw_; (go_simp <;> first | with_reducible rfl | exact ⟨rfl, rfl⟩)); simp only [Act.put, Lx.p1, Lx.p2, Lx.p3])
  first
    | (apply Lx.kp HO 13; (case hx => exact ⟨rfl, rfl, rfl⟩); (case hk => decide +kernel); (case hv => intro w_ hw_; (go_simp <;> first | with_reducible rfl | exact ⟨rfl, rfl⟩)); simp only [Act.put, Lx.p1, Lx.p2, Lx.p3])
  refine Lx.kd HO (by kernel_rfl) (fun hiv2 => hZ _ _ (fun W10 hw2 => ?_))
  clear hZ Z HO O
  have hin_ := Lib.hid (And.intro hw2 hiv2 : Lx.II _ _ _ _)
  clear hw2 hiv2
  replace HIN := Lib.hid (Lx.tk hin_.out (Lx.tk hin_.out (Lx.tk hin_.out (Lx.tk hin_.out (Lx.tk hin_.out (Lx.tk hin_.out (Lx.tk hin_.out (Lx.II.nil hin_.out.1.below) (w.heap.size) (by (repeat (first | exact Lx.ua _ _ _ | rw [Lx.un _ _ (by omega)] | rw [Lx.am])))) (w.heap.size + 1) (by (repeat (first | exact Lx.ua _ _ _ | rw [Lx.un _ _ (by omega)] | rw [Lx.am])))) (w.heap.size + 1 + 1) (by (repeat (first | exact Lx.ua _ _ _ | rw [Lx.un _ _ (by omega)] | rw [Lx.am])))) (g42_1) (by (repeat (first | exact Lx.ua _ _ _ | rw [Lx.un _ _ (by omega)] | rw [Lx.am])))) (g42_2) (by (repeat (first | exact Lx.ua _ _ _ | rw [Lx.un _ _ (by omega)] | rw [Lx.am])))) (g42_3) (by (repeat (first | exact Lx.ua _ _ _ | rw [Lx.un _ _ (by omega)] | rw [Lx.am])))) (g42_4) (by (repeat (first | exact Lx.ua _ _ _ | rw [Lx.un _ _ (by omega)] | rw [Lx.am]))))
  clear hin_
  go_upto_region 20 with fail
  refine Lx.regionS (by kernel_rfl) (by kernel_rfl) HIN.out.1 HIN.out.2 (by simp only [List.size_toArray, List.length_cons, List.length_nil, Nat.reduceAdd]; rfl) (fun O Z hO hZ => ?_); have HO := Lib.hid hO; clear hO
  first
    | (apply Lx.kr HO 0; (case hx => exact ⟨rfl, rfl, rfl⟩); (case hk => decide +kernel); (case hv => intro w_ hw_; have P_ := hw_.holds (g42_2) _ (by (repeat (first | exact Lx.ua _ _ _ | rw [Lx.un _ _ (by omega)] | rw [Lx.am]))); obtain ⟨c0, c1, c2, c3, c4, c5, c6, c7⟩ := Lx.cells8 P_; clear P_; (go_simp <;> first | with_reducible rfl | exact ⟨rfl, rfl⟩)); simp only [Act.put, Lx.p1, Lx.p2, Lx.p3])
  first
    | (apply Lx.kp HO 1; (case hx => exact ⟨rfl, rfl, rfl⟩); (case hk => decide +kernel); (case hv => intro w_ hw_; (go_simp <;> first | with_reducible rfl | exact ⟨rfl, rfl⟩)); simp only [Act.put, Lx.p1, Lx.p2, Lx.p3])
  first
    | (apply Lx.kr HO 2; (case hx => exact ⟨rfl, rfl, rfl⟩); (case hk => decide +kernel); (case hv => intro w_ hw_; have P_ := hw_.holds (g42_4) _ (by (repeat (first | exact Lx.ua _ _ _ | rw [Lx.un _ _ (by omega)] | rw [Lx.am]))); have c0 := cellAt P_ 0 rfl; clear P_; (go_simp <;> first | with_reducible rfl | exact ⟨rfl, rfl⟩)); simp only [Act.put, Lx.p1, Lx.p2, Lx.p3])
  first
    | (apply Lx.kp HO 3; (case hx => exact ⟨rfl, rfl, rfl⟩); (case hk => decide +kernel); (case hv => intro w_ hw_; (go_simp <;> first | with_reducible rfl | exact ⟨rfl, rfl⟩)); simp only [Act.put, Lx.p1, Lx.p2, Lx.p3])
  first
    | (apply Lx.kp HO 4; (case hx => exact ⟨rfl, rfl, rfl⟩); (case hk => decide +kernel); (case hv => intro w_ hw_; (go_simp <;> first | with_reducible rfl | exact ⟨rfl, rfl⟩)); simp only [Act.put, Lx.p1, Lx.p2, Lx.p3])
  first
    | (apply Lx.kp HO 5; (case hx => exact ⟨rfl, rfl, rfl⟩); (case hk => decide +kernel); (case hv => intro w_ hw_; (go_simp <;> first | with_reducible rfl | exact ⟨rfl, rfl⟩)); simp only [Act.put, Lx.p1, Lx.p2, Lx.p3])
  first
    | (apply Lx.kr HO 6; (case hx => exact ⟨rfl, rfl, rfl⟩); (case hk => decide +kernel); (case hv => intro w_ hw_; have q0 := Below.at hw_.below gc2 hb4; (go_simp <;> first | with_reducible rfl | exact ⟨rfl, rfl⟩)); simp only [Act.put, Lx.p1, Lx.p2, Lx.p3])
  first
    | (apply Lx.kp HO 7; (case hx => exact ⟨rfl, rfl, rfl⟩); (case hk => decide +kernel); (case hv => intro w_ hw_; (go_simp <;> first | with_reducible rfl | exact ⟨rfl, rfl⟩)); simp only [Act.put, Lx.p1, Lx.p2, Lx.p3])
  first
    | (apply Lx.kp HO 9; (case hx => exact ⟨rfl, rfl, rfl⟩); (case hk => decide +kernel); (case hv => intro w_ hw_; (go_simp <;> first | with_reducible rfl | exact ⟨rfl, rfl⟩)); simp only [Act.put, Lx.p1, Lx.p2, Lx.p3])
  first
    | (apply Lx.kr HO 10; (case hx => exact ⟨rfl, rfl, rfl⟩); (case hk => decide +kernel); (case hv => intro w_ hw_; have P_ := hw_.holds (g42_4) _ (by (repeat (first | exact Lx.ua _ _ _ | rw [Lx.un _ _ (by omega)] | rw [Lx.am]))); have c0 := cellAt P_ 0 rfl; clear P_; (go_simp <;> first | with_reducible rfl | exact ⟨rfl, rfl⟩)); simp only [Act.put, Lx.p1, Lx.p2, Lx.p3])
  first
    | (apply Lx.kp HO 11; (case hx => exact ⟨rfl, rfl, rfl⟩); (case hk => decide +kernel); (case hv => intro w_ hw_; (go_simp <;> first | with_reducible rfl | exact ⟨rfl, rfl⟩)); simp only [Act.put, Lx.p1, Lx.p2, Lx.p3])
  first
    | (apply Lx.kp HO 12; (case hx => exact ⟨rfl, rfl, rfl⟩); (case hk => decide +kernel); (case hv => intro w_ hw_; (go_simp <;> first | with_reducible rfl | exact ⟨rfl, rfl⟩)); simp only [Act.put, Lx.p1, Lx.p2, Lx.p3])
  first
    | (apply Lx.kp HO 13; (case hx => exact ⟨rfl, rfl, rfl⟩); (case hk => decide +kernel); (case hv => intro w_ hw_; (go_simp <;> first | with_reducible rfl | exact ⟨rfl, rfl⟩)); simp only [Act.put, Lx.p1, Lx.p2, Lx.p3])
  first
    | (apply Lx.kr HO 14; (case hx => exact ⟨rfl, rfl, rfl⟩); (case hk => decide +kernel); (case hv => intro w_ hw_; have q0 := Below.at hw_.below gc3 hb4; (go_simp <;> first | with_reducible rfl | exact ⟨rfl, rfl⟩)); simp only [Act.put, Lx.p1, Lx.p2, Lx.p3])
  first
    | (apply Lx.kc HO 8; (case hx => exact ⟨rfl, rfl, rfl⟩); (case hk => decide +kernel); (case hrun => intro w_; (go_simp <;> first | with_reducible rfl | exact ⟨rfl, rfl⟩)); (case hc => intro w_ hw_; exact put_any f.r nv val hf nv8 _); simp only [Act.put, Lx.p1, Lx.p2, Lx.p3])
  first
    | (apply Lx.kp HO 15; (case hx => exact ⟨rfl, rfl, rfl⟩); (case hk => decide +kernel); (case hv => intro w_ hw_; (go_simp <;> first | with_reducible rfl | exact ⟨rfl, rfl⟩)); simp only [Act.put, Lx.p1, Lx.p2, Lx.p3])
  first
    | (apply Lx.kc HO 16; (case hx => exact ⟨rfl, rfl, rfl⟩); (case hk => decide +kernel); (case hrun => intro w_; (go_simp <;> first | with_reducible rfl | exact ⟨rfl, rfl⟩)); (case hc => intro w_ hw_; exact rflag_b ok _); simp only [Act.put, Lx.p1, Lx.p2, Lx.p3])
  first
    | (apply Lx.kc HO 17; (case hx => exact ⟨rfl, rfl, rfl⟩); (case hk => decide +kernel); (case hrun => intro w_; (go_simp <;> first | with_reducible rfl | exact ⟨rfl, rfl⟩)); (case hc => intro w_ hw_; exact put_any (f.r.set nv val) no (flagI ok) (by rw [List.length_set]; exact hf) no8 _); simp only [Act.put, Lx.p1, Lx.p2, Lx.p3])
  first
    | (apply Lx.ks HO 18 (g := g42_2); (case hx => exact ⟨rfl, rfl, rfl⟩); (case hk => decide +kernel); (case hG => exact fun _ _ h_ _ => h_); (case hg => (repeat (first | exact Lx.ua _ _ _ | rw [Lx.un _ _ (by omega)] | rw [Lx.am]))); (case hrun => intro w_ hw_ hb_; obtain ⟨c0, c1, c2, c3, c4, c5, c6, c7⟩ := Lx.cells8 hb_; obtain ⟨d0, d1, d2, d3, d4, d5, d6, d7⟩ := Lx.froz8 hb_; refine ⟨?_, ?_, ?_, ?_⟩; rotate_left; (next => (go_simp <;> first | with_reducible rfl | rfl)); (next => (repeat (first | (with_reducible exact Lx.OnlyAt.refl _ _) | (with_reducible refine Lx.OnlyAt.set ?_ _ _)))); (next => (simp [World.setCell, Array.getElem?_modify, hb_] <;> rfl))); simp only [Act.put, Lx.p1, Lx.p2, Lx.p3])
  refine Lx.kd HO (by kernel_rfl) (fun hiv2 => hZ _ _ (fun W11 hw2 => ?_))
  clear hZ Z HO O
  have hin_ := Lib.hid (And.intro hw2 hiv2 : Lx.II _ _ _ _)
  clear hw2 hiv2
  replace HIN := Lib.hid (Lx.tk hin_.out (Lx.tk hin_.out (Lx.tk hin_.out (Lx.tk hin_.out (Lx.tk hin_.out (Lx.tk hin_.out (Lx.tk hin_.out (Lx.II.nil hin_.out.1.below) (w.heap.size) (by (repeat (first | exact Lx.ua _ _ _ | rw [Lx.un _ _ (by omega)] | rw [Lx.am])))) (w.heap.size + 1) (by (repeat (first | exact Lx.ua _ _ _ | rw [Lx.un _ _ (by omega)] | rw [Lx.am])))) (w.heap.size + 1 + 1) (by (repeat (first | exact Lx.ua _ _ _ | rw [Lx.un _ _ (by omega)] | rw [Lx.am])))) (g42_1) (by (repeat (first | exact Lx.ua _ _ _ | rw [Lx.un _ _ (by omega)] | rw [Lx.am])))) (g42_2) (by (repeat (first | exact Lx.ua _ _ _ | rw [Lx.un _ _ (by omega)] | rw [Lx.am])))) (g42_3) (by (repeat (first | exact Lx.ua _ _ _ | rw [Lx.un _ _ (by omega)] | rw [Lx.am])))) (g42_4) (by (repeat (first | exact Lx.ua _ _ _ | rw [Lx.un _ _ (by omega)] | rw [Lx.am]))))
  clear hin_
  go_upto_region 21 with fail
  refine Lx.regionS0 (by kernel_rfl) (by kernel_rfl) HIN.out.1 HIN.out.2 (by simp only [List.size_toArray, List.length_cons, List.length_nil, Nat.reduceAdd]; rfl) (fun O Z hO hZ => ?_); have HO := Lib.hid hO; clear hO
  first
    | (apply Lx.kr HO 0; (case hx => exact ⟨rfl, rfl, rfl⟩); (case hk => decide +kernel); (case hv => intro w_ hw_; have P_ := hw_.holds (g42_2) _ (by (repeat (first | exact Lx.ua _ _ _ | rw [Lx.un _ _ (by omega)] | rw [Lx.am]))); obtain ⟨c0, c1, c2, c3, c4, c5, c6, c7⟩ := Lx.cells8 P_; clear P_; (go_simp <;> first | with_reducible rfl | exact ⟨rfl, rfl⟩)); simp only [Act.put, Lx.p1, Lx.p2, Lx.p3])
  first
    | (apply Lx.kp HO 1; (case hx => exact ⟨rfl, rfl, rfl⟩); (case hk => decide +kernel); (case hv => intro w_ hw_; (go_simp <;> first | with_reducible rfl | exact ⟨rfl, rfl⟩)); simp only [Act.put, Lx.p1, Lx.p2, Lx.p3])
  first
    | (apply Lx.kr HO 2; (case hx => exact ⟨rfl, rfl, rfl⟩); (case hk => decide +kernel); (case hv => intro w_ hw_; have P_ := hw_.holds (g42_1) _ (by (repeat (first | exact Lx.ua _ _ _ | rw [Lx.un _ _ (by omega)] | rw [Lx.am]))); have c2 := cellAt P_ 2 rfl; clear P_; (go_simp <;> first | with_reducible rfl | exact ⟨rfl, rfl⟩)); simp only [Act.put, Lx.p1, Lx.p2, Lx.p3])
  first
    | (apply Lx.kp HO 3; (case hx => exact ⟨rfl, rfl, rfl⟩); (case hk => decide +kernel); (case hv => intro w_ hw_; (go_simp <;> first | with_reducible rfl | exact ⟨rfl, rfl⟩)); simp only [Act.put, Lx.p1, Lx.p2, Lx.p3])
  first
    | (apply Lx.kc HO 4; (case hx => exact ⟨rfl, rfl, rfl⟩); (case hk => decide +kernel); (case hrun => intro w_; (go_simp <;> first | with_reducible rfl | exact ⟨rfl, rfl⟩)); (case hc => intro w_ hw_; exact put_any ((f.r.set nv val).set no (flagI ok)) nb (m : Int) (by rw [List.length_set, List.length_set]; exact hf) nb8 _); simp only [Act.put, Lx.p1, Lx.p2, Lx.p3])
  first
    | (apply Lx.kp HO 5; (case hx => exact ⟨rfl, rfl, rfl⟩); (case hk => decide +kernel); (case hv => intro w_ hw_; (go_simp <;> first | with_reducible rfl | exact ⟨rfl, rfl⟩)); simp only [Act.put, Lx.p1, Lx.p2, Lx.p3])
  first
    | (apply Lx.ks HO 6 (g := g42_3); (case hx => exact ⟨rfl, rfl, rfl⟩); (case hk => decide +kernel); (case hG => exact fun _ _ h_ _ => h_); (case hg => (repeat (first | exact Lx.ua _ _ _ | rw [Lx.un _ _ (by omega)] | rw [Lx.am]))); (case hrun => intro w_ hw_ hb_; have c2 := cellAt hb_ 2 rfl; have d2 := frozAt hb_ 2; have c3 := cellAt hb_ 3 rfl; have d3 := frozAt hb_ 3; have c4 := cellAt hb_ 4 rfl; have d4 := frozAt hb_ 4; have c5 := cellAt hb_ 5 rfl; have d5 := frozAt hb_ 5; have c6 := cellAt hb_ 6 rfl; have d6 := frozAt hb_ 6; have c7 := cellAt hb_ 7 rfl; have d7 := frozAt hb_ 7; have c8 := cellAt hb_ 8 rfl; have d8 := frozAt hb_ 8; have c9 := cellAt hb_ 9 rfl; have d9 := frozAt hb_ 9; refine ⟨?_, ?_, ?_, ?_⟩; rotate_left; (next => (go_simp <;> first | with_reducible rfl | rfl)); (next => (repeat (first | (with_reducible exact Lx.OnlyAt.refl _ _) | (with_reducible refine Lx.OnlyAt.set ?_ _ _)))); (next => (simp [World.setCell, Array.getElem?_modify, hb_] <;> rfl))); simp only [Act.put, Lx.p1, Lx.p2, Lx.p3])
  refine Lx.kd HO (by kernel_rfl) (fun hiv2 => hZ _ _ (fun W12 hw2 => ?_))
  clear hZ Z HO O
  have hin_ := Lib.hid (And.intro hw2 hiv2 : Lx.II _ _ _ _)
  clear hw2 hiv2
  replace HIN := Lib.hid (Lx.tk hin_.out (Lx.tk hin_.out (Lx.tk hin_.out (Lx.tk hin_.out (Lx.tk hin_.out (Lx.tk hin_.out (Lx.tk hin_.out (Lx.II.nil hin_.out.1.below) (w.heap.size) (by (repeat (first | exact Lx.ua _ _ _ | rw [Lx.un _ _ (by omega)] | rw [Lx.am])))) (w.heap.size + 1) (by (repeat (first | exact Lx.ua _ _ _ | rw [Lx.un _ _ (by omega)] | rw [Lx.am])))) (w.heap.size + 1 + 1) (by (repeat (first | exact Lx.ua _ _ _ | rw [Lx.un _ _ (by omega)] | rw [Lx.am])))) (g42_1) (by (repeat (first | exact Lx.ua _ _ _ | rw [Lx.un _ _ (by omega)] | rw [Lx.am])))) (g42_2) (by (repeat (first | exact Lx.ua _ _ _ | rw [Lx.un _ _ (by omega)] | rw [Lx.am])))) (g42_3) (by (repeat (first | exact Lx.ua _ _ _ | rw [Lx.un _ _ (by omega)] | rw [Lx.am])))) (g42_4) (by (repeat (first | exact Lx.ua _ _ _ | rw [Lx.un _ _ (by omega)] | rw [Lx.am]))))
  clear hin_
  go_upto_region 22 with fail
  refine Lx.regionS0 (by kernel_rfl) (by kernel_rfl) HIN.out.1 HIN.out.2 (by simp only [List.size_toArray, List.length_cons, List.length_nil, Nat.reduceAdd]; rfl) (fun O Z hO hZ => ?_); have HO := Lib.hid hO; clear hO
  first
    | (apply Lx.kr HO 0; (case hx => exact ⟨rfl, rfl, rfl⟩); (case hk => decide +kernel); (case hv => intro w_ hw_; have P_ := hw_.holds (g42_3) _ (by (repeat (first | exact Lx.ua _ _ _ | rw [Lx.un _ _ (by omega)] | rw [Lx.am]))); obtain ⟨c0, c1, c2, c3, c4, c5, c6, c7, c8, c9⟩ := Lx.cells10 P_; clear P_; (go_simp <;> first | with_reducible rfl | exact ⟨rfl, rfl⟩)); simp only [Act.put, Lx.p1, Lx.p2, Lx.p3])
  first
    | (apply Lx.ks HO 1 (g := w.heap.size + 1 + 1); (case hx => exact ⟨rfl, rfl, rfl⟩); (case hk => decide +kernel); (case hG => exact fun _ _ h_ _ => h_); (case hg => (repeat (first | exact Lx.ua _ _ _ | rw [Lx.un _ _ (by omega)] | rw [Lx.am]))); (case hrun => intro w_ hw_ hb_; obtain ⟨c0, c1, c2, c3, c4, c5, c6, c7, c8, c9⟩ := Lx.cells10 hb_; obtain ⟨d0, d1, d2, d3, d4, d5, d6, d7, d8, d9⟩ := Lx.froz10 hb_; refine ⟨?_, ?_, ?_, ?_⟩; rotate_left; (next => (go_simp <;> first | with_reducible rfl | rfl)); (next => (repeat (first | (with_reducible exact Lx.OnlyAt.refl _ _) | (with_reducible refine Lx.OnlyAt.set ?_ _ _)))); (next => (simp [World.setCell, Array.getElem?_modify, hb_] <;> rfl))); simp only [Act.put, Lx.p1, Lx.p2, Lx.p3])
  first
    | (apply Lx.kp HO 2; (case hx => exact ⟨rfl, rfl, rfl⟩); (case hk => decide +kernel); (case hv => intro w_ hw_; (go_simp <;> first | with_reducible rfl | exact ⟨rfl, rfl⟩)); simp only [Act.put, Lx.p1, Lx.p2, Lx.p3])
  refine Lx.kd HO (by kernel_rfl) (fun hiv2 => hZ _ _ (fun W13 hw2 => ?_))
  clear hZ Z HO O
  have hin_ := Lib.hid (And.intro hw2 hiv2 : Lx.II _ _ _ _)
  clear hw2 hiv2
  replace HIN := Lib.hid (Lx.tk hin_.out (Lx.tk hin_.out (Lx.tk hin_.out (Lx.tk hin_.out (Lx.tk hin_.out (Lx.tk hin_.out (Lx.tk hin_.out (Lx.II.nil hin_.out.1.below) (w.heap.size) (by (repeat (first | exact Lx.ua _ _ _ | rw [Lx.un _ _ (by omega)] | rw [Lx.am])))) (w.heap.size + 1) (by (repeat (first | exact Lx.ua _ _ _ | rw [Lx.un _ _ (by omega)] | rw [Lx.am])))) (w.heap.size + 1 + 1) (by (repeat (first | exact Lx.ua _ _ _ | rw [Lx.un _ _ (by omega)] | rw [Lx.am])))) (g42_1) (by (repeat (first | exact Lx.ua _ _ _ | rw [Lx.un _ _ (by omega)] | rw [Lx.am])))) (g42_2) (by (repeat (first | exact Lx.ua _ _ _ | rw [Lx.un _ _ (by omega)] | rw [Lx.am])))) (g42_3) (by (repeat (first | exact Lx.ua _ _ _ | rw [Lx.un _ _ (by omega)] | rw [Lx.am])))) (g42_4) (by (repeat (first | exact Lx.ua _ _ _ | rw [Lx.un _ _ (by omega)] | rw [Lx.am]))))
  clear hin_
  have P_ := HIN.out.1.holds (w.heap.size + 1 + 1) _ (by (repeat (first | exact Lx.ua _ _ _ | rw [Lx.un _ _ (by omega)] | rw [Lx.am])))
  obtain ⟨r0_0, r0_1, r0_2, r0_3, r0_4, r0_5, r0_6, r0_7, r0_8, r0_9⟩ := Lx.cells10 P_
  clear P_
  go_wp2
  refine Lx.ret_of (by simp [results, Try.results42, go_sem, r0_0, r0_1, r0_2, r0_3, r0_4, r0_5, r0_6, r0_7, r0_8, r0_9] <;> (repeat' (first | rfl | apply And.intro))) rfl ⟨rfl, HIN.out.1.below⟩
theorem rdone_any {c1 c2 c3 : Value} {P : ProgV} {w : World} (h : RProg w c1 c2 c3 P) (hs : saneP P = true) (f : FrameV) (hf : f.wf) (k val : Int) (ok : Bool) :
    Calls Try.prog 42 #[.agg #[c1, c2, c3], f.agg, .int .i64 k, .int .i64 val, .bool ok] w fun e w' => e = .returned (.tuple #[(doneF P f k val ok).1.agg, .int .i64 (doneF P f k val ok).2]) ∧ Below w.heap.size w w' := by
  cases hat : atB P f.code f.pc with
  | false => exact rdone_no h hs f hf k val ok hat
  | true =>
    cases hl : localB (atX P f.code f.pc).op with
    | true => exact rdone_local h hs f hf k val ok hat hl
    | false =>
      by_cases h8 : (atX P f.code f.pc).op = 8
      · obtain ⟨n, hxk, hn⟩ := sane_sel hs hat h8
        by_cases hb : k < 0 ∨ ((P.sites[n]).cases.length : Int) < k ∨ (k = (P.sites[n]).cases.length ∧ (P.sites[n]).dflt = false)
        · exact rdone_sel_bad h hs f hf k val ok hat h8 n hxk hn hb
        · obtain ⟨m, rfl⟩ : ∃ m : Nat, k = m := Int.eq_ofNat_of_zero_le (by omega)
          by_cases hm : m < (P.sites[n]).cases.length
          · cases hsd : (P.sites[n]).cases[m].send with
            | true => exact rdone_sel_send h hs f hf m val ok hat h8 n hxk hn hm hsd
            | false => exact rdone_sel_recv h hs f hf m val ok hat h8 n hxk hn hm hsd
          · have he : (m : Int) = (P.sites[n]).cases.length := by omega
            refine rdone_sel_dflt h hs f hf m val ok hat h8 n hxk hn he ?_
            cases hd : (P.sites[n]).dflt with
            | true => rfl
            | false => exact absurd (.inr (.inr ⟨he, hd⟩)) hb
      · by_cases hk : k = -1
        · subst hk
          by_cases h10 : (atX P f.code f.pc).op = 10
          · exact rdone_end h hs f hf val ok hat h10
          · by_cases h6 : (atX P f.code f.pc).op = 6
            · exact rdone_recv h hs f hf val ok hat h6
            · exact rdone_plain h hs f hf val ok hat hl h8 h10 h6
        · exact rdone_not h hs f hf k val ok hat hl h8 hk
end Go.Proofs.Ytljfloopjgpaeaa
