/- tollbarref11.Same of two that are the same: true. -/
import Derived.Test.YtljfloopjgpaeaaNA
import Derived.Test.YtljfloopjgpaeaaQU
namespace Go.Proofs.Ytljfloopjgpaeaa
set_option linter.unusedVariables false
set_option linter.unusedSimpArgs false
open Go.RowKit
attribute [local go_sem] Oper.semAt_some
set_option maxRecDepth 100000

theorem eq_ins_yes (d : Nat) (x : InsV) (w : World) : (Op.equalIn (d + 2) 56 (.agg #[.int .u8 x.op, .int .i64 x.a, .int .i64 x.b, .int .i64 x.ch, .int .i64 x.k]) (.agg #[.int .u8 x.op, .int .i64 x.a, .int .i64 x.b, .int .i64 x.ch, .int .i64 x.k])).run Try.prog w = .ok true w := by
  rw [eq_insB, decide_eq_true rfl]
theorem eq_case_yes (d : Nat) (x : CaseV) (w : World) : (Op.equalIn (d + 2) 63 (.agg #[.bool x.send, .int .i64 x.ch, .int .i64 x.val, .int .i64 x.ok]) (.agg #[.bool x.send, .int .i64 x.ch, .int .i64 x.val, .int .i64 x.ok])).run Try.prog w = .ok true w := by
  rw [eq_caseB, decide_eq_true rfl]
set_option maxHeartbeats 16000000 in
theorem rSame_yes {w : World} {a1 a2 a3 b1 b2 b3 : Value} {P : ProgV} (h1 : RProg w a1 a2 a3 P) (h2 : RProg w b1 b2 b3 P) :
    Calls Try.prog 28 #[.agg #[a1, a2, a3], .agg #[b1, b2, b3]] w fun e w' => e = .returned (.bool true) ∧ Below w.heap.size w w' := by
  have H1 := Lib.hid h1
  have H2 := Lib.hid h2
  obtain ⟨A1, n1, rfl, _, _, hl1⟩ := h1.caps.val
  obtain ⟨A2, n2, rfl, _, _, hl2⟩ := h1.codes.val
  obtain ⟨A3, n3, rfl, _, _, hl3⟩ := h1.sites.val
  obtain ⟨B1, m1, rfl, _, _, _⟩ := h2.caps.val
  obtain ⟨B2, m2, rfl, _, _, _⟩ := h2.codes.val
  obtain ⟨B3, m3, rfl, _, _, _⟩ := h2.sites.val
  clear h1 h2
  go_enter Try.func28, Try.ntmps28
  go_upto_region 1 with fail
  refine Ly.start2 (fun W1 hII => ?_)
  have HIN := Lib.hid hII
  clear hII
  go_upto_region 1 with fail
  refine Ly.regionS0 (by kernel_rfl) (by kernel_rfl) HIN.out.1 HIN.out.2 (by simp only [List.size_toArray, List.length_cons, List.length_nil, Nat.reduceAdd]; rfl) (fun O Z hO hZ => ?_); have HO := Lib.hid hO; clear hO
  first
    | (apply Ly.kp HO 0; (case hx => exact ⟨rfl, rfl, rfl⟩); (case hk => decide +kernel); (case hv => intro w_ hw_; (go_simp <;> first | with_reducible rfl | exact ⟨rfl, rfl⟩)); simp only [Act.put, Ly.p1, Ly.p2, Ly.p3])
  first
    | (apply Ly.kr HO 1; (case hx => exact ⟨rfl, rfl, rfl⟩); (case hk => decide +kernel); (case hv => intro w_ hw_; have P_ := hw_.holds (w.heap.size) _ (by (repeat (first | exact Ly.ua _ _ _ | rw [Ly.un _ _ (by omega)] | rw [Ly.am] | rw [Ly.fz]))); have c0 := Ly.cellAt P_ 0 rfl; clear P_; (go_simp <;> first | with_reducible rfl | exact ⟨rfl, rfl⟩)); simp only [Act.put, Ly.p1, Ly.p2, Ly.p3])
  first
    | (apply Ly.kr HO 2; (case hx => exact ⟨rfl, rfl, rfl⟩); (case hk => decide +kernel); (case hv => intro w_ hw_; skip; (go_simp <;> first | with_reducible rfl | exact ⟨rfl, rfl⟩)); simp only [Act.put, Ly.p1, Ly.p2, Ly.p3])
  first
    | (apply Ly.kp HO 3; (case hx => exact ⟨rfl, rfl, rfl⟩); (case hk => decide +kernel); (case hv => intro w_ hw_; (go_simp <;> first | with_reducible rfl | exact ⟨rfl, rfl⟩)); simp only [Act.put, Ly.p1, Ly.p2, Ly.p3])
  first
    | (apply Ly.kr HO 4; (case hx => exact ⟨rfl, rfl, rfl⟩); (case hk => decide +kernel); (case hv => intro w_ hw_; have P_ := hw_.holds (w.heap.size + 1) _ (by (repeat (first | exact Ly.ua _ _ _ | rw [Ly.un _ _ (by omega)] | rw [Ly.am] | rw [Ly.fz]))); have c0 := Ly.cellAt P_ 0 rfl; clear P_; (go_simp <;> first | with_reducible rfl | exact ⟨rfl, rfl⟩)); simp only [Act.put, Ly.p1, Ly.p2, Ly.p3])
  first
    | (apply Ly.kr HO 5; (case hx => exact ⟨rfl, rfl, rfl⟩); (case hk => decide +kernel); (case hv => intro w_ hw_; skip; (go_simp <;> first | with_reducible rfl | exact ⟨rfl, rfl⟩)); simp only [Act.put, Ly.p1, Ly.p2, Ly.p3])
  first
    | (apply Ly.kp HO 6; (case hx => exact ⟨rfl, rfl, rfl⟩); (case hk => decide +kernel); (case hv => intro w_ hw_; (go_simp <;> first | with_reducible rfl | exact ⟨rfl, rfl⟩)); simp only [Act.put, Ly.p1, Ly.p2, Ly.p3])
  first
    | (apply Ly.kp HO 7; (case hx => exact ⟨rfl, rfl, rfl⟩); (case hk => decide +kernel); (case hv => intro w_ hw_; (go_simp <;> first | with_reducible rfl | exact ⟨rfl, rfl⟩)); simp only [Act.put, Ly.p1, Ly.p2, Ly.p3])
  first
    | (apply Ly.kk HO 8; (case hx => exact ⟨rfl, rfl⟩); (case hk => decide +kernel); simp only [Act.put, Ly.p1, Ly.p2, Ly.p3])
    | (apply Ly.kp HO 8; (case hx => exact ⟨rfl, rfl, rfl⟩); (case hk => decide +kernel); (case hv => intro w_ hw_; (go_simp <;> first | with_reducible rfl | exact ⟨rfl, rfl⟩)); simp only [Act.put, Ly.p1, Ly.p2, Ly.p3])
  first
    | (apply Ly.kk HO 9; (case hx => exact ⟨rfl, rfl⟩); (case hk => decide +kernel); simp only [Act.put, Ly.p1, Ly.p2, Ly.p3])
    | (apply Ly.kr HO 9; (case hx => exact ⟨rfl, rfl, rfl⟩); (case hk => decide +kernel); (case hv => intro w_ hw_; have P_ := hw_.holds (w.heap.size) _ (by (repeat (first | exact Ly.ua _ _ _ | rw [Ly.un _ _ (by omega)] | rw [Ly.am] | rw [Ly.fz]))); have c1 := Ly.cellAt P_ 1 rfl; clear P_; (go_simp <;> first | with_reducible rfl | exact ⟨rfl, rfl⟩)); simp only [Act.put, Ly.p1, Ly.p2, Ly.p3])
  first
    | (apply Ly.kk HO 10; (case hx => exact ⟨rfl, rfl⟩); (case hk => decide +kernel); simp only [Act.put, Ly.p1, Ly.p2, Ly.p3])
    | (apply Ly.kr HO 10; (case hx => exact ⟨rfl, rfl, rfl⟩); (case hk => decide +kernel); (case hv => intro w_ hw_; skip; (go_simp <;> first | with_reducible rfl | exact ⟨rfl, rfl⟩)); simp only [Act.put, Ly.p1, Ly.p2, Ly.p3])
  first
    | (apply Ly.kk HO 11; (case hx => exact ⟨rfl, rfl⟩); (case hk => decide +kernel); simp only [Act.put, Ly.p1, Ly.p2, Ly.p3])
    | (apply Ly.kp HO 11; (case hx => exact ⟨rfl, rfl, rfl⟩); (case hk => decide +kernel); (case hv => intro w_ hw_; (go_simp <;> first | with_reducible rfl | exact ⟨rfl, rfl⟩)); simp only [Act.put, Ly.p1, Ly.p2, Ly.p3])
  first
    | (apply Ly.kk HO 12; (case hx => exact ⟨rfl, rfl⟩); (case hk => decide +kernel); simp only [Act.put, Ly.p1, Ly.p2, Ly.p3])
    | (apply Ly.kr HO 12; (case hx => exact ⟨rfl, rfl, rfl⟩); (case hk => decide +kernel); (case hv => intro w_ hw_; have P_ := hw_.holds (w.heap.size + 1) _ (by (repeat (first | exact Ly.ua _ _ _ | rw [Ly.un _ _ (by omega)] | rw [Ly.am] | rw [Ly.fz]))); have c1 := Ly.cellAt P_ 1 rfl; clear P_; (go_simp <;> first | with_reducible rfl | exact ⟨rfl, rfl⟩)); simp only [Act.put, Ly.p1, Ly.p2, Ly.p3])
  first
    | (apply Ly.kk HO 13; (case hx => exact ⟨rfl, rfl⟩); (case hk => decide +kernel); simp only [Act.put, Ly.p1, Ly.p2, Ly.p3])
    | (apply Ly.kr HO 13; (case hx => exact ⟨rfl, rfl, rfl⟩); (case hk => decide +kernel); (case hv => intro w_ hw_; skip; (go_simp <;> first | with_reducible rfl | exact ⟨rfl, rfl⟩)); simp only [Act.put, Ly.p1, Ly.p2, Ly.p3])
  first
    | (apply Ly.kk HO 14; (case hx => exact ⟨rfl, rfl⟩); (case hk => decide +kernel); simp only [Act.put, Ly.p1, Ly.p2, Ly.p3])
    | (apply Ly.kp HO 14; (case hx => exact ⟨rfl, rfl, rfl⟩); (case hk => decide +kernel); (case hv => intro w_ hw_; (go_simp <;> first | with_reducible rfl | exact ⟨rfl, rfl⟩)); simp only [Act.put, Ly.p1, Ly.p2, Ly.p3])
  first
    | (apply Ly.kp HO 15; (case hx => exact ⟨rfl, rfl, rfl⟩); (case hk => decide +kernel); (case hv => intro w_ hw_; (go_simp <;> first | with_reducible rfl | exact ⟨rfl, rfl⟩)); simp only [Act.put, Ly.p1, Ly.p2, Ly.p3])
  first
    | (apply Ly.kp HO 16; (case hx => exact ⟨rfl, rfl, rfl⟩); (case hk => decide +kernel); (case hv => intro w_ hw_; (go_simp <;> first | with_reducible rfl | exact ⟨rfl, rfl⟩)); simp only [Act.put, Ly.p1, Ly.p2, Ly.p3])
  first
    | (apply Ly.kk HO 17; (case hx => exact ⟨rfl, rfl⟩); (case hk => decide +kernel); simp only [Act.put, Ly.p1, Ly.p2, Ly.p3])
    | (apply Ly.kp HO 17; (case hx => exact ⟨rfl, rfl, rfl⟩); (case hk => decide +kernel); (case hv => intro w_ hw_; (go_simp <;> first | with_reducible rfl | exact ⟨rfl, rfl⟩)); simp only [Act.put, Ly.p1, Ly.p2, Ly.p3])
  first
    | (apply Ly.kk HO 18; (case hx => exact ⟨rfl, rfl⟩); (case hk => decide +kernel); simp only [Act.put, Ly.p1, Ly.p2, Ly.p3])
    | (apply Ly.kr HO 18; (case hx => exact ⟨rfl, rfl, rfl⟩); (case hk => decide +kernel); (case hv => intro w_ hw_; have P_ := hw_.holds (w.heap.size) _ (by (repeat (first | exact Ly.ua _ _ _ | rw [Ly.un _ _ (by omega)] | rw [Ly.am] | rw [Ly.fz]))); have c2 := Ly.cellAt P_ 2 rfl; clear P_; (go_simp <;> first | with_reducible rfl | exact ⟨rfl, rfl⟩)); simp only [Act.put, Ly.p1, Ly.p2, Ly.p3])
  first
    | (apply Ly.kk HO 19; (case hx => exact ⟨rfl, rfl⟩); (case hk => decide +kernel); simp only [Act.put, Ly.p1, Ly.p2, Ly.p3])
    | (apply Ly.kr HO 19; (case hx => exact ⟨rfl, rfl, rfl⟩); (case hk => decide +kernel); (case hv => intro w_ hw_; skip; (go_simp <;> first | with_reducible rfl | exact ⟨rfl, rfl⟩)); simp only [Act.put, Ly.p1, Ly.p2, Ly.p3])
  first
    | (apply Ly.kk HO 20; (case hx => exact ⟨rfl, rfl⟩); (case hk => decide +kernel); simp only [Act.put, Ly.p1, Ly.p2, Ly.p3])
    | (apply Ly.kp HO 20; (case hx => exact ⟨rfl, rfl, rfl⟩); (case hk => decide +kernel); (case hv => intro w_ hw_; (go_simp <;> first | with_reducible rfl | exact ⟨rfl, rfl⟩)); simp only [Act.put, Ly.p1, Ly.p2, Ly.p3])
  first
    | (apply Ly.kk HO 21; (case hx => exact ⟨rfl, rfl⟩); (case hk => decide +kernel); simp only [Act.put, Ly.p1, Ly.p2, Ly.p3])
    | (apply Ly.kr HO 21; (case hx => exact ⟨rfl, rfl, rfl⟩); (case hk => decide +kernel); (case hv => intro w_ hw_; have P_ := hw_.holds (w.heap.size + 1) _ (by (repeat (first | exact Ly.ua _ _ _ | rw [Ly.un _ _ (by omega)] | rw [Ly.am] | rw [Ly.fz]))); have c2 := Ly.cellAt P_ 2 rfl; clear P_; (go_simp <;> first | with_reducible rfl | exact ⟨rfl, rfl⟩)); simp only [Act.put, Ly.p1, Ly.p2, Ly.p3])
  first
    | (apply Ly.kk HO 22; (case hx => exact ⟨rfl, rfl⟩); (case hk => decide +kernel); simp only [Act.put, Ly.p1, Ly.p2, Ly.p3])
    | (apply Ly.kr HO 22; (case hx => exact ⟨rfl, rfl, rfl⟩); (case hk => decide +kernel); (case hv => intro w_ hw_; skip; (go_simp <;> first | with_reducible rfl | exact ⟨rfl, rfl⟩)); simp only [Act.put, Ly.p1, Ly.p2, Ly.p3])
  first
    | (apply Ly.kk HO 23; (case hx => exact ⟨rfl, rfl⟩); (case hk => decide +kernel); simp only [Act.put, Ly.p1, Ly.p2, Ly.p3])
    | (apply Ly.kp HO 23; (case hx => exact ⟨rfl, rfl, rfl⟩); (case hk => decide +kernel); (case hv => intro w_ hw_; (go_simp <;> first | with_reducible rfl | exact ⟨rfl, rfl⟩)); simp only [Act.put, Ly.p1, Ly.p2, Ly.p3])
  first
    | (apply Ly.kp HO 24; (case hx => exact ⟨rfl, rfl, rfl⟩); (case hk => decide +kernel); (case hv => intro w_ hw_; (go_simp <;> first | with_reducible rfl | exact ⟨rfl, rfl⟩)); simp only [Act.put, Ly.p1, Ly.p2, Ly.p3])
  refine Ly.kd HO (by kernel_rfl) (fun hiv2 => hZ _ _ (fun W2 hw2 => ?_))
  clear hZ Z HO O
  have hin_ := Lib.hid (And.intro hw2 hiv2 : Ly.II _ _ _ _)
  clear hw2 hiv2
  replace HIN := Lib.hid (Ly.tk hin_.out (Ly.tk hin_.out (Ly.II.nil hin_.out.1.below) (w.heap.size) (by (repeat (first | exact Ly.ua _ _ _ | rw [Ly.un _ _ (by omega)] | rw [Ly.am] | rw [Ly.fz])))) (w.heap.size + 1) (by (repeat (first | exact Ly.ua _ _ _ | rw [Ly.un _ _ (by omega)] | rw [Ly.am] | rw [Ly.fz]))))
  clear hin_
  have P_ := HIN.out.1.holds (w.heap.size) _ (by (repeat (first | exact Ly.ua _ _ _ | rw [Ly.un _ _ (by omega)] | rw [Ly.am] | rw [Ly.fz])))
  obtain ⟨p0, p1, p2⟩ := Ly.cells3 P_
  clear P_
  have P_ := HIN.out.1.holds (w.heap.size + 1) _ (by (repeat (first | exact Ly.ua _ _ _ | rw [Ly.un _ _ (by omega)] | rw [Ly.am] | rw [Ly.fz])))
  obtain ⟨s0, s1, s2⟩ := Ly.cells3 P_
  have hpl := (Array.getElem?_eq_some_iff.1 P_).1
  clear P_
  go_wp2
  clear p0 p1 p2 s0 s1 s2 hpl
  go_loopw [5] (fun i wr => ∃ k : Nat, k ≤ P.caps.length ∧ i = .int .i64 k ∧ Ly.II w.heap.size w ((Ly.St.nil.upd w.heap.size (.cells #[.slice A1 P.caps.length n1, .slice A2 P.codes.length n2, .slice A3 P.sites.length n3] 44 (0, 0))).upd (w.heap.size + 1) (.cells #[.slice B1 P.caps.length m1, .slice B2 P.codes.length m2, .slice B3 P.sites.length m3] 44 (0, 0))) wr) (fun i _ => P.caps.length - (intOf i).toNat)
  case atStart => exact ⟨0, Nat.zero_le _, rfl, HIN.out⟩
  case round =>
    obtain ⟨k, hkk, rfl, hii⟩ := hrel
    clear HIN
    have HIN := Lib.hid hii
    clear hii
    have P_ := HIN.out.1.holds (w.heap.size) _ (by (repeat (first | exact Ly.ua _ _ _ | rw [Ly.un _ _ (by omega)] | rw [Ly.am] | rw [Ly.fz])))
    obtain ⟨p0, p1, p2⟩ := Ly.cells3 P_
    clear P_
    have P_ := HIN.out.1.holds (w.heap.size + 1) _ (by (repeat (first | exact Ly.ua _ _ _ | rw [Ly.un _ _ (by omega)] | rw [Ly.am] | rw [Ly.fz])))
    obtain ⟨s0, s1, s2⟩ := Ly.cells3 P_
    have hpl := (Array.getElem?_eq_some_iff.1 P_).1
    clear P_
    by_cases hltk : k < P.caps.length
    case pos =>
      obtain ⟨b1, o1, rfl, hb1, g0, _⟩ := kInt_at H1.out.caps hltk
      obtain ⟨b2, o2, rfl, hb2, q0, _⟩ := kInt_at H2.out.caps hltk
      have hi1 : (k : Int) < (P.caps.length : Int) := by omega
      have hi0 : (0 : Int) ≤ (k : Int) := by omega
      go_upto_region 6 with fail
      clear p0 p1 p2 s0 s1 s2 hpl
      have G0 := Lib.hid g0
      have Q0 := Lib.hid q0
      clear g0 q0
      refine Ly.regionS (by kernel_rfl) (by kernel_rfl) HIN.out.1 HIN.out.2 (by simp only [List.size_toArray, List.length_cons, List.length_nil, Nat.reduceAdd]; rfl) (fun O Z hO hZ => ?_); have HO := Lib.hid hO; clear hO
      first
        | (apply Ly.kp HO 0; (case hx => exact ⟨rfl, rfl, rfl⟩); (case hk => decide +kernel); (case hv => intro w_ hw_; (go_simp <;> first | with_reducible rfl | exact ⟨rfl, rfl⟩)); simp only [Act.put, Ly.p1, Ly.p2, Ly.p3])
      first
        | (apply Ly.kr HO 1; (case hx => exact ⟨rfl, rfl, rfl⟩); (case hk => decide +kernel); (case hv => intro w_ hw_; have P_ := hw_.holds (w.heap.size) _ (by (repeat (first | exact Ly.ua _ _ _ | rw [Ly.un _ _ (by omega)] | rw [Ly.am] | rw [Ly.fz]))); have c0 := Ly.cellAt P_ 0 rfl; clear P_; (go_simp <;> first | with_reducible rfl | exact ⟨rfl, rfl⟩)); simp only [Act.put, Ly.p1, Ly.p2, Ly.p3])
      first
        | (apply Ly.kp HO 2; (case hx => exact ⟨rfl, rfl, rfl⟩); (case hk => decide +kernel); (case hv => intro w_ hw_; (go_simp <;> first | with_reducible rfl | exact ⟨rfl, rfl⟩)); simp only [Act.put, Ly.p1, Ly.p2, Ly.p3])
      first
        | (apply Ly.kp HO 3; (case hx => exact ⟨rfl, rfl, rfl⟩); (case hk => decide +kernel); (case hv => intro w_ hw_; (go_simp <;> first | with_reducible rfl | exact ⟨rfl, rfl⟩)); simp only [Act.put, Ly.p1, Ly.p2, Ly.p3])
      first
        | (apply Ly.kr HO 4; (case hx => exact ⟨rfl, rfl, rfl⟩); (case hk => decide +kernel); (case hv => intro w_ hw_; have g_ := Below.at hw_.below G0.out hb1; (go_simp <;> first | with_reducible rfl | exact ⟨rfl, rfl⟩)); simp only [Act.put, Ly.p1, Ly.p2, Ly.p3])
      first
        | (apply Ly.kp HO 5; (case hx => exact ⟨rfl, rfl, rfl⟩); (case hk => decide +kernel); (case hv => intro w_ hw_; (go_simp <;> first | with_reducible rfl | exact ⟨rfl, rfl⟩)); simp only [Act.put, Ly.p1, Ly.p2, Ly.p3])
      first
        | (apply Ly.kr HO 6; (case hx => exact ⟨rfl, rfl, rfl⟩); (case hk => decide +kernel); (case hv => intro w_ hw_; have P_ := hw_.holds (w.heap.size + 1) _ (by (repeat (first | exact Ly.ua _ _ _ | rw [Ly.un _ _ (by omega)] | rw [Ly.am] | rw [Ly.fz]))); have c0 := Ly.cellAt P_ 0 rfl; clear P_; (go_simp <;> first | with_reducible rfl | exact ⟨rfl, rfl⟩)); simp only [Act.put, Ly.p1, Ly.p2, Ly.p3])
      first
        | (apply Ly.kp HO 7; (case hx => exact ⟨rfl, rfl, rfl⟩); (case hk => decide +kernel); (case hv => intro w_ hw_; (go_simp <;> first | with_reducible rfl | exact ⟨rfl, rfl⟩)); simp only [Act.put, Ly.p1, Ly.p2, Ly.p3])
      first
        | (apply Ly.kp HO 8; (case hx => exact ⟨rfl, rfl, rfl⟩); (case hk => decide +kernel); (case hv => intro w_ hw_; (go_simp <;> first | with_reducible rfl | exact ⟨rfl, rfl⟩)); simp only [Act.put, Ly.p1, Ly.p2, Ly.p3])
      first
        | (apply Ly.kr HO 9; (case hx => exact ⟨rfl, rfl, rfl⟩); (case hk => decide +kernel); (case hv => intro w_ hw_; have g_ := Below.at hw_.below Q0.out hb2; (go_simp <;> first | with_reducible rfl | exact ⟨rfl, rfl⟩)); simp only [Act.put, Ly.p1, Ly.p2, Ly.p3])
      first
        | (apply Ly.kp HO 10; (case hx => exact ⟨rfl, rfl, rfl⟩); (case hk => decide +kernel); (case hv => intro w_ hw_; (go_simp <;> first | with_reducible rfl | exact ⟨rfl, rfl⟩)); simp only [Act.put, Ly.p1, Ly.p2, Ly.p3])
      refine Ly.kd HO (by kernel_rfl) (fun hiv2 => hZ _ _ (fun W3 hw2 => ?_))
      clear hZ Z HO O
      have hin_ := Lib.hid (And.intro hw2 hiv2 : Ly.II _ _ _ _)
      clear hw2 hiv2
      replace HIN := Lib.hid (Ly.tk hin_.out (Ly.tk hin_.out (Ly.II.nil hin_.out.1.below) (w.heap.size) (by (repeat (first | exact Ly.ua _ _ _ | rw [Ly.un _ _ (by omega)] | rw [Ly.am] | rw [Ly.fz])))) (w.heap.size + 1) (by (repeat (first | exact Ly.ua _ _ _ | rw [Ly.un _ _ (by omega)] | rw [Ly.am] | rw [Ly.fz]))))
      clear hin_
      go_wp2
      go_roundw
      case rel => exact ⟨k + 1, hltk, by go_num, HIN.out⟩
      case measure => simp [intOf]; omega
    case neg =>
      obtain rfl : k = P.caps.length := by omega
      obtain ⟨wo, rfl⟩ : ∃ wo : World, wo = wr := ⟨_, rfl⟩
      go_wp2
      clear p0 p1 p2 s0 s1 s2 hpl
      go_loopw [6] (fun i wr => ∃ k : Nat, k ≤ P.codes.length ∧ i = .int .i64 k ∧ Ly.II w.heap.size w ((Ly.St.nil.upd w.heap.size (.cells #[.slice A1 P.caps.length n1, .slice A2 P.codes.length n2, .slice A3 P.sites.length n3] 44 (0, 0))).upd (w.heap.size + 1) (.cells #[.slice B1 P.caps.length m1, .slice B2 P.codes.length m2, .slice B3 P.sites.length m3] 44 (0, 0))) wr) (fun i _ => P.codes.length - (intOf i).toNat)
      case atStart => exact ⟨0, Nat.zero_le _, rfl, HIN.out⟩
      case round =>
        obtain ⟨i, hki, rfl, hii⟩ := hrel
        clear HIN
        have HIN := Lib.hid hii
        clear hii
        have P_ := HIN.out.1.holds (w.heap.size) _ (by (repeat (first | exact Ly.ua _ _ _ | rw [Ly.un _ _ (by omega)] | rw [Ly.am] | rw [Ly.fz])))
        obtain ⟨p0, p1, p2⟩ := Ly.cells3 P_
        clear P_
        have P_ := HIN.out.1.holds (w.heap.size + 1) _ (by (repeat (first | exact Ly.ua _ _ _ | rw [Ly.un _ _ (by omega)] | rw [Ly.am] | rw [Ly.fz])))
        obtain ⟨s0, s1, s2⟩ := Ly.cells3 P_
        have hpl := (Array.getElem?_eq_some_iff.1 P_).1
        clear P_
        by_cases hlti : i < P.codes.length
        case pos =>
          obtain ⟨b1, o1, C1, d1, rfl, hb1, g1, g2, _, _, hl4⟩ := kInss_at H1.out.codes hlti
          obtain ⟨b2, o2, C2, d2, rfl, hb2, q1, q2, _, _, _⟩ := kInss_at H2.out.codes hlti
          obtain ⟨l, hl⟩ : ∃ l, l = P.codes[i] := ⟨_, rfl⟩
          rw [← hl] at g1 g2 q1 q2 hl4
          clear hl
          have G1 := Lib.hid g1
          have G2 := Lib.hid g2
          have Q1 := Lib.hid q1
          have Q2 := Lib.hid q2
          clear g1 g2 q1 q2
          have hi1 : (i : Int) < (P.codes.length : Int) := by omega
          have hi0 : (0 : Int) ≤ (i : Int) := by omega
          go_upto_region 11 with fail
          clear p0 p1 p2 s0 s1 s2 hpl
          refine Ly.regionS (by kernel_rfl) (by kernel_rfl) HIN.out.1 HIN.out.2 (by simp only [List.size_toArray, List.length_cons, List.length_nil, Nat.reduceAdd]; rfl) (fun O Z hO hZ => ?_); have HO := Lib.hid hO; clear hO
          first
            | (apply Ly.kp HO 0; (case hx => exact ⟨rfl, rfl, rfl⟩); (case hk => decide +kernel); (case hv => intro w_ hw_; (go_simp <;> first | with_reducible rfl | exact ⟨rfl, rfl⟩)); simp only [Act.put, Ly.p1, Ly.p2, Ly.p3])
          first
            | (apply Ly.kr HO 1; (case hx => exact ⟨rfl, rfl, rfl⟩); (case hk => decide +kernel); (case hv => intro w_ hw_; have P_ := hw_.holds (w.heap.size) _ (by (repeat (first | exact Ly.ua _ _ _ | rw [Ly.un _ _ (by omega)] | rw [Ly.am] | rw [Ly.fz]))); have c1 := Ly.cellAt P_ 1 rfl; clear P_; (go_simp <;> first | with_reducible rfl | exact ⟨rfl, rfl⟩)); simp only [Act.put, Ly.p1, Ly.p2, Ly.p3])
          first
            | (apply Ly.kp HO 2; (case hx => exact ⟨rfl, rfl, rfl⟩); (case hk => decide +kernel); (case hv => intro w_ hw_; (go_simp <;> first | with_reducible rfl | exact ⟨rfl, rfl⟩)); simp only [Act.put, Ly.p1, Ly.p2, Ly.p3])
          first
            | (apply Ly.kp HO 3; (case hx => exact ⟨rfl, rfl, rfl⟩); (case hk => decide +kernel); (case hv => intro w_ hw_; (go_simp <;> first | with_reducible rfl | exact ⟨rfl, rfl⟩)); simp only [Act.put, Ly.p1, Ly.p2, Ly.p3])
          first
            | (apply Ly.kr HO 4; (case hx => exact ⟨rfl, rfl, rfl⟩); (case hk => decide +kernel); (case hv => intro w_ hw_; have g_ := Below.at hw_.below G1.out hb1; (go_simp <;> first | with_reducible rfl | exact ⟨rfl, rfl⟩)); simp only [Act.put, Ly.p1, Ly.p2, Ly.p3])
          first
            | (apply Ly.kr HO 5; (case hx => exact ⟨rfl, rfl, rfl⟩); (case hk => decide +kernel); (case hv => intro w_ hw_; skip; (go_simp <;> first | with_reducible rfl | exact ⟨rfl, rfl⟩)); simp only [Act.put, Ly.p1, Ly.p2, Ly.p3])
          first
            | (apply Ly.kp HO 6; (case hx => exact ⟨rfl, rfl, rfl⟩); (case hk => decide +kernel); (case hv => intro w_ hw_; (go_simp <;> first | with_reducible rfl | exact ⟨rfl, rfl⟩)); simp only [Act.put, Ly.p1, Ly.p2, Ly.p3])
          first
            | (apply Ly.kr HO 7; (case hx => exact ⟨rfl, rfl, rfl⟩); (case hk => decide +kernel); (case hv => intro w_ hw_; have P_ := hw_.holds (w.heap.size + 1) _ (by (repeat (first | exact Ly.ua _ _ _ | rw [Ly.un _ _ (by omega)] | rw [Ly.am] | rw [Ly.fz]))); have c1 := Ly.cellAt P_ 1 rfl; clear P_; (go_simp <;> first | with_reducible rfl | exact ⟨rfl, rfl⟩)); simp only [Act.put, Ly.p1, Ly.p2, Ly.p3])
          first
            | (apply Ly.kp HO 8; (case hx => exact ⟨rfl, rfl, rfl⟩); (case hk => decide +kernel); (case hv => intro w_ hw_; (go_simp <;> first | with_reducible rfl | exact ⟨rfl, rfl⟩)); simp only [Act.put, Ly.p1, Ly.p2, Ly.p3])
          first
            | (apply Ly.kp HO 9; (case hx => exact ⟨rfl, rfl, rfl⟩); (case hk => decide +kernel); (case hv => intro w_ hw_; (go_simp <;> first | with_reducible rfl | exact ⟨rfl, rfl⟩)); simp only [Act.put, Ly.p1, Ly.p2, Ly.p3])
          first
            | (apply Ly.kr HO 10; (case hx => exact ⟨rfl, rfl, rfl⟩); (case hk => decide +kernel); (case hv => intro w_ hw_; have g_ := Below.at hw_.below Q1.out hb2; (go_simp <;> first | with_reducible rfl | exact ⟨rfl, rfl⟩)); simp only [Act.put, Ly.p1, Ly.p2, Ly.p3])
          first
            | (apply Ly.kr HO 11; (case hx => exact ⟨rfl, rfl, rfl⟩); (case hk => decide +kernel); (case hv => intro w_ hw_; skip; (go_simp <;> first | with_reducible rfl | exact ⟨rfl, rfl⟩)); simp only [Act.put, Ly.p1, Ly.p2, Ly.p3])
          first
            | (apply Ly.kp HO 12; (case hx => exact ⟨rfl, rfl, rfl⟩); (case hk => decide +kernel); (case hv => intro w_ hw_; (go_simp <;> first | with_reducible rfl | exact ⟨rfl, rfl⟩)); simp only [Act.put, Ly.p1, Ly.p2, Ly.p3])
          refine Ly.kd HO (by kernel_rfl) (fun hiv2 => hZ _ _ (fun W4 hw2 => ?_))
          clear hZ Z HO O
          have hin_ := Lib.hid (And.intro hw2 hiv2 : Ly.II _ _ _ _)
          clear hw2 hiv2
          replace HIN := Lib.hid (Ly.tk hin_.out (Ly.tk hin_.out (Ly.II.nil hin_.out.1.below) (w.heap.size) (by (repeat (first | exact Ly.ua _ _ _ | rw [Ly.un _ _ (by omega)] | rw [Ly.am] | rw [Ly.fz])))) (w.heap.size + 1) (by (repeat (first | exact Ly.ua _ _ _ | rw [Ly.un _ _ (by omega)] | rw [Ly.am] | rw [Ly.fz]))))
          clear hin_
          have P_ := HIN.out.1.holds (w.heap.size) _ (by (repeat (first | exact Ly.ua _ _ _ | rw [Ly.un _ _ (by omega)] | rw [Ly.am] | rw [Ly.fz])))
          obtain ⟨p0, p1, p2⟩ := Ly.cells3 P_
          clear P_
          have P_ := HIN.out.1.holds (w.heap.size + 1) _ (by (repeat (first | exact Ly.ua _ _ _ | rw [Ly.un _ _ (by omega)] | rw [Ly.am] | rw [Ly.fz])))
          obtain ⟨s0, s1, s2⟩ := Ly.cells3 P_
          have hpl := (Array.getElem?_eq_some_iff.1 P_).1
          clear P_
          have g1w := Below.at HIN.out.1.below G1.out hb1
          go_wp2
          clear p0 p1 p2 s0 s1 s2 hpl
          clear g1w
          go_loopw [7] (fun i wr => ∃ k : Nat, k ≤ l.length ∧ i = .int .i64 k ∧ Ly.II w.heap.size w ((Ly.St.nil.upd w.heap.size (.cells #[.slice A1 P.caps.length n1, .slice (some ⟨b1, o1, none⟩) P.codes.length n2, .slice A3 P.sites.length n3] 44 (0, 0))).upd (w.heap.size + 1) (.cells #[.slice B1 P.caps.length m1, .slice (some ⟨b2, o2, none⟩) P.codes.length m2, .slice B3 P.sites.length m3] 44 (0, 0))) wr) (fun i _ => l.length - (intOf i).toNat)
          case atStart => exact ⟨0, Nat.zero_le _, rfl, HIN.out⟩
          case round =>
            obtain ⟨j, hkj, rfl, hii⟩ := hrel
            clear HIN
            have HIN := Lib.hid hii
            clear hii
            have P_ := HIN.out.1.holds (w.heap.size) _ (by (repeat (first | exact Ly.ua _ _ _ | rw [Ly.un _ _ (by omega)] | rw [Ly.am] | rw [Ly.fz])))
            obtain ⟨p0, p1, p2⟩ := Ly.cells3 P_
            clear P_
            have P_ := HIN.out.1.holds (w.heap.size + 1) _ (by (repeat (first | exact Ly.ua _ _ _ | rw [Ly.un _ _ (by omega)] | rw [Ly.am] | rw [Ly.fz])))
            obtain ⟨s0, s1, s2⟩ := Ly.cells3 P_
            have hpl := (Array.getElem?_eq_some_iff.1 P_).1
            clear P_
            by_cases hltj : j < l.length
            case pos =>
              have g1w := Below.at HIN.out.1.below G1.out hb1
              obtain ⟨e1, f1, rfl, he1, c0, c1, c2, c3, c4, _⟩ := kIns_at G2.out hltj
              obtain ⟨e2, f2, rfl, he2, t0, t1, t2, t3, t4, _⟩ := kIns_at Q2.out hltj
              obtain ⟨x, hx⟩ : ∃ x, x = l[j] := ⟨_, rfl⟩
              rw [← hx] at c0 c1 c2 c3 c4 t0 t1 t2 t3 t4
              clear hx
              have C0 := Lib.hid c0
              have C1 := Lib.hid c1
              have C2 := Lib.hid c2
              have C3 := Lib.hid c3
              have C4 := Lib.hid c4
              have T0 := Lib.hid t0
              have T1 := Lib.hid t1
              have T2 := Lib.hid t2
              have T3 := Lib.hid t3
              have T4 := Lib.hid t4
              clear c0 c1 c2 c3 c4 t0 t1 t2 t3 t4
              have hj1 : (j : Int) < (l.length : Int) := by omega
              have hj0 : (0 : Int) ≤ (j : Int) := by omega
              go_upto_region 16 with fail
              clear p0 p1 p2 s0 s1 s2 hpl
              clear g1w
              have q5 := fun (d : Nat) => @eq_ins_yes d
              refine Ly.regionS (by kernel_rfl) (by kernel_rfl) HIN.out.1 HIN.out.2 (by simp only [List.size_toArray, List.length_cons, List.length_nil, Nat.reduceAdd]; rfl) (fun O Z hO hZ => ?_); have HO := Lib.hid hO; clear hO
              first
                | (apply Ly.kp HO 0; (case hx => exact ⟨rfl, rfl, rfl⟩); (case hk => decide +kernel); (case hv => intro w_ hw_; (go_simp <;> first | with_reducible rfl | exact ⟨rfl, rfl⟩)); simp only [Act.put, Ly.p1, Ly.p2, Ly.p3])
              first
                | (apply Ly.kr HO 1; (case hx => exact ⟨rfl, rfl, rfl⟩); (case hk => decide +kernel); (case hv => intro w_ hw_; have P_ := hw_.holds (w.heap.size) _ (by (repeat (first | exact Ly.ua _ _ _ | rw [Ly.un _ _ (by omega)] | rw [Ly.am] | rw [Ly.fz]))); have c1 := Ly.cellAt P_ 1 rfl; clear P_; (go_simp <;> first | with_reducible rfl | exact ⟨rfl, rfl⟩)); simp only [Act.put, Ly.p1, Ly.p2, Ly.p3])
              first
                | (apply Ly.kp HO 2; (case hx => exact ⟨rfl, rfl, rfl⟩); (case hk => decide +kernel); (case hv => intro w_ hw_; (go_simp <;> first | with_reducible rfl | exact ⟨rfl, rfl⟩)); simp only [Act.put, Ly.p1, Ly.p2, Ly.p3])
              first
                | (apply Ly.kp HO 3; (case hx => exact ⟨rfl, rfl, rfl⟩); (case hk => decide +kernel); (case hv => intro w_ hw_; (go_simp <;> first | with_reducible rfl | exact ⟨rfl, rfl⟩)); simp only [Act.put, Ly.p1, Ly.p2, Ly.p3])
              first
                | (apply Ly.kr HO 4; (case hx => exact ⟨rfl, rfl, rfl⟩); (case hk => decide +kernel); (case hv => intro w_ hw_; have g_ := Below.at hw_.below G1.out hb1; (go_simp <;> first | with_reducible rfl | exact ⟨rfl, rfl⟩)); simp only [Act.put, Ly.p1, Ly.p2, Ly.p3])
              first
                | (apply Ly.kp HO 5; (case hx => exact ⟨rfl, rfl, rfl⟩); (case hk => decide +kernel); (case hv => intro w_ hw_; (go_simp <;> first | with_reducible rfl | exact ⟨rfl, rfl⟩)); simp only [Act.put, Ly.p1, Ly.p2, Ly.p3])
              first
                | (apply Ly.kp HO 6; (case hx => exact ⟨rfl, rfl, rfl⟩); (case hk => decide +kernel); (case hv => intro w_ hw_; (go_simp <;> first | with_reducible rfl | exact ⟨rfl, rfl⟩)); simp only [Act.put, Ly.p1, Ly.p2, Ly.p3])
              first
                | (apply Ly.kr HO 7; (case hx => exact ⟨rfl, rfl, rfl⟩); (case hk => decide +kernel); (case hv => intro w_ hw_; have z0 := Below.at hw_.below C0.out he1; have z1 := Below.at hw_.below C1.out he1; have z2 := Below.at hw_.below C2.out he1; have z3 := Below.at hw_.below C3.out he1; have z4 := Below.at hw_.below C4.out he1; (go_simp <;> first | with_reducible rfl | exact ⟨rfl, rfl⟩)); simp only [Act.put, Ly.p1, Ly.p2, Ly.p3])
              first
                | (apply Ly.kp HO 8; (case hx => exact ⟨rfl, rfl, rfl⟩); (case hk => decide +kernel); (case hv => intro w_ hw_; (go_simp <;> first | with_reducible rfl | exact ⟨rfl, rfl⟩)); simp only [Act.put, Ly.p1, Ly.p2, Ly.p3])
              first
                | (apply Ly.kr HO 9; (case hx => exact ⟨rfl, rfl, rfl⟩); (case hk => decide +kernel); (case hv => intro w_ hw_; have P_ := hw_.holds (w.heap.size + 1) _ (by (repeat (first | exact Ly.ua _ _ _ | rw [Ly.un _ _ (by omega)] | rw [Ly.am] | rw [Ly.fz]))); have c1 := Ly.cellAt P_ 1 rfl; clear P_; (go_simp <;> first | with_reducible rfl | exact ⟨rfl, rfl⟩)); simp only [Act.put, Ly.p1, Ly.p2, Ly.p3])
              first
                | (apply Ly.kp HO 10; (case hx => exact ⟨rfl, rfl, rfl⟩); (case hk => decide +kernel); (case hv => intro w_ hw_; (go_simp <;> first | with_reducible rfl | exact ⟨rfl, rfl⟩)); simp only [Act.put, Ly.p1, Ly.p2, Ly.p3])
              first
                | (apply Ly.kp HO 11; (case hx => exact ⟨rfl, rfl, rfl⟩); (case hk => decide +kernel); (case hv => intro w_ hw_; (go_simp <;> first | with_reducible rfl | exact ⟨rfl, rfl⟩)); simp only [Act.put, Ly.p1, Ly.p2, Ly.p3])
              first
                | (apply Ly.kr HO 12; (case hx => exact ⟨rfl, rfl, rfl⟩); (case hk => decide +kernel); (case hv => intro w_ hw_; have g_ := Below.at hw_.below Q1.out hb2; (go_simp <;> first | with_reducible rfl | exact ⟨rfl, rfl⟩)); simp only [Act.put, Ly.p1, Ly.p2, Ly.p3])
              first
                | (apply Ly.kp HO 13; (case hx => exact ⟨rfl, rfl, rfl⟩); (case hk => decide +kernel); (case hv => intro w_ hw_; (go_simp <;> first | with_reducible rfl | exact ⟨rfl, rfl⟩)); simp only [Act.put, Ly.p1, Ly.p2, Ly.p3])
              first
                | (apply Ly.kp HO 14; (case hx => exact ⟨rfl, rfl, rfl⟩); (case hk => decide +kernel); (case hv => intro w_ hw_; (go_simp <;> first | with_reducible rfl | exact ⟨rfl, rfl⟩)); simp only [Act.put, Ly.p1, Ly.p2, Ly.p3])
              first
                | (apply Ly.kr HO 15; (case hx => exact ⟨rfl, rfl, rfl⟩); (case hk => decide +kernel); (case hv => intro w_ hw_; have z0 := Below.at hw_.below T0.out he2; have z1 := Below.at hw_.below T1.out he2; have z2 := Below.at hw_.below T2.out he2; have z3 := Below.at hw_.below T3.out he2; have z4 := Below.at hw_.below T4.out he2; (go_simp <;> first | with_reducible rfl | exact ⟨rfl, rfl⟩)); simp only [Act.put, Ly.p1, Ly.p2, Ly.p3])
              first
                | (apply Ly.kp HO 16; (case hx => exact ⟨rfl, rfl, rfl⟩); (case hk => decide +kernel); (case hv => intro w_ hw_; (go_simp <;> first | with_reducible rfl | exact ⟨rfl, rfl⟩)); simp only [Act.put, Ly.p1, Ly.p2, Ly.p3])
              refine Ly.kd HO (by kernel_rfl) (fun hiv2 => hZ _ _ (fun W5 hw2 => ?_))
              clear hZ Z HO O
              have hin_ := Lib.hid (And.intro hw2 hiv2 : Ly.II _ _ _ _)
              clear hw2 hiv2
              replace HIN := Lib.hid (Ly.tk hin_.out (Ly.tk hin_.out (Ly.II.nil hin_.out.1.below) (w.heap.size) (by (repeat (first | exact Ly.ua _ _ _ | rw [Ly.un _ _ (by omega)] | rw [Ly.am] | rw [Ly.fz])))) (w.heap.size + 1) (by (repeat (first | exact Ly.ua _ _ _ | rw [Ly.un _ _ (by omega)] | rw [Ly.am] | rw [Ly.fz]))))
              clear hin_
              clear q5
              go_wp2
              go_roundw
              case rel => exact ⟨j + 1, hltj, by go_num, HIN.out⟩
              case measure => simp [intOf]; omega
            case neg =>
              obtain rfl : j = l.length := by omega
              have g1w := Below.at HIN.out.1.below G1.out hb1
              go_wp2
              go_roundw
              case rel => exact ⟨i + 1, hlti, by go_num, HIN.out⟩
              case measure => simp [intOf]; omega
        case neg =>
          obtain rfl : i = P.codes.length := by omega
          obtain ⟨wo, rfl⟩ : ∃ wo : World, wo = wr := ⟨_, rfl⟩
          go_wp2
          clear p0 p1 p2 s0 s1 s2 hpl
          go_loopw [8] (fun i wr => ∃ k : Nat, k ≤ P.sites.length ∧ i = .int .i64 k ∧ Ly.II w.heap.size w ((Ly.St.nil.upd w.heap.size (.cells #[.slice A1 P.caps.length n1, .slice A2 P.codes.length n2, .slice A3 P.sites.length n3] 44 (0, 0))).upd (w.heap.size + 1) (.cells #[.slice B1 P.caps.length m1, .slice B2 P.codes.length m2, .slice B3 P.sites.length m3] 44 (0, 0))) wr) (fun i _ => P.sites.length - (intOf i).toNat)
          case atStart => exact ⟨0, Nat.zero_le _, rfl, HIN.out⟩
          case round =>
            obtain ⟨i, hki, rfl, hii⟩ := hrel
            clear HIN
            have HIN := Lib.hid hii
            clear hii
            have P_ := HIN.out.1.holds (w.heap.size) _ (by (repeat (first | exact Ly.ua _ _ _ | rw [Ly.un _ _ (by omega)] | rw [Ly.am] | rw [Ly.fz])))
            obtain ⟨p0, p1, p2⟩ := Ly.cells3 P_
            clear P_
            have P_ := HIN.out.1.holds (w.heap.size + 1) _ (by (repeat (first | exact Ly.ua _ _ _ | rw [Ly.un _ _ (by omega)] | rw [Ly.am] | rw [Ly.fz])))
            obtain ⟨s0, s1, s2⟩ := Ly.cells3 P_
            have hpl := (Array.getElem?_eq_some_iff.1 P_).1
            clear P_
            by_cases hlti : i < P.sites.length
            case pos =>
              obtain ⟨b1, o1, C1, d1, rfl, hb1, g1, g3, g2, _, _, hl4⟩ := kSite_at H1.out.sites hlti
              obtain ⟨b2, o2, C2, d2, rfl, hb2, q1, q3, q2, _, _, _⟩ := kSite_at H2.out.sites hlti
              obtain ⟨l, hl⟩ : ∃ l, l = P.sites[i] := ⟨_, rfl⟩
              rw [← hl] at g1 g2 g3 q1 q2 q3 hl4
              clear hl
              have G1 := Lib.hid g1
              have G2 := Lib.hid g2
              have G3 := Lib.hid g3
              have Q1 := Lib.hid q1
              have Q2 := Lib.hid q2
              have Q3 := Lib.hid q3
              clear g1 g2 g3 q1 q2 q3
              have hi1 : (i : Int) < (P.sites.length : Int) := by omega
              have hi0 : (0 : Int) ≤ (i : Int) := by omega
              go_upto_region 21 with fail
              clear p0 p1 p2 s0 s1 s2 hpl
              replace HIN := Lib.hid (HIN.out.frz (fun k_ => k_ = w.heap.size ∨ k_ = w.heap.size + 1))
              refine Ly.regionS (by kernel_rfl) (by kernel_rfl) HIN.out.1 HIN.out.2 (by simp only [List.size_toArray, List.length_cons, List.length_nil, Nat.reduceAdd]; rfl) (fun O Z hO hZ => ?_); have HO := Lib.hid hO; clear hO
              first
                | (apply Ly.kp HO 0; (case hx => exact ⟨rfl, rfl, rfl⟩); (case hk => decide +kernel); (case hv => intro w_ hw_; (go_simp <;> first | with_reducible rfl | exact ⟨rfl, rfl⟩)); simp only [Act.put, Ly.p1, Ly.p2, Ly.p3])
              first
                | (apply Ly.kf HO 1; (case hx => exact ⟨rfl, rfl, rfl⟩); (case hk => decide +kernel); (case hv => intro w_ hw_ hF_; have P_ := hF_ (w.heap.size) _ (show w.heap.size = w.heap.size ∨ w.heap.size = w.heap.size + 1 from Or.inl rfl) (by (repeat (first | exact Ly.ua _ _ _ | rw [Ly.un _ _ (by omega)] | rw [Ly.am] | rw [Ly.fz]))); have c2 := Ly.cellAt P_ 2 rfl; clear P_; (go_simp <;> first | with_reducible rfl | exact ⟨rfl, rfl⟩)); simp only [Act.put, Ly.p1, Ly.p2, Ly.p3])
              first
                | (apply Ly.kp HO 2; (case hx => exact ⟨rfl, rfl, rfl⟩); (case hk => decide +kernel); (case hv => intro w_ hw_; (go_simp <;> first | with_reducible rfl | exact ⟨rfl, rfl⟩)); simp only [Act.put, Ly.p1, Ly.p2, Ly.p3])
              first
                | (apply Ly.kp HO 3; (case hx => exact ⟨rfl, rfl, rfl⟩); (case hk => decide +kernel); (case hv => intro w_ hw_; (go_simp <;> first | with_reducible rfl | exact ⟨rfl, rfl⟩)); simp only [Act.put, Ly.p1, Ly.p2, Ly.p3])
              first
                | (apply Ly.kf HO 4; (case hx => exact ⟨rfl, rfl, rfl⟩); (case hk => decide +kernel); (case hv => intro w_ hw_ hF_; have g_ := Below.at hw_ G1.out hb1; have h_ := Below.at hw_ G3.out hb1; (go_simp <;> first | with_reducible rfl | exact ⟨rfl, rfl⟩)); simp only [Act.put, Ly.p1, Ly.p2, Ly.p3])
              first
                | (apply Ly.kp HO 5; (case hx => exact ⟨rfl, rfl, rfl⟩); (case hk => decide +kernel); (case hv => intro w_ hw_; (go_simp <;> first | with_reducible rfl | exact ⟨rfl, rfl⟩)); simp only [Act.put, Ly.p1, Ly.p2, Ly.p3])
              first
                | (apply Ly.kf HO 6; (case hx => exact ⟨rfl, rfl, rfl⟩); (case hk => decide +kernel); (case hv => intro w_ hw_ hF_; have P_ := hF_ (w.heap.size + 1) _ (show w.heap.size + 1 = w.heap.size ∨ w.heap.size + 1 = w.heap.size + 1 from Or.inr (rfl)) (by (repeat (first | exact Ly.ua _ _ _ | rw [Ly.un _ _ (by omega)] | rw [Ly.am] | rw [Ly.fz]))); have c2 := Ly.cellAt P_ 2 rfl; clear P_; (go_simp <;> first | with_reducible rfl | exact ⟨rfl, rfl⟩)); simp only [Act.put, Ly.p1, Ly.p2, Ly.p3])
              first
                | (apply Ly.kp HO 7; (case hx => exact ⟨rfl, rfl, rfl⟩); (case hk => decide +kernel); (case hv => intro w_ hw_; (go_simp <;> first | with_reducible rfl | exact ⟨rfl, rfl⟩)); simp only [Act.put, Ly.p1, Ly.p2, Ly.p3])
              first
                | (apply Ly.kp HO 8; (case hx => exact ⟨rfl, rfl, rfl⟩); (case hk => decide +kernel); (case hv => intro w_ hw_; (go_simp <;> first | with_reducible rfl | exact ⟨rfl, rfl⟩)); simp only [Act.put, Ly.p1, Ly.p2, Ly.p3])
              first
                | (apply Ly.kf HO 9; (case hx => exact ⟨rfl, rfl, rfl⟩); (case hk => decide +kernel); (case hv => intro w_ hw_ hF_; have g_ := Below.at hw_ Q1.out hb2; have h_ := Below.at hw_ Q3.out hb2; (go_simp <;> first | with_reducible rfl | exact ⟨rfl, rfl⟩)); simp only [Act.put, Ly.p1, Ly.p2, Ly.p3])
              first
                | (apply Ly.ka HO 10; (case hx => exact ⟨rfl, rfl, rfl⟩); (case hk => decide +kernel); (case hrun => intro w_; (go_simp <;> first | with_reducible rfl | exact ⟨rfl, rfl⟩)); simp only [Act.put, Ly.p1, Ly.p2, Ly.p3])
              intro g28_1 hg_ hfr
              (repeat (first | (rw [Ly.St.add_M] at hfr) | (replace hfr := Ly.St.fresh_upd hfr; have n_ := hfr.1; replace hfr := hfr.2))); clear hfr
              first
                | (apply Ly.ka HO 11; (case hx => exact ⟨rfl, rfl, rfl⟩); (case hk => decide +kernel); (case hrun => intro w_; (go_simp <;> first | with_reducible rfl | exact ⟨rfl, rfl⟩)); simp only [Act.put, Ly.p1, Ly.p2, Ly.p3])
              intro g28_2 hg_ hfr
              (repeat (first | (rw [Ly.St.add_M] at hfr) | (replace hfr := Ly.St.fresh_upd hfr; have n_ := hfr.1; replace hfr := hfr.2))); clear hfr
              first
                | (apply Ly.ks HO 12 (g := g28_1); (case hx => exact ⟨rfl, rfl, rfl⟩); (case hk => decide +kernel); (case hF => exact fun h_ => by (have h2_ : g28_1 = w.heap.size ∨ g28_1 = w.heap.size + 1 := h_; omega)); (case hG => exact fun _ _ h_ _ => h_); (case hg => (repeat (first | exact Ly.ua _ _ _ | rw [Ly.un _ _ (by omega)] | rw [Ly.am] | rw [Ly.fz]))); (case hrun => intro w_ hw_ hb_; obtain ⟨c0, c1⟩ := Ly.cells2 hb_; obtain ⟨d0, d1⟩ := Ly.froz2 hb_; refine ⟨?_, ?_, ?_, ?_⟩; rotate_left; (next => (go_simp <;> first | with_reducible rfl | rfl)); (next => (repeat (first | (with_reducible exact Ly.OnlyAt.refl _ _) | (with_reducible refine Ly.OnlyAt.set ?_ _ _)))); (next => (simp [World.setCell, Array.getElem?_modify, hb_] <;> rfl))); simp only [Act.put, Ly.p1, Ly.p2, Ly.p3])
              first
                | (apply Ly.ks HO 13 (g := g28_2); (case hx => exact ⟨rfl, rfl, rfl⟩); (case hk => decide +kernel); (case hF => exact fun h_ => by (have h2_ : g28_2 = w.heap.size ∨ g28_2 = w.heap.size + 1 := h_; omega)); (case hG => exact fun _ _ h_ _ => h_); (case hg => (repeat (first | exact Ly.ua _ _ _ | rw [Ly.un _ _ (by omega)] | rw [Ly.am] | rw [Ly.fz]))); (case hrun => intro w_ hw_ hb_; obtain ⟨c0, c1⟩ := Ly.cells2 hb_; obtain ⟨d0, d1⟩ := Ly.froz2 hb_; refine ⟨?_, ?_, ?_, ?_⟩; rotate_left; (next => (go_simp <;> first | with_reducible rfl | rfl)); (next => (repeat (first | (with_reducible exact Ly.OnlyAt.refl _ _) | (with_reducible refine Ly.OnlyAt.set ?_ _ _)))); (next => (simp [World.setCell, Array.getElem?_modify, hb_] <;> rfl))); simp only [Act.put, Ly.p1, Ly.p2, Ly.p3])
              refine Ly.kd HO (by kernel_rfl) (fun hiv2 => hZ _ _ (fun W6 hw2 => ?_))
              clear hZ Z HO O
              have hin_ := Lib.hid (And.intro hw2 hiv2 : Ly.II _ _ _ _)
              clear hw2 hiv2
              replace HIN := Lib.hid (Ly.tk hin_.out (Ly.tk hin_.out (Ly.tk hin_.out (Ly.tk hin_.out (Ly.II.nil hin_.out.1.below) (w.heap.size) (by (repeat (first | exact Ly.ua _ _ _ | rw [Ly.un _ _ (by omega)] | rw [Ly.am] | rw [Ly.fz])))) (w.heap.size + 1) (by (repeat (first | exact Ly.ua _ _ _ | rw [Ly.un _ _ (by omega)] | rw [Ly.am] | rw [Ly.fz])))) (g28_1) (by (repeat (first | exact Ly.ua _ _ _ | rw [Ly.un _ _ (by omega)] | rw [Ly.am] | rw [Ly.fz])))) (g28_2) (by (repeat (first | exact Ly.ua _ _ _ | rw [Ly.un _ _ (by omega)] | rw [Ly.am] | rw [Ly.fz]))))
              clear hin_
              go_upto_region 22 with fail
              refine Ly.regionS0 (by kernel_rfl) (by kernel_rfl) HIN.out.1 HIN.out.2 (by simp only [List.size_toArray, List.length_cons, List.length_nil, Nat.reduceAdd]; rfl) (fun O Z hO hZ => ?_); have HO := Lib.hid hO; clear hO
              first
                | (apply Ly.kp HO 0; (case hx => exact ⟨rfl, rfl, rfl⟩); (case hk => decide +kernel); (case hv => intro w_ hw_; (go_simp <;> first | with_reducible rfl | exact ⟨rfl, rfl⟩)); simp only [Act.put, Ly.p1, Ly.p2, Ly.p3])
              first
                | (apply Ly.kr HO 1; (case hx => exact ⟨rfl, rfl, rfl⟩); (case hk => decide +kernel); (case hv => intro w_ hw_; have P_ := hw_.holds (g28_1) _ (by (repeat (first | exact Ly.ua _ _ _ | rw [Ly.un _ _ (by omega)] | rw [Ly.am] | rw [Ly.fz]))); have c1 := Ly.cellAt P_ 1 rfl; clear P_; (go_simp <;> first | with_reducible rfl | exact ⟨rfl, rfl⟩)); simp only [Act.put, Ly.p1, Ly.p2, Ly.p3])
              first
                | (apply Ly.kp HO 2; (case hx => exact ⟨rfl, rfl, rfl⟩); (case hk => decide +kernel); (case hv => intro w_ hw_; (go_simp <;> first | with_reducible rfl | exact ⟨rfl, rfl⟩)); simp only [Act.put, Ly.p1, Ly.p2, Ly.p3])
              first
                | (apply Ly.kr HO 3; (case hx => exact ⟨rfl, rfl, rfl⟩); (case hk => decide +kernel); (case hv => intro w_ hw_; have P_ := hw_.holds (g28_2) _ (by (repeat (first | exact Ly.ua _ _ _ | rw [Ly.un _ _ (by omega)] | rw [Ly.am] | rw [Ly.fz]))); have c1 := Ly.cellAt P_ 1 rfl; clear P_; (go_simp <;> first | with_reducible rfl | exact ⟨rfl, rfl⟩)); simp only [Act.put, Ly.p1, Ly.p2, Ly.p3])
              first
                | (apply Ly.kp HO 4; (case hx => exact ⟨rfl, rfl, rfl⟩); (case hk => decide +kernel); (case hv => intro w_ hw_; (go_simp <;> first | with_reducible rfl | exact ⟨rfl, rfl⟩)); simp only [Act.put, Ly.p1, Ly.p2, Ly.p3])
              first
                | (apply Ly.kp HO 5; (case hx => exact ⟨rfl, rfl, rfl⟩); (case hk => decide +kernel); (case hv => intro w_ hw_; (go_simp <;> first | with_reducible rfl | exact ⟨rfl, rfl⟩)); simp only [Act.put, Ly.p1, Ly.p2, Ly.p3])
              first
                | (apply Ly.kk HO 6; (case hx => exact ⟨rfl, rfl⟩); (case hk => decide +kernel); simp only [Act.put, Ly.p1, Ly.p2, Ly.p3])
                | (apply Ly.kp HO 6; (case hx => exact ⟨rfl, rfl, rfl⟩); (case hk => decide +kernel); (case hv => intro w_ hw_; (go_simp <;> first | with_reducible rfl | exact ⟨rfl, rfl⟩)); simp only [Act.put, Ly.p1, Ly.p2, Ly.p3])
              first
                | (apply Ly.kk HO 7; (case hx => exact ⟨rfl, rfl⟩); (case hk => decide +kernel); simp only [Act.put, Ly.p1, Ly.p2, Ly.p3])
                | (apply Ly.kr HO 7; (case hx => exact ⟨rfl, rfl, rfl⟩); (case hk => decide +kernel); (case hv => intro w_ hw_; have P_ := hw_.holds (g28_1) _ (by (repeat (first | exact Ly.ua _ _ _ | rw [Ly.un _ _ (by omega)] | rw [Ly.am] | rw [Ly.fz]))); have c0 := Ly.cellAt P_ 0 rfl; clear P_; (go_simp <;> first | with_reducible rfl | exact ⟨rfl, rfl⟩)); simp only [Act.put, Ly.p1, Ly.p2, Ly.p3])
              first
                | (apply Ly.kk HO 8; (case hx => exact ⟨rfl, rfl⟩); (case hk => decide +kernel); simp only [Act.put, Ly.p1, Ly.p2, Ly.p3])
                | (apply Ly.kr HO 8; (case hx => exact ⟨rfl, rfl, rfl⟩); (case hk => decide +kernel); (case hv => intro w_ hw_; skip; (go_simp <;> first | with_reducible rfl | exact ⟨rfl, rfl⟩)); simp only [Act.put, Ly.p1, Ly.p2, Ly.p3])
              first
                | (apply Ly.kk HO 9; (case hx => exact ⟨rfl, rfl⟩); (case hk => decide +kernel); simp only [Act.put, Ly.p1, Ly.p2, Ly.p3])
                | (apply Ly.kp HO 9; (case hx => exact ⟨rfl, rfl, rfl⟩); (case hk => decide +kernel); (case hv => intro w_ hw_; (go_simp <;> first | with_reducible rfl | exact ⟨rfl, rfl⟩)); simp only [Act.put, Ly.p1, Ly.p2, Ly.p3])
              first
                | (apply Ly.kk HO 10; (case hx => exact ⟨rfl, rfl⟩); (case hk => decide +kernel); simp only [Act.put, Ly.p1, Ly.p2, Ly.p3])
                | (apply Ly.kr HO 10; (case hx => exact ⟨rfl, rfl, rfl⟩); (case hk => decide +kernel); (case hv => intro w_ hw_; have P_ := hw_.holds (g28_2) _ (by (repeat (first | exact Ly.ua _ _ _ | rw [Ly.un _ _ (by omega)] | rw [Ly.am] | rw [Ly.fz]))); have c0 := Ly.cellAt P_ 0 rfl; clear P_; (go_simp <;> first | with_reducible rfl | exact ⟨rfl, rfl⟩)); simp only [Act.put, Ly.p1, Ly.p2, Ly.p3])
              first
                | (apply Ly.kk HO 11; (case hx => exact ⟨rfl, rfl⟩); (case hk => decide +kernel); simp only [Act.put, Ly.p1, Ly.p2, Ly.p3])
                | (apply Ly.kr HO 11; (case hx => exact ⟨rfl, rfl, rfl⟩); (case hk => decide +kernel); (case hv => intro w_ hw_; skip; (go_simp <;> first | with_reducible rfl | exact ⟨rfl, rfl⟩)); simp only [Act.put, Ly.p1, Ly.p2, Ly.p3])
              first
                | (apply Ly.kk HO 12; (case hx => exact ⟨rfl, rfl⟩); (case hk => decide +kernel); simp only [Act.put, Ly.p1, Ly.p2, Ly.p3])
                | (apply Ly.kp HO 12; (case hx => exact ⟨rfl, rfl, rfl⟩); (case hk => decide +kernel); (case hv => intro w_ hw_; (go_simp <;> first | with_reducible rfl | exact ⟨rfl, rfl⟩)); simp only [Act.put, Ly.p1, Ly.p2, Ly.p3])
              first
                | (apply Ly.kp HO 13; (case hx => exact ⟨rfl, rfl, rfl⟩); (case hk => decide +kernel); (case hv => intro w_ hw_; (go_simp <;> first | with_reducible rfl | exact ⟨rfl, rfl⟩)); simp only [Act.put, Ly.p1, Ly.p2, Ly.p3])
              refine Ly.kd HO (by kernel_rfl) (fun hiv2 => hZ _ _ (fun W7 hw2 => ?_))
              clear hZ Z HO O
              have hin_ := Lib.hid (And.intro hw2 hiv2 : Ly.II _ _ _ _)
              clear hw2 hiv2
              replace HIN := Lib.hid (Ly.tk hin_.out (Ly.tk hin_.out (Ly.tk hin_.out (Ly.tk hin_.out (Ly.II.nil hin_.out.1.below) (w.heap.size) (by (repeat (first | exact Ly.ua _ _ _ | rw [Ly.un _ _ (by omega)] | rw [Ly.am] | rw [Ly.fz])))) (w.heap.size + 1) (by (repeat (first | exact Ly.ua _ _ _ | rw [Ly.un _ _ (by omega)] | rw [Ly.am] | rw [Ly.fz])))) (g28_1) (by (repeat (first | exact Ly.ua _ _ _ | rw [Ly.un _ _ (by omega)] | rw [Ly.am] | rw [Ly.fz])))) (g28_2) (by (repeat (first | exact Ly.ua _ _ _ | rw [Ly.un _ _ (by omega)] | rw [Ly.am] | rw [Ly.fz]))))
              clear hin_
              have hna : g28_1 ≠ w.heap.size ∧ g28_1 ≠ w.heap.size + 1 ∧ g28_2 ≠ w.heap.size ∧ g28_2 ≠ w.heap.size + 1 ∧ g28_2 ≠ g28_1 := by omega
              have P_ := HIN.out.1.holds (g28_1) _ (by (repeat (first | exact Ly.ua _ _ _ | rw [Ly.un _ _ (by omega)] | rw [Ly.am] | rw [Ly.fz])))
              obtain ⟨x0, x1⟩ := Ly.cells2 P_
              clear P_
              have P_ := HIN.out.1.holds (g28_2) _ (by (repeat (first | exact Ly.ua _ _ _ | rw [Ly.un _ _ (by omega)] | rw [Ly.am] | rw [Ly.fz])))
              obtain ⟨y0, y1⟩ := Ly.cells2 P_
              clear P_
              go_wp2
              clear x0 x1 y0 y1
              go_loopw [11] (fun i wr => ∃ k : Nat, k ≤ l.cases.length ∧ i = .int .i64 k ∧ Ly.II w.heap.size w ((((Ly.St.nil.upd w.heap.size (.cells #[.slice A1 P.caps.length n1, .slice A2 P.codes.length n2, .slice (some ⟨b1, o1, none⟩) P.sites.length n3] 44 (0, 0))).upd (w.heap.size + 1) (.cells #[.slice B1 P.caps.length m1, .slice B2 P.codes.length m2, .slice (some ⟨b2, o2, none⟩) P.sites.length m3] 44 (0, 0))).upd (g28_1) (.cells #[.slice C1 l.cases.length d1, .bool l.dflt] 66 (0, 0))).upd (g28_2) (.cells #[.slice C2 l.cases.length d2, .bool l.dflt] 66 (0, 0))) wr) (fun i _ => l.cases.length - (intOf i).toNat)
              case atStart => exact ⟨0, Nat.zero_le _, rfl, HIN.out⟩
              case round =>
                obtain ⟨j, hkj, rfl, hii⟩ := hrel
                clear HIN
                have HIN := Lib.hid hii
                clear hii
                have P_ := HIN.out.1.holds (g28_1) _ (by (repeat (first | exact Ly.ua _ _ _ | rw [Ly.un _ _ (by omega)] | rw [Ly.am] | rw [Ly.fz])))
                obtain ⟨x0, x1⟩ := Ly.cells2 P_
                clear P_
                have P_ := HIN.out.1.holds (g28_2) _ (by (repeat (first | exact Ly.ua _ _ _ | rw [Ly.un _ _ (by omega)] | rw [Ly.am] | rw [Ly.fz])))
                obtain ⟨y0, y1⟩ := Ly.cells2 P_
                clear P_
                by_cases hltj : j < l.cases.length
                case pos =>
                  obtain ⟨e1, f1, rfl, he1, c0, c1, c2, c3, _⟩ := kCase_at G2.out hltj
                  obtain ⟨e2, f2, rfl, he2, t0, t1, t2, t3, _⟩ := kCase_at Q2.out hltj
                  obtain ⟨x, hx⟩ : ∃ x, x = l.cases[j] := ⟨_, rfl⟩
                  rw [← hx] at c0 c1 c2 c3 t0 t1 t2 t3
                  clear hx
                  have C0 := Lib.hid c0
                  have C1 := Lib.hid c1
                  have C2 := Lib.hid c2
                  have C3 := Lib.hid c3
                  have T0 := Lib.hid t0
                  have T1 := Lib.hid t1
                  have T2 := Lib.hid t2
                  have T3 := Lib.hid t3
                  clear c0 c1 c2 c3 t0 t1 t2 t3
                  have hj1 : (j : Int) < (l.cases.length : Int) := by omega
                  have hj0 : (0 : Int) ≤ (j : Int) := by omega
                  go_upto_region 27 with fail
                  clear x0 x1 y0 y1
                  have q5 := fun (d : Nat) => @eq_case_yes d
                  refine Ly.regionS (by kernel_rfl) (by kernel_rfl) HIN.out.1 HIN.out.2 (by simp only [List.size_toArray, List.length_cons, List.length_nil, Nat.reduceAdd]; rfl) (fun O Z hO hZ => ?_); have HO := Lib.hid hO; clear hO
                  first
                    | (apply Ly.kp HO 0; (case hx => exact ⟨rfl, rfl, rfl⟩); (case hk => decide +kernel); (case hv => intro w_ hw_; (go_simp <;> first | with_reducible rfl | exact ⟨rfl, rfl⟩)); simp only [Act.put, Ly.p1, Ly.p2, Ly.p3])
                  first
                    | (apply Ly.kr HO 1; (case hx => exact ⟨rfl, rfl, rfl⟩); (case hk => decide +kernel); (case hv => intro w_ hw_; have P_ := hw_.holds (g28_1) _ (by (repeat (first | exact Ly.ua _ _ _ | rw [Ly.un _ _ (by omega)] | rw [Ly.am] | rw [Ly.fz]))); have c0 := Ly.cellAt P_ 0 rfl; clear P_; (go_simp <;> first | with_reducible rfl | exact ⟨rfl, rfl⟩)); simp only [Act.put, Ly.p1, Ly.p2, Ly.p3])
                  first
                    | (apply Ly.kp HO 2; (case hx => exact ⟨rfl, rfl, rfl⟩); (case hk => decide +kernel); (case hv => intro w_ hw_; (go_simp <;> first | with_reducible rfl | exact ⟨rfl, rfl⟩)); simp only [Act.put, Ly.p1, Ly.p2, Ly.p3])
                  first
                    | (apply Ly.kp HO 3; (case hx => exact ⟨rfl, rfl, rfl⟩); (case hk => decide +kernel); (case hv => intro w_ hw_; (go_simp <;> first | with_reducible rfl | exact ⟨rfl, rfl⟩)); simp only [Act.put, Ly.p1, Ly.p2, Ly.p3])
                  first
                    | (apply Ly.kr HO 4; (case hx => exact ⟨rfl, rfl, rfl⟩); (case hk => decide +kernel); (case hv => intro w_ hw_; have z0 := Below.at hw_.below C0.out he1; have z1 := Below.at hw_.below C1.out he1; have z2 := Below.at hw_.below C2.out he1; have z3 := Below.at hw_.below C3.out he1; (go_simp <;> first | with_reducible rfl | exact ⟨rfl, rfl⟩)); simp only [Act.put, Ly.p1, Ly.p2, Ly.p3])
                  first
                    | (apply Ly.kp HO 5; (case hx => exact ⟨rfl, rfl, rfl⟩); (case hk => decide +kernel); (case hv => intro w_ hw_; (go_simp <;> first | with_reducible rfl | exact ⟨rfl, rfl⟩)); simp only [Act.put, Ly.p1, Ly.p2, Ly.p3])
                  first
                    | (apply Ly.kr HO 6; (case hx => exact ⟨rfl, rfl, rfl⟩); (case hk => decide +kernel); (case hv => intro w_ hw_; have P_ := hw_.holds (g28_2) _ (by (repeat (first | exact Ly.ua _ _ _ | rw [Ly.un _ _ (by omega)] | rw [Ly.am] | rw [Ly.fz]))); have c0 := Ly.cellAt P_ 0 rfl; clear P_; (go_simp <;> first | with_reducible rfl | exact ⟨rfl, rfl⟩)); simp only [Act.put, Ly.p1, Ly.p2, Ly.p3])
                  first
                    | (apply Ly.kp HO 7; (case hx => exact ⟨rfl, rfl, rfl⟩); (case hk => decide +kernel); (case hv => intro w_ hw_; (go_simp <;> first | with_reducible rfl | exact ⟨rfl, rfl⟩)); simp only [Act.put, Ly.p1, Ly.p2, Ly.p3])
                  first
                    | (apply Ly.kp HO 8; (case hx => exact ⟨rfl, rfl, rfl⟩); (case hk => decide +kernel); (case hv => intro w_ hw_; (go_simp <;> first | with_reducible rfl | exact ⟨rfl, rfl⟩)); simp only [Act.put, Ly.p1, Ly.p2, Ly.p3])
                  first
                    | (apply Ly.kr HO 9; (case hx => exact ⟨rfl, rfl, rfl⟩); (case hk => decide +kernel); (case hv => intro w_ hw_; have z0 := Below.at hw_.below T0.out he2; have z1 := Below.at hw_.below T1.out he2; have z2 := Below.at hw_.below T2.out he2; have z3 := Below.at hw_.below T3.out he2; (go_simp <;> first | with_reducible rfl | exact ⟨rfl, rfl⟩)); simp only [Act.put, Ly.p1, Ly.p2, Ly.p3])
                  first
                    | (apply Ly.kp HO 10; (case hx => exact ⟨rfl, rfl, rfl⟩); (case hk => decide +kernel); (case hv => intro w_ hw_; (go_simp <;> first | with_reducible rfl | exact ⟨rfl, rfl⟩)); simp only [Act.put, Ly.p1, Ly.p2, Ly.p3])
                  refine Ly.kd HO (by kernel_rfl) (fun hiv2 => hZ _ _ (fun W8 hw2 => ?_))
                  clear hZ Z HO O
                  have hin_ := Lib.hid (And.intro hw2 hiv2 : Ly.II _ _ _ _)
                  clear hw2 hiv2
                  replace HIN := Lib.hid (Ly.tk hin_.out (Ly.tk hin_.out (Ly.tk hin_.out (Ly.tk hin_.out (Ly.II.nil hin_.out.1.below) (w.heap.size) (by (repeat (first | exact Ly.ua _ _ _ | rw [Ly.un _ _ (by omega)] | rw [Ly.am] | rw [Ly.fz])))) (w.heap.size + 1) (by (repeat (first | exact Ly.ua _ _ _ | rw [Ly.un _ _ (by omega)] | rw [Ly.am] | rw [Ly.fz])))) (g28_1) (by (repeat (first | exact Ly.ua _ _ _ | rw [Ly.un _ _ (by omega)] | rw [Ly.am] | rw [Ly.fz])))) (g28_2) (by (repeat (first | exact Ly.ua _ _ _ | rw [Ly.un _ _ (by omega)] | rw [Ly.am] | rw [Ly.fz]))))
                  clear hin_
                  clear q5
                  go_wp2
                  go_roundw
                  case rel => exact ⟨j + 1, hltj, by go_num, HIN.out⟩
                  case measure => simp [intOf]; omega
                case neg =>
                  obtain rfl : j = l.cases.length := by omega
                  replace HIN := Lib.hid (Ly.tk HIN.out (Ly.tk HIN.out (Ly.II.nil HIN.out.1.below) (w.heap.size) (by (repeat (first | exact Ly.ua _ _ _ | rw [Ly.un _ _ (by omega)] | rw [Ly.am] | rw [Ly.fz])))) (w.heap.size + 1) (by (repeat (first | exact Ly.ua _ _ _ | rw [Ly.un _ _ (by omega)] | rw [Ly.am] | rw [Ly.fz]))))
                  go_wp2
                  go_roundw
                  case rel => exact ⟨i + 1, hlti, by go_num, HIN.out⟩
                  case measure => simp [intOf]; omega
            case neg =>
              obtain rfl : i = P.sites.length := by omega
              go_wp2
              go_ret
              exact ⟨rfl, HIN.out.1.below⟩
end Go.Proofs.Ytljfloopjgpaeaa
