/- tollbarlaw32.LiveRises: of a longer log, up to an end that is no less, no lag is less. For every log; no condition. -/
import Derived.Test.YtljfloopjgpaeabLO
namespace Go.Proofs.Ytljfloopjgpaeab
set_option linter.unusedVariables false
set_option linter.unusedSimpArgs false
open Go.RowKit Go.Shelf
attribute [local go_sem] Oper.semAt_some
set_option maxRecDepth 100000
set_option maxHeartbeats 16000000 in
theorem liveRises_C {w : World} {v : Value} {l : List EntV} (h : kEnt.R w v l) (cut more : Int) (hc : 0 ≤ cut ∧ cut ≤ 255) (hm : 0 ≤ more ∧ more ≤ 65535) {k : Nat} (hk : cut % ((l.length : Int) + 1) = (k : Int)) {p : Nat} (k0 : k = p + 1) :
    Calls Try.prog 3 #[v, .int .u8 cut, .int .u16 more] w fun e w' => e = .returned (.bool true) ∧ Below w.heap.size w w' := by
  obtain ⟨A, c, rfl, hlc, _, hll⟩ := h.val
  have HAL := Lib.hid (fun W => alive32_any W)
  have HL := Lib.hid h
  have HK := Lib.hid hk
  have HK0 := Lib.hid k0
  clear h hk k0
  go_enter Try.func3, Try.ntmps3
  go_upto_region 3 with (first | (go_at_call 5; (with_reducible refine (may32_any HL.out).mono ?_); rintro e w1 ⟨⟨b, rfl, hmb⟩, hb1⟩; have HB := Lib.hid hb1; have HMB := Lib.hid hmb; clear hb1 hmb; cases b) | (go_at_call 6; (with_reducible refine (HAL.out _).mono ?_); rintro e wz ⟨rfl, hbz⟩))
  · go_ret
    exact ⟨rfl, HB.out.trans (hbz.mono HB.out.size)⟩
  obtain ⟨h200, hmay⟩ := HMB.out (by first | rfl | trivial)
  clear HMB
  have wl : IntKind.i64.wrap ((l.length : Int) + 1) = (l.length : Int) + 1 := IntWalk.i64_in _ (by omega)
  have wc : IntKind.i64.wrap cut = cut := IntWalk.i64_in _ (by omega)
  have hn0 : ((l.length : Int) + 1 == 0) = false := beq_eq_false_iff_ne.2 (by omega)
  go_upto_region 4 with fail
  have hk := HK.out
  have hkl : k ≤ l.length := by
    have := Int.emod_lt_of_pos cut (show (0 : Int) < (l.length : Int) + 1 by omega)
    omega
  rw [hk]
  clear hk HK
  have k0 := HK0.out
  clear HK0
  have hx := may_all hmay
  have HX := Lib.hid hx
  have HMY := Lib.hid hmay
  have wm : IntKind.i64.wrap more = more := IntWalk.i64_in _ (by omega)
  clear hx hmay h200
  subst k0
  have hl0 : l.length ≠ 0 := by omega
  have hpl : p < l.length := by omega
  obtain ⟨q, hq⟩ : ∃ q, q + 1 = l.length := ⟨l.length - 1, by omega⟩
  have wq : IntKind.i64.wrap ((l.length : Int) - 1) = (q : Int) := (IntWalk.i64_in _ (by omega)).trans (by omega)
  have q0 : (0 : Int) ≤ (q : Int) := by omega
  have q1 : (q : Int) < (l.length : Int) := by omega
  have dl : decide ((l.length : Int) > 0) = true := decide_eq_true (by omega)
  have dl2 : decide (0 < l.length) = true := decide_eq_true (by omega)
  have hql : q < l.length := by omega
  obtain ⟨b, o, hA, hbl, g0, _⟩ := kEnt_at HL.out hql
  have g0 := Below.at HB.out g0 hbl
  have hbr := Nat.lt_of_lt_of_le hbl HB.out.size
  subst hA
  obtain ⟨yl, hyl⟩ : ∃ y, y = l[q].at_ := ⟨_, rfl⟩
  have hyb := HX.out l[q] (List.getElem_mem hql)
  rw [← hyl] at g0 hyb
  have wyl : IntKind.i64.wrap (yl + more) = yl + more := IntWalk.i64_in _ (by omega)
  obtain ⟨b', o', hA', _, g1, _⟩ := kEnt_at HL.out hpl
  obtain ⟨rfl, rfl⟩ : b = b' ∧ o = o' := by simpa using hA'
  have g1 := Below.at HB.out g1 hbl
  clear hA'
  have wp : IntKind.i64.wrap (((p + 1 : Nat) : Int) - 1) = (p : Int) := (IntWalk.i64_in _ (by omega)).trans (by omega)
  have p0 : (0 : Int) ≤ (p : Int) := by omega
  have p1 : (p : Int) < (l.length : Int) := by omega
  have dp : decide (((p + 1 : Nat) : Int) > 0) = true := by first | (simp; done) | (simp; omega)
  obtain ⟨ye, hye⟩ : ∃ y, y = l[p].at_ := ⟨_, rfl⟩
  have hyc := HX.out l[p] (List.getElem_mem hpl)
  rw [← hye] at g1 hyc
  have wye : IntKind.i64.wrap (ye + more) = ye + more := IntWalk.i64_in _ (by omega)
  have hpq : ye ≤ yl := by
    have := HMY.out.le (q - p) p (by omega)
    simp only [show p + (q - p) = q by omega] at this
    rw [hye, hyl]
    exact this
  have hea : endOf l (p + 1) = ye := by (unfold endOf; rw [if_pos (by omega), List.getD_eq_getElem?_getD, show p + 1 - 1 = p by omega, List.getElem?_eq_getElem hpl, hye]; rfl)
  have hle : ye ≤ yl := hpq
  obtain ⟨a0, va0⟩ : ∃ a, ofV 0 (l.take (p + 1)) (ye) = a := ⟨_, rfl⟩
  obtain ⟨b0, vb0⟩ : ∃ a, ofV 0 l (yl + more) = a := ⟨_, rfl⟩
  obtain ⟨c0, vc0⟩ : ∃ a, ofV 0 (l.take (p + 1)) (ye + more) = a := ⟨_, rfl⟩
  have r0 := of_rises HMY.out hkl 0 (yl + more) (by rw [hea]; omega)
  have s0 := of_later HMY.out hkl 0 (ye + more) (by rw [hea]; omega)
  have t0 := of_nn HMY.out (k := (p + 1)) 0 (ye)
  rw [hea] at r0 s0
  rw [va0, vb0] at r0
  rw [va0, vc0] at s0
  rw [va0] at t0
  have g0 : decide (a0 > b0) = false := by simp; omega
  have h0 : decide (c0 ≥ a0) = true := by simp; omega
  obtain ⟨a1, va1⟩ : ∃ a, ofV 1 (l.take (p + 1)) (ye) = a := ⟨_, rfl⟩
  obtain ⟨b1, vb1⟩ : ∃ a, ofV 1 l (yl + more) = a := ⟨_, rfl⟩
  obtain ⟨c1, vc1⟩ : ∃ a, ofV 1 (l.take (p + 1)) (ye + more) = a := ⟨_, rfl⟩
  have r1 := of_rises HMY.out hkl 1 (yl + more) (by rw [hea]; omega)
  have s1 := of_later HMY.out hkl 1 (ye + more) (by rw [hea]; omega)
  have t1 := of_nn HMY.out (k := (p + 1)) 1 (ye)
  rw [hea] at r1 s1
  rw [va1, vb1] at r1
  rw [va1, vc1] at s1
  rw [va1] at t1
  have g1 : decide (a1 > b1) = false := by simp; omega
  have h1 : decide (c1 ≥ a1) = true := by simp; omega
  obtain ⟨a2, va2⟩ : ∃ a, ofV 2 (l.take (p + 1)) (ye) = a := ⟨_, rfl⟩
  obtain ⟨b2, vb2⟩ : ∃ a, ofV 2 l (yl + more) = a := ⟨_, rfl⟩
  obtain ⟨c2, vc2⟩ : ∃ a, ofV 2 (l.take (p + 1)) (ye + more) = a := ⟨_, rfl⟩
  have r2 := of_rises HMY.out hkl 2 (yl + more) (by rw [hea]; omega)
  have s2 := of_later HMY.out hkl 2 (ye + more) (by rw [hea]; omega)
  have t2 := of_nn HMY.out (k := (p + 1)) 2 (ye)
  rw [hea] at r2 s2
  rw [va2, vb2] at r2
  rw [va2, vc2] at s2
  rw [va2] at t2
  have g2 : decide (a2 > b2) = false := by simp; omega
  have h2 : decide (c2 ≥ a2) = true := by simp; omega
  obtain ⟨a3, va3⟩ : ∃ a, ofV 3 (l.take (p + 1)) (ye) = a := ⟨_, rfl⟩
  obtain ⟨b3, vb3⟩ : ∃ a, ofV 3 l (yl + more) = a := ⟨_, rfl⟩
  obtain ⟨c3, vc3⟩ : ∃ a, ofV 3 (l.take (p + 1)) (ye + more) = a := ⟨_, rfl⟩
  have r3 := of_rises HMY.out hkl 3 (yl + more) (by rw [hea]; omega)
  have s3 := of_later HMY.out hkl 3 (ye + more) (by rw [hea]; omega)
  have t3 := of_nn HMY.out (k := (p + 1)) 3 (ye)
  rw [hea] at r3 s3
  rw [va3, vb3] at r3
  rw [va3, vc3] at s3
  rw [va3] at t3
  have g3 : decide (a3 > b3) = false := by simp; omega
  have h3 : decide (c3 ≥ a3) = true := by simp; omega
  have HAC := Lib.hid (show (0 ≤ a0 ∧ a0 ≤ c0) ∧ (0 ≤ a1 ∧ a1 ≤ c1) ∧ (0 ≤ a2 ∧ a2 ≤ c2) ∧ (0 ≤ a3 ∧ a3 ≤ c3) from ⟨⟨t0, s0⟩, ⟨t1, s1⟩, ⟨t2, s2⟩, t3, s3⟩)
  have HOA := Lib.hid (fun (W : World) (hb : Below w.heap.size w W) => of_take (HL.out.keep hb) hkl (ye) HX.out (by omega) va0 va1 va2 va3)
  have HOB := Lib.hid (fun (W : World) (hb : Below w.heap.size w W) => of_all (HL.out.keep hb) (yl + more) HX.out (by omega) vb0 vb1 vb2 vb3)
  have HOC := Lib.hid (fun (W : World) (hb : Below w.heap.size w W) => of_take (HL.out.keep hb) hkl (ye + more) HX.out (by omega) vc0 vc1 vc2 vc3)
  clear va0 va1 va2 va3 vb0 vb1 vb2 vb3 vc0 vc1 vc2 vc3 r0 r1 r2 r3 s0 s1 s2 s3 t0 t1 t2 t3 hea hle
  clear hq hyl hyb hye hyc hpq hl0
  go_upto_region 11 with (first | (go_at_call 7; (with_reducible refine (HOA.out _ HB.out).mono ?_); rintro e w2 ⟨rfl, hbk⟩; have HB2 := Lib.hid (HB.out.trans (hbk.mono HB.out.size)); clear hbk) | (go_at_call 7; (with_reducible refine (HOB.out _ HB2.out).mono ?_); rintro e w3 ⟨rfl, hbk⟩; have HB3 := Lib.hid (HB2.out.trans (hbk.mono HB2.out.size)); clear hbk))
  --STOP1
  obtain ⟨W4, hW⟩ : ∃ W4, W4 = (w3.alloc (.cells #[.int .i64 a0, .int .i64 a1, .int .i64 a2, .int .i64 a3] 32)).alloc (.cells #[.int .i64 b0, .int .i64 b1, .int .i64 b2, .int .i64 b3] 32) := ⟨_, rfl⟩
  have ha : HasC W4 w3.heap.size (.cells #[.int .i64 a0, .int .i64 a1, .int .i64 a2, .int .i64 a3] 32) := by (rw [hW]; exact (Below.heap_alloc _ _ _ (by simp)).trans (World.alloc_heap_new _ _))
  have hb : HasC W4 (w3.heap.size + 1) (.cells #[.int .i64 b0, .int .i64 b1, .int .i64 b2, .int .i64 b3] 32) := by (rw [hW]; exact alloc_at3 (by simp))
  have hbw : Below w3.heap.size w3 W4 := by rw [hW]; (repeat (first | with_reducible exact Below.refl _ _ | (with_reducible refine Below.setCell ?_ (by first | (simp; done) | (simp; omega) | omega) _) | (with_reducible refine Below.alloc ?_ (by first | (simp; done) | (simp; omega) | omega) _) | (with_reducible refine Below.drew ?_)))
  rw [← hW]
  clear hW
  have HA := Lib.hid ha
  have HBB := Lib.hid hb
  have HB4 := Lib.hid (HB3.out.trans (hbw.mono HB3.out.size))
  have hz3 := HB3.out.size
  clear ha hb hbw
  --STOP2
  go_upto_region 12 with (go_at_call 7; (with_reducible refine (HOC.out _ HB4.out).mono ?_); rintro e w5 ⟨rfl, hbk⟩; have HB5 := Lib.hid (HB4.out.trans (hbk.mono HB4.out.size)); have ha5 := (hbk.block _ HA.out.lt).trans HA.out; have hb5 := (hbk.block _ HBB.out.lt).trans HBB.out; have HA5 := Lib.hid ha5; have HBB5 := Lib.hid hb5; clear hbk ha5 hb5)
  --STOP3
  obtain ⟨W6, hW⟩ : ∃ W6, W6 = w5.alloc (.cells #[.int .i64 c0, .int .i64 c1, .int .i64 c2, .int .i64 c3] 32) := ⟨_, rfl⟩
  have hc : HasC W6 w5.heap.size (.cells #[.int .i64 c0, .int .i64 c1, .int .i64 c2, .int .i64 c3] 32) := by (rw [hW]; exact World.alloc_heap_new _ _)
  have hbw : Below w5.heap.size w5 W6 := by rw [hW]; (repeat (first | with_reducible exact Below.refl _ _ | (with_reducible refine Below.setCell ?_ (by first | (simp; done) | (simp; omega) | omega) _) | (with_reducible refine Below.alloc ?_ (by first | (simp; done) | (simp; omega) | omega) _) | (with_reducible refine Below.drew ?_)))
  rw [← hW]
  clear hW
  have ha : HasC W6 w3.heap.size (.cells #[.int .i64 a0, .int .i64 a1, .int .i64 a2, .int .i64 a3] 32) := (hbw.block _ (Array.getElem?_eq_some_iff.1 HA5.out).1).trans HA5.out
  have hb : HasC W6 (w3.heap.size + 1) (.cells #[.int .i64 b0, .int .i64 b1, .int .i64 b2, .int .i64 b3] 32) := (hbw.block _ (Array.getElem?_eq_some_iff.1 HBB5.out).1).trans HBB5.out
  have hB6 := HB5.out.trans (hbw.mono HB5.out.size)
  have hz5 := HB5.out.size
  have nxa := (Array.getElem?_eq_some_iff.1 HA5.out).1
  have nxb := (Array.getElem?_eq_some_iff.1 HBB5.out).1
  have HIN := Lib.hid (((((Lx.II.nil hB6).put hz3 ha).put (Nat.le_succ_of_le hz3) hb).put hz5 hc))
  obtain ⟨x0, x1, x2, x3⟩ := Lx.cells4 ha
  obtain ⟨y0, y1, y2, y3⟩ := Lx.cells4 hb
  have xl := ha.lt
  have yl := hb.lt
  clear ha hb hc hbw hB6
  --STOP4
  go_upto_region 14 with fail
  --STOP5
  clear x0 x1 x2 x3 y0 y1 y2 y3 xl yl
  have hel := fun (a0 a1 a2 a3 b0 b1 b2 b3 : Int) (w : World) => eq_lags 9998 a0 a1 a2 a3 b0 b1 b2 b3 w
  have HEL := Lib.hid hel
  clear hel
  refine Lx.regionS (by kernel_rfl) (by kernel_rfl) HIN.out.1 HIN.out.2 (by simp only [List.size_toArray, List.length_cons, List.length_nil, Nat.reduceAdd]; rfl) (fun O Z hO hZ => ?_); have HO := Lib.hid hO; clear hO
  apply Lx.kp HO 0; (case hx => exact ⟨rfl, rfl, rfl⟩); (case hk => decide +kernel); (case hv => intro w_ hw_; (go_simp <;> first | with_reducible rfl | exact ⟨rfl, rfl⟩)); simp only [Act.put, Lx.p1, Lx.p2, Lx.p3]
  --STOP20
  apply Lx.kr HO 1; (case hx => exact ⟨rfl, rfl, rfl⟩); (case hk => decide +kernel); (case hv => intro w_ hw_; have P_ := hw_.holds (w5.heap.size) _ (by (repeat (first | exact Lx.ua _ _ _ | rw [Lx.un _ _ (by omega)] | rw [Lx.am]))); obtain ⟨x0, x1, x2, x3⟩ := Lx.cells4 P_; have l_ := (Array.getElem?_eq_some_iff.1 P_).1; clear P_; (go_simp <;> first | with_reducible rfl | exact ⟨rfl, rfl⟩)); simp only [Act.put, Lx.p1, Lx.p2, Lx.p3]
  --STOP30
  apply Lx.kp HO 2; (case hx => exact ⟨rfl, rfl, rfl⟩); (case hk => decide +kernel); (case hv => intro w_ hw_; (go_simp <;> first | with_reducible rfl | exact ⟨rfl, rfl⟩)); simp only [Act.put, Lx.p1, Lx.p2, Lx.p3]
  apply Lx.kr HO 3; (case hx => exact ⟨rfl, rfl, rfl⟩); (case hk => decide +kernel); (case hv => intro w_ hw_; have P_ := hw_.holds (w3.heap.size) _ (by (repeat (first | exact Lx.ua _ _ _ | rw [Lx.un _ _ (by omega)] | rw [Lx.am]))); obtain ⟨x0, x1, x2, x3⟩ := Lx.cells4 P_; have l_ := (Array.getElem?_eq_some_iff.1 P_).1; clear P_; (go_simp <;> first | with_reducible rfl | exact ⟨rfl, rfl⟩)); simp only [Act.put, Lx.p1, Lx.p2, Lx.p3]
  apply Lx.kp HO 4; (case hx => exact ⟨rfl, rfl, rfl⟩); (case hk => decide +kernel); (case hv => intro w_ hw_; (go_simp <;> first | with_reducible rfl | exact ⟨rfl, rfl⟩)); simp only [Act.put, Lx.p1, Lx.p2, Lx.p3]
  apply Lx.kp HO 5; (case hx => exact ⟨rfl, rfl, rfl⟩); (case hk => decide +kernel); (case hv => intro w_ hw_; (go_simp <;> first | with_reducible rfl | exact ⟨rfl, rfl⟩)); simp only [Act.put, Lx.p1, Lx.p2, Lx.p3]
  --STOP10
  apply Lx.kp HO 6; (case hx => exact ⟨rfl, rfl, rfl⟩); (case hk => decide +kernel); (case hv => intro w_ hw_; (go_simp <;> first | with_reducible rfl | exact ⟨rfl, rfl⟩)); simp only [Act.put, Lx.p1, Lx.p2, Lx.p3]
  --STOP21
  apply Lx.kr HO 7; (case hx => exact ⟨rfl, rfl, rfl⟩); (case hk => decide +kernel); (case hv => intro w_ hw_; have P_ := hw_.holds (w5.heap.size) _ (by (repeat (first | exact Lx.ua _ _ _ | rw [Lx.un _ _ (by omega)] | rw [Lx.am]))); obtain ⟨x0, x1, x2, x3⟩ := Lx.cells4 P_; have l_ := (Array.getElem?_eq_some_iff.1 P_).1; clear P_; (go_simp <;> first | with_reducible rfl | exact ⟨rfl, rfl⟩)); simp only [Act.put, Lx.p1, Lx.p2, Lx.p3]
  --STOP31
  apply Lx.kp HO 8; (case hx => exact ⟨rfl, rfl, rfl⟩); (case hk => decide +kernel); (case hv => intro w_ hw_; (go_simp <;> first | with_reducible rfl | exact ⟨rfl, rfl⟩)); simp only [Act.put, Lx.p1, Lx.p2, Lx.p3]
  apply Lx.kr HO 9; (case hx => exact ⟨rfl, rfl, rfl⟩); (case hk => decide +kernel); (case hv => intro w_ hw_; have P_ := hw_.holds (w3.heap.size) _ (by (repeat (first | exact Lx.ua _ _ _ | rw [Lx.un _ _ (by omega)] | rw [Lx.am]))); obtain ⟨x0, x1, x2, x3⟩ := Lx.cells4 P_; have l_ := (Array.getElem?_eq_some_iff.1 P_).1; clear P_; (go_simp <;> first | with_reducible rfl | exact ⟨rfl, rfl⟩)); simp only [Act.put, Lx.p1, Lx.p2, Lx.p3]
  apply Lx.kp HO 10; (case hx => exact ⟨rfl, rfl, rfl⟩); (case hk => decide +kernel); (case hv => intro w_ hw_; (go_simp <;> first | with_reducible rfl | exact ⟨rfl, rfl⟩)); simp only [Act.put, Lx.p1, Lx.p2, Lx.p3]
  apply Lx.kp HO 11; (case hx => exact ⟨rfl, rfl, rfl⟩); (case hk => decide +kernel); (case hv => intro w_ hw_; (go_simp <;> first | with_reducible rfl | exact ⟨rfl, rfl⟩)); simp only [Act.put, Lx.p1, Lx.p2, Lx.p3]
  apply Lx.kp HO 12; (case hx => exact ⟨rfl, rfl, rfl⟩); (case hk => decide +kernel); (case hv => intro w_ hw_; (go_simp <;> first | with_reducible rfl | exact ⟨rfl, rfl⟩)); simp only [Act.put, Lx.p1, Lx.p2, Lx.p3]
  --STOP11
  apply Lx.kp HO 13; (case hx => exact ⟨rfl, rfl, rfl⟩); (case hk => decide +kernel); (case hv => intro w_ hw_; (go_simp <;> first | with_reducible rfl | exact ⟨rfl, rfl⟩)); simp only [Act.put, Lx.p1, Lx.p2, Lx.p3]
  --STOP22
  apply Lx.kr HO 14; (case hx => exact ⟨rfl, rfl, rfl⟩); (case hk => decide +kernel); (case hv => intro w_ hw_; have P_ := hw_.holds (w5.heap.size) _ (by (repeat (first | exact Lx.ua _ _ _ | rw [Lx.un _ _ (by omega)] | rw [Lx.am]))); obtain ⟨x0, x1, x2, x3⟩ := Lx.cells4 P_; have l_ := (Array.getElem?_eq_some_iff.1 P_).1; clear P_; (go_simp <;> first | with_reducible rfl | exact ⟨rfl, rfl⟩)); simp only [Act.put, Lx.p1, Lx.p2, Lx.p3]
  --STOP32
  apply Lx.kp HO 15; (case hx => exact ⟨rfl, rfl, rfl⟩); (case hk => decide +kernel); (case hv => intro w_ hw_; (go_simp <;> first | with_reducible rfl | exact ⟨rfl, rfl⟩)); simp only [Act.put, Lx.p1, Lx.p2, Lx.p3]
  apply Lx.kr HO 16; (case hx => exact ⟨rfl, rfl, rfl⟩); (case hk => decide +kernel); (case hv => intro w_ hw_; have P_ := hw_.holds (w3.heap.size) _ (by (repeat (first | exact Lx.ua _ _ _ | rw [Lx.un _ _ (by omega)] | rw [Lx.am]))); obtain ⟨x0, x1, x2, x3⟩ := Lx.cells4 P_; have l_ := (Array.getElem?_eq_some_iff.1 P_).1; clear P_; (go_simp <;> first | with_reducible rfl | exact ⟨rfl, rfl⟩)); simp only [Act.put, Lx.p1, Lx.p2, Lx.p3]
  apply Lx.kp HO 17; (case hx => exact ⟨rfl, rfl, rfl⟩); (case hk => decide +kernel); (case hv => intro w_ hw_; (go_simp <;> first | with_reducible rfl | exact ⟨rfl, rfl⟩)); simp only [Act.put, Lx.p1, Lx.p2, Lx.p3]
  apply Lx.kp HO 18; (case hx => exact ⟨rfl, rfl, rfl⟩); (case hk => decide +kernel); (case hv => intro w_ hw_; (go_simp <;> first | with_reducible rfl | exact ⟨rfl, rfl⟩)); simp only [Act.put, Lx.p1, Lx.p2, Lx.p3]
  apply Lx.kp HO 19; (case hx => exact ⟨rfl, rfl, rfl⟩); (case hk => decide +kernel); (case hv => intro w_ hw_; (go_simp <;> first | with_reducible rfl | exact ⟨rfl, rfl⟩)); simp only [Act.put, Lx.p1, Lx.p2, Lx.p3]
  --STOP12
  apply Lx.kp HO 20; (case hx => exact ⟨rfl, rfl, rfl⟩); (case hk => decide +kernel); (case hv => intro w_ hw_; (go_simp <;> first | with_reducible rfl | exact ⟨rfl, rfl⟩)); simp only [Act.put, Lx.p1, Lx.p2, Lx.p3]
  --STOP23
  apply Lx.kr HO 21; (case hx => exact ⟨rfl, rfl, rfl⟩); (case hk => decide +kernel); (case hv => intro w_ hw_; have P_ := hw_.holds (w5.heap.size) _ (by (repeat (first | exact Lx.ua _ _ _ | rw [Lx.un _ _ (by omega)] | rw [Lx.am]))); obtain ⟨x0, x1, x2, x3⟩ := Lx.cells4 P_; have l_ := (Array.getElem?_eq_some_iff.1 P_).1; clear P_; (go_simp <;> first | with_reducible rfl | exact ⟨rfl, rfl⟩)); simp only [Act.put, Lx.p1, Lx.p2, Lx.p3]
  --STOP33
  apply Lx.kp HO 22; (case hx => exact ⟨rfl, rfl, rfl⟩); (case hk => decide +kernel); (case hv => intro w_ hw_; (go_simp <;> first | with_reducible rfl | exact ⟨rfl, rfl⟩)); simp only [Act.put, Lx.p1, Lx.p2, Lx.p3]
  apply Lx.kr HO 23; (case hx => exact ⟨rfl, rfl, rfl⟩); (case hk => decide +kernel); (case hv => intro w_ hw_; have P_ := hw_.holds (w3.heap.size) _ (by (repeat (first | exact Lx.ua _ _ _ | rw [Lx.un _ _ (by omega)] | rw [Lx.am]))); obtain ⟨x0, x1, x2, x3⟩ := Lx.cells4 P_; have l_ := (Array.getElem?_eq_some_iff.1 P_).1; clear P_; (go_simp <;> first | with_reducible rfl | exact ⟨rfl, rfl⟩)); simp only [Act.put, Lx.p1, Lx.p2, Lx.p3]
  apply Lx.kp HO 24; (case hx => exact ⟨rfl, rfl, rfl⟩); (case hk => decide +kernel); (case hv => intro w_ hw_; (go_simp <;> first | with_reducible rfl | exact ⟨rfl, rfl⟩)); simp only [Act.put, Lx.p1, Lx.p2, Lx.p3]
  apply Lx.kp HO 25; (case hx => exact ⟨rfl, rfl, rfl⟩); (case hk => decide +kernel); (case hv => intro w_ hw_; (go_simp <;> first | with_reducible rfl | exact ⟨rfl, rfl⟩)); simp only [Act.put, Lx.p1, Lx.p2, Lx.p3]
  apply Lx.kp HO 26; (case hx => exact ⟨rfl, rfl, rfl⟩); (case hk => decide +kernel); (case hv => intro w_ hw_; (go_simp <;> first | with_reducible rfl | exact ⟨rfl, rfl⟩)); simp only [Act.put, Lx.p1, Lx.p2, Lx.p3]
  --STOP13
  --STOP6
  apply Lx.kr HO 27; (case hx => exact ⟨rfl, rfl, rfl⟩); (case hk => decide +kernel); (case hv => intro w_ hw_; have P_ := hw_.holds (w3.heap.size) _ (by (repeat (first | exact Lx.ua _ _ _ | rw [Lx.un _ _ (by omega)] | rw [Lx.am]))); obtain ⟨x0, x1, x2, x3⟩ := Lx.cells4 P_; have l_ := (Array.getElem?_eq_some_iff.1 P_).1; clear P_; (go_simp <;> first | with_reducible rfl | exact ⟨rfl, rfl⟩)); simp only [Act.put, Lx.p1, Lx.p2, Lx.p3]
  apply Lx.kr HO 28; (case hx => exact ⟨rfl, rfl, rfl⟩); (case hk => decide +kernel); (case hv => intro w_ hw_; have P_ := hw_.holds (w5.heap.size) _ (by (repeat (first | exact Lx.ua _ _ _ | rw [Lx.un _ _ (by omega)] | rw [Lx.am]))); obtain ⟨x0, x1, x2, x3⟩ := Lx.cells4 P_; have l_ := (Array.getElem?_eq_some_iff.1 P_).1; clear P_; (go_simp <;> first | with_reducible rfl | exact ⟨rfl, rfl⟩)); simp only [Act.put, Lx.p1, Lx.p2, Lx.p3]
  apply Lx.kr HO 31; (case hx => exact ⟨rfl, rfl, rfl⟩); (case hk => decide +kernel); (case hv => intro w_ hw_; have P_ := hw_.holds (w5.heap.size) _ (by (repeat (first | exact Lx.ua _ _ _ | rw [Lx.un _ _ (by omega)] | rw [Lx.am]))); obtain ⟨x0, x1, x2, x3⟩ := Lx.cells4 P_; have l_ := (Array.getElem?_eq_some_iff.1 P_).1; clear P_; (go_simp <;> first | with_reducible rfl | exact ⟨rfl, rfl⟩)); simp only [Act.put, Lx.p1, Lx.p2, Lx.p3]
  apply Lx.kn HO 29 (mk := fun n => .slice (some ⟨n, 0, none⟩) 2 2); (case hx => exact ⟨rfl, rfl, rfl⟩); (case hk => decide +kernel); (case hrun => intro w_; (go_simp <;> first | with_reducible rfl | exact ⟨rfl, rfl⟩)); simp only [Act.put, Lx.p1, Lx.p2, Lx.p3]
  intro g29 hg29 hfr
  (repeat (first | (rw [Lx.St.add_M] at hfr) | (replace hfr := Lx.St.fresh_upd hfr; have n_ := hfr.1; replace hfr := hfr.2))); clear hfr
  apply Lx.kc HO 30; (case hx => exact ⟨rfl, rfl, rfl⟩); (case hk => decide +kernel); (case hrun => intro w_; (go_simp <;> first | with_reducible rfl | exact ⟨rfl, rfl⟩)); (case hc => intro w_ hw_; have P_ := hw_.holds (g29) _ (by (repeat (first | exact Lx.ua _ _ _ | rw [Lx.un _ _ (by omega)] | rw [Lx.am]))); exact most_up HAC.out.1 HAC.out.2.1 HAC.out.2.2.1 HAC.out.2.2.2 P_); simp only [Act.put, Lx.p1, Lx.p2, Lx.p3]
  (apply Lx.kp HO 32); (case hx => exact ⟨rfl, rfl, rfl⟩); (case hk => decide +kernel); (case hv => (intro w_ hw_; have he_ := HEL.out; (go_simp <;> first | with_reducible rfl | rfl))); simp only [Act.put, Lx.p1, Lx.p2, Lx.p3]
  apply Lx.kp HO 33; (case hx => exact ⟨rfl, rfl, rfl⟩); (case hk => decide +kernel); (case hv => intro w_ hw_; (go_simp <;> first | with_reducible rfl | exact ⟨rfl, rfl⟩)); simp only [Act.put, Lx.p1, Lx.p2, Lx.p3]
  apply Lx.kp HO 34; (case hx => exact ⟨rfl, rfl, rfl⟩); (case hk => decide +kernel); (case hv => intro w_ hw_; (go_simp <;> first | with_reducible rfl | exact ⟨rfl, rfl⟩)); simp only [Act.put, Lx.p1, Lx.p2, Lx.p3]
  apply Lx.kr HO 35; (case hx => exact ⟨rfl, rfl, rfl⟩); (case hk => decide +kernel); (case hv => intro w_ hw_; have P_ := hw_.holds (w5.heap.size) _ (by (repeat (first | exact Lx.ua _ _ _ | rw [Lx.un _ _ (by omega)] | rw [Lx.am]))); obtain ⟨x0, x1, x2, x3⟩ := Lx.cells4 P_; have l_ := (Array.getElem?_eq_some_iff.1 P_).1; clear P_; (go_simp <;> first | with_reducible rfl | exact ⟨rfl, rfl⟩)); simp only [Act.put, Lx.p1, Lx.p2, Lx.p3]
  apply Lx.kr HO 36; (case hx => exact ⟨rfl, rfl, rfl⟩); (case hk => decide +kernel); (case hv => intro w_ hw_; have P_ := hw_.holds (w3.heap.size) _ (by (repeat (first | exact Lx.ua _ _ _ | rw [Lx.un _ _ (by omega)] | rw [Lx.am]))); obtain ⟨x0, x1, x2, x3⟩ := Lx.cells4 P_; have l_ := (Array.getElem?_eq_some_iff.1 P_).1; clear P_; (go_simp <;> first | with_reducible rfl | exact ⟨rfl, rfl⟩)); simp only [Act.put, Lx.p1, Lx.p2, Lx.p3]
  apply Lx.kr HO 39; (case hx => exact ⟨rfl, rfl, rfl⟩); (case hk => decide +kernel); (case hv => intro w_ hw_; have P_ := hw_.holds (w5.heap.size) _ (by (repeat (first | exact Lx.ua _ _ _ | rw [Lx.un _ _ (by omega)] | rw [Lx.am]))); obtain ⟨x0, x1, x2, x3⟩ := Lx.cells4 P_; have l_ := (Array.getElem?_eq_some_iff.1 P_).1; clear P_; (go_simp <;> first | with_reducible rfl | exact ⟨rfl, rfl⟩)); simp only [Act.put, Lx.p1, Lx.p2, Lx.p3]
  apply Lx.kn HO 37 (mk := fun n => .slice (some ⟨n, 0, none⟩) 2 2); (case hx => exact ⟨rfl, rfl, rfl⟩); (case hk => decide +kernel); (case hrun => intro w_; (go_simp <;> first | with_reducible rfl | exact ⟨rfl, rfl⟩)); simp only [Act.put, Lx.p1, Lx.p2, Lx.p3]
  intro g37 hg37 hfr
  (repeat (first | (rw [Lx.St.add_M] at hfr) | (replace hfr := Lx.St.fresh_upd hfr; have n_ := hfr.1; replace hfr := hfr.2))); clear hfr
  apply Lx.kc HO 38; (case hx => exact ⟨rfl, rfl, rfl⟩); (case hk => decide +kernel); (case hrun => intro w_; (go_simp <;> first | with_reducible rfl | exact ⟨rfl, rfl⟩)); (case hc => intro w_ hw_; have P_ := hw_.holds (g37) _ (by (repeat (first | exact Lx.ua _ _ _ | rw [Lx.un _ _ (by omega)] | rw [Lx.am]))); exact most_down HAC.out.1 HAC.out.2.1 HAC.out.2.2.1 HAC.out.2.2.2 P_); simp only [Act.put, Lx.p1, Lx.p2, Lx.p3]
  (apply Lx.kp HO 40); (case hx => exact ⟨rfl, rfl, rfl⟩); (case hk => decide +kernel); (case hv => (intro w_ hw_; have he_ := HEL.out; (go_simp <;> first | with_reducible rfl | rfl))); simp only [Act.put, Lx.p1, Lx.p2, Lx.p3]
  apply Lx.kp HO 41; (case hx => exact ⟨rfl, rfl, rfl⟩); (case hk => decide +kernel); (case hv => intro w_ hw_; (go_simp <;> first | with_reducible rfl | exact ⟨rfl, rfl⟩)); simp only [Act.put, Lx.p1, Lx.p2, Lx.p3]
  apply Lx.kp HO 42; (case hx => exact ⟨rfl, rfl, rfl⟩); (case hk => decide +kernel); (case hv => intro w_ hw_; (go_simp <;> first | with_reducible rfl | exact ⟨rfl, rfl⟩)); simp only [Act.put, Lx.p1, Lx.p2, Lx.p3]
  apply Lx.kc HO 43; (case hx => exact ⟨rfl, rfl, rfl⟩); (case hk => decide +kernel); (case hrun => intro w_; (go_simp <;> first | with_reducible rfl | exact ⟨rfl, rfl⟩)); (case hc => intro w_ hw_; exact HAL.out _); simp only [Act.put, Lx.p1, Lx.p2, Lx.p3]
  apply Lx.kp HO 44; (case hx => exact ⟨rfl, rfl, rfl⟩); (case hk => decide +kernel); (case hv => intro w_ hw_; (go_simp <;> first | with_reducible rfl | exact ⟨rfl, rfl⟩)); simp only [Act.put, Lx.p1, Lx.p2, Lx.p3]
  apply Lx.kp HO 45; (case hx => exact ⟨rfl, rfl, rfl⟩); (case hk => decide +kernel); (case hv => intro w_ hw_; (go_simp <;> first | with_reducible rfl | exact ⟨rfl, rfl⟩)); simp only [Act.put, Lx.p1, Lx.p2, Lx.p3]
  refine Lx.kd HO (by kernel_rfl) (fun hiv2 => hZ _ _ (fun W7 hw2 => ?_))
  --STOP8
  go_wp2
  go_ret
  exact ⟨rfl, hw2.below⟩
end Go.Proofs.Ytljfloopjgpaeab
