/- tollbarlaw24.alive. -/
import Derived.Test.YtljfloopjgpaeaaSL
namespace Go.Proofs.Ytljfloopjgpaeaa
set_option linter.unusedVariables false
set_option linter.unusedSimpArgs false
open Go.RowKit Go.Shelf
attribute [local go_sem] Oper.semAt_some
set_option maxRecDepth 100000
theorem nilProg (W : World) : RProg W (.slice none 0 0) (.slice none 0 0) (.slice none 0 0) ⟨[], [], []⟩ := ⟨nil_R _ _, nil_R _ _, nil_R _ _⟩
theorem sane_two : saneP twoP = true := by decide +kernel
theorem sane_nil : saneP ⟨[], [], []⟩ = false := by decide +kernel
theorem small_two : Small twoP := ⟨by simp [twoP], by simp [twoP], by simp [twoP], by simp [twoP], by simp [twoP]⟩
theorem add_first {wp w : World} {x1 x2 x3 : Value} (hp : RProg wp x1 x2 x3 twoP) (hb : Below wp.heap.size wp w) {v : Value} (hT : TabAt w wp.heap.size x1 x2 x3 v) (ho : w.ownsRow wp.heap.size 153 1 v 0 ([] : List Value)) :
    Calls Try.prog 45 #[.pointer (some ⟨wp.heap.size, 0, none⟩), .agg #[.int .i64 0, .int .i64 0, .int .i64 0, .int .i64 0, .int .i64 0, .int .i64 0, .int .i64 0, .int .i64 0, .int .i64 0, .int .i64 0]] w fun e w' => e = .returned (.tuple #[.int .i64 0, .int .i64 0]) ∧ Below wp.heap.size wp w' ∧ KeepT w w' ∧ ∃ v' X M ob, TabAt w' wp.heap.size x1 x2 x3 v' ∧ w'.ownsRow wp.heap.size 153 1 v' (0 + 1) (([] : List Value) ++ [.pointer (some ⟨X, 0, none⟩)]) ∧ TaskB w' X 0 (.slice none 0 0) M ob (fun i => riseF (cn twoP i)) twoP 1 w.heap.size :=
  tAdd_at hp (by decide +kernel) (by decide) (fun i hi => by obtain rfl : i = 0 := (by (have h1 : i < 1 := hi); omega)
                                                             decide) hb hT (xs := ([] : List Value)) ho (by simp)
theorem add_second {wp w : World} {x1 x2 x3 : Value} (hp : RProg wp x1 x2 x3 twoP) (hb : Below wp.heap.size wp w) {v y : Value} (hT : TabAt w wp.heap.size x1 x2 x3 v) (ho : w.ownsRow wp.heap.size 153 1 v 1 [y]) :
    Calls Try.prog 45 #[.pointer (some ⟨wp.heap.size, 0, none⟩), .agg #[.int .i64 0, .int .i64 0, .int .i64 0, .int .i64 0, .int .i64 0, .int .i64 0, .int .i64 0, .int .i64 0, .int .i64 0, .int .i64 0]] w fun e w' => e = .returned (.tuple #[.int .i64 1, .int .i64 0]) ∧ Below wp.heap.size wp w' ∧ KeepT w w' ∧ ∃ v' X M ob, TabAt w' wp.heap.size x1 x2 x3 v' ∧ w'.ownsRow wp.heap.size 153 1 v' (1 + 1) ([y] ++ [.pointer (some ⟨X, 0, none⟩)]) ∧ TaskB w' X 0 (.slice none 0 0) M ob (fun i => riseF (cn twoP i)) twoP 1 w.heap.size :=
  tAdd_at hp (by decide +kernel) (by decide) (fun i hi => by obtain rfl : i = 0 := (by (have h1 : i < 1 := hi); omega)
                                                             decide) hb hT (xs := [y]) ho (by simp)
theorem own_block {w : World} {B e : Nat} {v : Value} {x y : Value} (h : w.ownsRow B e 1 v 2 [x, y]) : ∃ A cap cur, v = .slice (some ⟨A, 0, none⟩) 2 cap ∧ w.heap[A]? = some (.cells cur e (0, 0)) ∧ cur[0]? = some x ∧ cur[1]? = some y := by
  rcases h.2 with ⟨_, q⟩ | ⟨g, cap, cur, rfl, _, hh, _, _, _, h4⟩
  · cases q
  · refine ⟨g, cap, cur, rfl, hh, ?_, ?_⟩
    · have : (cur.toList.take 2)[0]? = some x := by rw [h4]; rfl
      rw [List.getElem?_take] at this
      simpa using this
    · have : (cur.toList.take 2)[1]? = some y := by rw [h4]; rfl
      rw [List.getElem?_take] at this
      simpa using this
set_option maxHeartbeats 4000000 in
theorem alive24_any (w : World) : Calls Try.prog 43 #[] w fun e w' => e = .returned (.bool true) ∧ Below w.heap.size w w' := by
  go_enter Try.func43, Try.ntmps43
  go_upto_region 2 with (first | (go_at_call 87; (with_reducible refine (two_any _).mono ?_); rintro e w1 ⟨A5, B5, rfl, hrp, hb1⟩; have HRP := Lib.hid hrp; have HB1 := Lib.hid hb1; clear hrp hb1) | (go_at_call 44; (with_reducible refine (tNew_ok HRP.out sane_two small_two).mono ?_); rintro e w2 ⟨wp, x1, x2, x3, rfl, hbp, hp, hb2, hT⟩; have HP := Lib.hid hp; have HT := Lib.hid hT; have HB2 := Lib.hid hb2; have HBP := Lib.hid (HB1.out.trans (hbp.mono HB1.out.size)); clear hbp hp hb2 hT))
  go_upto_region 3 with (go_at_call 44; (with_reducible refine (tNew_bad (nilProg _) sane_nil).mono ?_); rintro e w3 ⟨rfl, hb3⟩)
  have HT3 := Lib.hid (HT.out.keep hb3 HT.out.lt)
  have HB3 := Lib.hid (HB2.out.trans (hb3.mono HB2.out.size))
  clear hb3
  go_upto_region 6 with (go_at_call 45; (with_reducible refine (add_first HP.out HB3.out HT3.out (World.ownsRow_nil _ _ _ _)).mono ?_); rintro e w4 ⟨rfl, hb4, hk4, v4, X0, M0, ob0, hT4, ho4, hx4⟩; have HB4 := Lib.hid hb4; have HT4 := Lib.hid hT4; have HO4 := Lib.hid (show w4.ownsRow wp.heap.size 153 1 v4 1 [.pointer (some ⟨X0, 0, none⟩)] from ho4); have HX4 := Lib.hid hx4; clear hb4 hk4 hT4 ho4 hx4)
  go_upto_region 7 with (go_at_call 45; (with_reducible refine (add_second HP.out HB4.out HT4.out HO4.out).mono ?_); rintro e w5 ⟨rfl, hb5, hk5, v5, X1, M1, ob1, hT5, ho5, hx5⟩; have HB5 := Lib.hid hb5; have HT5 := Lib.hid hT5; have HO5 := Lib.hid (show w5.ownsRow wp.heap.size 153 1 v5 2 [.pointer (some ⟨X0, 0, none⟩), .pointer (some ⟨X1, 0, none⟩)] from ho5); have HX5 := Lib.hid hx5; have HK5 := Lib.hid hk5; clear hb5 hk5 hT5 ho5 hx5)
  obtain ⟨A, cap, cur, rfl, hA, hr0, hr1⟩ := own_block HO5.out
  have hx0 := HX4.out.keep HK5.out
  have hT0 : Two wp.heap.size w5 x1 x2 x3 A cap cur X0 X1 M0 M1 (ob0 0) (ob1 0) 0 (.slice none 0 0) (riseF 2) := ⟨HT5.out, hA, hr0, hr1, hx0.one, HX5.out.one, by
    obtain ⟨es, n, q1, q2⟩ := hx0.map
    refine ⟨es, n, q1, q2.congr fun i _ => ?_⟩
    unfold oneD
    by_cases e : i < 1
    · obtain rfl : i = 0 := by omega
      rfl
    · rw [if_neg e, if_neg e], by
    obtain ⟨es, n, q1, q2⟩ := HX5.out.map
    refine ⟨es, n, q1, q2.congr fun i _ => ?_⟩
    unfold oneD
    by_cases e : i < 1
    · obtain rfl : i = 0 := by omega
      rfl
    · rw [if_neg e, if_neg e], hx0.ord 0 (by omega), HX5.out.ord 0 (by omega), by have := HX4.out.one.lt; have := HX5.out.ge.1; omega, by have := (HX4.out.ord 0 (by omega)).lt; have := HX5.out.oge 0 (by omega); omega⟩
  have hsB : w.heap.size ≤ X0 ∧ w.heap.size ≤ ob0 0 ∧ w.heap.size ≤ X1 ∧ wp.heap.size ≤ w5.heap.size := by
    have a1 := HX4.out.ge.1
    have a2 := HX4.out.oge 0 (by omega)
    have a3 := HX5.out.ge.1
    have a4 := HBP.out.size
    have a5 := HB3.out.size
    have a6 := HB4.out.size
    have a7 := HB5.out.size
    omega
  have HS := Lib.hid hT0
  have HW := Lib.hid (HBP.out.trans (HB5.out.mono HBP.out.size))
  have HZ := Lib.hid hsB
  clear hT0 hx0 hsB hA hr0 hr1 HT HB1 HB2 HT3 HB3 HT4 HO4 HX4 HX5 HT5 HO5 HK5 HB4 HB5 HRP
  go_upto_region 8 with (go_at_call 46; (with_reducible refine (HS.out.pick0 3).mono ?_); rintro e w6 ⟨⟨c, is, hp, rfl⟩, hb6⟩; obtain ⟨rfl, rfl⟩ := pick_rise hp; replace HW := Lib.hid (HW.out.trans (hb6.mono HW.out.size)); replace HS := Lib.hid (HS.out.below hb6); clear hb6)
  go_upto_region 9 with (go_at_call 48; (with_reducible refine (HS.out.took0 (by decide)).mono ?_); rintro e w7 ⟨rfl, ho7, hb7⟩; replace HW := Lib.hid (HW.out.trans (hb7.below HZ.out.2.1 HW.out.size)); replace HS := Lib.hid (HS.out.took hb7 ho7); clear hb7 ho7)
  go_upto_region 10 with (go_at_call 46; (with_reducible refine (HS.out.pick0 3).mono ?_); rintro e w8 ⟨⟨c, is, hp, rfl⟩, hb6⟩; obtain ⟨rfl, rfl⟩ := pick_took hp; replace HW := Lib.hid (HW.out.trans (hb6.mono HW.out.size)); replace HS := Lib.hid (HS.out.below hb6); clear hb6)
  go_upto_region 11 with (go_at_call 46; (with_reducible refine (HS.out.pick1 3).mono ?_); rintro e w9 ⟨⟨c, is, hp, rfl⟩, hb6⟩; obtain ⟨rfl, rfl⟩ := pick_rise hp; replace HW := Lib.hid (HW.out.trans (hb6.mono HW.out.size)); replace HS := Lib.hid (HS.out.below hb6); clear hb6)
  go_upto_region 12 with (go_at_call 88; (with_reducible refine (HS.out.use0 (by omega)).mono ?_); rintro e w10 ⟨rfl, ho7, hb7⟩; replace HW := Lib.hid (HW.out.trans (hb7.below HZ.out.1 HW.out.size)); replace HS := Lib.hid (HS.out.used hb7 ho7); clear hb7 ho7)
  go_upto_region 13 with (go_at_call 88; (with_reducible refine (HS.out.use0 (by omega)).mono ?_); rintro e w11 ⟨rfl, ho7, hb7⟩; replace HW := Lib.hid (HW.out.trans (hb7.below HZ.out.1 HW.out.size)); replace HS := Lib.hid (HS.out.used hb7 ho7); clear hb7 ho7)
  go_wp2_with (first | (go_at_call 89; (with_reducible refine (hold1_new HS.out).mono ?_); rintro e w12 ⟨rfl, hb7, g7, c7, ho7, hg7⟩; replace HW := Lib.hid (HW.out.trans (hb7.below HZ.out.2.2.1 HW.out.size)); replace HS := Lib.hid (HS.out.held hb7 ho7); have HG7 := Lib.hid hg7; clear hb7 ho7 hg7) | (go_at_call 89; (with_reducible refine (hold1_have HS.out HG7.out).mono ?_); rintro e w13 ⟨rfl, hb6⟩; replace HW := Lib.hid (HW.out.trans (hb6.mono HW.out.size)); replace HS := Lib.hid (HS.out.below hb6); clear hb6) | (go_at_call 90; (with_reducible refine (HS.out.len).mono ?_); rintro e w14 ⟨rfl, rfl⟩))
  go_ret
  exact ⟨rfl, HW.out⟩
end Go.Proofs.Ytljfloopjgpaeaa
