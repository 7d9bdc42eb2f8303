/- prog.Same. -/
import Derived.Test.YtljfloopjgpaeaaNA
namespace Go.Proofs.Ytljfloopjgpaeaa
set_option linter.unusedVariables false
set_option linter.unusedSimpArgs false
open Go.RowKit
set_option maxRecDepth 100000

set_option maxHeartbeats 1000000 in
theorem EFIns_any {w : World} {v1 v2 : Value} {l1 l2 : List (List InsV)} (h1 : kIns.slice.R w v1 l1) (h2 : kIns.slice.R w v2 l2) :
    Calls Try.prog 108 #[v1, v2, .func (.func 75) #[] #[]] w fun e w' => e = .returned (.bool (decide (l1 = l2))) ∧ Below w.heap.size w w' := by
  obtain ⟨A1, c1, rfl, _, _, hl1⟩ := h1.val
  obtain ⟨A2, c2, rfl, _, _, hl2⟩ := h2.val
  have H1 := Lib.hid h1
  have H2 := Lib.hid h2
  clear h1 h2
  by_cases hn : l1.length = l2.length
  · have d1 : ((l1.length : Int) != (l2.length : Int)) = false := by simp [hn]
    have HN := Lib.hid hn
    clear hn
    go_enter Try.func108, Try.ntmps108
    go_wp2
    go_loopw [7, 8, 9, 17] (fun _ _ _ i wr => ∃ k : Nat, k ≤ l1.length ∧ i = .int .i64 k ∧ EqTo l1 l2 k ∧ Below w.heap.size w wr) (fun _ _ _ i _ => l1.length - (intOf i).toNat)
    case atStart => exact ⟨0, Nat.zero_le _, rfl, EqTo.zero _ _, Below.refl _ _⟩
    case round =>
      obtain ⟨k, hk, rfl, hpre, hbl⟩ := hrel
      have HP := Lib.hid hpre
      have HB := Lib.hid hbl
      clear hpre hbl
      by_cases hlt : k < l1.length
      · have hlt2 : k < l2.length := by have := HN.out; omega
        obtain ⟨b1, o1, A3, c3, rfl, hb1, g1, g2, _, _, hl3⟩ := kInss_at (H1.out.keep HB.out) hlt
        obtain ⟨b2, o2, A4, c4, rfl, hb2, q1, q2, _, _, hl4⟩ := kInss_at (H2.out.keep HB.out) hlt2
        have HG := Lib.hid g2
        have HQ := Lib.hid q2
        clear g2 q2
        by_cases hx : l1[k] = l2[k]
        · have HX := Lib.hid hx
          have hc := fun (W : World) (a : kIns.R W (.slice A3 l1[k].length c3) l1[k]) (b : kIns.R W (.slice A4 l2[k].length c4) l2[k]) => EqIns_any a b
          rw [decide_eq_true hx] at hc
          have HC := Lib.hid hc
          clear hx hc
          go_wp2_with (go_at_call 75; (with_reducible refine (HC.out _ (HG.out.keep (by (repeat (first | with_reducible exact Below.refl _ _ | (with_reducible refine Below.setCell ?_ (by first | (simp; done) | (simp; omega) | omega) _) | (with_reducible refine Below.alloc ?_ (by first | (simp; done) | (simp; omega) | omega) _) | (with_reducible refine Below.drew ?_))))) (HQ.out.keep (by (repeat (first | with_reducible exact Below.refl _ _ | (with_reducible refine Below.setCell ?_ (by first | (simp; done) | (simp; omega) | omega) _) | (with_reducible refine Below.alloc ?_ (by first | (simp; done) | (simp; omega) | omega) _) | (with_reducible refine Below.drew ?_)))))).mono ?_); rintro e w' ⟨rfl, hb⟩)
          go_roundw
          case rel => exact ⟨k + 1, hlt, by go_num, HP.out.succ hlt hlt2 HX.out, HB.out.trans (hb.mono HB.out.size)⟩
          case measure => simp [intOf]; omega
        · have HX := Lib.hid hx
          have hc := fun (W : World) (a : kIns.R W (.slice A3 l1[k].length c3) l1[k]) (b : kIns.R W (.slice A4 l2[k].length c4) l2[k]) => EqIns_any a b
          rw [decide_eq_false hx] at hc
          have HC := Lib.hid hc
          clear hx hc
          go_wp2_with (go_at_call 75; (with_reducible refine (HC.out _ (HG.out.keep (by (repeat (first | with_reducible exact Below.refl _ _ | (with_reducible refine Below.setCell ?_ (by first | (simp; done) | (simp; omega) | omega) _) | (with_reducible refine Below.alloc ?_ (by first | (simp; done) | (simp; omega) | omega) _) | (with_reducible refine Below.drew ?_))))) (HQ.out.keep (by (repeat (first | with_reducible exact Below.refl _ _ | (with_reducible refine Below.setCell ?_ (by first | (simp; done) | (simp; omega) | omega) _) | (with_reducible refine Below.alloc ?_ (by first | (simp; done) | (simp; omega) | omega) _) | (with_reducible refine Below.drew ?_)))))).mono ?_); rintro e w' ⟨rfl, hb⟩)
          go_ret
          exact ⟨ret_bool (decide_eq_false (ne_at hlt hlt2 HX.out)).symm, HB.out.trans (hb.mono HB.out.size)⟩
      · obtain rfl : k = l1.length := by omega
        go_wp2
        go_ret
        exact ⟨ret_bool (decide_eq_true (HP.out.all HN.out)).symm, HB.out⟩
  · have d1 : ((l1.length : Int) != (l2.length : Int)) = true := by simp; omega
    have HN := Lib.hid hn
    clear hn
    go_enter Try.func108, Try.ntmps108
    go_wp2
    go_ret
    exact ⟨ret_bool (decide_eq_false (ne_len HN.out)).symm, Below.refl _ _⟩
theorem sameIns_any {w : World} {v1 v2 : Value} {l1 l2 : List (List InsV)} (h1 : kIns.slice.R w v1 l1) (h2 : kIns.slice.R w v2 l2) :
    Calls Try.prog 74 #[v1, v2, .func (.func 75) #[] #[]] w fun e w' => e = .returned (.bool (decide (l1 = l2))) ∧ Below w.heap.size w w' := by
  have HC := Lib.hid (EFIns_any h1 h2)
  clear h1 h2
  go_enter Try.func74, Try.ntmps74
  go_wp2_with (go_at_call 108; (with_reducible refine HC.out.mono ?_); rintro e w' ⟨rfl, hb⟩)
  go_ret
  exact ⟨rfl, hb⟩

/-- Two sites. -/
theorem Same1_any {w : World} {v1 v2 : Value} {s1 s2 : SiteV} (h1 : kCase.R w v1 s1.cases) (h2 : kCase.R w v2 s2.cases) :
    Calls Try.prog 71 #[.agg #[v1, .bool s1.dflt], .agg #[v2, .bool s2.dflt]] w fun e w' => e = .returned (.bool (decide (s1 = s2))) ∧ Below w.heap.size w w' := by
  have hd : decide (s1 = s2) = (decide (s1.dflt = s2.dflt) && decide (s1.cases = s2.cases)) := by
    obtain ⟨a, b⟩ := s1; obtain ⟨c, d⟩ := s2
    simp [SiteV.mk.injEq, Bool.and_comm]
  obtain ⟨A1, c1, rfl, _, _, hl1⟩ := h1.val
  obtain ⟨A2, c2, rfl, _, _, hl2⟩ := h2.val
  have hc := fun (W : World) (a : kCase.R W (.slice A1 s1.cases.length c1) s1.cases) (b : kCase.R W (.slice A2 s2.cases.length c2) s2.cases) => EqCase_any a b
  have H1 := Lib.hid h1
  have H2 := Lib.hid h2
  have HD := Lib.hid hd
  have HC := Lib.hid hc
  clear h1 h2 hd hc
  by_cases h : s1.dflt = s2.dflt
  · have h0 : (s1.dflt == s2.dflt) = true := by simpa using h
    have HH := Lib.hid h
    clear h
    go_enter Try.func71, Try.ntmps71
    go_wp2_with (go_at_call 72; (with_reducible refine (HC.out _ (H1.out.keep (by (repeat (first | with_reducible exact Below.refl _ _ | (with_reducible refine Below.setCell ?_ (by first | (simp; done) | (simp; omega) | omega) _) | (with_reducible refine Below.alloc ?_ (by first | (simp; done) | (simp; omega) | omega) _) | (with_reducible refine Below.drew ?_))))) (H2.out.keep (by (repeat (first | with_reducible exact Below.refl _ _ | (with_reducible refine Below.setCell ?_ (by first | (simp; done) | (simp; omega) | omega) _) | (with_reducible refine Below.alloc ?_ (by first | (simp; done) | (simp; omega) | omega) _) | (with_reducible refine Below.drew ?_)))))).mono ?_); rintro e w' ⟨rfl, hb⟩)
    go_ret
    exact ⟨ret_bool (by rw [HD.out, decide_eq_true HH.out, Bool.true_and]), by (have hszq := hb.size; (try simp only [World.size_alloc] at hszq); (repeat (first | (with_reducible refine Below.setCell ?_ (by first | (simp; done) | (simp; omega) | omega) _) | (with_reducible refine Below.alloc ?_ (by first | (simp; done) | (simp; omega) | omega) _) | (with_reducible refine Below.drew ?_))); refine Below.trans ?_ (hb.mono (by first | (simp; done) | (simp; omega) | omega)); (repeat (first | with_reducible exact Below.refl _ _ | (with_reducible refine Below.setCell ?_ (by first | (simp; done) | (simp; omega) | omega) _) | (with_reducible refine Below.alloc ?_ (by first | (simp; done) | (simp; omega) | omega) _) | (with_reducible refine Below.drew ?_))))⟩
  · have h0 : (s1.dflt == s2.dflt) = false := by simpa using h
    have HH := Lib.hid h
    clear h
    go_enter Try.func71, Try.ntmps71
    go_wp2
    go_ret
    exact ⟨ret_bool (by rw [HD.out, decide_eq_false HH.out, Bool.false_and]), by (repeat (first | with_reducible exact Below.refl _ _ | (with_reducible refine Below.setCell ?_ (by first | (simp; done) | (simp; omega) | omega) _) | (with_reducible refine Below.alloc ?_ (by first | (simp; done) | (simp; omega) | omega) _) | (with_reducible refine Below.drew ?_)))⟩

set_option maxHeartbeats 1000000 in
theorem EFSite_any {w : World} {v1 v2 : Value} {l1 l2 : List SiteV} (h1 : kSite.R w v1 l1) (h2 : kSite.R w v2 l2) :
    Calls Try.prog 109 #[v1, v2, .func (.func 71) #[] #[]] w fun e w' => e = .returned (.bool (decide (l1 = l2))) ∧ Below w.heap.size w w' := by
  obtain ⟨A1, c1, rfl, _, _, hl1⟩ := h1.val
  obtain ⟨A2, c2, rfl, _, _, hl2⟩ := h2.val
  have H1 := Lib.hid h1
  have H2 := Lib.hid h2
  clear h1 h2
  by_cases hn : l1.length = l2.length
  · have d1 : ((l1.length : Int) != (l2.length : Int)) = false := by simp [hn]
    have HN := Lib.hid hn
    clear hn
    go_enter Try.func109, Try.ntmps109
    go_wp2
    go_loopw [7, 8, 9, 17] (fun _ _ _ i wr => ∃ k : Nat, k ≤ l1.length ∧ i = .int .i64 k ∧ EqTo l1 l2 k ∧ Below w.heap.size w wr) (fun _ _ _ i _ => l1.length - (intOf i).toNat)
    case atStart => exact ⟨0, Nat.zero_le _, rfl, EqTo.zero _ _, Below.refl _ _⟩
    case round =>
      obtain ⟨k, hk, rfl, hpre, hbl⟩ := hrel
      have HP := Lib.hid hpre
      have HB := Lib.hid hbl
      clear hpre hbl
      by_cases hlt : k < l1.length
      · have hlt2 : k < l2.length := by have := HN.out; omega
        obtain ⟨b1, o1, A3, c3, rfl, hb1, g0, g1, g2, _, _, hl3⟩ := kSite_at (H1.out.keep HB.out) hlt
        obtain ⟨b2, o2, A4, c4, rfl, hb2, q0, q1, q2, _, _, hl4⟩ := kSite_at (H2.out.keep HB.out) hlt2
        have HG := Lib.hid g2
        have HQ := Lib.hid q2
        clear g2 q2
        by_cases hx : l1[k] = l2[k]
        · have HX := Lib.hid hx
          have hc := fun (W : World) (a : kCase.R W (.slice A3 l1[k].cases.length c3) l1[k].cases) (b : kCase.R W (.slice A4 l2[k].cases.length c4) l2[k].cases) => Same1_any (s1 := l1[k]) (s2 := l2[k]) a b
          rw [decide_eq_true hx] at hc
          have HC := Lib.hid hc
          clear hx hc
          go_wp2_with (go_at_call 71; (with_reducible refine (HC.out _ (HG.out.keep (by (repeat (first | with_reducible exact Below.refl _ _ | (with_reducible refine Below.setCell ?_ (by first | (simp; done) | (simp; omega) | omega) _) | (with_reducible refine Below.alloc ?_ (by first | (simp; done) | (simp; omega) | omega) _) | (with_reducible refine Below.drew ?_))))) (HQ.out.keep (by (repeat (first | with_reducible exact Below.refl _ _ | (with_reducible refine Below.setCell ?_ (by first | (simp; done) | (simp; omega) | omega) _) | (with_reducible refine Below.alloc ?_ (by first | (simp; done) | (simp; omega) | omega) _) | (with_reducible refine Below.drew ?_)))))).mono ?_); rintro e w' ⟨rfl, hb⟩)
          go_roundw
          case rel => exact ⟨k + 1, hlt, by go_num, HP.out.succ hlt hlt2 HX.out, HB.out.trans (Below.mono (by (have hszq := hb.size; (try simp only [World.size_alloc] at hszq); (repeat (first | (with_reducible refine Below.setCell ?_ (by first | (simp; done) | (simp; omega) | omega) _) | (with_reducible refine Below.alloc ?_ (by first | (simp; done) | (simp; omega) | omega) _) | (with_reducible refine Below.drew ?_))); refine Below.trans ?_ (hb.mono (by first | (simp; done) | (simp; omega) | omega)); (repeat (first | with_reducible exact Below.refl _ _ | (with_reducible refine Below.setCell ?_ (by first | (simp; done) | (simp; omega) | omega) _) | (with_reducible refine Below.alloc ?_ (by first | (simp; done) | (simp; omega) | omega) _) | (with_reducible refine Below.drew ?_))))) HB.out.size)⟩
          case measure => simp [intOf]; omega
        · have HX := Lib.hid hx
          have hc := fun (W : World) (a : kCase.R W (.slice A3 l1[k].cases.length c3) l1[k].cases) (b : kCase.R W (.slice A4 l2[k].cases.length c4) l2[k].cases) => Same1_any (s1 := l1[k]) (s2 := l2[k]) a b
          rw [decide_eq_false hx] at hc
          have HC := Lib.hid hc
          clear hx hc
          go_wp2_with (go_at_call 71; (with_reducible refine (HC.out _ (HG.out.keep (by (repeat (first | with_reducible exact Below.refl _ _ | (with_reducible refine Below.setCell ?_ (by first | (simp; done) | (simp; omega) | omega) _) | (with_reducible refine Below.alloc ?_ (by first | (simp; done) | (simp; omega) | omega) _) | (with_reducible refine Below.drew ?_))))) (HQ.out.keep (by (repeat (first | with_reducible exact Below.refl _ _ | (with_reducible refine Below.setCell ?_ (by first | (simp; done) | (simp; omega) | omega) _) | (with_reducible refine Below.alloc ?_ (by first | (simp; done) | (simp; omega) | omega) _) | (with_reducible refine Below.drew ?_)))))).mono ?_); rintro e w' ⟨rfl, hb⟩)
          go_ret
          exact ⟨ret_bool (decide_eq_false (ne_at hlt hlt2 HX.out)).symm, HB.out.trans (Below.mono (by (have hszq := hb.size; (try simp only [World.size_alloc] at hszq); (repeat (first | (with_reducible refine Below.setCell ?_ (by first | (simp; done) | (simp; omega) | omega) _) | (with_reducible refine Below.alloc ?_ (by first | (simp; done) | (simp; omega) | omega) _) | (with_reducible refine Below.drew ?_))); refine Below.trans ?_ (hb.mono (by first | (simp; done) | (simp; omega) | omega)); (repeat (first | with_reducible exact Below.refl _ _ | (with_reducible refine Below.setCell ?_ (by first | (simp; done) | (simp; omega) | omega) _) | (with_reducible refine Below.alloc ?_ (by first | (simp; done) | (simp; omega) | omega) _) | (with_reducible refine Below.drew ?_))))) HB.out.size)⟩
      · obtain rfl : k = l1.length := by omega
        go_wp2
        go_ret
        exact ⟨ret_bool (decide_eq_true (HP.out.all HN.out)).symm, HB.out⟩
  · have d1 : ((l1.length : Int) != (l2.length : Int)) = true := by simp; omega
    have HN := Lib.hid hn
    clear hn
    go_enter Try.func109, Try.ntmps109
    go_wp2
    go_ret
    exact ⟨ret_bool (decide_eq_false (ne_len HN.out)).symm, Below.refl _ _⟩
theorem sameSite_any {w : World} {v1 v2 : Value} {l1 l2 : List SiteV} (h1 : kSite.R w v1 l1) (h2 : kSite.R w v2 l2) :
    Calls Try.prog 76 #[v1, v2, .func (.func 71) #[] #[]] w fun e w' => e = .returned (.bool (decide (l1 = l2))) ∧ Below w.heap.size w w' := by
  have HC := Lib.hid (EFSite_any h1 h2)
  clear h1 h2
  go_enter Try.func76, Try.ntmps76
  go_wp2_with (go_at_call 109; (with_reducible refine HC.out.mono ?_); rintro e w' ⟨rfl, hb⟩)
  go_ret
  exact ⟨rfl, hb⟩
theorem ProgV.eq_iff (P Q : ProgV) : decide (P = Q) = (decide (P.caps = Q.caps) && decide (P.codes = Q.codes) && decide (P.sites = Q.sites)) := by
  obtain ⟨a, b, c⟩ := P; obtain ⟨d, e, f⟩ := Q
  simp [ProgV.mk.injEq, Bool.decide_and, Bool.and_assoc]
set_option maxHeartbeats 1000000 in
theorem same_any {w : World} {a1 a2 a3 b1 b2 b3 : Value} {P Q : ProgV} (h1 : RProg w a1 a2 a3 P) (h2 : RProg w b1 b2 b3 Q) :
    Calls Try.prog 27 #[.agg #[a1, a2, a3], .agg #[b1, b2, b3]] w fun e w' => e = .returned (.bool (decide (P = Q))) ∧ Below w.heap.size w w' := by
  have hd := ProgV.eq_iff P Q
  have hA := fun (W : World) (a : RProg W a1 a2 a3 P) (b : RProg W b1 b2 b3 Q) => EqInt_any a.caps b.caps
  have hB := fun (W : World) (a : RProg W a1 a2 a3 P) (b : RProg W b1 b2 b3 Q) => sameIns_any a.codes b.codes
  have hC := fun (W : World) (a : RProg W a1 a2 a3 P) (b : RProg W b1 b2 b3 Q) => sameSite_any a.sites b.sites
  have H1 := Lib.hid h1
  have H2 := Lib.hid h2
  generalize decide (P.caps = Q.caps) = x at *
  generalize decide (P.codes = Q.codes) = y at *
  generalize decide (P.sites = Q.sites) = z at *
  have HD := Lib.hid hd
  have HA := Lib.hid hA
  have HB := Lib.hid hB
  have HC := Lib.hid hC
  clear h1 h2 hd hA hB hC
  cases x
  · go_enter Try.func27, Try.ntmps27
    go_wp2_with (go_at_call 73; (with_reducible refine (HA.out _ (H1.out.keep (by (repeat (first | with_reducible exact Below.refl _ _ | (with_reducible refine Below.setCell ?_ (by first | (simp; done) | (simp; omega) | omega) _) | (with_reducible refine Below.alloc ?_ (by first | (simp; done) | (simp; omega) | omega) _) | (with_reducible refine Below.drew ?_))))) (H2.out.keep (by (repeat (first | with_reducible exact Below.refl _ _ | (with_reducible refine Below.setCell ?_ (by first | (simp; done) | (simp; omega) | omega) _) | (with_reducible refine Below.alloc ?_ (by first | (simp; done) | (simp; omega) | omega) _) | (with_reducible refine Below.drew ?_)))))).mono ?_); rintro e w' ⟨rfl, hb⟩)
    go_ret
    exact ⟨ret_bool (by rw [HD.out]; rfl), by (have hszq := hb.size; (try simp only [World.size_alloc] at hszq); (repeat (first | (with_reducible refine Below.setCell ?_ (by first | (simp; done) | (simp; omega) | omega) _) | (with_reducible refine Below.alloc ?_ (by first | (simp; done) | (simp; omega) | omega) _) | (with_reducible refine Below.drew ?_))); refine Below.trans ?_ (hb.mono (by first | (simp; done) | (simp; omega) | omega)); (repeat (first | with_reducible exact Below.refl _ _ | (with_reducible refine Below.setCell ?_ (by first | (simp; done) | (simp; omega) | omega) _) | (with_reducible refine Below.alloc ?_ (by first | (simp; done) | (simp; omega) | omega) _) | (with_reducible refine Below.drew ?_))))⟩
  · cases y
    · go_enter Try.func27, Try.ntmps27
      go_wp2_with (first | (go_at_call 73; (with_reducible refine (HA.out _ (H1.out.keep (by (repeat (first | with_reducible exact Below.refl _ _ | (with_reducible refine Below.setCell ?_ (by first | (simp; done) | (simp; omega) | omega) _) | (with_reducible refine Below.alloc ?_ (by first | (simp; done) | (simp; omega) | omega) _) | (with_reducible refine Below.drew ?_))))) (H2.out.keep (by (repeat (first | with_reducible exact Below.refl _ _ | (with_reducible refine Below.setCell ?_ (by first | (simp; done) | (simp; omega) | omega) _) | (with_reducible refine Below.alloc ?_ (by first | (simp; done) | (simp; omega) | omega) _) | (with_reducible refine Below.drew ?_)))))).mono ?_); rintro e w' ⟨rfl, hb⟩; obtain ⟨hcc, _⟩ := bcell hb) | (go_at_call 74; (with_reducible refine (HB.out _ (H1.out.keep (by (have hszq := hb.size; (try simp only [World.size_alloc] at hszq); (repeat (first | (with_reducible refine Below.setCell ?_ (by first | (simp; done) | (simp; omega) | omega) _) | (with_reducible refine Below.alloc ?_ (by first | (simp; done) | (simp; omega) | omega) _) | (with_reducible refine Below.drew ?_))); refine Below.trans ?_ (hb.mono (by first | (simp; done) | (simp; omega) | omega)); (repeat (first | with_reducible exact Below.refl _ _ | (with_reducible refine Below.setCell ?_ (by first | (simp; done) | (simp; omega) | omega) _) | (with_reducible refine Below.alloc ?_ (by first | (simp; done) | (simp; omega) | omega) _) | (with_reducible refine Below.drew ?_)))))) (H2.out.keep (by (have hszq := hb.size; (try simp only [World.size_alloc] at hszq); (repeat (first | (with_reducible refine Below.setCell ?_ (by first | (simp; done) | (simp; omega) | omega) _) | (with_reducible refine Below.alloc ?_ (by first | (simp; done) | (simp; omega) | omega) _) | (with_reducible refine Below.drew ?_))); refine Below.trans ?_ (hb.mono (by first | (simp; done) | (simp; omega) | omega)); (repeat (first | with_reducible exact Below.refl _ _ | (with_reducible refine Below.setCell ?_ (by first | (simp; done) | (simp; omega) | omega) _) | (with_reducible refine Below.alloc ?_ (by first | (simp; done) | (simp; omega) | omega) _) | (with_reducible refine Below.drew ?_))))))).mono ?_); rintro e w2 ⟨rfl, hb2⟩))
      go_ret
      exact ⟨ret_bool (by rw [HD.out]; rfl), Below.trans (by (have hszq := hb.size; (try simp only [World.size_alloc] at hszq); (repeat (first | (with_reducible refine Below.setCell ?_ (by first | (simp; done) | (simp; omega) | omega) _) | (with_reducible refine Below.alloc ?_ (by first | (simp; done) | (simp; omega) | omega) _) | (with_reducible refine Below.drew ?_))); refine Below.trans ?_ (hb.mono (by first | (simp; done) | (simp; omega) | omega)); (repeat (first | with_reducible exact Below.refl _ _ | (with_reducible refine Below.setCell ?_ (by first | (simp; done) | (simp; omega) | omega) _) | (with_reducible refine Below.alloc ?_ (by first | (simp; done) | (simp; omega) | omega) _) | (with_reducible refine Below.drew ?_))))) (hb2.mono (by have := hb.size; simp at this; omega))⟩
    · go_enter Try.func27, Try.ntmps27
      go_wp2_with (first | (go_at_call 73; (with_reducible refine (HA.out _ (H1.out.keep (by (repeat (first | with_reducible exact Below.refl _ _ | (with_reducible refine Below.setCell ?_ (by first | (simp; done) | (simp; omega) | omega) _) | (with_reducible refine Below.alloc ?_ (by first | (simp; done) | (simp; omega) | omega) _) | (with_reducible refine Below.drew ?_))))) (H2.out.keep (by (repeat (first | with_reducible exact Below.refl _ _ | (with_reducible refine Below.setCell ?_ (by first | (simp; done) | (simp; omega) | omega) _) | (with_reducible refine Below.alloc ?_ (by first | (simp; done) | (simp; omega) | omega) _) | (with_reducible refine Below.drew ?_)))))).mono ?_); rintro e w' ⟨rfl, hb⟩; obtain ⟨hcc, _⟩ := bcell hb; have hzz := hb.size; simp only [World.size_alloc] at hzz) | (go_at_call 74; (with_reducible refine (HB.out _ (H1.out.keep (by (have hszq := hb.size; (try simp only [World.size_alloc] at hszq); (repeat (first | (with_reducible refine Below.setCell ?_ (by first | (simp; done) | (simp; omega) | omega) _) | (with_reducible refine Below.alloc ?_ (by first | (simp; done) | (simp; omega) | omega) _) | (with_reducible refine Below.drew ?_))); refine Below.trans ?_ (hb.mono (by first | (simp; done) | (simp; omega) | omega)); (repeat (first | with_reducible exact Below.refl _ _ | (with_reducible refine Below.setCell ?_ (by first | (simp; done) | (simp; omega) | omega) _) | (with_reducible refine Below.alloc ?_ (by first | (simp; done) | (simp; omega) | omega) _) | (with_reducible refine Below.drew ?_)))))) (H2.out.keep (by (have hszq := hb.size; (try simp only [World.size_alloc] at hszq); (repeat (first | (with_reducible refine Below.setCell ?_ (by first | (simp; done) | (simp; omega) | omega) _) | (with_reducible refine Below.alloc ?_ (by first | (simp; done) | (simp; omega) | omega) _) | (with_reducible refine Below.drew ?_))); refine Below.trans ?_ (hb.mono (by first | (simp; done) | (simp; omega) | omega)); (repeat (first | with_reducible exact Below.refl _ _ | (with_reducible refine Below.setCell ?_ (by first | (simp; done) | (simp; omega) | omega) _) | (with_reducible refine Below.alloc ?_ (by first | (simp; done) | (simp; omega) | omega) _) | (with_reducible refine Below.drew ?_))))))).mono ?_); rintro e w2 ⟨rfl, hb2⟩; have e2 : w2.cell? ⟨w.heap.size, 2, none⟩ = some a3 := Below.at hb2 (Below.at hb (by simp) (by simp; omega)) (by omega); have e3 : w2.cell? ⟨w.heap.size + 1, 2, none⟩ = some b3 := Below.at hb2 (Below.at hb (by simp) (by first | (simp; done) | (simp; omega))) (by omega); clear hcc) | (go_at_call 76; (with_reducible refine (HC.out _ (H1.out.keep (Below.trans (by (have hszq := hb.size; (try simp only [World.size_alloc] at hszq); (repeat (first | (with_reducible refine Below.setCell ?_ (by first | (simp; done) | (simp; omega) | omega) _) | (with_reducible refine Below.alloc ?_ (by first | (simp; done) | (simp; omega) | omega) _) | (with_reducible refine Below.drew ?_))); refine Below.trans ?_ (hb.mono (by first | (simp; done) | (simp; omega) | omega)); (repeat (first | with_reducible exact Below.refl _ _ | (with_reducible refine Below.setCell ?_ (by first | (simp; done) | (simp; omega) | omega) _) | (with_reducible refine Below.alloc ?_ (by first | (simp; done) | (simp; omega) | omega) _) | (with_reducible refine Below.drew ?_))))) (hb2.mono (by omega)))) (H2.out.keep (Below.trans (by (have hszq := hb.size; (try simp only [World.size_alloc] at hszq); (repeat (first | (with_reducible refine Below.setCell ?_ (by first | (simp; done) | (simp; omega) | omega) _) | (with_reducible refine Below.alloc ?_ (by first | (simp; done) | (simp; omega) | omega) _) | (with_reducible refine Below.drew ?_))); refine Below.trans ?_ (hb.mono (by first | (simp; done) | (simp; omega) | omega)); (repeat (first | with_reducible exact Below.refl _ _ | (with_reducible refine Below.setCell ?_ (by first | (simp; done) | (simp; omega) | omega) _) | (with_reducible refine Below.alloc ?_ (by first | (simp; done) | (simp; omega) | omega) _) | (with_reducible refine Below.drew ?_))))) (hb2.mono (by omega))))).mono ?_); rintro e w3 ⟨rfl, hb3⟩))
      go_ret
      exact ⟨ret_bool (by rw [HD.out]; rfl), Below.trans (Below.trans (by (have hszq := hb.size; (try simp only [World.size_alloc] at hszq); (repeat (first | (with_reducible refine Below.setCell ?_ (by first | (simp; done) | (simp; omega) | omega) _) | (with_reducible refine Below.alloc ?_ (by first | (simp; done) | (simp; omega) | omega) _) | (with_reducible refine Below.drew ?_))); refine Below.trans ?_ (hb.mono (by first | (simp; done) | (simp; omega) | omega)); (repeat (first | with_reducible exact Below.refl _ _ | (with_reducible refine Below.setCell ?_ (by first | (simp; done) | (simp; omega) | omega) _) | (with_reducible refine Below.alloc ?_ (by first | (simp; done) | (simp; omega) | omega) _) | (with_reducible refine Below.drew ?_))))) (hb2.mono (by omega))) (hb3.mono (by have := hb2.size; omega))⟩
end Go.Proofs.Ytljfloopjgpaeaa
