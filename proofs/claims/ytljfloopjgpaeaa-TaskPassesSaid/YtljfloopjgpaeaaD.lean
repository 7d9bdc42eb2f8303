/- prog.Check: walks of its looks, more. -/
import Derived.Test.YtljfloopjgpaeaaC
namespace Go.Proofs.Ytljfloopjgpaeaa
set_option linter.unusedVariables false
set_option linter.unusedSimpArgs false
open Go.RowKit
set_option maxRecDepth 100000

theorem site_any (c1 c2 c3 : Value) (P : ProgV) (w : World) (h : RProg w c1 c2 c3 P) (v : Value) (s : SiteV) (hs : kCase.R w v s.cases) :
    Calls Try.prog 100 #[.agg #[c1, c2, c3], .agg #[v, .bool s.dflt]] w fun e w' => e = .returned (.bool (siteP P s)) ∧ Below w.heap.size w w' := by
  obtain ⟨A, c, rfl, _, _, hl⟩ := hs.val
  have hR := Lib.hid hs
  clear hs
  have HP := Lib.hid h
  clear h
  by_cases h0 : s.cases.length = 0
  · have hd : ((s.cases.length : Int) == 0) = true := by simp [h0]
    have hz : siteP P s = false := by simp [siteP, siteB, h0]
    have HZ := Lib.hid hz
    clear hz h0
    go_enter Try.func100, Try.ntmps100
    go_wp2
    go_ret
    exact ⟨ret_bool HZ.out.symm, by (repeat (first | with_reducible exact Below.refl _ _ | (with_reducible refine Below.setCell ?_ (by first | (simp; done) | (simp; omega) | omega) _) | (with_reducible refine Below.alloc ?_ (by first | (simp; done) | (simp; omega) | omega) _) | (with_reducible refine Below.drew ?_)))⟩
  · have hd : ((s.cases.length : Int) == 0) = false := by simpa using h0
    by_cases h6 : s.cases.length ≤ 6
    · have hd2 : decide ((s.cases.length : Int) > 6) = false := by simp; omega
      go_enter Try.func100, Try.ntmps100
      go_wp2
      go_loopw [20] (fun i wr => ∃ k : Nat, k ≤ s.cases.length ∧ i = .int .i64 k ∧ Pre (fitsB · P.caps.length) s.cases k ∧ Below (w.heap.size + 2) ((w.alloc (.cells #[c1, c2, c3] 111)).alloc (.cells #[.slice A s.cases.length c, .bool s.dflt] 66)) wr) (fun i _ => s.cases.length - (intOf i).toNat)
      case atStart => exact ⟨0, Nat.zero_le _, rfl, Pre.zero _ _, by (repeat (first | with_reducible exact Below.refl _ _ | (with_reducible refine Below.setCell ?_ (by first | (simp; done) | (simp; omega) | omega) _) | (with_reducible refine Below.alloc ?_ (by first | (simp; done) | (simp; omega) | omega) _) | (with_reducible refine Below.drew ?_)))⟩
      case round =>
        obtain ⟨k, hk, rfl, hpre, hbl⟩ := hrel
        have HQ := Lib.hid hpre
        clear hpre
        have hB : Below w.heap.size w wr := Below.trans (by (repeat (first | with_reducible exact Below.refl _ _ | (with_reducible refine Below.setCell ?_ (by first | (simp; done) | (simp; omega) | omega) _) | (with_reducible refine Below.alloc ?_ (by first | (simp; done) | (simp; omega) | omega) _) | (with_reducible refine Below.drew ?_)))) (hbl.mono (by omega))
        have k0 : wr.cell? ⟨w.heap.size, 0, none⟩ = some c1 := Below.at hbl (by simp) (by omega)
        have k1 : wr.cell? ⟨w.heap.size, 1, none⟩ = some c2 := Below.at hbl (by simp) (by omega)
        have k2 : wr.cell? ⟨w.heap.size, 2, none⟩ = some c3 := Below.at hbl (by simp) (by omega)
        have hsz := hbl.size
        simp only [World.size_alloc] at hsz
        have hlt0 : w.heap.size < wr.heap.size := by omega
        have HB := Lib.hid hB
        have HBL := Lib.hid hbl
        have HPr := Lib.hid (HP.out.keep hB)
        clear hB hbl
        by_cases hlt : k < s.cases.length
        · obtain ⟨b, o, rfl, hb, g0, g1, g2, g3, hwf⟩ := kCase_at (hR.out.keep HB.out) hlt
          clear hwf
          obtain ⟨x, hx⟩ : ∃ x, x = s.cases[k] := ⟨_, rfl⟩
          rw [← hx] at g0 g1 g2 g3
          obtain ⟨send, ch, val, ok⟩ := x
          have HX := Lib.hid hx
          clear hx
          by_cases hok : fitsB ⟨send, ch, val, ok⟩ P.caps.length = true
          · go_wp2_with ((with_reducible refine (one_any (HPr.out.keep (by (repeat (first | with_reducible exact Below.refl _ _ | (with_reducible refine Below.setCell ?_ (by first | (simp; done) | (simp; omega) | omega) _) | (with_reducible refine Below.alloc ?_ (by first | (simp; done) | (simp; omega) | omega) _) | (with_reducible refine Below.drew ?_))))) _ _ _ _).mono ?_); rintro e w' ⟨rfl, hb'⟩)
            go_roundw
            case rel => exact ⟨k + 1, hlt, by go_num, HQ.out.succ hlt (by rw [← HX.out]; exact hok), HBL.out.trans (Below.trans (by (repeat (first | with_reducible exact Below.refl _ _ | (with_reducible refine Below.setCell ?_ (by first | (simp; done) | (simp; omega) | omega) _) | (with_reducible refine Below.alloc ?_ (by first | (simp; done) | (simp; omega) | omega) _) | (with_reducible refine Below.drew ?_)))) (hb'.mono (by simp; omega)))⟩
            case measure => simp [intOf]; omega
          · have hok' := Bool.eq_false_iff.2 hok
            clear hok
            go_wp2_with ((with_reducible refine (one_any (HPr.out.keep (by (repeat (first | with_reducible exact Below.refl _ _ | (with_reducible refine Below.setCell ?_ (by first | (simp; done) | (simp; omega) | omega) _) | (with_reducible refine Below.alloc ?_ (by first | (simp; done) | (simp; omega) | omega) _) | (with_reducible refine Below.drew ?_))))) _ _ _ _).mono ?_); rintro e w' ⟨rfl, hb'⟩)
            go_ret
            exact ⟨ret_bool (by simp only [siteP, siteB]; rw [Pre.not_all (p := (fitsB · P.caps.length)) hlt (by rw [← HX.out]; exact hok')]; simp), HB.out.trans (Below.trans (by (repeat (first | with_reducible exact Below.refl _ _ | (with_reducible refine Below.setCell ?_ (by first | (simp; done) | (simp; omega) | omega) _) | (with_reducible refine Below.alloc ?_ (by first | (simp; done) | (simp; omega) | omega) _) | (with_reducible refine Below.drew ?_)))) (hb'.mono (by simp; omega)))⟩
        · obtain rfl : k = s.cases.length := by omega
          go_wp2
          go_ret
          exact ⟨ret_bool (by simp only [siteP, siteB]; rw [HQ.out.all]; simp; omega), HB.out⟩
    · have hd2 : decide ((s.cases.length : Int) > 6) = true := by simp; omega
      go_enter Try.func100, Try.ntmps100
      go_wp2
      go_ret
      exact ⟨ret_bool (by simp [siteP, siteB, h6]), by (repeat (first | with_reducible exact Below.refl _ _ | (with_reducible refine Below.setCell ?_ (by first | (simp; done) | (simp; omega) | omega) _) | (with_reducible refine Below.alloc ?_ (by first | (simp; done) | (simp; omega) | omega) _) | (with_reducible refine Below.drew ?_)))⟩

theorem sites_any (c1 c2 c3 : Value) (P : ProgV) (w : World) (h : RProg w c1 c2 c3 P) :
    Calls Try.prog 58 #[.agg #[c1, c2, c3]] w fun e w' => e = endW (sitesW P) ∧ Below w.heap.size w w' := by
  obtain ⟨A, c, rfl, _, _, hl⟩ := h.sites.val
  have HP := Lib.hid h
  clear h
  by_cases h6 : P.sites.length ≤ 12
  · have hd : decide ((P.sites.length : Int) ≤ 12) = true := by simp; omega
    go_enter Try.func58, Try.ntmps58
    go_wp2_with ((with_reducible refine (need_ok _ _ _ _).mono ?_); rintro e w' ⟨rfl, rfl⟩)
    go_loopw [14] (fun i wr => ∃ k : Nat, k ≤ P.sites.length ∧ i = .int .i64 k ∧ Pre (siteP P) P.sites k ∧ Below (w.heap.size + 1) (w.alloc (.cells #[c1, c2, .slice A P.sites.length c] 111)) wr) (fun i _ => P.sites.length - (intOf i).toNat)
    case atStart => exact ⟨0, Nat.zero_le _, rfl, Pre.zero _ _, by (repeat (first | with_reducible exact Below.refl _ _ | (with_reducible refine Below.setCell ?_ (by first | (simp; done) | (simp; omega) | omega) _) | (with_reducible refine Below.alloc ?_ (by first | (simp; done) | (simp; omega) | omega) _) | (with_reducible refine Below.drew ?_)))⟩
    case round =>
      obtain ⟨k, hk, rfl, hpre, hbl⟩ := hrel
      have HQ := Lib.hid hpre
      clear hpre
      have hB : Below w.heap.size w wr := Below.trans (by (repeat (first | with_reducible exact Below.refl _ _ | (with_reducible refine Below.setCell ?_ (by first | (simp; done) | (simp; omega) | omega) _) | (with_reducible refine Below.alloc ?_ (by first | (simp; done) | (simp; omega) | omega) _) | (with_reducible refine Below.drew ?_)))) (hbl.mono (by omega))
      have k0 : wr.cell? ⟨w.heap.size, 0, none⟩ = some c1 := Below.at hbl (by simp) (by omega)
      have k1 : wr.cell? ⟨w.heap.size, 1, none⟩ = some c2 := Below.at hbl (by simp) (by omega)
      have k2 : wr.cell? ⟨w.heap.size, 2, none⟩ = some (.slice A P.sites.length c) := Below.at hbl (by simp) (by omega)
      have hsz := hbl.size
      simp only [World.size_alloc] at hsz
      have hlt0 : w.heap.size < wr.heap.size := by omega
      have HB := Lib.hid hB
      have HBL := Lib.hid hbl
      have HPr := Lib.hid (HP.out.keep hB)
      clear hB hbl
      by_cases hlt : k < P.sites.length
      · obtain ⟨b, o, A2, c2', rfl, hb, g0, g1, hcs, _, _, hl2⟩ := kSite_at HPr.out.sites hlt
        have HC := Lib.hid hcs
        clear hcs
        by_cases hok : siteP P P.sites[k] = true
        · go_wp2_with (first | ((with_reducible refine (site_any _ _ _ P _ (HPr.out.keep (by (repeat (first | with_reducible exact Below.refl _ _ | (with_reducible refine Below.setCell ?_ (by first | (simp; done) | (simp; omega) | omega) _) | (with_reducible refine Below.alloc ?_ (by first | (simp; done) | (simp; omega) | omega) _) | (with_reducible refine Below.drew ?_))))) _ P.sites[k] (HC.out.keep (by (repeat (first | with_reducible exact Below.refl _ _ | (with_reducible refine Below.setCell ?_ (by first | (simp; done) | (simp; omega) | omega) _) | (with_reducible refine Below.alloc ?_ (by first | (simp; done) | (simp; omega) | omega) _) | (with_reducible refine Below.drew ?_)))))).mono ?_); rw [hok]; rintro e w' ⟨rfl, hb'⟩) | ((with_reducible refine (need_ok _ _ _ _).mono ?_); rintro e w' ⟨rfl, rfl⟩))
          go_roundw
          case rel => exact ⟨k + 1, hlt, by go_num, HQ.out.succ hlt hok, HBL.out.trans (Below.trans (by (repeat (first | with_reducible exact Below.refl _ _ | (with_reducible refine Below.setCell ?_ (by first | (simp; done) | (simp; omega) | omega) _) | (with_reducible refine Below.alloc ?_ (by first | (simp; done) | (simp; omega) | omega) _) | (with_reducible refine Below.drew ?_)))) (hb'.mono (by simp; omega)))⟩
          case measure => simp [intOf]; omega
        · have hok' := Bool.eq_false_iff.2 hok
          clear hok
          go_wp2_with (first | ((with_reducible refine (site_any _ _ _ P _ (HPr.out.keep (by (repeat (first | with_reducible exact Below.refl _ _ | (with_reducible refine Below.setCell ?_ (by first | (simp; done) | (simp; omega) | omega) _) | (with_reducible refine Below.alloc ?_ (by first | (simp; done) | (simp; omega) | omega) _) | (with_reducible refine Below.drew ?_))))) _ P.sites[k] (HC.out.keep (by (repeat (first | with_reducible exact Below.refl _ _ | (with_reducible refine Below.setCell ?_ (by first | (simp; done) | (simp; omega) | omega) _) | (with_reducible refine Below.alloc ?_ (by first | (simp; done) | (simp; omega) | omega) _) | (with_reducible refine Below.drew ?_)))))).mono ?_); rw [hok']; rintro e w' ⟨rfl, hb'⟩) | ((with_reducible refine (need_no _ _ _ _).mono ?_); rintro e w' ⟨rfl, rfl⟩))
          exact ⟨rfl, by rw [sitesW_bad h6 HQ.out hlt hok']; rfl, HB.out.trans (Below.trans (by (repeat (first | with_reducible exact Below.refl _ _ | (with_reducible refine Below.setCell ?_ (by first | (simp; done) | (simp; omega) | omega) _) | (with_reducible refine Below.alloc ?_ (by first | (simp; done) | (simp; omega) | omega) _) | (with_reducible refine Below.drew ?_)))) (hb'.mono (by simp; omega)))⟩
      · obtain rfl : k = P.sites.length := by omega
        go_wp2
        go_end0
        exact ⟨by rw [sitesW_ok h6 HQ.out]; rfl, HB.out⟩
  · have hd : decide ((P.sites.length : Int) ≤ 12) = false := by simp; omega
    go_enter Try.func58, Try.ntmps58
    go_wp2_with ((with_reducible refine (need_no _ _ _ _).mono ?_); rintro e w' ⟨rfl, rfl⟩)
    exact ⟨rfl, by rw [sitesW_many h6]; rfl, by (repeat (first | with_reducible exact Below.refl _ _ | (with_reducible refine Below.setCell ?_ (by first | (simp; done) | (simp; omega) | omega) _) | (with_reducible refine Below.alloc ?_ (by first | (simp; done) | (simp; omega) | omega) _) | (with_reducible refine Below.drew ?_)))⟩

theorem ends_any (c1 c2 c3 : Value) (P : ProgV) (w : World) (h : RProg w c1 c2 c3 P) (hne : ∀ l ∈ P.codes, l ≠ []) :
    Calls Try.prog 60 #[.agg #[c1, c2, c3]] w fun e w' => e = endW (endsW P) ∧ Below w.heap.size w w' := by
  obtain ⟨A, c, rfl, _, _, hl⟩ := h.codes.val
  have hR := Lib.hid h.codes
  have HN := Lib.hid hne
  clear h hne
  go_enter Try.func60, Try.ntmps60
  go_wp2
  go_loop [9] (fun i => ∃ k : Nat, k ≤ P.codes.length ∧ i = .int .i64 k ∧ Pre lastB P.codes k) (fun i => P.codes.length - (intOf i).toNat)
  case atStart => exact ⟨0, Nat.zero_le _, rfl, Pre.zero _ _⟩
  case round =>
    obtain ⟨k, hk, rfl, hpre⟩ := hrel
    have HQ := Lib.hid hpre
    clear hpre
    by_cases hlt : k < P.codes.length
    · obtain ⟨b, o, A2, c2, rfl, hb, g1, g2, _, _, hl2⟩ := kInss_at hR.out hlt
      have hpos : 0 < P.codes[k].length := List.length_pos_iff.2 (HN.out _ (List.getElem_mem hlt))
      obtain ⟨m, hm⟩ : ∃ m, P.codes[k].length = m + 1 := ⟨P.codes[k].length - 1, by omega⟩
      have hmlt : m < P.codes[k].length := by omega
      obtain ⟨b2, o2, rfl, hb2, q0, _, _, _, _, hwf⟩ := kIns_at g2 hmlt
      have hlast : P.codes[k].getD (P.codes[k].length - 1) ⟨0, 0, 0, 0, 0⟩ = P.codes[k][m] := by rw [hm, Nat.add_sub_cancel, List.getD_eq_getElem?_getD, List.getElem?_eq_getElem hmlt]; rfl
      have HL := Lib.hid hlast
      clear hlast g2 hwf
      rw [hm] at g1
      by_cases h1 : P.codes[k][m].op = 10
      · have hok : lastB P.codes[k] = true := by unfold lastB; rw [HL.out]; simp [h1]
        have HO := Lib.hid hok
        clear hok
        have d1 : (P.codes[k][m].op != 10) = false := by simp [h1]
        clear h1
        go_wp2_with ((with_reducible refine (need_ok _ _ _ _).mono ?_); rintro e w' ⟨rfl, rfl⟩)
        go_round
        case rel => exact ⟨k + 1, hlt, by go_num, HQ.out.succ hlt HO.out⟩
        case measure => simp [intOf]; omega
      · have d1 : (P.codes[k][m].op != 10) = true := by simp [h1]
        by_cases h2 : P.codes[k][m].op = 3
        · have hok : lastB P.codes[k] = true := by unfold lastB; rw [HL.out]; simp [h2]
          have HO := Lib.hid hok
          clear hok
          have d2 : (P.codes[k][m].op != 3) = false := by simp [h2]
          clear h1 h2
          go_wp2_with ((with_reducible refine (need_ok _ _ _ _).mono ?_); rintro e w' ⟨rfl, rfl⟩)
          go_round
          case rel => exact ⟨k + 1, hlt, by go_num, HQ.out.succ hlt HO.out⟩
          case measure => simp [intOf]; omega
        · have hok : lastB P.codes[k] = false := by unfold lastB; rw [HL.out]; simp [h1, h2]
          have HO := Lib.hid hok
          clear hok
          have d2 : (P.codes[k][m].op != 3) = true := by simp [h2]
          clear h1 h2
          go_wp2_with ((with_reducible refine (need_no _ _ _ _).mono ?_); rintro e w' ⟨rfl, rfl⟩)
          exact ⟨rfl, by rw [endsW_bad HQ.out hlt HO.out]; rfl, by (repeat (first | with_reducible exact Below.refl _ _ | (with_reducible refine Below.setCell ?_ (by first | (simp; done) | (simp; omega) | omega) _) | (with_reducible refine Below.alloc ?_ (by first | (simp; done) | (simp; omega) | omega) _) | (with_reducible refine Below.drew ?_)))⟩
    · obtain rfl : k = P.codes.length := by omega
      go_wp2
      go_end0
      exact ⟨by rw [endsW_ok HQ.out]; rfl, by (repeat (first | with_reducible exact Below.refl _ _ | (with_reducible refine Below.setCell ?_ (by first | (simp; done) | (simp; omega) | omega) _) | (with_reducible refine Below.alloc ?_ (by first | (simp; done) | (simp; omega) | omega) _) | (with_reducible refine Below.drew ?_)))⟩
end Go.Proofs.Ytljfloopjgpaeaa
