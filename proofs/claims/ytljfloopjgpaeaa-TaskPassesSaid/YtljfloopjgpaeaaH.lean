/- prog.Check: its codes. -/
import Derived.Test.YtljfloopjgpaeaaD
import Derived.Test.YtljfloopjgpaeaaG
namespace Go.Proofs.Ytljfloopjgpaeaa
set_option linter.unusedVariables false
set_option linter.unusedSimpArgs false
open Go.RowKit
set_option maxRecDepth 100000

def codeI (P : ProgV) (l : List InsV) (x : InsV) : Bool := insB x P.caps.length P.sites.length P.codes.length l.length
def codeBad (P : ProgV) (l : List InsV) : Option Nat := if 1 ≤ l.length ∧ l.length ≤ 40 then l.findIdx? (fun x => !codeI P l x) else some 0
def codeP (P : ProgV) (l : List InsV) : Bool := (codeBad P l).isNone
def codesW (P : ProgV) : Option (Int × Int × Int) :=
  if 1 ≤ P.codes.length ∧ P.codes.length ≤ 8 then (P.codes.findIdx? (fun l => !codeP P l)).map (fun (k : Nat) => ((k : Int), (((codeBad P (P.codes.getD k [])).getD 0 : Nat) : Int), 112)) else some (0, 0, 112)
theorem codesW_many {P : ProgV} (h : ¬ (1 ≤ P.codes.length ∧ P.codes.length ≤ 8)) : codesW P = some (0, 0, 112) := by rw [codesW, if_neg h]
theorem codesW_ok {P : ProgV} (h : 1 ≤ P.codes.length ∧ P.codes.length ≤ 8) (hp : Pre (codeP P) P.codes P.codes.length) : codesW P = none := by rw [codesW, if_pos h, hp.none]; rfl
theorem codesW_bad {P : ProgV} (h : 1 ≤ P.codes.length ∧ P.codes.length ≤ 8) {k m : Nat} (hp : Pre (codeP P) P.codes k) (hk : k < P.codes.length) (hb : codeBad P P.codes[k] = some m) : codesW P = some ((k : Int), (m : Int), 112) := by
  rw [codesW, if_pos h, hp.bad hk (by simp [codeP, hb])]
  simp [List.getD_eq_getElem?_getD, List.getElem?_eq_getElem hk, hb]
theorem codeBad_len {P : ProgV} {l : List InsV} (h : ¬ (1 ≤ l.length ∧ l.length ≤ 40)) : codeBad P l = some 0 := by rw [codeBad, if_neg h]
theorem codeBad_at {P : ProgV} {l : List InsV} (h : 1 ≤ l.length ∧ l.length ≤ 40) {j : Nat} (hp : Pre (codeI P l) l j) (hj : j < l.length) (hb : codeI P l l[j] = false) : codeBad P l = some j := by rw [codeBad, if_pos h, hp.bad hj hb]
theorem codeP_ok {P : ProgV} {l : List InsV} (h : 1 ≤ l.length ∧ l.length ≤ 40) (hp : Pre (codeI P l) l l.length) : codeP P l = true := by rw [codeP, codeBad, if_pos h, hp.none]; rfl

set_option maxHeartbeats 2000000 in
theorem codes_any (c1 c2 c3 : Value) (P : ProgV) (w : World) (h : RProg w c1 c2 c3 P) :
    Calls Try.prog 59 #[.agg #[c1, c2, c3]] w fun e w' => e = endW (codesW P) ∧ Below w.heap.size w w' := by
  obtain ⟨A, c, rfl, _, _, hl⟩ := h.codes.val
  obtain ⟨A1, cc1, rfl, _, _, hl1⟩ := h.caps.val
  obtain ⟨A3, cc3, rfl, _, _, hl3⟩ := h.sites.val
  have HP := Lib.hid h
  clear h
  by_cases hn1 : 1 ≤ P.codes.length
  · have d1 : decide ((P.codes.length : Int) ≥ 1) = true := by simp; omega
    by_cases hn8 : P.codes.length ≤ 8
    · have d2 : decide ((P.codes.length : Int) ≤ 8) = true := by simp; omega
      go_enter Try.func59, Try.ntmps59
      go_wp2_with ((with_reducible refine (need_ok _ _ _ _).mono ?_); rintro e w' ⟨rfl, rfl⟩)
      go_loopw [22] (fun i wr => ∃ k : Nat, k ≤ P.codes.length ∧ i = .int .i64 k ∧ Pre (codeP P) P.codes k ∧ Below (w.heap.size + 1) (w.alloc (.cells #[.slice A1 P.caps.length cc1, .slice A P.codes.length c, .slice A3 P.sites.length cc3] 111)) wr) (fun i _ => P.codes.length - (intOf i).toNat)
      case atStart => exact ⟨0, Nat.zero_le _, rfl, Pre.zero _ _, by (repeat (first | with_reducible exact Below.refl _ _ | (with_reducible refine Below.setCell ?_ (by first | (simp; done) | (simp; omega) | omega) _) | (with_reducible refine Below.alloc ?_ (by first | (simp; done) | (simp; omega) | omega) _) | (with_reducible refine Below.drew ?_)))⟩
      case round =>
        obtain ⟨k, hk, rfl, hpre, hbl⟩ := hrel
        have HQ := Lib.hid hpre
        clear hpre
        by_cases hlt : k < P.codes.length
        · have hB : Below w.heap.size w wr := Below.trans (by (repeat (first | with_reducible exact Below.refl _ _ | (with_reducible refine Below.setCell ?_ (by first | (simp; done) | (simp; omega) | omega) _) | (with_reducible refine Below.alloc ?_ (by first | (simp; done) | (simp; omega) | omega) _) | (with_reducible refine Below.drew ?_)))) (hbl.mono (by omega))
          have HPr := Lib.hid (HP.out.keep hB)
          obtain ⟨b, o, A2, c2', rfl, hb, g1, g2, _, _, hl2⟩ := kInss_at HPr.out.codes hlt
          obtain ⟨l, hlk⟩ : ∃ l, l = P.codes[k] := ⟨_, rfl⟩
          rw [← hlk] at g1 g2 hl2
          have HL := Lib.hid hlk
          clear hlk
          have hsz := hbl.size
          simp only [World.size_alloc] at hsz
          have HG := Lib.hid g2
          have HB := Lib.hid hB
          have HBL := Lib.hid hbl
          clear hB hbl g2
          by_cases hm1 : 1 ≤ l.length
          · have e1 : decide ((l.length : Int) ≥ 1) = true := by simp; omega
            by_cases hm40 : l.length ≤ 40
            · have e2 : decide ((l.length : Int) ≤ 40) = true := by simp; omega
              obtain ⟨wo, rfl⟩ : ∃ wo : World, wo = wr := ⟨_, rfl⟩
              go_wp2_with ((with_reducible refine (need_ok _ _ _ _).mono ?_); rintro e w' ⟨rfl, rfl⟩)
              go_loopw [39] (fun i wr => ∃ j : Nat, j ≤ l.length ∧ i = .int .i64 j ∧ Pre (codeI P l) l j ∧ Below (w.heap.size + 1) (w.alloc (.cells #[.slice A1 P.caps.length cc1, .slice (some ⟨b, o, none⟩) P.codes.length c, .slice A3 P.sites.length cc3] 111)) wr ∧ Below wo.heap.size wo wr) (fun i _ => l.length - (intOf i).toNat)
              case atStart => exact ⟨0, Nat.zero_le _, rfl, Pre.zero _ _, HBL.out, Below.refl _ _⟩
              case round =>
                obtain ⟨j, hj, rfl, hpj, hbl, hbo⟩ := hrel
                have HJ := Lib.hid hpj
                clear hpj
                have k0 : wr.cell? ⟨w.heap.size, 0, none⟩ = some (.slice A1 P.caps.length cc1) := Below.at hbl (by simp) (by omega)
                have k2 : wr.cell? ⟨w.heap.size, 2, none⟩ = some (.slice A3 P.sites.length cc3) := Below.at hbl (by simp) (by omega)
                have hsz1 := hbl.size
                simp only [World.size_alloc] at hsz1
                have hlt0 : w.heap.size < wr.heap.size := by omega
                have hsz2 := hbo.size
                have HB1 := Lib.hid (show Below w.heap.size w wr from Below.trans (by (repeat (first | with_reducible exact Below.refl _ _ | (with_reducible refine Below.setCell ?_ (by first | (simp; done) | (simp; omega) | omega) _) | (with_reducible refine Below.alloc ?_ (by first | (simp; done) | (simp; omega) | omega) _) | (with_reducible refine Below.drew ?_)))) (hbl.mono (by omega)))
                have HBL1 := Lib.hid hbl
                have HBO := Lib.hid hbo
                clear hbl hbo
                by_cases hjl : j < l.length
                · obtain ⟨b2, o2, rfl, hb2, q0, q1, q2, q3, q4, hwf⟩ := kIns_at (HG.out.keep HBO.out) hjl
                  clear hwf
                  obtain ⟨x, hx⟩ : ∃ x, x = l[j] := ⟨_, rfl⟩
                  rw [← hx] at q0 q1 q2 q3 q4
                  obtain ⟨op, xa, xb, xc, xk⟩ := x
                  have HX := Lib.hid hx
                  clear hx
                  by_cases hok : insB ⟨op, xa, xb, xc, xk⟩ P.caps.length P.sites.length P.codes.length l.length = true
                  · have hee : errOf true = 0 := rfl
                    go_wp2_with (first | ((with_reducible refine (insCheck_any _ _ _ _ _ _ _ _ _ _).mono ?_); rw [hok]; rintro e w' ⟨rfl, hb'⟩) | ((with_reducible refine (need_ok _ _ _ _).mono ?_); rintro e w' ⟨rfl, rfl⟩))
                    go_roundw
                    case rel => exact ⟨j + 1, hjl, by go_num, HJ.out.succ hjl (by rw [← HX.out]; exact hok), HBL1.out.trans (Below.trans (by (repeat (first | with_reducible exact Below.refl _ _ | (with_reducible refine Below.setCell ?_ (by first | (simp; done) | (simp; omega) | omega) _) | (with_reducible refine Below.alloc ?_ (by first | (simp; done) | (simp; omega) | omega) _) | (with_reducible refine Below.drew ?_)))) (hb'.mono (by simp; omega))), HBO.out.trans (Below.trans (by (repeat (first | with_reducible exact Below.refl _ _ | (with_reducible refine Below.setCell ?_ (by first | (simp; done) | (simp; omega) | omega) _) | (with_reducible refine Below.alloc ?_ (by first | (simp; done) | (simp; omega) | omega) _) | (with_reducible refine Below.drew ?_)))) (hb'.mono (by simp; omega)))⟩
                    case measure => simp [intOf]; omega
                  · have hok' := Bool.eq_false_iff.2 hok
                    clear hok
                    have hee : errOf false = 2 := rfl
                    go_wp2_with (first | ((with_reducible refine (insCheck_any _ _ _ _ _ _ _ _ _ _).mono ?_); rw [hok']; rintro e w' ⟨rfl, hb'⟩) | ((with_reducible refine (need_no _ _ _ _).mono ?_); rintro e w' ⟨rfl, rfl⟩))
                    exact ⟨rfl, by rw [codesW_bad ⟨hn1, hn8⟩ HQ.out hlt (by rw [← HL.out]; exact codeBad_at ⟨hm1, hm40⟩ HJ.out hjl (by rw [← HX.out]; exact hok'))]; rfl, HB1.out.trans (Below.trans (by (repeat (first | with_reducible exact Below.refl _ _ | (with_reducible refine Below.setCell ?_ (by first | (simp; done) | (simp; omega) | omega) _) | (with_reducible refine Below.alloc ?_ (by first | (simp; done) | (simp; omega) | omega) _) | (with_reducible refine Below.drew ?_)))) (hb'.mono (by simp; omega)))⟩
                · obtain rfl : j = l.length := by omega
                  go_wp2
                  go_roundw
                  case rel => exact ⟨k + 1, hlt, by go_num, HQ.out.succ hlt (by rw [← HL.out]; exact codeP_ok ⟨hm1, hm40⟩ HJ.out), HBL1.out⟩
                  case measure => simp [intOf]; omega
            · have e2 : decide ((l.length : Int) ≤ 40) = false := by simp; omega
              go_wp2_with ((with_reducible refine (need_no _ _ _ _).mono ?_); rintro e w' ⟨rfl, rfl⟩)
              exact ⟨rfl, by rw [codesW_bad ⟨hn1, hn8⟩ HQ.out hlt (by rw [← HL.out]; exact codeBad_len (by omega))]; rfl, HB.out⟩
          · have e1 : decide ((l.length : Int) ≥ 1) = false := by simp; omega
            go_wp2_with ((with_reducible refine (need_no _ _ _ _).mono ?_); rintro e w' ⟨rfl, rfl⟩)
            exact ⟨rfl, by rw [codesW_bad ⟨hn1, hn8⟩ HQ.out hlt (by rw [← HL.out]; exact codeBad_len (by omega))]; rfl, HB.out⟩
        · obtain rfl : k = P.codes.length := by omega
          have hB : Below w.heap.size w wr := Below.trans (by (repeat (first | with_reducible exact Below.refl _ _ | (with_reducible refine Below.setCell ?_ (by first | (simp; done) | (simp; omega) | omega) _) | (with_reducible refine Below.alloc ?_ (by first | (simp; done) | (simp; omega) | omega) _) | (with_reducible refine Below.drew ?_)))) (hbl.mono (by omega))
          go_wp2
          go_end0
          exact ⟨by rw [codesW_ok ⟨hn1, hn8⟩ HQ.out]; rfl, hB⟩
    · have d2 : decide ((P.codes.length : Int) ≤ 8) = false := by simp; omega
      go_enter Try.func59, Try.ntmps59
      go_wp2_with ((with_reducible refine (need_no _ _ _ _).mono ?_); rintro e w' ⟨rfl, rfl⟩)
      exact ⟨rfl, by rw [codesW_many (by omega)]; rfl, by (repeat (first | with_reducible exact Below.refl _ _ | (with_reducible refine Below.setCell ?_ (by first | (simp; done) | (simp; omega) | omega) _) | (with_reducible refine Below.alloc ?_ (by first | (simp; done) | (simp; omega) | omega) _) | (with_reducible refine Below.drew ?_)))⟩
  · have d1 : decide ((P.codes.length : Int) ≥ 1) = false := by simp; omega
    go_enter Try.func59, Try.ntmps59
    go_wp2_with ((with_reducible refine (need_no _ _ _ _).mono ?_); rintro e w' ⟨rfl, rfl⟩)
    exact ⟨rfl, by rw [codesW_many (by omega)]; rfl, by (repeat (first | with_reducible exact Below.refl _ _ | (with_reducible refine Below.setCell ?_ (by first | (simp; done) | (simp; omega) | omega) _) | (with_reducible refine Below.alloc ?_ (by first | (simp; done) | (simp; omega) | omega) _) | (with_reducible refine Below.drew ?_)))⟩
end Go.Proofs.Ytljfloopjgpaeaa
