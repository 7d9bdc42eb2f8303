/- prog.Check: walks of its four looks. -/
import Derived.Test.YtljfloopjgpaeaaB
namespace Go.Proofs.Ytljfloopjgpaeaa
set_option linter.unusedVariables false
set_option linter.unusedSimpArgs false
open Go.RowKit
set_option maxRecDepth 100000

theorem chans_any (c1 c2 c3 : Value) (P : ProgV) (w : World) (h : RProg w c1 c2 c3 P) :
    Calls Try.prog 57 #[.agg #[c1, c2, c3]] w fun e w' => e = endW (chansW P) ∧ Below w.heap.size w w' := by
  obtain ⟨A, c, rfl, _, _, hl⟩ := h.caps.val
  have hR := Lib.hid h.caps
  clear h
  by_cases h6 : P.caps.length ≤ 6
  · have hd : decide ((P.caps.length : Int) ≤ 6) = true := by simp; omega
    go_enter Try.func57, Try.ntmps57
    go_wp2_with ((with_reducible refine (need_ok _ _ _ _).mono ?_); rintro e w' ⟨rfl, rfl⟩)
    go_loop [14] (fun i => ∃ k : Nat, k ≤ P.caps.length ∧ i = .int .i64 k ∧ Pre capB P.caps k) (fun i => P.caps.length - (intOf i).toNat)
    case atStart => exact ⟨0, Nat.zero_le _, rfl, Pre.zero _ _⟩
    case round =>
      obtain ⟨k, hk, rfl, hpre⟩ := hrel
      have HP := Lib.hid hpre
      clear hpre
      by_cases hlt : k < P.caps.length
      · obtain ⟨b, o, rfl, hb, hcell, hwf⟩ := kInt_at hR.out hlt
        clear hwf
        by_cases hok : capB P.caps[k] = true
        · have HO := Lib.hid hok
          simp only [capB, Bool.and_eq_true, decide_eq_true_eq] at hok
          obtain ⟨g1, g2⟩ := hok
          go_wp2_with ((with_reducible refine (need_ok _ _ _ _).mono ?_); rintro e w' ⟨rfl, rfl⟩)
          go_round
          case rel => exact ⟨k + 1, hlt, by go_num, HP.out.succ hlt HO.out⟩
          case measure => simp [intOf]; omega
        · have HO := Lib.hid (Bool.eq_false_iff.2 hok)
          have hcs : P.caps[k] < 0 ∨ 0 ≤ P.caps[k] ∧ 8 < P.caps[k] := by simp [capB] at hok; omega
          clear hok
          rcases hcs with h1 | ⟨h1, h2⟩
          · have h3 : ¬ (0 ≤ P.caps[k]) := by omega
            go_wp2_with ((with_reducible refine (need_no _ _ _ _).mono ?_); rintro e w' ⟨rfl, rfl⟩)
            exact ⟨rfl, by rw [chansW_bad h6 HP.out hlt HO.out]; rfl, by (repeat (first | with_reducible exact Below.refl _ _ | (with_reducible refine Below.setCell ?_ (by first | (simp; done) | (simp; omega) | omega) _) | (with_reducible refine Below.alloc ?_ (by first | (simp; done) | (simp; omega) | omega) _) | (with_reducible refine Below.drew ?_)))⟩
          · have h3 : ¬ (P.caps[k] ≤ 8) := by omega
            go_wp2_with ((with_reducible refine (need_no _ _ _ _).mono ?_); rintro e w' ⟨rfl, rfl⟩)
            exact ⟨rfl, by rw [chansW_bad h6 HP.out hlt HO.out]; rfl, by (repeat (first | with_reducible exact Below.refl _ _ | (with_reducible refine Below.setCell ?_ (by first | (simp; done) | (simp; omega) | omega) _) | (with_reducible refine Below.alloc ?_ (by first | (simp; done) | (simp; omega) | omega) _) | (with_reducible refine Below.drew ?_)))⟩
      · obtain rfl : k = P.caps.length := by omega
        go_wp2
        go_end0
        exact ⟨by rw [chansW_ok h6 HP.out]; rfl, by (repeat (first | with_reducible exact Below.refl _ _ | (with_reducible refine Below.setCell ?_ (by first | (simp; done) | (simp; omega) | omega) _) | (with_reducible refine Below.alloc ?_ (by first | (simp; done) | (simp; omega) | omega) _) | (with_reducible refine Below.drew ?_)))⟩
  · have hd : decide ((P.caps.length : Int) ≤ 6) = false := by simp; omega
    go_enter Try.func57, Try.ntmps57
    go_wp2_with ((with_reducible refine (need_no _ _ _ _).mono ?_); rintro e w' ⟨rfl, rfl⟩)
    exact ⟨rfl, by rw [chansW_many h6]; rfl, by (repeat (first | with_reducible exact Below.refl _ _ | (with_reducible refine Below.setCell ?_ (by first | (simp; done) | (simp; omega) | omega) _) | (with_reducible refine Below.alloc ?_ (by first | (simp; done) | (simp; omega) | omega) _) | (with_reducible refine Below.drew ?_)))⟩

theorem one_any {c1 c2 c3 : Value} {P : ProgV} {w : World} (h : RProg w c1 c2 c3 P) (send : Bool) (ch val ok : Int) :
    Calls Try.prog 122 #[.agg #[c1, c2, c3], .agg #[.bool send, .int .i64 ch, .int .i64 val, .int .i64 ok]] w fun e w' => e = .returned (.bool (fitsB ⟨send, ch, val, ok⟩ P.caps.length)) ∧ Below w.heap.size w w' := by
  obtain ⟨A, c, rfl, _, _, hl⟩ := h.caps.val
  clear h
  go_enter Try.func122, Try.ntmps122
  go_wp2_with ((with_reducible refine (fits_any' _ _ _ _ _ _).mono ?_); rintro e w' ⟨rfl, hb⟩)
  go_ret
  exact ⟨rfl, Below.trans (by (repeat (first | with_reducible exact Below.refl _ _ | (with_reducible refine Below.setCell ?_ (by first | (simp; done) | (simp; omega) | omega) _) | (with_reducible refine Below.alloc ?_ (by first | (simp; done) | (simp; omega) | omega) _) | (with_reducible refine Below.drew ?_)))) (hb.mono (by simp; omega))⟩
end Go.Proofs.Ytljfloopjgpaeaa
