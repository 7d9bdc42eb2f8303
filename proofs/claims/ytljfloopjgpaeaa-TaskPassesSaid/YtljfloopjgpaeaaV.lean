/- tollbarlaw11.Long, tollbarlaw13.sane. -/
import Derived.Test.YtljfloopjgpaeaaI
namespace Go.Proofs.Ytljfloopjgpaeaa
set_option linter.unusedVariables false
set_option linter.unusedSimpArgs false
open Go.RowKit
set_option maxRecDepth 100000

/-- A Bool came back. -/
def BoolE (e : Ending) : Prop := ∃ b, e = .returned (.bool b)

set_option maxHeartbeats 2000000 in
theorem long_any {c1 c2 c3 : Value} {P : ProgV} {w : World} (h : RProg w c1 c2 c3 P) :
    Calls Try.prog 22 #[.agg #[c1, c2, c3]] w fun e w' => BoolE e ∧ Below w.heap.size w w' := by
  obtain ⟨A1, n1, rfl, _, _, hl1⟩ := h.caps.val
  obtain ⟨A2, n2, rfl, _, _, hl2⟩ := h.codes.val
  obtain ⟨A3, n3, rfl, _, _, hl3⟩ := h.sites.val
  have HP := Lib.hid h
  clear h
  go_enter Try.func22, Try.ntmps22
  go_wp2
  go_loop [3, 4] (fun s i => ∃ (k : Nat) (m : Nat), k ≤ P.codes.length ∧ k ≤ 20 ∧ i = .int .i64 k ∧ s = .int .i64 m ∧ m ≤ k * 100) (fun _ i => P.codes.length - (intOf i).toNat)
  case atStart => exact ⟨0, 0, Nat.zero_le _, Nat.zero_le _, rfl, rfl, Nat.zero_le _⟩
  case round =>
    obtain ⟨k, m, hk, hk2, rfl, rfl, hm⟩ := hrel
    have hPr := HP.out.keep (w' := w.alloc (.cells #[.slice A1 P.caps.length n1, .slice A2 P.codes.length n2, .slice A3 P.sites.length n3] 44)) (by (repeat (first | with_reducible exact Below.refl _ _ | (with_reducible refine Below.setCell ?_ (by first | (simp; done) | (simp; omega) | omega) _) | (with_reducible refine Below.alloc ?_ (by first | (simp; done) | (simp; omega) | omega) _) | (with_reducible refine Below.drew ?_))))
    have HPr := Lib.hid hPr
    clear hPr
    by_cases hlt : k < P.codes.length
    · by_cases h20 : k < 20
      · obtain ⟨b, o, A4, c4, rfl, hb, g1, g2, _, _, hl4⟩ := kInss_at HPr.out.codes hlt
        obtain ⟨l, hlk⟩ : ∃ l, l = P.codes[k] := ⟨_, rfl⟩
        rw [← hlk] at g1 g2 hl4
        clear hlk g2
        by_cases h100 : l.length ≤ 100
        · go_wp2
          go_round
          case rel => exact ⟨k + 1, m + l.length, hlt, by omega, by go_num, by go_num, by omega⟩
          case measure => simp [intOf]; omega
        · go_wp2
          all_goals (go_ret; refine ⟨⟨_, rfl⟩, ?_⟩; (repeat (first | with_reducible exact Below.refl _ _ | (with_reducible refine Below.setCell ?_ (by first | (simp; done) | (simp; omega) | omega) _) | (with_reducible refine Below.alloc ?_ (by first | (simp; done) | (simp; omega) | omega) _) | (with_reducible refine Below.drew ?_))))
      · go_wp2
        go_loop [5] (fun i => ∃ j : Nat, j ≤ P.sites.length ∧ j ≤ 30 ∧ i = .int .i64 j) (fun i => P.sites.length - (intOf i).toNat)
        case atStart => exact ⟨0, Nat.zero_le _, Nat.zero_le _, rfl⟩
        case round =>
          obtain ⟨j, hj, hj2, rfl⟩ := hrel
          by_cases hlt2 : j < P.sites.length
          · by_cases h30 : j < 30
            · obtain ⟨b2, o2, A5, c5, rfl, hb2, g1, g3, g2, _, _, hl5⟩ := kSite_at HPr.out.sites hlt2
              obtain ⟨l5, hlk5⟩ : ∃ l, l = P.sites[j] := ⟨_, rfl⟩
              rw [← hlk5] at g1 g2 g3 hl5
              clear hlk5 g2
              by_cases h50 : l5.cases.length ≤ 50
              · go_wp2
                go_round
                case rel => exact ⟨j + 1, hlt2, by omega, by go_num⟩
                case measure => simp [intOf]; omega
              · go_wp2
                all_goals (go_ret; refine ⟨⟨_, rfl⟩, ?_⟩; (repeat (first | with_reducible exact Below.refl _ _ | (with_reducible refine Below.setCell ?_ (by first | (simp; done) | (simp; omega) | omega) _) | (with_reducible refine Below.alloc ?_ (by first | (simp; done) | (simp; omega) | omega) _) | (with_reducible refine Below.drew ?_))))
            · go_wp2
              all_goals (go_ret; refine ⟨⟨_, rfl⟩, ?_⟩; (repeat (first | with_reducible exact Below.refl _ _ | (with_reducible refine Below.setCell ?_ (by first | (simp; done) | (simp; omega) | omega) _) | (with_reducible refine Below.alloc ?_ (by first | (simp; done) | (simp; omega) | omega) _) | (with_reducible refine Below.drew ?_))))
          · go_wp2
            all_goals (go_ret; refine ⟨⟨_, rfl⟩, ?_⟩; (repeat (first | with_reducible exact Below.refl _ _ | (with_reducible refine Below.setCell ?_ (by first | (simp; done) | (simp; omega) | omega) _) | (with_reducible refine Below.alloc ?_ (by first | (simp; done) | (simp; omega) | omega) _) | (with_reducible refine Below.drew ?_))))
    · go_wp2
      go_loop [5] (fun i => ∃ j : Nat, j ≤ P.sites.length ∧ j ≤ 30 ∧ i = .int .i64 j) (fun i => P.sites.length - (intOf i).toNat)
      case atStart => exact ⟨0, Nat.zero_le _, Nat.zero_le _, rfl⟩
      case round =>
        obtain ⟨j, hj, hj2, rfl⟩ := hrel
        by_cases hlt2 : j < P.sites.length
        · by_cases h30 : j < 30
          · obtain ⟨b2, o2, A5, c5, rfl, hb2, g1, g3, g2, _, _, hl5⟩ := kSite_at HPr.out.sites hlt2
            obtain ⟨l5, hlk5⟩ : ∃ l, l = P.sites[j] := ⟨_, rfl⟩
            rw [← hlk5] at g1 g2 g3 hl5
            clear hlk5 g2
            by_cases h50 : l5.cases.length ≤ 50
            · go_wp2
              go_round
              case rel => exact ⟨j + 1, hlt2, by omega, by go_num⟩
              case measure => simp [intOf]; omega
            · go_wp2
              all_goals (go_ret; refine ⟨⟨_, rfl⟩, ?_⟩; (repeat (first | with_reducible exact Below.refl _ _ | (with_reducible refine Below.setCell ?_ (by first | (simp; done) | (simp; omega) | omega) _) | (with_reducible refine Below.alloc ?_ (by first | (simp; done) | (simp; omega) | omega) _) | (with_reducible refine Below.drew ?_))))
          · go_wp2
            all_goals (go_ret; refine ⟨⟨_, rfl⟩, ?_⟩; (repeat (first | with_reducible exact Below.refl _ _ | (with_reducible refine Below.setCell ?_ (by first | (simp; done) | (simp; omega) | omega) _) | (with_reducible refine Below.alloc ?_ (by first | (simp; done) | (simp; omega) | omega) _) | (with_reducible refine Below.drew ?_))))
        · go_wp2
          all_goals (go_ret; refine ⟨⟨_, rfl⟩, ?_⟩; (repeat (first | with_reducible exact Below.refl _ _ | (with_reducible refine Below.setCell ?_ (by first | (simp; done) | (simp; omega) | omega) _) | (with_reducible refine Below.alloc ?_ (by first | (simp; done) | (simp; omega) | omega) _) | (with_reducible refine Below.drew ?_))))

/-- A program that may be. -/
def saneP (P : ProgV) : Bool := (checkW P).2.2 == 0
theorem sane_any {c1 c2 c3 : Value} {P : ProgV} {w : World} (h : RProg w c1 c2 c3 P) :
    Calls Try.prog 29 #[.agg #[c1, c2, c3]] w fun e w' => e = .returned (.bool (saneP P)) ∧ Below w.heap.size w w' := by
  have hck := fun (W : World) (hW : RProg W c1 c2 c3 P) => check_any c1 c2 c3 P W hW
  simp only [tripV] at hck
  have HCK := Lib.hid hck
  have HP := Lib.hid h
  obtain ⟨A1, n1, rfl, _, _, hl1⟩ := h.caps.val
  obtain ⟨A2, n2, rfl, _, _, hl2⟩ := h.codes.val
  obtain ⟨A3, n3, rfl, _, _, hl3⟩ := h.sites.val
  clear h hck
  go_enter Try.func29, Try.ntmps29
  go_wp2_with ((with_reducible refine (HCK.out _ (HP.out.keep (by (repeat (first | with_reducible exact Below.refl _ _ | (with_reducible refine Below.setCell ?_ (by first | (simp; done) | (simp; omega) | omega) _) | (with_reducible refine Below.alloc ?_ (by first | (simp; done) | (simp; omega) | omega) _) | (with_reducible refine Below.drew ?_)))))).mono ?_); rintro e w' ⟨rfl, hb⟩)
  go_ret
  exact ⟨by simp [saneP], by (have hszq := hb.size; (try simp only [World.size_alloc] at hszq); (repeat (first | (with_reducible refine Below.setCell ?_ (by first | (simp; done) | (simp; omega) | omega) _) | (with_reducible refine Below.alloc ?_ (by first | (simp; done) | (simp; omega) | omega) _) | (with_reducible refine Below.drew ?_))); refine Below.trans ?_ (hb.mono (by first | (simp; done) | (simp; omega) | omega)); (repeat (first | with_reducible exact Below.refl _ _ | (with_reducible refine Below.setCell ?_ (by first | (simp; done) | (simp; omega) | omega) _) | (with_reducible refine Below.alloc ?_ (by first | (simp; done) | (simp; omega) | omega) _) | (with_reducible refine Below.drew ?_))))⟩
end Go.Proofs.Ytljfloopjgpaeaa
