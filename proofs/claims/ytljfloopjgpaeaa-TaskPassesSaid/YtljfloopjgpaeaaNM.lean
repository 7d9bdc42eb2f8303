/- tollbarlaw11.Long, and what it says where it says no. -/
import Derived.Test.YtljfloopjgpaeaaNI
import Derived.Test.YtljfloopjgpaeaaNG
namespace Go.Proofs.Ytljfloopjgpaeaa
set_option linter.unusedVariables false
set_option linter.unusedSimpArgs false
open Go.RowKit
set_option maxRecDepth 100000

def codeS (l : List InsV) : Bool := decide (l.length ≤ 100)
def siteS (s : SiteV) : Bool := decide (s.cases.length ≤ 50)
structure LongB (P : ProgV) : Prop where
  caps : P.caps.length ≤ 50
  codes : P.codes.length ≤ 10
  sites : P.sites.length ≤ 15
  code : ∀ l ∈ P.codes, l.length ≤ 100
  site : ∀ s ∈ P.sites, s.cases.length ≤ 50
def LongE (P : ProgV) (e : Ending) : Prop := ∃ b, e = .returned (.bool b) ∧ (b = false → LongB P)
theorem longB {P : ProgV} {k j : Nat} (h1 : P.caps.length ≤ 50) (h2 : P.codes.length ≤ 10) (h3 : P.sites.length ≤ 15) (h4 : Pre codeS P.codes k) (h5 : P.codes.length ≤ k) (h6 : Pre siteS P.sites j) (h7 : P.sites.length ≤ j) : LongB P := by
  refine ⟨h1, h2, h3, fun l hl => ?_, fun s hs => ?_⟩
  · obtain ⟨i, hi, rfl⟩ := List.getElem_of_mem hl
    exact of_decide_eq_true (h4 i _ (by omega) (List.getElem?_eq_getElem hi))
  · obtain ⟨i, hi, rfl⟩ := List.getElem_of_mem hs
    exact of_decide_eq_true (h6 i _ (by omega) (List.getElem?_eq_getElem hi))
theorem LongB.small {P : ProgV} (h : LongB P) : Small P := ⟨by have := h.caps; omega, by have := h.codes; omega, by have := h.sites; omega, fun l hl => by have := h.code l hl; omega, fun s hs => by have := h.site s hs; omega⟩
set_option maxHeartbeats 4000000 in
theorem long_bounds {c1 c2 c3 : Value} {P : ProgV} {w : World} (h : RProg w c1 c2 c3 P) :
    Calls Try.prog 22 #[.agg #[c1, c2, c3]] w fun e w' => LongE P e ∧ Below w.heap.size w w' := by
  obtain ⟨A1, n1, rfl, _, _, hl1⟩ := h.caps.val
  obtain ⟨A2, n2, rfl, _, _, hl2⟩ := h.codes.val
  obtain ⟨A3, n3, rfl, _, _, hl3⟩ := h.sites.val
  have HP := Lib.hid h
  clear h
  go_enter Try.func22, Try.ntmps22
  go_wp2
  go_loop [3, 4] (fun s i => ∃ (k : Nat) (m : Nat), k ≤ P.codes.length ∧ k ≤ 20 ∧ i = .int .i64 k ∧ s = .int .i64 m ∧ m ≤ k * 100 ∧ Pre codeS P.codes k) (fun _ i => P.codes.length - (intOf i).toNat)
  case atStart => exact ⟨0, 0, Nat.zero_le _, Nat.zero_le _, rfl, rfl, Nat.zero_le _, Pre.zero _ _⟩
  case round =>
    obtain ⟨k, m, hk, hk2, rfl, rfl, hm, hpre⟩ := hrel
    have HPRE := Lib.hid hpre
    clear hpre
    have hPr := HP.out.keep (w' := w.alloc (.cells #[.slice A1 P.caps.length n1, .slice A2 P.codes.length n2, .slice A3 P.sites.length n3] 44)) (by (repeat (first | with_reducible exact Below.refl _ _ | (with_reducible refine Below.setCell ?_ (by first | (simp; done) | (simp; omega) | omega) _) | (with_reducible refine Below.alloc ?_ (by first | (simp; done) | (simp; omega) | omega) _) | (with_reducible refine Below.drew ?_))))
    have HPr := Lib.hid hPr
    clear hPr
    by_cases hlt : k < P.codes.length
    · by_cases h20 : k < 20
      · obtain ⟨b, o, A4, c4, rfl, hb, g1, g2, _, _, hl4⟩ := kInss_at HPr.out.codes hlt
        obtain ⟨l, hlk⟩ : ∃ l, l = P.codes[k] := ⟨_, rfl⟩
        rw [← hlk] at g1 g2 hl4
        have HLK := Lib.hid hlk
        clear hlk g2
        by_cases h100 : l.length ≤ 100
        · go_wp2
          go_round
          case rel => exact ⟨k + 1, m + l.length, hlt, by omega, by go_num, by go_num, by omega, HPRE.out.succ hlt (by rw [← HLK.out]; exact decide_eq_true h100)⟩
          case measure => simp [intOf]; omega
        · go_wp2
          all_goals (go_ret; refine ⟨⟨_, rfl, fun hf_ => ?_⟩, ?_⟩; (next => first | (cases hf_; done) | (simp only [decide_eq_false_iff_not] at hf_; exact longB (by omega) (by omega) (by omega) HPRE.out (by omega) HPJ.out (by omega)) | exact longB (by omega) (by omega) (by omega) HPRE.out (by omega) HPJ.out (by omega)); (repeat (first | with_reducible exact Below.refl _ _ | (with_reducible refine Below.setCell ?_ (by first | (simp; done) | (simp; omega) | omega) _) | (with_reducible refine Below.alloc ?_ (by first | (simp; done) | (simp; omega) | omega) _) | (with_reducible refine Below.drew ?_))))
      · go_wp2
        go_loop [5] (fun i => ∃ j : Nat, j ≤ P.sites.length ∧ j ≤ 30 ∧ i = .int .i64 j ∧ Pre siteS P.sites j) (fun i => P.sites.length - (intOf i).toNat)
        case atStart => exact ⟨0, Nat.zero_le _, Nat.zero_le _, rfl, Pre.zero _ _⟩
        case round =>
          obtain ⟨j, hj, hj2, rfl, hpj⟩ := hrel
          have HPJ := Lib.hid hpj
          clear hpj
          by_cases hlt2 : j < P.sites.length
          · by_cases h30 : j < 30
            · obtain ⟨b2, o2, A5, c5, rfl, hb2, g1, g3, g2, _, _, hl5⟩ := kSite_at HPr.out.sites hlt2
              obtain ⟨l5, hlk5⟩ : ∃ l, l = P.sites[j] := ⟨_, rfl⟩
              rw [← hlk5] at g1 g2 g3 hl5
              have HLK5 := Lib.hid hlk5
              clear hlk5 g2
              by_cases h50 : l5.cases.length ≤ 50
              · go_wp2
                go_round
                case rel => exact ⟨j + 1, hlt2, by omega, by go_num, HPJ.out.succ hlt2 (by rw [← HLK5.out]; exact decide_eq_true h50)⟩
                case measure => simp [intOf]; omega
              · go_wp2
                all_goals (go_ret; refine ⟨⟨_, rfl, fun hf_ => ?_⟩, ?_⟩; (next => first | (cases hf_; done) | (simp only [decide_eq_false_iff_not] at hf_; exact longB (by omega) (by omega) (by omega) HPRE.out (by omega) HPJ.out (by omega)) | exact longB (by omega) (by omega) (by omega) HPRE.out (by omega) HPJ.out (by omega)); (repeat (first | with_reducible exact Below.refl _ _ | (with_reducible refine Below.setCell ?_ (by first | (simp; done) | (simp; omega) | omega) _) | (with_reducible refine Below.alloc ?_ (by first | (simp; done) | (simp; omega) | omega) _) | (with_reducible refine Below.drew ?_))))
            · go_wp2
              all_goals (go_ret; refine ⟨⟨_, rfl, fun hf_ => ?_⟩, ?_⟩; (next => first | (cases hf_; done) | (simp only [decide_eq_false_iff_not] at hf_; exact longB (by omega) (by omega) (by omega) HPRE.out (by omega) HPJ.out (by omega)) | exact longB (by omega) (by omega) (by omega) HPRE.out (by omega) HPJ.out (by omega)); (repeat (first | with_reducible exact Below.refl _ _ | (with_reducible refine Below.setCell ?_ (by first | (simp; done) | (simp; omega) | omega) _) | (with_reducible refine Below.alloc ?_ (by first | (simp; done) | (simp; omega) | omega) _) | (with_reducible refine Below.drew ?_))))
          · go_wp2
            all_goals (go_ret; refine ⟨⟨_, rfl, fun hf_ => ?_⟩, ?_⟩; (next => first | (cases hf_; done) | (simp only [decide_eq_false_iff_not] at hf_; exact longB (by omega) (by omega) (by omega) HPRE.out (by omega) HPJ.out (by omega)) | exact longB (by omega) (by omega) (by omega) HPRE.out (by omega) HPJ.out (by omega)); (repeat (first | with_reducible exact Below.refl _ _ | (with_reducible refine Below.setCell ?_ (by first | (simp; done) | (simp; omega) | omega) _) | (with_reducible refine Below.alloc ?_ (by first | (simp; done) | (simp; omega) | omega) _) | (with_reducible refine Below.drew ?_))))
    · go_wp2
      go_loop [5] (fun i => ∃ j : Nat, j ≤ P.sites.length ∧ j ≤ 30 ∧ i = .int .i64 j ∧ Pre siteS P.sites j) (fun i => P.sites.length - (intOf i).toNat)
      case atStart => exact ⟨0, Nat.zero_le _, Nat.zero_le _, rfl, Pre.zero _ _⟩
      case round =>
        obtain ⟨j, hj, hj2, rfl, hpj⟩ := hrel
        have HPJ := Lib.hid hpj
        clear hpj
        by_cases hlt2 : j < P.sites.length
        · by_cases h30 : j < 30
          · obtain ⟨b2, o2, A5, c5, rfl, hb2, g1, g3, g2, _, _, hl5⟩ := kSite_at HPr.out.sites hlt2
            obtain ⟨l5, hlk5⟩ : ∃ l, l = P.sites[j] := ⟨_, rfl⟩
            rw [← hlk5] at g1 g2 g3 hl5
            have HLK5 := Lib.hid hlk5
            clear hlk5 g2
            by_cases h50 : l5.cases.length ≤ 50
            · go_wp2
              go_round
              case rel => exact ⟨j + 1, hlt2, by omega, by go_num, HPJ.out.succ hlt2 (by rw [← HLK5.out]; exact decide_eq_true h50)⟩
              case measure => simp [intOf]; omega
            · go_wp2
              all_goals (go_ret; refine ⟨⟨_, rfl, fun hf_ => ?_⟩, ?_⟩; (next => first | (cases hf_; done) | (simp only [decide_eq_false_iff_not] at hf_; exact longB (by omega) (by omega) (by omega) HPRE.out (by omega) HPJ.out (by omega)) | exact longB (by omega) (by omega) (by omega) HPRE.out (by omega) HPJ.out (by omega)); (repeat (first | with_reducible exact Below.refl _ _ | (with_reducible refine Below.setCell ?_ (by first | (simp; done) | (simp; omega) | omega) _) | (with_reducible refine Below.alloc ?_ (by first | (simp; done) | (simp; omega) | omega) _) | (with_reducible refine Below.drew ?_))))
          · go_wp2
            all_goals (go_ret; refine ⟨⟨_, rfl, fun hf_ => ?_⟩, ?_⟩; (next => first | (cases hf_; done) | (simp only [decide_eq_false_iff_not] at hf_; exact longB (by omega) (by omega) (by omega) HPRE.out (by omega) HPJ.out (by omega)) | exact longB (by omega) (by omega) (by omega) HPRE.out (by omega) HPJ.out (by omega)); (repeat (first | with_reducible exact Below.refl _ _ | (with_reducible refine Below.setCell ?_ (by first | (simp; done) | (simp; omega) | omega) _) | (with_reducible refine Below.alloc ?_ (by first | (simp; done) | (simp; omega) | omega) _) | (with_reducible refine Below.drew ?_))))
        · go_wp2
          all_goals (go_ret; refine ⟨⟨_, rfl, fun hf_ => ?_⟩, ?_⟩; (next => first | (cases hf_; done) | (simp only [decide_eq_false_iff_not] at hf_; exact longB (by omega) (by omega) (by omega) HPRE.out (by omega) HPJ.out (by omega)) | exact longB (by omega) (by omega) (by omega) HPRE.out (by omega) HPJ.out (by omega)); (repeat (first | with_reducible exact Below.refl _ _ | (with_reducible refine Below.setCell ?_ (by first | (simp; done) | (simp; omega) | omega) _) | (with_reducible refine Below.alloc ?_ (by first | (simp; done) | (simp; omega) | omega) _) | (with_reducible refine Below.drew ?_))))

end Go.Proofs.Ytljfloopjgpaeaa
