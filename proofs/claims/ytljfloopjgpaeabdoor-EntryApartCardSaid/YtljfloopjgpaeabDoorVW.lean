/- tollbarlaw14.EntryBack: its walk. -/
import Derived.Test.YtljfloopjgpaeabDoorVX
namespace Go.Proofs.YtljfloopjgpaeabDoor
set_option linter.unusedVariables false
set_option linter.unusedSimpArgs false
open Go.RowKit Go.Shelf
attribute [local go_sem] Oper.semAt_some
set_option maxRecDepth 100000
theorem get_form {ls : List UInt8} {e : Ending} {w : World} (h : GetTo ls e w) : ∃ (A : Option Addr) (n c : Nat) (er : Int), e = .returned (.tuple #[.slice A n c, .int .i64 er]) ∧ ((er = 0 ∧ ∃ xs : List EntV, ls = bytesL xs ∧ (∀ x ∈ xs, entB x = true ∧ rgE x) ∧ n = xs.length ∧ kEnt.R w (.slice A xs.length c) xs) ∨ (er = 7 ∧ n = 0)) := by
  obtain ⟨xs, rest, h1, h2, h3⟩ := h
  rcases h3 with ⟨hr, A, c, he, hR⟩ | ⟨_, _, he⟩
  · subst hr
    rw [List.append_nil] at h1
    exact ⟨A, _, c, 0, he, .inl ⟨rfl, xs, h1, h2, rfl, hR⟩⟩
  · exact ⟨none, 0, 0, 7, he, .inr ⟨rfl, rfl⟩⟩
set_option maxHeartbeats 8000000 in
theorem entryBack_any {w : World} {v : Value} {l : List EntV} (h : kEnt.R w v l) (hr : ∀ x ∈ l, rgE x) (s : ByteArray) (htab : Tab10 w) : Calls Tryd.prog 4 #[v, .string s] w fun e w' => e = .returned (.bool true) ∧ Below w.heap.size w w' := by
  obtain ⟨A, c, rfl, _, _, _⟩ := h.val
  have hal := fun W (hW : Below w.heap.size w W) => alive14_any W (Tab10.keep htab hW)
  have HAL := Lib.hid hal
  have H := Lib.hid h
  have HR := Lib.hid hr
  clear hal h hr
  by_cases hbig : l.length > 100 ∨ s.size > 4096
  · by_cases h1 : l.length > 100
    · have d1 : decide ((l.length : Int) > 100) = true := decide_eq_true (by omega)
      have d2 : decide (100 < l.length) = true := decide_eq_true (by omega)
      clear hbig h1
      go_enter Tryd.func4, Tryd.ntmps4
      go_wp2_with ((with_reducible refine (HAL.out _ (Below.refl _ _)).mono ?_); rintro e w2 ⟨rfl, hb2⟩; (have HB2 := Lib.hid hb2); clear hb2)
      go_ret
      exact ⟨rfl, HB2.out⟩
    · have d1 : decide ((l.length : Int) > 100) = false := decide_eq_false (by omega)
      have d2 : decide (100 < l.length) = false := decide_eq_false (by omega)
      have h3 : s.size > 4096 := by omega
      have d3 : decide ((s.size : Int) > 4096) = true := decide_eq_true (by omega)
      have d4 : decide (4096 < s.size) = true := decide_eq_true (by omega)
      clear hbig h1 h3
      go_enter Tryd.func4, Tryd.ntmps4
      go_wp2_with ((with_reducible refine (HAL.out _ (Below.refl _ _)).mono ?_); rintro e w2 ⟨rfl, hb2⟩; (have HB2 := Lib.hid hb2); clear hb2)
      go_ret
      exact ⟨rfl, HB2.out⟩
  have hl1 : l.length ≤ 100 := by omega
  have hs1 : s.size ≤ 4096 := by omega
  have d1 : decide ((l.length : Int) > 100) = false := decide_eq_false (by omega)
  have d2 : decide (100 < l.length) = false := decide_eq_false (by omega)
  have d3 : decide ((s.size : Int) > 4096) = false := decide_eq_false (by omega)
  have d4 : decide (4096 < s.size) = false := decide_eq_false (by omega)
  obtain ⟨ls, hls⟩ : ∃ ls : List UInt8, ls = s.data.toList := ⟨_, rfl⟩
  have hsd : s = ⟨ls.toArray⟩ := by rw [hls]
  have hll : ls.length ≤ 4096 := by
    rw [hls, Array.length_toList]
    exact hs1
  have hget : ∀ W : World, Calls Tryd.prog 15 #[.string s] W fun e w' => GetTo ls e w' ∧ Below W.heap.size W w' := fun W => by
    rw [hsd]
    exact eGet_any ls (by omega) W
  have HGET := Lib.hid hget
  have HSD := Lib.hid hsd
  have HLL := Lib.hid hll
  have HL1 := Lib.hid hl1
  clear hbig hs1 hl1 hls hget hsd hll
  -- what was put is got
  have hput : ∀ W, Below w.heap.size w W → Calls Tryd.prog 13 #[.slice A l.length c] W fun e w' => e = .returned (putV l) ∧ Below W.heap.size W w' := fun W hW => ePut_any (H.out.keep hW) HR.out (by have := HL1.out; omega)
  have HPUT := Lib.hid hput
  clear hput
  go_enter Tryd.func4, Tryd.ntmps4
  cases hall : l.all entB with
  | false =>
    have hpv : putV l = .tuple #[.string ⟨#[]⟩, .int .i64 2] := by rw [putV, if_neg (by rw [hall]; decide)]
    rw [hpv] at HPUT
    clear hall hpv
    go_upto_region 9 with (first
      | ((with_reducible refine (HPUT.out _ (Below.refl _ _)).mono ?_); rintro e w2 ⟨rfl, hb2⟩; (have HB2 := Lib.hid hb2); clear hb2)
      | ((with_reducible refine (HGET.out _).mono ?_); rintro e wt ⟨hgt, hb3⟩; obtain ⟨A2, n2, c2, er, rfl, hdis⟩ := get_form hgt; (have HBT := Lib.hid (HB2.out.trans (hb3.mono HB2.out.size))); (have HDIS := Lib.hid hdis); clear hgt hb3 hdis))
    have hdis := HDIS.out
    clear HDIS
    rcases hdis with ⟨rfl, xs, hlr, hxs, rfl, hR2⟩ | ⟨rfl, rfl⟩
    rotate_left
    · go_wp2_with ((with_reducible refine (HAL.out _ HBT.out).mono ?_); rintro e w9 ⟨rfl, hb9⟩; (have HB9 := Lib.hid hb9); clear hb9)
      go_ret
      exact ⟨rfl, HBT.out.trans (HB9.out.mono HBT.out.size)⟩
    · have hxl : xs.length ≤ 4096 := by
        have := bytesL_ge xs
        have := HLL.out
        rw [hlr] at this
        omega
      have hpx : ∀ W, Below wt.heap.size wt W → Calls Tryd.prog 13 #[.slice A2 xs.length c2] W fun e w' => e = .returned (.tuple #[.string s, .int .i64 0]) ∧ Below W.heap.size W w' := fun W hW => by
        have := ePut_any (hR2.keep hW) (fun x hx => (hxs x hx).2) (by omega)
        rw [putV, if_pos (by rw [List.all_eq_true]; exact fun x hx => (hxs x hx).1), ← hlr, ← HSD.out] at this
        exact this
      have HPX := Lib.hid hpx
      have HR2 := Lib.hid hR2
      have HXS := Lib.hid hxs
      have HXL := Lib.hid hxl
      clear hlr hpx hR2 hxs hxl
      go_wp2
      go_loopw [11] (fun i wr => ∃ k : Nat, k ≤ xs.length ∧ i = .int .i64 k ∧ Below wt.heap.size wt wr) (fun i _ => xs.length - (intOf i).toNat)
      case atStart => exact ⟨0, Nat.zero_le _, rfl, Below.refl _ _⟩
      case round =>
        obtain ⟨k, hk, rfl, hbl⟩ := hrel
        have HBL := Lib.hid hbl
        clear hbl
        by_cases hlt : k < xs.length
        · obtain ⟨b, o, rfl, hb, g0, g1, g2, g3, g4, g5, g6, g7, g8, g9, g10, g11, g12⟩ := kEnt_at (HR2.out.keep HBL.out) hlt
          have hi1 : (k : Int) < (xs.length : Int) := by omega
          have hi0 : (0 : Int) ≤ (k : Int) := by omega
          have hwr : IntKind.i64.wrap ((k : Int) + 1) = (k : Int) + 1 := IntWalk.i64_in _ (by have := HXL.out; omega)
          have hchk := fun W => eCheck_any xs[k] W
          have hen := (HXS.out _ (List.getElem_mem hlt)).1
          rw [hen] at hchk
          have e2 : errOf true = 0 := rfl
          rw [e2] at hchk
          simp only [EntV.agg] at hchk
          have HCHK := Lib.hid hchk
          clear hchk hen e2
          go_wp2_with ((with_reducible refine (HCHK.out _).mono ?_); rintro e w3 ⟨rfl, hb3⟩; (have HB3 := Lib.hid hb3); clear hb3)
          go_roundw
          case rel => exact ⟨k + 1, hlt, by go_num, HBL.out.trans (HB3.out.mono HBL.out.size)⟩
          case measure => simp [intOf]; omega
        · obtain rfl : k = xs.length := by omega
          clear hlt hk
          go_wp2_with (first
            | ((with_reducible refine (HPX.out _ HBL.out).mono ?_); rintro e w3 ⟨rfl, hb3⟩; (have HB3 := Lib.hid (HBT.out.trans ((HBL.out.trans (hb3.mono HBL.out.size)).mono HBT.out.size))); clear hb3)
            | ((with_reducible refine (HAL.out _ HB3.out).mono ?_); rintro e w9 ⟨rfl, hb9⟩; (have HB9 := Lib.hid hb9); clear hb9))
          go_ret
          exact ⟨rfl, HB3.out.trans (HB9.out.mono HB3.out.size)⟩

  | true =>
    have hpv : putV l = .tuple #[.string ⟨(bytesL l).toArray⟩, .int .i64 0] := by rw [putV, if_pos hall]
    have hg2 : ∀ W : World, Calls Tryd.prog 15 #[.string ⟨(bytesL l).toArray⟩] W fun e w' => (∃ A c, e = .returned (.tuple #[.slice A l.length c, .int .i64 0]) ∧ kEnt.R w' (.slice A l.length c) l) ∧ Below W.heap.size W w' := fun W =>
      (eGet_any (bytesL l) (by have := bytesL_len HR.out hall; have := HL1.out; omega) W).mono fun e w' ⟨h1, h2⟩ => ⟨get_put (fun x hx => ⟨List.all_eq_true.1 hall x hx, HR.out x hx⟩) h1, h2⟩
    rw [hpv] at HPUT
    have HG2 := Lib.hid hg2
    clear hall hpv hg2
    go_upto_region 9 with (first
      | ((with_reducible refine (HPUT.out _ (Below.refl _ _)).mono ?_); rintro e w1 ⟨rfl, hb1⟩; (have HB1 := Lib.hid hb1); clear hb1)
      | ((with_reducible refine (HG2.out _).mono ?_); rintro e w2 ⟨⟨A1, c1, rfl, hR1⟩, hb2⟩; (have HB12 := Lib.hid (HB1.out.trans (hb2.mono HB1.out.size))); (have HR1 := Lib.hid hR1); clear hb2 hR1)
      | ((with_reducible refine (same14_yes HR1.out (H.out.keep HB12.out)).mono ?_); rintro e w3 ⟨rfl, hb3⟩; (have HB2 := Lib.hid (HB12.out.trans (hb3.mono HB12.out.size))); clear hb3)
      | ((with_reducible refine (HGET.out _).mono ?_); rintro e wt ⟨hgt, hb3⟩; obtain ⟨A2, n2, c2, er, rfl, hdis⟩ := get_form hgt; (have HBT := Lib.hid (HB2.out.trans (hb3.mono HB2.out.size))); (have HDIS := Lib.hid hdis); clear hgt hb3 hdis))
    have hdis := HDIS.out
    clear HDIS
    rcases hdis with ⟨rfl, xs, hlr, hxs, rfl, hR2⟩ | ⟨rfl, rfl⟩
    rotate_left
    · go_wp2_with ((with_reducible refine (HAL.out _ HBT.out).mono ?_); rintro e w9 ⟨rfl, hb9⟩; (have HB9 := Lib.hid hb9); clear hb9)
      go_ret
      exact ⟨rfl, HBT.out.trans (HB9.out.mono HBT.out.size)⟩
    · have hxl : xs.length ≤ 4096 := by
        have := bytesL_ge xs
        have := HLL.out
        rw [hlr] at this
        omega
      have hpx : ∀ W, Below wt.heap.size wt W → Calls Tryd.prog 13 #[.slice A2 xs.length c2] W fun e w' => e = .returned (.tuple #[.string s, .int .i64 0]) ∧ Below W.heap.size W w' := fun W hW => by
        have := ePut_any (hR2.keep hW) (fun x hx => (hxs x hx).2) (by omega)
        rw [putV, if_pos (by rw [List.all_eq_true]; exact fun x hx => (hxs x hx).1), ← hlr, ← HSD.out] at this
        exact this
      have HPX := Lib.hid hpx
      have HR2 := Lib.hid hR2
      have HXS := Lib.hid hxs
      have HXL := Lib.hid hxl
      clear hlr hpx hR2 hxs hxl
      go_wp2
      go_loopw [11] (fun i wr => ∃ k : Nat, k ≤ xs.length ∧ i = .int .i64 k ∧ Below wt.heap.size wt wr) (fun i _ => xs.length - (intOf i).toNat)
      case atStart => exact ⟨0, Nat.zero_le _, rfl, Below.refl _ _⟩
      case round =>
        obtain ⟨k, hk, rfl, hbl⟩ := hrel
        have HBL := Lib.hid hbl
        clear hbl
        by_cases hlt : k < xs.length
        · obtain ⟨b, o, rfl, hb, g0, g1, g2, g3, g4, g5, g6, g7, g8, g9, g10, g11, g12⟩ := kEnt_at (HR2.out.keep HBL.out) hlt
          have hi1 : (k : Int) < (xs.length : Int) := by omega
          have hi0 : (0 : Int) ≤ (k : Int) := by omega
          have hwr : IntKind.i64.wrap ((k : Int) + 1) = (k : Int) + 1 := IntWalk.i64_in _ (by have := HXL.out; omega)
          have hchk := fun W => eCheck_any xs[k] W
          have hen := (HXS.out _ (List.getElem_mem hlt)).1
          rw [hen] at hchk
          have e2 : errOf true = 0 := rfl
          rw [e2] at hchk
          simp only [EntV.agg] at hchk
          have HCHK := Lib.hid hchk
          clear hchk hen e2
          go_wp2_with ((with_reducible refine (HCHK.out _).mono ?_); rintro e w3 ⟨rfl, hb3⟩; (have HB3 := Lib.hid hb3); clear hb3)
          go_roundw
          case rel => exact ⟨k + 1, hlt, by go_num, HBL.out.trans (HB3.out.mono HBL.out.size)⟩
          case measure => simp [intOf]; omega
        · obtain rfl : k = xs.length := by omega
          clear hlt hk
          go_wp2_with (first
            | ((with_reducible refine (HPX.out _ HBL.out).mono ?_); rintro e w3 ⟨rfl, hb3⟩; (have HB3 := Lib.hid (HBT.out.trans ((HBL.out.trans (hb3.mono HBL.out.size)).mono HBT.out.size))); clear hb3)
            | ((with_reducible refine (HAL.out _ HB3.out).mono ?_); rintro e w9 ⟨rfl, hb9⟩; (have HB9 := Lib.hid hb9); clear hb9))
          go_ret
          exact ⟨rfl, HB3.out.trans (HB9.out.mono HB3.out.size)⟩
end Go.Proofs.YtljfloopjgpaeabDoor
