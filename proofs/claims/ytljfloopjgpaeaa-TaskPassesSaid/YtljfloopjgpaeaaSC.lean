/- order.Took: the walk. -/
import Derived.Test.YtljfloopjgpaeaaSB
namespace Go.Proofs.Ytljfloopjgpaeaa
set_option linter.unusedVariables false
set_option linter.unusedSimpArgs false
open Go.RowKit
attribute [local go_sem] Oper.semAt_some
set_option maxRecDepth 100000
theorem OrdB.drewN {w : World} {b : Nat} {a : Nat → Int} {n : Nat} (h : OrdB w b a n) (q : Nat) : OrdB (w.drewN q) b a n := ⟨h.here⟩
theorem copy_run {W : World} {b : Nat} {a : Nat → Int} {n : Nat} (h : OrdB W b a n) (hn : n ≤ 6) (j : Nat) (hj : j < n) : ∃ W', (Builtin.copy_ #[38, 38] 3 #[.slice (if 6 = j then some ⟨b, 0, none⟩ else some ⟨b, j, none⟩) (n - j) (6 - j), .slice (if j = 5 then some ⟨b, 0, none⟩ else some ⟨b, j + 1, none⟩) (n - (j + 1)) (5 - j)]).run Try.prog W = .ok (goInt (moved a n j).length) W' ∧ OrdB W' b (upF a n j) n ∧ Only b W W' := by
  have hsz : (Try.prog.info? 3).map (·.size) = some 1 := by kernel_rfl
  have hlen : (moved a n j).length = n - 1 - j := by simp [moved]
  rw [if_neg (by omega)]
  by_cases h0 : n - 1 - j = 0
  · refine ⟨W, ?_, h.congr (fun i hi => ?_), Only.refl _ _⟩
    · rw [hlen, h0]
      exact run_copy_none (P := Try.prog) W 38 38 3 3 _ _ _ _ _ _ Try.underlying38 hsz (by rw [show n - (j + 1) = 0 by omega]; simp)
    · unfold upF
      by_cases e1 : i < j
      · rw [if_pos e1]
      · rw [if_neg e1, if_neg (by omega)]
  · rw [if_neg (by omega)]
    refine ⟨_, run_copy_row (P := Try.prog) W 38 38 3 3 b j (n - j) (6 - j) ⟨b, j + 1, none⟩ (n - (j + 1)) (5 - j) (ordC a n).toArray 179 (moved a n j) Try.underlying38 hsz h.here (by rw [hlen]; show _ = min _ _; omega) (fun i v hv => ?_) (by rw [hlen]; simp [ordC]; omega) (fun v hv => ?_), ⟨?_⟩, only_setRow _ _ _⟩
    · obtain ⟨h1, h2⟩ := List.getElem?_eq_some_iff.1 hv
      rw [hlen] at h1
      simp only [moved, List.getElem_map, List.getElem_range] at h2
      subst h2
      have hc := h.cell (i := j + 1 + i) (by omega)
      rw [show (Addr.add ⟨b, j + 1, none⟩ i : Addr) = ⟨b, j + 1 + i, none⟩ by unfold Addr.add; split <;> simp_all]
      exact hc
    · obtain ⟨i, _, rfl⟩ := List.mem_map.1 hv
      rfl
    · have hs := splice_up a n j hn hj
      unfold splice at hs
      rw [← List.append_assoc] at hs
      rw [setRow_heap W b _ _ 179 _ h.here, show ((ordC a n).toArray.toList) = ordC a n from rfl, hs]
      rfl
set_option maxHeartbeats 2000000 in
theorem took_at {w : World} {b : Nat} {a : Nat → Int} {n : Nat} (h : OrdB w b a n) (hn : n ≤ 6) (k : Int) (j : Nat) (hj : j < n) (hix : Lib.idxOf ((ordL a).take n) k = j) :
    Calls Try.prog 97 #[.pointer (some ⟨b, 0, none⟩), .int .i64 k] w fun e w' => e = .returned (.int .i64 0) ∧ OrdB w' b (tookF a n j k) n ∧ Only b w w' := by
  have hl := h.lt
  have hrow := row_any h hn
  have hix2 := fun q : Nat => Try.slices_Index_int b 0 n 6 (ordL a) k (w.drewN q) (by show n ≤ 6; omega) (by omega) (fun j hj => h.list j hj)
  rw [hix] at hix2
  have HR := Lib.hid hrow
  have HL := Lib.hid hix2
  have HG := Lib.hid h
  have w1 : IntKind.i64.wrap ((j : Int) + 1) = (j : Int) + 1 := IntWalk.i64_in _ (by omega)
  obtain ⟨p, hp⟩ : ∃ p, p + 1 = n := ⟨n - 1, by omega⟩
  have w2 : IntKind.i64.wrap ((n : Int) - 1) = (p : Int) := (IntWalk.i64_in _ (by omega)).trans (by omega)
  have p1 : (0 : Int) ≤ (p : Int) := by omega
  have p2 : (p : Int) < (n : Int) := by omega
  have g0 : decide ((j : Int) < 0) = false := by simp
  have e1 : (0 : Int) ≤ (j : Int) ∧ (j : Int) ≤ (n : Int) := by omega
  have e2 : (0 : Int) ≤ (j : Int) + 1 ∧ (j : Int) + 1 ≤ (n : Int) := by omega
  clear h hrow hix2 hix
  go_enter Try.func97, Try.ntmps97
  go_upto_region 7 with (first | (go_at_call 120; (with_reducible refine HR.out.mono ?_); rintro e w' ⟨rfl, q, rfl⟩) | (go_at_call 121; (with_reducible refine (HL.out _).mono ?_); rintro e w' ⟨rfl, rfl⟩))
  obtain ⟨W', hrun, hup, hon⟩ := copy_run (HG.out.drewN (q + 1)) hn j hj
  have HU := Lib.hid hup
  have HO := Lib.hid hon
  have u6 := hup.len
  have uc := hup.cell (i := p) (by omega)
  have uf := hup.froz p
  have ul := hup.lt
  have hj6 : j ≤ 5 := by omega
  have HP := Lib.hid hp
  clear hup hon HR HL hp
  go_region
  all_goals go_wp2
  all_goals go_ret
  all_goals exact ⟨rfl, (HU.out.set (i := p) (by have := HP.out; omega) k).congr (fun i hi => by unfold tookF; rw [show n - 1 = p by have := HP.out; omega] <;> (try simp only [h])), (((Only.refl b w).drewN (q + 1)).trans HO.out).set _ _⟩
end Go.Proofs.Ytljfloopjgpaeaa
