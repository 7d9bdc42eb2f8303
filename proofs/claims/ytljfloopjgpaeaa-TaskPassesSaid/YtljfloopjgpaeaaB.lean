/- Contracts of package prog's and ins' small functions: walks. -/
import Derived.Test.YtljfloopjgpaeaaProg
import Derived.Test.YtljfloopjgpaeaaA
import Derived.WalkKit
import Derived.Deep.QuietTactic
import Derived.BigQuiet
import Derived.WalkLawsBesides
import Derived.WalkSpells
import Derived.Lib.Hide
import Derived.LoopTactic
namespace Go.Proofs.Ytljfloopjgpaeaa
set_option linter.unusedVariables false
set_option linter.unusedSimpArgs false
open Go.RowKit
set_option maxRecDepth 100000

def wrongV (k pc e : Int) : Value := .iface 109 (.agg #[.int .i64 k, .int .i64 pc, .int .i64 e])
/-- How a check ends: none: all is well; else the panic. -/
def endW : Option (Int × Int × Int) → Ending
  | none => .returned (.tuple #[])
  | some (k, pc, e) => .panicked [{ v := wrongV k pc e, recovered := false }]

theorem need_any (b : Bool) (k pc e : Int) (w : World) : Calls Try.prog 99 #[.bool b, .int .i64 k, .int .i64 pc, .int .i64 e] w fun e' w' => e' = endW (if b then none else some (k, pc, e)) ∧ w = w' := by
  cases b
  · go_enter Try.func99, Try.ntmps99
    go_wp2
    exact ⟨rfl, rfl, rfl⟩
  · go_enter Try.func99, Try.ntmps99
    go_wp2
    go_end0
    exact ⟨rfl, rfl⟩

theorem at_some (c1 c3 : Value) (A : Option Addr) (c : Nat) (P : ProgV) (w : World) (h : RProg w c1 (.slice A P.codes.length c) c3 P) (i j : Nat) (hi : i < P.codes.length) (hj : j < P.codes[i].length) :
    Calls Try.prog 24 #[.agg #[c1, .slice A P.codes.length c, c3], .int .i64 i, .int .i64 j] w fun e w' => e = .returned (.tuple #[(P.codes[i][j]).agg, .bool true]) ∧ Below w.heap.size w w' := by
  obtain ⟨b, o, A2, c2, rfl, hb, h1, h2, _, _, hl2⟩ := kInss_at h.codes hi
  obtain ⟨b2, o2, rfl, hb2, g0, g1, g2, g3, g4, _⟩ := kIns_at h2 hj
  have hl := (h.codes.val).choose_spec.choose_spec.2.2.2
  clear h h2
  go_enter Try.func24, Try.ntmps24
  go_wp2
  refine bodyPost_ret (v := .tuple #[(P.codes[i][j]).agg, .bool true]) (by simp [results, Try.results24, go_sem, InsV.agg]) rfl ⟨rfl, ?_⟩
  (repeat (first | with_reducible exact Below.refl _ _ | (with_reducible refine Below.setCell ?_ (by first | (simp; done) | (simp; omega) | omega) _) | (with_reducible refine Below.alloc ?_ (by first | (simp; done) | (simp; omega) | omega) _) | (with_reducible refine Below.drew ?_)))

def InsV.zero : InsV := ⟨0, 0, 0, 0, 0⟩
/-- The instruction at a place. -/
def atV (P : ProgV) (i j : Int) : Option InsV := if 0 ≤ i ∧ 0 ≤ j then (P.codes[i.toNat]?).bind (fun l => l[j.toNat]?) else none

theorem at_any (c1 c3 : Value) (A : Option Addr) (c : Nat) (P : ProgV) (w : World) (h : RProg w c1 (.slice A P.codes.length c) c3 P) (i j : Int) :
    Calls Try.prog 24 #[.agg #[c1, .slice A P.codes.length c, c3], .int .i64 i, .int .i64 j] w fun e w' => e = .returned (.tuple #[((atV P i j).getD InsV.zero).agg, .bool (atV P i j).isSome]) ∧ Below w.heap.size w w' := by
  obtain ⟨_, _, _, _, _, hl⟩ := h.codes.val
  by_cases h1 : 0 ≤ i
  · obtain ⟨i, rfl⟩ := Int.eq_ofNat_of_zero_le h1
    by_cases h2 : i < P.codes.length
    · by_cases h3 : 0 ≤ j
      · obtain ⟨j, rfl⟩ := Int.eq_ofNat_of_zero_le h3
        obtain ⟨b, o, A2, c2, rfl, hb, g1, g2, _, _, hl2⟩ := kInss_at h.codes h2
        by_cases h4 : j < P.codes[i].length
        · have hs : atV P i j = some P.codes[i][j] := by simp [atV, h2, h4]
          rw [hs]
          exact at_some c1 c3 _ c P w h i j h2 h4
        · have hs : atV P i j = none := by simp [atV, h2]; omega
          rw [hs]
          clear h g2 hs
          go_enter Try.func24, Try.ntmps24
          go_wp2
          refine bodyPost_ret (v := .tuple #[InsV.zero.agg, .bool false]) (by simp [results, Try.results24, go_sem, InsV.agg, InsV.zero]) rfl ⟨rfl, ?_⟩
          (repeat (first | with_reducible exact Below.refl _ _ | (with_reducible refine Below.setCell ?_ (by first | (simp; done) | (simp; omega) | omega) _) | (with_reducible refine Below.alloc ?_ (by first | (simp; done) | (simp; omega) | omega) _) | (with_reducible refine Below.drew ?_)))
      · have hs : atV P i j = none := by simp [atV, h3]
        rw [hs]
        clear h hs
        go_enter Try.func24, Try.ntmps24
        go_wp2
        refine bodyPost_ret (v := .tuple #[InsV.zero.agg, .bool false]) (by simp [results, Try.results24, go_sem, InsV.agg, InsV.zero]) rfl ⟨rfl, ?_⟩
        (repeat (first | with_reducible exact Below.refl _ _ | (with_reducible refine Below.setCell ?_ (by first | (simp; done) | (simp; omega) | omega) _) | (with_reducible refine Below.alloc ?_ (by first | (simp; done) | (simp; omega) | omega) _) | (with_reducible refine Below.drew ?_)))
    · have hs : atV P i j = none := by simp [atV, h2]
      rw [hs]
      clear h hs
      go_enter Try.func24, Try.ntmps24
      go_wp2
      refine bodyPost_ret (v := .tuple #[InsV.zero.agg, .bool false]) (by simp [results, Try.results24, go_sem, InsV.agg, InsV.zero]) rfl ⟨rfl, ?_⟩
      (repeat (first | with_reducible exact Below.refl _ _ | (with_reducible refine Below.setCell ?_ (by first | (simp; done) | (simp; omega) | omega) _) | (with_reducible refine Below.alloc ?_ (by first | (simp; done) | (simp; omega) | omega) _) | (with_reducible refine Below.drew ?_)))
  · have hs : atV P i j = none := by simp [atV, h1]
    rw [hs]
    clear h hs
    go_enter Try.func24, Try.ntmps24
    go_wp2
    refine bodyPost_ret (v := .tuple #[InsV.zero.agg, .bool false]) (by simp [results, Try.results24, go_sem, InsV.agg, InsV.zero]) rfl ⟨rfl, ?_⟩
    (repeat (first | with_reducible exact Below.refl _ _ | (with_reducible refine Below.setCell ?_ (by first | (simp; done) | (simp; omega) | omega) _) | (with_reducible refine Below.alloc ?_ (by first | (simp; done) | (simp; omega) | omega) _) | (with_reducible refine Below.drew ?_)))

theorem fits_any (x : CaseV) (n : Int) (w : World) : Calls Try.prog 126 #[x.agg, .int .i64 n] w fun e w' => e = .returned (.bool (fitsB x n)) ∧ Below w.heap.size w w' := by
  obtain ⟨send, ch, val, ok⟩ := x
  simp only [CaseV.agg]
  go_enter Try.func126, Try.ntmps126
  go_wp2
  all_goals
    go_ret
    exact ⟨ret_bool (by simp [fitsB, regB, *] <;> omega), by (repeat (first | with_reducible exact Below.refl _ _ | (with_reducible refine Below.setCell ?_ (by first | (simp; done) | (simp; omega) | omega) _) | (with_reducible refine Below.alloc ?_ (by first | (simp; done) | (simp; omega) | omega) _) | (with_reducible refine Below.drew ?_)))⟩

theorem fits_any' (send : Bool) (ch val ok n : Int) (w : World) : Calls Try.prog 126 #[.agg #[.bool send, .int .i64 ch, .int .i64 val, .int .i64 ok], .int .i64 n] w fun e w' => e = .returned (.bool (fitsB ⟨send, ch, val, ok⟩ n)) ∧ Below w.heap.size w w' := fits_any ⟨send, ch, val, ok⟩ n w
theorem need_ok (k pc e : Int) (w : World) : Calls Try.prog 99 #[.bool true, .int .i64 k, .int .i64 pc, .int .i64 e] w fun e' w' => e' = .returned (.tuple #[]) ∧ w = w' := need_any true k pc e w
theorem need_no (k pc e : Int) (w : World) : Calls Try.prog 99 #[.bool false, .int .i64 k, .int .i64 pc, .int .i64 e] w fun e' w' => e' = .panicked [{ v := wrongV k pc e, recovered := false }] ∧ w = w' := need_any false k pc e w

end Go.Proofs.Ytljfloopjgpaeaa
