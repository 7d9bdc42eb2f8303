/- live: where lags begin, and what ends them. -/
import Derived.Test.YtljfloopjgpaeabLA
namespace Go.Proofs.Ytljfloopjgpaeab
set_option linter.unusedVariables false
set_option linter.unusedSimpArgs false
open Go.RowKit
attribute [local go_sem] Oper.semAt_some
set_option maxRecDepth 100000
def markB (kk : Int) (e : EntV) (who : Int) : Bool := e.kind == kk && e.task == who
def doneB (e : EntV) (who : Int) : Bool := e.task == who && (e.kind != 6 && (!(e.kind == 11 && e.peer != -1) && ((decide (1 ≤ e.kind) && decide (e.kind ≤ 11)) || e.kind == 23)))
def freeB (e : EntV) (who : Int) : Bool := e.kind == 26 && e.worker == who
def leftW (l : List EntV) (t : Int) : Nat → Option Int
  | 0 => none
  | j + 1 => if markB 21 (l.getD j default) t then some (l.getD j default).worker else leftW l t j
/-- Where a lag of a kind begins, and of whom. -/
def readB (e : EntV) : Option Int := if e.kind = 22 ∨ e.kind = 23 then some e.task else if e.kind = 9 then some e.peer else none
def workB (e : EntV) : Option Int := if e.kind = 21 then some e.task else none
def leftB (l : List EntV) (i : Nat) (e : EntV) : Option Int := if e.kind = 8 ∨ e.kind = 10 then leftW l e.task i else none
def wokeB (e : EntV) : Option Int := if e.kind = 3 ∨ e.kind = 4 then some e.peer else if e.kind = 6 then some e.task else none
def begB (k : Nat) (l : List EntV) (i : Nat) : Option Int := match k with
  | 0 => readB (l.getD i default)
  | 1 => workB (l.getD i default)
  | 2 => leftB l i (l.getD i default)
  | _ => wokeB (l.getD i default)
def endB (k : Nat) (e : EntV) (who : Int) : Bool := match k with
  | 0 => markB 21 e who
  | 1 => doneB e who
  | 2 => freeB e who
  | _ => markB 22 e who
def BegE (o : Option Int) (e : Ending) : Prop := ∃ who is, e = .returned (.tuple #[.int .i64 who, .bool is]) ∧ (is = true → o = some who) ∧ (is = false → o = none)
set_option maxHeartbeats 2000000 in
theorem mark1_any (kk who : Int) (e : EntV) {w : World} {b : Nat} (hb : b < w.heap.size) (hk : w.cell? ⟨b, 0, none⟩ = some (.int .u8 kk)) : Calls Try.prog 65 #[e.agg, .int .i64 who, .pointer (some ⟨b, 0, none⟩)] w fun r w' => r = .returned (.bool (markB kk e who)) ∧ Below w.heap.size w w' := by
  obtain ⟨at_, kind, worker, task, peer, ch, cs, pc, val, val2, ok, code, set⟩ := e
  simp only [EntV.agg]
  by_cases h1 : kind = kk
  · subst h1
    cases h2 : (task == who)
    all_goals
      go_enter Try.func65, Try.ntmps65
      go_wp2
      go_ret
      exact ⟨by simp [markB, h2], by (repeat (first | with_reducible exact Below.refl _ _ | (with_reducible refine Below.setCell ?_ (by first | (simp; done) | (simp; omega) | omega) _) | (with_reducible refine Below.alloc ?_ (by first | (simp; done) | (simp; omega) | omega) _) | (with_reducible refine Below.drew ?_)))⟩
  · have h1' : (kind == kk) = false := by simpa using h1
    go_enter Try.func65, Try.ntmps65
    go_wp2
    go_ret
    exact ⟨by simp [markB, h1], by (repeat (first | with_reducible exact Below.refl _ _ | (with_reducible refine Below.setCell ?_ (by first | (simp; done) | (simp; omega) | omega) _) | (with_reducible refine Below.alloc ?_ (by first | (simp; done) | (simp; omega) | omega) _) | (with_reducible refine Below.drew ?_)))⟩
theorem mark_any (kk : Int) (w : World) : Calls Try.prog 48 #[.int .u8 kk] w fun r w' => r = .returned (.func (.func 65) #[] #[.pointer (some ⟨w.heap.size, 0, none⟩)]) ∧ w' = w.alloc (.cells #[.int .u8 kk] 5) := by
  have hmf : ∀ (fn : Fn) (first cap : Array Value) (w : World), (Instr.makeFunc fn first cap).run Try.prog w = .ok (.func fn first cap) w := fun _ _ _ _ => rfl
  go_enter Try.func48, Try.ntmps48
  go_wp2
  go_ret
  exact ⟨rfl, rfl⟩
set_option maxHeartbeats 2000000 in
theorem free_any (who : Int) (e : EntV) (w : World) : Calls Try.prog 52 #[e.agg, .int .i64 who] w fun r w' => r = .returned (.bool (freeB e who)) ∧ Below w.heap.size w w' := by
  obtain ⟨at_, kind, worker, task, peer, ch, cs, pc, val, val2, ok, code, set⟩ := e
  simp only [EntV.agg]
  by_cases h1 : kind = 26
  · subst h1
    cases h2 : (worker == who)
    all_goals
      go_enter Try.func52, Try.ntmps52
      go_wp2
      go_ret
      exact ⟨by simp [freeB, h2], by (repeat (first | with_reducible exact Below.refl _ _ | (with_reducible refine Below.setCell ?_ (by first | (simp; done) | (simp; omega) | omega) _) | (with_reducible refine Below.alloc ?_ (by first | (simp; done) | (simp; omega) | omega) _) | (with_reducible refine Below.drew ?_)))⟩
  · have h1' : (kind == 26) = false := by simpa using h1
    go_enter Try.func52, Try.ntmps52
    go_wp2
    go_ret
    exact ⟨by simp [freeB, h1], by (repeat (first | with_reducible exact Below.refl _ _ | (with_reducible refine Below.setCell ?_ (by first | (simp; done) | (simp; omega) | omega) _) | (with_reducible refine Below.alloc ?_ (by first | (simp; done) | (simp; omega) | omega) _) | (with_reducible refine Below.drew ?_)))⟩
set_option maxHeartbeats 4000000 in
theorem done_any (who : Int) (e : EntV) (w : World) : Calls Try.prog 50 #[e.agg, .int .i64 who] w fun r w' => r = .returned (.bool (doneB e who)) ∧ Below w.heap.size w w' := by
  obtain ⟨at_, kind, worker, task, peer, ch, cs, pc, val, val2, ok, code, set⟩ := e
  simp only [EntV.agg]
  cases h1 : (task != who)
  · have h1' : (task == who) = true := by simpa using h1
    by_cases h2 : kind = 6
    · subst h2
      go_enter Try.func50, Try.ntmps50
      go_wp2
      go_ret
      exact ⟨by simp [doneB], by (repeat (first | with_reducible exact Below.refl _ _ | (with_reducible refine Below.setCell ?_ (by first | (simp; done) | (simp; omega) | omega) _) | (with_reducible refine Below.alloc ?_ (by first | (simp; done) | (simp; omega) | omega) _) | (with_reducible refine Below.drew ?_)))⟩
    · have h2' : (kind == 6) = false := by simpa using h2
      by_cases h3 : kind = 11
      · subst h3
        cases h4 : (peer != -1)
        all_goals
          go_enter Try.func50, Try.ntmps50
          go_wp2
          go_ret
          exact ⟨by simp [doneB, h1', h4], by (repeat (first | with_reducible exact Below.refl _ _ | (with_reducible refine Below.setCell ?_ (by first | (simp; done) | (simp; omega) | omega) _) | (with_reducible refine Below.alloc ?_ (by first | (simp; done) | (simp; omega) | omega) _) | (with_reducible refine Below.drew ?_)))⟩
      · have h3' : (kind == 11) = false := by simpa using h3
        cases h5 : decide (kind ≥ 1)
        · have h5' : decide (1 ≤ kind) = false := h5
          cases h7 : (kind == 23)
          all_goals
            go_enter Try.func50, Try.ntmps50
            go_wp2
            go_ret
            exact ⟨by simp [doneB, h1', h2, h3, h5', h7], by (repeat (first | with_reducible exact Below.refl _ _ | (with_reducible refine Below.setCell ?_ (by first | (simp; done) | (simp; omega) | omega) _) | (with_reducible refine Below.alloc ?_ (by first | (simp; done) | (simp; omega) | omega) _) | (with_reducible refine Below.drew ?_)))⟩
        · have h5' : decide (1 ≤ kind) = true := h5
          cases h6 : decide (kind ≤ 11)
          · cases h7 : (kind == 23)
            all_goals
              go_enter Try.func50, Try.ntmps50
              go_wp2
              go_ret
              exact ⟨by simp [doneB, h1', h2, h3, h5', h6, h7], by (repeat (first | with_reducible exact Below.refl _ _ | (with_reducible refine Below.setCell ?_ (by first | (simp; done) | (simp; omega) | omega) _) | (with_reducible refine Below.alloc ?_ (by first | (simp; done) | (simp; omega) | omega) _) | (with_reducible refine Below.drew ?_)))⟩
          · go_enter Try.func50, Try.ntmps50
            go_wp2
            go_ret
            exact ⟨by simp [doneB, h1', h2, h3, h5', h6], by (repeat (first | with_reducible exact Below.refl _ _ | (with_reducible refine Below.setCell ?_ (by first | (simp; done) | (simp; omega) | omega) _) | (with_reducible refine Below.alloc ?_ (by first | (simp; done) | (simp; omega) | omega) _) | (with_reducible refine Below.drew ?_)))⟩
  · have h1' : (task == who) = false := by simpa using h1
    go_enter Try.func50, Try.ntmps50
    go_wp2
    go_ret
    exact ⟨by simp [doneB, h1'], by (repeat (first | with_reducible exact Below.refl _ _ | (with_reducible refine Below.setCell ?_ (by first | (simp; done) | (simp; omega) | omega) _) | (with_reducible refine Below.alloc ?_ (by first | (simp; done) | (simp; omega) | omega) _) | (with_reducible refine Below.drew ?_)))⟩
end Go.Proofs.Ytljfloopjgpaeab
