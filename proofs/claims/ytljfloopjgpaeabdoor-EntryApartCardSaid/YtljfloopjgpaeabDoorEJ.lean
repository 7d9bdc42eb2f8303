/- tollbar/entry: within, fields and the closure of Check. -/
import Derived.WalkKit
import Derived.Deep.QuietTactic
import Derived.BigQuiet
import Derived.WalkLawsBesides
import Derived.WalkSpells
import Derived.Lib.Hide
import Derived.LoopTactic
import Derived.RangeFuncNested
import Derived.RangeFuncBound
import Derived.RangeFuncCalls
import Derived.RangeFuncLeaves
import Derived.Shelf.Abstract
import Derived.Shelf.RegionOpen
import Derived.OwnWalkIn
import Derived.TacticsInMore
import Derived.LoopNIn
import Derived.LoopIn
import Derived.Deep.Cut
import Derived.BigRegion
import Derived.IntWalk
import Derived.Test.YtljfloopjgpaeabDoorEG
import Derived.Test.YtljfloopjgpaeabDoorEH
import Derived.Test.YtljfloopjgpaeabDoorQD
namespace Go.Proofs.YtljfloopjgpaeabDoor
set_option linter.unusedVariables false
set_option linter.unusedSimpArgs false
open Go.RowKit Go.Shelf
attribute [local go_sem] Oper.semAt_some
set_option maxRecDepth 100000
def leastOf (k : Int) (s : ByteArray) : Int := if s = s_worker then 0 else if s = s_task then 0 else if s = s_peer then (if k = 11 then -1 else 0) else if s = s_ch then 0 else if k = 9 then 0 else -1
def mostOf (k : Int) (s : ByteArray) : Int := if s = s_worker then 254 else if s = s_task then 31 else if s = s_peer then 31 else if s = s_ch then 5 else if k = 9 then 7 else 5
theorem within_any (k : Int) (s : ByteArray) (w : World) : Calls Tryd.prog 59 #[.int .u8 k, .string s] w fun e w' => e = .returned (.tuple #[.int .i64 (leastOf k s), .int .i64 (mostOf k s)]) ∧ w' = w := by
  have e1 : (s.toList == [119, 111, 114, 107, 101, 114]) = decide (s = s_worker) := by rw [← eqS, ByteArray.toList_eq s_worker]
  have e2 : (s.toList == [116, 97, 115, 107]) = decide (s = s_task) := by rw [← eqS, ByteArray.toList_eq s_task]
  have e3 : (s.toList == [112, 101, 101, 114]) = decide (s = s_peer) := by rw [← eqS, ByteArray.toList_eq s_peer]
  have e4 : (s.toList == [99, 104]) = decide (s = s_ch) := by rw [← eqS, ByteArray.toList_eq s_ch]
  go_enter Tryd.func59, Tryd.ntmps59
  by_cases c1 : s = s_worker
  · rw [decide_eq_true c1] at e1
    have d1 : leastOf k s = 0 := by simp [leastOf, c1]
    have d2 : mostOf k s = 254 := by simp [mostOf, c1]
    rw [d1, d2]
    clear c1 e2 e3 e4 d1 d2
    go_wp2
    refine bodyPost_ret (results_tmp2 rfl _ _ _) rfl ?_
    exact ⟨rfl, rfl⟩
  rw [decide_eq_false c1] at e1
  by_cases c2 : s = s_task
  · rw [decide_eq_true c2] at e2
    have d1 : leastOf k s = 0 := by simp [leastOf, c2]
    have d2 : mostOf k s = 31 := by simp [mostOf, c1, c2]
    rw [d1, d2]
    clear c1 c2 e3 e4 d1 d2
    go_wp2
    refine bodyPost_ret (results_tmp2 rfl _ _ _) rfl ?_
    exact ⟨rfl, rfl⟩
  rw [decide_eq_false c2] at e2
  by_cases c3 : s = s_peer
  · rw [decide_eq_true c3] at e3
    have d2 : mostOf k s = 31 := by simp [mostOf, c1, c2, c3]
    by_cases hk : k = 11
    · have d1 : leastOf k s = -1 := by simp [leastOf, c1, c2, c3, hk]
      rw [d1, d2]
      subst hk
      clear c1 c2 c3 e4 d1 d2
      go_wp2
      refine bodyPost_ret (results_tmp2 rfl _ _ _) rfl ?_
      exact ⟨rfl, rfl⟩
    · have d1 : leastOf k s = 0 := by simp [leastOf, c1, c2, c3, hk]
      rw [d1, d2]
      have d3 : (k == 11) = false := by simp [hk]
      clear c1 c2 c3 e4 d1 d2
      go_wp2
      refine bodyPost_ret (results_tmp2 rfl _ _ _) rfl ?_
      exact ⟨rfl, rfl⟩
  rw [decide_eq_false c3] at e3
  by_cases c4 : s = s_ch
  · rw [decide_eq_true c4] at e4
    have d1 : leastOf k s = 0 := by simp [leastOf, c1, c2, c3, c4]
    have d2 : mostOf k s = 5 := by simp [mostOf, c1, c2, c3, c4]
    rw [d1, d2]
    clear c1 c2 c3 c4 d1 d2
    go_wp2
    refine bodyPost_ret (results_tmp2 rfl _ _ _) rfl ?_
    exact ⟨rfl, rfl⟩
  rw [decide_eq_false c4] at e4
  by_cases hk : k = 9
  · have d1 : leastOf k s = 0 := by simp [leastOf, c1, c2, c3, c4, hk]
    have d2 : mostOf k s = 7 := by simp [mostOf, c1, c2, c3, c4, hk]
    rw [d1, d2]
    subst hk
    clear c1 c2 c3 c4 d1 d2
    go_wp2
    refine bodyPost_ret (results_tmp2 rfl _ _ _) rfl ?_
    exact ⟨rfl, rfl⟩
  · have d1 : leastOf k s = -1 := by simp [leastOf, c1, c2, c3, c4, hk]
    have d2 : mostOf k s = 5 := by simp [mostOf, c1, c2, c3, c4, hk]
    rw [d1, d2]
    have d3 : (k == 9) = false := by simp [hk]
    clear c1 c2 c3 c4 d1 d2
    go_wp2
    refine bodyPost_ret (results_tmp2 rfl _ _ _) rfl ?_
    exact ⟨rfl, rfl⟩

theorem check1_any {w : World} {F : Nat} {u : Value} {has : List ByteArray} (h : kStr.R w u has) (hF : w.cell? ⟨F, 1, none⟩ = some u) (hB : F < w.heap.size) (s : ByteArray) :
    Calls Tryd.prog 56 #[.string s, .pointer (some ⟨F, 0, none⟩)] w fun e w' => e = .returned (.bool (hasS has s)) ∧ Below w.heap.size w w' := by
  obtain ⟨A, c, rfl, _, _, _⟩ := h.val
  have hc := fun W hb => containsS_any (w := W) (h.keep hb) s
  have HC := Lib.hid hc
  clear hc h
  go_enter Tryd.func56, Tryd.ntmps56
  go_wp2_with ((with_reducible refine (HC.out _ (by (repeat (first | with_reducible exact Below.refl _ _ | (with_reducible refine Below.setCell ?_ (by first | (simp; done) | (simp; omega) | omega) _) | (with_reducible refine Below.alloc ?_ (by first | (simp; done) | (simp; omega) | omega) _) | (with_reducible refine Below.drew ?_))))).mono ?_); rintro e w' ⟨rfl, hb⟩)
  go_ret
  exact ⟨rfl, hb⟩

def eFields0 : List (ByteArray × Nat) := [(s_worker, 2), (s_task, 3), (s_peer, 4), (s_ch, 5), (s_case, 6), (s_peercase, 7)]
abbrev EFd := {p : ByteArray × Nat // p ∈ eFields0}
abbrev eEnc (B : Nat) (p : EFd) : Array Value := #[.string p.1.1, .pointer (some ⟨B, p.1.2, none⟩)]
abbrev ef0 : EFd := ⟨(s_worker, 2), .head _⟩
abbrev ef1 : EFd := ⟨(s_task, 3), .tail _ (.head _)⟩
abbrev ef2 : EFd := ⟨(s_peer, 4), .tail _ (.tail _ (.head _))⟩
abbrev ef3 : EFd := ⟨(s_ch, 5), .tail _ (.tail _ (.tail _ (.head _)))⟩
abbrev ef4 : EFd := ⟨(s_case, 6), .tail _ (.tail _ (.tail _ (.tail _ (.head _))))⟩
abbrev ef5 : EFd := ⟨(s_peercase, 7), .tail _ (.tail _ (.tail _ (.tail _ (.tail _ (.head _)))))⟩
def eFields : List EFd := [ef0, ef1, ef2, ef3, ef4, ef5]
theorem efields_any (B : Nat) (w : World) : Calls Tryd.prog 58 #[.pointer (some ⟨B, 0, none⟩)] w fun e w' => e = .returned (.func (.func 110) #[] #[.pointer (some ⟨w.heap.size, 0, none⟩)]) ∧ w' = w.alloc (.cells #[.pointer (some ⟨B, 0, none⟩)] 105) := by
  have hmf : ∀ (fn : Fn) (first cap : Array Value) (w : World), (Instr.makeFunc fn first cap).run Tryd.prog w = .ok (.func fn first cap) w := fun _ _ _ _ => rfl
  go_enter Tryd.func58, Tryd.ntmps58
  go_wp2
  go_ret
  exact ⟨rfl, rfl⟩
set_option maxHeartbeats 4000000 in
theorem efields1_stops (n : Nat) (hn1 : 1 ≤ n) (B C n₀ : Nat) (w : World) (hB : B < n₀) (hn : n₀ ≤ w.heap.size) (h : w.cell? ⟨B, 0, none⟩ = some (.pointer (some ⟨C, 0, none⟩))) :
    SeqStopsK Fence.wide n Tryd.prog 110 #[.pointer (some ⟨B, 0, none⟩)] (eEnc C) (Below n₀) (· = eFields) (· <+: eFields) 6 w := fun l J Jx W hW _ _ hY h0 => by
  have g1 := Below.at (hW.mono hn) h hB
  have HH := Lib.hid g1
  clear h
  refine callsIn_of_wp Tryd.func110 rfl trivial ?_ rfl
  simp only [Tryd.ntmps110, List.size_toArray, List.length_cons, List.length_nil, Nat.reduceAdd, Nat.reduceSub, Array.replicate_succ, Array.replicate_zero, List.push_toArray, List.append_toArray, List.nil_append, List.cons_append]
  obtain ⟨f1, t1, a1, b1, hy1, hR1⟩ := hY [] ef0 W h0 (by simp)
  dsimp only [eEnc, ef0, ef1, ef2, ef3, ef4, ef5] at hy1
  gi_wp2
  refine hR1.mono ?_
  rintro e W1 (⟨rfl, hJ1, hk1⟩ | ⟨rfl, hx1⟩)
  rotate_left
  · gi_wp2
    refine ⟨fun _ h => (by cases h), ?_⟩
    gi_wp2
    refine ⟨fun _ h => (by cases h), ?_⟩
    gi_wp2
    refine ⟨fun _ h => (by cases h), ?_⟩
    gi_wp2
    refine ⟨fun _ h => (by cases h), ?_⟩
    gi_wp2
    refine ⟨fun _ h => (by cases h), ?_⟩
    gi_wp2
    go_end0
    exact ⟨⟨_, rfl⟩, .inr ⟨_, ⟨eFields.drop 1, rfl⟩, hx1⟩⟩
  clear hy1 hR1 g1
  have HH1 := Lib.hid (Below.at hk1 HH.out hB)
  have g1 := HH1.out
  obtain ⟨f2, t2, a2, b2, hy2, hR2⟩ := hY [ef0] ef1 W1 hJ1 (by simp)
  dsimp only [eEnc, ef0, ef1, ef2, ef3, ef4, ef5] at hy2
  clear hk1 hJ1
  gi_wp2
  refine hR2.mono ?_
  rintro e W2 (⟨rfl, hJ2, hk2⟩ | ⟨rfl, hx2⟩)
  rotate_left
  · gi_wp2
    refine ⟨fun _ h => (by cases h), ?_⟩
    gi_wp2
    refine ⟨fun _ h => (by cases h), ?_⟩
    gi_wp2
    refine ⟨fun _ h => (by cases h), ?_⟩
    gi_wp2
    refine ⟨fun _ h => (by cases h), ?_⟩
    gi_wp2
    go_end0
    exact ⟨⟨_, rfl⟩, .inr ⟨_, ⟨eFields.drop 2, rfl⟩, hx2⟩⟩
  clear hy2 hR2 g1
  have HH2 := Lib.hid (Below.at hk2 HH1.out hB)
  have g1 := HH2.out
  obtain ⟨f3, t3, a3, b3, hy3, hR3⟩ := hY [ef0, ef1] ef2 W2 hJ2 (by simp)
  dsimp only [eEnc, ef0, ef1, ef2, ef3, ef4, ef5] at hy3
  clear hk2 hJ2
  gi_wp2
  refine hR3.mono ?_
  rintro e W3 (⟨rfl, hJ3, hk3⟩ | ⟨rfl, hx3⟩)
  rotate_left
  · gi_wp2
    refine ⟨fun _ h => (by cases h), ?_⟩
    gi_wp2
    refine ⟨fun _ h => (by cases h), ?_⟩
    gi_wp2
    refine ⟨fun _ h => (by cases h), ?_⟩
    gi_wp2
    go_end0
    exact ⟨⟨_, rfl⟩, .inr ⟨_, ⟨eFields.drop 3, rfl⟩, hx3⟩⟩
  clear hy3 hR3 g1
  have HH3 := Lib.hid (Below.at hk3 HH2.out hB)
  have g1 := HH3.out
  obtain ⟨f4, t4, a4, b4, hy4, hR4⟩ := hY [ef0, ef1, ef2] ef3 W3 hJ3 (by simp)
  dsimp only [eEnc, ef0, ef1, ef2, ef3, ef4, ef5] at hy4
  clear hk3 hJ3
  gi_wp2
  refine hR4.mono ?_
  rintro e W4 (⟨rfl, hJ4, hk4⟩ | ⟨rfl, hx4⟩)
  rotate_left
  · gi_wp2
    refine ⟨fun _ h => (by cases h), ?_⟩
    gi_wp2
    refine ⟨fun _ h => (by cases h), ?_⟩
    gi_wp2
    go_end0
    exact ⟨⟨_, rfl⟩, .inr ⟨_, ⟨eFields.drop 4, rfl⟩, hx4⟩⟩
  clear hy4 hR4 g1
  have HH4 := Lib.hid (Below.at hk4 HH3.out hB)
  have g1 := HH4.out
  obtain ⟨f5, t5, a5, b5, hy5, hR5⟩ := hY [ef0, ef1, ef2, ef3] ef4 W4 hJ4 (by simp)
  dsimp only [eEnc, ef0, ef1, ef2, ef3, ef4, ef5] at hy5
  clear hk4 hJ4
  gi_wp2
  refine hR5.mono ?_
  rintro e W5 (⟨rfl, hJ5, hk5⟩ | ⟨rfl, hx5⟩)
  rotate_left
  · gi_wp2
    refine ⟨fun _ h => (by cases h), ?_⟩
    gi_wp2
    go_end0
    exact ⟨⟨_, rfl⟩, .inr ⟨_, ⟨eFields.drop 5, rfl⟩, hx5⟩⟩
  clear hy5 hR5 g1
  have HH5 := Lib.hid (Below.at hk5 HH4.out hB)
  have g1 := HH5.out
  obtain ⟨f6, t6, a6, b6, hy6, hR6⟩ := hY [ef0, ef1, ef2, ef3, ef4] ef5 W5 hJ5 (by simp)
  dsimp only [eEnc, ef0, ef1, ef2, ef3, ef4, ef5] at hy6
  clear hk5 hJ5
  gi_wp2
  refine hR6.mono ?_
  rintro e W6 (⟨rfl, hJ6, hk6⟩ | ⟨rfl, hx6⟩)
  · gi_wp2
    go_end0
    exact ⟨⟨_, rfl⟩, .inl ⟨_, rfl, hJ6⟩⟩
  · gi_wp2
    go_end0
    exact ⟨⟨_, rfl⟩, .inr ⟨_, ⟨eFields.drop 6, rfl⟩, hx6⟩⟩
end Go.Proofs.YtljfloopjgpaeabDoor
