/- slices.Contains of strings; entry.within, entry.Check$1. -/
import Derived.WalkKit
import Derived.Deep.QuietTactic
import Derived.BigQuiet
import Derived.WalkLawsBesides
import Derived.WalkSpells
import Derived.Lib.Hide
import Derived.LoopTactic
import Derived.Shelf.Abstract
import Derived.Shelf.RegionOpen
import Derived.OwnWalkIn
import Derived.TacticsInMore
import Derived.Deep.Cut
import Derived.BigRegion
import Derived.IntWalk
import Derived.Test.YtljfloopjgpaeabDoorEF
namespace Go.Proofs.YtljfloopjgpaeabDoor
set_option linter.unusedVariables false
set_option linter.unusedSimpArgs false
open Go.RowKit Go.Shelf
attribute [local go_sem] Oper.semAt_some
set_option maxRecDepth 100000
theorem kStr_at {w : World} {A : Option Addr} {n c : Nat} {l : List ByteArray} (h : kStr.R w (.slice A n c) l) {i : Nat} (hi : i < l.length) :
    ∃ b o, A = some ⟨b, o, none⟩ ∧ b < w.heap.size ∧ w.cell? ⟨b, o + i, none⟩ = some (.string l[i]) := by
  obtain ⟨b, o, cs, hA, hb, ⟨rfl, hp⟩, hc⟩ := Kn.R.at1 rfl h hi
  exact ⟨b, o, hA, hb, hc _ rfl⟩
def hasS (l : List ByteArray) (s : ByteArray) : Bool := l.any fun x => decide (x = s)
theorem eqS (s x : ByteArray) : (s.toList == x.toList) = decide (s = x) := by
  by_cases h : s = x
  · subst h; simp
  · rw [decide_eq_false h, beq_eq_false_iff_ne]
    intro e
    rw [ByteArray.toList_eq, ByteArray.toList_eq] at e
    apply h
    obtain ⟨⟨a⟩⟩ := s
    obtain ⟨⟨b⟩⟩ := x
    simpa using e
theorem hasS_iff {l : List ByteArray} {s : ByteArray} : hasS l s = true ↔ s ∈ l := by
  unfold hasS
  rw [List.any_eq_true]
  constructor
  · rintro ⟨x, hx, h⟩
    rw [← of_decide_eq_true h]; exact hx
  · exact fun h => ⟨s, h, decide_eq_true rfl⟩
def NotTo (l : List ByteArray) (s : ByteArray) (k : Nat) : Prop := ∀ i (h : i < l.length), i < k → l[i] ≠ s
def IdxE (l : List ByteArray) (s : ByteArray) (e : Ending) : Prop := ∃ z : Int, e = .returned (.int .i64 z) ∧ decide (z ≥ 0) = hasS l s
set_option maxHeartbeats 2000000 in
theorem indexS_any {w : World} {v : Value} {l : List ByteArray} (h : kStr.R w v l) (s : ByteArray) : Calls Tryd.prog 109 #[v, .string s] w fun e w' => IdxE l s e ∧ Below w.heap.size w w' := by
  obtain ⟨A, c, rfl, _, _, hl⟩ := h.val
  have HL := Lib.hid h
  clear h
  go_enter Tryd.func109, Tryd.ntmps109
  go_wp2
  go_loopw [8] (fun i wr => ∃ k : Nat, k ≤ l.length ∧ i = .int .i64 k ∧ NotTo l s k ∧ Below w.heap.size w wr) (fun i _ => l.length - (intOf i).toNat)
  case atStart => exact ⟨0, Nat.zero_le _, rfl, fun i _ hi => absurd hi (Nat.not_lt_zero _), Below.refl _ _⟩
  case round =>
    obtain ⟨k, hk, rfl, hm, hb⟩ := hrel
    have HM := Lib.hid hm
    have HB := Lib.hid hb
    clear hm hb
    by_cases hlt : k < l.length
    · obtain ⟨b, o, rfl, hbl, g0⟩ := kStr_at HL.out hlt
      have g0 := Below.at HB.out g0 hbl
      have hbr := Nat.lt_of_lt_of_le hbl HB.out.size
      have e0 : (0 : Int) ≤ (k : Int) := by omega
      have e1 : (k : Int) < (l.length : Int) := by omega
      have hwr : IntKind.i64.wrap ((k : Int) + 1) = (k : Int) + 1 := IntWalk.i64_in _ (by omega)
      obtain ⟨x, hx⟩ : ∃ x, x = l[k] := ⟨_, rfl⟩
      rw [← hx] at g0
      by_cases c1 : s = x
      · have hin : s ∈ l := by rw [c1, hx]; exact List.getElem_mem hlt
        have HX := Lib.hid hin
        have d1 : (s.toList == x.toList) = true := by rw [eqS]; exact decide_eq_true c1
        clear hx c1 hin
        go_wp2
        go_ret
        exact ⟨⟨_, rfl, by rw [hasS_iff.2 HX.out]; exact decide_eq_true e0⟩, by (have hszq := HB.out.size; (try simp only [World.size_alloc] at hszq); (repeat (first | (with_reducible refine Below.setCell ?_ (by first | (simp; done) | (simp; omega) | omega) _) | (with_reducible refine Below.alloc ?_ (by first | (simp; done) | (simp; omega) | omega) _) | (with_reducible refine Below.drew ?_))); refine Below.trans ?_ (HB.out.mono (by first | (simp; done) | (simp; omega) | omega)); (repeat (first | with_reducible exact Below.refl _ _ | (with_reducible refine Below.setCell ?_ (by first | (simp; done) | (simp; omega) | omega) _) | (with_reducible refine Below.alloc ?_ (by first | (simp; done) | (simp; omega) | omega) _) | (with_reducible refine Below.drew ?_))))⟩
      · have hn : NotTo l s (k + 1) := fun i hi hik => by
          by_cases e : i = k
          · subst e; rw [← hx]; exact fun e => c1 e.symm
          · exact HM.out i hi (by omega)
        have HN := Lib.hid hn
        have d1 : (s.toList == x.toList) = false := by rw [eqS]; exact decide_eq_false c1
        clear hx hn c1
        go_wp2
        go_roundw
        all_goals first | exact ⟨k + 1, hlt, by go_num, HN.out, by (have hszq := HB.out.size; (try simp only [World.size_alloc] at hszq); (repeat (first | (with_reducible refine Below.setCell ?_ (by first | (simp; done) | (simp; omega) | omega) _) | (with_reducible refine Below.alloc ?_ (by first | (simp; done) | (simp; omega) | omega) _) | (with_reducible refine Below.drew ?_))); refine Below.trans ?_ (HB.out.mono (by first | (simp; done) | (simp; omega) | omega)); (repeat (first | with_reducible exact Below.refl _ _ | (with_reducible refine Below.setCell ?_ (by first | (simp; done) | (simp; omega) | omega) _) | (with_reducible refine Below.alloc ?_ (by first | (simp; done) | (simp; omega) | omega) _) | (with_reducible refine Below.drew ?_))))⟩ | (simp [intOf]; omega)
    · have hkl : k = l.length := by omega
      have hno : ¬ s ∈ l := fun hin => by
        obtain ⟨i, hi, he⟩ := List.getElem_of_mem hin
        exact HM.out i hi (by omega) he
      have HX := Lib.hid hno
      clear hno
      subst hkl
      go_wp2
      go_ret
      exact ⟨⟨_, rfl, by rw [Bool.eq_false_iff.2 (fun h => HX.out (hasS_iff.1 h))]; rfl⟩, by (have hszq := HB.out.size; (try simp only [World.size_alloc] at hszq); (repeat (first | (with_reducible refine Below.setCell ?_ (by first | (simp; done) | (simp; omega) | omega) _) | (with_reducible refine Below.alloc ?_ (by first | (simp; done) | (simp; omega) | omega) _) | (with_reducible refine Below.drew ?_))); refine Below.trans ?_ (HB.out.mono (by first | (simp; done) | (simp; omega) | omega)); (repeat (first | with_reducible exact Below.refl _ _ | (with_reducible refine Below.setCell ?_ (by first | (simp; done) | (simp; omega) | omega) _) | (with_reducible refine Below.alloc ?_ (by first | (simp; done) | (simp; omega) | omega) _) | (with_reducible refine Below.drew ?_))))⟩
theorem containsS_any {w : World} {v : Value} {l : List ByteArray} (h : kStr.R w v l) (s : ByteArray) : Calls Tryd.prog 57 #[v, .string s] w fun e w' => e = .returned (.bool (hasS l s)) ∧ Below w.heap.size w w' := by
  have hi := fun W hb => indexS_any (w := W) (h.keep hb) s
  have HI := Lib.hid hi
  clear hi h
  go_enter Tryd.func57, Tryd.ntmps57
  go_wp2_with ((with_reducible refine (HI.out _ (by (repeat (first | with_reducible exact Below.refl _ _ | (with_reducible refine Below.setCell ?_ (by first | (simp; done) | (simp; omega) | omega) _) | (with_reducible refine Below.alloc ?_ (by first | (simp; done) | (simp; omega) | omega) _) | (with_reducible refine Below.drew ?_))))).mono ?_); rintro e w' ⟨⟨z, rfl, hz⟩, hb⟩)
  go_ret
  exact ⟨rfl, hb⟩
end Go.Proofs.YtljfloopjgpaeabDoor
