/- Entries in memory; tollbarlaw32.may. -/
import Derived.WalkKit
import Derived.Deep.QuietTactic
import Derived.BigQuiet
import Derived.WalkLawsBesides
import Derived.WalkSpells
import Derived.Lib.Hide
import Derived.LoopTactic
import Derived.Shelf.Abstract
import Derived.Shelf.RegionOpen
import Derived.OwnWalkIn
import Derived.TacticsInMore
import Derived.LoopNIn
import Derived.LoopIn
import Derived.BigRegion
import Derived.Deep.Cut
import Derived.Deep.RegionHeld3
import Derived.Deep.RegionLaw
import Derived.BigRegionIn
import Derived.IntWalk
import Derived.RangeFuncBox
import Derived.Test.YtljfloopjgpaeabProg
import Derived.Test.YtljfloopjgpaeabA
import Derived.Test.YtljfloopjgpaeabR
import Derived.Test.YtljfloopjgpaeabQU
namespace Go.Proofs.Ytljfloopjgpaeab
set_option linter.unusedVariables false
set_option linter.unusedSimpArgs false
open Go.RowKit
attribute [local go_sem] Oper.semAt_some
set_option maxRecDepth 100000
structure EntV where
  at_ : Int
  kind : Int
  worker : Int
  task : Int
  peer : Int
  ch : Int
  cs : Int
  pc : Int
  val : Int
  val2 : Int
  ok : Bool
  code : Int
  set : Int
  deriving DecidableEq, Inhabited
def EntV.cells (x : EntV) : List Value := [.int .i64 x.at_, .int .u8 x.kind, .int .i64 x.worker, .int .i64 x.task, .int .i64 x.peer, .int .i64 x.ch, .int .i64 x.cs, .int .i64 x.pc, .int .i64 x.val, .int .i64 x.val2, .bool x.ok, .int .i64 x.code, .int .u64 x.set]
def EntV.agg (x : EntV) : Value := .agg #[.int .i64 x.at_, .int .u8 x.kind, .int .i64 x.worker, .int .i64 x.task, .int .i64 x.peer, .int .i64 x.ch, .int .i64 x.cs, .int .i64 x.pc, .int .i64 x.val, .int .i64 x.val2, .bool x.ok, .int .i64 x.code, .int .u64 x.set]
def kEnt : Kn EntV := Kn.flat 13 EntV.cells (fun _ => True)
theorem kEnt_at {w : World} {A : Option Addr} {n c : Nat} {l : List EntV} (h : kEnt.R w (.slice A n c) l) {i : Nat} (hi : i < l.length) :
    ∃ b o, A = some ⟨b, o, none⟩ ∧ b < w.heap.size ∧ w.cell? ⟨b, o + i * 13, none⟩ = some (.int .i64 l[i].at_) ∧ w.cell? ⟨b, o + i * 13 + 1, none⟩ = some (.int .u8 l[i].kind) ∧ w.cell? ⟨b, o + i * 13 + 2, none⟩ = some (.int .i64 l[i].worker) ∧ w.cell? ⟨b, o + i * 13 + 3, none⟩ = some (.int .i64 l[i].task) ∧ w.cell? ⟨b, o + i * 13 + 4, none⟩ = some (.int .i64 l[i].peer) ∧
      w.cell? ⟨b, o + i * 13 + 5, none⟩ = some (.int .i64 l[i].ch) ∧ w.cell? ⟨b, o + i * 13 + 6, none⟩ = some (.int .i64 l[i].cs) ∧ w.cell? ⟨b, o + i * 13 + 7, none⟩ = some (.int .i64 l[i].pc) ∧ w.cell? ⟨b, o + i * 13 + 8, none⟩ = some (.int .i64 l[i].val) ∧ w.cell? ⟨b, o + i * 13 + 9, none⟩ = some (.int .i64 l[i].val2) ∧ w.cell? ⟨b, o + i * 13 + 10, none⟩ = some (.bool l[i].ok) ∧ w.cell? ⟨b, o + i * 13 + 11, none⟩ = some (.int .i64 l[i].code) ∧ w.cell? ⟨b, o + i * 13 + 12, none⟩ = some (.int .u64 l[i].set) := by
  obtain ⟨b, o, cs, hA, hb, ⟨rfl, hp⟩, hc⟩ := h.at hi
  exact ⟨b, o, hA, hb, hc 0 _ rfl, hc 1 _ rfl, hc 2 _ rfl, hc 3 _ rfl, hc 4 _ rfl, hc 5 _ rfl, hc 6 _ rfl, hc 7 _ rfl, hc 8 _ rfl, hc 9 _ rfl, hc 10 _ rfl, hc 11 _ rfl, hc 12 _ rfl⟩
/-- The first n of a row; what is behind i. -/
theorem R_take {α : Type} {d : Kn α} {w : World} {A : Option Addr} {n c : Nat} {l : List α} (h : d.R w (.slice A n c) l) {k : Nat} (hk : k ≤ l.length) : d.R w (.slice A k c) (l.take k) := by
  obtain ⟨A', c', hv, h1, h2, h3, h4⟩ := h
  obtain ⟨rfl, rfl, rfl⟩ : A = A' ∧ n = l.length ∧ c = c' := by simpa using hv
  have hl : (l.take k).length = k := by simp; omega
  refine ⟨A, c, by rw [hl], by omega, h2, by omega, fun h0 => ?_⟩
  obtain ⟨b, o, hA, hb, hx⟩ := h4 (by omega)
  refine ⟨b, o, hA, hb, fun i x hi => hx i x ?_⟩
  rw [List.getElem?_take] at hi
  split at hi
  · exact hi
  · cases hi
theorem R_drop {α : Type} {d : Kn α} {w : World} {b o n c : Nat} {l : List α} (h : d.R w (.slice (some ⟨b, o, none⟩) n c) l) {k : Nat} (hk : k ≤ l.length) {A : Option Addr} (hA : k < l.length → A = some ⟨b, o + k * d.sz, none⟩) : d.R w (.slice A (n - k) (c - k)) (l.drop k) := by
  obtain ⟨A', c', hv, h1, h2, h3, h4⟩ := h
  obtain ⟨hq, rfl, rfl⟩ : some (⟨b, o, none⟩ : Addr) = A' ∧ n = l.length ∧ c = c' := by simpa using hv
  have hl : (l.drop k).length = l.length - k := by simp
  refine ⟨A, c - k, by rw [hl], by omega, by omega, by omega, fun h0 => ?_⟩
  obtain ⟨b', o', hA', hb, hx⟩ := h4 (by omega)
  rw [← hq] at hA'
  obtain ⟨rfl, rfl⟩ : b = b' ∧ o = o' := by simpa using hA'
  refine ⟨b, o + k * d.sz, hA (by omega), hb, fun i x hi => ?_⟩
  rw [List.getElem?_drop] at hi
  obtain ⟨cs, h5, h6⟩ := hx (k + i) x hi
  refine ⟨cs, h5, fun j u hj => ?_⟩
  have := h6 j u hj
  rwa [Nat.add_mul, ← Nat.add_assoc] at this
/-- May a log's times be held against each other? The first i of them. -/
def MayTo (l : List EntV) (k : Nat) : Prop := ∀ i (h : i < l.length), i < k → (0 ≤ l[i].at_ ∧ l[i].at_ ≤ 1152921504606846976) ∧ ∀ j (hj : j < l.length), j + 1 = i → l[j].at_ ≤ l[i].at_
theorem MayTo.succ {l : List EntV} {k : Nat} (h : MayTo l k) (hk : k < l.length) (h1 : (0 ≤ l[k].at_ ∧ l[k].at_ ≤ 1152921504606846976) ∧ ∀ j (hj : j < l.length), j + 1 = k → l[j].at_ ≤ l[k].at_) : MayTo l (k + 1) := fun i hi hik => by
  by_cases e : i = k
  · subst e; exact h1
  · exact h i hi (by omega)
def MayE (l : List EntV) (e : Ending) : Prop := ∃ b, e = .returned (.bool b) ∧ (b = true → l.length ≤ 200 ∧ MayTo l l.length)
set_option maxHeartbeats 2000000 in
theorem may32_any {w : World} {A : Option Addr} {n c : Nat} {l : List EntV} (h : kEnt.R w (.slice A n c) l) : Calls Try.prog 5 #[.slice A n c] w fun e w' => MayE l e ∧ Below w.heap.size w w' := by
  obtain ⟨A', c', hv, _, _, hl⟩ := h.val
  obtain ⟨rfl, rfl, rfl⟩ : A = A' ∧ n = l.length ∧ c = c' := by simpa using hv
  have HL := Lib.hid h
  clear h hv
  go_enter Try.func5, Try.ntmps5
  go_wp2
  go_loopw [3] (fun i wr => ∃ k : Nat, k ≤ l.length ∧ i = .int .i64 k ∧ MayTo l k ∧ Below w.heap.size w wr) (fun i _ => l.length - (intOf i).toNat)
  case atStart => exact ⟨0, Nat.zero_le _, rfl, fun i _ hi => absurd hi (Nat.not_lt_zero _), Below.refl _ _⟩
  case round =>
    obtain ⟨k, hk, rfl, hm, hb⟩ := hrel
    have HM := Lib.hid hm
    have HB := Lib.hid hb
    clear hm hb
    by_cases hlt : k < l.length
    · obtain ⟨b, o, rfl, hbl, g0, _⟩ := kEnt_at HL.out hlt
      have g0 := Below.at HB.out g0 hbl
      have hbr := Nat.lt_of_lt_of_le hbl HB.out.size
      have e0 : (0 : Int) ≤ (k : Int) := by omega
      have e1 : (k : Int) < (l.length : Int) := by omega
      have hwr : IntKind.i64.wrap ((k : Int) + 1) = (k : Int) + 1 := IntWalk.i64_in _ (by omega)
      obtain ⟨x, hx⟩ : ∃ x, x = l[k].at_ := ⟨_, rfl⟩
      rw [← hx] at g0
      by_cases c1 : x < 0
      · clear hx
        go_upto_region 4 with fail
        go_region
        all_goals go_wp2
        all_goals go_ret
        all_goals exact ⟨⟨_, rfl, fun h => by cases h⟩, by (have hszq := HB.out.size; (try simp only [World.size_alloc] at hszq); (repeat (first | (with_reducible refine Below.setCell ?_ (by first | (simp; done) | (simp; omega) | omega) _) | (with_reducible refine Below.alloc ?_ (by first | (simp; done) | (simp; omega) | omega) _) | (with_reducible refine Below.drew ?_))); refine Below.trans ?_ (HB.out.mono (by first | (simp; done) | (simp; omega) | omega)); (repeat (first | with_reducible exact Below.refl _ _ | (with_reducible refine Below.setCell ?_ (by first | (simp; done) | (simp; omega) | omega) _) | (with_reducible refine Below.alloc ?_ (by first | (simp; done) | (simp; omega) | omega) _) | (with_reducible refine Below.drew ?_))))⟩
      have d1 : decide (x < 0) = false := by simpa using c1
      by_cases c2 : x > 1152921504606846976
      · clear hx
        go_upto_region 4 with fail
        go_region
        all_goals go_wp2
        all_goals go_ret
        all_goals exact ⟨⟨_, rfl, fun h => by cases h⟩, by (have hszq := HB.out.size; (try simp only [World.size_alloc] at hszq); (repeat (first | (with_reducible refine Below.setCell ?_ (by first | (simp; done) | (simp; omega) | omega) _) | (with_reducible refine Below.alloc ?_ (by first | (simp; done) | (simp; omega) | omega) _) | (with_reducible refine Below.drew ?_))); refine Below.trans ?_ (HB.out.mono (by first | (simp; done) | (simp; omega) | omega)); (repeat (first | with_reducible exact Below.refl _ _ | (with_reducible refine Below.setCell ?_ (by first | (simp; done) | (simp; omega) | omega) _) | (with_reducible refine Below.alloc ?_ (by first | (simp; done) | (simp; omega) | omega) _) | (with_reducible refine Below.drew ?_))))⟩
      have d2 : decide (x > 1152921504606846976) = false := by simpa using c2
      rcases k with _ | p
      · have g00 : wr.cell? ⟨b, o, none⟩ = some (.int .i64 x) := by simpa using g0
        have hn : MayTo l 1 := HM.out.succ hlt ⟨by omega, fun j _ h => absurd h (Nat.succ_ne_zero j)⟩
        have HN := Lib.hid hn
        clear hx hn
        go_upto_region 4 with fail
        go_region
        all_goals go_wp2
        all_goals go_roundw
        all_goals first | exact ⟨0 + 1, hlt, by go_num, HN.out, by (have hszq := HB.out.size; (try simp only [World.size_alloc] at hszq); (repeat (first | (with_reducible refine Below.setCell ?_ (by first | (simp; done) | (simp; omega) | omega) _) | (with_reducible refine Below.alloc ?_ (by first | (simp; done) | (simp; omega) | omega) _) | (with_reducible refine Below.drew ?_))); refine Below.trans ?_ (HB.out.mono (by first | (simp; done) | (simp; omega) | omega)); (repeat (first | with_reducible exact Below.refl _ _ | (with_reducible refine Below.setCell ?_ (by first | (simp; done) | (simp; omega) | omega) _) | (with_reducible refine Below.alloc ?_ (by first | (simp; done) | (simp; omega) | omega) _) | (with_reducible refine Below.drew ?_))))⟩ | (simp [intOf]; omega)
      · have hpl : p < l.length := by omega
        obtain ⟨b', o', hA', _, g1, _⟩ := kEnt_at HL.out hpl
        obtain ⟨rfl, rfl⟩ : b = b' ∧ o = o' := by simpa using hA'
        have g1 := Below.at HB.out g1 hbl
        have hwp : IntKind.i64.wrap (((p + 1 : Nat) : Int) - 1) = (p : Int) := (IntWalk.i64_in _ (by omega)).trans (by omega)
        have q0 : (0 : Int) ≤ (p : Int) := by omega
        have q1 : (p : Int) < (l.length : Int) := by omega
        have dp : decide (((p + 1 : Nat) : Int) > 0) = true := by first | (simp; done) | (simp; omega)
        obtain ⟨y, hy⟩ : ∃ y, y = l[p].at_ := ⟨_, rfl⟩
        rw [← hy] at g1
        by_cases c3 : x < y
        · clear hx hy hA'
          go_upto_region 4 with fail
          go_region
          all_goals go_wp2
          all_goals go_ret
          all_goals exact ⟨⟨_, rfl, fun h => by cases h⟩, by (have hszq := HB.out.size; (try simp only [World.size_alloc] at hszq); (repeat (first | (with_reducible refine Below.setCell ?_ (by first | (simp; done) | (simp; omega) | omega) _) | (with_reducible refine Below.alloc ?_ (by first | (simp; done) | (simp; omega) | omega) _) | (with_reducible refine Below.drew ?_))); refine Below.trans ?_ (HB.out.mono (by first | (simp; done) | (simp; omega) | omega)); (repeat (first | with_reducible exact Below.refl _ _ | (with_reducible refine Below.setCell ?_ (by first | (simp; done) | (simp; omega) | omega) _) | (with_reducible refine Below.alloc ?_ (by first | (simp; done) | (simp; omega) | omega) _) | (with_reducible refine Below.drew ?_))))⟩
        · have hn : MayTo l (p + 1 + 1) := HM.out.succ hlt ⟨by omega, fun j hj h => by
            obtain rfl : j = p := by omega
            omega⟩
          have d3 : decide (x < y) = false := by simpa using c3
          have HN := Lib.hid hn
          clear hx hy hn hA'
          go_upto_region 4 with fail
          go_region
          all_goals go_wp2
          all_goals go_roundw
          all_goals first | exact ⟨p + 1 + 1, hlt, by go_num, HN.out, by (have hszq := HB.out.size; (try simp only [World.size_alloc] at hszq); (repeat (first | (with_reducible refine Below.setCell ?_ (by first | (simp; done) | (simp; omega) | omega) _) | (with_reducible refine Below.alloc ?_ (by first | (simp; done) | (simp; omega) | omega) _) | (with_reducible refine Below.drew ?_))); refine Below.trans ?_ (HB.out.mono (by first | (simp; done) | (simp; omega) | omega)); (repeat (first | with_reducible exact Below.refl _ _ | (with_reducible refine Below.setCell ?_ (by first | (simp; done) | (simp; omega) | omega) _) | (with_reducible refine Below.alloc ?_ (by first | (simp; done) | (simp; omega) | omega) _) | (with_reducible refine Below.drew ?_))))⟩ | (simp [intOf]; omega)
    · obtain rfl : k = l.length := by omega
      by_cases h200 : l.length ≤ 200
      · go_wp2
        go_ret
        exact ⟨⟨_, rfl, fun _ => ⟨h200, HM.out⟩⟩, HB.out⟩
      · go_wp2
        go_ret
        exact ⟨⟨_, rfl, fun h => absurd (of_decide_eq_true h) (by omega)⟩, HB.out⟩
end Go.Proofs.Ytljfloopjgpaeab
