/- Entries in memory. -/
import Derived.WalkKit
import Derived.Deep.QuietTactic
import Derived.BigQuiet
import Derived.WalkLawsBesides
import Derived.WalkSpells
import Derived.Lib.Hide
import Derived.LoopTactic
import Derived.Shelf.Abstract
import Derived.Shelf.RegionOpen
import Derived.OwnWalkIn
import Derived.TacticsInMore
import Derived.LoopNIn
import Derived.LoopIn
import Derived.BigRegion
import Derived.Deep.Cut
import Derived.Deep.RegionHeld3
import Derived.Deep.RegionLaw
import Derived.BigRegionIn
import Derived.IntWalk
import Derived.RangeFuncBox
import Derived.Test.YtljfloopjgpaeabDoorProg
import Derived.Test.YtljfloopjgpaeabDoorA
import Derived.Test.YtljfloopjgpaeabDoorR
import Derived.Test.YtljfloopjgpaeabDoorQU
namespace Go.Proofs.YtljfloopjgpaeabDoor
set_option linter.unusedVariables false
set_option linter.unusedSimpArgs false
open Go.RowKit
attribute [local go_sem] Oper.semAt_some
set_option maxRecDepth 100000
structure EntV where
  at_ : Int
  kind : Int
  worker : Int
  task : Int
  peer : Int
  ch : Int
  cs : Int
  pc : Int
  val : Int
  val2 : Int
  ok : Bool
  code : Int
  set : Int
  deriving DecidableEq, Inhabited
def EntV.cells (x : EntV) : List Value := [.int .i64 x.at_, .int .u8 x.kind, .int .i64 x.worker, .int .i64 x.task, .int .i64 x.peer, .int .i64 x.ch, .int .i64 x.cs, .int .i64 x.pc, .int .i64 x.val, .int .i64 x.val2, .bool x.ok, .int .i64 x.code, .int .u64 x.set]
def EntV.agg (x : EntV) : Value := .agg #[.int .i64 x.at_, .int .u8 x.kind, .int .i64 x.worker, .int .i64 x.task, .int .i64 x.peer, .int .i64 x.ch, .int .i64 x.cs, .int .i64 x.pc, .int .i64 x.val, .int .i64 x.val2, .bool x.ok, .int .i64 x.code, .int .u64 x.set]
def kEnt : Kn EntV := Kn.flat 13 EntV.cells (fun _ => True)
theorem kEnt_at {w : World} {A : Option Addr} {n c : Nat} {l : List EntV} (h : kEnt.R w (.slice A n c) l) {i : Nat} (hi : i < l.length) :
    ∃ b o, A = some ⟨b, o, none⟩ ∧ b < w.heap.size ∧ w.cell? ⟨b, o + i * 13, none⟩ = some (.int .i64 l[i].at_) ∧ w.cell? ⟨b, o + i * 13 + 1, none⟩ = some (.int .u8 l[i].kind) ∧ w.cell? ⟨b, o + i * 13 + 2, none⟩ = some (.int .i64 l[i].worker) ∧ w.cell? ⟨b, o + i * 13 + 3, none⟩ = some (.int .i64 l[i].task) ∧ w.cell? ⟨b, o + i * 13 + 4, none⟩ = some (.int .i64 l[i].peer) ∧
      w.cell? ⟨b, o + i * 13 + 5, none⟩ = some (.int .i64 l[i].ch) ∧ w.cell? ⟨b, o + i * 13 + 6, none⟩ = some (.int .i64 l[i].cs) ∧ w.cell? ⟨b, o + i * 13 + 7, none⟩ = some (.int .i64 l[i].pc) ∧ w.cell? ⟨b, o + i * 13 + 8, none⟩ = some (.int .i64 l[i].val) ∧ w.cell? ⟨b, o + i * 13 + 9, none⟩ = some (.int .i64 l[i].val2) ∧ w.cell? ⟨b, o + i * 13 + 10, none⟩ = some (.bool l[i].ok) ∧ w.cell? ⟨b, o + i * 13 + 11, none⟩ = some (.int .i64 l[i].code) ∧ w.cell? ⟨b, o + i * 13 + 12, none⟩ = some (.int .u64 l[i].set) := by
  obtain ⟨b, o, cs, hA, hb, ⟨rfl, hp⟩, hc⟩ := h.at hi
  exact ⟨b, o, hA, hb, hc 0 _ rfl, hc 1 _ rfl, hc 2 _ rfl, hc 3 _ rfl, hc 4 _ rfl, hc 5 _ rfl, hc 6 _ rfl, hc 7 _ rfl, hc 8 _ rfl, hc 9 _ rfl, hc 10 _ rfl, hc 11 _ rfl, hc 12 _ rfl⟩
/-- The first n of a row; what is behind i. -/
theorem R_take {α : Type} {d : Kn α} {w : World} {A : Option Addr} {n c : Nat} {l : List α} (h : d.R w (.slice A n c) l) {k : Nat} (hk : k ≤ l.length) : d.R w (.slice A k c) (l.take k) := by
  obtain ⟨A', c', hv, h1, h2, h3, h4⟩ := h
  obtain ⟨rfl, rfl, rfl⟩ : A = A' ∧ n = l.length ∧ c = c' := by simpa using hv
  have hl : (l.take k).length = k := by simp; omega
  refine ⟨A, c, by rw [hl], by omega, h2, by omega, fun h0 => ?_⟩
  obtain ⟨b, o, hA, hb, hx⟩ := h4 (by omega)
  refine ⟨b, o, hA, hb, fun i x hi => hx i x ?_⟩
  rw [List.getElem?_take] at hi
  split at hi
  · exact hi
  · cases hi
theorem R_drop {α : Type} {d : Kn α} {w : World} {b o n c : Nat} {l : List α} (h : d.R w (.slice (some ⟨b, o, none⟩) n c) l) {k : Nat} (hk : k ≤ l.length) {A : Option Addr} (hA : k < l.length → A = some ⟨b, o + k * d.sz, none⟩) : d.R w (.slice A (n - k) (c - k)) (l.drop k) := by
  obtain ⟨A', c', hv, h1, h2, h3, h4⟩ := h
  obtain ⟨hq, rfl, rfl⟩ : some (⟨b, o, none⟩ : Addr) = A' ∧ n = l.length ∧ c = c' := by simpa using hv
  have hl : (l.drop k).length = l.length - k := by simp
  refine ⟨A, c - k, by rw [hl], by omega, by omega, by omega, fun h0 => ?_⟩
  obtain ⟨b', o', hA', hb, hx⟩ := h4 (by omega)
  rw [← hq] at hA'
  obtain ⟨rfl, rfl⟩ : b = b' ∧ o = o' := by simpa using hA'
  refine ⟨b, o + k * d.sz, hA (by omega), hb, fun i x hi => ?_⟩
  rw [List.getElem?_drop] at hi
  obtain ⟨cs, h5, h6⟩ := hx (k + i) x hi
  refine ⟨cs, h5, fun j u hj => ?_⟩
  have := h6 j u hj
  rwa [Nat.add_mul, ← Nat.add_assoc] at this
end Go.Proofs.YtljfloopjgpaeabDoor
