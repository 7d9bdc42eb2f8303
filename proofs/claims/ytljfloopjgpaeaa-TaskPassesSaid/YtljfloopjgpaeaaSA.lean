/- set.Has; order.New. -/
import Derived.Deep.QuietTactic
import Derived.BigQuiet
import Derived.Deep.CutRange
import Derived.RangeFuncRecord
import Derived.Test.YtljfloopjgpaeaaC
namespace Go.Proofs.Ytljfloopjgpaeaa
set_option linter.unusedVariables false
set_option linter.unusedSimpArgs false
open Go.RowKit
attribute [local go_sem] Oper.semAt_some
set_option maxRecDepth 100000
def bitI (k : Int) : Int := if 0 ≤ k ∧ k < 64 then IntKind.u64.wrap (2 ^ k.toNat) else 0
theorem bit_any (k : Int) (w : World) : Calls Try.prog 94 #[.int .i64 k] w fun e w' => e = .returned (.int .u64 (bitI k)) ∧ w' = w := by
  by_cases h0 : 0 ≤ k
  · have g0 : decide (k ≥ 0) = true := by simp; omega
    by_cases h1 : k < 64
    · have g1 : decide (k < 64) = true := by simp; omega
      go_enter Try.func94, Try.ntmps94
      go_wp2
      go_ret
      exact ⟨by rw [bitI, if_pos ⟨h0, h1⟩]; rfl, rfl⟩
    · have g1 : decide (k < 64) = false := by simp; omega
      go_enter Try.func94, Try.ntmps94
      go_wp2
      go_ret
      exact ⟨by rw [bitI, if_neg (by omega)]; rfl, rfl⟩
  · have g0 : decide (k ≥ 0) = false := by simp; omega
    go_enter Try.func94, Try.ntmps94
    go_wp2
    go_ret
    exact ⟨by rw [bitI, if_neg (by omega)]; rfl, rfl⟩
/-- Has a set a number? -/
def hasB (s k : Int) : Bool := bits BinOp.and IntKind.u64 s (bitI k) != 0
theorem has_any (s k : Int) (w : World) : Calls Try.prog 47 #[.int .u64 s, .int .i64 k] w fun e w' => e = .returned (.bool (hasB s k)) ∧ w' = w := by
  go_enter Try.func47, Try.ntmps47
  go_wp2_with (go_at_call 94; (with_reducible refine (bit_any _ _).mono ?_); rintro e w' ⟨rfl, rfl⟩)
  go_ret
  exact ⟨rfl, rfl⟩

/-- An order: six numbers, and how many of them count. -/
structure OrdB (w : World) (b : Nat) (a : Nat → Int) (n : Nat) : Prop where
  here : w.heap[b]? = some (.cells #[.int .i64 (a 0), .int .i64 (a 1), .int .i64 (a 2), .int .i64 (a 3), .int .i64 (a 4), .int .i64 (a 5), .int .i64 n] 179 (0, 0))
theorem OrdB.lt {w : World} {b : Nat} {a : Nat → Int} {n : Nat} (h : OrdB w b a n) : b < w.heap.size := (Array.getElem?_eq_some_iff.1 h.here).1
theorem OrdB.keep {w w' : World} {b N : Nat} {a : Nat → Int} {n : Nat} (h : OrdB w b a n) (hb : Below N w w') (hN : b < N) : OrdB w' b a n := ⟨(hb.block b hN).trans h.here⟩
theorem OrdB.cell {w : World} {b : Nat} {a : Nat → Int} {n : Nat} (h : OrdB w b a n) {i : Nat} (hi : i < 6) : w.cell? ⟨b, i, none⟩ = some (.int .i64 (a i)) := by
  simp only [World.cell?, h.here]
  match i, hi with
  | 0, _ => rfl
  | 1, _ => rfl
  | 2, _ => rfl
  | 3, _ => rfl
  | 4, _ => rfl
  | 5, _ => rfl
theorem OrdB.len {w : World} {b : Nat} {a : Nat → Int} {n : Nat} (h : OrdB w b a n) : w.cell? ⟨b, 6, none⟩ = some (.int .i64 n) := by
  simp only [World.cell?, h.here]; rfl
theorem OrdB.froz {w : World} {b : Nat} {a : Nat → Int} {n : Nat} (h : OrdB w b a n) (i : Nat) : w.frozen? ⟨b, i, none⟩ = false := by
  simp [World.frozen?, h.here]
set_option maxHeartbeats 1000000 in
theorem row_any {w : World} {b : Nat} {a : Nat → Int} {n : Nat} (h : OrdB w b a n) (hn : n ≤ 6) : Calls Try.prog 120 #[.pointer (some ⟨b, 0, none⟩)] w fun e w' => e = .returned (.slice (some ⟨b, 0, none⟩) n 6) ∧ ∃ q, w' = w.drewN q := by
  have hl := h.lt
  have c6 := h.len
  have hn1 : (0 : Int) ≤ (n : Int) := by omega
  have hn2 : (n : Int) ≤ 6 := by omega
  clear h
  go_enter Try.func120, Try.ntmps120
  go_upto_region 3 with fail
  go_quiet (fail)
  go_wp2
  go_ret
  exact ⟨rfl, _, rfl⟩
theorem OrdB.set {w : World} {b : Nat} {a : Nat → Int} {n : Nat} (h : OrdB w b a n) {i : Nat} (hi : i < 6) (x : Int) : OrdB (w.setCell ⟨b, i, none⟩ (.int .i64 x)) b (fun k => if k = i then x else a k) n := by
  constructor
  have h := h.here
  simp only [World.setCell, Array.getElem?_modify, if_true, h, Option.map_some]
  match i, hi with
  | 0, _ => rfl
  | 1, _ => rfl
  | 2, _ => rfl
  | 3, _ => rfl
  | 4, _ => rfl
  | 5, _ => rfl
theorem OrdB.congr {w : World} {b : Nat} {a a' : Nat → Int} {n : Nat} (h : OrdB w b a n) (e : ∀ i, i < 6 → a' i = a i) : OrdB w b a' n := by
  constructor
  rw [e 0 (by omega), e 1 (by omega), e 2 (by omega), e 3 (by omega), e 4 (by omega), e 5 (by omega)]
  exact h.here
/-- The order that is made: rising up to k. -/
def riseF (k i : Nat) : Int := if i < k then (i : Int) else 0
set_option maxHeartbeats 1000000 in
theorem oNew_any (n : Nat) (h1 : 1 ≤ n) (h6 : n ≤ 6) (w : World) : Calls Try.prog 91 #[.int .i64 n] w fun e w' => e = .returned (.tuple #[.pointer (some ⟨w.heap.size, 0, none⟩), .int .i64 0]) ∧ OrdB w' w.heap.size (riseF n) n ∧ Below w.heap.size w w' := by
  have g0 : decide ((n : Int) < 1) = false := by simp; omega
  have g1 : decide ((n : Int) > 6) = false := by simp; omega
  go_enter Try.func91, Try.ntmps91
  go_wp2
  have h0 : OrdB (w.alloc (.cells #[.int .i64 0, .int .i64 0, .int .i64 0, .int .i64 0, .int .i64 0, .int .i64 0, .int .i64 n] 179)) w.heap.size (riseF 0) n := ⟨World.alloc_heap_new w _⟩
  have hb0 := (Below.refl _ w).alloc (Nat.le_refl _) (.cells #[.int .i64 0, .int .i64 0, .int .i64 0, .int .i64 0, .int .i64 0, .int .i64 0, .int .i64 n] 179)
  have H0 := Lib.hid (And.intro h0 hb0)
  clear h0 hb0
  go_loopw [5, 16] (fun _ i wr => ∃ k : Nat, k ≤ n ∧ i = .int .i64 k ∧ OrdB wr w.heap.size (riseF k) n ∧ Below w.heap.size w wr) (fun _ i _ => n - (intOf i).toNat)
  case atStart => exact ⟨0, Nat.zero_le _, rfl, H0.out⟩
  case round =>
    obtain ⟨k, hk, rfl, ho, hb⟩ := hrel
    by_cases hk2 : k < n
    · have e0 : (0 : Int) ≤ (k : Int) := by omega
      have e1 : (k : Int) < 6 := by omega
      have e2 : decide ((k : Int) < (n : Int)) = true := by simp; omega
      have hwr : IntKind.i64.wrap ((k : Int) + 1) = (k : Int) + 1 := IntWalk.i64_in _ (by omega)
      have hl := ho.lt
      have hc := ho.cell (i := k) (by omega)
      have hf := ho.froz k
      have HO := Lib.hid ho
      have HB := Lib.hid hb
      clear ho hb
      go_wp2
      go_roundw
      case rel => exact ⟨k + 1, hk2, rfl, (HO.out.set (by omega) k).congr (fun i hi => by unfold riseF; by_cases e : i = k; simp [e]; by_cases e2 : i < k; simp [e, e2]; omega; simp [e, e2]; omega), HB.out.setCell (p := ⟨w.heap.size, k, none⟩) (Nat.le_refl _) _⟩
      case measure => simp [intOf]; omega
    · obtain rfl : k = n := by omega
      have e2 : decide ((k : Int) < (k : Int)) = false := by simp
      have HO := Lib.hid ho
      have HB := Lib.hid hb
      clear ho hb
      go_wp2
      go_ret2
      exact ⟨rfl, HO.out, HB.out⟩
end Go.Proofs.Ytljfloopjgpaeaa
