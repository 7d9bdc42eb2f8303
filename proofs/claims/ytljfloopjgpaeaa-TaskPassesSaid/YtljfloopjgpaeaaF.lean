/- ins.bare: a range over a function. -/
import Derived.RangeFuncNested
import Derived.RangeFuncBound
import Derived.RangeFuncCalls
import Derived.RangeFuncLeaves
import Derived.Shelf.Abstract
import Derived.Shelf.RegionOpen
import Derived.WalkKit
import Derived.OwnWalkIn
import Derived.TacticsInMore
import Derived.LoopNIn
import Derived.LoopIn
import Derived.Test.YtljfloopjgpaeaaShelf
import Derived.Test.YtljfloopjgpaeaaE
namespace Go.Proofs.Ytljfloopjgpaeaa
set_option linter.unusedVariables false
set_option linter.unusedSimpArgs false
open Go.RowKit Go.Shelf
attribute [local go_sem] Oper.semAt_some
set_option maxRecDepth 100000

/-- A plain contract at the wide fence, and back. -/
theorem wide {P : Program} {f : FuncId} {args : Array Value} {w : World} {R : Ending → World → Prop} (h : Calls P f args w R) (n : Nat) : CallsIn Fence.wide n P f args w R := callsIn_wide.2 h

abbrev fEnc (p : Int × Int) : Array Value := #[.int .u8 p.1, .int .i64 p.2]
def fieldsL (x : InsV) : List (Int × Int) := [(97, x.a), (98, x.b), (99, x.ch), (107, x.k)]
/-- The block of an instruction. -/
def InsAt (W : World) (B : Nat) (x : InsV) : Prop := W.cell? ⟨B, 1, none⟩ = some (.int .i64 x.a) ∧ W.cell? ⟨B, 2, none⟩ = some (.int .i64 x.b) ∧ W.cell? ⟨B, 3, none⟩ = some (.int .i64 x.ch) ∧ W.cell? ⟨B, 4, none⟩ = some (.int .i64 x.k)
theorem InsAt.keep {n₀ : Nat} {W W' : World} {B : Nat} {x : InsV} (h : InsAt W B x) (hb : Below n₀ W W') (hB : B < n₀) : InsAt W' B x :=
  ⟨Below.at hb h.1 hB, Below.at hb h.2.1 hB, Below.at hb h.2.2.1 hB, Below.at hb h.2.2.2 hB⟩

set_option maxHeartbeats 2000000 in
theorem fields1_stops (n : Nat) (hn1 : 1 ≤ n) (B n₀ : Nat) (x : InsV) (w : World) (hB : B < n₀) (hn : n₀ ≤ w.heap.size) (h : InsAt w B x) :
    SeqStopsK Fence.wide n Try.prog 123 #[.pointer (some ⟨B, 0, none⟩)] fEnc (Below n₀) (· = fieldsL x) (· <+: fieldsL x) 4 w := fun l J Jx W hW _ _ hY h0 => by
  obtain ⟨xop, xa, xb, xc, xk⟩ := x
  have h' := h.keep (hW.mono hn) hB
  obtain ⟨g1, g2, g3, g4⟩ := h'
  have HH := Lib.hid (h.keep (hW.mono hn) hB)
  clear h
  refine callsIn_of_wp Try.func123 rfl trivial ?_ rfl
  simp only [Try.ntmps123, List.size_toArray, List.length_cons, List.length_nil, Nat.reduceAdd, Nat.reduceSub, Array.replicate_succ, Array.replicate_zero, List.push_toArray, List.append_toArray, List.nil_append, List.cons_append]
  obtain ⟨f1, t1, a1, b1, hy1, hR1⟩ := hY [] (97, xa) W h0 (by simp)
  dsimp only [fEnc] at hy1
  gi_wp2
  refine hR1.mono ?_
  rintro e W1 (⟨rfl, hJ1, hk1⟩ | ⟨rfl, hx1⟩)
  rotate_left
  · gi_wp2
    refine ⟨fun _ h => (by cases h), ?_⟩
    gi_wp2
    refine ⟨fun _ h => (by cases h), ?_⟩
    gi_wp2
    refine ⟨fun _ h => (by cases h), ?_⟩
    gi_wp2
    go_end0
    exact ⟨⟨_, rfl⟩, .inr ⟨_, ⟨(fieldsL ⟨xop, xa, xb, xc, xk⟩).drop 1, rfl⟩, hx1⟩⟩
  clear hy1 hR1 g1 g2 g3 g4
  have HH1 := Lib.hid (HH.out.keep hk1 hB)
  obtain ⟨g1, g2, g3, g4⟩ := HH1.out
  obtain ⟨f2, t2, a2, b2, hy2, hR2⟩ := hY [(97, xa)] (98, xb) W1 hJ1 (by simp)
  dsimp only [fEnc] at hy2
  clear hk1 hJ1
  gi_wp2
  refine hR2.mono ?_
  rintro e W2 (⟨rfl, hJ2, hk2⟩ | ⟨rfl, hx2⟩)
  rotate_left
  · gi_wp2
    refine ⟨fun _ h => (by cases h), ?_⟩
    gi_wp2
    refine ⟨fun _ h => (by cases h), ?_⟩
    gi_wp2
    go_end0
    exact ⟨⟨_, rfl⟩, .inr ⟨_, ⟨(fieldsL ⟨xop, xa, xb, xc, xk⟩).drop 2, rfl⟩, hx2⟩⟩
  clear hy2 hR2 g1 g2 g3 g4
  have HH2 := Lib.hid (HH1.out.keep hk2 hB)
  obtain ⟨g1, g2, g3, g4⟩ := HH2.out
  obtain ⟨f3, t3, a3, b3, hy3, hR3⟩ := hY [(97, xa), (98, xb)] (99, xc) W2 hJ2 (by simp)
  dsimp only [fEnc] at hy3
  clear hk2 hJ2
  gi_wp2
  refine hR3.mono ?_
  rintro e W3 (⟨rfl, hJ3, hk3⟩ | ⟨rfl, hx3⟩)
  rotate_left
  · gi_wp2
    refine ⟨fun _ h => (by cases h), ?_⟩
    gi_wp2
    go_end0
    exact ⟨⟨_, rfl⟩, .inr ⟨_, ⟨(fieldsL ⟨xop, xa, xb, xc, xk⟩).drop 3, rfl⟩, hx3⟩⟩
  clear hy3 hR3 g1 g2 g3 g4
  have HH3 := Lib.hid (HH2.out.keep hk3 hB)
  obtain ⟨g1, g2, g3, g4⟩ := HH3.out
  obtain ⟨f4, t4, a4, b4, hy4, hR4⟩ := hY [(97, xa), (98, xb), (99, xc)] (107, xk) W3 hJ3 (by simp)
  dsimp only [fEnc] at hy4
  clear hk3 hJ3
  gi_wp2
  refine hR4.mono ?_
  rintro e W4 (⟨rfl, hJ4, hk4⟩ | ⟨rfl, hx4⟩)
  · gi_wp2
    go_end0
    exact ⟨⟨_, rfl⟩, .inl ⟨_, rfl, hJ4⟩⟩
  · gi_wp2
    go_end0
    exact ⟨⟨_, rfl⟩, .inr ⟨_, ⟨(fieldsL ⟨xop, xa, xb, xc, xk⟩).drop 4, rfl⟩, hx4⟩⟩

/-- Is an instruction's field named? -/
def hasC (has : ByteArray) (c : Int) : Bool := decide (0 ≤ Lib.indexByte has.data.toList c.toNat.toUInt8)
def fieldB (has : ByteArray) (p : Int × Int) : Bool := hasC has p.1 || p.2 == 0
def bareB (has : ByteArray) (x : InsV) : Bool := (fieldsL x).all (fieldB has)

theorem fields_any (x : InsV) (w : World) : Calls Try.prog 102 #[x.agg] w fun e w' => e = .returned (.func (.func 123) #[] #[.pointer (some ⟨w.heap.size, 0, none⟩)]) ∧ w' = w.alloc (.cells #[.int .u8 x.op, .int .i64 x.a, .int .i64 x.b, .int .i64 x.ch, .int .i64 x.k] 56) := by
  have hmf : ∀ (fn : Fn) (first cap : Array Value) (w : World), (Instr.makeFunc fn first cap).run Try.prog w = .ok (.func fn first cap) w := fun _ _ _ _ => rfl
  simp only [InsV.agg]
  go_enter Try.func102, Try.ntmps102
  go_wp2
  go_ret
  exact ⟨rfl, rfl⟩

set_option maxHeartbeats 2000000 in
theorem bare_in (n : Nat) (hn : 3 ≤ n) (x : InsV) (word has : ByteArray) (most : Int) (w : World) :
    CallsIn Fence.wide n Try.prog 65 #[x.agg, formV word has most] w fun e w' => e = .returned (.bool (bareB has x)) ∧ Below w.heap.size w w' := by
  have h1 : 1 ≤ n := by omega
  have hF := fun w => wide (fields_any x w) (n - 1)
  simp only [InsV.agg] at hF
  have HF := Lib.hid hF
  clear hF
  simp only [InsV.agg, formV]
  refine callsIn_of_wp_marks Try.func65 rfl trivial ?_ rfl
  simp only [Try.ntmps65, List.size_toArray, List.length_cons, List.length_nil, Nat.reduceAdd, Nat.reduceSub, Array.replicate_succ, Array.replicate_zero, List.push_toArray, List.append_toArray, List.nil_append, List.cons_append]
  gi_wp2_with (refine ⟨trivial, ?_⟩; (with_reducible refine (HF.out _).mono ?_); rintro e w' ⟨rfl, rfl⟩)
  have hB0 : Below w.heap.size w ((((w.alloc (.cells #[.int .u8 x.op, .int .i64 x.a, .int .i64 x.b, .int .i64 x.ch, .int .i64 x.k] 56)).alloc (.cells #[.string word, .string has, .int .i64 most] 118)).alloc (.cells #[.bool false] 4)).alloc (.cells #[.int .u8 x.op, .int .i64 x.a, .int .i64 x.b, .int .i64 x.ch, .int .i64 x.k] 56)) := by (repeat (first | with_reducible exact Below.refl _ _ | (with_reducible refine Below.setCell ?_ (by first | (simp; done) | (simp; omega) | omega) _) | (with_reducible refine Below.alloc ?_ (by first | (simp; done) | (simp; omega) | omega) _) | (with_reducible refine Below.drew ?_)))
  refine wpIn_rangeFunc_ownF rfl h1 (gf := 123) (lb := #[.pointer (some ⟨w.heap.size + 1 + 1 + 1, 0, none⟩)]) rfl trivial (enters_of Try.func123 (by kernel_rfl) rfl)
    (fields1_stops (n - 1) (by omega) (w.heap.size + 1 + 1 + 1) (w.heap.size + 4) x ((((w.alloc (.cells #[.int .u8 x.op, .int .i64 x.a, .int .i64 x.b, .int .i64 x.ch, .int .i64 x.k] 56)).alloc (.cells #[.string word, .string has, .int .i64 most] 118)).alloc (.cells #[.bool false] 4)).alloc (.cells #[.int .u8 x.op, .int .i64 x.a, .int .i64 x.b, .int .i64 x.ch, .int .i64 x.k] 56)) (by omega) (by simp) (by refine ⟨?_, ?_, ?_, ?_⟩ <;> simp [go_sem])) belowK_t (belowK_b (by simp)) (Below.refl _ _) (fun _ => rfl)
    (fun pre W => ((∀ y ∈ pre, fieldB has y = true) ∧ W.cell? ⟨w.heap.size + 1, 1, none⟩ = some (.string has) ∧ W.cell? ⟨w.heap.size + 1 + 1, 0, none⟩ = some (.bool false) ∧ W.frozen? ⟨w.heap.size + 1 + 1, 0, none⟩ = false) ∧ Below w.heap.size w W)
    (fun c pre W => (c = .ret ∧ (∃ y ∈ pre, fieldB has y = false) ∧ W.cell? ⟨w.heap.size + 1 + 1, 0, none⟩ = some (.bool false)) ∧ Below w.heap.size w W)
    (OwnFrom.and (Own.from (fun s A B row hs hg hr => ⟨hs.1, cell_kept hs.2.1 hg hr, cell_kept hs.2.2.1 hg hr, (frozen_kept hs.2.2.1 hg hr).trans hs.2.2.2⟩) _) (ownFrom_below (Nat.le_refl _) (by simp; omega)))
    (fun c => OwnFrom.and (Own.from (fun s A B row hs hg hr => ⟨hs.1, hs.2.1, cell_kept hs.2.2 hg hr⟩) _) (ownFrom_below (Nat.le_refl _) (by simp; omega)))
    ⟨⟨by simp, by simp [go_sem], by simp [go_sem], by simp [go_sem]⟩, hB0⟩
    (fun p => { tmps := #[.agg #[.int .u8 x.op, .int .i64 x.a, .int .i64 x.b, .int .i64 x.ch, .int .i64 x.k], .agg #[.string word, .string has, .int .i64 most], .pointer (some ⟨w.heap.size, 0, none⟩), .pointer (some ⟨w.heap.size + 1, 0, none⟩), .pointer (some ⟨w.heap.size + 1 + 1, 0, none⟩),
       .int .u8 p.1, .int .i64 p.2, .agg #[.int .u8 x.op, .int .i64 x.a, .int .i64 x.b, .int .i64 x.ch, .int .i64 x.k], .func (.func 123) #[] #[.pointer (some ⟨w.heap.size + 1 + 1 + 1, 0, none⟩)], .int .u8 p.1, .int .i64 p.2, undef, undef, undef, undef, undef, undef, undef, undef, undef], defers := [] }) ?assign ?body ?done ?stop
  case assign =>
    intro l x W K hK
    gi_wp2
    exact hK
  case body =>
    rintro l pre ⟨c, v⟩ W ⟨⟨hp, hcf, hcr, hfr⟩, hB⟩ _
    have HP := Lib.hid hp
    clear hp
    have hix := fun w => wide (Try.strings_IndexByte has c w) (n - 1 - 1 - 1)
    have HI := Lib.hid hix
    clear hix
    dsimp only
    by_cases hh : 0 ≤ Lib.indexByte has.data.toList c.toNat.toUInt8
    · have hn0 : decide (Lib.indexByte has.data.toList c.toNat.toUInt8 < 0) = false := decide_eq_false (by omega)
      have hg : fieldB has (c, v) = true := by simp [fieldB, hasC, hh]
      have HG := Lib.hid hg
      clear hg
      gi_wp2_with ((first | refine ⟨trivial, fun _ => by omega, ?_⟩ | refine ⟨trivial, ?_⟩); (with_reducible refine (CallsIn.inRound l (HI.out _)).mono ?_); rintro e w' ⟨rfl, rfl⟩)
      exact ⟨KeepsOthers.refl _, Below.refl _ _, ⟨fun y hy => (List.mem_append.1 hy).elim (HP.out y) (fun e => by rw [List.mem_singleton.1 e]; exact HG.out), hcf, hcr, hfr⟩, hB⟩
    · have hn0 : decide (Lib.indexByte has.data.toList c.toNat.toUInt8 < 0) = true := decide_eq_true (by omega)
      by_cases hv : v = 0
      · have hg : fieldB has (c, v) = true := by simp [fieldB, hv]
        have HG := Lib.hid hg
        have hv2 : (v != 0) = false := by simp [hv]
        clear hg hv
        gi_wp2_with ((first | refine ⟨trivial, fun _ => by omega, ?_⟩ | refine ⟨trivial, ?_⟩); (with_reducible refine (CallsIn.inRound l (HI.out _)).mono ?_); rintro e w' ⟨rfl, rfl⟩)
        exact ⟨KeepsOthers.refl _, Below.refl _ _, ⟨fun y hy => (List.mem_append.1 hy).elim (HP.out y) (fun e => by rw [List.mem_singleton.1 e]; exact HG.out), hcf, hcr, hfr⟩, hB⟩
      · have hg : fieldB has (c, v) = false := by simp [fieldB, hasC, hh, hv]
        have HG := Lib.hid hg
        have hv2 : (v != 0) = true := by simp [hv]
        clear hg hv
        gi_wp2_with ((first | refine ⟨trivial, fun _ => by omega, ?_⟩ | refine ⟨trivial, ?_⟩); (with_reducible refine (CallsIn.inRound l (HI.out _)).mono ?_); rintro e w' ⟨rfl, rfl⟩)
        exact ⟨KeepsOthers.setCell _ _ _, ⟨rfl, ⟨_, List.mem_append.2 (.inr (by simp)), HG.out⟩, World.cell?_setCell_same' _ _ _ (by rw [hcr]; rfl)⟩, hB.setCell (p := ⟨w.heap.size + 1 + 1, 0, none⟩) (by simp; omega) _⟩
  case done =>
    rintro D ys W hD rfl ⟨⟨hp, hcf, hcr, hfr⟩, hB⟩ hK
    have hg : bareB has x = true := List.all_eq_true.2 hp
    have HG := Lib.hid hg
    clear hg hp
    gi_wp2
    have hK' := (KeepsOthers.setCell W ⟨w.heap.size + 1 + 1, 0, none⟩ (.bool true)).same D _ hK rfl
    refine ⟨by simp, .inl ⟨_, _, rfl, run_takeDeferred hK', ?_⟩⟩
    have hc5 := cell_kept (World.cell?_setCell_same' W ⟨w.heap.size + 1 + 1, 0, none⟩ (.bool true) (by rw [hcr]; rfl)) (grownBy_putObj' _ D (.deferred none)) (fun r e => by cases e; exact ⟨_, hK', rfl⟩)
    refine ⟨.bool true, ?_, by rw [HG.out], (hB.setCell (p := ⟨w.heap.size + 1 + 1, 0, none⟩) (by simp; omega) _).trans (belowK_b (w := w) (Nat.le_refl _) _ D _ _ (by simp at hD; omega) hK' rfl rfl)⟩
    simp [results, Try.f65, go_sem, hc5]
  case stop =>
    rintro D c pre W hD hpre ⟨⟨rfl, ⟨y, hy, hf⟩, hcr⟩, hB⟩ hK
    have hg : bareB has x = false := by rw [bareB, List.all_eq_false]; exact ⟨y, hpre.subset hy, by simp [hf]⟩
    have HG := Lib.hid hg
    clear hg hf
    gi_wp2
    refine ⟨by simp, .inl ⟨_, _, rfl, run_takeDeferred hK, ?_⟩⟩
    have hc5 := cell_kept hcr (grownBy_putObj' _ D (.deferred none)) (fun r e => by cases e; exact ⟨_, hK, rfl⟩)
    refine ⟨.bool false, ?_, by rw [HG.out], hB.trans (belowK_b (w := w) (Nat.le_refl _) W D _ _ (by simp at hD; omega) hK rfl rfl)⟩
    simp [results, Try.f65, go_sem, hc5]

theorem bare_any (op a b ch k : Int) (word has : ByteArray) (most : Int) (w : World) :
    Calls Try.prog 65 #[.agg #[.int .u8 op, .int .i64 a, .int .i64 b, .int .i64 ch, .int .i64 k], .agg #[.string word, .string has, .int .i64 most]] w fun e w' => e = .returned (.bool (bareB has ⟨op, a, b, ch, k⟩)) ∧ Below w.heap.size w w' :=
  callsIn_wide.1 (bare_in 3 (by omega) ⟨op, a, b, ch, k⟩ word has most w)
end Go.Proofs.Ytljfloopjgpaeaa
