/- mail: what is done to boxes. -/
import Derived.Test.YtljfloopjgpaeaaX
import Derived.Test.YtljfloopjgpaeaaQU
namespace Go.Proofs.Ytljfloopjgpaeaa
set_option linter.unusedVariables false
set_option linter.unusedSimpArgs false
open Go.RowKit
attribute [local go_sem] Oper.semAt_some
set_option maxRecDepth 100000

/-- A pointer to a block. -/
def ptr : Option Nat → Value
  | none => .pointer none
  | some b => .pointer (some ⟨b, 0, none⟩)
structure Bxs (w : World) (B : Nat) (o : Nat → Bool) (m : Nat → Option Nat) : Prop where
  lt : B < w.heap.size
  op : ∀ i, i < 32 → w.cell? ⟨B, i * 2, none⟩ = some (.bool (o i))
  ml : ∀ i, i < 32 → w.cell? ⟨B, i * 2 + 1, none⟩ = some (ptr (m i))
  fr : ∀ i, w.frozen? ⟨B, i, none⟩ = false
theorem nat32 {i : Nat} (h : i < 32) : (0 : Int) ≤ (i : Int) ∧ (i : Int) < 32 := by omega

/-- Only block B, and new ones. -/
structure OnlyB (B : Nat) (w w' : World) : Prop where
  os : w'.os = w.os
  tape : w'.tape = w.tape
  output : w'.output = w.output
  size : w.heap.size ≤ w'.heap.size
  block : ∀ k, k < w.heap.size → k ≠ B → w'.heap[k]? = w.heap[k]?
theorem OnlyB.refl (B : Nat) (w : World) : OnlyB B w w := ⟨rfl, rfl, rfl, Nat.le_refl _, fun _ _ _ => rfl⟩
theorem OnlyB.set {B : Nat} {a w : World} (h : OnlyB B a w) (i : Nat) (u : Value) : OnlyB B a (w.setCell ⟨B, i, none⟩ u) :=
  ⟨h.os, h.tape, h.output, Nat.le_trans h.size (by simp [World.setCell]), fun k h1 h2 => (Below.heap_setCell _ _ _ _ h2).trans (h.block k h1 h2)⟩
theorem OnlyB.below {B : Nat} {a w w' : World} (h : OnlyB B a w) (hb : Below w.heap.size w w') : OnlyB B a w' :=
  ⟨hb.os.trans h.os, hb.tape.trans h.tape, hb.output.trans h.output, Nat.le_trans h.size hb.size, fun k h1 h2 => (hb.block k (Nat.lt_of_lt_of_le h1 h.size)).trans (h.block k h1 h2)⟩
theorem OnlyB.of_below {B : Nat} {a w : World} (h : Below a.heap.size a w) : OnlyB B a w := (OnlyB.refl B a).below h
theorem Bxs.below {w w' : World} {B : Nat} {o : Nat → Bool} {m : Nat → Option Nat} (h : Bxs w B o m) (hb : Below w.heap.size w w') : Bxs w' B o m := by
  have e := hb.block B h.lt
  refine ⟨Nat.lt_of_lt_of_le h.lt hb.size, fun i hi => ?_, fun i hi => ?_, fun i => ?_⟩
  · rw [← h.op i hi]; simp only [World.cell?, e]
  · rw [← h.ml i hi]; simp only [World.cell?, e]
  · rw [← h.fr i]; simp only [World.frozen?, e]
def updF {α : Type} (f : Nat → α) (i : Nat) (v : α) : Nat → α := fun k => if k = i then v else f k
theorem cell_set {w : World} {B i : Nat} {u v : Value} (h : w.cell? ⟨B, i, none⟩ = some u) (j : Nat) : (w.setCell ⟨B, i, none⟩ v).cell? ⟨B, j, none⟩ = if j = i then some v else w.cell? ⟨B, j, none⟩ := by
  by_cases e : j = i
  · subst e; rw [if_pos rfl]; exact World.cell?_setCell_same w _ v h
  · rw [if_neg e]; exact World.cell?_setCell_other w _ _ v (fun hh => e (by injection hh with _ h2; exact h2.symm))
theorem Bxs.setOp {w : World} {B : Nat} {o : Nat → Bool} {m : Nat → Option Nat} (h : Bxs w B o m) {i : Nat} (hi : i < 32) (b : Bool) : Bxs (w.setCell ⟨B, i * 2, none⟩ (.bool b)) B (updF o i b) m := by
  refine ⟨by simpa [World.setCell] using h.lt, fun j hj => ?_, fun j hj => ?_, fun j => ?_⟩
  · rw [cell_set (h.op i hi)]
    by_cases e : j = i
    · subst e; simp [updF]
    · rw [if_neg (by omega), h.op j hj]; simp [updF, e]
  · rw [cell_set (h.op i hi), if_neg (by omega), h.ml j hj]
  · rw [← h.fr j]; simp
theorem Bxs.setMl {w : World} {B : Nat} {o : Nat → Bool} {m : Nat → Option Nat} (h : Bxs w B o m) {i : Nat} (hi : i < 32) (v : Option Nat) : Bxs (w.setCell ⟨B, i * 2 + 1, none⟩ (ptr v)) B o (updF m i v) := by
  refine ⟨by simpa [World.setCell] using h.lt, fun j hj => ?_, fun j hj => ?_, fun j => ?_⟩
  · rw [cell_set (h.ml i hi), if_neg (by omega), h.op j hj]
  · rw [cell_set (h.ml i hi)]
    by_cases e : j = i
    · subst e; simp [updF]
    · rw [if_neg (by omega), h.ml j hj]; simp [updF, e]
  · rw [← h.fr j]; simp

set_option maxHeartbeats 1000000 in
theorem open_at {w : World} {B : Nat} {o : Nat → Bool} {m : Nat → Option Nat} (h : Bxs w B o m) (i : Nat) (hi : i < 32) :
    Calls Try.prog 15 #[.pointer (some ⟨B, 0, none⟩), .int .i64 i] w fun e w' => e = .returned (.int .i64 (if o i then 9 else 0)) ∧ Bxs w' B (updF o i true) m ∧ OnlyB B w w' := by
  have hB := h.lt
  have c0 := h.op i hi
  have d0 := h.fr (i * 2)
  obtain ⟨e0, e1⟩ := nat32 hi
  have H := Lib.hid h
  clear h
  cases ho : o i <;> rw [ho] at c0
  · go_enter Try.func15, Try.ntmps15
    go_wp2
    go_ret
    exact ⟨rfl, H.out.setOp hi true, (OnlyB.refl B w).set _ _⟩
  · go_enter Try.func15, Try.ntmps15
    go_wp2
    go_ret
    refine ⟨rfl, ?_, OnlyB.refl B w⟩
    have : updF o i true = o := by funext k; simp only [updF]; split; (rename_i e; rw [e, ho]); rfl
    rw [this]; exact H.out
set_option maxHeartbeats 1000000 in
theorem open_out {w : World} {B : Nat} (hB : B < w.heap.size) (i : Int) (hi : ¬ (0 ≤ i ∧ i < 32)) :
    Calls Try.prog 15 #[.pointer (some ⟨B, 0, none⟩), .int .i64 i] w fun e w' => e = .returned (.int .i64 2) ∧ w' = w := by
  by_cases h0 : i < 0
  · go_enter Try.func15, Try.ntmps15
    go_wp2
    go_ret
    exact ⟨rfl, rfl⟩
  · have h1 : 32 ≤ i := by omega
    go_enter Try.func15, Try.ntmps15
    go_wp2
    go_ret
    exact ⟨rfl, rfl⟩
/-- May mail be? -/
def mayB (c v : Int) (ok : Bool) (code : Int) : Bool := decide (-1 ≤ c) && decide (c < 6) && (code == 0 || ((code == 140 || code == 141 || code == 142 || code == 143) && (v == 0 && !ok)))
set_option maxHeartbeats 2000000 in
theorem may_any (c v : Int) (ok : Bool) (code : Int) (w : World) : Calls Try.prog 53 #[.agg #[.int .i64 c, .int .i64 v, .bool ok, .int .i64 code]] w fun e w' => e = .returned (.bool (mayB c v ok code)) ∧ Below w.heap.size w w' := by
  by_cases h1 : -1 ≤ c
  · by_cases h2 : c < 6
    · by_cases k0 : code = 0
      · subst k0
        go_enter Try.func53, Try.ntmps53
        go_wp2
        go_ret
        exact ⟨by simp [mayB, h1, h2], by (repeat (first | with_reducible exact Below.refl _ _ | (with_reducible refine Below.setCell ?_ (by first | (simp; done) | (simp; omega) | omega) _) | (with_reducible refine Below.alloc ?_ (by first | (simp; done) | (simp; omega) | omega) _) | (with_reducible refine Below.drew ?_)))⟩
      · by_cases k1 : code = 140 ∨ code = 141 ∨ code = 142 ∨ code = 143
        · rcases k1 with rfl | rfl | rfl | rfl
          all_goals
            go_enter Try.func53, Try.ntmps53
            cases hv : (v == 0)
            all_goals
              go_wp2
              go_ret
              exact ⟨by simp [mayB, h1, h2, hv], by (repeat (first | with_reducible exact Below.refl _ _ | (with_reducible refine Below.setCell ?_ (by first | (simp; done) | (simp; omega) | omega) _) | (with_reducible refine Below.alloc ?_ (by first | (simp; done) | (simp; omega) | omega) _) | (with_reducible refine Below.drew ?_)))⟩
        · simp only [not_or] at k1
          obtain ⟨q0, q1, q2, q3⟩ := k1
          go_enter Try.func53, Try.ntmps53
          go_wp2
          go_ret
          exact ⟨by simp [mayB, k0, q0, q1, q2, q3], by (repeat (first | with_reducible exact Below.refl _ _ | (with_reducible refine Below.setCell ?_ (by first | (simp; done) | (simp; omega) | omega) _) | (with_reducible refine Below.alloc ?_ (by first | (simp; done) | (simp; omega) | omega) _) | (with_reducible refine Below.drew ?_)))⟩
    · go_enter Try.func53, Try.ntmps53
      go_wp2
      go_ret
      exact ⟨by simp [mayB]; intro p q; omega, by (repeat (first | with_reducible exact Below.refl _ _ | (with_reducible refine Below.setCell ?_ (by first | (simp; done) | (simp; omega) | omega) _) | (with_reducible refine Below.alloc ?_ (by first | (simp; done) | (simp; omega) | omega) _) | (with_reducible refine Below.drew ?_)))⟩
  · go_enter Try.func53, Try.ntmps53
    go_wp2
    go_ret
    exact ⟨by simp [mayB]; intro p q; omega, by (repeat (first | with_reducible exact Below.refl _ _ | (with_reducible refine Below.setCell ?_ (by first | (simp; done) | (simp; omega) | omega) _) | (with_reducible refine Below.alloc ?_ (by first | (simp; done) | (simp; omega) | omega) _) | (with_reducible refine Below.drew ?_)))⟩
/-- Mail that lies in a block. -/
def MailB (w : World) (b : Nat) (c v : Int) (ok : Bool) (code : Int) : Prop := w.heap[b]? = some (.cells #[.int .i64 c, .int .i64 v, .bool ok, .int .i64 code] 30 (0, 0))
theorem alloc_its (w : World) (X : Obj) : (w.alloc X).heap[w.heap.size]? = some X := by show (w.heap.push X)[w.heap.size]? = _; simp
theorem alloc_one {w : World} {B : Nat} {o : Nat → Bool} {m : Nat → Option Nat} (h : Bxs w B o m) (X : Obj) : Bxs (w.alloc X) B o m := h.below ((Below.refl _ _).alloc (Nat.le_refl _) X)
section
variable {w : World} {B : Nat} {o : Nat → Bool} {m : Nat → Option Nat} (h : Bxs w B o m) (i : Nat) (hi : i < 32) (c v : Int) (ok : Bool) (code : Int)
include h hi
set_option maxHeartbeats 1000000 in
theorem put_bad (hmay : mayB c v ok code = false) :
    Calls Try.prog 16 #[.pointer (some ⟨B, 0, none⟩), .int .i64 i, .agg #[.int .i64 c, .int .i64 v, .bool ok, .int .i64 code]] w fun e w' => e = .returned (.int .i64 2) ∧ Bxs w' B o m ∧ OnlyB B w w' := by
  have hB := h.lt
  obtain ⟨e0, e1⟩ := nat32 hi
  have H1 := Lib.hid (fun X => alloc_one h X)
  clear h
  go_enter Try.func16, Try.ntmps16
  (go_wp2_with (first | (go_at_call 53; (with_reducible refine (may_any _ _ _ _ _).mono ?_); rintro e w2 ⟨rfl, hb⟩; rw [hmay]; have H2 := (H1.out _).below hb; have c0 := H2.op i hi; have c1 := H2.ml i hi; have d1 := H2.fr (i * 2 + 1); skip; have HH := Lib.hid H2; have HB := Lib.hid hb; clear H2 hb) | go_in))
  go_ret
  exact ⟨rfl, HH.out, (OnlyB.of_below ((Below.refl _ _).alloc (Nat.le_refl _) _)).below HB.out⟩
set_option maxHeartbeats 1000000 in
theorem put_closed (hmay : mayB c v ok code = true) (ho : o i = false) :
    Calls Try.prog 16 #[.pointer (some ⟨B, 0, none⟩), .int .i64 i, .agg #[.int .i64 c, .int .i64 v, .bool ok, .int .i64 code]] w fun e w' => e = .returned (.int .i64 3) ∧ Bxs w' B o m ∧ OnlyB B w w' := by
  have hB := h.lt
  obtain ⟨e0, e1⟩ := nat32 hi
  have H1 := Lib.hid (fun X => alloc_one h X)
  clear h
  go_enter Try.func16, Try.ntmps16
  (go_wp2_with (first | (go_at_call 53; (with_reducible refine (may_any _ _ _ _ _).mono ?_); rintro e w2 ⟨rfl, hb⟩; rw [hmay]; have H2 := (H1.out _).below hb; have c0 := H2.op i hi; have c1 := H2.ml i hi; have d1 := H2.fr (i * 2 + 1); rw [ho] at c0; have HH := Lib.hid H2; have HB := Lib.hid hb; clear H2 hb) | go_in))
  go_ret
  exact ⟨rfl, HH.out, (OnlyB.of_below ((Below.refl _ _).alloc (Nat.le_refl _) _)).below HB.out⟩
set_option maxHeartbeats 1000000 in
theorem put_have (hmay : mayB c v ok code = true) (ho : o i = true) (b : Nat) (hm : m i = some b) :
    Calls Try.prog 16 #[.pointer (some ⟨B, 0, none⟩), .int .i64 i, .agg #[.int .i64 c, .int .i64 v, .bool ok, .int .i64 code]] w fun e w' => e = .returned (.int .i64 9) ∧ Bxs w' B o m ∧ OnlyB B w w' := by
  have hB := h.lt
  obtain ⟨e0, e1⟩ := nat32 hi
  have H1 := Lib.hid (fun X => alloc_one h X)
  clear h
  go_enter Try.func16, Try.ntmps16
  (go_wp2_with (first | (go_at_call 53; (with_reducible refine (may_any _ _ _ _ _).mono ?_); rintro e w2 ⟨rfl, hb⟩; rw [hmay]; have H2 := (H1.out _).below hb; have c0 := H2.op i hi; have c1 := H2.ml i hi; have d1 := H2.fr (i * 2 + 1); rw [ho] at c0; rw [hm] at c1; simp only [ptr] at c1; have HH := Lib.hid H2; have HB := Lib.hid hb; clear H2 hb) | go_in))
  go_ret
  exact ⟨rfl, HH.out, (OnlyB.of_below ((Below.refl _ _).alloc (Nat.le_refl _) _)).below HB.out⟩
set_option maxHeartbeats 1000000 in
theorem put_ok (hmay : mayB c v ok code = true) (ho : o i = true) (hm : m i = none) :
    Calls Try.prog 16 #[.pointer (some ⟨B, 0, none⟩), .int .i64 i, .agg #[.int .i64 c, .int .i64 v, .bool ok, .int .i64 code]] w fun e w' => e = .returned (.int .i64 0) ∧ ∃ nb, w.heap.size ≤ nb ∧ MailB w' nb c v ok code ∧ Bxs w' B o (updF m i (some nb)) ∧ OnlyB B w w' := by
  have hB := h.lt
  obtain ⟨e0, e1⟩ := nat32 hi
  have H1 := Lib.hid (fun X => alloc_one h X)
  clear h
  go_enter Try.func16, Try.ntmps16
  (go_wp2_with (first | (go_at_call 53; (with_reducible refine (may_any _ _ _ _ _).mono ?_); rintro e w2 ⟨rfl, hb⟩; rw [hmay]; have H2 := (H1.out _).below hb; have c0 := H2.op i hi; have c1 := H2.ml i hi; have d1 := H2.fr (i * 2 + 1); rw [ho] at c0; rw [hm] at c1; simp only [ptr] at c1; have HH := Lib.hid H2; have HB := Lib.hid hb; clear H2 hb) | go_in))
  go_ret
  refine ⟨rfl, w.heap.size, Nat.le_refl _, ?_, HH.out.setMl hi (some w.heap.size), ((OnlyB.of_below ((Below.refl _ _).alloc (Nat.le_refl _) _)).below HB.out).set _ _⟩
  unfold MailB
  rw [Below.heap_setCell _ _ _ _ (by show w.heap.size ≠ B; omega), HB.out.block w.heap.size (by simp [World.size_alloc])]
  exact alloc_heap? .. |>.trans (if_pos rfl)
set_option maxHeartbeats 1000000 in
theorem take_none (hm : m i = none) :
    Calls Try.prog 17 #[.pointer (some ⟨B, 0, none⟩), .int .i64 i] w fun e w' => e = .returned (.tuple #[.agg #[.int .i64 0, .int .i64 0, .bool false, .int .i64 0], .int .i64 3]) ∧ Bxs w' B o m ∧ OnlyB B w w' := by
  have hB := h.lt
  obtain ⟨e0, e1⟩ := nat32 hi
  have c1 := h.ml i hi
  rw [hm] at c1
  simp only [ptr] at c1
  have H := Lib.hid h
  clear h
  go_enter Try.func17, Try.ntmps17
  obtain ⟨r0, r1, r2, r3⟩ := Ly.cells4 (alloc_its w (.cells #[.int .i64 0, .int .i64 0, .bool false, .int .i64 0] 30 (0, 0)))
  go_wp2
  refine Ly.ret_of (by simp [results, Try.results17, go_sem, r0, r1, r2, r3] <;> (repeat' (first | rfl | apply And.intro))) rfl ⟨rfl, alloc_one H.out _, OnlyB.of_below ((Below.refl _ _).alloc (Nat.le_refl _) _)⟩
set_option maxHeartbeats 1000000 in
theorem take_some (b : Nat) (hm : m i = some b) (hM : MailB w b c v ok code) (hb : b ≠ B) :
    Calls Try.prog 17 #[.pointer (some ⟨B, 0, none⟩), .int .i64 i] w fun e w' => e = .returned (.tuple #[.agg #[.int .i64 c, .int .i64 v, .bool ok, .int .i64 code], .int .i64 0]) ∧ Bxs w' B (updF o i false) (updF m i none) ∧ OnlyB B w w' := by
  have hB := h.lt
  have hbl : b < w.heap.size := (Array.getElem?_eq_some_iff.1 hM).1
  obtain ⟨e0, e1⟩ := nat32 hi
  have c0 := h.op i hi
  have c1 := h.ml i hi
  have d0 := h.fr (i * 2)
  have d1 := h.fr (i * 2 + 1)
  rw [hm] at c1
  simp only [ptr] at c1
  have H := Lib.hid h
  obtain ⟨q0, q1, q2, q3⟩ := Ly.cells4 hM
  clear h hM
  go_enter Try.func17, Try.ntmps17
  obtain ⟨r0, r1, r2, r3⟩ := Ly.cells4 (alloc_its ((w.setCell ⟨B, i * 2, none⟩ (.bool false)).setCell ⟨B, i * 2 + 1, none⟩ (.pointer none)) (.cells #[.int .i64 c, .int .i64 v, .bool ok, .int .i64 code] 30 (0, 0)))
  have hsz : ((w.setCell ⟨B, i * 2, none⟩ (.bool false)).setCell ⟨B, i * 2 + 1, none⟩ (.pointer none)).heap.size = w.heap.size := by simp [World.setCell]
  rw [hsz] at r0 r1 r2 r3
  go_wp2
  refine Ly.ret_of (by simp [results, Try.results17, go_sem, r0, r1, r2, r3] <;> (repeat' (first | rfl | apply And.intro))) rfl ⟨rfl, alloc_one ((H.out.setOp hi false).setMl hi none) _, (((OnlyB.refl B w).set _ _).set _ _).below ((Below.refl _ _).alloc (Nat.le_refl _) _)⟩
set_option maxHeartbeats 1000000 in
theorem has_at :
    Calls Try.prog 49 #[.pointer (some ⟨B, 0, none⟩), .int .i64 i] w fun e w' => e = .returned (.bool (m i).isSome) ∧ Bxs w' B o m ∧ OnlyB B w w' := by
  have hB := h.lt
  obtain ⟨e0, e1⟩ := nat32 hi
  have c1 := h.ml i hi
  have H := Lib.hid h
  clear h
  cases hm : m i <;> (rw [hm] at c1; simp only [ptr] at c1)
  · have r0 : (w.alloc (.cells #[.bool false] 4 (0, 0))).cell? ⟨w.heap.size, 0, none⟩ = some (.bool false) := Ly.cellAt (alloc_its w _) 0 rfl
    go_enter Try.func49, Try.ntmps49
    go_wp2
    refine Ly.ret_of (by simp [results, Try.results49, go_sem, r0] <;> (repeat' (first | rfl | apply And.intro))) rfl ⟨rfl, alloc_one H.out _, OnlyB.of_below ((Below.refl _ _).alloc (Nat.le_refl _) _)⟩
  · have r0 : (w.alloc (.cells #[.bool true] 4 (0, 0))).cell? ⟨w.heap.size, 0, none⟩ = some (.bool true) := Ly.cellAt (alloc_its w _) 0 rfl
    go_enter Try.func49, Try.ntmps49
    go_wp2
    refine Ly.ret_of (by simp [results, Try.results49, go_sem, r0] <;> (repeat' (first | rfl | apply And.intro))) rfl ⟨rfl, alloc_one H.out _, OnlyB.of_below ((Below.refl _ _).alloc (Nat.le_refl _) _)⟩
end
/-- New. -/
theorem new_any (w : World) : Calls Try.prog 14 #[] w fun e w' => e = .returned (.pointer (some ⟨w.heap.size, 0, none⟩)) ∧ Bxs w' w.heap.size (fun _ => false) (fun _ => none) ∧ Below w.heap.size w w' := by
  go_enter Try.func14, Try.ntmps14
  go_wp2
  go_ret
  refine ⟨rfl, ⟨by simp [World.size_alloc], fun i hi => Ly.cellAt (alloc_its w _) (i * 2) ?_, fun i hi => Ly.cellAt (alloc_its w _) (i * 2 + 1) ?_, fun i => Ly.frozAt (alloc_its w _) i⟩, (Below.refl _ _).alloc (Nat.le_refl _) _⟩
  · iterate 32 (rcases i with _ | i; · rfl)
    omega
  · iterate 32 (rcases i with _ | i; · rfl)
    omega
end Go.Proofs.Ytljfloopjgpaeaa
