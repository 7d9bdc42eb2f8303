/- Frames: what their cells say; package frame's small functions. -/
import Derived.Test.YtljfloopjgpaeaaI
import Derived.RegionTactic
import Derived.BigRegion
import Derived.Deep.RegionHeld3
import Derived.Laws.EntriesVeiled
namespace Go.Proofs.Ytljfloopjgpaeaa
set_option linter.unusedVariables false
set_option linter.unusedSimpArgs false
open Go.RowKit
set_option maxRecDepth 100000

/-- w' is w with new blocks, and with writes to block B. -/
structure Only (B : Nat) (w w' : World) : Prop where
  os : w'.os = w.os
  tape : w'.tape = w.tape
  output : w'.output = w.output
  size : w.heap.size ≤ w'.heap.size
  block : ∀ k, k < w.heap.size → k ≠ B → w'.heap[k]? = w.heap[k]?
theorem Only.refl (B : Nat) (w : World) : Only B w w := ⟨rfl, rfl, rfl, Nat.le_refl _, fun _ _ _ => rfl⟩
theorem Only.trans {B : Nat} {a b c : World} (h : Only B a b) (k : Only B b c) : Only B a c :=
  ⟨k.os.trans h.os, k.tape.trans h.tape, k.output.trans h.output, Nat.le_trans h.size k.size, fun i hi hB => (k.block i (Nat.lt_of_lt_of_le hi h.size) hB).trans (h.block i hi hB)⟩
theorem Only.drew {B : Nat} {a w : World} (h : Only B a w) : Only B a w.drew := ⟨h.os, h.tape, h.output, h.size, h.block⟩
theorem Only.alloc {B : Nat} {a w : World} (h : Only B a w) (o : Obj) : Only B a (w.alloc o) :=
  h.trans ⟨rfl, rfl, rfl, by simp, fun k hk _ => Below.heap_alloc _ _ _ hk⟩
theorem Only.set {B : Nat} {a w : World} (h : Only B a w) (i : Nat) (u : Value) : Only B a (w.setCell ⟨B, i, none⟩ u) :=
  h.trans ⟨rfl, rfl, rfl, by simp [World.setCell], fun k _ hB => Below.heap_setCell _ _ _ _ hB⟩
theorem Only.of_below {B : Nat} {a b c : World} (h : Only B a b) (k : Below b.heap.size b c) : Only B a c :=
  h.trans ⟨k.os, k.tape, k.output, k.size, fun i hi _ => k.block i hi⟩
theorem Only.below {B n : Nat} {w w' : World} (h : Only B w w') (hB : n ≤ B) (hn : n ≤ w.heap.size) : Below n w w' :=
  ⟨h.os, h.tape, h.output, h.size, fun k hk => h.block k (by omega) (by omega)⟩

structure FrameV where
  code : Int
  pc : Int
  r : List Int
  deriving DecidableEq, Inhabited
/-- Register i. -/
def rg (r : List Int) (i : Nat) : Int := r.getD i 0
def FrameV.wf (f : FrameV) : Prop := f.r.length = 8
theorem rg_set {r : List Int} {a : Nat} (v : Int) (ha : a < r.length) (i : Nat) : rg (r.set a v) i = if i = a then v else rg r i := by
  simp only [rg, List.getD_eq_getElem?_getD, List.getElem?_set]
  by_cases h : i = a
  · subst h; simp [ha]
  · rw [if_neg (Ne.symm h), if_neg h]
def FrameV.cells (f : FrameV) : Array Value := #[.int .i64 f.code, .int .i64 f.pc, .int .i64 (rg f.r 0), .int .i64 (rg f.r 1), .int .i64 (rg f.r 2), .int .i64 (rg f.r 3), .int .i64 (rg f.r 4), .int .i64 (rg f.r 5), .int .i64 (rg f.r 6), .int .i64 (rg f.r 7)]
def FrameV.agg (f : FrameV) : Value := .agg f.cells
/-- Block B is the frame f. -/
def FrB (w : World) (B : Nat) (f : FrameV) : Prop := w.heap[B]? = some (.cells f.cells 47 (0, 0))
theorem FrB.lt {w : World} {B : Nat} {f : FrameV} (h : FrB w B f) : B < w.heap.size := (Array.getElem?_eq_some_iff.1 h).1
theorem FrB.keep {w w' : World} {B n : Nat} {f : FrameV} (h : FrB w B f) (hb : Below n w w') (hB : B < n) : FrB w' B f := (hb.block B hB).trans h
theorem FrB.only {w w' : World} {B n : Nat} {f : FrameV} (h : FrB w B f) (hb : Only n w w') (hB : B ≠ n) : FrB w' B f := (hb.block B h.lt hB).trans h
theorem FrB.alloc {w : World} {B : Nat} {f : FrameV} (h : FrB w B f) (o : Obj) : FrB (w.alloc o) B f := (Below.heap_alloc _ _ _ h.lt).trans h
theorem FrB.drew {w : World} {B : Nat} {f : FrameV} (h : FrB w B f) : FrB w.drew B f := h
theorem FrB.cell {w : World} {B : Nat} {f : FrameV} (h : FrB w B f) (i : Nat) : w.cell? ⟨B, i, none⟩ = f.cells[i]? := by simp [World.cell?, show w.heap[B]? = _ from h]
theorem FrB.free {w : World} {B : Nat} {f : FrameV} (h : FrB w B f) (i : Nat) : w.frozen? ⟨B, i, none⟩ = false := by simp [World.frozen?, show w.heap[B]? = _ from h]
theorem FrB.reg {w : World} {B : Nat} {f : FrameV} (h : FrB w B f) {a : Nat} (ha : a < 8) : w.cell? ⟨B, 2 + a, none⟩ = some (.int .i64 (rg f.r a)) := by
  rw [h.cell]
  obtain rfl | rfl | rfl | rfl | rfl | rfl | rfl | rfl : a = 0 ∨ a = 1 ∨ a = 2 ∨ a = 3 ∨ a = 4 ∨ a = 5 ∨ a = 6 ∨ a = 7 := by omega
  all_goals rfl
theorem FrB.set_block {w : World} {B : Nat} {f : FrameV} (h : FrB w B f) (i : Nat) (v : Value) : (w.setCell ⟨B, i, none⟩ v).heap[B]? = some (.cells (f.cells.setIfInBounds i v) 47 (0, 0)) := by
  simp [World.setCell, Array.getElem?_modify, show w.heap[B]? = _ from h]
theorem FrB.setReg {w : World} {B : Nat} {f : FrameV} (h : FrB w B f) (hf : f.wf) {a : Nat} (ha : a < 8) (v : Int) : FrB (w.setCell ⟨B, 2 + a, none⟩ (.int .i64 v)) B { f with r := f.r.set a v } := by
  unfold FrB
  rw [h.set_block]
  have hl : a < f.r.length := by rw [hf]; exact ha
  simp only [FrameV.cells, rg_set v hl]
  obtain rfl | rfl | rfl | rfl | rfl | rfl | rfl | rfl : a = 0 ∨ a = 1 ∨ a = 2 ∨ a = 3 ∨ a = 4 ∨ a = 5 ∨ a = 6 ∨ a = 7 := by omega
  all_goals simp
theorem FrB.setPc {w : World} {B : Nat} {f : FrameV} (h : FrB w B f) (v : Int) : FrB (w.setCell ⟨B, 1, none⟩ (.int .i64 v)) B { f with pc := v } := by
  unfold FrB
  rw [h.set_block]
  simp [FrameV.cells]

/-! ### Plain functions -/
def localB (op : Int) : Bool := decide (1 ≤ op) && decide (op ≤ 4)
/-- What a local instruction does with a frame that stands at the next one. -/
def actF (x : InsV) (f : FrameV) : FrameV :=
  if x.op = 1 then { f with r := f.r.set x.a.toNat x.k }
  else if x.op = 2 then { f with r := f.r.set x.a.toNat (wrap64 (rg f.r x.a.toNat + rg f.r x.b.toNat)) }
  else if x.op = 3 then { f with pc := x.k }
  else if rg f.r x.a.toNat = 0 then { f with pc := x.k } else f

set_option maxHeartbeats 1000000 in
theorem act1_any (B a : Nat) (op b ch k : Int) (f : FrameV) (hf : f.wf) (w : World) (h : FrB w B f) (ha : a < 8) :
    Calls Try.prog 110 #[.pointer (some ⟨B, 0, none⟩), .agg #[.int .u8 op, .int .i64 a, .int .i64 b, .int .i64 ch, .int .i64 k]] w fun e w' => e = .returned (.tuple #[]) ∧ FrB w' B { f with r := f.r.set a k } ∧ Only B w w' := by
  have hB := h.lt
  have c1 := h.reg ha
  have d1 := h.free (2 + a)
  have H := Lib.hid h
  have HF := Lib.hid hf
  clear h hf
  go_enter Try.func110, Try.ntmps110
  go_wp2
  go_region
  all_goals go_wp2
  all_goals go_end0
  all_goals exact ⟨rfl, ((H.out.setReg HF.out ha k).alloc _).drew, (((Only.refl B w).set (2 + a) _).alloc _).drew⟩

set_option maxHeartbeats 1000000 in
theorem act2_any (B a b : Nat) (op ch k : Int) (f : FrameV) (hf : f.wf) (w : World) (h : FrB w B f) (ha : a < 8) (hb : b < 8) :
    Calls Try.prog 111 #[.pointer (some ⟨B, 0, none⟩), .agg #[.int .u8 op, .int .i64 a, .int .i64 b, .int .i64 ch, .int .i64 k]] w fun e w' => e = .returned (.tuple #[]) ∧ FrB w' B { f with r := f.r.set a (wrap64 (rg f.r a + rg f.r b)) } ∧ Only B w w' := by
  have hB := h.lt
  have c1 := h.reg ha
  have c2 := h.reg hb
  have d1 := h.free (2 + a)
  have H := Lib.hid h
  have HF := Lib.hid hf
  clear h hf
  go_enter Try.func111, Try.ntmps111
  go_wp2
  go_region
  all_goals go_wp2
  all_goals go_end0
  all_goals exact ⟨rfl, ((H.out.setReg HF.out ha _).alloc _).drew, (((Only.refl B w).set (2 + a) _).alloc _).drew⟩

theorem act3_any (B : Nat) (op a b ch k : Int) (f : FrameV) (w : World) (h : FrB w B f) :
    Calls Try.prog 112 #[.pointer (some ⟨B, 0, none⟩), .agg #[.int .u8 op, .int .i64 a, .int .i64 b, .int .i64 ch, .int .i64 k]] w fun e w' => e = .returned (.tuple #[]) ∧ FrB w' B { f with pc := k } ∧ Only B w w' := by
  have hB := h.lt
  have c1 : w.cell? ⟨B, 1, none⟩ = some (.int .i64 f.pc) := h.cell 1
  have d1 := h.free 1
  have H := Lib.hid h
  clear h
  go_enter Try.func112, Try.ntmps112
  go_wp2
  go_end0
  exact ⟨rfl, (H.out.setPc k).alloc _, ((Only.refl B w).set 1 _).alloc _⟩

set_option maxHeartbeats 1000000 in
theorem act4_any (B a : Nat) (op b ch k : Int) (f : FrameV) (w : World) (h : FrB w B f) (ha : a < 8) :
    Calls Try.prog 113 #[.pointer (some ⟨B, 0, none⟩), .agg #[.int .u8 op, .int .i64 a, .int .i64 b, .int .i64 ch, .int .i64 k]] w fun e w' => e = .returned (.tuple #[]) ∧ FrB w' B (if rg f.r a = 0 then { f with pc := k } else f) ∧ Only B w w' := by
  have hB := h.lt
  have c1 : w.cell? ⟨B, 1, none⟩ = some (.int .i64 f.pc) := h.cell 1
  have c2 := h.reg ha
  have d1 := h.free 1
  have H := Lib.hid h
  clear h
  by_cases hz : rg f.r a = 0
  · rw [if_pos hz]
    have hd : (rg f.r a == 0) = true := by simp [hz]
    clear hz
    go_enter Try.func113, Try.ntmps113
    go_wp2
    go_region
    all_goals go_wp2
    all_goals go_end0
    all_goals exact ⟨rfl, ((H.out.setPc k).alloc _).drew, (((Only.refl B w).set 1 _).alloc _).drew⟩
  · rw [if_neg hz]
    have hd : (rg f.r a == 0) = false := by simp [hz]
    clear hz
    go_enter Try.func113, Try.ntmps113
    go_wp2
    go_region
    all_goals go_wp2
    all_goals go_end0
    all_goals exact ⟨rfl, (H.out.alloc _).drew, ((Only.refl B w).alloc _).drew⟩

def actL : List (Int × Value × Nat) := [(1, .agg #[.func (.func 110) #[] #[]], 0), (2, .agg #[.func (.func 111) #[] #[]], 1), (3, .agg #[.func (.func 112) #[] #[]], 2), (4, .agg #[.func (.func 113) #[] #[]], 3)]
attribute [local go_sem] findI_nil findI_cons in
theorem acts_any (w : World) : Calls Try.prog 79 #[] w fun e w' => e = .returned (.map (some w.heap.size)) ∧ w' = w.alloc (.map (entsI .u8 actL) 4) := by
  have hmm : ∀ (w : World), (Instr.makeMap 137 none).run Try.prog w = .ok (.map (some w.heap.size)) (w.alloc (.map (entsI .u8 []) 0)) := fun w => run_makeMap_plain w _
  have hpu := fun (w : World) (n : Nat) (es : List (Int × Value × Nat)) => @run_mapPut_new Try.prog w 137 5 136 .u8 Try.underlying137 Try.underlying5 n es
  go_enter Try.func79, Try.ntmps79
  go_wp2
  rw [hpu _ _ _ _ _ (findI_nil _ _ _)]
  go_wp2
  go_ret
  exact ⟨rfl, rfl⟩

theorem reg_any (k : Int) (w : World) : Calls Try.prog 77 #[.int .i64 k] w fun e w' => e = .returned (.bool (regB k)) ∧ w = w' := by
  go_enter Try.func77, Try.ntmps77
  go_wp2
  all_goals
    go_ret
    exact ⟨ret_bool (by simp [regB, *] <;> omega), rfl⟩
theorem local_any (k : Int) (w : World) : Calls Try.prog 78 #[.int .u8 k] w fun e w' => e = .returned (.bool (localB k)) ∧ w = w' := by
  go_enter Try.func78, Try.ntmps78
  go_wp2
  all_goals
    go_ret
    exact ⟨ret_bool (by simp [localB, *] <;> omega), rfl⟩

def atX (P : ProgV) (i j : Int) : InsV := (atV P i j).getD InsV.zero
def atB (P : ProgV) (i j : Int) : Bool := (atV P i j).isSome
theorem at_any' {c1 c3 : Value} {A : Option Addr} {c : Nat} {P : ProgV} {w : World} (h : RProg w c1 (.slice A P.codes.length c) c3 P) (i j : Int) :
    Calls Try.prog 24 #[.agg #[c1, .slice A P.codes.length c, c3], .int .i64 i, .int .i64 j] w fun e w' => e = .returned (.tuple #[.agg #[.int .u8 (atX P i j).op, .int .i64 (atX P i j).a, .int .i64 (atX P i j).b, .int .i64 (atX P i j).ch, .int .i64 (atX P i j).k], .bool (atB P i j)]) ∧ Below w.heap.size w w' :=
  at_any c1 c3 A c P w h i j

/-- The instruction at a frame. -/
theorem fAt_any {c1 c2 c3 : Value} {P : ProgV} {w : World} (h : RProg w c1 c2 c3 P) (fc fp r0 r1 r2 r3 r4 r5 r6 r7 : Int) :
    Calls Try.prog 31 #[.agg #[c1, c2, c3], .agg #[.int .i64 fc, .int .i64 fp, .int .i64 r0, .int .i64 r1, .int .i64 r2, .int .i64 r3, .int .i64 r4, .int .i64 r5, .int .i64 r6, .int .i64 r7]] w fun e w' =>
      e = .returned (.tuple #[.agg #[.int .u8 (atX P fc fp).op, .int .i64 (atX P fc fp).a, .int .i64 (atX P fc fp).b, .int .i64 (atX P fc fp).ch, .int .i64 (atX P fc fp).k], .bool (atB P fc fp)]) ∧ Below w.heap.size w w' := by
  obtain ⟨A1, n1, rfl, _, _, hl1⟩ := h.caps.val
  obtain ⟨A2, n2, rfl, _, _, hl2⟩ := h.codes.val
  obtain ⟨A3, n3, rfl, _, _, hl3⟩ := h.sites.val
  have HP := Lib.hid h
  clear h
  go_enter Try.func31, Try.ntmps31
  go_wp2_with ((with_reducible refine (at_any' (HP.out.keep (by (repeat (first | with_reducible exact Below.refl _ _ | (with_reducible refine Below.setCell ?_ (by first | (simp; done) | (simp; omega) | omega) _) | (with_reducible refine Below.alloc ?_ (by first | (simp; done) | (simp; omega) | omega) _) | (with_reducible refine Below.drew ?_))))) _ _).mono ?_); rintro e w' ⟨rfl, hb'⟩; obtain ⟨hbc, hbf⟩ := bcell hb')
  generalize atX P fc fp = x
  have hsz := hb'.size
  refine bodyPost_ret (v := .tuple #[.agg #[.int .u8 x.op, .int .i64 x.a, .int .i64 x.b, .int .i64 x.ch, .int .i64 x.k], .bool (atB P fc fp)]) ?_ rfl ⟨rfl, ?_⟩
  · simp [results, Try.results31, go_sem, hbc, hbf]
  · (have hszq := hb'.size; (try simp only [World.size_alloc] at hszq); (repeat (first | (with_reducible refine Below.setCell ?_ (by first | (simp; done) | (simp; omega) | omega) _) | (with_reducible refine Below.alloc ?_ (by first | (simp; done) | (simp; omega) | omega) _) | (with_reducible refine Below.drew ?_))); refine Below.trans ?_ (hb'.mono (by first | (simp; done) | (simp; omega) | omega)); (repeat (first | with_reducible exact Below.refl _ _ | (with_reducible refine Below.setCell ?_ (by first | (simp; done) | (simp; omega) | omega) _) | (with_reducible refine Below.alloc ?_ (by first | (simp; done) | (simp; omega) | omega) _) | (with_reducible refine Below.drew ?_))))
end Go.Proofs.Ytljfloopjgpaeaa
