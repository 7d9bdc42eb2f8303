/- task: a table in memory; of, Pick, Took, Use, Hold, Len. -/
import Derived.Test.YtljfloopjgpaeaaSF
import Derived.Test.YtljfloopjgpaeaaRM
namespace Go.Proofs.Ytljfloopjgpaeaa
set_option linter.unusedVariables false
set_option linter.unusedSimpArgs false
open Go.RowKit Go.Shelf
attribute [local go_sem] Oper.semAt_some
set_option maxRecDepth 100000
/-- A task's block, of a task that runs its first frame. -/
def OneAt (W : World) (X : Nat) (used : Int) (sl : Value) (M : Nat) : Prop := W.heap[X]? = some (.cells #[.int .u8 1, .int .i64 0, .int .i64 0, .int .i64 0, .int .i64 0, .int .i64 0, .int .i64 0, .int .i64 0, .int .i64 0, .int .i64 0, .int .i64 0, .int .i64 used, sl, .map (some M)] 158 (0, 0))
theorem OneAt.lt {W : World} {X : Nat} {used : Int} {sl : Value} {M : Nat} (h : OneAt W X used sl M) : X < W.heap.size := (Array.getElem?_eq_some_iff.1 h).1
theorem OneAt.c11 {W : World} {X : Nat} {used : Int} {sl : Value} {M : Nat} (h : OneAt W X used sl M) : W.cell? ⟨X, 11, none⟩ = some (.int .i64 used) := Ly.cellAt h 11 rfl
theorem OneAt.c12 {W : World} {X : Nat} {used : Int} {sl : Value} {M : Nat} (h : OneAt W X used sl M) : W.cell? ⟨X, 12, none⟩ = some sl := Ly.cellAt h 12 rfl
theorem OneAt.c13 {W : World} {X : Nat} {used : Int} {sl : Value} {M : Nat} (h : OneAt W X used sl M) : W.cell? ⟨X, 13, none⟩ = some (.map (some M)) := Ly.cellAt h 13 rfl
/-- A table's block. -/
def TabAt (W : World) (T : Nat) (x1 x2 x3 sl : Value) : Prop := W.heap[T]? = some (.cells #[x1, x2, x3, sl] 152 (0, 0))
theorem TabAt.lt {W : World} {T : Nat} {x1 x2 x3 sl : Value} (h : TabAt W T x1 x2 x3 sl) : T < W.heap.size := (Array.getElem?_eq_some_iff.1 h).1
theorem TabAt.c3 {W : World} {T : Nat} {x1 x2 x3 sl : Value} (h : TabAt W T x1 x2 x3 sl) : W.cell? ⟨T, 3, none⟩ = some sl := Ly.cellAt h 3 rfl
/-- A task's orders. -/
def MapAt (W : World) (M : Nat) (d : Nat → Option Value) : Prop := ∃ es n, W.heap[M]? = some (.map (entsI .i64 es) n) ∧ Dict es d
theorem zero_ptrOrder (W : World) : (zeroValue 159).run Try.prog W = .ok (.pointer none) W := Try.zeroValue159 W
theorem MapAt.ask1 {W : World} {M : Nat} {d : Nat → Option Value} (h : MapAt W M d) {i : Nat} (hi : i < 32) {v : Value} (hd : d i = some v) :
    (Instr.lookup 156 (.map (some M)) (.int .i64 i) false).run Try.prog W = .ok v W := by
  obtain ⟨es, n, hb, hD⟩ := h
  obtain ⟨j, hj⟩ := hD.find .i64 hi hd
  have ha := run_mapAsk1 (P := Try.prog) Try.underlying156 Try.underlying3 zero_ptrOrder hb i
  rw [hj] at ha
  exact ha
theorem MapAt.ask {W : World} {M : Nat} {d : Nat → Option Value} (h : MapAt W M d) {i : Nat} (hi : i < 32) {v : Value} (hd : d i = some v) :
    (Instr.lookup 156 (.map (some M)) (.int .i64 i) true).run Try.prog W = .ok (.tuple #[v, .bool true]) W := by
  obtain ⟨es, n, hb, hD⟩ := h
  obtain ⟨j, hj⟩ := hD.find .i64 hi hd
  have ha := run_mapAsk (P := Try.prog) Try.underlying156 Try.underlying3 zero_ptrOrder hb i
  rw [hj] at ha
  exact ha
set_option maxHeartbeats 1000000 in
theorem tof1_at {w : World} {X M b cs co : Nat} {used : Int} {sl : Value} {d : Nat → Option Value} {i : Nat} (hX : OneAt w X used sl M) (hM : MapAt w M d) (hi : i < 32) (hd : d i = some (.pointer (some ⟨b, 0, none⟩)))
    (hs : w.cell? ⟨cs, 0, none⟩ = some (.int .i64 i)) (hsl : cs < w.heap.size) (ho : Boxed w co 159 (.pointer none)) :
    Calls Try.prog 118 #[.pointer (some ⟨X, 0, none⟩), .pointer (some ⟨cs, 0, none⟩), .pointer (some ⟨co, 0, none⟩)] w fun e w' => e = .returned (.int .i64 0) ∧ ∃ q, w' = (w.setCell ⟨co, 0, none⟩ (.pointer (some ⟨b, 0, none⟩))).drewN q := by
  have hXl := hX.lt
  have c13 := hX.c13
  have hol := ho.lt
  have oc := ho.cell
  have of := ho.frozen
  have hq : (Instr.lookup 156 (.map (some M)) (.int .i64 i) false).run Try.prog w.drew = .ok (.pointer (some ⟨b, 0, none⟩)) w.drew := MapAt.ask1 (W := w.drew) hM hi hd
  clear hX ho hM hd
  go_enter Try.func118, Try.ntmps118
  go_upto_region 1 with fail
  go_region
  all_goals go_wp2
  all_goals go_ret
  all_goals exact ⟨rfl, 1, rfl⟩
theorem OneAt.keep {W W' : World} {N X : Nat} {used : Int} {sl : Value} {M : Nat} (h : OneAt W X used sl M) (hb : Below N W W') (hN : X < N) : OneAt W' X used sl M := (hb.block X hN).trans h
theorem TabAt.keep {W W' : World} {N T : Nat} {x1 x2 x3 sl : Value} (h : TabAt W T x1 x2 x3 sl) (hb : Below N W W') (hN : T < N) : TabAt W' T x1 x2 x3 sl := (hb.block T hN).trans h
theorem MapAt.keep {W W' : World} {N M : Nat} {d : Nat → Option Value} (h : MapAt W M d) (hb : Below N W W') (hN : M < N) : MapAt W' M d := by
  obtain ⟨es, n, h1, h2⟩ := h
  exact ⟨es, n, (hb.block M hN).trans h1, h2⟩
theorem MapAt.lt {W : World} {M : Nat} {d : Nat → Option Value} (h : MapAt W M d) : M < W.heap.size := by
  obtain ⟨es, n, h1, h2⟩ := h
  exact (Array.getElem?_eq_some_iff.1 h1).1
/-- A table, and its task i. -/
structure TabOne (w : World) (T : Nat) (x1 x2 x3 : Value) (A n cap i X : Nat) (used : Int) (sl : Value) (M : Nat) (d : Nat → Option Value) : Prop where
  tab : TabAt w T x1 x2 x3 (.slice (some ⟨A, 0, none⟩) n cap)
  n32 : n ≤ 32
  lt : i < n
  cell : w.cell? ⟨A, i, none⟩ = some (.pointer (some ⟨X, 0, none⟩))
  one : OneAt w X used sl M
  map : MapAt w M d
theorem TabOne.al {w : World} {T : Nat} {x1 x2 x3 : Value} {A n cap i X : Nat} {used : Int} {sl : Value} {M : Nat} {d : Nat → Option Value} (h : TabOne w T x1 x2 x3 A n cap i X used sl M d) : A < w.heap.size := World.block_lt_of_cell? w _ h.cell
theorem TabOne.keep {w w' : World} {T : Nat} {x1 x2 x3 : Value} {A n cap i X : Nat} {used : Int} {sl : Value} {M : Nat} {d : Nat → Option Value} (h : TabOne w T x1 x2 x3 A n cap i X used sl M d) (hb : Below w.heap.size w w') : TabOne w' T x1 x2 x3 A n cap i X used sl M d :=
  ⟨h.tab.keep hb h.tab.lt, h.n32, h.lt, Below.at hb h.cell h.al, h.one.keep hb h.one.lt, h.map.keep hb h.map.lt⟩
set_option maxHeartbeats 1000000 in
theorem of_at {w : World} {T : Nat} {x1 x2 x3 : Value} {A n cap i X : Nat} {used : Int} {sl : Value} {M : Nat} {d : Nat → Option Value} (h : TabOne w T x1 x2 x3 A n cap i X used sl M d) {s b : Nat} (hs : s < 32) (hd : d s = some (.pointer (some ⟨b, 0, none⟩))) :
    Calls Try.prog 92 #[.pointer (some ⟨T, 0, none⟩), .int .i64 i, .int .i64 s] w fun e w' => e = .returned (.pointer (some ⟨b, 0, none⟩)) ∧ Below w.heap.size w w' := by
  have hTl := h.tab.lt
  have c3 := h.tab.c3
  have hAl := h.al
  have ca := h.cell
  have e0 : (0 : Int) ≤ (i : Int) := by omega
  have e1 : (i : Int) < (n : Int) := by have := h.lt; omega
  have d0 : decide ((i : Int) < 0) = false := by simp
  have d1 : decide ((i : Int) ≥ (n : Int)) = false := by simp; omega
  have H := Lib.hid h
  clear h
  go_enter Try.func92, Try.ntmps92
  go_wp2_with go_in
  have hX := (H.out.keep (w' := (w.alloc (.cells #[.int .i64 s] 3)).alloc (.cells #[.pointer none] 159)) (by (repeat (first | with_reducible exact Below.refl _ _ | (with_reducible refine Below.setCell ?_ (by first | (simp; done) | (simp; omega) | omega) _) | (with_reducible refine Below.alloc ?_ (by first | (simp; done) | (simp; omega) | omega) _) | (with_reducible refine Below.drew ?_))))).one
  have hXl := hX.lt
  have c13 := hX.c13
  have hq : (Instr.lookup 156 (.map (some M)) (.int .i64 s) false).run Try.prog ((w.alloc (.cells #[.int .i64 s] 3)).alloc (.cells #[.pointer none] 159)).drew = .ok (.pointer (some ⟨b, 0, none⟩)) _ := MapAt.ask1 (W := ((w.alloc (.cells #[.int .i64 s] 3)).alloc (.cells #[.pointer none] 159)).drew) (H.out.keep (w' := (w.alloc (.cells #[.int .i64 s] 3)).alloc (.cells #[.pointer none] 159)) (by (repeat (first | with_reducible exact Below.refl _ _ | (with_reducible refine Below.setCell ?_ (by first | (simp; done) | (simp; omega) | omega) _) | (with_reducible refine Below.alloc ?_ (by first | (simp; done) | (simp; omega) | omega) _) | (with_reducible refine Below.drew ?_))))).map hs hd
  clear hX
  go_region
  all_goals go_wp2
  all_goals
    have r0 := Ly.cellAt (w := ((w.alloc (.cells #[.int .i64 s] 3)).alloc (.cells #[.pointer (some ⟨b, 0, none⟩)] 159)).drew) (World.alloc_heap_new (w.alloc (.cells #[.int .i64 s] 3)) (.cells #[.pointer (some ⟨b, 0, none⟩)] 159)) 0 rfl
    rw [World.size_alloc] at r0
    refine Ly.ret_of (by simp [results, Try.results92, go_sem, r0] <;> (repeat' (first | rfl | apply And.intro))) rfl ⟨rfl, by (repeat (first | with_reducible exact Below.refl _ _ | (with_reducible refine Below.setCell ?_ (by first | (simp; done) | (simp; omega) | omega) _) | (with_reducible refine Below.alloc ?_ (by first | (simp; done) | (simp; omega) | omega) _) | (with_reducible refine Below.drew ?_)))⟩
theorem only_of_below (b : Nat) {w w' : World} (h : Below w.heap.size w w') : Only b w w' := ⟨h.os, h.tape, h.output, h.size, fun k hk _ => h.block k hk⟩
theorem drew_below (w : World) : Below w.heap.size w w.drew := (Below.refl _ w).drew
set_option maxHeartbeats 1000000 in
/-- Pick. -/
theorem tPick_at {w : World} {T : Nat} {x1 x2 x3 : Value} {A n cap i X : Nat} {used : Int} {sl : Value} {M : Nat} {d : Nat → Option Value} (h : TabOne w T x1 x2 x3 A n cap i X used sl M d) {s b : Nat} (hs : s < 32) (hd : d s = some (.pointer (some ⟨b, 0, none⟩)))
    {a : Nat → Int} {m : Nat} (ho : OrdB w b a m) (hm : m ≤ 6) (r : Int) :
    Calls Try.prog 46 #[.pointer (some ⟨T, 0, none⟩), .int .i64 i, .int .i64 s, .int .u64 r] w fun e w' => (∃ c is, PickR a m r c is ∧ e = .returned (.tuple #[.int .i64 c, .bool is])) ∧ Below w.heap.size w w' := by
  have HF := Lib.hid (of_at h hs hd)
  have HO := Lib.hid ho
  clear h ho hd
  go_enter Try.func46, Try.ntmps46
  go_wp2_with (first | (go_at_call 92; (with_reducible refine HF.out.mono ?_); rintro e w1 ⟨rfl, hb1⟩; have HB := Lib.hid hb1; clear hb1) | (go_at_call 93; (with_reducible refine (pick_any (HO.out.keep HB.out HO.out.lt) hm r).mono ?_); rintro e w2 ⟨⟨c, is, hp, rfl⟩, hb2⟩; have HP := Lib.hid hp; have HB2 := Lib.hid hb2; clear hp hb2))
  refine Ly.ret_of (by simp [results, Try.results46, go_sem] <;> (repeat' (first | rfl | apply And.intro))) rfl ⟨⟨_, _, HP.out, rfl⟩, HB.out.trans (HB2.out.mono HB.out.size)⟩
set_option maxHeartbeats 1000000 in
/-- Took. -/
theorem tTook_at {w : World} {T : Nat} {x1 x2 x3 : Value} {A n cap i X : Nat} {used : Int} {sl : Value} {M : Nat} {d : Nat → Option Value} (h : TabOne w T x1 x2 x3 A n cap i X used sl M d) {s b : Nat} (hs : s < 32) (hd : d s = some (.pointer (some ⟨b, 0, none⟩)))
    {a : Nat → Int} {m : Nat} (ho : OrdB w b a m) (hm : m ≤ 6) (k : Int) (j : Nat) (hj : j < m) (hix : Lib.idxOf ((ordL a).take m) k = j) :
    Calls Try.prog 48 #[.pointer (some ⟨T, 0, none⟩), .int .i64 i, .int .i64 s, .int .i64 k] w fun e w' => e = .returned (.int .i64 0) ∧ OrdB w' b (tookF a m j k) m ∧ Only b w w' := by
  have hTl := h.tab.lt
  have c3 := h.tab.c3
  have hAl := h.al
  have ca := h.cell
  have e0 : (0 : Int) ≤ (i : Int) := by omega
  have e1 : (i : Int) < (n : Int) := by have := h.lt; omega
  have d0 : decide ((i : Int) < 0) = false := by simp
  have d1 : decide ((i : Int) ≥ (n : Int)) = false := by simp; omega
  have HO := Lib.hid ho
  have HX := Lib.hid hix
  have H := Lib.hid h
  clear h hix ho
  go_enter Try.func48, Try.ntmps48
  go_wp2_with go_in
  have hX := (H.out.keep (w' := (w.alloc (.cells #[.int .i64 s] 3)).alloc (.cells #[.int .i64 k] 3)) (by (repeat (first | with_reducible exact Below.refl _ _ | (with_reducible refine Below.setCell ?_ (by first | (simp; done) | (simp; omega) | omega) _) | (with_reducible refine Below.alloc ?_ (by first | (simp; done) | (simp; omega) | omega) _) | (with_reducible refine Below.drew ?_))))).one
  have hXl := hX.lt
  have c13 := hX.c13
  have hq : (Instr.lookup 156 (.map (some M)) (.int .i64 s) true).run Try.prog ((w.alloc (.cells #[.int .i64 s] 3)).alloc (.cells #[.int .i64 k] 3)).drew = .ok (.tuple #[.pointer (some ⟨b, 0, none⟩), .bool true]) _ := MapAt.ask (W := ((w.alloc (.cells #[.int .i64 s] 3)).alloc (.cells #[.int .i64 k] 3)).drew) (H.out.keep (w' := (w.alloc (.cells #[.int .i64 s] 3)).alloc (.cells #[.int .i64 k] 3)) (by (repeat (first | with_reducible exact Below.refl _ _ | (with_reducible refine Below.setCell ?_ (by first | (simp; done) | (simp; omega) | omega) _) | (with_reducible refine Below.alloc ?_ (by first | (simp; done) | (simp; omega) | omega) _) | (with_reducible refine Below.drew ?_))))).map hs hd
  clear hX
  go_region
  all_goals go_wp2_with (go_at_call 97; (with_reducible refine (took_at (w := ((w.alloc (.cells #[.int .i64 s] 3)).alloc (.cells #[.int .i64 k] 3)).drew) (HO.out.keep (by (repeat (first | with_reducible exact Below.refl _ _ | (with_reducible refine Below.setCell ?_ (by first | (simp; done) | (simp; omega) | omega) _) | (with_reducible refine Below.alloc ?_ (by first | (simp; done) | (simp; omega) | omega) _) | (with_reducible refine Below.drew ?_)))) HO.out.lt) hm k j hj HX.out).mono ?_); rintro e w1 ⟨rfl, ho1, hon⟩; have HU := Lib.hid ho1; have HN := Lib.hid hon; clear ho1 hon)
  all_goals go_ret
  all_goals exact ⟨rfl, HU.out, (only_of_below b (by (repeat (first | with_reducible exact Below.refl _ _ | (with_reducible refine Below.setCell ?_ (by first | (simp; done) | (simp; omega) | omega) _) | (with_reducible refine Below.alloc ?_ (by first | (simp; done) | (simp; omega) | omega) _) | (with_reducible refine Below.drew ?_))))).trans HN.out⟩
end Go.Proofs.Ytljfloopjgpaeaa
