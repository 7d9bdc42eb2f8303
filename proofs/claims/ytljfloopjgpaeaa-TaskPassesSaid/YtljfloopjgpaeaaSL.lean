/- tollbarlaw24.alive: a table of two tasks. -/
import Derived.Test.YtljfloopjgpaeaaSK
namespace Go.Proofs.Ytljfloopjgpaeaa
set_option linter.unusedVariables false
set_option linter.unusedSimpArgs false
open Go.RowKit Go.Shelf
attribute [local go_sem] Oper.semAt_some
set_option maxRecDepth 100000
theorem Only.obj {b : Nat} {W W' : World} (h : Only b W W') {k : Nat} {o : Obj} (hk : W.heap[k]? = some o) (hne : k ≠ b) : W'.heap[k]? = some o := (h.block k (Array.getElem?_eq_some_iff.1 hk).1 hne).trans hk
theorem obj_ne {W : World} {k b : Nat} {o u : Obj} (hk : W.heap[k]? = some o) (hb : W.heap[b]? = some u) (h : o ≠ u) : k ≠ b := fun e => by
  subst e
  rw [hk] at hb
  injection hb with hb
  exact h hb
def ptrO (b : Nat) : Value := .pointer (some ⟨b, 0, none⟩)
def oneD (b : Nat) (i : Nat) : Option Value := if i < 1 then some (.pointer (some ⟨b, 0, none⟩)) else none
/-- A table of two tasks, of a program of one site of two cases. -/
structure Two (T : Nat) (W : World) (x1 x2 x3 : Value) (A cap : Nat) (cur : Array Value) (X0 X1 M0 M1 b0 b1 : Nat) (u0 : Int) (s1 : Value) (a0 : Nat → Int) : Prop where
  tab : TabAt W T x1 x2 x3 (.slice (some ⟨A, 0, none⟩) 2 cap)
  row : W.heap[A]? = some (.cells cur 153 (0, 0))
  r0 : cur[0]? = some (ptrO X0)
  r1 : cur[1]? = some (ptrO X1)
  k0 : OneAt W X0 u0 (.slice none 0 0) M0
  k1 : OneAt W X1 0 s1 M1
  m0 : MapAt W M0 (oneD b0)
  m1 : MapAt W M1 (oneD b1)
  o0 : OrdB W b0 a0 2
  o1 : OrdB W b1 (riseF 2) 2
  xne : X0 ≠ X1
  bne : b0 ≠ b1
section
variable {T : Nat} {W : World} {x1 x2 x3 : Value} {A cap : Nat} {cur : Array Value} {X0 X1 M0 M1 b0 b1 : Nat} {u0 : Int} {s1 : Value} {a0 : Nat → Int} (h : Two T W x1 x2 x3 A cap cur X0 X1 M0 M1 b0 b1 u0 s1 a0)
include h
theorem Two.below {W' : World} (hb : Below W.heap.size W W') : Two T W' x1 x2 x3 A cap cur X0 X1 M0 M1 b0 b1 u0 s1 a0 :=
  ⟨h.tab.keep hb h.tab.lt, (hb.block A (Array.getElem?_eq_some_iff.1 h.row).1).trans h.row, h.r0, h.r1, h.k0.keep hb h.k0.lt, h.k1.keep hb h.k1.lt, h.m0.keep hb h.m0.lt, h.m1.keep hb h.m1.lt, h.o0.keep hb h.o0.lt, h.o1.keep hb h.o1.lt, h.xne, h.bne⟩
theorem Two.one0 : TabOne W T x1 x2 x3 A 2 cap 0 X0 u0 (.slice none 0 0) M0 (oneD b0) := ⟨h.tab, by omega, by omega, Ly.cellAt h.row 0 h.r0, h.k0, h.m0⟩
theorem Two.one1 : TabOne W T x1 x2 x3 A 2 cap 1 X1 0 s1 M1 (oneD b1) := ⟨h.tab, by omega, by omega, Ly.cellAt h.row 1 h.r1, h.k1, h.m1⟩
omit h in
theorem mapOnly {W W' : World} {b M : Nat} {d : Nat → Option Value} (h : MapAt W M d) (ho : Only b W W') {u : Obj} (hb : W.heap[b]? = some u) (hu : ∀ es n, u ≠ .map es n) : MapAt W' M d := by
  obtain ⟨es, n, h1, h2⟩ := h
  exact ⟨es, n, ho.obj h1 (obj_ne h1 hb (fun e => hu _ _ e.symm)), h2⟩
theorem Two.took {W' : World} (ho : Only b0 W W') {a' : Nat → Int} (hn : OrdB W' b0 a' 2) : Two T W' x1 x2 x3 A cap cur X0 X1 M0 M1 b0 b1 u0 s1 a' :=
  have ty : ∀ (cs : Array Value) (t : Nat) (z : Nat × Nat), t ≠ 179 → ∀ k, W.heap[k]? = some (Obj.cells cs t z) → W'.heap[k]? = some (Obj.cells cs t z) := fun cs t z ht k hk => ho.obj hk (obj_ne hk h.o0.here (fun e => by injection e with _ e2 _; exact ht e2))
  ⟨ty _ 152 _ (by decide) _ h.tab, ty _ 153 _ (by decide) _ h.row, h.r0, h.r1, ty _ 158 _ (by decide) _ h.k0, ty _ 158 _ (by decide) _ h.k1, mapOnly h.m0 ho h.o0.here (fun _ _ e => by cases e), mapOnly h.m1 ho h.o0.here (fun _ _ e => by cases e), hn, ⟨ho.obj h.o1.here (fun e => h.bne e.symm)⟩, h.xne, h.bne⟩
theorem Two.used {W' : World} (ho : Only X0 W W') {u' : Int} (hn : OneAt W' X0 u' (.slice none 0 0) M0) : Two T W' x1 x2 x3 A cap cur X0 X1 M0 M1 b0 b1 u' s1 a0 :=
  have ty : ∀ (cs : Array Value) (t : Nat) (z : Nat × Nat), t ≠ 158 → ∀ k, W.heap[k]? = some (Obj.cells cs t z) → W'.heap[k]? = some (Obj.cells cs t z) := fun cs t z ht k hk => ho.obj hk (obj_ne hk h.k0 (fun e => by injection e with _ e2 _; exact ht e2))
  ⟨ty _ 152 _ (by decide) _ h.tab, ty _ 153 _ (by decide) _ h.row, h.r0, h.r1, hn, ho.obj h.k1 (fun e => h.xne e.symm), mapOnly h.m0 ho h.k0 (fun _ _ e => by cases e), mapOnly h.m1 ho h.k0 (fun _ _ e => by cases e), ⟨ty _ 179 _ (by decide) _ h.o0.here⟩, ⟨ty _ 179 _ (by decide) _ h.o1.here⟩, h.xne, h.bne⟩
theorem Two.held {W' : World} (ho : Only X1 W W') {s' : Value} (hn : OneAt W' X1 0 s' M1) : Two T W' x1 x2 x3 A cap cur X0 X1 M0 M1 b0 b1 u0 s' a0 :=
  have ty : ∀ (cs : Array Value) (t : Nat) (z : Nat × Nat), t ≠ 158 → ∀ k, W.heap[k]? = some (Obj.cells cs t z) → W'.heap[k]? = some (Obj.cells cs t z) := fun cs t z ht k hk => ho.obj hk (obj_ne hk h.k1 (fun e => by injection e with _ e2 _; exact ht e2))
  ⟨ty _ 152 _ (by decide) _ h.tab, ty _ 153 _ (by decide) _ h.row, h.r0, h.r1, ho.obj h.k0 h.xne, hn, mapOnly h.m0 ho h.k1 (fun _ _ e => by cases e), mapOnly h.m1 ho h.k1 (fun _ _ e => by cases e), ⟨ty _ 179 _ (by decide) _ h.o0.here⟩, ⟨ty _ 179 _ (by decide) _ h.o1.here⟩, h.xne, h.bne⟩
theorem Two.pick0 (r : Int) : Calls Try.prog 46 #[.pointer (some ⟨T, 0, none⟩), .int .i64 0, .int .i64 0, .int .u64 r] W fun e w' => (∃ c is, PickR a0 2 r c is ∧ e = .returned (.tuple #[.int .i64 c, .bool is])) ∧ Below W.heap.size W w' :=
  tPick_at h.one0 (s := 0) (by omega) rfl h.o0 (by omega) r
theorem Two.pick1 (r : Int) : Calls Try.prog 46 #[.pointer (some ⟨T, 0, none⟩), .int .i64 1, .int .i64 0, .int .u64 r] W fun e w' => (∃ c is, PickR (riseF 2) 2 r c is ∧ e = .returned (.tuple #[.int .i64 c, .bool is])) ∧ Below W.heap.size W w' :=
  tPick_at h.one1 (s := 0) (by omega) rfl h.o1 (by omega) r
theorem Two.took0 (ha : Lib.idxOf ((ordL a0).take 2) 0 = 0) : Calls Try.prog 48 #[.pointer (some ⟨T, 0, none⟩), .int .i64 0, .int .i64 0, .int .i64 0] W fun e w' => e = .returned (.int .i64 0) ∧ OrdB w' b0 (tookF a0 2 0 0) 2 ∧ Only b0 W w' :=
  tTook_at h.one0 (s := 0) (by omega) rfl h.o0 (by omega) 0 0 (by omega) ha
theorem Two.use0 (hu : 0 ≤ u0 ∧ u0 < 1000) : Calls Try.prog 88 #[.pointer (some ⟨T, 0, none⟩), .int .i64 0] W fun e w' => e = .returned (.tuple #[.int .i64 (u0 + 1), .int .i64 0]) ∧ OneAt w' X0 (u0 + 1) (.slice none 0 0) M0 ∧ Only X0 W w' :=
  tUse_at h.one0 hu
theorem Two.len : Calls Try.prog 90 #[.pointer (some ⟨T, 0, none⟩)] W fun e w' => e = .returned (.int .i64 2) ∧ w' = W :=
  tLen_at h.one0
end
theorem hold1_new {T : Nat} {W : World} {x1 x2 x3 : Value} {A cap : Nat} {cur : Array Value} {X0 X1 M0 M1 b0 b1 : Nat} {u0 : Int} {a0 : Nat → Int} (h : Two T W x1 x2 x3 A cap cur X0 X1 M0 M1 b0 b1 u0 (.slice none 0 0) a0) :
    Calls Try.prog 89 #[.pointer (some ⟨T, 0, none⟩), .int .i64 1, .int .i64 7] W fun e w' => e = .returned (.int .i64 0) ∧ Only X1 W w' ∧ ∃ g c, OneAt w' X1 0 (.slice (some ⟨g, 0, none⟩) 1 c) M1 ∧ w'.cell? ⟨g, 0, none⟩ = some (.int .i64 7) :=
  tHold_new h.one1 rfl
theorem hold1_have {T : Nat} {W : World} {x1 x2 x3 : Value} {A cap : Nat} {cur : Array Value} {X0 X1 M0 M1 b0 b1 : Nat} {u0 : Int} {a0 : Nat → Int} {g c : Nat} (h : Two T W x1 x2 x3 A cap cur X0 X1 M0 M1 b0 b1 u0 (.slice (some ⟨g, 0, none⟩) 1 c) a0) (hg : W.cell? ⟨g, 0, none⟩ = some (.int .i64 7)) :
    Calls Try.prog 89 #[.pointer (some ⟨T, 0, none⟩), .int .i64 1, .int .i64 7] W fun e w' => e = .returned (.int .i64 9) ∧ Below W.heap.size W w' :=
  tHold_have h.one1 ⟨_, _, rfl, hg⟩
theorem pick_rise {c : Int} {is : Bool} (h : PickR (riseF 2) 2 3 c is) : c = 0 ∧ is = true := by
  rcases h with ⟨h1, j, h2, h3, h4, h5⟩ | ⟨_, _, h⟩
  · have : j = 0 := by
      rcases j with _ | j
      · rfl
      · have := h5 0 (by omega)
        exact absurd this (by decide)
    subst this
    exact ⟨h3, h1⟩
  · exact absurd (h 0 (by omega)) (by decide)
theorem pick_took {c : Int} {is : Bool} (h : PickR (tookF (riseF 2) 2 0 0) 2 3 c is) : c = 1 ∧ is = true := by
  rcases h with ⟨h1, j, h2, h3, h4, h5⟩ | ⟨_, _, h⟩
  · have : j = 0 := by
      rcases j with _ | j
      · rfl
      · have := h5 0 (by omega)
        exact absurd this (by decide)
    subst this
    exact ⟨h3, h1⟩
  · exact absurd (h 0 (by omega)) (by decide)
end Go.Proofs.Ytljfloopjgpaeaa
