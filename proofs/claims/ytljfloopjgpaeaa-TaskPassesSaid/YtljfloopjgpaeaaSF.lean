/- order.ready, order.Pick. -/
import Derived.Test.YtljfloopjgpaeaaSD
namespace Go.Proofs.Ytljfloopjgpaeaa
set_option linter.unusedVariables false
set_option linter.unusedSimpArgs false
open Go.RowKit Go.Shelf
attribute [local go_sem] Oper.semAt_some
set_option maxRecDepth 100000
theorem ready_any (b : Nat) (s : Int) (w : World) : Calls Try.prog 119 #[.pointer (some ⟨b, 0, none⟩), .int .u64 s] w fun e w' => e = .returned (.func (.func 125) #[] #[.pointer (some ⟨w.heap.size, 0, none⟩), .pointer (some ⟨w.heap.size + 1, 0, none⟩)]) ∧ w' = (w.alloc (.cells #[.pointer (some ⟨b, 0, none⟩)] 159)).alloc (.cells #[.int .u64 s] 92) := by
  have hmf : ∀ (fn : Fn) (first cap : Array Value) (w : World), (Instr.makeFunc fn first cap).run Try.prog w = .ok (.func fn first cap) w := fun _ _ _ _ => rfl
  go_enter Try.func119, Try.ntmps119
  go_wp2
  go_ret
  exact ⟨rfl, rfl⟩
theorem Boxed.own {β : Type} (B t : Nat) (v : Value) : Own (fun (_ : β) W => Boxed W B t v) := fun _ W W' row hs hg hr => hs.kept hg (by
  intro e
  obtain ⟨o, ho, hc⟩ := hr B e.symm
  rw [show W.heap[B]? = _ from hs] at ho
  cases ho
  cases hc)
/-- What Pick tells: the first one that is ready. -/
def PickR (a : Nat → Int) (m : Nat) (s c : Int) (is : Bool) : Prop := (is = true ∧ ∃ j, j < m ∧ c = a j ∧ hasB s c = true ∧ ∀ i, i < j → hasB s (a i) = false) ∨ (is = false ∧ c = 0 ∧ ∀ i, i < m → hasB s (a i) = false)
theorem readyL_nil {a : Nat → Int} {s : Int} {k : Nat} (h : readyL a s k = []) : ∀ i, i < k → hasB s (a i) = false := fun i hi => by
  have := List.filter_eq_nil_iff.1 h (a i) (List.mem_map.2 ⟨i, List.mem_range.2 hi, rfl⟩)
  simpa using this
/-- What stands between the rounds, and behind the jump. -/
def PkI (w : World) (c : Int) (is : Bool) (W : World) : Prop := Boxed W w.heap.size 3 (.int .i64 c) ∧ Boxed W (w.heap.size + 1) 4 (.bool is) ∧ Below w.heap.size w W
theorem PkI.own {β : Type} {w : World} {b : Nat} (hb : w.heap.size ≤ b) (c : Int) (is : Bool) : OwnFrom b (fun (_ : β) W => PkI w c is W) :=
  OwnFrom.and ((Boxed.own _ _ _).from _) (OwnFrom.and ((Boxed.own _ _ _).from _) (ownFrom_below (Nat.le_refl _) hb))
theorem PkI.drawn {w : World} {c : Int} {is : Bool} {W W' : World} (h : PkI w c is W) (hd : Drawn W W') : PkI w c is W' := by
  obtain ⟨q, rfl⟩ := hd
  exact ⟨h.1, h.2.1, below_drewN h.2.2 q⟩

theorem Boxed.setO {W : World} {B B' t : Nat} {v : Value} (h : Boxed W B t v) (u : Value) (hne : B ≠ B') : Boxed (W.setCell ⟨B', 0, none⟩ u) B t v := (Below.heap_setCell _ _ _ _ hne).trans h
theorem PkI.set {w : World} {c : Int} {is : Bool} {W : World} (h : PkI w c is W) (c' : Int) (is' : Bool) : PkI w c' is' ((W.setCell ⟨w.heap.size, 0, none⟩ (.int .i64 c')).setCell ⟨w.heap.size + 1, 0, none⟩ (.bool is')) :=
  ⟨Boxed.setO (Boxed.set _ h.1) _ (by omega), Boxed.set _ (Boxed.setO h.2.1 _ (by omega)), (h.2.2.setCell (p := ⟨w.heap.size, 0, none⟩) (Nat.le_refl _) _).setCell (p := ⟨w.heap.size + 1, 0, none⟩) (by simp) _⟩
theorem keepsFrom_set2 {B B1 B2 : Nat} (W : World) (u v : Value) (h1 : B1 < B) (h2 : B2 < B) : KeepsFrom B W ((W.setCell ⟨B1, 0, none⟩ u).setCell ⟨B2, 0, none⟩ v) :=
  ⟨by simp [World.setCell], fun k o hk ho _ => ((Below.heap_setCell _ _ _ _ (by show k ≠ B2; omega)).trans (Below.heap_setCell _ _ _ _ (by show k ≠ B1; omega))).trans ho⟩
set_option maxHeartbeats 4000000 in
theorem pick_in (n : Nat) (hn : 3 ≤ n) {w : World} {b : Nat} {a : Nat → Int} {m : Nat} (h : OrdB w b a m) (hm : m ≤ 6) (s : Int) :
    CallsIn Fence.wide n Try.prog 93 #[.pointer (some ⟨b, 0, none⟩), .int .u64 s] w fun e w' => (∃ c is, PickR a m s c is ∧ e = .returned (.tuple #[.int .i64 c, .bool is])) ∧ Below w.heap.size w w' := by
  have h1 : 1 ≤ n := by omega
  have hl := h.lt
  have H := Lib.hid h
  clear h
  refine callsIn_of_wp_marks Try.func93 rfl trivial ?_ rfl
  simp only [Try.ntmps93, List.size_toArray, List.length_cons, List.length_nil, Nat.reduceAdd, Nat.reduceSub, Array.replicate_succ, Array.replicate_zero, List.push_toArray, List.append_toArray, List.nil_append, List.cons_append]
  have hrd := fun (W : World) => callsIn_wide (n := n - 1) |>.2 (ready_any b s W)
  have HR := Lib.hid hrd
  clear hrd
  gi_wp2_with ((first | refine ⟨trivial, fun _ => by omega, ?_⟩ | refine ⟨trivial, ?_⟩); (with_reducible refine (HR.out _).mono ?_); rintro e w2 ⟨rfl, rfl⟩)
  obtain ⟨W1, hW1⟩ : ∃ W1, W1 = (((w.alloc (.cells #[.int .i64 0] 3)).alloc (.cells #[.bool false] 4)).alloc (.cells #[.pointer (some ⟨b, 0, none⟩)] 159)).alloc (.cells #[.int .u64 s] 92) := ⟨_, rfl⟩
  have hs1 : W1.heap.size = w.heap.size + 4 := by rw [hW1]; simp
  have hb1 : Below w.heap.size w W1 := by rw [hW1]; (repeat (first | with_reducible exact Below.refl _ _ | (with_reducible refine Below.setCell ?_ (by first | (simp; done) | (simp; omega) | omega) _) | (with_reducible refine Below.alloc ?_ (by first | (simp; done) | (simp; omega) | omega) _) | (with_reducible refine Below.drew ?_)))
  have b0 : Boxed W1 w.heap.size 3 (.int .i64 0) := by rw [hW1]; exact (((Boxed.new w _ _).alloc _).alloc _).alloc _
  have b1 : Boxed W1 (w.heap.size + 1) 4 (.bool false) := by
    have h := (((Boxed.new (w.alloc (.cells #[.int .i64 0] 3)) 4 (.bool false)).alloc (.cells #[.pointer (some ⟨b, 0, none⟩)] 159)).alloc (.cells #[.int .u64 s] 92))
    rw [World.size_alloc] at h
    rw [hW1]; exact h
  have b2 : Boxed W1 (w.heap.size + 2) 159 (.pointer (some ⟨b, 0, none⟩)) := by
    have h := (Boxed.new ((w.alloc (.cells #[.int .i64 0] 3)).alloc (.cells #[.bool false] 4)) 159 (.pointer (some ⟨b, 0, none⟩))).alloc (.cells #[.int .u64 s] 92)
    rw [World.size_alloc, World.size_alloc] at h
    rw [hW1]; exact h
  have b3 : Boxed W1 (w.heap.size + 3) 92 (.int .u64 s) := by
    have h := Boxed.new (((w.alloc (.cells #[.int .i64 0] 3)).alloc (.cells #[.bool false] 4)).alloc (.cells #[.pointer (some ⟨b, 0, none⟩)] 159)) 92 (.int .u64 s)
    rw [World.size_alloc, World.size_alloc, World.size_alloc] at h
    rw [hW1]; exact h
  rw [← hW1]
  clear hW1
  have hP0 : PkI w 0 false W1 := ⟨b0, b1, hb1⟩
  have ho1 : OrdB W1 b a m := H.out.keep hb1 hl
  have HB1 := Lib.hid hb1
  have HX := Lib.hid hP0
  clear hb1
  refine rangeX h1 (gf := 125) (lb := #[.pointer (some ⟨w.heap.size + 1 + 1, 0, none⟩), .pointer (some ⟨w.heap.size + 1 + 1 + 1, 0, none⟩)]) rfl (enters_of Try.func125 (by kernel_rfl) rfl)
    (ready1_seq (n - 1) W1.heap.size b (w.heap.size + 2) (w.heap.size + 3) (by omega) hm W1 (Nat.le_refl _) (by omega) (by omega) (by omega) ho1 b2.cell b3.cell)
    ?hA (fun h k => h.trans k) ?hKb (Below.refl _ _) (fun _ => rfl)
    (fun pre W => pre = [] ∧ PkI w 0 false W)
    (fun c pre W => c = .ret ∧ ∃ x, PickR a m s x true ∧ PkI w x true W)
    ?oI ?oIx ?iA ?ixA (fun _ _ _ => trivial) ⟨rfl, HX.out⟩
    (fun pre x a' W => a' = { tmps := #[.pointer (some ⟨b, 0, none⟩), .int .u64 s, undef, undef, .pointer (some ⟨w.heap.size, 0, none⟩), .pointer (some ⟨w.heap.size + 1, 0, none⟩), .int .i64 x, .pointer (some ⟨b, 0, none⟩), .int .u64 s, .func (.func 125) #[] #[.pointer (some ⟨w.heap.size + 1 + 1, 0, none⟩), .pointer (some ⟨w.heap.size + 1 + 1 + 1, 0, none⟩)], .int .i64 x, undef], defers := [] } ∧ pre = [] ∧ PkI w 0 false W)
    ?oA ?assign ?body ?done ?stop
  case hA =>
    rintro W W' k o ⟨q, rfl⟩ _ hko _
    exact hko
  case hKb =>
    intro W k ob ob' hk _ _
    exact ⟨rfl, rfl, rfl, by simp, fun i hi => World.putObj_heap_other (by omega)⟩
  case oI =>
    rintro s W W' row ⟨h1, h2⟩ hg hr
    exact ⟨h1, PkI.own (by omega) _ _ s W W' row h2 hg hr⟩
  case oIx =>
    rintro c s W W' row ⟨h1, x, h2, h3⟩ hg hr
    exact ⟨h1, x, h2, PkI.own (by omega) _ _ s W W' row h3 hg hr⟩
  case iA =>
    rintro pre W W' ⟨h1, h2⟩ hd
    exact ⟨h1, h2.drawn hd⟩
  case ixA =>
    rintro c pre W W' ⟨h1, x, h2, h3⟩ hd
    exact ⟨h1, x, h2, h3.drawn hd⟩
  case oA =>
    rintro pre x a' s W W' row ⟨h1, h2, h3⟩ hg hr
    exact ⟨h1, h2, PkI.own (by omega) _ _ s W W' row h3 hg hr⟩
  case assign =>
    rintro l pre x W K ⟨rfl, hi⟩ hg hK
    have HK := Lib.hid hK
    have HI := Lib.hid hi
    clear hK hi
    gi_wp2
    refine HK.out _ _ (KeepsFrom.refl _ _) (Below.refl _ _) ?_
    first | exact ⟨rfl, rfl, HI.out⟩ | exact ⟨rfl, trivial, HI.out⟩
  case body =>
    rintro l pre x a' W hl2 ⟨rfl, rfl, hi⟩ ⟨k, hk, hpre, rfl, hx⟩
    have HP := Lib.hid (show PickR a m s (a k) true from .inl ⟨rfl, k, hk, rfl, hx, readyL_nil hpre.symm⟩)
    have l0 := hi.1.lt
    have l1 := hi.2.1.lt
    have c0 := hi.1.cell
    have c1 := hi.2.1.cell
    have f0 := hi.1.frozen
    have f1 := hi.2.1.frozen
    have HI := Lib.hid hi
    clear hi hpre hx
    gi_wp2
    exact ⟨keepsFrom_set2 _ _ _ (by omega) (by omega), rfl, _, HP.out, HI.out.set _ _⟩
  case done =>
    rintro D xs W hD rfl ⟨hnil, hi⟩ hDef
    have HP := Lib.hid (show PickR a m s 0 false from .inr ⟨rfl, rfl, readyL_nil hnil⟩)
    have l0 := hi.1.lt
    have l1 := hi.2.1.lt
    have c0 := hi.1.cell
    have c1 := hi.2.1.cell
    have f0 := hi.1.frozen
    have f1 := hi.2.1.frozen
    have HI := Lib.hid hi
    have HDf := Lib.hid hDef
    clear hi hnil hDef
    gi_wp2
    have hK := keepsFrom_set2 (B := W1.heap.size) W (.int .i64 0) (.bool false) (B1 := w.heap.size) (B2 := w.heap.size + 1) (by omega) (by omega); have hDf := hK.same _ _ hD HDf.out rfl; have hS := HI.out.set 0 false; refine ⟨by simp, .inl ⟨_, _, rfl, run_takeDeferred hDf, ?_⟩⟩; have hS' := PkI.own (β := Unit) (b := W1.heap.size) (by omega) _ _ () _ _ (some D) hS (grownBy_putObj' _ D (.deferred none)) (fun r e => by cases e; exact ⟨hD, _, hDf, rfl⟩); have c0 := hS'.1.cell; have c1 := hS'.2.1.cell; refine ⟨.tuple #[.int .i64 0, .bool false], ?_, ⟨_, _, HP.out, rfl⟩, hS'.2.2⟩; simp [results, Try.f93, go_sem, c0, c1]
  case stop =>
    rintro D c pre W hD _ ⟨rfl, x, hp, hi⟩ hDef
    have HP := Lib.hid hp
    have HI := Lib.hid hi
    have HDf := Lib.hid hDef
    clear hi hp hDef
    gi_wp2
    have hS := HI.out; refine ⟨by simp, .inl ⟨_, _, rfl, run_takeDeferred HDf.out, ?_⟩⟩; have hS' := PkI.own (β := Unit) (b := W1.heap.size) (by omega) _ _ () _ _ (some D) hS (grownBy_putObj' _ D (.deferred none)) (fun r e => by cases e; exact ⟨hD, _, HDf.out, rfl⟩); have c0 := hS'.1.cell; have c1 := hS'.2.1.cell; refine ⟨.tuple #[.int .i64 x, .bool true], ?_, ⟨_, _, HP.out, rfl⟩, hS'.2.2⟩; simp [results, Try.f93, go_sem, c0, c1]
theorem pick_any {w : World} {b : Nat} {a : Nat → Int} {m : Nat} (h : OrdB w b a m) (hm : m ≤ 6) (s : Int) :
    Calls Try.prog 93 #[.pointer (some ⟨b, 0, none⟩), .int .u64 s] w fun e w' => (∃ c is, PickR a m s c is ∧ e = .returned (.tuple #[.int .i64 c, .bool is])) ∧ Below w.heap.size w w' :=
  callsIn_wide.1 (pick_in 3 (by omega) h hm s)
end Go.Proofs.Ytljfloopjgpaeaa
