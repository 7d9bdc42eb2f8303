/- mail.Waiting: a range over a bound method. -/
import Derived.RangeFuncBox
import Derived.Maps.AppendAt
import Derived.Test.YtljfloopjgpaeaaRX
import Derived.Test.YtljfloopjgpaeaaMA
namespace Go.Proofs.Ytljfloopjgpaeaa
set_option linter.unusedVariables false
set_option linter.unusedSimpArgs false
open Go.RowKit Go.Shelf
attribute [local go_sem] Oper.semAt_some
set_option maxRecDepth 100000

/-- A box as the iterator tells it. -/
abbrev bxEnc (o : Nat → Bool) (m : Nat → Option Nat) (i : Nat) : Array Value := #[.int .i64 i, .agg #[.bool (o i), ptr (m i)]]

set_option maxHeartbeats 2000000 in
theorem each_seq (n n₀ B : Nat) (hn1 : 1 ≤ n) {o : Nat → Bool} {m : Nat → Option Nat} (w : World) (hb : n₀ ≤ w.heap.size) (hBn : B < n₀) (h : Bxs w B o m) :
    SeqXb n Try.prog 55 #[.pointer (some ⟨B, 0, none⟩)] #[] (bxEnc o m) Eq (Below n₀) (· = List.range 32) (fun _ => True) (fun pre x => pre = List.range x ∧ x < 32) (fun _ => True) w := fun l J Jx W hW _ _ _ hY h0 => by
  have HB0 : ∀ W', Below n₀ W W' → Bxs W' B o m := fun W' hw => by
    have hb' : Below n₀ w W' := (hW.mono hb).trans hw
    have e := hb'.block B hBn
    refine ⟨Nat.lt_of_lt_of_le h.lt hb'.size, fun i hi => ?_, fun i hi => ?_, fun i => ?_⟩
    · rw [← h.op i hi]; simp only [World.cell?, e]
    · rw [← h.ml i hi]; simp only [World.cell?, e]
    · rw [← h.fr i]; simp only [World.frozen?, e]
  have hsz := hW.size
  have HB := Lib.hid HB0
  clear h hW HB0
  refine callsIn_of_wp Try.func55 rfl trivial ?_ rfl
  simp only [Try.ntmps55, List.size_toArray, List.length_cons, List.length_nil, Nat.reduceAdd, Nat.reduceSub, Array.replicate_succ, Array.replicate_zero, List.push_toArray, List.append_toArray, List.nil_append, List.cons_append]
  have HY := Lib.hid hY
  clear hY
  gi_wp2
  gi_loopw [4] (fun i wr => ∃ k : Nat, k ≤ 32 ∧ i = .int .i64 k ∧ J (List.range k) wr ∧ Below n₀ W wr) (fun i _ => 32 - (intOf i).toNat)
  case atStart => exact ⟨0, by omega, rfl, h0, Below.refl _ _⟩
  case round =>
    obtain ⟨k, hk, rfl, hj, hbl⟩ := hrel
    by_cases hlt : k < 32
    · have hbx := HB.out wr hbl
      have c0 := hbx.op k hlt
      have c1 := hbx.ml k hlt
      have hl := hbx.lt
      obtain ⟨e0, e1⟩ := nat32 hlt
      obtain ⟨fn, tmps, assign, body, hy, hR⟩ := HY.out (List.range k) k wr hj ⟨rfl, hlt⟩
      dsimp only [bxEnc] at hy
      have HBL := Lib.hid hbl
      clear hbl hbx
      gi_wp2
      refine hR.mono ?_
      rintro e W3 (⟨rfl, hJ3, hk3⟩ | ⟨rfl, hJx3⟩)
      · gi_wp2
        go_roundw
        case rel => exact ⟨k + 1, hlt, by simp, by rw [List.range_succ]; exact hJ3, HBL.out.trans hk3⟩
        case measure => simp [intOf]; omega
      · gi_wp2
        refine bodyPost_ret (results_none rfl _ _ _) rfl ?_
        exact ⟨⟨_, rfl⟩, .inr ⟨_, trivial, hJx3⟩⟩
    · have hke : k = 32 := by omega
      subst hke
      have hlB := (HB.out wr hbl).lt
      gi_wp2
      go_end0
      exact ⟨⟨_, rfl⟩, .inl ⟨_, rfl, hj⟩⟩
/-- Who waits. -/
def waitB (o : Nat → Bool) (m : Nat → Option Nat) (i : Nat) : Bool := o i && (m i).isNone
def waitL (o : Nat → Bool) (m : Nat → Option Nat) (l : List Nat) : List Nat := l.filter (waitB o m)
theorem waitL_hit {o : Nat → Bool} {m : Nat → Option Nat} (l : List Nat) {i : Nat} (h : waitB o m i = true) : waitL o m (l ++ [i]) = waitL o m l ++ [i] := by simp [waitL, h]
theorem waitL_miss {o : Nat → Bool} {m : Nat → Option Nat} (l : List Nat) {i : Nat} (h : waitB o m i = false) : waitL o m (l ++ [i]) = waitL o m l := by simp [waitL, h]
theorem infoInt : (Try.prog.info? 3).map (fun i => (i.zero, i.size, i.bytes)) = some (some (.int .i64 0), 1, 8) := by kernel_rfl
def intV (i : Nat) : Value := .int .i64 i
/-- What holds between the rounds. -/
def WI (o : Nat → Bool) (m : Nat → Option Nat) (w : World) (l : List Nat) (W : World) : Prop :=
  (∃ v, Boxed W w.heap.size 38 v ∧ W.ownsRow w.heap.size 3 1 v (waitL o m l).length ((waitL o m l).map intV) ∧ True) ∧ Below w.heap.size w W
theorem WI.own {o : Nat → Bool} {m : Nat → Option Nat} {w : World} {b : Nat} (hb : w.heap.size ≤ b) : OwnFrom b (WI o m w) :=
  OwnFrom.and (Own.from (holdsRow_own w.heap.size w.heap.size 38 3 1 (fun pre => (waitL o m pre).length) (fun pre => (waitL o m pre).map intV) (fun _ _ => True)) _) (ownFrom_below (Nat.le_refl _) hb)

set_option maxHeartbeats 4000000 in
theorem wait_in (n : Nat) (hn : 3 ≤ n) {w : World} {B : Nat} {o : Nat → Bool} {m : Nat → Option Nat} (h : Bxs w B o m) :
    CallsIn Fence.wide n Try.prog 18 #[.pointer (some ⟨B, 0, none⟩)] w fun e w' => (∃ a c, e = .returned (.slice a (waitL o m (List.range 32)).length c)) ∧ Below w.heap.size w w' := by
  have h1 : 1 ≤ n := by omega
  obtain ⟨i0, hi, hz0, hz1, hz2⟩ := info_parts infoInt
  have hB := h.lt
  have H := Lib.hid h
  clear h
  refine callsIn_of_wp_marks Try.func18 rfl trivial ?_ rfl
  simp only [Try.ntmps18, List.size_toArray, List.length_cons, List.length_nil, Nat.reduceAdd, Nat.reduceSub, Array.replicate_succ, Array.replicate_zero, List.push_toArray, List.append_toArray, List.nil_append, List.cons_append]
  gi_wp2
  have bO := Boxed.new w 38 (.slice none 0 0)
  have hB0 : Below w.heap.size w (w.alloc (.cells #[.slice none 0 0] 38)) := (Below.refl _ w).alloc (Nat.le_refl _) _
  refine rangeXb h1 (gf := 55) (bd := #[.pointer (some ⟨B, 0, none⟩)]) (lb := #[]) rfl (enters_of Try.func55 (by kernel_rfl) rfl)
    (each_seq (n - 1) w.heap.size B (by omega) _ (by simp) hB (H.out.below hB0))
    (fun W W' k o ho hk hko _ => ho ▸ hko) belowK_t ?kb (Below.refl _ _) (fun _ => rfl)
    (WI o m w) (fun _ _ _ => False) (WI.own (by simp)) (fun _ _ _ _ _ hs _ _ => hs)
    (fun pre W W' hi hA => hA ▸ hi) (fun _ _ _ _ hs _ => hs) (fun _ _ _ => trivial) ⟨⟨_, bO, World.ownsRow_nil _ _ _ _, trivial⟩, hB0⟩
    (fun pre x a' W => ∃ D, a' = { tmps := #[.pointer (some ⟨B, 0, none⟩), undef, .pointer (some ⟨w.heap.size, 0, none⟩), .int .i64 x, .pointer (some ⟨D, 0, none⟩), .pointer (some ⟨B, 0, none⟩), .func (.func 55) #[.pointer (some ⟨B, 0, none⟩)] #[], .int .i64 x, .agg #[.bool (o x), ptr (m x)], undef, undef, undef, undef, undef, undef, undef, undef, undef, undef, undef, undef], defers := [] } ∧ W.heap[D]? = some (.cells #[.bool (o x), ptr (m x)] 99 (0, 0)) ∧ w.heap.size < D ∧ WI o m w pre W)
    ?oA ?assign ?body ?done ?stop
  case kb =>
    intro W k ob ob' hk _ _
    simp only [World.size_alloc] at hk
    exact ⟨rfl, rfl, rfl, by simp, fun i hi => World.putObj_heap_other (by omega)⟩
  case oA =>
    rintro pre x a' s W W' row ⟨D, h1, h2, h3, h4⟩ hg hr
    refine ⟨D, h1, ?_, h3, WI.own (by simp) pre W W' row h4 hg hr⟩
    refine (hg.block D (Array.getElem?_eq_some_iff.1 h2).1 ?_).trans h2
    intro e
    obtain ⟨_, o, ho, hc⟩ := hr D e.symm
    rw [h2] at ho
    cases ho
    cases hc
  case assign =>
    intro l pre x W K hi hg hK
    have hs := hi.2.size
    have hp : ptr (m x) = .pointer ((m x).map fun b => ⟨b, 0, none⟩) := by cases m x <;> rfl
    dsimp only [bxEnc] at hK ⊢
    rw [hp] at hK ⊢
    have HI := Lib.hid hi
    have HK := Lib.hid hK
    clear hi hK
    have hlt : w.heap.size < W.heap.size := by obtain ⟨⟨v, hv, _⟩, _⟩ := HI.out; exact hv.lt
    gi_wp2
    refine HK.out _ _ ?_ ?_ ⟨W.heap.size, rfl, World.alloc_heap_new W _, hlt, ?_⟩
    · exact (KeepsOthers.alloc W _).from _
    · exact (Below.refl _ W).alloc hs _
    · exact (WI.own (b := w.heap.size) (Nat.le_refl _)).alloc _ HI.out
  case body =>
    rintro l pre x a' W hl ⟨D, rfl, hD, hD2, hi⟩ ⟨hpre, hx⟩
    obtain ⟨⟨v, hv, hrow, _⟩, hbl⟩ := hi
    have hc := hv.cell
    have hlD : D < W.heap.size := (Array.getElem?_eq_some_iff.1 hD).1
    have hlen : (waitL o m pre).length ≤ 32 := by subst hpre; exact Nat.le_trans (List.length_filter_le _ _) (by simp; omega)
    have r0 : W.cell? ⟨D, 0, none⟩ = some (.bool (o x)) := Ly.cellAt hD 0 rfl
    have r1 : W.cell? ⟨D, 1, none⟩ = some (ptr (m x)) := Ly.cellAt hD 1 rfl
    clear hpre
    cases ho : o x <;> rw [ho] at r0
    · have hw : waitB o m x = false := by simp [waitB, ho]
      gi_wp2
      exact ⟨KeepsFrom.refl _ _, Below.refl _ _, ⟨v, hv, by rw [waitL_miss pre hw]; exact hrow, trivial⟩, hbl⟩
    · cases hm : m x <;> (rw [hm] at r1; simp only [ptr] at r1)
      · have hw : waitB o m x = true := by simp [waitB, ho, hm]
        gi_wp2_with (gi_at_builtin; refine wpListIn_append_own _ rfl _ _ 38 rfl w.heap.size 3 i0 (.int .i64 0) 1 8 Try.underlying38 hi hz0 hz1 hz2 rfl (by decide) _ _ _ rfl (hrow.alloc _) ⟨W.heap.size, 0, none⟩ 1 1 [.int .i64 x] rfl rfl (cell_one_new _ _ _) (by simp [Value.oneCell']) (by unfold maxLen; omega) (by omega) (by have := hbl.size; simp; omega) ?_; intro v' w1 hown' hgrow _; obtain ⟨g', cap', rfl⟩ := ownsRow_succ hown'; obtain ⟨hv1, hv2, hr2, hk2, hb2⟩ := hv.appended (by decide) hrow hbl.size (Nat.le_refl _) hown' hgrow; have hc1 := hv1.cell; have hf1 := hv1.frozen)
        exact ⟨hk2.from _, hb2, ⟨_, hv2, by rw [waitL_hit pre hw]; simpa [intV] using hr2, trivial⟩, hbl.trans hb2⟩
      · have hw : waitB o m x = false := by simp [waitB, ho, hm]
        gi_wp2
        exact ⟨KeepsFrom.refl _ _, Below.refl _ _, ⟨v, hv, by rw [waitL_miss pre hw]; exact hrow, trivial⟩, hbl⟩
  case done =>
    rintro D ys W hD rfl ⟨⟨v, hv, hrow, _⟩, hB⟩ hK
    have hc := hv.cell
    have hf := hv.frozen
    obtain ⟨L, hL⟩ : ∃ L, L = (waitL o m (List.range 32)).length := ⟨_, rfl⟩
    rw [← hL] at hrow
    have HL := Lib.hid hL
    obtain ⟨a, c, rfl⟩ : ∃ a c, v = .slice a L c := by
      rcases hrow.2 with ⟨hv, h0⟩ | ⟨g, cap, _, hv, _⟩
      · rw [h0]; exact ⟨_, _, hv⟩
      · exact ⟨_, _, hv⟩
    clear hL
    gi_wp2
    have hK' := (KeepsOthers.setCell W ⟨w.heap.size, 0, none⟩ (.slice a L c)).same D _ hK rfl
    refine ⟨by simp, .inl ⟨_, _, rfl, run_takeDeferred hK', ?_⟩⟩
    have hv2 := hv.set (.slice a L c)
    have hc5 := cell_kept hv2.cell (grownBy_putObj' _ D (.deferred none)) (fun r e => by cases e; exact ⟨_, hK', rfl⟩)
    refine ⟨.slice a L c, ?_, ⟨a, c, by rw [HL.out]⟩, (hB.setCell (p := ⟨w.heap.size, 0, none⟩) (by simp) _).trans (belowK_b (w := w) (Nat.le_refl _) _ D _ _ (by simp at hD; omega) hK' rfl rfl)⟩
    simp [results, Try.f18, go_sem, hc5]
  case stop =>
    rintro D c pre W _ _ h _
    exact h.elim
theorem wait_any {w : World} {B : Nat} {o : Nat → Bool} {m : Nat → Option Nat} (h : Bxs w B o m) :
    Calls Try.prog 18 #[.pointer (some ⟨B, 0, none⟩)] w fun e w' => (∃ a c, e = .returned (.slice a (waitL o m (List.range 32)).length c)) ∧ Below w.heap.size w w' :=
  callsIn_wide.1 (wait_in 3 (by omega) h)
end Go.Proofs.Ytljfloopjgpaeaa
