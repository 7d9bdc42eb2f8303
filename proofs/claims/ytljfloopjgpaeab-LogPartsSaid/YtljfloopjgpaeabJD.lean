/- tollbar/log: End, Ended. -/
import Derived.LoopTactic
import Derived.Test.YtljfloopjgpaeabJC
namespace Go.Proofs.Ytljfloopjgpaeab
set_option linter.unusedVariables false
set_option linter.unusedSimpArgs false
open Go.RowKit Go.Shelf
attribute [local go_sem] Oper.semAt_some run_store_fn
set_option maxRecDepth 100000
theorem backL_pre {l : List EntV} : ∀ {k : Nat}, k ≤ l.length → backL l k <+: backL l 0 := by
  intro k
  induction k with
  | zero => intro _; exact List.prefix_refl _
  | succ k ih =>
    intro h
    refine List.IsPrefix.trans ?_ (ih (by omega))
    rw [backL_step (show k < l.length by omega)]
    exact List.prefix_append _ _
theorem find_at {l : List EntV} {k : Nat} (h : k < l.length) (q : EntV → Bool) (hn : ∀ y ∈ backL l (k + 1), q y.2 = false) (hq : q l[k] = true) : l.reverse.find? q = some l[k] := by
  have h1 := backL_pre (l := l) (show k ≤ l.length by omega)
  rw [backL_step h] at h1
  obtain ⟨t, ht⟩ := h1
  rw [← backL_all, ← ht, List.map_append, List.map_append, List.append_assoc, List.find?_append]
  have : (List.map Prod.snd (backL l (k + 1))).find? q = none := by
    rw [List.find?_eq_none]
    intro y hy
    obtain ⟨z, hz, rfl⟩ := List.mem_map.1 hy
    simp [hn z hz]
  rw [this]
  simp [hq]
theorem find_no {l : List EntV} (q : EntV → Bool) (hn : ∀ y ∈ backL l 0, q y.2 = false) : l.reverse.find? q = none := by
  rw [← backL_all, List.find?_eq_none]
  intro y hy
  obtain ⟨z, hz, rfl⟩ := List.mem_map.1 hy
  simp [hn z hz]
theorem first_at {l : List EntV} {k : Nat} (h : k < l.length) (hp : [] = backL l (k + 1)) : l.reverse.head? = some l[k] := by
  have h1 := backL_pre (l := l) (show k ≤ l.length by omega)
  rw [backL_step h, ← hp] at h1
  obtain ⟨t, ht⟩ := h1
  rw [← backL_all, ← ht]
  rfl
set_option maxHeartbeats 8000000 in
theorem end_in (n : Nat) (hn : 3 ≤ n) {w : World} {p : Nat} {v0 : Value} {l : List EntV} (h : LogAt w p v0 l) :
    CallsIn Fence.wide n Try.prog 31 #[.pointer (some ⟨p, 0, none⟩)] w fun e w' => e = .returned (.int .i64 (Lg.endB l)) ∧ Below w.heap.size w w' := by
  have h1 : 1 ≤ n := by omega
  have H := Lib.hid h
  clear h
  refine callsIn_of_wp_marks Try.func31 rfl trivial ?_ rfl
  simp only [Try.ntmps31, List.size_toArray, List.length_cons, List.length_nil, Nat.reduceAdd, Nat.reduceSub, Array.replicate_succ, Array.replicate_zero, List.push_toArray, List.append_toArray, List.nil_append, List.cons_append]
  gi_wp2
  obtain ⟨w1, hw1⟩ : ∃ w1, w1 = w.alloc (.cells #[.int .i64 0] 2) := ⟨_, rfl⟩
  have bO : Boxed w1 w.heap.size 2 (.int .i64 0) := by rw [hw1]; exact Boxed.new w _ _
  have hB1 : Below w.heap.size w w1 := by rw [hw1]; exact (Below.refl _ w).alloc (Nat.le_refl _) _
  have hs1 : w1.heap.size = w.heap.size + 1 := by rw [hw1]; simp
  rw [← hw1]
  clear hw1
  have oB : ∀ {b : Nat} {u : Value}, w.heap.size ≤ b → OwnFrom b (fun (_ : List (Nat × EntV)) W => Boxed W w.heap.size 2 u ∧ Below w.heap.size w W) := fun hb => OwnFrom.and (Own.from (fun s A B row hs hg hr => hs.kept hg (fun e => by obtain ⟨o, ho, hc⟩ := hr _ e.symm; rw [show A.heap[w.heap.size]? = _ from hs] at ho; cases ho; cases hc)) _) (ownFrom_below (Nat.le_refl _) hb)
  refine rangeXb h1 (gf := 55) (bd := #[.pointer (some ⟨p, 0, none⟩)]) (lb := #[]) rfl (enters_of Try.func55 (by kernel_rfl) rfl)
    (back_seq (n - 1) p (by omega) w w1 H.out hB1)
    (fun W W' k o ho hk hko _ => ho ▸ hko) belowK_t ?kb (Below.refl _ _) (fun _ => rfl)
    (fun pre W => pre = [] ∧ (Boxed W w.heap.size 2 (.int .i64 0) ∧ Below w.heap.size w W)) (fun c pre W => c = .ret ∧ (Boxed W w.heap.size 2 (.int .i64 (Lg.endB l)) ∧ Below w.heap.size w W))
    (OwnFrom.and (Own.from (fun s A B row hs hg hr => hs) _) (oB (by omega))) (fun c => OwnFrom.and (Own.from (fun s A B row hs hg hr => hs) _) (oB (by omega)))
    (fun pre W W' hi hA => hA ▸ hi) (fun _ _ _ _ hs hA => hA ▸ hs) (fun _ _ _ => trivial) ⟨rfl, bO, hB1⟩
    (fun pre x a' W => ∃ D, a' = { tmps := #[.pointer (some ⟨p, 0, none⟩), undef, .pointer (some ⟨w.heap.size, 0, none⟩), undef, .pointer (some ⟨D, 0, none⟩), .pointer (some ⟨p, 0, none⟩), .func (.func 55) #[.pointer (some ⟨p, 0, none⟩)] #[], .int .i64 x.1, x.2.agg, undef, undef], defers := [] } ∧ W.heap[D]? = some (.cells x.2.cells.toArray 30 (0, 0)) ∧ w.heap.size < D ∧ pre = [] ∧ (Boxed W w.heap.size 2 (.int .i64 0) ∧ Below w.heap.size w W))
    ?oA ?assign ?body ?done ?stop
  case kb =>
    intro W k ob ob' hk _ _
    exact ⟨rfl, rfl, rfl, by simp, fun i hi => World.putObj_heap_other (by omega)⟩
  case oA =>
    rintro pre x a' s W W' row ⟨D, h1, h2, h3, h4, h5⟩ hg hr
    refine ⟨D, h1, ?_, h3, h4, oB (by omega) pre W W' row h5 hg hr⟩
    refine (hg.block D (Array.getElem?_eq_some_iff.1 h2).1 ?_).trans h2
    intro e
    obtain ⟨_, o, ho, hc⟩ := hr D e.symm
    rw [h2] at ho
    cases ho
    cases hc
  case assign =>
    rintro l' pre x W K ⟨hi, hb⟩ hg hK
    dsimp only [bkEnc, EntV.agg] at hK ⊢
    have HI := Lib.hid hi
    have HB := Lib.hid hb
    have HK := Lib.hid hK
    clear hi hK hb
    have hlt := HB.out.1.lt
    gi_wp2
    refine HK.out _ _ ?_ ?_ ⟨W.heap.size, rfl, World.alloc_heap_new W _, hlt, HI.out, HB.out.1.alloc _, HB.out.2.trans ((Below.refl _ W).alloc (by omega) _)⟩
    · exact (KeepsOthers.alloc W _).from _
    · exact (Below.refl _ W).alloc (by omega) _
  case body =>
    rintro lp pre ⟨i, y⟩ a' W hl ⟨D, rfl, hD, hD2, rfl, hO, hbl⟩ ⟨k, hk, hpre, hx⟩
    obtain ⟨rfl, rfl⟩ : i = k ∧ y = l[k] := by simpa using hx
    have he : Lg.endB l = l[i].at_ := by rw [Lg.endB, first_at hk hpre]
    have hc := hO.cell
    have hf := hO.frozen
    have hlO := hO.lt
    have c0 : W.cell? ⟨D, 0, none⟩ = some (.int .i64 l[i].at_) := Ly.cellAt hD 0 rfl
    have HO := Lib.hid hO
    have HE := Lib.hid he
    have HB := Lib.hid hbl
    clear hpre hx hD he hO hbl
    dsimp only [EntV.agg]
    gi_wp2
    refine ⟨(KeepsOthers.setCell _ _ _).from _, rfl, ?_, HB.out.setCell (p := ⟨w.heap.size, 0, none⟩) (by simp) _⟩
    rw [HE.out]
    exact HO.out.set _
  case done =>
    rintro D ys W hD rfl ⟨hnil, hO, hB⟩ hK
    have he : Lg.endB l = -1 := by
      have hl : l.reverse = [] := by rw [← backL_all, hnil]; rfl
      rw [Lg.endB, hl]
      rfl
    have HE := Lib.hid he
    have hc := hO.cell
    have hf := hO.frozen
    have hlO := hO.lt
    have HO := Lib.hid hO
    have HB := Lib.hid hB
    have HK := Lib.hid hK
    clear hnil hO hB hK he
    gi_wp2
    have hK2 := (KeepsOthers.setCell W ⟨w.heap.size, 0, none⟩ (.int .i64 (-1))).same D _ HK.out rfl
    refine ⟨by simp, .inl ⟨_, _, rfl, run_takeDeferred hK2, ?_⟩⟩
    have hc5 := cell_kept (HO.out.set (.int .i64 (-1))).cell (grownBy_putObj' _ D (.deferred none)) (fun r e => by cases e; exact ⟨_, hK2, rfl⟩)
    refine ⟨.int .i64 (-1), ?_, by rw [HE.out], (HB.out.setCell (p := ⟨w.heap.size, 0, none⟩) (by simp) _).trans (belowK_b (w := w) (Nat.le_refl _) _ D _ _ (by omega) hK2 rfl rfl)⟩
    simp [results, Try.f31, go_sem, hc5]
  case stop =>
    rintro D c pre W hD _ ⟨rfl, hO, hB⟩ hK
    have HO := Lib.hid hO
    have HB := Lib.hid hB
    have HK := Lib.hid hK
    clear hO hB hK
    gi_wp2
    refine ⟨by simp, .inl ⟨_, _, rfl, run_takeDeferred HK.out, ?_⟩⟩
    have hc5 := cell_kept HO.out.cell (grownBy_putObj' _ D (.deferred none)) (fun r e => by cases e; exact ⟨_, HK.out, rfl⟩)
    refine ⟨.int .i64 (Lg.endB l), ?_, rfl, HB.out.trans (belowK_b (w := w) (Nat.le_refl _) _ D _ _ (by omega) HK.out rfl rfl)⟩
    simp [results, Try.f31, go_sem, hc5]
theorem end_any {w : World} {p : Nat} {v0 : Value} {l : List EntV} (h : LogAt w p v0 l) : Calls Try.prog 31 #[.pointer (some ⟨p, 0, none⟩)] w fun e w' => e = .returned (.int .i64 (Lg.endB l)) ∧ Below w.heap.size w w' := callsIn_wide.1 (end_in 3 (by omega) h)
set_option maxHeartbeats 8000000 in
theorem ended_in (n : Nat) (hn : 3 ≤ n) {w : World} {p : Nat} {v0 : Value} {l : List EntV} (h : LogAt w p v0 l) :
    CallsIn Fence.wide n Try.prog 32 #[.pointer (some ⟨p, 0, none⟩)] w fun e w' => e = .returned (.bool (Lg.endedB l)) ∧ Below w.heap.size w w' := by
  have h1 : 1 ≤ n := by omega
  have H := Lib.hid h
  clear h
  refine callsIn_of_wp_marks Try.func32 rfl trivial ?_ rfl
  simp only [Try.ntmps32, List.size_toArray, List.length_cons, List.length_nil, Nat.reduceAdd, Nat.reduceSub, Array.replicate_succ, Array.replicate_zero, List.push_toArray, List.append_toArray, List.nil_append, List.cons_append]
  gi_wp2
  refine wpIn_scopeX ?_
  gi_wp2
  refine wpIn_label ?_
  gi_wp2
  obtain ⟨w1, hw1⟩ : ∃ w1, w1 = w.alloc (.cells #[.bool false] 4) := ⟨_, rfl⟩
  have bO : Boxed w1 w.heap.size 4 (.bool false) := by rw [hw1]; exact Boxed.new w _ _
  have hB1 : Below w.heap.size w w1 := by rw [hw1]; exact (Below.refl _ w).alloc (Nat.le_refl _) _
  have hs1 : w1.heap.size = w.heap.size + 1 := by rw [hw1]; simp
  rw [← hw1]
  clear hw1
  have oB : ∀ {b : Nat} {u : Value}, w.heap.size ≤ b → OwnFrom b (fun (_ : List (Nat × EntV)) W => Boxed W w.heap.size 4 u ∧ Below w.heap.size w W) := fun hb => OwnFrom.and (Own.from (fun s A B row hs hg hr => hs.kept hg (fun e => by obtain ⟨o, ho, hc⟩ := hr _ e.symm; rw [show A.heap[w.heap.size]? = _ from hs] at ho; cases ho; cases hc)) _) (ownFrom_below (Nat.le_refl _) hb)
  refine rangeXb h1 (gf := 55) (bd := #[.pointer (some ⟨p, 0, none⟩)]) (lb := #[]) rfl (enters_of Try.func55 (by kernel_rfl) rfl)
    (back_seq (n - 1) p (by omega) w w1 H.out hB1)
    (fun W W' k o ho hk hko _ => ho ▸ hko) belowK_t ?kb (Below.refl _ _) (fun _ => rfl)
    (fun pre W => (∀ y ∈ pre, Lg.comB y.2 = false) ∧ (Boxed W w.heap.size 4 (.bool false) ∧ Below w.heap.size w W)) (fun c pre W => c = .exit 0 ∧ (Boxed W w.heap.size 4 (.bool (Lg.endedB l)) ∧ Below w.heap.size w W))
    (OwnFrom.and (Own.from (fun s A B row hs hg hr => hs) _) (oB (by omega))) (fun c => OwnFrom.and (Own.from (fun s A B row hs hg hr => hs) _) (oB (by omega)))
    (fun pre W W' hi hA => hA ▸ hi) (fun _ _ _ _ hs hA => hA ▸ hs) (fun _ _ _ => trivial) ⟨by simp, bO, hB1⟩
    (fun pre x a' W => ∃ D, a' = { tmps := #[.pointer (some ⟨p, 0, none⟩), undef, .pointer (some ⟨w.heap.size, 0, none⟩), undef, .pointer (some ⟨D, 0, none⟩), .pointer (some ⟨p, 0, none⟩), .func (.func 55) #[.pointer (some ⟨p, 0, none⟩)] #[], .int .i64 x.1, x.2.agg, undef, undef, undef, undef, undef, undef, undef], defers := [] } ∧ W.heap[D]? = some (.cells x.2.cells.toArray 30 (0, 0)) ∧ w.heap.size < D ∧ (∀ y ∈ pre, Lg.comB y.2 = false) ∧ (Boxed W w.heap.size 4 (.bool false) ∧ Below w.heap.size w W))
    ?oA ?assign ?body ?done ?stop
  case kb =>
    intro W k ob ob' hk _ _
    exact ⟨rfl, rfl, rfl, by simp, fun i hi => World.putObj_heap_other (by omega)⟩
  case oA =>
    rintro pre x a' s W W' row ⟨D, h1, h2, h3, h4, h5⟩ hg hr
    refine ⟨D, h1, ?_, h3, h4, oB (by omega) pre W W' row h5 hg hr⟩
    refine (hg.block D (Array.getElem?_eq_some_iff.1 h2).1 ?_).trans h2
    intro e
    obtain ⟨_, o, ho, hc⟩ := hr D e.symm
    rw [h2] at ho
    cases ho
    cases hc
  case assign =>
    rintro l' pre x W K ⟨hi, hb⟩ hg hK
    dsimp only [bkEnc, EntV.agg] at hK ⊢
    have HI := Lib.hid hi
    have HB := Lib.hid hb
    have HK := Lib.hid hK
    clear hi hK hb
    have hlt := HB.out.1.lt
    gi_wp2
    refine HK.out _ _ ?_ ?_ ⟨W.heap.size, rfl, World.alloc_heap_new W _, hlt, HI.out, HB.out.1.alloc _, HB.out.2.trans ((Below.refl _ W).alloc (by omega) _)⟩
    · exact (KeepsOthers.alloc W _).from _
    · exact (Below.refl _ W).alloc (by omega) _
  case body =>
    rintro lp pre ⟨i, y⟩ a' W hl ⟨D, rfl, hD, hD2, hno, hO, hbl⟩ ⟨k, hk, hpre, hx⟩
    obtain ⟨rfl, rfl⟩ : i = k ∧ y = l[k] := by simpa using hx
    have hc := hO.cell
    have hf := hO.frozen
    have hlO := hO.lt
    have c1 : W.cell? ⟨D, 1, none⟩ = some (.int .u8 l[i].kind) := Ly.cellAt hD 1 rfl
    have hcm := fun W => commit_any l[i].kind W
    have hq : Lg.comB l[i] = (decide (1 ≤ l[i].kind) && decide (l[i].kind ≤ 11)) := rfl
    rw [← hq] at hcm
    clear hq
    have HO := Lib.hid hO
    have HB := Lib.hid hbl
    have HN := Lib.hid hno
    dsimp only [EntV.agg]
    cases hcb : Lg.comB l[i]
    · rw [hcb] at hcm
      have HCM := Lib.hid hcm
      have HNO := Lib.hid (show ∀ y ∈ pre ++ [(i, l[i])], Lg.comB y.2 = false from fun y hy => (List.mem_append.1 hy).elim (hno y) (fun e => by rw [List.mem_singleton.1 e]; exact hcb))
      clear hpre hx hD hO hbl hcm hcb hno
      gi_wp2_with ((first | refine ⟨trivial, fun _ => by omega, ?_⟩ | refine ⟨trivial, ?_⟩); (with_reducible refine (CallsIn.inRound lp (wideE (HCM.out _) _)).mono ?_); rintro e w' ⟨rfl, rfl⟩)
      exact ⟨KeepsFrom.refl _ _, Below.refl _ _, HNO.out, HO.out, HB.out⟩
    · rw [hcb] at hcm
      have HCM := Lib.hid hcm
      have he : Lg.endedB l = (l[i].kind == 11) := by
        rw [Lg.endedB, find_at hk Lg.comB (by rw [← hpre]; exact hno) hcb]
      have HE := Lib.hid he
      clear hpre hx hD hO hbl hcm hcb hno he
      gi_wp2_with ((first | refine ⟨trivial, fun _ => by omega, ?_⟩ | refine ⟨trivial, ?_⟩); (with_reducible refine (CallsIn.inRound lp (wideE (HCM.out _) _)).mono ?_); rintro e w' ⟨rfl, rfl⟩)
      refine ⟨(KeepsOthers.setCell _ _ _).from _, rfl, ?_, HB.out.setCell (p := ⟨w.heap.size, 0, none⟩) (by simp) _⟩
      rw [HE.out]
      exact HO.out.set _
  case done =>
    rintro D ys W hD rfl ⟨hno, hO, hB⟩ hK
    have he : Lg.endedB l = false := by rw [Lg.endedB, find_no Lg.comB hno]
    have HE := Lib.hid he
    have hc := hO.cell
    have hf := hO.frozen
    have hlO := hO.lt
    have HO := Lib.hid hO
    have HB := Lib.hid hB
    have HK := Lib.hid hK
    clear hno hO hB hK he
    gi_wp2
    refine noGoto_ret ?_
    have hK2 := (KeepsOthers.setCell W ⟨w.heap.size, 0, none⟩ (.bool false)).same D _ HK.out rfl
    refine ⟨by simp, .inl ⟨_, _, rfl, run_takeDeferred hK2, ?_⟩⟩
    have hc5 := cell_kept (HO.out.set (.bool false)).cell (grownBy_putObj' _ D (.deferred none)) (fun r e => by cases e; exact ⟨_, hK2, rfl⟩)
    refine ⟨.bool false, ?_, by rw [HE.out], (HB.out.setCell (p := ⟨w.heap.size, 0, none⟩) (by simp) _).trans (belowK_b (w := w) (Nat.le_refl _) _ D _ _ (by omega) hK2 rfl rfl)⟩
    simp [results, Try.f32, go_sem, hc5]
  case stop =>
    rintro D c pre W hD _ ⟨rfl, hO, hB⟩ hK
    have hc := hO.cell
    have hf := hO.frozen
    have hlO := hO.lt
    have HO := Lib.hid hO
    have HB := Lib.hid hB
    have HK := Lib.hid hK
    clear hO hB hK
    gi_wp2
    refine noGoto_ret ?_
    have hK2 := (KeepsOthers.setCell W ⟨w.heap.size, 0, none⟩ (.bool (Lg.endedB l))).same D _ HK.out rfl
    refine ⟨by simp, .inl ⟨_, _, rfl, run_takeDeferred hK2, ?_⟩⟩
    have hc5 := cell_kept (HO.out.set (.bool (Lg.endedB l))).cell (grownBy_putObj' _ D (.deferred none)) (fun r e => by cases e; exact ⟨_, hK2, rfl⟩)
    refine ⟨.bool (Lg.endedB l), ?_, rfl, (HB.out.setCell (p := ⟨w.heap.size, 0, none⟩) (by simp) _).trans (belowK_b (w := w) (Nat.le_refl _) _ D _ _ (by omega) hK2 rfl rfl)⟩
    simp [results, Try.f32, go_sem, hc5]
theorem ended_any {w : World} {p : Nat} {v0 : Value} {l : List EntV} (h : LogAt w p v0 l) : Calls Try.prog 32 #[.pointer (some ⟨p, 0, none⟩)] w fun e w' => e = .returned (.bool (Lg.endedB l)) ∧ Below w.heap.size w w' := callsIn_wide.1 (ended_in 3 (by omega) h)
end Go.Proofs.Ytljfloopjgpaeab
