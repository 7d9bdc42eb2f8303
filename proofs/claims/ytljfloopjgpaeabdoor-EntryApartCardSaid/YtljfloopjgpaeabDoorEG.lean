/- tollbar/entry.forms: its walk. -/
import Derived.WalkKit
import Derived.Deep.QuietTactic
import Derived.BigQuiet
import Derived.WalkLawsBesides
import Derived.WalkSpells
import Derived.Lib.Hide
import Derived.LoopTactic
import Derived.Shelf.Abstract
import Derived.Shelf.RegionOpen
import Derived.OwnWalkIn
import Derived.TacticsInMore
import Derived.Deep.Cut
import Derived.BigRegion
import Derived.IntWalk
import Derived.Test.YtljfloopjgpaeabDoorEF
namespace Go.Proofs.YtljfloopjgpaeabDoor
set_option linter.unusedVariables false
set_option linter.unusedSimpArgs false
open Go.RowKit Go.Shelf Ef
attribute [local go_sem] Oper.semAt_some
set_option maxRecDepth 100000
def hasOf (k : Int) : Option (ByteArray × List ByteArray) :=
  if k = 1 then some (w_send, [s_task, s_ch, s_case, s_val]) else if k = 2 then some (w_recv, [s_task, s_ch, s_case, s_val, s_ok]) else if k = 3 then some (w_meet, [s_task, s_peer, s_ch, s_case, s_peercase, s_val, s_ok]) else if k = 4 then some (w_refill, [s_task, s_peer, s_ch, s_case, s_peercase, s_val, s_val2]) else if k = 5 then some (w_close, [s_task, s_ch]) else if k = 6 then some (w_wake, [s_task, s_peer, s_ch, s_case]) else if k = 7 then some (w_default, [s_task]) else if k = 8 then some (w_block, [s_task]) else if k = 9 then some (w_spawn, [s_task, s_peer, s_case]) else if k = 10 then some (w_end, [s_task]) else if k = 11 then some (w_fault, [s_task, s_peer, s_code]) else if k = 21 then some (w_dispatch, [s_worker, s_task]) else if k = 22 then some (w_ready, [s_worker, s_task]) else if k = 23 then some (w_preempt, [s_worker, s_task]) else if k = 24 then some (w_locked, [s_worker, s_task]) else if k = 25 then some (w_poll, [s_worker, s_task, s_set]) else if k = 26 then some (w_free, [s_worker]) else none
theorem has_row : ∀ j, j < 58 → ∀ x, rowOf j = some x → hasOf x.key = some (x.word, x.names) := by
  intro j hj x hx
  obtain rfl | rfl | rfl | rfl | rfl | rfl | rfl | rfl | rfl | rfl | rfl | rfl | rfl | rfl | rfl | rfl | rfl | rfl | rfl | rfl | rfl | rfl | rfl | rfl | rfl | rfl | rfl | rfl | rfl | rfl | rfl | rfl | rfl | rfl | rfl | rfl | rfl | rfl | rfl | rfl | rfl | rfl | rfl | rfl | rfl | rfl | rfl | rfl | rfl | rfl | rfl | rfl | rfl | rfl | rfl | rfl | rfl | rfl : j = 0 ∨ j = 1 ∨ j = 2 ∨ j = 3 ∨ j = 4 ∨ j = 5 ∨ j = 6 ∨ j = 7 ∨ j = 8 ∨ j = 9 ∨ j = 10 ∨ j = 11 ∨ j = 12 ∨ j = 13 ∨ j = 14 ∨ j = 15 ∨ j = 16 ∨ j = 17 ∨ j = 18 ∨ j = 19 ∨ j = 20 ∨ j = 21 ∨ j = 22 ∨ j = 23 ∨ j = 24 ∨ j = 25 ∨ j = 26 ∨ j = 27 ∨ j = 28 ∨ j = 29 ∨ j = 30 ∨ j = 31 ∨ j = 32 ∨ j = 33 ∨ j = 34 ∨ j = 35 ∨ j = 36 ∨ j = 37 ∨ j = 38 ∨ j = 39 ∨ j = 40 ∨ j = 41 ∨ j = 42 ∨ j = 43 ∨ j = 44 ∨ j = 45 ∨ j = 46 ∨ j = 47 ∨ j = 48 ∨ j = 49 ∨ j = 50 ∨ j = 51 ∨ j = 52 ∨ j = 53 ∨ j = 54 ∨ j = 55 ∨ j = 56 ∨ j = 57 := by omega
  all_goals first | (cases hx; rfl) | (cases (show none = some x from hx))
theorem row_has {k : Int} {p : ByteArray × List ByteArray} (h : hasOf k = some p) : ∃ j x, rowOf j = some x ∧ x.key = k ∧ p = (x.word, x.names) := by
  unfold hasOf at h
  by_cases h1 : k = 1
  · rw [if_pos h1] at h
    cases h
    exact ⟨3, _, rfl, h1.symm, rfl⟩
  rw [if_neg h1] at h
  clear h1
  by_cases h2 : k = 2
  · rw [if_pos h2] at h
    cases h
    exact ⟨6, _, rfl, h2.symm, rfl⟩
  rw [if_neg h2] at h
  clear h2
  by_cases h3 : k = 3
  · rw [if_pos h3] at h
    cases h
    exact ⟨9, _, rfl, h3.symm, rfl⟩
  rw [if_neg h3] at h
  clear h3
  by_cases h4 : k = 4
  · rw [if_pos h4] at h
    cases h
    exact ⟨12, _, rfl, h4.symm, rfl⟩
  rw [if_neg h4] at h
  clear h4
  by_cases h5 : k = 5
  · rw [if_pos h5] at h
    cases h
    exact ⟨15, _, rfl, h5.symm, rfl⟩
  rw [if_neg h5] at h
  clear h5
  by_cases h6 : k = 6
  · rw [if_pos h6] at h
    cases h
    exact ⟨18, _, rfl, h6.symm, rfl⟩
  rw [if_neg h6] at h
  clear h6
  by_cases h7 : k = 7
  · rw [if_pos h7] at h
    cases h
    exact ⟨22, _, rfl, h7.symm, rfl⟩
  rw [if_neg h7] at h
  clear h7
  by_cases h8 : k = 8
  · rw [if_pos h8] at h
    cases h
    exact ⟨26, _, rfl, h8.symm, rfl⟩
  rw [if_neg h8] at h
  clear h8
  by_cases h9 : k = 9
  · rw [if_pos h9] at h
    cases h
    exact ⟨29, _, rfl, h9.symm, rfl⟩
  rw [if_neg h9] at h
  clear h9
  by_cases h10 : k = 10
  · rw [if_pos h10] at h
    cases h
    exact ⟨33, _, rfl, h10.symm, rfl⟩
  rw [if_neg h10] at h
  clear h10
  by_cases h11 : k = 11
  · rw [if_pos h11] at h
    cases h
    exact ⟨36, _, rfl, h11.symm, rfl⟩
  rw [if_neg h11] at h
  clear h11
  by_cases h21 : k = 21
  · rw [if_pos h21] at h
    cases h
    exact ⟨39, _, rfl, h21.symm, rfl⟩
  rw [if_neg h21] at h
  clear h21
  by_cases h22 : k = 22
  · rw [if_pos h22] at h
    cases h
    exact ⟨42, _, rfl, h22.symm, rfl⟩
  rw [if_neg h22] at h
  clear h22
  by_cases h23 : k = 23
  · rw [if_pos h23] at h
    cases h
    exact ⟨45, _, rfl, h23.symm, rfl⟩
  rw [if_neg h23] at h
  clear h23
  by_cases h24 : k = 24
  · rw [if_pos h24] at h
    cases h
    exact ⟨48, _, rfl, h24.symm, rfl⟩
  rw [if_neg h24] at h
  clear h24
  by_cases h25 : k = 25
  · rw [if_pos h25] at h
    cases h
    exact ⟨51, _, rfl, h25.symm, rfl⟩
  rw [if_neg h25] at h
  clear h25
  by_cases h26 : k = 26
  · rw [if_pos h26] at h
    cases h
    exact ⟨55, _, rfl, h26.symm, rfl⟩
  rw [if_neg h26] at h
  clear h26
  cases h
theorem efat {l : List ByteArray} {i : Nat} {x : ByteArray} (h : l[i]? = some x) : (l.map Value.string).toArray[0 + i]? = some (.string x) := by
  simp [h]
theorem Ef.wpOp_skip0 {P : Program} {ops : Array Oper} {Q : Exit → Act → World → Prop} {i : Nat} {o : Oper} {K : Act → World → Prop} {a : Act} {w w' : World} (h : ops[i]? = some o) (hg : o.guard = none) (hd : o.dst = none) (hr : (execOp a.eval o).run P w = .ok .skip w') (hk : K a w') : wpOp P ops Q i K a w :=
  Lv.wpOp_skip h hg hr (by rw [hd]; exact hk)
def FormsAt (w : World) (r : Nat) : Prop := ∃ n es, w.heap[r]? = some (.map (entsI .u8 es) n) ∧ ∀ k, match hasOf k with
  | none => findI .u8 k es 0 = none
  | some (word, has) => ∃ i u, findI .u8 k es 0 = some (i, .agg #[.string word, u]) ∧ Ef.Has w u has
theorem Ef.IV.done {B : Nat} {w0 w : World} {own : Nat} {L : Array Bool} {a : Act} (h : IV B w0 own L a w) (hL : ∀ i, i < 58 → L.getD i false = true) : ∃ r, a.tmps.getD 0 undef = .map (some r) ∧ B ≤ r ∧ FormsAt w r := by
  obtain ⟨r, n, es, h1, h2, h3, h4, h5⟩ := h.map (hL 0 (by decide))
  refine ⟨r, (h.end2 (hL _ (by decide))).trans h1, h2, n, es, h3, fun k => ?_⟩
  cases hk : hasOf k with
  | none =>
    refine findI_none 0 (fun e he hek => ?_)
    obtain ⟨j, x, k1, k2, k3, k4⟩ := h4 e he
    have := has_row j (row_lt k1) x k1
    rw [← k3, hek, hk] at this
    cases this
  | some p =>
    obtain ⟨j, x, k1, k2, rfl⟩ := row_has hk
    obtain ⟨e0, he0, hk0⟩ := h5 j x k1 (hL j (row_lt k1))
    obtain ⟨q, e, he, hke, hf⟩ := findI_some (k := k) (es := es) 0 ⟨e0, he0, hk0.trans k2⟩
    obtain ⟨j', x', l1, l2, l3, l4⟩ := h4 e he
    have hj := row_one l1 k1 (l3.symm.trans (hke.trans k2.symm))
    subst hj
    rw [k1] at l1
    cases l1
    obtain ⟨u, hu, hh⟩ := l4
    exact ⟨q, u, hf.trans (by rw [hu]), hh⟩
set_option maxHeartbeats 16000000 in
theorem eforms_any (w : World) : Calls Tryd.prog 55 #[] w fun e w' => ∃ r, e = .returned (.map (some r)) ∧ Below w.heap.size w w' ∧ w.heap.size ≤ r ∧ FormsAt w' r := by
  go_enter Tryd.func55, Tryd.ntmps55
  go_upto_region 2 with fail
  have hB : w.heap.size ≤ w.heap.size := Nat.le_refl _
  refine Lv.regionI (IV w.heap.size w w.heap.size) (by kernel_rfl) (n := 58) rfl (by kernel_rfl) ?_ ?_ ?_
  · refine ⟨?_, rfl, rfl, rfl, rfl, ?_, fun j k hk hL => ?_, fun hL => ?_, fun j hj hL => ?_, fun hL => ?_, fun hL => ?_⟩
    · (repeat (first | with_reducible exact Below.refl _ _ | (with_reducible refine Below.setCell ?_ (by first | (simp; done) | (simp; omega) | omega) _) | (with_reducible refine Below.alloc ?_ (by first | (simp; done) | (simp; omega) | omega) _) | (with_reducible refine Below.drew ?_)))
    · exact ⟨_, by exact World.alloc_heap_new _ _⟩
    · have := kd_lt hk
      simp [Array.getD_eq_getD_getElem?, Array.getElem?_replicate, this] at hL
    · cases hL
    · have : j < 58 := by
        rcases hj with hj | hj | hj
        · cases hr : rowOf j with
          | none => rw [hr] at hj; cases hj
          | some x => exact row_lt hr
        · omega
        · omega
      simp [Array.getD_eq_getD_getElem?, Array.getElem?_replicate, this] at hL
    · cases hL
    · cases hL
  · intro O hO L a W i hi hs hI hLi hw
    have hsz := hI.below.size
    have h1 := hI.one
    obtain rfl | rfl | rfl | rfl | rfl | rfl | rfl | rfl | rfl | rfl | rfl | rfl | rfl | rfl | rfl | rfl | rfl | rfl | rfl | rfl | rfl | rfl | rfl | rfl | rfl | rfl | rfl | rfl | rfl | rfl | rfl | rfl | rfl | rfl | rfl | rfl | rfl | rfl | rfl | rfl | rfl | rfl | rfl | rfl | rfl | rfl | rfl | rfl | rfl | rfl | rfl | rfl | rfl | rfl | rfl | rfl | rfl | rfl : i = 0 ∨ i = 1 ∨ i = 2 ∨ i = 3 ∨ i = 4 ∨ i = 5 ∨ i = 6 ∨ i = 7 ∨ i = 8 ∨ i = 9 ∨ i = 10 ∨ i = 11 ∨ i = 12 ∨ i = 13 ∨ i = 14 ∨ i = 15 ∨ i = 16 ∨ i = 17 ∨ i = 18 ∨ i = 19 ∨ i = 20 ∨ i = 21 ∨ i = 22 ∨ i = 23 ∨ i = 24 ∨ i = 25 ∨ i = 26 ∨ i = 27 ∨ i = 28 ∨ i = 29 ∨ i = 30 ∨ i = 31 ∨ i = 32 ∨ i = 33 ∨ i = 34 ∨ i = 35 ∨ i = 36 ∨ i = 37 ∨ i = 38 ∨ i = 39 ∨ i = 40 ∨ i = 41 ∨ i = 42 ∨ i = 43 ∨ i = 44 ∨ i = 45 ∨ i = 46 ∨ i = 47 ∨ i = 48 ∨ i = 49 ∨ i = 50 ∨ i = 51 ∨ i = 52 ∨ i = 53 ∨ i = 54 ∨ i = 55 ∨ i = 56 ∨ i = 57 := by omega
    · subst hO
      have hmm := run_makeMap_plain (P := Tryd.prog) W 98
      refine Lv.wpOp_val (i := 0) rfl rfl (v := .map (some W.heap.size)) (w' := W.alloc (.map (entsI .u8 []) 0)) (by (go_simp <;> first | with_reducible rfl | rfl)) ?_
      exact hI.make hB hLi hsz (World.alloc_heap_new W _) (by (repeat (first | with_reducible exact Below.refl _ _ | (with_reducible refine Below.setCell ?_ (by first | (simp; done) | (simp; omega) | omega) _) | (with_reducible refine Below.alloc ?_ (by first | (simp; done) | (simp; omega) | omega) _) | (with_reducible refine Below.drew ?_))))
    · subst hO
      refine Lv.wpOp_val (i := 1) rfl rfl (v := .slice (some ⟨W.heap.size, 0, none⟩) 4 4) (w' := W.alloc (.cells #[.string s_task, .string s_ch, .string s_case, .string s_val] 9)) (by (go_simp <;> first | with_reducible rfl | rfl)) ?_
      refine hI.put hB (i := 1) (k := .sl [s_task, s_ch, s_case, s_val]) rfl ?_ (by (repeat (first | with_reducible exact Below.refl _ _ | (with_reducible refine Below.setCell ?_ (by first | (simp; done) | (simp; omega) | omega) _) | (with_reducible refine Below.alloc ?_ (by first | (simp; done) | (simp; omega) | omega) _) | (with_reducible refine Below.drew ?_))))
      exact ⟨by decide, W.heap.size, 0, 4, rfl, by decide, by decide, _, _, World.alloc_heap_new W _, fun i x hx => efat (l := [s_task, s_ch, s_case, s_val]) hx⟩
    · have d1 : L.getD 1 false = true := hw 1 (by rw [hO]; decide +kernel)
      have hu := hI.facts 1 _ rfl d1
      obtain ⟨hl, b, o, c, hv, hc1, hc2, hcs⟩ := hu
      have hx : a.tmps[4]?.getD undef = .slice (some ⟨b, o, none⟩) 4 c := by rw [← Array.getD_eq_getD_getElem?]; exact hv
      subst hO
      refine Lv.wpOp_val (i := 2) rfl rfl (v := .agg #[.string w_send, .slice (some ⟨b, o, none⟩) 4 c]) (w' := W) (by (go_simp <;> first | with_reducible rfl | rfl)) ?_
      exact hI.put hB (i := 2) (k := .bld w_send [s_task, s_ch, s_case, s_val]) rfl ⟨_, rfl, ⟨hl, b, o, c, rfl, hc1, hc2, hcs⟩⟩ (Below.refl _ _)
    · have d0 : L.getD 0 false = true := hw 0 (by rw [hO]; decide +kernel)
      have d2 : L.getD 2 false = true := hw 2 (by rw [hO]; decide +kernel)
      obtain ⟨u, hu, hh⟩ := hI.facts 2 _ rfl d2
      have hu : a.tmps.getD 5 undef = .agg #[.string w_send, u] := hu
      have hx5 : a.tmps[5]?.getD undef = .agg #[.string w_send, u] := by rw [← Array.getD_eq_getD_getElem?]; exact hu
      obtain ⟨r, m, es, h3, hm, hf, hnew⟩ := hI.ins (i := 3) (x := ⟨1, w_send, [s_task, s_ch, s_case, s_val]⟩) rfl d0 hLi ⟨u, rfl, hh⟩
      have hx3 : a.tmps[3]?.getD undef = .map (some r) := by rw [← Array.getD_eq_getD_getElem?]; exact h3
      subst hO
      refine Ef.wpOp_skip0 (i := 3) rfl rfl rfl (w' := W.putObj r (.map (entsI .u8 (es ++ [(1, .agg #[.string w_send, u], m)])) (m + 1))) ?_ hnew
      have hp := run_mapPut (P := Tryd.prog) Tryd.underlying98 Tryd.underlying5 hm 1 (.agg #[.string w_send, u]) hf
      (go_simp <;> first | with_reducible rfl | rfl)
    · subst hO
      refine Lv.wpOp_val (i := 4) rfl rfl (v := .slice (some ⟨W.heap.size, 0, none⟩) 5 5) (w' := W.alloc (.cells #[.string s_task, .string s_ch, .string s_case, .string s_val, .string s_ok] 9)) (by (go_simp <;> first | with_reducible rfl | rfl)) ?_
      refine hI.put hB (i := 4) (k := .sl [s_task, s_ch, s_case, s_val, s_ok]) rfl ?_ (by (repeat (first | with_reducible exact Below.refl _ _ | (with_reducible refine Below.setCell ?_ (by first | (simp; done) | (simp; omega) | omega) _) | (with_reducible refine Below.alloc ?_ (by first | (simp; done) | (simp; omega) | omega) _) | (with_reducible refine Below.drew ?_))))
      exact ⟨by decide, W.heap.size, 0, 5, rfl, by decide, by decide, _, _, World.alloc_heap_new W _, fun i x hx => efat (l := [s_task, s_ch, s_case, s_val, s_ok]) hx⟩
    · have d4 : L.getD 4 false = true := hw 4 (by rw [hO]; decide +kernel)
      have hu := hI.facts 4 _ rfl d4
      obtain ⟨hl, b, o, c, hv, hc1, hc2, hcs⟩ := hu
      have hx : a.tmps[6]?.getD undef = .slice (some ⟨b, o, none⟩) 5 c := by rw [← Array.getD_eq_getD_getElem?]; exact hv
      subst hO
      refine Lv.wpOp_val (i := 5) rfl rfl (v := .agg #[.string w_recv, .slice (some ⟨b, o, none⟩) 5 c]) (w' := W) (by (go_simp <;> first | with_reducible rfl | rfl)) ?_
      exact hI.put hB (i := 5) (k := .bld w_recv [s_task, s_ch, s_case, s_val, s_ok]) rfl ⟨_, rfl, ⟨hl, b, o, c, rfl, hc1, hc2, hcs⟩⟩ (Below.refl _ _)
    · have d0 : L.getD 0 false = true := hw 0 (by rw [hO]; decide +kernel)
      have d5 : L.getD 5 false = true := hw 5 (by rw [hO]; decide +kernel)
      obtain ⟨u, hu, hh⟩ := hI.facts 5 _ rfl d5
      have hu : a.tmps.getD 7 undef = .agg #[.string w_recv, u] := hu
      have hx5 : a.tmps[7]?.getD undef = .agg #[.string w_recv, u] := by rw [← Array.getD_eq_getD_getElem?]; exact hu
      obtain ⟨r, m, es, h3, hm, hf, hnew⟩ := hI.ins (i := 6) (x := ⟨2, w_recv, [s_task, s_ch, s_case, s_val, s_ok]⟩) rfl d0 hLi ⟨u, rfl, hh⟩
      have hx3 : a.tmps[3]?.getD undef = .map (some r) := by rw [← Array.getD_eq_getD_getElem?]; exact h3
      subst hO
      refine Ef.wpOp_skip0 (i := 6) rfl rfl rfl (w' := W.putObj r (.map (entsI .u8 (es ++ [(2, .agg #[.string w_recv, u], m)])) (m + 1))) ?_ hnew
      have hp := run_mapPut (P := Tryd.prog) Tryd.underlying98 Tryd.underlying5 hm 2 (.agg #[.string w_recv, u]) hf
      (go_simp <;> first | with_reducible rfl | rfl)
    · subst hO
      refine Lv.wpOp_val (i := 7) rfl rfl (v := .slice (some ⟨W.heap.size, 0, none⟩) 7 7) (w' := W.alloc (.cells #[.string s_task, .string s_peer, .string s_ch, .string s_case, .string s_peercase, .string s_val, .string s_ok] 9)) (by (go_simp <;> first | with_reducible rfl | rfl)) ?_
      refine hI.put hB (i := 7) (k := .sl [s_task, s_peer, s_ch, s_case, s_peercase, s_val, s_ok]) rfl ?_ (by (repeat (first | with_reducible exact Below.refl _ _ | (with_reducible refine Below.setCell ?_ (by first | (simp; done) | (simp; omega) | omega) _) | (with_reducible refine Below.alloc ?_ (by first | (simp; done) | (simp; omega) | omega) _) | (with_reducible refine Below.drew ?_))))
      exact ⟨by decide, W.heap.size, 0, 7, rfl, by decide, by decide, _, _, World.alloc_heap_new W _, fun i x hx => efat (l := [s_task, s_peer, s_ch, s_case, s_peercase, s_val, s_ok]) hx⟩
    · have d7 : L.getD 7 false = true := hw 7 (by rw [hO]; decide +kernel)
      have hu := hI.facts 7 _ rfl d7
      obtain ⟨hl, b, o, c, hv, hc1, hc2, hcs⟩ := hu
      have hx : a.tmps[8]?.getD undef = .slice (some ⟨b, o, none⟩) 7 c := by rw [← Array.getD_eq_getD_getElem?]; exact hv
      subst hO
      refine Lv.wpOp_val (i := 8) rfl rfl (v := .agg #[.string w_meet, .slice (some ⟨b, o, none⟩) 7 c]) (w' := W) (by (go_simp <;> first | with_reducible rfl | rfl)) ?_
      exact hI.put hB (i := 8) (k := .bld w_meet [s_task, s_peer, s_ch, s_case, s_peercase, s_val, s_ok]) rfl ⟨_, rfl, ⟨hl, b, o, c, rfl, hc1, hc2, hcs⟩⟩ (Below.refl _ _)
    · have d0 : L.getD 0 false = true := hw 0 (by rw [hO]; decide +kernel)
      have d8 : L.getD 8 false = true := hw 8 (by rw [hO]; decide +kernel)
      obtain ⟨u, hu, hh⟩ := hI.facts 8 _ rfl d8
      have hu : a.tmps.getD 9 undef = .agg #[.string w_meet, u] := hu
      have hx5 : a.tmps[9]?.getD undef = .agg #[.string w_meet, u] := by rw [← Array.getD_eq_getD_getElem?]; exact hu
      obtain ⟨r, m, es, h3, hm, hf, hnew⟩ := hI.ins (i := 9) (x := ⟨3, w_meet, [s_task, s_peer, s_ch, s_case, s_peercase, s_val, s_ok]⟩) rfl d0 hLi ⟨u, rfl, hh⟩
      have hx3 : a.tmps[3]?.getD undef = .map (some r) := by rw [← Array.getD_eq_getD_getElem?]; exact h3
      subst hO
      refine Ef.wpOp_skip0 (i := 9) rfl rfl rfl (w' := W.putObj r (.map (entsI .u8 (es ++ [(3, .agg #[.string w_meet, u], m)])) (m + 1))) ?_ hnew
      have hp := run_mapPut (P := Tryd.prog) Tryd.underlying98 Tryd.underlying5 hm 3 (.agg #[.string w_meet, u]) hf
      (go_simp <;> first | with_reducible rfl | rfl)
    · subst hO
      refine Lv.wpOp_val (i := 10) rfl rfl (v := .slice (some ⟨W.heap.size, 0, none⟩) 7 7) (w' := W.alloc (.cells #[.string s_task, .string s_peer, .string s_ch, .string s_case, .string s_peercase, .string s_val, .string s_val2] 9)) (by (go_simp <;> first | with_reducible rfl | rfl)) ?_
      refine hI.put hB (i := 10) (k := .sl [s_task, s_peer, s_ch, s_case, s_peercase, s_val, s_val2]) rfl ?_ (by (repeat (first | with_reducible exact Below.refl _ _ | (with_reducible refine Below.setCell ?_ (by first | (simp; done) | (simp; omega) | omega) _) | (with_reducible refine Below.alloc ?_ (by first | (simp; done) | (simp; omega) | omega) _) | (with_reducible refine Below.drew ?_))))
      exact ⟨by decide, W.heap.size, 0, 7, rfl, by decide, by decide, _, _, World.alloc_heap_new W _, fun i x hx => efat (l := [s_task, s_peer, s_ch, s_case, s_peercase, s_val, s_val2]) hx⟩
    · have d10 : L.getD 10 false = true := hw 10 (by rw [hO]; decide +kernel)
      have hu := hI.facts 10 _ rfl d10
      obtain ⟨hl, b, o, c, hv, hc1, hc2, hcs⟩ := hu
      have hx : a.tmps[10]?.getD undef = .slice (some ⟨b, o, none⟩) 7 c := by rw [← Array.getD_eq_getD_getElem?]; exact hv
      subst hO
      refine Lv.wpOp_val (i := 11) rfl rfl (v := .agg #[.string w_refill, .slice (some ⟨b, o, none⟩) 7 c]) (w' := W) (by (go_simp <;> first | with_reducible rfl | rfl)) ?_
      exact hI.put hB (i := 11) (k := .bld w_refill [s_task, s_peer, s_ch, s_case, s_peercase, s_val, s_val2]) rfl ⟨_, rfl, ⟨hl, b, o, c, rfl, hc1, hc2, hcs⟩⟩ (Below.refl _ _)
    · have d0 : L.getD 0 false = true := hw 0 (by rw [hO]; decide +kernel)
      have d11 : L.getD 11 false = true := hw 11 (by rw [hO]; decide +kernel)
      obtain ⟨u, hu, hh⟩ := hI.facts 11 _ rfl d11
      have hu : a.tmps.getD 11 undef = .agg #[.string w_refill, u] := hu
      have hx5 : a.tmps[11]?.getD undef = .agg #[.string w_refill, u] := by rw [← Array.getD_eq_getD_getElem?]; exact hu
      obtain ⟨r, m, es, h3, hm, hf, hnew⟩ := hI.ins (i := 12) (x := ⟨4, w_refill, [s_task, s_peer, s_ch, s_case, s_peercase, s_val, s_val2]⟩) rfl d0 hLi ⟨u, rfl, hh⟩
      have hx3 : a.tmps[3]?.getD undef = .map (some r) := by rw [← Array.getD_eq_getD_getElem?]; exact h3
      subst hO
      refine Ef.wpOp_skip0 (i := 12) rfl rfl rfl (w' := W.putObj r (.map (entsI .u8 (es ++ [(4, .agg #[.string w_refill, u], m)])) (m + 1))) ?_ hnew
      have hp := run_mapPut (P := Tryd.prog) Tryd.underlying98 Tryd.underlying5 hm 4 (.agg #[.string w_refill, u]) hf
      (go_simp <;> first | with_reducible rfl | rfl)
    · subst hO
      refine Lv.wpOp_val (i := 13) rfl rfl (v := .slice (some ⟨W.heap.size, 0, none⟩) 2 2) (w' := W.alloc (.cells #[.string s_task, .string s_ch] 9)) (by (go_simp <;> first | with_reducible rfl | rfl)) ?_
      refine hI.put hB (i := 13) (k := .sl [s_task, s_ch]) rfl ?_ (by (repeat (first | with_reducible exact Below.refl _ _ | (with_reducible refine Below.setCell ?_ (by first | (simp; done) | (simp; omega) | omega) _) | (with_reducible refine Below.alloc ?_ (by first | (simp; done) | (simp; omega) | omega) _) | (with_reducible refine Below.drew ?_))))
      exact ⟨by decide, W.heap.size, 0, 2, rfl, by decide, by decide, _, _, World.alloc_heap_new W _, fun i x hx => efat (l := [s_task, s_ch]) hx⟩
    · have d13 : L.getD 13 false = true := hw 13 (by rw [hO]; decide +kernel)
      have hu := hI.facts 13 _ rfl d13
      obtain ⟨hl, b, o, c, hv, hc1, hc2, hcs⟩ := hu
      have hx : a.tmps[12]?.getD undef = .slice (some ⟨b, o, none⟩) 2 c := by rw [← Array.getD_eq_getD_getElem?]; exact hv
      subst hO
      refine Lv.wpOp_val (i := 14) rfl rfl (v := .agg #[.string w_close, .slice (some ⟨b, o, none⟩) 2 c]) (w' := W) (by (go_simp <;> first | with_reducible rfl | rfl)) ?_
      exact hI.put hB (i := 14) (k := .bld w_close [s_task, s_ch]) rfl ⟨_, rfl, ⟨hl, b, o, c, rfl, hc1, hc2, hcs⟩⟩ (Below.refl _ _)
    · have d0 : L.getD 0 false = true := hw 0 (by rw [hO]; decide +kernel)
      have d14 : L.getD 14 false = true := hw 14 (by rw [hO]; decide +kernel)
      obtain ⟨u, hu, hh⟩ := hI.facts 14 _ rfl d14
      have hu : a.tmps.getD 13 undef = .agg #[.string w_close, u] := hu
      have hx5 : a.tmps[13]?.getD undef = .agg #[.string w_close, u] := by rw [← Array.getD_eq_getD_getElem?]; exact hu
      obtain ⟨r, m, es, h3, hm, hf, hnew⟩ := hI.ins (i := 15) (x := ⟨5, w_close, [s_task, s_ch]⟩) rfl d0 hLi ⟨u, rfl, hh⟩
      have hx3 : a.tmps[3]?.getD undef = .map (some r) := by rw [← Array.getD_eq_getD_getElem?]; exact h3
      subst hO
      refine Ef.wpOp_skip0 (i := 15) rfl rfl rfl (w' := W.putObj r (.map (entsI .u8 (es ++ [(5, .agg #[.string w_close, u], m)])) (m + 1))) ?_ hnew
      have hp := run_mapPut (P := Tryd.prog) Tryd.underlying98 Tryd.underlying5 hm 5 (.agg #[.string w_close, u]) hf
      (go_simp <;> first | with_reducible rfl | rfl)
    · subst hO
      refine Lv.wpOp_val (i := 16) rfl rfl (v := .slice (some ⟨W.heap.size, 0, none⟩) 4 4) (w' := W.alloc (.cells #[.string s_task, .string s_peer, .string s_ch, .string s_case] 9)) (by (go_simp <;> first | with_reducible rfl | rfl)) ?_
      refine hI.put hB (i := 16) (k := .sl [s_task, s_peer, s_ch, s_case]) rfl ?_ (by (repeat (first | with_reducible exact Below.refl _ _ | (with_reducible refine Below.setCell ?_ (by first | (simp; done) | (simp; omega) | omega) _) | (with_reducible refine Below.alloc ?_ (by first | (simp; done) | (simp; omega) | omega) _) | (with_reducible refine Below.drew ?_))))
      exact ⟨by decide, W.heap.size, 0, 4, rfl, by decide, by decide, _, _, World.alloc_heap_new W _, fun i x hx => efat (l := [s_task, s_peer, s_ch, s_case]) hx⟩
    · have d16 : L.getD 16 false = true := hw 16 (by rw [hO]; decide +kernel)
      have hu := hI.facts 16 _ rfl d16
      obtain ⟨hl, b, o, c, hv, hc1, hc2, hcs⟩ := hu
      have hx : a.tmps[14]?.getD undef = .slice (some ⟨b, o, none⟩) 4 c := by rw [← Array.getD_eq_getD_getElem?]; exact hv
      subst hO
      refine Lv.wpOp_val (i := 17) rfl rfl (v := .agg #[.string w_wake, .slice (some ⟨b, o, none⟩) 4 c]) (w' := W) (by (go_simp <;> first | with_reducible rfl | rfl)) ?_
      exact hI.put hB (i := 17) (k := .bld w_wake [s_task, s_peer, s_ch, s_case]) rfl ⟨_, rfl, ⟨hl, b, o, c, rfl, hc1, hc2, hcs⟩⟩ (Below.refl _ _)
    · have d0 : L.getD 0 false = true := hw 0 (by rw [hO]; decide +kernel)
      have d17 : L.getD 17 false = true := hw 17 (by rw [hO]; decide +kernel)
      obtain ⟨u, hu, hh⟩ := hI.facts 17 _ rfl d17
      have hu : a.tmps.getD 15 undef = .agg #[.string w_wake, u] := hu
      have hx5 : a.tmps[15]?.getD undef = .agg #[.string w_wake, u] := by rw [← Array.getD_eq_getD_getElem?]; exact hu
      obtain ⟨r, m, es, h3, hm, hf, hnew⟩ := hI.ins (i := 18) (x := ⟨6, w_wake, [s_task, s_peer, s_ch, s_case]⟩) rfl d0 hLi ⟨u, rfl, hh⟩
      have hx3 : a.tmps[3]?.getD undef = .map (some r) := by rw [← Array.getD_eq_getD_getElem?]; exact h3
      subst hO
      refine Ef.wpOp_skip0 (i := 18) rfl rfl rfl (w' := W.putObj r (.map (entsI .u8 (es ++ [(6, .agg #[.string w_wake, u], m)])) (m + 1))) ?_ hnew
      have hp := run_mapPut (P := Tryd.prog) Tryd.underlying98 Tryd.underlying5 hm 6 (.agg #[.string w_wake, u]) hf
      (go_simp <;> first | with_reducible rfl | rfl)
    · subst hO
      refine Lv.wpOp_val (i := 19) rfl rfl (v := a.tmps.getD 1 undef) (w' := W) rfl ?_
      exact hI.put hB (i := 19) (k := .own) rfl h1 (Below.refl _ _)
    · have d19 : L.getD 19 false = true := hw 19 (by rw [hO]; decide +kernel)
      have hu : a.tmps.getD 16 undef = .slice (some ⟨w.heap.size, 0, none⟩) 2 2 := hI.facts 19 _ rfl d19
      obtain ⟨z, ho⟩ := hI.ownAt
      subst hO
      refine Lv.wpOp_val (i := 20) rfl rfl (v := .slice (some ⟨w.heap.size, 1, none⟩) 1 1) (w' := W) (by (go_simp <;> first | with_reducible rfl | rfl)) ?_
      refine hI.put hB (i := 20) (k := .sl [s_task]) rfl ?_ (Below.refl _ _)
      exact ⟨by decide, w.heap.size, 1, 1, rfl, by decide, by decide, _, _, ho, fun i x hx => by (cases i with | zero => (cases hx; rfl) | succ i => (simp at hx))⟩
    · have d20 : L.getD 20 false = true := hw 20 (by rw [hO]; decide +kernel)
      have hu := hI.facts 20 _ rfl d20
      obtain ⟨hl, b, o, c, hv, hc1, hc2, hcs⟩ := hu
      have hx : a.tmps[17]?.getD undef = .slice (some ⟨b, o, none⟩) 1 c := by rw [← Array.getD_eq_getD_getElem?]; exact hv
      subst hO
      refine Lv.wpOp_val (i := 21) rfl rfl (v := .agg #[.string w_default, .slice (some ⟨b, o, none⟩) 1 c]) (w' := W) (by (go_simp <;> first | with_reducible rfl | rfl)) ?_
      exact hI.put hB (i := 21) (k := .bld w_default [s_task]) rfl ⟨_, rfl, ⟨hl, b, o, c, rfl, hc1, hc2, hcs⟩⟩ (Below.refl _ _)
    · have d0 : L.getD 0 false = true := hw 0 (by rw [hO]; decide +kernel)
      have d21 : L.getD 21 false = true := hw 21 (by rw [hO]; decide +kernel)
      obtain ⟨u, hu, hh⟩ := hI.facts 21 _ rfl d21
      have hu : a.tmps.getD 18 undef = .agg #[.string w_default, u] := hu
      have hx5 : a.tmps[18]?.getD undef = .agg #[.string w_default, u] := by rw [← Array.getD_eq_getD_getElem?]; exact hu
      obtain ⟨r, m, es, h3, hm, hf, hnew⟩ := hI.ins (i := 22) (x := ⟨7, w_default, [s_task]⟩) rfl d0 hLi ⟨u, rfl, hh⟩
      have hx3 : a.tmps[3]?.getD undef = .map (some r) := by rw [← Array.getD_eq_getD_getElem?]; exact h3
      subst hO
      refine Ef.wpOp_skip0 (i := 22) rfl rfl rfl (w' := W.putObj r (.map (entsI .u8 (es ++ [(7, .agg #[.string w_default, u], m)])) (m + 1))) ?_ hnew
      have hp := run_mapPut (P := Tryd.prog) Tryd.underlying98 Tryd.underlying5 hm 7 (.agg #[.string w_default, u]) hf
      (go_simp <;> first | with_reducible rfl | rfl)
    · subst hO
      refine Lv.wpOp_val (i := 23) rfl rfl (v := a.tmps.getD 1 undef) (w' := W) rfl ?_
      exact hI.put hB (i := 23) (k := .own) rfl h1 (Below.refl _ _)
    · have d23 : L.getD 23 false = true := hw 23 (by rw [hO]; decide +kernel)
      have hu : a.tmps.getD 19 undef = .slice (some ⟨w.heap.size, 0, none⟩) 2 2 := hI.facts 23 _ rfl d23
      obtain ⟨z, ho⟩ := hI.ownAt
      subst hO
      refine Lv.wpOp_val (i := 24) rfl rfl (v := .slice (some ⟨w.heap.size, 1, none⟩) 1 1) (w' := W) (by (go_simp <;> first | with_reducible rfl | rfl)) ?_
      refine hI.put hB (i := 24) (k := .sl [s_task]) rfl ?_ (Below.refl _ _)
      exact ⟨by decide, w.heap.size, 1, 1, rfl, by decide, by decide, _, _, ho, fun i x hx => by (cases i with | zero => (cases hx; rfl) | succ i => (simp at hx))⟩
    · have d24 : L.getD 24 false = true := hw 24 (by rw [hO]; decide +kernel)
      have hu := hI.facts 24 _ rfl d24
      obtain ⟨hl, b, o, c, hv, hc1, hc2, hcs⟩ := hu
      have hx : a.tmps[20]?.getD undef = .slice (some ⟨b, o, none⟩) 1 c := by rw [← Array.getD_eq_getD_getElem?]; exact hv
      subst hO
      refine Lv.wpOp_val (i := 25) rfl rfl (v := .agg #[.string w_block, .slice (some ⟨b, o, none⟩) 1 c]) (w' := W) (by (go_simp <;> first | with_reducible rfl | rfl)) ?_
      exact hI.put hB (i := 25) (k := .bld w_block [s_task]) rfl ⟨_, rfl, ⟨hl, b, o, c, rfl, hc1, hc2, hcs⟩⟩ (Below.refl _ _)
    · have d0 : L.getD 0 false = true := hw 0 (by rw [hO]; decide +kernel)
      have d25 : L.getD 25 false = true := hw 25 (by rw [hO]; decide +kernel)
      obtain ⟨u, hu, hh⟩ := hI.facts 25 _ rfl d25
      have hu : a.tmps.getD 21 undef = .agg #[.string w_block, u] := hu
      have hx5 : a.tmps[21]?.getD undef = .agg #[.string w_block, u] := by rw [← Array.getD_eq_getD_getElem?]; exact hu
      obtain ⟨r, m, es, h3, hm, hf, hnew⟩ := hI.ins (i := 26) (x := ⟨8, w_block, [s_task]⟩) rfl d0 hLi ⟨u, rfl, hh⟩
      have hx3 : a.tmps[3]?.getD undef = .map (some r) := by rw [← Array.getD_eq_getD_getElem?]; exact h3
      subst hO
      refine Ef.wpOp_skip0 (i := 26) rfl rfl rfl (w' := W.putObj r (.map (entsI .u8 (es ++ [(8, .agg #[.string w_block, u], m)])) (m + 1))) ?_ hnew
      have hp := run_mapPut (P := Tryd.prog) Tryd.underlying98 Tryd.underlying5 hm 8 (.agg #[.string w_block, u]) hf
      (go_simp <;> first | with_reducible rfl | rfl)
    · subst hO
      refine Lv.wpOp_val (i := 27) rfl rfl (v := .slice (some ⟨W.heap.size, 0, none⟩) 3 3) (w' := W.alloc (.cells #[.string s_task, .string s_peer, .string s_case] 9)) (by (go_simp <;> first | with_reducible rfl | rfl)) ?_
      refine hI.put hB (i := 27) (k := .sl [s_task, s_peer, s_case]) rfl ?_ (by (repeat (first | with_reducible exact Below.refl _ _ | (with_reducible refine Below.setCell ?_ (by first | (simp; done) | (simp; omega) | omega) _) | (with_reducible refine Below.alloc ?_ (by first | (simp; done) | (simp; omega) | omega) _) | (with_reducible refine Below.drew ?_))))
      exact ⟨by decide, W.heap.size, 0, 3, rfl, by decide, by decide, _, _, World.alloc_heap_new W _, fun i x hx => efat (l := [s_task, s_peer, s_case]) hx⟩
    · have d27 : L.getD 27 false = true := hw 27 (by rw [hO]; decide +kernel)
      have hu := hI.facts 27 _ rfl d27
      obtain ⟨hl, b, o, c, hv, hc1, hc2, hcs⟩ := hu
      have hx : a.tmps[22]?.getD undef = .slice (some ⟨b, o, none⟩) 3 c := by rw [← Array.getD_eq_getD_getElem?]; exact hv
      subst hO
      refine Lv.wpOp_val (i := 28) rfl rfl (v := .agg #[.string w_spawn, .slice (some ⟨b, o, none⟩) 3 c]) (w' := W) (by (go_simp <;> first | with_reducible rfl | rfl)) ?_
      exact hI.put hB (i := 28) (k := .bld w_spawn [s_task, s_peer, s_case]) rfl ⟨_, rfl, ⟨hl, b, o, c, rfl, hc1, hc2, hcs⟩⟩ (Below.refl _ _)
    · have d0 : L.getD 0 false = true := hw 0 (by rw [hO]; decide +kernel)
      have d28 : L.getD 28 false = true := hw 28 (by rw [hO]; decide +kernel)
      obtain ⟨u, hu, hh⟩ := hI.facts 28 _ rfl d28
      have hu : a.tmps.getD 23 undef = .agg #[.string w_spawn, u] := hu
      have hx5 : a.tmps[23]?.getD undef = .agg #[.string w_spawn, u] := by rw [← Array.getD_eq_getD_getElem?]; exact hu
      obtain ⟨r, m, es, h3, hm, hf, hnew⟩ := hI.ins (i := 29) (x := ⟨9, w_spawn, [s_task, s_peer, s_case]⟩) rfl d0 hLi ⟨u, rfl, hh⟩
      have hx3 : a.tmps[3]?.getD undef = .map (some r) := by rw [← Array.getD_eq_getD_getElem?]; exact h3
      subst hO
      refine Ef.wpOp_skip0 (i := 29) rfl rfl rfl (w' := W.putObj r (.map (entsI .u8 (es ++ [(9, .agg #[.string w_spawn, u], m)])) (m + 1))) ?_ hnew
      have hp := run_mapPut (P := Tryd.prog) Tryd.underlying98 Tryd.underlying5 hm 9 (.agg #[.string w_spawn, u]) hf
      (go_simp <;> first | with_reducible rfl | rfl)
    · subst hO
      refine Lv.wpOp_val (i := 30) rfl rfl (v := a.tmps.getD 1 undef) (w' := W) rfl ?_
      exact hI.put hB (i := 30) (k := .own) rfl h1 (Below.refl _ _)
    · have d30 : L.getD 30 false = true := hw 30 (by rw [hO]; decide +kernel)
      have hu : a.tmps.getD 24 undef = .slice (some ⟨w.heap.size, 0, none⟩) 2 2 := hI.facts 30 _ rfl d30
      obtain ⟨z, ho⟩ := hI.ownAt
      subst hO
      refine Lv.wpOp_val (i := 31) rfl rfl (v := .slice (some ⟨w.heap.size, 1, none⟩) 1 1) (w' := W) (by (go_simp <;> first | with_reducible rfl | rfl)) ?_
      refine hI.put hB (i := 31) (k := .sl [s_task]) rfl ?_ (Below.refl _ _)
      exact ⟨by decide, w.heap.size, 1, 1, rfl, by decide, by decide, _, _, ho, fun i x hx => by (cases i with | zero => (cases hx; rfl) | succ i => (simp at hx))⟩
    · have d31 : L.getD 31 false = true := hw 31 (by rw [hO]; decide +kernel)
      have hu := hI.facts 31 _ rfl d31
      obtain ⟨hl, b, o, c, hv, hc1, hc2, hcs⟩ := hu
      have hx : a.tmps[25]?.getD undef = .slice (some ⟨b, o, none⟩) 1 c := by rw [← Array.getD_eq_getD_getElem?]; exact hv
      subst hO
      refine Lv.wpOp_val (i := 32) rfl rfl (v := .agg #[.string w_end, .slice (some ⟨b, o, none⟩) 1 c]) (w' := W) (by (go_simp <;> first | with_reducible rfl | rfl)) ?_
      exact hI.put hB (i := 32) (k := .bld w_end [s_task]) rfl ⟨_, rfl, ⟨hl, b, o, c, rfl, hc1, hc2, hcs⟩⟩ (Below.refl _ _)
    · have d0 : L.getD 0 false = true := hw 0 (by rw [hO]; decide +kernel)
      have d32 : L.getD 32 false = true := hw 32 (by rw [hO]; decide +kernel)
      obtain ⟨u, hu, hh⟩ := hI.facts 32 _ rfl d32
      have hu : a.tmps.getD 26 undef = .agg #[.string w_end, u] := hu
      have hx5 : a.tmps[26]?.getD undef = .agg #[.string w_end, u] := by rw [← Array.getD_eq_getD_getElem?]; exact hu
      obtain ⟨r, m, es, h3, hm, hf, hnew⟩ := hI.ins (i := 33) (x := ⟨10, w_end, [s_task]⟩) rfl d0 hLi ⟨u, rfl, hh⟩
      have hx3 : a.tmps[3]?.getD undef = .map (some r) := by rw [← Array.getD_eq_getD_getElem?]; exact h3
      subst hO
      refine Ef.wpOp_skip0 (i := 33) rfl rfl rfl (w' := W.putObj r (.map (entsI .u8 (es ++ [(10, .agg #[.string w_end, u], m)])) (m + 1))) ?_ hnew
      have hp := run_mapPut (P := Tryd.prog) Tryd.underlying98 Tryd.underlying5 hm 10 (.agg #[.string w_end, u]) hf
      (go_simp <;> first | with_reducible rfl | rfl)
    · subst hO
      refine Lv.wpOp_val (i := 34) rfl rfl (v := .slice (some ⟨W.heap.size, 0, none⟩) 3 3) (w' := W.alloc (.cells #[.string s_task, .string s_peer, .string s_code] 9)) (by (go_simp <;> first | with_reducible rfl | rfl)) ?_
      refine hI.put hB (i := 34) (k := .sl [s_task, s_peer, s_code]) rfl ?_ (by (repeat (first | with_reducible exact Below.refl _ _ | (with_reducible refine Below.setCell ?_ (by first | (simp; done) | (simp; omega) | omega) _) | (with_reducible refine Below.alloc ?_ (by first | (simp; done) | (simp; omega) | omega) _) | (with_reducible refine Below.drew ?_))))
      exact ⟨by decide, W.heap.size, 0, 3, rfl, by decide, by decide, _, _, World.alloc_heap_new W _, fun i x hx => efat (l := [s_task, s_peer, s_code]) hx⟩
    · have d34 : L.getD 34 false = true := hw 34 (by rw [hO]; decide +kernel)
      have hu := hI.facts 34 _ rfl d34
      obtain ⟨hl, b, o, c, hv, hc1, hc2, hcs⟩ := hu
      have hx : a.tmps[27]?.getD undef = .slice (some ⟨b, o, none⟩) 3 c := by rw [← Array.getD_eq_getD_getElem?]; exact hv
      subst hO
      refine Lv.wpOp_val (i := 35) rfl rfl (v := .agg #[.string w_fault, .slice (some ⟨b, o, none⟩) 3 c]) (w' := W) (by (go_simp <;> first | with_reducible rfl | rfl)) ?_
      exact hI.put hB (i := 35) (k := .bld w_fault [s_task, s_peer, s_code]) rfl ⟨_, rfl, ⟨hl, b, o, c, rfl, hc1, hc2, hcs⟩⟩ (Below.refl _ _)
    · have d0 : L.getD 0 false = true := hw 0 (by rw [hO]; decide +kernel)
      have d35 : L.getD 35 false = true := hw 35 (by rw [hO]; decide +kernel)
      obtain ⟨u, hu, hh⟩ := hI.facts 35 _ rfl d35
      have hu : a.tmps.getD 28 undef = .agg #[.string w_fault, u] := hu
      have hx5 : a.tmps[28]?.getD undef = .agg #[.string w_fault, u] := by rw [← Array.getD_eq_getD_getElem?]; exact hu
      obtain ⟨r, m, es, h3, hm, hf, hnew⟩ := hI.ins (i := 36) (x := ⟨11, w_fault, [s_task, s_peer, s_code]⟩) rfl d0 hLi ⟨u, rfl, hh⟩
      have hx3 : a.tmps[3]?.getD undef = .map (some r) := by rw [← Array.getD_eq_getD_getElem?]; exact h3
      subst hO
      refine Ef.wpOp_skip0 (i := 36) rfl rfl rfl (w' := W.putObj r (.map (entsI .u8 (es ++ [(11, .agg #[.string w_fault, u], m)])) (m + 1))) ?_ hnew
      have hp := run_mapPut (P := Tryd.prog) Tryd.underlying98 Tryd.underlying5 hm 11 (.agg #[.string w_fault, u]) hf
      (go_simp <;> first | with_reducible rfl | rfl)
    · subst hO
      refine Lv.wpOp_val (i := 37) rfl rfl (v := a.tmps.getD 1 undef) (w' := W) rfl ?_
      exact hI.put hB (i := 37) (k := .own) rfl h1 (Below.refl _ _)
    · have d37 : L.getD 37 false = true := hw 37 (by rw [hO]; decide +kernel)
      have hu := hI.facts 37 _ rfl d37
      have hu : a.tmps.getD 29 undef = .slice (some ⟨w.heap.size, 0, none⟩) 2 2 := hu
      obtain ⟨z, ho⟩ := hI.ownAt
      have hx : a.tmps[29]?.getD undef = .slice (some ⟨w.heap.size, 0, none⟩) 2 2 := by rw [← Array.getD_eq_getD_getElem?]; exact hu
      subst hO
      refine Lv.wpOp_val (i := 38) rfl rfl (v := .agg #[.string w_dispatch, .slice (some ⟨w.heap.size, 0, none⟩) 2 2]) (w' := W) (by (go_simp <;> first | with_reducible rfl | rfl)) ?_
      exact hI.put hB (i := 38) (k := .bld w_dispatch [s_worker, s_task]) rfl ⟨_, rfl, ⟨by decide, w.heap.size, 0, 2, rfl, by decide, by decide, _, _, ho, fun i x hx => efat (l := [s_worker, s_task]) hx⟩⟩ (Below.refl _ _)
    · have d0 : L.getD 0 false = true := hw 0 (by rw [hO]; decide +kernel)
      have d38 : L.getD 38 false = true := hw 38 (by rw [hO]; decide +kernel)
      obtain ⟨u, hu, hh⟩ := hI.facts 38 _ rfl d38
      have hu : a.tmps.getD 30 undef = .agg #[.string w_dispatch, u] := hu
      have hx5 : a.tmps[30]?.getD undef = .agg #[.string w_dispatch, u] := by rw [← Array.getD_eq_getD_getElem?]; exact hu
      obtain ⟨r, m, es, h3, hm, hf, hnew⟩ := hI.ins (i := 39) (x := ⟨21, w_dispatch, [s_worker, s_task]⟩) rfl d0 hLi ⟨u, rfl, hh⟩
      have hx3 : a.tmps[3]?.getD undef = .map (some r) := by rw [← Array.getD_eq_getD_getElem?]; exact h3
      subst hO
      refine Ef.wpOp_skip0 (i := 39) rfl rfl rfl (w' := W.putObj r (.map (entsI .u8 (es ++ [(21, .agg #[.string w_dispatch, u], m)])) (m + 1))) ?_ hnew
      have hp := run_mapPut (P := Tryd.prog) Tryd.underlying98 Tryd.underlying5 hm 21 (.agg #[.string w_dispatch, u]) hf
      (go_simp <;> first | with_reducible rfl | rfl)
    · subst hO
      refine Lv.wpOp_val (i := 40) rfl rfl (v := a.tmps.getD 1 undef) (w' := W) rfl ?_
      exact hI.put hB (i := 40) (k := .own) rfl h1 (Below.refl _ _)
    · have d40 : L.getD 40 false = true := hw 40 (by rw [hO]; decide +kernel)
      have hu := hI.facts 40 _ rfl d40
      have hu : a.tmps.getD 31 undef = .slice (some ⟨w.heap.size, 0, none⟩) 2 2 := hu
      obtain ⟨z, ho⟩ := hI.ownAt
      have hx : a.tmps[31]?.getD undef = .slice (some ⟨w.heap.size, 0, none⟩) 2 2 := by rw [← Array.getD_eq_getD_getElem?]; exact hu
      subst hO
      refine Lv.wpOp_val (i := 41) rfl rfl (v := .agg #[.string w_ready, .slice (some ⟨w.heap.size, 0, none⟩) 2 2]) (w' := W) (by (go_simp <;> first | with_reducible rfl | rfl)) ?_
      exact hI.put hB (i := 41) (k := .bld w_ready [s_worker, s_task]) rfl ⟨_, rfl, ⟨by decide, w.heap.size, 0, 2, rfl, by decide, by decide, _, _, ho, fun i x hx => efat (l := [s_worker, s_task]) hx⟩⟩ (Below.refl _ _)
    · have d0 : L.getD 0 false = true := hw 0 (by rw [hO]; decide +kernel)
      have d41 : L.getD 41 false = true := hw 41 (by rw [hO]; decide +kernel)
      obtain ⟨u, hu, hh⟩ := hI.facts 41 _ rfl d41
      have hu : a.tmps.getD 32 undef = .agg #[.string w_ready, u] := hu
      have hx5 : a.tmps[32]?.getD undef = .agg #[.string w_ready, u] := by rw [← Array.getD_eq_getD_getElem?]; exact hu
      obtain ⟨r, m, es, h3, hm, hf, hnew⟩ := hI.ins (i := 42) (x := ⟨22, w_ready, [s_worker, s_task]⟩) rfl d0 hLi ⟨u, rfl, hh⟩
      have hx3 : a.tmps[3]?.getD undef = .map (some r) := by rw [← Array.getD_eq_getD_getElem?]; exact h3
      subst hO
      refine Ef.wpOp_skip0 (i := 42) rfl rfl rfl (w' := W.putObj r (.map (entsI .u8 (es ++ [(22, .agg #[.string w_ready, u], m)])) (m + 1))) ?_ hnew
      have hp := run_mapPut (P := Tryd.prog) Tryd.underlying98 Tryd.underlying5 hm 22 (.agg #[.string w_ready, u]) hf
      (go_simp <;> first | with_reducible rfl | rfl)
    · subst hO
      refine Lv.wpOp_val (i := 43) rfl rfl (v := a.tmps.getD 1 undef) (w' := W) rfl ?_
      exact hI.put hB (i := 43) (k := .own) rfl h1 (Below.refl _ _)
    · have d43 : L.getD 43 false = true := hw 43 (by rw [hO]; decide +kernel)
      have hu := hI.facts 43 _ rfl d43
      have hu : a.tmps.getD 33 undef = .slice (some ⟨w.heap.size, 0, none⟩) 2 2 := hu
      obtain ⟨z, ho⟩ := hI.ownAt
      have hx : a.tmps[33]?.getD undef = .slice (some ⟨w.heap.size, 0, none⟩) 2 2 := by rw [← Array.getD_eq_getD_getElem?]; exact hu
      subst hO
      refine Lv.wpOp_val (i := 44) rfl rfl (v := .agg #[.string w_preempt, .slice (some ⟨w.heap.size, 0, none⟩) 2 2]) (w' := W) (by (go_simp <;> first | with_reducible rfl | rfl)) ?_
      exact hI.put hB (i := 44) (k := .bld w_preempt [s_worker, s_task]) rfl ⟨_, rfl, ⟨by decide, w.heap.size, 0, 2, rfl, by decide, by decide, _, _, ho, fun i x hx => efat (l := [s_worker, s_task]) hx⟩⟩ (Below.refl _ _)
    · have d0 : L.getD 0 false = true := hw 0 (by rw [hO]; decide +kernel)
      have d44 : L.getD 44 false = true := hw 44 (by rw [hO]; decide +kernel)
      obtain ⟨u, hu, hh⟩ := hI.facts 44 _ rfl d44
      have hu : a.tmps.getD 34 undef = .agg #[.string w_preempt, u] := hu
      have hx5 : a.tmps[34]?.getD undef = .agg #[.string w_preempt, u] := by rw [← Array.getD_eq_getD_getElem?]; exact hu
      obtain ⟨r, m, es, h3, hm, hf, hnew⟩ := hI.ins (i := 45) (x := ⟨23, w_preempt, [s_worker, s_task]⟩) rfl d0 hLi ⟨u, rfl, hh⟩
      have hx3 : a.tmps[3]?.getD undef = .map (some r) := by rw [← Array.getD_eq_getD_getElem?]; exact h3
      subst hO
      refine Ef.wpOp_skip0 (i := 45) rfl rfl rfl (w' := W.putObj r (.map (entsI .u8 (es ++ [(23, .agg #[.string w_preempt, u], m)])) (m + 1))) ?_ hnew
      have hp := run_mapPut (P := Tryd.prog) Tryd.underlying98 Tryd.underlying5 hm 23 (.agg #[.string w_preempt, u]) hf
      (go_simp <;> first | with_reducible rfl | rfl)
    · subst hO
      refine Lv.wpOp_val (i := 46) rfl rfl (v := a.tmps.getD 1 undef) (w' := W) rfl ?_
      exact hI.put hB (i := 46) (k := .own) rfl h1 (Below.refl _ _)
    · have d46 : L.getD 46 false = true := hw 46 (by rw [hO]; decide +kernel)
      have hu := hI.facts 46 _ rfl d46
      have hu : a.tmps.getD 35 undef = .slice (some ⟨w.heap.size, 0, none⟩) 2 2 := hu
      obtain ⟨z, ho⟩ := hI.ownAt
      have hx : a.tmps[35]?.getD undef = .slice (some ⟨w.heap.size, 0, none⟩) 2 2 := by rw [← Array.getD_eq_getD_getElem?]; exact hu
      subst hO
      refine Lv.wpOp_val (i := 47) rfl rfl (v := .agg #[.string w_locked, .slice (some ⟨w.heap.size, 0, none⟩) 2 2]) (w' := W) (by (go_simp <;> first | with_reducible rfl | rfl)) ?_
      exact hI.put hB (i := 47) (k := .bld w_locked [s_worker, s_task]) rfl ⟨_, rfl, ⟨by decide, w.heap.size, 0, 2, rfl, by decide, by decide, _, _, ho, fun i x hx => efat (l := [s_worker, s_task]) hx⟩⟩ (Below.refl _ _)
    · have d0 : L.getD 0 false = true := hw 0 (by rw [hO]; decide +kernel)
      have d47 : L.getD 47 false = true := hw 47 (by rw [hO]; decide +kernel)
      obtain ⟨u, hu, hh⟩ := hI.facts 47 _ rfl d47
      have hu : a.tmps.getD 36 undef = .agg #[.string w_locked, u] := hu
      have hx5 : a.tmps[36]?.getD undef = .agg #[.string w_locked, u] := by rw [← Array.getD_eq_getD_getElem?]; exact hu
      obtain ⟨r, m, es, h3, hm, hf, hnew⟩ := hI.ins (i := 48) (x := ⟨24, w_locked, [s_worker, s_task]⟩) rfl d0 hLi ⟨u, rfl, hh⟩
      have hx3 : a.tmps[3]?.getD undef = .map (some r) := by rw [← Array.getD_eq_getD_getElem?]; exact h3
      subst hO
      refine Ef.wpOp_skip0 (i := 48) rfl rfl rfl (w' := W.putObj r (.map (entsI .u8 (es ++ [(24, .agg #[.string w_locked, u], m)])) (m + 1))) ?_ hnew
      have hp := run_mapPut (P := Tryd.prog) Tryd.underlying98 Tryd.underlying5 hm 24 (.agg #[.string w_locked, u]) hf
      (go_simp <;> first | with_reducible rfl | rfl)
    · subst hO
      refine Lv.wpOp_val (i := 49) rfl rfl (v := .slice (some ⟨W.heap.size, 0, none⟩) 3 3) (w' := W.alloc (.cells #[.string s_worker, .string s_task, .string s_set] 9)) (by (go_simp <;> first | with_reducible rfl | rfl)) ?_
      refine hI.put hB (i := 49) (k := .sl [s_worker, s_task, s_set]) rfl ?_ (by (repeat (first | with_reducible exact Below.refl _ _ | (with_reducible refine Below.setCell ?_ (by first | (simp; done) | (simp; omega) | omega) _) | (with_reducible refine Below.alloc ?_ (by first | (simp; done) | (simp; omega) | omega) _) | (with_reducible refine Below.drew ?_))))
      exact ⟨by decide, W.heap.size, 0, 3, rfl, by decide, by decide, _, _, World.alloc_heap_new W _, fun i x hx => efat (l := [s_worker, s_task, s_set]) hx⟩
    · have d49 : L.getD 49 false = true := hw 49 (by rw [hO]; decide +kernel)
      have hu := hI.facts 49 _ rfl d49
      obtain ⟨hl, b, o, c, hv, hc1, hc2, hcs⟩ := hu
      have hx : a.tmps[37]?.getD undef = .slice (some ⟨b, o, none⟩) 3 c := by rw [← Array.getD_eq_getD_getElem?]; exact hv
      subst hO
      refine Lv.wpOp_val (i := 50) rfl rfl (v := .agg #[.string w_poll, .slice (some ⟨b, o, none⟩) 3 c]) (w' := W) (by (go_simp <;> first | with_reducible rfl | rfl)) ?_
      exact hI.put hB (i := 50) (k := .bld w_poll [s_worker, s_task, s_set]) rfl ⟨_, rfl, ⟨hl, b, o, c, rfl, hc1, hc2, hcs⟩⟩ (Below.refl _ _)
    · have d0 : L.getD 0 false = true := hw 0 (by rw [hO]; decide +kernel)
      have d50 : L.getD 50 false = true := hw 50 (by rw [hO]; decide +kernel)
      obtain ⟨u, hu, hh⟩ := hI.facts 50 _ rfl d50
      have hu : a.tmps.getD 38 undef = .agg #[.string w_poll, u] := hu
      have hx5 : a.tmps[38]?.getD undef = .agg #[.string w_poll, u] := by rw [← Array.getD_eq_getD_getElem?]; exact hu
      obtain ⟨r, m, es, h3, hm, hf, hnew⟩ := hI.ins (i := 51) (x := ⟨25, w_poll, [s_worker, s_task, s_set]⟩) rfl d0 hLi ⟨u, rfl, hh⟩
      have hx3 : a.tmps[3]?.getD undef = .map (some r) := by rw [← Array.getD_eq_getD_getElem?]; exact h3
      subst hO
      refine Ef.wpOp_skip0 (i := 51) rfl rfl rfl (w' := W.putObj r (.map (entsI .u8 (es ++ [(25, .agg #[.string w_poll, u], m)])) (m + 1))) ?_ hnew
      have hp := run_mapPut (P := Tryd.prog) Tryd.underlying98 Tryd.underlying5 hm 25 (.agg #[.string w_poll, u]) hf
      (go_simp <;> first | with_reducible rfl | rfl)
    · subst hO
      refine Lv.wpOp_val (i := 52) rfl rfl (v := a.tmps.getD 1 undef) (w' := W) rfl ?_
      exact hI.put hB (i := 52) (k := .own) rfl h1 (Below.refl _ _)
    · have d52 : L.getD 52 false = true := hw 52 (by rw [hO]; decide +kernel)
      have hu : a.tmps.getD 39 undef = .slice (some ⟨w.heap.size, 0, none⟩) 2 2 := hI.facts 52 _ rfl d52
      obtain ⟨z, ho⟩ := hI.ownAt
      subst hO
      refine Lv.wpOp_val (i := 53) rfl rfl (v := .slice (some ⟨w.heap.size, 0, none⟩) 1 2) (w' := W) (by (go_simp <;> first | with_reducible rfl | rfl)) ?_
      refine hI.put hB (i := 53) (k := .sl [s_worker]) rfl ?_ (Below.refl _ _)
      exact ⟨by decide, w.heap.size, 0, 2, rfl, by decide, by decide, _, _, ho, fun i x hx => by (cases i with | zero => (cases hx; rfl) | succ i => (simp at hx))⟩
    · have d53 : L.getD 53 false = true := hw 53 (by rw [hO]; decide +kernel)
      have hu := hI.facts 53 _ rfl d53
      obtain ⟨hl, b, o, c, hv, hc1, hc2, hcs⟩ := hu
      have hx : a.tmps[40]?.getD undef = .slice (some ⟨b, o, none⟩) 1 c := by rw [← Array.getD_eq_getD_getElem?]; exact hv
      subst hO
      refine Lv.wpOp_val (i := 54) rfl rfl (v := .agg #[.string w_free, .slice (some ⟨b, o, none⟩) 1 c]) (w' := W) (by (go_simp <;> first | with_reducible rfl | rfl)) ?_
      exact hI.put hB (i := 54) (k := .bld w_free [s_worker]) rfl ⟨_, rfl, ⟨hl, b, o, c, rfl, hc1, hc2, hcs⟩⟩ (Below.refl _ _)
    · have d0 : L.getD 0 false = true := hw 0 (by rw [hO]; decide +kernel)
      have d54 : L.getD 54 false = true := hw 54 (by rw [hO]; decide +kernel)
      obtain ⟨u, hu, hh⟩ := hI.facts 54 _ rfl d54
      have hu : a.tmps.getD 41 undef = .agg #[.string w_free, u] := hu
      have hx5 : a.tmps[41]?.getD undef = .agg #[.string w_free, u] := by rw [← Array.getD_eq_getD_getElem?]; exact hu
      obtain ⟨r, m, es, h3, hm, hf, hnew⟩ := hI.ins (i := 55) (x := ⟨26, w_free, [s_worker]⟩) rfl d0 hLi ⟨u, rfl, hh⟩
      have hx3 : a.tmps[3]?.getD undef = .map (some r) := by rw [← Array.getD_eq_getD_getElem?]; exact h3
      subst hO
      refine Ef.wpOp_skip0 (i := 55) rfl rfl rfl (w' := W.putObj r (.map (entsI .u8 (es ++ [(26, .agg #[.string w_free, u], m)])) (m + 1))) ?_ hnew
      have hp := run_mapPut (P := Tryd.prog) Tryd.underlying98 Tryd.underlying5 hm 26 (.agg #[.string w_free, u]) hf
      (go_simp <;> first | with_reducible rfl | rfl)
    · have d0 : L.getD 0 false = true := hw 0 (by rw [hO]; decide +kernel)
      subst hO
      refine Lv.wpOp_val (i := 56) rfl rfl (v := a.tmps.getD 3 undef) (w' := W) rfl ?_
      exact hI.e1 d0
    · have d0 : L.getD 0 false = true := hw 0 (by rw [hO]; decide +kernel)
      have d56 : L.getD 56 false = true := hw 56 (by rw [hO]; decide +kernel)
      subst hO
      refine Lv.wpOp_val (i := 57) rfl rfl (v := a.tmps.getD 42 undef) (w' := W) rfl ?_
      exact hI.e2 d0 d56
  · intro L a W hI hL
    obtain ⟨r, h0, hr, hf⟩ := hI.done hL
    have hd := hI.defers
    go_wp2
    first | (refine bodyPost_ret (results_tmp rfl _ _ _) hd ?_) | (simp only [Exit.inBlock, Exit.then]; refine bodyPost_ret (results_tmp rfl _ _ _) hd ?_)
    exact ⟨r, by rw [h0], hI.below, hr, hf⟩
end Go.Proofs.YtljfloopjgpaeabDoor
