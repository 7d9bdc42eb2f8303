/- slices.Clone, prog.cloned. -/
import Derived.Test.YtljfloopjgpaeaaNB
import Derived.OwnWalk
import Derived.Deep.LoopGhost
import Derived.Lib.Walk
import Derived.Lib.SliceRun
import Derived.Laws.AppendOwn
namespace Go.Proofs.Ytljfloopjgpaeaa
set_option linter.unusedVariables false
set_option linter.unusedSimpArgs false
open Go.RowKit
set_option maxRecDepth 100000

theorem flatMap_split {α : Type} {f : α → List Value} {sz : Nat} (hf : ∀ x, (f x).length = sz) : ∀ (l : List α) (j : Nat) (u : Value), (l.flatMap f)[j]? = some u → ∃ i x r, l[i]? = some x ∧ (f x)[r]? = some u ∧ j = i * sz + r
  | [], j, u, h => by simp at h
  | a :: l, j, u, h => by
    rw [List.flatMap_cons] at h
    by_cases hj : j < sz
    · rw [List.getElem?_append_left (by rw [hf]; exact hj)] at h
      exact ⟨0, a, j, rfl, h, by omega⟩
    · rw [List.getElem?_append_right (by rw [hf]; omega), hf] at h
      obtain ⟨i, x, r, h1, h2, h3⟩ := flatMap_split hf l (j - sz) u h
      exact ⟨i + 1, x, r, by simpa using h1, h2, by rw [Nat.succ_mul]; omega⟩
theorem flatMap_put {α : Type} {f : α → List Value} {sz : Nat} (hf : ∀ x, (f x).length = sz) : ∀ (l : List α) (i j : Nat) (x : α) (u : Value), l[i]? = some x → (f x)[j]? = some u → (l.flatMap f)[i * sz + j]? = some u
  | [], _, _, _, _, h, _ => by simp at h
  | a :: l, 0, j, x, u, h, hj => by
    obtain rfl : a = x := by simpa using h
    rw [List.flatMap_cons, Nat.zero_mul, Nat.zero_add, List.getElem?_append_left (List.getElem?_eq_some_iff.1 hj).1]
    exact hj
  | a :: l, i + 1, j, x, u, h, hj => by
    have hlen := hf a
    rw [List.flatMap_cons, List.getElem?_append_right (by rw [hlen, Nat.succ_mul]; omega), hlen, show (i + 1) * sz + j - sz = i * sz + j by rw [Nat.succ_mul]; omega]
    exact flatMap_put hf l i j x u (by simpa using h) hj
theorem flatMap_len {α : Type} {f : α → List Value} {sz : Nat} (hf : ∀ x, (f x).length = sz) : ∀ (l : List α), (l.flatMap f).length = l.length * sz
  | [] => by simp
  | a :: l => by rw [List.flatMap_cons, List.length_append, hf, flatMap_len hf l, List.length_cons, Nat.succ_mul]; omega
theorem R_cells {α : Type} {enc : α → List Value} {sz : Nat} {Q : α → Prop} (hf : ∀ x, (enc x).length = sz) {w : World} {ad : Addr} {n c : Nat} {l : List α} (h : (Kn.flat sz enc Q).R w (.slice (some ad) n c) l) : ∀ j u, (l.flatMap enc)[j]? = some u → w.cell? (ad.add j) = some u := fun j u hj => by
  obtain ⟨i, x, r, h1, h2, rfl⟩ := flatMap_split hf l j u hj
  have hi := (List.getElem?_eq_some_iff.1 h1).1
  obtain ⟨b, o, cs, hA, hb, ⟨rfl, _⟩, hc⟩ := h.at hi
  obtain rfl : ad = ⟨b, o, none⟩ := by simpa using hA
  rw [Addr.add_lit]
  have hx : l[i] = x := (List.getElem?_eq_some_iff.1 h1).2
  have h3 := hc r u (by rw [hx]; exact h2)
  have hs : (Kn.flat sz enc Q).sz = sz := rfl
  rw [hs] at h3
  rw [← h3, Nat.add_assoc]
theorem R_wf {α : Type} {enc : α → List Value} {sz : Nat} {Q : α → Prop} {w : World} {v : Value} {l : List α} (h : (Kn.flat sz enc Q).R w v l) : ∀ x ∈ l, Q x := fun x hx => by
  obtain ⟨A, c, rfl, _, _, _, hh⟩ := h
  obtain ⟨i, hi, rfl⟩ := List.getElem_of_mem hx
  obtain ⟨b, o, _, _, h3⟩ := hh (by omega)
  obtain ⟨cs, ⟨_, hq⟩, _⟩ := h3 i l[i] (List.getElem?_eq_getElem hi)
  exact hq
/-- A row of the call's own reads as its list. -/
theorem own_R {α : Type} {enc : α → List Value} {sz : Nat} {Q : α → Prop} (hf : ∀ x, (enc x).length = sz) {w : World} {B E : Nat} {v : Value} {l : List α} (h : w.ownsRow B E sz v l.length (l.flatMap enc)) (hq : ∀ x ∈ l, Q x) (hl : l.length ≤ 140737488351232) : (Kn.flat sz enc Q).R w v l := by
  obtain ⟨hn, hh⟩ := h
  rcases hh with ⟨rfl, h0⟩ | ⟨g, cap, cur, rfl, hg, hb, h1, h2, h3, h4⟩
  · refine ⟨none, 0, by rw [h0], by omega, Nat.zero_le _, hl, fun h => by omega⟩
  · refine ⟨_, _, rfl, h1, h2, hl, fun _ => ⟨g, 0, rfl, (Array.getElem?_eq_some_iff.1 hb).1, fun i x hi => ⟨enc x, ⟨rfl, hq x (List.mem_of_getElem? hi)⟩, fun j u hj => ?_⟩⟩⟩
    have hs : (Kn.flat sz enc Q).sz = sz := rfl
    rw [hs, Nat.zero_add]
    have h5 := flatMap_put hf l i j x u hi hj
    rw [← h4] at h5
    simp only [World.cell?, hb]
    rw [← Array.getElem?_toList]
    rw [List.getElem?_take] at h5
    split at h5
    · exact h5
    · cases h5
theorem info_Int : (Try.prog.info? 3).map (fun i => (i.zero, i.size, i.bytes)) = some (some (.int .i64 0), 1, 8) := by kernel_rfl
theorem enc_Int : ∀ x : Int, ((fun x : Int => [Value.int .i64 x]) x).length = 1 := fun _ => rfl
theorem one_Int (l : List Int) : ∀ u ∈ l.flatMap (fun x : Int => [Value.int .i64 x]), u.oneCell' = true := fun u hu => by
  obtain ⟨x, _, hx⟩ := List.mem_flatMap.1 hu
  simp [List.mem_cons] at hx
  (repeat' (first | subst hx | (rcases hx with hx | hx))) <;> rfl
set_option maxHeartbeats 2000000 in
theorem CloneInt_any {w : World} {v : Value} {l : List Int} (h : kInt.R w v l) (hs : l.length ≤ 1000000) :
    Calls Try.prog 105 #[v] w fun e w' => ∃ v', e = .returned v' ∧ w'.ownsRow w.heap.size 3 1 v' l.length (l.flatMap (fun x : Int => [Value.int .i64 x])) ∧ Below w.heap.size w w' := by
  obtain ⟨A, c, rfl, _, _, hl⟩ := h.val
  obtain ⟨i0, hi, hz0, hz1, hz2⟩ := info_parts info_Int
  have hlen := flatMap_len enc_Int l
  have HL := Lib.hid hlen
  clear hlen
  have q22 : ∀ (w : World) (a : Option Addr) (n c n' c' : Nat), (binOp .eql 38 (.slice a n c) (.slice none n' c')).run Try.prog w = .ok (.bool a.isNone) w := fun w a n c n' c' => Lib.run_eql_slice_nil w _ _ a n c n' c' Try.underlying38
  cases A with
  | none =>
    have h0 : l.length = 0 := by
      obtain ⟨A', c', hv, _, _, _, hh⟩ := h
      by_cases hp : 0 < l.length
      · obtain ⟨b, o, hA, _⟩ := hh hp
        simp [hA] at hv
      · omega
    have H0 := Lib.hid h0
    clear h h0 hi hz0 hz1 hz2
    go_enter Try.func105, Try.ntmps105
    go_wp2
    go_ret
    exact ⟨_, rfl, ⟨HL.out, .inl ⟨rfl, H0.out⟩⟩, Below.refl _ _⟩
  | some ad =>
    have A := Lib.hid (R_cells enc_Int h)
    clear h
    go_enter Try.func105, Try.ntmps105
    go_wp2_with (at_builtin; refine wpList_append_own _ rfl _ _ 38 rfl w.heap.size 3 i0 (.int .i64 0) 1 8 Try.underlying38 hi hz0 hz1 hz2 rfl (by decide) _ _ _ rfl (World.ownsRow_made w #[] 0 (Nat.le_refl _) (Nat.zero_le _) (by simp)) ad l.length c (l.flatMap (fun x : Int => [Value.int .i64 x])) rfl ?qc1 ?qc2 ?qc3 ?qc4 ?qc5 ?qc6 ?_)
    case qc1 => exact HL.out
    case qc2 =>
      intro j u hj
      exact Lib.cell?_alloc_some _ (A.out j u hj)
    case qc3 => exact one_Int l
    case qc4 => rw [Nat.zero_add]; unfold maxLen; omega
    case qc5 => rw [Nat.zero_add]; omega
    case qc6 => simp
    intro v' w1 hown hgrow hnil
    go_wp2
    go_ret
    exact ⟨v', rfl, by simpa using hown, ((Below.refl _ w).alloc (Nat.le_refl _) _).grown hgrow (by simp) (by intro k hk; simp [Value.ownBlock] at hk; omega)⟩
theorem clonedInt_any {w : World} {v : Value} {l : List Int} (h : kInt.R w v l) (hs : l.length ≤ 1000000) :
    Calls Try.prog 68 #[v] w fun e w' => ∃ v', e = .returned v' ∧ w'.ownsRow w.heap.size 3 1 v' l.length (l.flatMap (fun x : Int => [Value.int .i64 x])) ∧ Below w.heap.size w w' := by
  have HC := Lib.hid (CloneInt_any h hs)
  clear h
  go_enter Try.func68, Try.ntmps68
  go_wp2_with (go_at_call 105; (with_reducible refine HC.out.mono ?_); rintro e w' ⟨v', rfl, ho, hb⟩)
  go_ret
  exact ⟨_, rfl, ho, hb⟩
theorem info_Ins : (Try.prog.info? 56).map (fun i => (i.zero, i.size, i.bytes)) = some (some (.agg #[.int .u8 0, .int .i64 0, .int .i64 0, .int .i64 0, .int .i64 0]), 5, 40) := by kernel_rfl
theorem enc_Ins : ∀ x : InsV, (InsV.cells x).length = 5 := fun _ => rfl
theorem one_Ins (l : List InsV) : ∀ u ∈ l.flatMap InsV.cells, u.oneCell' = true := fun u hu => by
  obtain ⟨x, _, hx⟩ := List.mem_flatMap.1 hu
  simp [InsV.cells, List.mem_cons] at hx
  (repeat' (first | subst hx | (rcases hx with hx | hx))) <;> rfl
set_option maxHeartbeats 2000000 in
theorem CloneIns_any {w : World} {v : Value} {l : List InsV} (h : kIns.R w v l) (hs : l.length ≤ 1000000) :
    Calls Try.prog 106 #[v] w fun e w' => ∃ v', e = .returned v' ∧ w'.ownsRow w.heap.size 56 5 v' l.length (l.flatMap InsV.cells) ∧ Below w.heap.size w w' := by
  obtain ⟨A, c, rfl, _, _, hl⟩ := h.val
  obtain ⟨i0, hi, hz0, hz1, hz2⟩ := info_parts info_Ins
  have hlen := flatMap_len enc_Ins l
  have HL := Lib.hid hlen
  clear hlen
  have q22 : ∀ (w : World) (a : Option Addr) (n c n' c' : Nat), (binOp .eql 54 (.slice a n c) (.slice none n' c')).run Try.prog w = .ok (.bool a.isNone) w := fun w a n c n' c' => Lib.run_eql_slice_nil w _ _ a n c n' c' Try.underlying54
  cases A with
  | none =>
    have h0 : l.length = 0 := by
      obtain ⟨A', c', hv, _, _, _, hh⟩ := h
      by_cases hp : 0 < l.length
      · obtain ⟨b, o, hA, _⟩ := hh hp
        simp [hA] at hv
      · omega
    have H0 := Lib.hid h0
    clear h h0 hi hz0 hz1 hz2
    go_enter Try.func106, Try.ntmps106
    go_wp2
    go_ret
    exact ⟨_, rfl, ⟨HL.out, .inl ⟨rfl, H0.out⟩⟩, Below.refl _ _⟩
  | some ad =>
    have A := Lib.hid (R_cells enc_Ins h)
    clear h
    go_enter Try.func106, Try.ntmps106
    go_wp2_with (at_builtin; refine wpList_append_own _ rfl _ _ 54 rfl w.heap.size 56 i0 (.agg #[.int .u8 0, .int .i64 0, .int .i64 0, .int .i64 0, .int .i64 0]) 5 40 Try.underlying54 hi hz0 hz1 hz2 rfl (by decide) _ _ _ rfl (World.ownsRow_made w #[] 0 (Nat.le_refl _) (Nat.zero_le _) (by simp)) ad l.length c (l.flatMap InsV.cells) rfl ?qc1 ?qc2 ?qc3 ?qc4 ?qc5 ?qc6 ?_)
    case qc1 => exact HL.out
    case qc2 =>
      intro j u hj
      exact Lib.cell?_alloc_some _ (A.out j u hj)
    case qc3 => exact one_Ins l
    case qc4 => rw [Nat.zero_add]; unfold maxLen; omega
    case qc5 => rw [Nat.zero_add]; omega
    case qc6 => simp
    intro v' w1 hown hgrow hnil
    go_wp2
    go_ret
    exact ⟨v', rfl, by simpa using hown, ((Below.refl _ w).alloc (Nat.le_refl _) _).grown hgrow (by simp) (by intro k hk; simp [Value.ownBlock] at hk; omega)⟩
theorem clonedIns_any {w : World} {v : Value} {l : List InsV} (h : kIns.R w v l) (hs : l.length ≤ 1000000) :
    Calls Try.prog 69 #[v] w fun e w' => ∃ v', e = .returned v' ∧ w'.ownsRow w.heap.size 56 5 v' l.length (l.flatMap InsV.cells) ∧ Below w.heap.size w w' := by
  have HC := Lib.hid (CloneIns_any h hs)
  clear h
  go_enter Try.func69, Try.ntmps69
  go_wp2_with (go_at_call 106; (with_reducible refine HC.out.mono ?_); rintro e w' ⟨v', rfl, ho, hb⟩)
  go_ret
  exact ⟨_, rfl, ho, hb⟩
theorem info_Case : (Try.prog.info? 63).map (fun i => (i.zero, i.size, i.bytes)) = some (some (.agg #[.bool false, .int .i64 0, .int .i64 0, .int .i64 0]), 4, 32) := by kernel_rfl
theorem enc_Case : ∀ x : CaseV, (CaseV.cells x).length = 4 := fun _ => rfl
theorem one_Case (l : List CaseV) : ∀ u ∈ l.flatMap CaseV.cells, u.oneCell' = true := fun u hu => by
  obtain ⟨x, _, hx⟩ := List.mem_flatMap.1 hu
  simp [CaseV.cells, List.mem_cons] at hx
  (repeat' (first | subst hx | (rcases hx with hx | hx))) <;> rfl
set_option maxHeartbeats 2000000 in
theorem CloneCase_any {w : World} {v : Value} {l : List CaseV} (h : kCase.R w v l) (hs : l.length ≤ 1000000) :
    Calls Try.prog 107 #[v] w fun e w' => ∃ v', e = .returned v' ∧ w'.ownsRow w.heap.size 63 4 v' l.length (l.flatMap CaseV.cells) ∧ Below w.heap.size w w' := by
  obtain ⟨A, c, rfl, _, _, hl⟩ := h.val
  obtain ⟨i0, hi, hz0, hz1, hz2⟩ := info_parts info_Case
  have hlen := flatMap_len enc_Case l
  have HL := Lib.hid hlen
  clear hlen
  have q22 : ∀ (w : World) (a : Option Addr) (n c n' c' : Nat), (binOp .eql 64 (.slice a n c) (.slice none n' c')).run Try.prog w = .ok (.bool a.isNone) w := fun w a n c n' c' => Lib.run_eql_slice_nil w _ _ a n c n' c' Try.underlying64
  cases A with
  | none =>
    have h0 : l.length = 0 := by
      obtain ⟨A', c', hv, _, _, _, hh⟩ := h
      by_cases hp : 0 < l.length
      · obtain ⟨b, o, hA, _⟩ := hh hp
        simp [hA] at hv
      · omega
    have H0 := Lib.hid h0
    clear h h0 hi hz0 hz1 hz2
    go_enter Try.func107, Try.ntmps107
    go_wp2
    go_ret
    exact ⟨_, rfl, ⟨HL.out, .inl ⟨rfl, H0.out⟩⟩, Below.refl _ _⟩
  | some ad =>
    have A := Lib.hid (R_cells enc_Case h)
    clear h
    go_enter Try.func107, Try.ntmps107
    go_wp2_with (at_builtin; refine wpList_append_own _ rfl _ _ 64 rfl w.heap.size 63 i0 (.agg #[.bool false, .int .i64 0, .int .i64 0, .int .i64 0]) 4 32 Try.underlying64 hi hz0 hz1 hz2 rfl (by decide) _ _ _ rfl (World.ownsRow_made w #[] 0 (Nat.le_refl _) (Nat.zero_le _) (by simp)) ad l.length c (l.flatMap CaseV.cells) rfl ?qc1 ?qc2 ?qc3 ?qc4 ?qc5 ?qc6 ?_)
    case qc1 => exact HL.out
    case qc2 =>
      intro j u hj
      exact Lib.cell?_alloc_some _ (A.out j u hj)
    case qc3 => exact one_Case l
    case qc4 => rw [Nat.zero_add]; unfold maxLen; omega
    case qc5 => rw [Nat.zero_add]; omega
    case qc6 => simp
    intro v' w1 hown hgrow hnil
    go_wp2
    go_ret
    exact ⟨v', rfl, by simpa using hown, ((Below.refl _ w).alloc (Nat.le_refl _) _).grown hgrow (by simp) (by intro k hk; simp [Value.ownBlock] at hk; omega)⟩
theorem clonedCase_any {w : World} {v : Value} {l : List CaseV} (h : kCase.R w v l) (hs : l.length ≤ 1000000) :
    Calls Try.prog 70 #[v] w fun e w' => ∃ v', e = .returned v' ∧ w'.ownsRow w.heap.size 63 4 v' l.length (l.flatMap CaseV.cells) ∧ Below w.heap.size w w' := by
  have HC := Lib.hid (CloneCase_any h hs)
  clear h
  go_enter Try.func70, Try.ntmps70
  go_wp2_with (go_at_call 107; (with_reducible refine HC.out.mono ?_); rintro e w' ⟨v', rfl, ho, hb⟩)
  go_ret
  exact ⟨_, rfl, ho, hb⟩
end Go.Proofs.Ytljfloopjgpaeaa
