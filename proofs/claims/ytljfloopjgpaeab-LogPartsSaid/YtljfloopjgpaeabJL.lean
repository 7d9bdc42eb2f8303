/- The plain law of tollbarlaw15.LogParts. -/
import Derived.Test.YtljfloopjgpaeabEK
namespace Go.Proofs.Ytljfloopjgpaeab
set_option linter.unusedVariables false
set_option linter.unusedSimpArgs false
namespace Lg
/-- Does a kind name a task, and another one? -/
def n1 (k : Int) : Bool := k != 26
def n2 (k : Int) : Bool := k == 3 || (k == 4 || (k == 6 || (k == 9 || k == 11)))
def ofB (t : Int) (x : EntV) : Bool := (n1 x.kind && x.task == t) || (n2 x.kind && x.peer == t)
def comB (x : EntV) : Bool := decide (1 ≤ x.kind) && decide (x.kind ≤ 11)
def endedB (L : List EntV) : Bool := match L.reverse.find? comB with | some x => x.kind == 11 | none => false
def endB (L : List EntV) : Int := match L.reverse.head? with | some x => x.at_ | none => -1
def putE (L : List EntV) (x : EntV) : Int := if entB x = false ∨ x.at_ < endB L then 2 else if endedB L = true then 6 else 0
def putL (L : List EntV) (x : EntV) : List EntV := if putE L x = 0 then L ++ [x] else L
/-- What the log has behind the first k. -/
def logOf (l : List EntV) (k : Nat) : List EntV := (l.take k).foldl putL []
theorem logOf_zero (l : List EntV) : logOf l 0 = [] := rfl
theorem logOf_succ {l : List EntV} {k : Nat} (h : k < l.length) : logOf l (k + 1) = putL (logOf l k) l[k] := by
  unfold logOf
  rw [List.take_succ_eq_append_getElem h, List.foldl_append]
  rfl
theorem putL_len (L : List EntV) (x : EntV) : (putL L x).length ≤ L.length + 1 := by
  unfold putL
  split <;> simp
theorem logOf_len (l : List EntV) : ∀ k, (logOf l k).length ≤ k
  | 0 => by simp [logOf]
  | k + 1 => by
    by_cases h : k < l.length
    · rw [logOf_succ h]
      have := putL_len (logOf l k) l[k]
      have := logOf_len l k
      omega
    · have e : l.take (k + 1) = l.take k := by rw [List.take_of_length_le (by omega), List.take_of_length_le (by omega)]
      unfold logOf
      rw [e]
      have := logOf_len l k
      unfold logOf at this
      omega
theorem putL_sub (L : List EntV) (x : EntV) : ∀ y ∈ putL L x, y ∈ L ∨ y = x := by
  unfold putL
  split
  · intro y hy
    rcases List.mem_append.1 hy with h | h
    · exact .inl h
    · exact .inr (List.mem_singleton.1 h)
  · exact fun y hy => .inl hy
theorem logOf_sub (l : List EntV) : ∀ k, ∀ x ∈ logOf l k, x ∈ l
  | 0 => by simp [logOf]
  | k + 1 => by
    by_cases h : k < l.length
    · rw [logOf_succ h]
      intro x hx
      rcases putL_sub _ _ x hx with h1 | h1
      · exact logOf_sub l k x h1
      · rw [h1]; exact List.getElem_mem h
    · have e : l.take (k + 1) = l.take k := by rw [List.take_of_length_le (by omega), List.take_of_length_le (by omega)]
      have := logOf_sub l k
      unfold logOf at this ⊢
      rw [e]; exact this
/-- All may be, and each is no earlier than the one ahead of it. -/
structure Good (L : List EntV) : Prop where
  may : ∀ x ∈ L, entB x = true
  ord : ∀ i (h : i + 1 < L.length), (L[i]'(by omega)).at_ ≤ L[i + 1].at_
theorem good_nil : Good [] := ⟨by simp, fun i h => by simp at h⟩
theorem endB_snoc (L : List EntV) (x : EntV) : endB (L ++ [x]) = x.at_ := by simp [endB]
theorem putE_zero {L : List EntV} {x : EntV} (h : putE L x = 0) : entB x = true ∧ endB L ≤ x.at_ := by
  unfold putE at h
  split at h
  · cases h
  · rename_i h1
    refine ⟨?_, by omega⟩
    cases hx : entB x
    · exact absurd (Or.inl hx) h1
    · rfl
theorem Good.put {L : List EntV} (h : Good L) (x : EntV) : Good (putL L x) := by
  unfold putL
  split
  · rename_i h0
    obtain ⟨h1, h2⟩ := putE_zero h0
    refine ⟨fun y hy => ?_, fun i hi => ?_⟩
    · rcases List.mem_append.1 hy with hy | hy
      · exact h.may y hy
      · rw [List.mem_singleton.1 hy]; exact h1
    · simp only [List.length_append, List.length_singleton] at hi
      by_cases hl : i + 1 < L.length
      · rw [List.getElem_append_left (by omega), List.getElem_append_left hl]
        exact h.ord i hl
      · have e : i + 1 = L.length := by omega
        rw [List.getElem_append_left (by omega), List.getElem_append_right (by omega)]
        have he : endB L = (L[i]'(by omega)).at_ := by
          have hd : L.reverse.head? = some (L[i]'(by omega)) := by
            rw [List.head?_reverse, List.getLast?_eq_getElem?, List.getElem?_eq_getElem (by omega)]
            congr 2
            omega
          unfold endB
          rw [hd]
        rw [← he]
        simpa [e] using h2
  · exact h
theorem good_log (l : List EntV) : ∀ k, Good (logOf l k)
  | 0 => good_nil
  | k + 1 => by
    by_cases h : k < l.length
    · rw [logOf_succ h]; exact (good_log l k).put _
    · have e : l.take (k + 1) = l.take k := by rw [List.take_of_length_le (by omega), List.take_of_length_le (by omega)]
      have := good_log l k
      unfold logOf at this ⊢
      rw [e]; exact this
def btwB (a b : Int) (x : EntV) : Bool := decide (x.at_ ≥ a) && decide (x.at_ < b)
def topB (x : EntV) : Bool := decide (x.at_ = 9223372036854775807)
theorem three_parts (p : Int) (hp : p ≤ 9223372036854775807) : ∀ (L : List EntV), (∀ x ∈ L, 0 ≤ x.at_ ∧ x.at_ ≤ 9223372036854775807) →
    (L.filter (btwB 0 p)).length + (L.filter (btwB (max p 0) 9223372036854775807)).length + (L.filter topB).length = L.length
  | [], _ => rfl
  | x :: L, h => by
    have ih := three_parts p hp L fun y hy => h y (List.mem_cons_of_mem _ hy)
    obtain ⟨h1, h2⟩ := h x (List.mem_cons_self ..)
    rw [List.filter_cons, List.filter_cons, List.filter_cons]
    by_cases c1 : x.at_ < p
    · have e1 : btwB 0 p x = true := by simp [btwB]; omega
      have e2 : btwB (max p 0) 9223372036854775807 x = false := by simp [btwB]; omega
      have e3 : topB x = false := by simp [topB]; omega
      rw [e1, e2, e3]
      simp only [if_true, List.length_cons, Bool.false_eq_true, if_false]
      omega
    · by_cases c2 : x.at_ = 9223372036854775807
      · have e1 : btwB 0 p x = false := by simp [btwB]; omega
        have e2 : btwB (max p 0) 9223372036854775807 x = false := by simp [btwB]; omega
        have e3 : topB x = true := by simp [topB]; omega
        rw [e1, e2, e3]
        simp only [if_true, List.length_cons, Bool.false_eq_true, if_false]
        omega
      · have e1 : btwB 0 p x = false := by simp [btwB]; omega
        have e2 : btwB (max p 0) 9223372036854775807 x = true := by simp [btwB]; omega
        have e3 : topB x = false := by simp [topB]; omega
        rw [e1, e2, e3]
        simp only [if_true, List.length_cons, Bool.false_eq_true, if_false]
        omega
/-- The next one of a part: how far the part goes in the first i of the whole. -/
def part (f : EntV → Bool) (L : List EntV) (i : Nat) : Nat := ((L.take i).filter f).length
theorem part_zero (f : EntV → Bool) (L : List EntV) : part f L 0 = 0 := rfl
theorem part_succ (f : EntV → Bool) {L : List EntV} {i : Nat} (h : i < L.length) : part f L (i + 1) = part f L i + (if f L[i] = true then 1 else 0) := by
  unfold part
  rw [List.take_succ_eq_append_getElem h, List.filter_append, List.length_append, List.filter_cons]
  split <;> simp
theorem part_all (f : EntV → Bool) (L : List EntV) : part f L L.length = (L.filter f).length := by unfold part; rw [List.take_length]
theorem part_le (f : EntV → Bool) (L : List EntV) (i : Nat) : part f L i ≤ (L.filter f).length := ((List.take_sublist i L).filter f).length_le
theorem part_at (f : EntV → Bool) {L : List EntV} {i : Nat} (h : i < L.length) (hf : f L[i] = true) : (L.filter f)[part f L i]? = some L[i] := by
  have e : L.filter f = (L.take i).filter f ++ (L.drop i).filter f := by rw [← List.filter_append, List.take_append_drop]
  rw [e, show part f L i = ((L.take i).filter f).length from rfl, List.getElem?_append_right (Nat.le_refl _), Nat.sub_self, List.drop_eq_getElem_cons h, List.filter_cons, if_pos hf]
  rfl
theorem part_miss (f : EntV → Bool) {L : List EntV} {i k : Nat} (h : i < L.length) (hk : k < (L.filter f).length) (hf : f L[i] = false) : L[i] ≠ (L.filter f)[k] := by
  intro e
  have := (List.mem_filter.1 (List.getElem_mem hk)).2
  rw [← e, hf] at this
  cases this
end Lg
end Go.Proofs.Ytljfloopjgpaeab
