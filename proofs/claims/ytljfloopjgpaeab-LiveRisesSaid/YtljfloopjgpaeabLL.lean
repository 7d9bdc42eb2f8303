/- The plain law of lags: of a longer log, up to an end that is no less, no lag is less. -/
import Derived.Test.YtljfloopjgpaeabLJ
namespace Go.Proofs.Ytljfloopjgpaeab
set_option linter.unusedVariables false
set_option linter.unusedSimpArgs false
open Go.RowKit
theorem accV_ge (k : Nat) (l : List EntV) (fin : Int) : ∀ (xs : List (Nat × Int)) (a0 : Int), a0 ≤ accV k l fin a0 xs
  | [], a0 => Int.le_refl _
  | x :: xs, a0 => by
    have := accV_ge k l fin xs (max a0 (tillV k (l.drop (x.1 + 1)) (l.getD x.1 default).at_ x.2 fin))
    simp only [accV, List.foldl_cons] at this ⊢
    omega
theorem accV_mem (k : Nat) (l : List EntV) (fin : Int) : ∀ (xs : List (Nat × Int)) (a0 : Int) (x : Nat × Int), x ∈ xs → tillV k (l.drop (x.1 + 1)) (l.getD x.1 default).at_ x.2 fin ≤ accV k l fin a0 xs
  | [], _, _, h => by cases h
  | y :: xs, a0, x, h => by
    rcases List.mem_cons.1 h with rfl | h
    · have := accV_ge k l fin xs (max a0 (tillV k (l.drop (x.1 + 1)) (l.getD x.1 default).at_ x.2 fin))
      simp only [accV, List.foldl_cons] at this ⊢
      omega
    · exact accV_mem k l fin xs (max a0 (tillV k (l.drop (y.1 + 1)) (l.getD y.1 default).at_ y.2 fin)) x h
theorem accV_le (k : Nat) (l : List EntV) (fin B : Int) : ∀ (xs : List (Nat × Int)) (a0 : Int), a0 ≤ B → (∀ x ∈ xs, tillV k (l.drop (x.1 + 1)) (l.getD x.1 default).at_ x.2 fin ≤ B) → accV k l fin a0 xs ≤ B
  | [], _, h, _ => h
  | y :: xs, a0, h, hx => accV_le k l fin B xs (max a0 (tillV k (l.drop (y.1 + 1)) (l.getD y.1 default).at_ y.2 fin)) (by have := hx y (List.mem_cons_self ..); omega) (fun x h => hx x (List.mem_cons_of_mem _ h))
theorem till_mono (k : Nat) (l1 l3 : List EntV) (frm who e1 e2 : Int) (h1 : frm ≤ e1) (h2 : e1 ≤ e2) (h3 : ∀ x ∈ l3, e1 ≤ x.at_) : tillV k l1 frm who e1 ≤ tillV k (l1 ++ l3) frm who e2 := by
  unfold tillV
  rw [List.find?_append]
  cases hf : l1.find? (fun x => endB k x who) with
  | some x => exact Int.le_refl _
  | none =>
    simp only [Option.none_or]
    cases hg : l3.find? (fun x => endB k x who) with
    | some y =>
      have := h3 y (List.mem_of_find?_eq_some hg)
      simp only
      omega
    | none => simp only; omega
theorem till_nn (l : List EntV) (who e : Int) (h : ∀ x ∈ l, 0 ≤ x.at_) : 0 ≤ tillV 0 l 0 who e := by
  unfold tillV
  cases hf : l.find? (fun x => endB 0 x who) with
  | some x => have := h x (List.mem_of_find?_eq_some hf); simp only; omega
  | none => simp only; omega
theorem getD_take {l : List EntV} {k i : Nat} (h : i < k) : (l.take k).getD i default = l.getD i default := by
  simp [List.getD_eq_getElem?_getD, List.getElem?_take, h]
theorem leftW_take (l : List EntV) (t : Int) (k : Nat) : ∀ i, i ≤ k → leftW (l.take k) t i = leftW l t i
  | 0, _ => rfl
  | i + 1, h => by simp only [leftW]; rw [getD_take (by omega), leftW_take l t k i (by omega)]
theorem begB_take (j : Nat) (l : List EntV) {k i : Nat} (h : i < k) : begB j (l.take k) i = begB j l i := by
  match j with
  | 0 => simp only [begB]; rw [getD_take h]
  | 1 => simp only [begB]; rw [getD_take h]
  | 2 => simp only [begB]; rw [getD_take h]; simp only [leftB]; rw [leftW_take l _ k i (by omega)]
  | j + 3 => simp only [begB]; rw [getD_take h]
theorem mem_open {j : Nat} {l : List EntV} {n : Nat} {x : Nat × Int} : x ∈ openL j l n ↔ x.1 < n ∧ begB j l x.1 = some x.2 := by
  simp only [openL, List.mem_filterMap, List.mem_range, Option.map_eq_some_iff]
  constructor
  · rintro ⟨i, h1, w, h2, rfl⟩; exact ⟨h1, h2⟩
  · rintro ⟨h1, h2⟩; exact ⟨x.1, h1, x.2, h2, rfl⟩
/-- Times do not fall. -/
theorem MayTo.le {l : List EntV} (h : MayTo l l.length) : ∀ (d i : Nat) (hi : i + d < l.length), l[i].at_ ≤ l[i + d].at_
  | 0, _, _ => Int.le_refl _
  | d + 1, i, hi => Int.le_trans (MayTo.le h d i (by omega)) ((h (i + d + 1) (by omega) (by omega)).2 (i + d) (by omega) rfl)
def endOf (l : List EntV) (k : Nat) : Int := if 0 < k then (l.getD (k - 1) default).at_ else 0
section
variable {l : List EntV} (h : MayTo l l.length) {k : Nat} (hk : k ≤ l.length)
include h hk
theorem end_nn : 0 ≤ endOf l k := by
  unfold endOf
  split
  · rw [List.getD_eq_getElem?_getD, List.getElem?_eq_getElem (show k - 1 < l.length by omega)]
    exact (h (k - 1) (by omega) (by omega)).1.1
  · exact Int.le_refl _
theorem end_ge {i : Nat} (hi : i < k) : (l.getD i default).at_ ≤ endOf l k := by
  unfold endOf
  rw [if_pos (by omega), List.getD_eq_getElem?_getD, List.getD_eq_getElem?_getD, List.getElem?_eq_getElem (show k - 1 < l.length by omega), List.getElem?_eq_getElem (show i < l.length by omega)]
  have := h.le (k - 1 - i) i (by omega)
  simp only [show i + (k - 1 - i) = k - 1 by omega] at this
  exact this
theorem end_le : ∀ x ∈ l.drop k, endOf l k ≤ x.at_ := fun x hx => by
  obtain ⟨i, hi, rfl⟩ := List.getElem_of_mem hx
  rw [List.length_drop] at hi
  rw [List.getElem_drop]
  unfold endOf
  split
  · rw [List.getD_eq_getElem?_getD, List.getElem?_eq_getElem (show k - 1 < l.length by omega)]
    have := h.le (i + 1) (k - 1) (by omega)
    simp only [show k - 1 + (i + 1) = k + i by omega] at this
    exact this
  · exact (h (k + i) (by omega) (by omega)).1.1
omit hk in
theorem take_nn : ∀ x ∈ l.take k, 0 ≤ x.at_ := fun x hx => by
  obtain ⟨i, hi, rfl⟩ := List.getElem_of_mem (List.mem_of_mem_take hx)
  exact (h i hi hi).1.1
/-- Of a longer log no lag is less. -/
theorem of_rises (j : Nat) (e2 : Int) (he : endOf l k ≤ e2) : ofV j (l.take k) (endOf l k) ≤ ofV j l e2 := by
  have hl : (l.take k).length = k := by simp; omega
  refine accV_le j (l.take k) _ _ _ _ ?_ fun x hx => ?_
  · refine Int.le_trans ?_ (accV_ge j l e2 _ _)
    unfold stV
    split
    · have := till_mono 0 (l.take k) (l.drop k) 0 0 (endOf l k) e2 (end_nn h hk) he (end_le h hk)
      rwa [List.take_append_drop] at this
    · exact Int.le_refl _
  · obtain ⟨h1, h2⟩ := mem_open.1 hx
    rw [hl] at h1
    rw [begB_take j l h1] at h2
    refine Int.le_trans ?_ (accV_mem j l e2 _ _ x (mem_open.2 ⟨by omega, h2⟩))
    rw [getD_take h1]
    have := till_mono j ((l.take k).drop (x.1 + 1)) (l.drop k) (l.getD x.1 default).at_ x.2 (endOf l k) e2 (end_ge h hk h1) he (end_le h hk)
    have ha : (l.take k).drop (x.1 + 1) ++ l.drop k = l.drop (x.1 + 1) := by
      rw [List.drop_take]
      have : l.drop k = (l.drop (x.1 + 1)).drop (k - (x.1 + 1)) := by rw [List.drop_drop]; congr 1; omega
      rw [this, List.take_append_drop]
    rwa [ha] at this
/-- Up to a later end no lag is less. -/
theorem of_later (j : Nat) (e2 : Int) (he : endOf l k ≤ e2) : ofV j (l.take k) (endOf l k) ≤ ofV j (l.take k) e2 := by
  have hl : (l.take k).length = k := by simp; omega
  refine accV_le j (l.take k) _ _ _ _ ?_ fun x hx => ?_
  · refine Int.le_trans ?_ (accV_ge j (l.take k) e2 _ _)
    unfold stV
    split
    · have := till_mono 0 (l.take k) [] 0 0 (endOf l k) e2 (end_nn h hk) he (fun x hx => by cases hx)
      rwa [List.append_nil] at this
    · exact Int.le_refl _
  · have h1 := (mem_open.1 hx).1
    rw [hl] at h1
    refine Int.le_trans ?_ (accV_mem j (l.take k) e2 _ _ x hx)
    have := till_mono j ((l.take k).drop (x.1 + 1)) [] ((l.take k).getD x.1 default).at_ x.2 (endOf l k) e2 (by rw [getD_take h1]; exact end_ge h hk h1) he (fun x hx => by cases hx)
    rwa [List.append_nil] at this
omit hk in
theorem of_nn (j : Nat) (e : Int) : 0 ≤ ofV j (l.take k) e := by
  refine Int.le_trans ?_ (accV_ge j (l.take k) e _ _)
  unfold stV
  split
  · exact till_nn _ _ _ (take_nn h)
  · exact Int.le_refl _
end
theorem mx_up {a c : Int} (h0 : 0 ≤ a) (h : a ≤ c) : mx (mx 0 a) c = c ∧ mx (mx 0 c) a = c := by
  unfold mx
  constructor <;> (repeat' split) <;> omega
end Go.Proofs.Ytljfloopjgpaeab
