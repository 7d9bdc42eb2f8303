/- A region that draws its order, by an invariant of what is listed: for map literals, whose insertions come in whatever order. Nothing of the dump is named here. -/
import Derived.WalkKit
import Derived.Orders
import Derived.Below
namespace Go.Proofs.YtljfloopjgpaeabDoor
set_option linter.unusedVariables false
set_option linter.unusedSimpArgs false
open Go.RowKit
namespace Lv

/-- How many are not listed yet. -/
def left (L : Array Bool) : Nat → Nat
  | 0 => 0
  | n + 1 => left L n + if L.getD n true = true then 0 else 1
theorem set_ne {L : Array Bool} {i j : Nat} (h : j ≠ i) (d : Bool) : (L.setIfInBounds i true).getD j d = L.getD j d := by
  simp only [Array.getD_eq_getD_getElem?, Array.getElem?_setIfInBounds]
  rw [if_neg (fun e => h e.symm)]
theorem set_at {L : Array Bool} {i : Nat} (h : i < L.size) (d : Bool) : (L.setIfInBounds i true).getD i d = true := by
  simp [Array.getD_eq_getD_getElem?, Array.getElem?_setIfInBounds, h]
theorem left_set_le {L : Array Bool} {i : Nat} : ∀ n, n ≤ i → left (L.setIfInBounds i true) n = left L n
  | 0, _ => rfl
  | n + 1, h => by
    simp only [left]
    rw [left_set_le n (by omega), set_ne (by omega)]
theorem left_set {L : Array Bool} {i : Nat} (hs : i < L.size) (h : L.getD i true = false) : ∀ n, i < n → left (L.setIfInBounds i true) n + 1 = left L n
  | n + 1, hn => by
    simp only [left]
    by_cases e : i = n
    · subst e
      rw [left_set_le i (Nat.le_refl _), set_at hs, h]
      simp
    · have := left_set hs h n (by omega)
      rw [set_ne (by omega)]
      omega
theorem left_le (L : Array Bool) : ∀ n, left L n ≤ n
  | 0 => Nat.le_refl _
  | n + 1 => by
    simp only [left]
    have := left_le L n
    split <;> omega
theorem left_zero {L : Array Bool} : ∀ n, left L n = 0 → ∀ i, i < n → L.getD i true = true
  | n + 1, h, i, hi => by
    simp only [left] at h
    by_cases e : i = n
    · subst e
      by_cases hh : L.getD i true = true
      · exact hh
      · rw [if_neg hh] at h; omega
    · exact left_zero n (by omega) i (by omega)
theorem getD_both {L : Array Bool} {i : Nat} (h : i < L.size) (c d : Bool) : L.getD i c = L.getD i d := by
  simp [Array.getD_eq_getD_getElem?, h]

section
variable {P : Program} {ops : Array Oper} {Q : Exit → Act → World → Prop} {md : Region.Mode}
theorem ready_iff {L : Array Bool} {i : Nat} : i ∈ Region.ready md ops L ↔ ∃ o, ops[i]? = some o ∧ L.getD i true = false ∧ ∀ e ∈ o.after, Region.binds md e = true → L.getD e.on false = true := by
  unfold Region.ready
  rw [List.mem_filter]
  constructor
  · rintro ⟨h1, h2⟩
    rw [List.mem_range] at h1
    rw [Array.getElem?_eq_getElem h1] at h2 ⊢
    simp only [Bool.and_eq_true, Bool.not_eq_true', Option.map_some, Option.getD_some] at h2
    refine ⟨_, rfl, h2.1, fun e he hb => ?_⟩
    have := Array.all_eq_true_iff_forall_mem.1 h2.2 e he
    simpa [hb] using this
  · rintro ⟨o, h1, h2, h3⟩
    have hi := (Array.getElem?_eq_some_iff.1 h1).1
    refine ⟨List.mem_range.2 hi, ?_⟩
    rw [h1]
    simp only [Bool.and_eq_true, Bool.not_eq_true', Option.map_some, Option.getD_some, h2, true_and]
    refine Array.all_eq_true_iff_forall_mem.2 fun e he => ?_
    cases hb : Region.binds md e
    · simp
    · simp [h3 e he hb]
/-- Nothing may come up: all are listed. -/
theorem all_listed (hdep : ∀ (i : Nat) (o : Oper), ops[i]? = some o → ∀ e ∈ o.after, e.on < i) {L : Array Bool} (hs : L.size = ops.size) (h : Region.ready md ops L = []) : ∀ i, i < ops.size → L.getD i false = true := fun i => by
  induction i using Nat.strongRecOn with
  | ind i ih =>
    intro hi
    cases hg : L.getD i false
    · exfalso
      have : i ∈ Region.ready md ops L := ready_iff.2 ⟨_, Array.getElem?_eq_getElem hi, (getD_both (by omega) true false).trans hg, fun e he _ => ih _ (hdep i _ (Array.getElem?_eq_getElem hi) e he) (Nat.lt_trans (hdep i _ (Array.getElem?_eq_getElem hi) e he) hi)⟩
      rw [h] at this
      cases this
    · rfl
theorem wpAny_inv {I : Array Bool → Act → World → Prop} (hdep : ∀ (i : Nat) (o : Oper), ops[i]? = some o → ∀ e ∈ o.after, e.on < i)
    (hstep : ∀ (L : Array Bool) (a : Act) (w : World) (i : Nat) (o : Oper), L.size = ops.size → I L a w → ops[i]? = some o → L.getD i true = false → (∀ e ∈ o.after, Region.binds md e = true → L.getD e.on false = true) → wpOp P ops Q i (fun a' w' => I (L.setIfInBounds i true) a' w') a w)
    (hdone : ∀ L a w, I L a w → (∀ i, i < ops.size → L.getD i false = true) → Q .normal a w) :
    ∀ fuel L a w, L.size = ops.size → left L ops.size ≤ fuel → I L a w → wpAny P md ops Q fuel L a w
  | 0, L, a, w, hs, hf, hi => by
    have hall : ∀ i, i < ops.size → L.getD i true = true := left_zero _ (by omega)
    refine ⟨?_, hdone L a w hi (fun i h => (getD_both (by omega) false true).trans (hall i h))⟩
    cases hr : Region.ready md ops L with
    | nil => rfl
    | cons i r =>
      have : i ∈ Region.ready md ops L := by rw [hr]; exact List.mem_cons_self
      obtain ⟨o, h1, h2, _⟩ := ready_iff.1 this
      rw [hall i (Array.getElem?_eq_some_iff.1 h1).1] at h2
      cases h2
  | fuel + 1, L, a, w, hs, hf, hi => by
    refine ⟨fun h0 => hdone L a w hi (all_listed hdep hs h0), fun i h => ?_⟩
    obtain ⟨o, h1, h2, h3⟩ := ready_iff.1 h
    have hlt := (Array.getElem?_eq_some_iff.1 h1).1
    refine wpOp_mono (fun a' w' h' => ?_) (hstep L a w i o hs hi h1 h2 h3)
    have := left_set (by omega) h2 ops.size hlt
    exact wpAny_inv hdep hstep hdone fuel _ a' w' (by simpa using hs) (by omega) h'

theorem wpOp_val {i : Nat} {o : Oper} {K : Act → World → Prop} {a : Act} {w w' : World} {v : Value} (h : ops[i]? = some o) (hg : o.guard = none) (hr : (execOp a.eval o).run P w = .ok (.value v) w') (hk : K (a.put o.dst v) w') : wpOp P ops Q i K a w := by
  unfold wpOp
  rw [h]
  have hw : Region.wanted o (yielded ops a.tmps) = true := by simp [Region.wanted, hg]
  simp only [hw, if_true]
  refine .inl ?_
  unfold Oper.wp
  rw [hr]
  exact hk
theorem wpOp_skip {i : Nat} {o : Oper} {K : Act → World → Prop} {a : Act} {w w' : World} (h : ops[i]? = some o) (hg : o.guard = none) (hr : (execOp a.eval o).run P w = .ok .skip w') (hk : K (a.put o.dst undef) w') : wpOp P ops Q i K a w := by
  unfold wpOp
  rw [h]
  have hw : Region.wanted o (yielded ops a.tmps) = true := by simp [Region.wanted, hg]
  simp only [hw, if_true]
  refine .inl ?_
  unfold Oper.wp
  rw [hr]
  exact hk
end

/-- What an operation waits for, as numbers. -/
def waits (ops : Array Oper) (i : Nat) : List Nat := ((ops[i]?).map (fun o => (o.after.toList.filter (Region.binds .any)).map (·.on))).getD []
def depsOk (ops : Array Oper) : Bool := (List.range ops.size).all fun i => ((ops[i]?).map (fun o => o.after.all fun e => decide (e.on < i))).getD true
theorem deps_of {ops : Array Oper} (h : depsOk ops = true) (i : Nat) (o : Oper) (ho : ops[i]? = some o) : ∀ e ∈ o.after, e.on < i := fun e he => by
  unfold depsOk at h
  rw [List.all_eq_true] at h
  have := h i (List.mem_range.2 (Array.getElem?_eq_some_iff.1 ho).1)
  rw [ho] at this
  simp only [Option.map_some, Option.getD_some] at this
  exact of_decide_eq_true (Array.all_eq_true_iff_forall_mem.1 this e he)
/-- A region that draws its order, by an invariant. -/
theorem regionI {P : Program} {id : Nat} {Q : Exit → Act → World → Prop} {a : Act} {w : World} {l : List Oper} (I : Array Bool → Act → World → Prop) (hm : P.follows .mixedOrders = true) {n : Nat} (hlen : l.toArray.size = n) (hdep : depsOk l.toArray = true)
    (h0 : I (Array.replicate n false) a w.drew)
    (hstep : ∀ (O : Array Oper), O = l.toArray → ∀ L a w i, i < n → L.size = n → I L a w → L.getD i false = false → (∀ j ∈ waits O i, L.getD j false = true) → wpOp P O Q i (fun a' w' => I (L.setIfInBounds i true) a' w') a w)
    (hdone : ∀ L a w, I L a w → (∀ i, i < n → L.getD i false = true) → Q .normal a w) : (Code.region id l.toArray true).wp P Q a w := by
  subst hlen
  refine wp_region_any hm (wpAny_inv (I := I) (deps_of hdep) (fun L a w i o hs hi ho hL hd => ?_) hdone _ _ _ _ (by simp) ?_ h0)
  · have hlt := (Array.getElem?_eq_some_iff.1 ho).1
    refine hstep _ rfl L a w i hlt hs hi ((getD_both (by omega) false true).trans hL) (fun j hj => ?_)
    unfold waits at hj
    rw [ho] at hj
    simp only [Option.map_some, Option.getD_some, List.mem_map, List.mem_filter] at hj
    obtain ⟨e, ⟨h1, h2⟩, rfl⟩ := hj
    exact hd e (Array.mem_toList_iff.1 h1) h2
  · exact left_le _ _

theorem put_at {a : Act} {d : Nat} {v : Value} (h : d < a.tmps.size) : (a.put (some d) v).tmps.getD d undef = v := by
  simp [Act.put, Array.getD_eq_getD_getElem?, Array.getElem?_setIfInBounds, h]
theorem put_ne {a : Act} {d k : Nat} {v : Value} (h : k ≠ d) : (a.put (some d) v).tmps.getD k undef = a.tmps.getD k undef := by
  simp only [Act.put, Array.getD_eq_getD_getElem?, Array.getElem?_setIfInBounds]
  rw [if_neg (fun e => h e.symm)]
theorem put_size (a : Act) (d : Option Tmp) (v : Value) : (a.put d v).tmps.size = a.tmps.size := by cases d <;> simp [Act.put]
theorem put_defers (a : Act) (d : Option Tmp) (v : Value) : (a.put d v).defers = a.defers := by cases d <;> rfl
end Lv
end Go.Proofs.YtljfloopjgpaeabDoor
