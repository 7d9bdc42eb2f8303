/- The plain law of orders: who is taken goes behind all; who is passed over moves one ahead. -/
import Derived.Test.YtljfloopjgpaeaaSF
namespace Go.Proofs.Ytljfloopjgpaeaa
set_option linter.unusedVariables false
set_option linter.unusedSimpArgs false
open Go.RowKit
/-- An order of n cases; where each stands. -/
structure Perm (a : Nat → Int) (n : Nat) (p : Nat → Nat) : Prop where
  lt : ∀ c, c < n → p c < n
  eq : ∀ c, c < n → a (p c) = (c : Int)
  of : ∀ i, i < n → ∃ c, c < n ∧ a i = (c : Int) ∧ p c = i
theorem Perm.rise (n : Nat) : Perm (riseF n) n (fun c => c) := ⟨fun _ h => h, fun c h => by simp [riseF, h], fun i h => ⟨i, h, by simp [riseF, h], rfl⟩⟩
theorem Perm.inj {a : Nat → Int} {n : Nat} {p : Nat → Nat} (h : Perm a n p) {i j : Nat} (hi : i < n) (hj : j < n) (e : a i = a j) : i = j := by
  obtain ⟨c, _, h1, h2⟩ := h.of i hi
  obtain ⟨d, _, h3, h4⟩ := h.of j hj
  have : c = d := by omega
  subst this
  omega
def tookP (p : Nat → Nat) (n j c x : Nat) : Nat := if x = c then n - 1 else if j < p x then p x - 1 else p x
theorem Perm.took {a : Nat → Int} {n : Nat} {p : Nat → Nat} (h : Perm a n p) {j c : Nat} (hj : j < n) (hc : c < n) (hp : p c = j) : Perm (tookF a n j c) n (tookP p n j c) := by
  have hne : ∀ x, x < n → x ≠ c → p x ≠ j := fun x hx hxc e => hxc (by
    have h1 := h.eq x hx
    have h2 := h.eq c hc
    rw [e] at h1
    rw [hp] at h2
    omega)
  refine ⟨fun x hx => ?_, fun x hx => ?_, fun i hi => ?_⟩
  · have := h.lt x hx
    unfold tookP
    split
    · omega
    · split <;> omega
  · have hl := h.lt x hx
    have he := h.eq x hx
    unfold tookP tookF upF
    by_cases e : x = c
    · subst e; simp
    · rw [if_neg e]
      have hx2 := hne x hx e
      by_cases g : j < p x
      · rw [if_pos g, if_neg (by omega), if_neg (by omega), if_pos (by omega), show p x - 1 + 1 = p x by omega]
        exact he
      · rw [if_neg g, if_neg (by omega), if_pos (by omega)]
        exact he
  · unfold tookF upF
    by_cases e : i = n - 1
    · exact ⟨c, hc, by rw [if_pos e], by simp [tookP, e]⟩
    · rw [if_neg e]
      by_cases g : i < j
      · obtain ⟨d, h1, h2, h3⟩ := h.of i hi
        refine ⟨d, h1, by rw [if_pos g]; exact h2, ?_⟩
        unfold tookP
        rw [if_neg (by intro e2; subst e2; omega), if_neg (by omega), h3]
      · obtain ⟨d, h1, h2, h3⟩ := h.of (i + 1) (by omega)
        refine ⟨d, h1, by rw [if_neg g, if_pos (by omega)]; exact h2, ?_⟩
        unfold tookP
        rw [if_neg (by intro e2; subst e2; omega), if_pos (by omega), h3]
        omega
/-- What a pick tells of an order. -/
theorem Perm.pick {a : Nat → Int} {n : Nat} {p : Nat → Nat} (h : Perm a n p) {s x : Int} (hx : PickR a n s x true) : ∃ c : Nat, c < n ∧ x = (c : Int) ∧ hasB s x = true ∧ ∀ k, k < n → hasB s (k : Int) = true → p c ≤ p k := by
  rcases hx with ⟨_, j, h1, rfl, h3, h4⟩ | ⟨h1, _⟩
  · obtain ⟨c, g1, g2, g3⟩ := h.of j h1
    refine ⟨c, g1, g2, h3, fun k hk hb => ?_⟩
    refine Nat.le_of_not_lt fun hlt => ?_
    have := h4 (p k) (by omega)
    rw [h.eq k hk, hb] at this
    cases this
  · cases h1
theorem Perm.none {a : Nat → Int} {n : Nat} {p : Nat → Nat} (h : Perm a n p) {s x : Int} (hx : PickR a n s x false) : ∀ k : Nat, k < n → hasB s (k : Int) = false := by
  rcases hx with ⟨h1, _⟩ | ⟨_, _, h2⟩
  · cases h1
  · intro k hk
    have := h2 (p k) (h.lt k hk)
    rwa [h.eq k hk] at this
/-- What stays: how often a case was passed over, and how many stand ahead of it. -/
def Pass (p : Nat → Nat) (n k m : Nat) : Prop := m + p k ≤ n - 1
theorem Pass.self {p : Nat → Nat} {n j k : Nat} : Pass (tookP p n j k) n k 0 := by simp [Pass, tookP]
theorem Pass.over {p : Nat → Nat} {n c k m : Nat} (h : Pass p n k m) (hne : k ≠ c) (hle : p c ≤ p k) (hpe : p k ≠ p c) : Pass (tookP p n (p c) c) n k (m + 1) := by
  unfold Pass tookP at *
  rw [if_neg hne, if_pos (by omega)]
  omega
theorem Pass.other {p : Nat → Nat} {n j c k m : Nat} (h : Pass p n k m) (hne : k ≠ c) : Pass (tookP p n j c) n k m := by
  unfold Pass tookP at *
  rw [if_neg hne]
  split <;> omega
theorem Perm.ne {a : Nat → Int} {n : Nat} {p : Nat → Nat} (h : Perm a n p) {c k : Nat} (hc : c < n) (hk : k < n) (hne : k ≠ c) : p k ≠ p c := fun e => hne (by
  have h1 := h.eq k hk
  have h2 := h.eq c hc
  rw [e] at h1
  omega)
theorem ordL_getD (a : Nat → Int) {n k : Nat} (hk : k < n) (hn : n ≤ 6) : ((ordL a).take n).getD k 0 = a k := by
  rw [List.getD_eq_getElem?_getD, List.getElem?_take, if_pos hk]
  have : k = 0 ∨ k = 1 ∨ k = 2 ∨ k = 3 ∨ k = 4 ∨ k = 5 := by omega
  rcases this with rfl | rfl | rfl | rfl | rfl | rfl <;> rfl
theorem Perm.idx {a : Nat → Int} {n : Nat} {p : Nat → Nat} (h : Perm a n p) (hn : n ≤ 6) {j : Nat} (hj : j < n) : Lib.idxOf ((ordL a).take n) (a j) = j := by
  have := Lib.idxFrom_hit (a j) ((ordL a).take n) j 0 (by simp [ordL]; omega) (ordL_getD a hj hn) (fun i hi => by
    rw [ordL_getD a (by omega) hn]
    exact fun e => by have := h.inj (by omega) hj e; omega)
  simpa [Lib.idxOf] using this
end Go.Proofs.Ytljfloopjgpaeaa
