/- append in a region's walk: a row of one's own that is known, or nil. Nothing of the dump is named here. -/
import Derived.Test.YtljfloopjgpaeabQU
import Derived.Test.YtljfloopjgpaeabOW
import Derived.Maps.AppendAt
namespace Go.Proofs.Ytljfloopjgpaeab
set_option linter.unusedVariables false
set_option linter.unusedSimpArgs false
open Go.RowKit
namespace Ly
/-- A row that stands in a known block, or nil. -/
def RowAt (M : Nat → Option Obj) (E sz : Nat) (v : Value) (n : Nat) (xs : List Value) : Prop :=
  xs.length = n * sz ∧ ((v = .slice none 0 0 ∧ n = 0) ∨ ∃ g cap cur, v = .slice (some ⟨g, 0, none⟩) n cap ∧ M g = some (.cells cur E (0, 0)) ∧ n ≤ cap ∧ cap ≤ maxLen ∧ cur.size = cap * sz ∧ cur.toList.take (n * sz) = xs)
theorem RowAt.nil (M : Nat → Option Obj) (E sz : Nat) : RowAt M E sz (.slice none 0 0) 0 [] := ⟨by simp, .inl ⟨rfl, rfl⟩⟩
theorem RowAt.own {B0 : Nat} {w0 w : World} {s : St} {E sz n : Nat} {v : Value} {xs : List Value} (h : RowAt s.M E sz v n xs) (hw : In B0 w0 s w) : w.ownsRow 0 E sz v n xs := by
  refine ⟨h.1, ?_⟩
  rcases h.2 with h | ⟨g, cap, cur, hv, hm, h1, h2, h3, h4⟩
  · exact .inl h
  · exact .inr ⟨g, cap, cur, hv, Nat.zero_le _, hw.holds g _ hm, h1, h2, h3, h4⟩
theorem RowAt.val {M : Nat → Option Obj} {E sz n : Nat} {v : Value} {xs : List Value} (h : RowAt M E sz v n xs) : ∃ A c d, v = .slice A c d := by
  rcases h.2 with ⟨rfl, _⟩ | ⟨g, cap, cur, rfl, _⟩
  · exact ⟨_, _, _, rfl⟩
  · exact ⟨_, _, _, rfl⟩
theorem RowAt.ne {M : Nat → Option Obj} {E sz n : Nat} {v : Value} {xs : List Value} (h : RowAt M E sz v n xs) {g : Nat} (hg : M g = none) : v.ownBlock ≠ some g := by
  rcases h.2 with ⟨rfl, _⟩ | ⟨g', cap, cur, rfl, hm, _⟩
  · simp [Value.ownBlock]
  · simp only [Value.ownBlock, ne_eq, Option.some.injEq]
    rintro rfl
    rw [hm] at hg; cases hg
theorem RowAt.upd {s : St} {E sz n : Nat} {v : Value} {xs : List Value} (h : RowAt s.M E sz v n xs) {g : Nat} (hg : s.M g = none) (o : Obj) : RowAt (s.upd g o).M E sz v n xs := by
  refine ⟨h.1, ?_⟩
  rcases h.2 with h | ⟨g', cap, cur, hv, hm, rest⟩
  · exact .inl h
  · exact .inr ⟨g', cap, cur, hv, by rw [St.upd_ne s o (by rintro rfl; rw [hm] at hg; cases hg)]; exact hm, rest⟩
/-- A block that is written again. -/
theorem RowAt.again {s : St} {E sz n : Nat} {v : Value} {xs : List Value} (h : RowAt s.M E sz v n xs) {g : Nat} (hg : v.ownBlock ≠ some g) (o : Obj) : RowAt (s.upd g o).M E sz v n xs := by
  refine ⟨h.1, ?_⟩
  rcases h.2 with h | ⟨g', cap, cur, rfl, hm, rest⟩
  · exact .inl h
  · exact .inr ⟨g', cap, cur, rfl, by rw [St.upd_ne s o (by rintro rfl; exact hg rfl)]; exact hm, rest⟩
section
variable {P : Program} {B : Nat} {w0 : World} {O : Array Oper} {l : List Oper}
theorem kapp2 {Q : Act → St → Prop} (HO : Hid (O = l.toArray)) (i : Nat) {oi : Oper} {fuel : Nat} {listed : Array Bool} {a : Act} {s : St} (hk : sel l listed i = true) (sx xx : Operand) (t : TypeId) (hx : l[i]? = some oi ∧ oi.op = .call { callee := .builtin .append, args := #[sx, xx], argTypes := #[t, t] } ∧ oi.guard = none)
    (E : TypeId) (ti : TypeInfo) (z : Value) (sz bytes : Nat) (ht : P.underlying t = some (.slice E)) (hi : P.info? E = some ti) (hz : ti.zero = some z) (hsize : ti.size = sz) (hby : ti.bytes = bytes) (hzs : z.cells.size = sz) (hsz : 0 < sz)
    (v : Value) (n : Nat) (xs : List Value) (hs : a.eval sx = v) (hrow : RowAt s.M E sz v n xs) (hF : ∀ k, v.ownBlock = some k → ¬ s.F k)
    (xv : Value) (m : Nat) (news : List Value) (hxv : a.eval xx = xv) (hsrc : ∀ w, In B w0 s w → Src w xv m news) (hl : news.length = m * sz) (h1 : ∀ u ∈ news, u.oneCell' = true) (h63 : n + m ≤ maxLen) (hbytes : (n + m) * bytes ≤ 140737488355328)
    (hG : ∀ w w', s.G w → Apart (fun k => v.ownBlock = some k) w w' → s.G w')
    (h : ∀ v' M', RowAt M' E sz v' (n + m) (xs ++ news) → (∀ k, v'.ownBlock = some k → v.ownBlock = some k ∨ s.M k = none) → (∀ k o, s.M k = some o → v.ownBlock ≠ some k → M' k = some o) → J P B w0 O Q fuel (listed.setIfInBounds i true) (a.put oi.dst v') ⟨M', s.G, s.F⟩) : J P B w0 O Q (fuel + 1) listed a s := by
  obtain rfl : O = _ := HO.out
  simp only [sel, Bool.and_eq_true] at hk
  obtain ⟨hx1, hop, hgd⟩ := hx
  have htag : tagOf oi = .call := by unfold tagOf; rw [hop]
  have hwant : Region.wanted oi (yielded l.toArray a.tmps) = true := by simp [Region.wanted, hgd]
  have hlen : (xs ++ news).length = (n + m) * sz := by rw [List.length_append, hrow.1, hl, Nat.add_mul]
  refine J.stepV i (fun k => v.ownBlock = some k) (fun v' p => (∀ k, v.ownBlock = some k → p k ≠ none) ∧ RowAt p E sz v' (n + m) (xs ++ news)) (by simpa using hx1) hk.1 hk.2 htag hwant ?_ ?_ ?_ ?_
  · intro k hk
    rcases hrow.2 with ⟨rfl, _⟩ | ⟨g, cap, cur, rfl, hm, _⟩
    · simp [Value.ownBlock] at hk
    · simp only [Value.ownBlock, Option.some.injEq] at hk
      subst hk
      exact ⟨⟨_, hm⟩, hF _ rfl⟩
  · intro N
    have hown : ∃ M0, ∀ k, v.ownBlock = some k → k < M0 := by
      cases hv : v.ownBlock with
      | none => exact ⟨0, fun k hk => by cases hk⟩
      | some g => exact ⟨g + 1, fun k hk => by injection hk with hk; omega⟩
    obtain ⟨M0, hM0⟩ := hown
    refine ⟨.slice (some ⟨N + M0, 0, none⟩) (n + m) (n + m), fun k => if k = N + M0 then some (.cells (xs ++ news).toArray E (0, 0)) else if v.ownBlock = some k then some (.cells #[] E (0, 0)) else none, ⟨fun k hk => ?_, hlen, .inr ⟨N + M0, n + m, (xs ++ news).toArray, rfl, by simp, Nat.le_refl _, h63, by simpa using hlen, by rw [List.take_of_length_le (by simp only [List.toList_toArray]; omega)]⟩⟩, fun k hk => ?_, N + M0 + 1, fun k hk => ?_⟩
    · simp only [hk, if_true]
      split <;> simp
    · by_cases e : k = N + M0
      · exact .inr (by omega)
      · by_cases e2 : v.ownBlock = some k
        · exact .inl e2
        · simp [e, e2] at hk
    · simp only []
      rw [if_neg (by omega), if_neg (fun e => by have := hM0 k e; omega)]
  · intro w hw
    have hown := hrow.own hw
    rcases hsrc w hw with ⟨c, rfl, rfl, rfl⟩ | ⟨ad, c, rfl, hc⟩
    · have hrun := run_append_nil (P := P) (w := w) 0 t oi.type E ti sz ht hi v n xs hown c
      refine ⟨v, w, fun k => if v.ownBlock = some k then w.heap[k]? else none, ?_, ⟨fun k hk => ?_, by simpa using hrow.1, ?_⟩, fun k hk => ?_, fun k hk => ?_, fun k o hk => ?_, ⟨rfl, rfl, rfl, Nat.le_refl _, fun _ _ _ => rfl⟩, hw.more⟩
      · simp [execOp, hop, resolve, invoke, builtin, hs, hxv, hrun, Result.andThen]
      · dsimp only; rw [if_pos hk]
        rcases hown.2 with ⟨rfl, _⟩ | ⟨g, cap, cur, rfl, _, hb, _⟩
        · simp [Value.ownBlock] at hk
        · simp only [Value.ownBlock, Option.some.injEq] at hk; subst hk; rw [hb]; simp
      · rcases hown.2 with h | ⟨g, cap, cur, rfl, _, hb, r1, r2, r3, r4⟩
        · exact .inl h
        · exact .inr ⟨g, cap, cur, rfl, by simp [Value.ownBlock, hb], r1, r2, r3, by simpa using r4⟩
      · by_cases e : v.ownBlock = some k
        · exact .inl e
        · simp [e] at hk
      · dsimp only; rw [if_pos hk]
        rcases hown.2 with ⟨rfl, _⟩ | ⟨g, cap, cur, rfl, _, hb, _⟩
        · simp [Value.ownBlock] at hk
        · simp only [Value.ownBlock, Option.some.injEq] at hk; subst hk; rw [hb]; simp
      · by_cases e : v.ownBlock = some k
        · dsimp only at hk; rw [if_pos e] at hk; exact hk
        · simp [e] at hk
    · obtain ⟨v', w', hr, h2, h3, h4, h5⟩ := run_append_own_at (P := P) w 0 t oi.type E ti z sz bytes ht hi hz hsize hby hzs hsz v n xs hown ad m c news hl hc h1 h63 hbytes (Nat.zero_le _)
      have hlt : ∀ k, v.ownBlock = some k → k < w.heap.size := fun k hk => (hown.lt k hk).2
      have hap : Apart (fun k => v.ownBlock = some k) w w' := ⟨h3.os, h3.tape, h3.output, h3.size, fun k q1 q2 => h3.block k q1 (fun e => q2 e.symm)⟩
      refine ⟨v', w', fun k => if v.ownBlock = some k ∨ v'.ownBlock = some k then w'.heap[k]? else none, ?_, ⟨fun k hk => ?_, hlen, ?_⟩, fun k hk => ?_, fun k hk => ?_, fun k o hk => ?_, hap, hG _ _ hw.more hap⟩
      · simp only [execOp, hop, resolve, invoke, builtin, Sem.run_bind, Sem.run_pure, Result.andThen_ok, List.map_toArray, List.map_cons, List.map_nil, hs, hxv, hr]
      · dsimp only; rw [if_pos (Or.inl hk)]
        have := Nat.lt_of_lt_of_le (hlt k hk) h3.size
        rw [Array.getElem?_eq_getElem this]; simp
      · rcases h2.2 with h | ⟨g, cap, cur, rfl, _, hb, r1, r2, r3, r4⟩
        · exact .inl h
        · exact .inr ⟨g, cap, cur, rfl, by simp [Value.ownBlock, hb], r1, r2, r3, r4⟩
      · by_cases e : v.ownBlock = some k
        · exact .inl e
        · by_cases e2 : v'.ownBlock = some k
          · rcases h5 with h5 | h5
            · rw [h5] at e2; exact .inl e2
            · rw [h5] at e2; injection e2 with e2; exact .inr (by omega)
          · simp [e, e2] at hk
      · dsimp only; rw [if_pos (Or.inl hk)]
        have := Nat.lt_of_lt_of_le (hlt k hk) h3.size
        rw [Array.getElem?_eq_getElem this]; simp
      · by_cases e : v.ownBlock = some k ∨ v'.ownBlock = some k
        · dsimp only at hk; rw [if_pos e] at hk; exact hk
        · simp [e] at hk
  · intro v' p hR hp hfin
    refine h v' (s.patch p).M ⟨hR.2.1, ?_⟩ (fun k hk => ?_) (fun k o q1 q2 => ?_)
    · rcases hR.2.2 with h | ⟨g, cap, cur, hv, hm, rest⟩
      · exact .inl h
      · exact .inr ⟨g, cap, cur, hv, St.patch_some s hm, rest⟩
    · rcases hR.2.2 with ⟨h, _⟩ | ⟨g, cap, cur, hv, hm, rest⟩
      · rw [h] at hk; simp [Value.ownBlock] at hk
      · rw [hv] at hk
        simp only [Value.ownBlock, Option.some.injEq] at hk
        subst hk
        exact (hp g (by rw [hm]; simp)).2
    · have hpk : p k = none := by
        cases e : p k with
        | none => rfl
        | some y =>
          rcases (hp k (by rw [e]; simp)).2 with h' | h'
          · exact absurd h' q2
          · rw [q1] at h'; cases h'
      rw [St.patch_none s hpk]; exact q1
/-- A row that is made. -/
theorem kn {Q : Act → St → Prop} (HO : Hid (O = l.toArray)) (i : Nat) {oi : Oper} {fuel : Nat} {listed : Array Bool} {a : Act} {s : St} (hk : sel l listed i = true) (hx : l[i]? = some oi ∧ tagOf oi = .new ∧ Region.wanted oi (yielded l.toArray a.tmps) = true) {mk : Nat → Value} {o : Obj} (hrun : ∀ w, (execOp a.eval oi).run P w = .ok (.value (mk w.heap.size)) (w.alloc o))
    (h : ∀ g, B ≤ g → s.M g = none → J P B w0 O Q fuel (listed.setIfInBounds i true) (a.put oi.dst (mk g)) (s.upd g o)) : J P B w0 O Q (fuel + 1) listed a s := by
  obtain rfl : O = _ := HO.out
  simp only [sel, Bool.and_eq_true] at hk
  exact J.new i (by simpa using hx.1) hk.1 hk.2 hx.2.1 hx.2.2 hrun h
end
end Ly
end Go.Proofs.Ytljfloopjgpaeab
