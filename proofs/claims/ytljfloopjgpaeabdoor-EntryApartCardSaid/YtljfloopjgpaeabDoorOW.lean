/- Rows of one's own: what they say, what keeps them, append onto them. Nothing of the dump is named here. -/
import Derived.Test.YtljfloopjgpaeabDoorA
import Derived.OwnWalk
import Derived.Deep.LoopGhost
import Derived.Lib.Walk
import Derived.Lib.SliceRun
import Derived.Laws.AppendOwn
import Derived.Deep.AppendLies
import Derived.Deep.RegionLaw
import Derived.Laws.OwnMore
namespace Go.Proofs.YtljfloopjgpaeabDoor
set_option linter.unusedVariables false
set_option linter.unusedSimpArgs false
open Go.RowKit
set_option maxRecDepth 100000
theorem flatMap_split {α : Type} {f : α → List Value} {sz : Nat} (hf : ∀ x, (f x).length = sz) : ∀ (l : List α) (j : Nat) (u : Value), (l.flatMap f)[j]? = some u → ∃ i x r, l[i]? = some x ∧ (f x)[r]? = some u ∧ j = i * sz + r
  | [], j, u, h => by simp at h
  | a :: l, j, u, h => by
    rw [List.flatMap_cons] at h
    by_cases hj : j < sz
    · rw [List.getElem?_append_left (by rw [hf]; exact hj)] at h
      exact ⟨0, a, j, rfl, h, by omega⟩
    · rw [List.getElem?_append_right (by rw [hf]; omega), hf] at h
      obtain ⟨i, x, r, h1, h2, h3⟩ := flatMap_split hf l (j - sz) u h
      exact ⟨i + 1, x, r, by simpa using h1, h2, by rw [Nat.succ_mul]; omega⟩
theorem flatMap_put {α : Type} {f : α → List Value} {sz : Nat} (hf : ∀ x, (f x).length = sz) : ∀ (l : List α) (i j : Nat) (x : α) (u : Value), l[i]? = some x → (f x)[j]? = some u → (l.flatMap f)[i * sz + j]? = some u
  | [], _, _, _, _, h, _ => by simp at h
  | a :: l, 0, j, x, u, h, hj => by
    obtain rfl : a = x := by simpa using h
    rw [List.flatMap_cons, Nat.zero_mul, Nat.zero_add, List.getElem?_append_left (List.getElem?_eq_some_iff.1 hj).1]
    exact hj
  | a :: l, i + 1, j, x, u, h, hj => by
    have hlen := hf a
    rw [List.flatMap_cons, List.getElem?_append_right (by rw [hlen, Nat.succ_mul]; omega), hlen, show (i + 1) * sz + j - sz = i * sz + j by rw [Nat.succ_mul]; omega]
    exact flatMap_put hf l i j x u (by simpa using h) hj
theorem flatMap_len {α : Type} {f : α → List Value} {sz : Nat} (hf : ∀ x, (f x).length = sz) : ∀ (l : List α), (l.flatMap f).length = l.length * sz
  | [] => by simp
  | a :: l => by rw [List.flatMap_cons, List.length_append, hf, flatMap_len hf l, List.length_cons, Nat.succ_mul]; omega
theorem R_cells {α : Type} {enc : α → List Value} {sz : Nat} {Q : α → Prop} (hf : ∀ x, (enc x).length = sz) {w : World} {ad : Addr} {n c : Nat} {l : List α} (h : (Kn.flat sz enc Q).R w (.slice (some ad) n c) l) : ∀ j u, (l.flatMap enc)[j]? = some u → w.cell? (ad.add j) = some u := fun j u hj => by
  obtain ⟨i, x, r, h1, h2, rfl⟩ := flatMap_split hf l j u hj
  have hi := (List.getElem?_eq_some_iff.1 h1).1
  obtain ⟨b, o, cs, hA, hb, ⟨rfl, _⟩, hc⟩ := h.at hi
  obtain rfl : ad = ⟨b, o, none⟩ := by simpa using hA
  rw [Addr.add_lit]
  have hx : l[i] = x := (List.getElem?_eq_some_iff.1 h1).2
  have h3 := hc r u (by rw [hx]; exact h2)
  have hs : (Kn.flat sz enc Q).sz = sz := rfl
  rw [hs] at h3
  rw [← h3, Nat.add_assoc]
theorem R_wf {α : Type} {enc : α → List Value} {sz : Nat} {Q : α → Prop} {w : World} {v : Value} {l : List α} (h : (Kn.flat sz enc Q).R w v l) : ∀ x ∈ l, Q x := fun x hx => by
  obtain ⟨A, c, rfl, _, _, _, hh⟩ := h
  obtain ⟨i, hi, rfl⟩ := List.getElem_of_mem hx
  obtain ⟨b, o, _, _, h3⟩ := hh (by omega)
  obtain ⟨cs, ⟨_, hq⟩, _⟩ := h3 i l[i] (List.getElem?_eq_getElem hi)
  exact hq
/-- A row of the call's own reads as its list. -/
theorem own_R {α : Type} {enc : α → List Value} {sz : Nat} {Q : α → Prop} (hf : ∀ x, (enc x).length = sz) {w : World} {B E : Nat} {v : Value} {l : List α} (h : w.ownsRow B E sz v l.length (l.flatMap enc)) (hq : ∀ x ∈ l, Q x) (hl : l.length ≤ 140737488351232) : (Kn.flat sz enc Q).R w v l := by
  obtain ⟨hn, hh⟩ := h
  rcases hh with ⟨rfl, h0⟩ | ⟨g, cap, cur, rfl, hg, hb, h1, h2, h3, h4⟩
  · refine ⟨none, 0, by rw [h0], by omega, Nat.zero_le _, hl, fun h => by omega⟩
  · refine ⟨_, _, rfl, h1, h2, hl, fun _ => ⟨g, 0, rfl, (Array.getElem?_eq_some_iff.1 hb).1, fun i x hi => ⟨enc x, ⟨rfl, hq x (List.mem_of_getElem? hi)⟩, fun j u hj => ?_⟩⟩⟩
    have hs : (Kn.flat sz enc Q).sz = sz := rfl
    rw [hs, Nat.zero_add]
    have h5 := flatMap_put hf l i j x u hi hj
    rw [← h4] at h5
    simp only [World.cell?, hb]
    rw [← Array.getElem?_toList]
    rw [List.getElem?_take] at h5
    split at h5
    · exact h5
    · cases h5
/-- Blocks of another type than T stay. -/
def Keeps (T : Nat) (w w' : World) : Prop := ∀ (g : Nat) (cur : Array Value) (e : Nat) (z : Nat × Nat), w.heap[g]? = some (Obj.cells cur e z) → e ≠ T → w'.heap[g]? = w.heap[g]?
theorem Keeps.trans {T : Nat} {a b c : World} (h : Keeps T a b) (k : Keeps T b c) : Keeps T a c := fun g cur e z hg he => by
  have h1 := h g cur e z hg he
  rw [k g cur e z (h1.trans hg) he, h1]
theorem Keeps.of_below {T : Nat} {w w' : World} (h : Below w.heap.size w w') : Keeps T w w' := fun g cur e z hg _ => h.block g (Array.getElem?_eq_some_iff.1 hg).1
theorem Keeps.of_set {T : Nat} {w : World} {b : Nat} {cs : Array Value} {z : Nat × Nat} (hb : w.heap[b]? = some (.cells cs T z)) (i : Nat) (v : Value) : Keeps T w (w.setCell ⟨b, i, none⟩ v) := fun g cur e z' hg he => by
  refine Below.heap_setCell _ _ _ _ ?_
  rintro rfl
  rw [hb] at hg
  injection hg with hg
  injection hg with _ h2
  exact he h2.symm
theorem Keeps.of_grown {T : Nat} {w w' : World} {B sz n : Nat} {v : Value} {xs : List Value} (ho : w.ownsRow B T sz v n xs) (hg : w.grownBy w' v.ownBlock) : Keeps T w w' := fun g cur e z hb he => by
  refine hg.block g (Array.getElem?_eq_some_iff.1 hb).1 ?_
  intro h
  rcases ho.2 with ⟨rfl, _⟩ | ⟨g', cap, cur', rfl, _, hh, _⟩
  · simp [Value.ownBlock] at h
  · simp [Value.ownBlock] at h
    subst h
    rw [hb] at hh
    injection hh with hh
    injection hh with _ h2
    exact he h2
theorem own_keeps {T : Nat} {w w' : World} {B e sz n : Nat} {v : Value} {xs : List Value} (ho : w.ownsRow B e sz v n xs) (hk : Keeps T w w') (he : e ≠ T) : w'.ownsRow B e sz v n xs := by
  refine ⟨ho.1, ?_⟩
  rcases ho.2 with h | ⟨g, cap, cur, hv, hB, hh, rest⟩
  · exact .inl h
  · exact .inr ⟨g, cap, cur, hv, hB, (hk g cur e (0, 0) hh he).trans hh, rest⟩
theorem own_base {w : World} {B B' e sz n : Nat} {v : Value} {xs : List Value} (ho : w.ownsRow B e sz v n xs) (hB : B' ≤ B) : w.ownsRow B' e sz v n xs := by
  refine ⟨ho.1, ?_⟩
  rcases ho.2 with h | ⟨g, cap, cur, hv, h1, rest⟩
  · exact .inl h
  · exact .inr ⟨g, cap, cur, hv, Nat.le_trans hB h1, rest⟩
theorem own_nil (w : World) (B e sz : Nat) : w.ownsRow B e sz (.slice none 0 0) 0 [] := ⟨by simp, .inl ⟨rfl, rfl⟩⟩

theorem own_slice {α : Type} {d : Kn α} {w : World} {B E : Nat} {v : Value} {l : List α} {vs : List Value} {enc : Value → α → List Value} (h : w.ownsRow B E d.sz v l.length vs) (hl : l.length ≤ 140737488351232)
    (hx : ∀ i x, l[i]? = some x → ∃ cs, d.K w x cs ∧ ∀ j u, cs[j]? = some u → vs[i * d.sz + j]? = some u) : d.R w v l := by
  rcases h.2 with ⟨rfl, h0⟩ | ⟨g, cap, cur, rfl, hg, hb, h1, h2, h3, h4⟩
  · exact ⟨none, 0, by rw [h0], by omega, Nat.zero_le _, hl, fun h => by omega⟩
  · refine ⟨_, _, rfl, h1, h2, hl, fun _ => ⟨g, 0, rfl, (Array.getElem?_eq_some_iff.1 hb).1, fun i x hi => ?_⟩⟩
    obtain ⟨cs, hk, hc⟩ := hx i x hi
    refine ⟨cs, hk, fun j u hj => ?_⟩
    have h5 := hc j u hj
    rw [← h4, List.getElem?_take] at h5
    simp only [World.cell?, hb, Nat.zero_add]
    rw [← Array.getElem?_toList]
    split at h5
    · exact h5
    · cases h5
/-- A whole copy reads as the program. -/
theorem flatten_split {sz : Nat} : ∀ (css : List (List Value)), (∀ cs ∈ css, cs.length = sz) → ∀ (j : Nat) (u : Value), css.flatten[j]? = some u → ∃ i cs r, css[i]? = some cs ∧ cs[r]? = some u ∧ j = i * sz + r
  | [], _, j, u, h => by simp at h
  | a :: l, hf, j, u, h => by
    rw [List.flatten_cons] at h
    have ha := hf a (List.mem_cons_self ..)
    by_cases hj : j < sz
    · rw [List.getElem?_append_left (by rw [ha]; exact hj)] at h
      exact ⟨0, a, j, rfl, h, by omega⟩
    · rw [List.getElem?_append_right (by rw [ha]; omega), ha] at h
      obtain ⟨i, x, r, h1, h2, h3⟩ := flatten_split l (fun cs hc => hf cs (List.mem_cons_of_mem _ hc)) (j - sz) u h
      exact ⟨i + 1, x, r, by simpa using h1, h2, by rw [Nat.succ_mul]; omega⟩
theorem flatten_put {sz : Nat} : ∀ (css : List (List Value)), (∀ cs ∈ css, cs.length = sz) → ∀ (i j : Nat) (cs : List Value) (u : Value), css[i]? = some cs → cs[j]? = some u → css.flatten[i * sz + j]? = some u
  | [], _, _, _, _, _, h, _ => by simp at h
  | a :: l, hf, 0, j, x, u, h, hj => by
    obtain rfl : a = x := by simpa using h
    rw [List.flatten_cons, Nat.zero_mul, Nat.zero_add, List.getElem?_append_left (List.getElem?_eq_some_iff.1 hj).1]
    exact hj
  | a :: l, hf, i + 1, j, x, u, h, hj => by
    have ha := hf a (List.mem_cons_self ..)
    rw [List.flatten_cons, List.getElem?_append_right (by rw [ha, Nat.succ_mul]; omega), ha, show (i + 1) * sz + j - sz = i * sz + j by rw [Nat.succ_mul]; omega]
    exact flatten_put l (fun cs hc => hf cs (List.mem_cons_of_mem _ hc)) i j x u (by simpa using h) hj
theorem flatten_len {sz : Nat} : ∀ (css : List (List Value)), (∀ cs ∈ css, cs.length = sz) → css.flatten.length = css.length * sz
  | [], _ => by simp
  | a :: l, hf => by rw [List.flatten_cons, List.length_append, hf a (List.mem_cons_self ..), flatten_len l (fun cs hc => hf cs (List.mem_cons_of_mem _ hc)), List.length_cons, Nat.succ_mul]; omega

/-- What is appended: nothing, or cells at an address. -/
def Src (w : World) (v : Value) (n : Nat) (news : List Value) : Prop :=
  (∃ c, v = .slice none 0 c ∧ n = 0 ∧ news = []) ∨ ∃ ad c, v = .slice (some ad) n c ∧ ∀ j u, news[j]? = some u → w.cell? (ad.add j) = some u
theorem run_append_nil {P : Program} {w : World} (base : Nat) (t ty e : TypeId) (i : TypeInfo) (size : Nat) (ht : P.underlying t = some (.slice e)) (hi : P.info? e = some i)
    (v : Value) (n : Nat) (xs : List Value) (hown : w.ownsRow base e size v n xs) (c : Nat) : (Builtin.append_ #[t, t] ty #[v, .slice none 0 c]).run P w = .ok v w := by
  rcases hown.2 with ⟨rfl, rfl⟩ | ⟨g, cap, cur, rfl, _, _, hnc, _⟩
  · simp [Builtin.append_, run_underlying ht, sizeOf, typeInfo, hi, Builtin.lenOf, Builtin.firstCells]
  · simp [Builtin.append_, run_underlying ht, sizeOf, typeInfo, hi, Builtin.lenOf, Builtin.firstCells, hnc, storeCells]
theorem grown_refl (w : World) (r : Option Nat) : w.grownBy w r := ⟨rfl, rfl, rfl, Nat.le_refl _, fun _ _ _ => rfl⟩
theorem wp_append_src {P : Program} {o : Oper} {a : Act} {w : World} {K : Act → World → Prop} {Q : Exit → Act → World → Prop} (s x : Operand) (t : TypeId)
    (ho : o.op = .call { callee := .builtin .append, args := #[s, x], argTypes := #[t, t] })
    (base : Nat) (e : TypeId) (i : TypeInfo) (z : Value) (size bytes : Nat) (ht : P.underlying t = some (.slice e)) (hi : P.info? e = some i) (hz : i.zero = some z)
    (hsize : i.size = size) (hby : i.bytes = bytes) (hzs : z.cells.size = size) (hsz : 0 < size)
    (v : Value) (n : Nat) (xs : List Value) (hs : a.eval s = v) (hown : w.ownsRow base e size v n xs)
    (xv : Value) (m : Nat) (news : List Value) (hx : a.eval x = xv) (hsrc : Src w xv m news) (hl : news.length = m * size) (h1 : ∀ u ∈ news, u.oneCell' = true)
    (h63 : n + m ≤ maxLen) (hbytes : (n + m) * bytes ≤ 140737488355328) (hbase : base ≤ w.heap.size)
    (h : ∀ v' w', w'.ownsRow base e size v' (n + m) (xs ++ news) → w.grownBy w' v.ownBlock → K (a.put o.dst v') w') : o.wp P a w K Q := by
  rcases hsrc with ⟨c, rfl, rfl, rfl⟩ | ⟨ad, c, rfl, hc⟩
  · have hrun := run_append_nil (P := P) (w := w) base t o.type e i size ht hi v n xs hown c
    unfold Oper.wp
    simp [execOp, ho, resolve, invoke, builtin, hs, hx, hrun, Result.andThen]
    exact h v w (by simpa using hown) (grown_refl _ _)
  · exact wp_append_own w s x t ho base e i z size bytes ht hi hz hsize hby hzs hsz v n xs hs hown ad m c news hx hl hc h1 h63 hbytes hbase fun v' w' h2 h3 _ => h v' w' h2 h3
theorem step_append_src {P : Program} {ops : Array Oper} {o : Oper} {a : Act} {w : World} {K : Act → World → Prop} {Q : Exit → Act → World → Prop} {E : Prop} (hgd : o.guard = none) (s x : Operand) (t : TypeId)
    (ho : o.op = .call { callee := .builtin .append, args := #[s, x], argTypes := #[t, t] })
    (base : Nat) (e : TypeId) (i : TypeInfo) (z : Value) (size bytes : Nat) (ht : P.underlying t = some (.slice e)) (hi : P.info? e = some i) (hz : i.zero = some z)
    (hsize : i.size = size) (hby : i.bytes = bytes) (hzs : z.cells.size = size) (hsz : 0 < size)
    (v : Value) (n : Nat) (xs : List Value) (hs : a.eval s = v) (hown : w.ownsRow base e size v n xs)
    (xv : Value) (m : Nat) (news : List Value) (hx : a.eval x = xv) (hsrc : Src w xv m news) (hl : news.length = m * size) (h1 : ∀ u ∈ news, u.oneCell' = true)
    (h63 : n + m ≤ maxLen) (hbytes : (n + m) * bytes ≤ 140737488355328) (hbase : base ≤ w.heap.size)
    (h : ∀ v' w', w'.ownsRow base e size v' (n + m) (xs ++ news) → w.grownBy w' v.ownBlock → K (a.put o.dst v') w') : if Region.wanted o (yielded ops a.tmps) = true then Oper.wp P o a w K Q else E := by
  have hw : Region.wanted o (yielded ops a.tmps) = true := by simp [Region.wanted, hgd]
  rw [if_pos hw]
  exact wp_append_src s x t ho base e i z size bytes ht hi hz hsize hby hzs hsz v n xs hs hown xv m news hx hsrc hl h1 h63 hbytes hbase h

/-- The cells of what reads as a list. -/
structure SrcOf {α : Type} (d : Kn α) (w : World) (v : Value) (l : List α) (css : List (List Value)) : Prop where
  len : css.length = l.length
  szs : ∀ cs ∈ css, cs.length = d.sz
  one : ∀ cs ∈ css, ∀ u ∈ cs, u.oneCell' = true
  says : ∀ (i : Nat) (x : α) (cs : List Value), l[i]? = some x → css[i]? = some cs → d.K w x cs
  src : Src w v l.length css.flatten
theorem R_src {α : Type} {d : Kn α} (hd : ∀ w x cs, d.K w x cs → cs.length = d.sz ∧ ∀ u ∈ cs, u.oneCell' = true) {w : World} {v : Value} {l : List α} (h : d.R w v l) : ∃ css, SrcOf d w v l css := by
  obtain ⟨A, c, rfl, _, _, _, hh⟩ := h
  cases hl : l with
  | nil =>
    subst hl
    refine ⟨[], rfl, by simp, by simp, by simp, ?_⟩
    cases A with
    | none => exact .inl ⟨c, rfl, rfl, rfl⟩
    | some ad => exact .inr ⟨ad, c, rfl, by simp⟩
  | cons a l' =>
    rw [← hl]
    obtain ⟨b, o, rfl, hb, hx⟩ := hh (by rw [hl]; simp)
    have hx' : ∀ i : Fin l.length, ∃ cs, d.K w l[i] cs ∧ ∀ j u, cs[j]? = some u → w.cell? ⟨b, o + i * d.sz + j, none⟩ = some u := fun i => hx i l[i] (List.getElem?_eq_getElem i.2)
    let f := fun i : Fin l.length => (hx' i).choose
    have hf := fun i : Fin l.length => (hx' i).choose_spec
    have hget : ∀ (i : Nat) (cs : List Value), (List.ofFn f)[i]? = some cs → ∃ hi : i < l.length, cs = f ⟨i, hi⟩ := fun i cs hcs => by
      obtain ⟨h1, h2⟩ := List.getElem?_eq_some_iff.1 hcs
      exact ⟨by simpa using h1, by rw [← h2]; simp⟩
    have hsz : ∀ cs ∈ List.ofFn f, cs.length = d.sz := fun cs hc => by
      obtain ⟨i, hi⟩ := (List.mem_ofFn ..).1 hc
      rw [← hi]; exact (hd _ _ _ (hf i).1).1
    refine ⟨List.ofFn f, by simp, hsz, fun cs hc => ?_, fun i x cs hi hcs => ?_, .inr ⟨_, c, rfl, fun j u hj => ?_⟩⟩
    · obtain ⟨i, hi⟩ := (List.mem_ofFn ..).1 hc
      rw [← hi]; exact (hd _ _ _ (hf i).1).2
    · obtain ⟨h1, rfl⟩ := hget i cs hcs
      obtain rfl : l[i] = x := by simpa [List.getElem?_eq_getElem h1] using hi
      exact (hf ⟨i, h1⟩).1
    · obtain ⟨i, cs, r, h1, h2, rfl⟩ := flatten_split _ hsz j u hj
      obtain ⟨h3, rfl⟩ := hget i cs h1
      have := (hf ⟨i, h3⟩).2 r u h2
      rw [Addr.add_lit, ← Nat.add_assoc]
      exact this
theorem SrcOf.below {α : Type} {d : Kn α} {w w' : World} {v : Value} {l : List α} {css : List (List Value)} (h : SrcOf d w v l css) (hv : ∀ ad n c, v = .slice (some ad) n c → 0 < l.length → ad.block < w.heap.size) (hb : Below w.heap.size w w') : SrcOf d w' v l css := by
  refine ⟨h.len, h.szs, h.one, fun i x cs a b => d.keep hb (h.says i x cs a b), ?_⟩
  rcases h.src with h1 | ⟨ad, c, rfl, hc⟩
  · exact .inl h1
  · refine .inr ⟨ad, c, rfl, fun j u hj => ?_⟩
    have h0 : 0 < l.length := by
      rcases Nat.eq_zero_or_pos l.length with h0 | h0
      · have h2 := h.len
        rw [h0] at h2
        rw [List.length_eq_zero_iff.1 h2] at hj
        simp at hj
      · exact h0
    have hlt := hv ad l.length c rfl h0
    have hadd : (ad.add j).block = ad.block := by unfold Addr.add; split <;> rfl
    exact (hb.cell (p := ad.add j) (by rw [hadd]; exact hlt)).trans (hc j u hj)
/-- A row of one's own, with one more. -/
theorem append_R {α : Type} {d : Kn α} {w : World} {B E : Nat} {v : Value} {l : List α} {css : List (List Value)} {x : α} {cs : List Value} (ho : w.ownsRow B E d.sz v (l.length + 1) (css.flatten ++ cs)) (hlen : css.length = l.length) (hsz : ∀ cs ∈ css, cs.length = d.sz)
    (hK : ∀ (i : Nat) (x : α) (cs : List Value), l[i]? = some x → css[i]? = some cs → d.K w x cs) (hx : d.K w x cs) (hc : cs.length = d.sz) (hl : l.length + 1 ≤ 140737488351232) : d.R w v (l ++ [x]) := by
  have he : css.flatten ++ cs = (css ++ [cs]).flatten := by simp
  rw [he] at ho
  have hszs : ∀ c ∈ css ++ [cs], c.length = d.sz := fun c h => by
    rcases List.mem_append.1 h with h | h
    · exact hsz c h
    · obtain rfl : c = cs := by simpa using h
      exact hc
  refine own_slice (enc := fun v _ => [v]) (vs := (css ++ [cs]).flatten) (show w.ownsRow B E d.sz v (l ++ [x]).length _ by rw [List.length_append, List.length_singleton]; exact ho) (by simpa using hl) fun i y hi => ?_
  by_cases hlt : i < l.length
  · rw [List.getElem?_append_left hlt] at hi
    have hg : css[i]? = some css[i] := List.getElem?_eq_getElem (by omega)
    exact ⟨css[i], hK i y _ hi hg, fun j u hj => flatten_put _ hszs i j css[i] u (by rw [List.getElem?_append_left (by omega)]; exact hg) hj⟩
  · have h2 := (List.getElem?_eq_some_iff.1 hi).1
    simp only [List.length_append, List.length_singleton] at h2
    obtain rfl : i = l.length := by omega
    obtain rfl : x = y := by simpa using hi
    exact ⟨cs, hx, fun j u hj => flatten_put _ hszs l.length j cs u (by rw [List.getElem?_append_right (by omega), hlen, Nat.sub_self]; rfl) hj⟩
end Go.Proofs.YtljfloopjgpaeabDoor
