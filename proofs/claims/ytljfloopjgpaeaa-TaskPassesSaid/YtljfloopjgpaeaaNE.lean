/- Rows of a call's own, for prog.Copy: what they say, what keeps them. No program text is walked here. -/
import Derived.Test.YtljfloopjgpaeaaND
import Derived.Deep.AppendLies
namespace Go.Proofs.Ytljfloopjgpaeaa
set_option linter.unusedVariables false
set_option linter.unusedSimpArgs false
open Go.RowKit
set_option maxRecDepth 100000

/-- Blocks of another type than T stay. -/
def Keeps (T : Nat) (w w' : World) : Prop := ∀ (g : Nat) (cur : Array Value) (e : Nat) (z : Nat × Nat), w.heap[g]? = some (Obj.cells cur e z) → e ≠ T → w'.heap[g]? = w.heap[g]?
theorem Keeps.trans {T : Nat} {a b c : World} (h : Keeps T a b) (k : Keeps T b c) : Keeps T a c := fun g cur e z hg he => by
  have h1 := h g cur e z hg he
  rw [k g cur e z (h1.trans hg) he, h1]
theorem Keeps.of_below {T : Nat} {w w' : World} (h : Below w.heap.size w w') : Keeps T w w' := fun g cur e z hg _ => h.block g (Array.getElem?_eq_some_iff.1 hg).1
theorem Keeps.of_set {T : Nat} {w : World} {b : Nat} {cs : Array Value} {z : Nat × Nat} (hb : w.heap[b]? = some (.cells cs T z)) (i : Nat) (v : Value) : Keeps T w (w.setCell ⟨b, i, none⟩ v) := fun g cur e z' hg he => by
  refine Below.heap_setCell _ _ _ _ ?_
  rintro rfl
  rw [hb] at hg
  injection hg with hg
  injection hg with _ h2
  exact he h2.symm
theorem Keeps.of_grown {T : Nat} {w w' : World} {B sz n : Nat} {v : Value} {xs : List Value} (ho : w.ownsRow B T sz v n xs) (hg : w.grownBy w' v.ownBlock) : Keeps T w w' := fun g cur e z hb he => by
  refine hg.block g (Array.getElem?_eq_some_iff.1 hb).1 ?_
  intro h
  rcases ho.2 with ⟨rfl, _⟩ | ⟨g', cap, cur', rfl, _, hh, _⟩
  · simp [Value.ownBlock] at h
  · simp [Value.ownBlock] at h
    subst h
    rw [hb] at hh
    injection hh with hh
    injection hh with _ h2
    exact he h2
theorem own_keeps {T : Nat} {w w' : World} {B e sz n : Nat} {v : Value} {xs : List Value} (ho : w.ownsRow B e sz v n xs) (hk : Keeps T w w') (he : e ≠ T) : w'.ownsRow B e sz v n xs := by
  refine ⟨ho.1, ?_⟩
  rcases ho.2 with h | ⟨g, cap, cur, hv, hB, hh, rest⟩
  · exact .inl h
  · exact .inr ⟨g, cap, cur, hv, hB, (hk g cur e (0, 0) hh he).trans hh, rest⟩
theorem own_base {w : World} {B B' e sz n : Nat} {v : Value} {xs : List Value} (ho : w.ownsRow B e sz v n xs) (hB : B' ≤ B) : w.ownsRow B' e sz v n xs := by
  refine ⟨ho.1, ?_⟩
  rcases ho.2 with h | ⟨g, cap, cur, hv, h1, rest⟩
  · exact .inl h
  · exact .inr ⟨g, cap, cur, hv, Nat.le_trans hB h1, rest⟩
theorem own_nil (w : World) (B e sz : Nat) : w.ownsRow B e sz (.slice none 0 0) 0 [] := ⟨by simp, .inl ⟨rfl, rfl⟩⟩

def dsCells (ds : List (Value × Bool)) : List Value := ds.flatMap fun p => [p.1, .bool p.2]
/-- A program's first k codes and m sites, copied. -/
structure OwnAt (w : World) (B : Nat) (x1 x2 x3 : Value) (P : ProgV) (k m : Nat) : Prop where
  caps : w.ownsRow B 3 1 x1 P.caps.length (P.caps.flatMap fun x : Int => [Value.int .i64 x])
  codes : ∃ vs : List Value, w.ownsRow B 54 1 x2 k vs ∧ ∀ (i : Nat) (l : List InsV) (v : Value), P.codes[i]? = some l → vs[i]? = some v → w.ownsRow B 56 5 v l.length (l.flatMap InsV.cells)
  sites : ∃ ds : List (Value × Bool), w.ownsRow B 66 2 x3 m (dsCells ds) ∧ ds.length = m ∧ ∀ (i : Nat) (s : SiteV) (p : Value × Bool), P.sites[i]? = some s → ds[i]? = some p → p.2 = s.dflt ∧ w.ownsRow B 63 4 p.1 s.cases.length (s.cases.flatMap CaseV.cells)
theorem OwnAt.keeps {w w' : World} {B : Nat} {x1 x2 x3 : Value} {P : ProgV} {k m : Nat} (h : OwnAt w B x1 x2 x3 P k m) (hk : Keeps 44 w w') : OwnAt w' B x1 x2 x3 P k m := by
  obtain ⟨h1, ⟨vs, h2, h3⟩, ds, h4, h5, h6⟩ := h
  exact ⟨own_keeps h1 hk (by decide), ⟨vs, own_keeps h2 hk (by decide), fun i l v a b => own_keeps (h3 i l v a b) hk (by decide)⟩, ds, own_keeps h4 hk (by decide), h5, fun i s p a b => ⟨(h6 i s p a b).1, own_keeps (h6 i s p a b).2 hk (by decide)⟩⟩
/-- A code more. -/
theorem OwnAt.code {w w' : World} {B : Nat} {x1 x2 x3 y : Value} {P : ProgV} {k m : Nat} (h : OwnAt w B x1 x2 x3 P k m) (hk : Keeps 54 w w') {vs : List Value} (hlen : vs.length = k) (hvs : ∀ (i : Nat) (l : List InsV) (v : Value), P.codes[i]? = some l → vs[i]? = some v → w.ownsRow B 56 5 v l.length (l.flatMap InsV.cells))
    {v : Value} {l : List InsV} (hl : P.codes[k]? = some l) (hv : w'.ownsRow B 56 5 v l.length (l.flatMap InsV.cells)) (hy : w'.ownsRow B 54 1 y (k + 1) (vs ++ [v])) : OwnAt w' B x1 y x3 P (k + 1) m := by
  obtain ⟨h1, _, ds, h4, h5, h6⟩ := h
  refine ⟨own_keeps h1 hk (by decide), ⟨_, hy, fun i l' v' a b => ?_⟩, ds, own_keeps h4 hk (by decide), h5, fun i s p a b => ⟨(h6 i s p a b).1, own_keeps (h6 i s p a b).2 hk (by decide)⟩⟩
  by_cases hi : i < k
  · rw [List.getElem?_append_left (by omega)] at b
    exact own_keeps (hvs i l' v' a b) hk (by decide)
  · have hi2 := (List.getElem?_eq_some_iff.1 b).1
    simp only [List.length_append, List.length_singleton] at hi2
    obtain rfl : i = k := by omega
    rw [List.getElem?_append_right (by omega), hlen, Nat.sub_self] at b
    obtain rfl : v = v' := by simpa using b
    rw [hl] at a
    obtain rfl : l = l' := by simpa using a
    exact hv
/-- A site more. -/
theorem OwnAt.site {w w' : World} {B : Nat} {x1 x2 x3 y : Value} {P : ProgV} {k m : Nat} (h : OwnAt w B x1 x2 x3 P k m) (hk : Keeps 66 w w') {ds : List (Value × Bool)} (hlen : ds.length = m) (hds : ∀ (i : Nat) (s : SiteV) (p : Value × Bool), P.sites[i]? = some s → ds[i]? = some p → p.2 = s.dflt ∧ w.ownsRow B 63 4 p.1 s.cases.length (s.cases.flatMap CaseV.cells))
    {v : Value} {s : SiteV} (hs : P.sites[m]? = some s) (hv : w'.ownsRow B 63 4 v s.cases.length (s.cases.flatMap CaseV.cells)) (hy : w'.ownsRow B 66 2 y (m + 1) (dsCells ds ++ [v, .bool s.dflt])) : OwnAt w' B x1 x2 y P k (m + 1) := by
  obtain ⟨h1, ⟨vs, h2, h3⟩, _⟩ := h
  refine ⟨own_keeps h1 hk (by decide), ⟨vs, own_keeps h2 hk (by decide), fun i l v a b => own_keeps (h3 i l v a b) hk (by decide)⟩, ds ++ [(v, s.dflt)], by simpa [dsCells] using hy, by simp [hlen], fun i s' p a b => ?_⟩
  by_cases hi : i < m
  · rw [List.getElem?_append_left (by omega)] at b
    exact ⟨(hds i s' p a b).1, own_keeps (hds i s' p a b).2 hk (by decide)⟩
  · have hi2 := (List.getElem?_eq_some_iff.1 b).1
    simp only [List.length_append, List.length_singleton] at hi2
    obtain rfl : i = m := by omega
    rw [List.getElem?_append_right (by omega), hlen, Nat.sub_self] at b
    obtain rfl : (v, s.dflt) = p := by simpa using b
    rw [hs] at a
    obtain rfl : s = s' := by simpa using a
    exact ⟨rfl, hv⟩
theorem own_slice {α : Type} {d : Kn α} {w : World} {B E : Nat} {v : Value} {l : List α} {vs : List Value} {enc : Value → α → List Value} (h : w.ownsRow B E d.sz v l.length vs) (hl : l.length ≤ 140737488351232)
    (hx : ∀ i x, l[i]? = some x → ∃ cs, d.K w x cs ∧ ∀ j u, cs[j]? = some u → vs[i * d.sz + j]? = some u) : d.R w v l := by
  rcases h.2 with ⟨rfl, h0⟩ | ⟨g, cap, cur, rfl, hg, hb, h1, h2, h3, h4⟩
  · exact ⟨none, 0, by rw [h0], by omega, Nat.zero_le _, hl, fun h => by omega⟩
  · refine ⟨_, _, rfl, h1, h2, hl, fun _ => ⟨g, 0, rfl, (Array.getElem?_eq_some_iff.1 hb).1, fun i x hi => ?_⟩⟩
    obtain ⟨cs, hk, hc⟩ := hx i x hi
    refine ⟨cs, hk, fun j u hj => ?_⟩
    have h5 := hc j u hj
    rw [← h4, List.getElem?_take] at h5
    simp only [World.cell?, hb, Nat.zero_add]
    rw [← Array.getElem?_toList]
    split at h5
    · exact h5
    · cases h5
/-- A whole copy reads as the program. -/
theorem OwnAt.reads {w : World} {B : Nat} {x1 x2 x3 : Value} {P : ProgV} (h : OwnAt w B x1 x2 x3 P P.codes.length P.sites.length) (wc : ∀ x ∈ P.caps, I64 x) (wi : ∀ l ∈ P.codes, ∀ x ∈ l, InsV.wf x) (ws : ∀ s ∈ P.sites, ∀ x ∈ s.cases, CaseV.wf x)
    (l1 : P.caps.length ≤ 140737488351232) (l2 : P.codes.length ≤ 140737488351232) (l3 : P.sites.length ≤ 140737488351232) (l4 : ∀ l ∈ P.codes, l.length ≤ 140737488351232) (l5 : ∀ s ∈ P.sites, s.cases.length ≤ 140737488351232) : RProg w x1 x2 x3 P := by
  obtain ⟨h1, ⟨vs, h2, h3⟩, ds, h4, h5, h6⟩ := h
  refine ⟨own_R (sz := 1) (enc := fun x : Int => [Value.int .i64 x]) (Q := I64) (fun _ => rfl) h1 wc l1, own_slice (d := kIns.slice) (enc := fun v _ => [v]) h2 l2 fun i l hi => ?_, own_slice (d := kSite) (enc := fun v _ => [v]) h4 l3 fun i s hi => ?_⟩
  · have hlen : vs.length = P.codes.length := by have := h2.1; omega
    have hlt := (List.getElem?_eq_some_iff.1 hi).1
    have hm := List.mem_of_getElem? hi
    refine ⟨[vs[i]], ⟨_, rfl, own_R (sz := 5) (enc := InsV.cells) (Q := InsV.wf) (fun _ => rfl) (h3 i l _ hi (List.getElem?_eq_getElem (by omega))) (wi l hm) (l4 l hm)⟩, fun j u hj => ?_⟩
    obtain rfl : j = 0 := by
      have := (List.getElem?_eq_some_iff.1 hj).1
      simpa using this
    obtain rfl : vs[i] = u := by simpa using hj
    show vs[i * 1 + 0]? = _
    rw [Nat.mul_one, Nat.add_zero, List.getElem?_eq_getElem]
  · have hlt := (List.getElem?_eq_some_iff.1 hi).1
    have hm := List.mem_of_getElem? hi
    have hp : ds[i]? = some ds[i] := List.getElem?_eq_getElem (by omega)
    obtain ⟨hd, ho⟩ := h6 i s _ hi hp
    refine ⟨[(ds[i]).1, .bool s.dflt], ⟨_, rfl, own_R (sz := 4) (enc := CaseV.cells) (Q := CaseV.wf) (fun _ => rfl) ho (ws s hm) (l5 s hm)⟩, fun j u hj => ?_⟩
    exact flatMap_put (f := fun p : Value × Bool => [p.1, .bool p.2]) (sz := 2) (fun _ => rfl) ds i j _ u hp (by rw [← hd] at hj; exact hj)
end Go.Proofs.Ytljfloopjgpaeaa
