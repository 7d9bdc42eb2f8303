/- Two copies, and what is written into the one. No program text is walked here. -/
import Derived.Test.YtljfloopjgpaeaaNG
import Derived.Test.YtljfloopjgpaeaaQD
namespace Go.Proofs.Ytljfloopjgpaeaa
set_option linter.unusedVariables false
set_option linter.unusedSimpArgs false
open Go.RowKit
set_option maxRecDepth 100000

def hiB (v : Value) (m : Nat) : Prop := ∀ k, v.ownBlock = some k → k < m
/-- A whole copy, between two blocks' numbers. -/
structure OwnI (w : World) (lo hi : Nat) (x1 x2 x3 : Value) (P : ProgV) : Prop where
  caps : w.ownsRow lo 3 1 x1 P.caps.length (P.caps.flatMap fun x : Int => [Value.int .i64 x]) ∧ hiB x1 hi
  codes : ∃ vs : List Value, (w.ownsRow lo 54 1 x2 P.codes.length vs ∧ hiB x2 hi) ∧ ∀ (i : Nat) (l : List InsV) (v : Value), P.codes[i]? = some l → vs[i]? = some v → w.ownsRow lo 56 5 v l.length (l.flatMap InsV.cells) ∧ hiB v hi
  sites : ∃ ds : List (Value × Bool), (w.ownsRow lo 66 2 x3 P.sites.length (dsCells ds) ∧ hiB x3 hi) ∧ ds.length = P.sites.length ∧ ∀ (i : Nat) (s : SiteV) (p : Value × Bool), P.sites[i]? = some s → ds[i]? = some p → p.2 = s.dflt ∧ w.ownsRow lo 63 4 p.1 s.cases.length (s.cases.flatMap CaseV.cells) ∧ hiB p.1 hi
theorem own_hi {w : World} {B e sz n : Nat} {v : Value} {xs : List Value} (h : w.ownsRow B e sz v n xs) : hiB v w.heap.size := fun k hk => (h.lt k hk).2
theorem OwnAt.ivl {w : World} {B : Nat} {x1 x2 x3 : Value} {P : ProgV} (h : OwnAt w B x1 x2 x3 P P.codes.length P.sites.length) : OwnI w B w.heap.size x1 x2 x3 P := by
  obtain ⟨h1, ⟨vs, h2, h3⟩, ds, h4, h5, h6⟩ := h
  exact ⟨⟨h1, own_hi h1⟩, ⟨vs, ⟨h2, own_hi h2⟩, fun i l v a b => ⟨h3 i l v a b, own_hi (h3 i l v a b)⟩⟩, ds, ⟨h4, own_hi h4⟩, h5, fun i s p a b => ⟨(h6 i s p a b).1, (h6 i s p a b).2, own_hi (h6 i s p a b).2⟩⟩
theorem OwnI.at {w : World} {B m : Nat} {x1 x2 x3 : Value} {P : ProgV} (h : OwnI w B m x1 x2 x3 P) : OwnAt w B x1 x2 x3 P P.codes.length P.sites.length := by
  obtain ⟨h1, ⟨vs, h2, h3⟩, ds, h4, h5, h6⟩ := h
  exact ⟨h1.1, ⟨vs, h2.1, fun i l v a b => (h3 i l v a b).1⟩, ds, h4.1, h5, fun i s p a b => ⟨(h6 i s p a b).1, (h6 i s p a b).2.1⟩⟩
theorem OwnI.keeps {w w' : World} {B m : Nat} {x1 x2 x3 : Value} {P : ProgV} (h : OwnI w B m x1 x2 x3 P) (hk : Keeps 44 w w') : OwnI w' B m x1 x2 x3 P := by
  obtain ⟨h1, ⟨vs, h2, h3⟩, ds, h4, h5, h6⟩ := h
  exact ⟨⟨own_keeps h1.1 hk (by decide), h1.2⟩, ⟨vs, ⟨own_keeps h2.1 hk (by decide), h2.2⟩, fun i l v a b => ⟨own_keeps (h3 i l v a b).1 hk (by decide), (h3 i l v a b).2⟩⟩, ds, ⟨own_keeps h4.1 hk (by decide), h4.2⟩, h5, fun i s p a b => ⟨(h6 i s p a b).1, own_keeps (h6 i s p a b).2.1 hk (by decide), (h6 i s p a b).2.2⟩⟩
theorem OwnAt.base {w : World} {B B' : Nat} {x1 x2 x3 : Value} {P : ProgV} {k m : Nat} (h : OwnAt w B x1 x2 x3 P k m) (hB : B' ≤ B) : OwnAt w B' x1 x2 x3 P k m := by
  obtain ⟨h1, ⟨vs, h2, h3⟩, ds, h4, h5, h6⟩ := h
  exact ⟨own_base h1 hB, ⟨vs, own_base h2 hB, fun i l v a b => own_base (h3 i l v a b) hB⟩, ds, own_base h4 hB, h5, fun i s p a b => ⟨(h6 i s p a b).1, own_base (h6 i s p a b).2 hB⟩⟩
theorem Keeps.of_only {T : Nat} {w w' : World} {g : Nat} {cs : Array Value} {z : Nat × Nat} (hb : w.heap[g]? = some (.cells cs T z)) (ho : Lx.OnlyAt g w w') : Keeps T w w' := fun k cur e z' hk he => by
  refine ho.block k ?_
  rintro rfl
  rw [hb] at hk
  injection hk with hk
  injection hk with _ h2
  exact he h2.symm
/-- The first copy; the second one. -/
def cpA (B : Nat) (P : ProgV) (v : Value) (φ : World → Prop) : Prop := ∃ x1 x2 x3, v = .agg #[x1, x2, x3] ∧ (∃ A n c, x1 = .slice A n c) ∧ (∃ A n c, x2 = .slice A n c) ∧ (∃ A n c, x3 = .slice A n c) ∧ φ = fun w => OwnAt w B x1 x2 x3 P P.codes.length P.sites.length
def cpB (B : Nat) (x1 x2 x3 : Value) (P : ProgV) (v : Value) (φ : World → Prop) : Prop := ∃ y1 y2 y3, v = .agg #[y1, y2, y3] ∧ (∃ A n c, y1 = .slice A n c) ∧ (∃ A n c, y2 = .slice A n c) ∧ (∃ A n c, y3 = .slice A n c) ∧ φ = fun w => ∃ m, B ≤ m ∧ OwnI w B m x1 x2 x3 P ∧ OwnAt w m y1 y2 y3 P P.codes.length P.sites.length
theorem cpA_ok (B : Nat) (P : ProgV) : (∃ v φ, cpA B P v φ) ∧ ∀ v φ, cpA B P v φ → Lx.Stable φ :=
  ⟨⟨_, _, .slice none 0 0, .slice none 0 0, .slice none 0 0, rfl, ⟨_, _, _, rfl⟩, ⟨_, _, _, rfl⟩, ⟨_, _, _, rfl⟩, rfl⟩, by rintro _ _ ⟨_, _, _, rfl, _, _, _, rfl⟩; exact fun w w' h hb => h.keeps (Keeps.of_below hb)⟩
theorem cpB_ok (B : Nat) (x1 x2 x3 : Value) (P : ProgV) : (∃ v φ, cpB B x1 x2 x3 P v φ) ∧ ∀ v φ, cpB B x1 x2 x3 P v φ → Lx.Stable φ :=
  ⟨⟨_, _, .slice none 0 0, .slice none 0 0, .slice none 0 0, rfl, ⟨_, _, _, rfl⟩, ⟨_, _, _, rfl⟩, ⟨_, _, _, rfl⟩, rfl⟩, by rintro _ _ ⟨_, _, _, rfl, _, _, _, rfl⟩; rintro w w' ⟨m, h0, h1, h2⟩ hb; exact ⟨m, h0, h1.keeps (Keeps.of_below hb), h2.keeps (Keeps.of_below hb)⟩⟩
theorem OwnAt.vals {w : World} {B : Nat} {x1 x2 x3 : Value} {P : ProgV} {k m : Nat} (h : OwnAt w B x1 x2 x3 P k m) : (∃ A n c, x1 = .slice A n c) ∧ (∃ A n c, x2 = .slice A n c) ∧ (∃ A n c, x3 = .slice A n c) :=
  ⟨own_val h.caps, own_val h.codes.choose_spec.1, own_val h.sites.choose_spec.1⟩
theorem cpA_any {B : Nat} {w : World} {c1 c2 c3 : Value} {P : ProgV} (h : RProg w c1 c2 c3 P) (hs : Small P) (hB : B ≤ w.heap.size) :
    Calls Try.prog 26 #[.agg #[c1, c2, c3]] w fun e w' => ∃ v φ, e = .returned v ∧ cpA B P v φ ∧ φ w' ∧ Below w.heap.size w w' :=
  (copy_any h hs.caps hs.codes hs.sites hs.code hs.site).mono fun _ _ ⟨_, _, _, he, ho, hb⟩ => ⟨_, _, he, ⟨_, _, _, rfl, ho.vals.1, ho.vals.2.1, ho.vals.2.2, rfl⟩, ho.base hB, hb⟩
theorem cpB_any {B : Nat} {w : World} {c1 c2 c3 x1 x2 x3 : Value} {P : ProgV} (h : RProg w c1 c2 c3 P) (hs : Small P) (hB : B ≤ w.heap.size) (ha : OwnAt w B x1 x2 x3 P P.codes.length P.sites.length) :
    Calls Try.prog 26 #[.agg #[c1, c2, c3]] w fun e w' => ∃ v φ, e = .returned v ∧ cpB B x1 x2 x3 P v φ ∧ φ w' ∧ Below w.heap.size w w' :=
  (copy_any h hs.caps hs.codes hs.sites hs.code hs.site).mono fun _ _ ⟨_, _, _, he, ho, hb⟩ => ⟨_, _, he, ⟨_, _, _, rfl, ho.vals.1, ho.vals.2.1, ho.vals.2.2, rfl⟩, ⟨_, hB, ha.ivl.keeps (Keeps.of_below hb), ho⟩, hb⟩

/-- Written alone: into blocks from B to m, of no program and no sites; their sizes stay. -/
structure Wrote (B m : Nat) (w w' : World) : Prop where
  os : w'.os = w.os
  tape : w'.tape = w.tape
  output : w'.output = w.output
  size : w'.heap.size = w.heap.size
  far : ∀ k, (k < B ∨ m ≤ k) → w'.heap[k]? = w.heap[k]?
  fixed : ∀ (k : Nat) (cur : Array Value) (e : Nat) (z : Nat × Nat), w.heap[k]? = some (Obj.cells cur e z) → (e = 44 ∨ e = 66) → w'.heap[k]? = w.heap[k]?
  shape : ∀ (k : Nat) (cur : Array Value) (e : Nat) (z : Nat × Nat), w.heap[k]? = some (Obj.cells cur e z) → ∃ cur', w'.heap[k]? = some (Obj.cells cur' e z) ∧ cur'.size = cur.size
theorem Wrote.refl (B m : Nat) (w : World) : Wrote B m w w := ⟨rfl, rfl, rfl, rfl, fun _ _ => rfl, fun _ _ _ _ _ _ => rfl, fun _ cur _ _ h => ⟨cur, h, rfl⟩⟩
theorem Wrote.set {B m : Nat} {w w' : World} (h : Wrote B m w w') {g : Nat} (hg : B ≤ g ∧ g < m) {cur : Array Value} {e : Nat} {z : Nat × Nat} (hb : w.heap[g]? = some (Obj.cells cur e z)) (he : e ≠ 44 ∧ e ≠ 66) (i : Nat) (v : Value) : Wrote B m w (w'.setCell ⟨g, i, none⟩ v) := by
  obtain ⟨c', hc', hs'⟩ := h.shape g cur e z hb
  refine ⟨h.os, h.tape, h.output, by simpa [World.setCell] using h.size, fun k hk => ?_, fun k cu e2 z2 hk he2 => ?_, fun k cu e2 z2 hk => ?_⟩
  · exact (Below.heap_setCell _ _ _ _ (by show k ≠ g; omega)).trans (h.far k hk)
  · refine (Below.heap_setCell _ _ _ _ ?_).trans (h.fixed k cu e2 z2 hk he2)
    rintro rfl
    rw [hb] at hk
    injection hk with hk
    injection hk with _ h2
    rcases he2 with q | q
    · exact he.1 (h2.trans q)
    · exact he.2 (h2.trans q)
  · by_cases q : k = g
    · subst q
      rw [hb] at hk
      injection hk with hk
      injection hk with h1 h2 h3
      subst h1 h2 h3
      exact ⟨_, set_block hc' i v, by rw [Array.size_setIfInBounds, hs']⟩
    · obtain ⟨c2, h2, h3⟩ := h.shape k cu e2 z2 hk
      exact ⟨c2, (Below.heap_setCell _ _ _ _ q).trans h2, h3⟩
theorem Wrote.below {B m : Nat} {w w' : World} (h : Wrote B m w w') : Below B w w' := ⟨h.os, h.tape, h.output, Nat.le_of_eq h.size.symm, fun k hk => h.far k (.inl hk)⟩
/-- What lies from m on stays. -/
theorem own_above {B m : Nat} {w w' : World} (h : Wrote B m w w') {e sz n : Nat} {v : Value} {xs : List Value} (ho : w.ownsRow m e sz v n xs) : w'.ownsRow m e sz v n xs := by
  refine ⟨ho.1, ?_⟩
  rcases ho.2 with q | ⟨g, cap, cur, hv, hB, hh, rest⟩
  · exact .inl q
  · exact .inr ⟨g, cap, cur, hv, hB, (h.far g (.inr hB)).trans hh, rest⟩
theorem Wrote.keep {B m : Nat} {w w' : World} (h : Wrote B m w w') {y1 y2 y3 : Value} {P : ProgV} {k j : Nat} (ho : OwnAt w m y1 y2 y3 P k j) : OwnAt w' m y1 y2 y3 P k j := by
  obtain ⟨h1, ⟨vs, h2, h3⟩, ds, h4, h5, h6⟩ := ho
  exact ⟨own_above h h1, ⟨vs, own_above h h2, fun i l v a b => own_above h (h3 i l v a b)⟩, ds, own_above h h4, h5, fun i s p a b => ⟨(h6 i s p a b).1, own_above h (h6 i s p a b).2⟩⟩
/-- Where an element lies, and that it may be written. -/
theorem row_at {B m : Nat} {w w' : World} (h : Wrote B m w w') {lo e sz n : Nat} {v : Value} {xs : List Value} (ho : w.ownsRow lo e sz v n xs) (hn : 0 < n) : ∃ g cap cur, v = .slice (some ⟨g, 0, none⟩) n cap ∧ lo ≤ g ∧ w.heap[g]? = some (Obj.cells cur e (0, 0)) ∧ g < w'.heap.size ∧
    (∀ j, j < n * sz → ∃ u, w'.cell? ⟨g, j, none⟩ = some u) ∧ ∀ j, w'.frozen? ⟨g, j, none⟩ = false := by
  rcases ho.2 with ⟨_, h0⟩ | ⟨g, cap, cur, hv, hB, hh, h1, h2, h3, h4⟩
  · omega
  · obtain ⟨c', hc', hs'⟩ := h.shape g cur e (0, 0) hh
    have hle : n * sz ≤ cap * sz := Nat.mul_le_mul_right sz h1
    refine ⟨g, cap, cur, hv, hB, hh, (Array.getElem?_eq_some_iff.1 hc').1, fun j hj => ?_, fun j => ?_⟩
    · refine ⟨c'[j]'(by omega), ?_⟩
      simp only [World.cell?, hc']
      exact Array.getElem?_eq_getElem _
    · simp [World.frozen?, hc']
end Go.Proofs.Ytljfloopjgpaeaa
