/- What an argument that can be read as data tells of its cells: slices, structs (the part that knows no type of a program). -/
import Derived.Test.YtljfloopjgpaeabDoorA
import Derived.OpenShut
import Derived.SizedLaws
import Derived.ProofKit
namespace Go.Proofs.YtljfloopjgpaeabDoor
set_option linter.unusedVariables false
set_option linter.unusedSimpArgs false
open Go.RowKit
set_option maxRecDepth 100000

section
variable {H : Type} {enc : TypeId × Value → H} {P : Program} {w : World} {base : Nat} {sp : Nat → Bool} {held : Bool}

/-- What is read of type t has cells of which K holds. -/
def Opens (enc : TypeId × Value → H) (P : Program) (w : World) (base : Nat) (sp : Nat → Bool) (held : Bool) (t : TypeId) {α : Type} (K : α → List Value → Prop) : Prop :=
  ∀ fuel cs x, DataW.trod enc P w base sp held fuel t cs = some x → (∀ n ∈ x.1.weights P t, n ≤ reachBytes) → ∃ a, K a cs

theorem opens_int {t : TypeId} {k : IntKind} (ht : P.underlying t = some (.int k)) : Opens enc P w base sp held t (fun (a : Int) cs => cs = [.int k a] ∧ (Lit.int k a).wf = true) := fun fuel cs x h _ => by
  obtain ⟨n, h1, _, h2⟩ := DataW.trod_int ht h
  exact ⟨n, h1, h2⟩
theorem opens_bool {t : TypeId} (ht : P.underlying t = some .bool) : Opens enc P w base sp held t (fun (b : Bool) cs => cs = [.bool b]) := fun fuel cs x h _ => by
  obtain ⟨b, h1, _⟩ := DataW.trod_bool ht h
  exact ⟨b, h1⟩
theorem opens_string {t : TypeId} (ht : P.underlying t = some .string) : Opens enc P w base sp held t (fun (s : ByteArray) cs => cs = [.string s] ∧ s.size ≤ reachBytes) := fun fuel cs x h hw => by
  obtain ⟨s, h1, h2, _⟩ := DataW.trod_string ht h
  subst h2
  refine ⟨s, h1, ?_⟩
  have := hw s.data.toList.length (by simp [DataW.weights])
  rw [Array.length_toList] at this
  exact this

theorem list_of {α : Type} {p : Nat → α → Prop} : ∀ n, (∀ i, i < n → ∃ a, p i a) → ∃ l : List α, l.length = n ∧ ∀ i a, l[i]? = some a → p i a
  | 0, _ => ⟨[], rfl, fun i a h => by simp at h⟩
  | n + 1, h => by
    obtain ⟨l, h1, h2⟩ := list_of n (fun i hi => h i (by omega))
    obtain ⟨a, ha⟩ := h n (by omega)
    refine ⟨l ++ [a], by simp [h1], fun i b hb => ?_⟩
    by_cases hi : i < n
    · exact h2 i b (by rwa [List.getElem?_append_left (by omega)] at hb)
    · rw [List.getElem?_append_right (by omega), h1] at hb
      obtain rfl : i = n := by
        have := (List.getElem?_eq_some_iff.1 hb).1
        simp at this
        omega
      simp at hb
      exact hb ▸ ha
theorem weights_mem_all {e : TypeId} : ∀ {l : List (DataW H)} {d : DataW H}, d ∈ l → ∀ n ∈ d.weights P e, n ∈ DataW.weightsAll P e l
  | a :: l, d, h, n, hn => by
    rcases List.mem_cons.1 h with rfl | h
    · simp only [DataW.weightsAll, List.mem_append]; exact .inl hn
    · simp only [DataW.weightsAll, List.mem_append]; exact .inr (weights_mem_all h n hn)

/-- A slice of what can be opened. -/
theorem opens_slice {α : Type} {d : Kn α} {t e : TypeId} (ht : P.underlying t = some (.slice e)) (hc : P.cellsOf e = d.sz) (hpos : 0 < d.sz) (hby : 0 < P.bytesOf e) (he : Opens enc P w base sp held e (d.K w)) :
    Opens enc P w base sp held t (fun l cs => ∃ v, cs = [v] ∧ d.R w v l) := fun fuel cs x h hw => by
  rcases DataW.trod_slice ht h with ⟨rfl, _⟩ | ⟨a, len, cap, elems, rest, n, _, rfl, rfl, hb, hl, hm, hlen, hel, _, _⟩
  · exact ⟨[], _, rfl, _, _, rfl, Nat.le_refl _, Nat.zero_le _, Nat.zero_le _, fun h => absurd h (Nat.lt_irrefl _)⟩
  · have hwt : (elems.length + rest.length) * P.bytesOf e ≤ reachBytes := hw _ (by simp [DataW.weights, ht])
    have hlr : len ≤ 140737488351232 := by
      have h1 : elems.length ≤ (elems.length + rest.length) * P.bytesOf e := Nat.le_trans (Nat.le_add_right _ _) (Nat.le_mul_of_pos_right _ hby)
      have h2 : reachBytes = 140737488351232 := rfl
      omega
    have each : ∀ i, i < len → ∃ y : α, ∃ c, d.K w y c ∧ ∀ j u, c[j]? = some u → w.cell? ((a.add (i * d.sz)).add j) = some u := fun i hi => by
      have h1 := hel i hi
      rw [List.getElem?_eq_getElem (by omega), Option.bind_eq_some_iff, hc] at h1
      obtain ⟨c, h2, h3⟩ := h1
      obtain ⟨_, h4, h5⟩ := World.cells?_some h2
      obtain ⟨y, hy⟩ := he _ _ _ h3 (fun q hq => hw q (by
        simp only [DataW.weights, ht, List.mem_cons, List.mem_append]
        exact .inr (.inl (weights_mem_all (List.mem_map.2 ⟨_, List.getElem_mem (by omega), rfl⟩) q hq))))
      exact ⟨y, c, hy, fun j u hj => (h5 j (by rw [← h4]; exact (List.getElem?_eq_some_iff.1 hj).1)).trans hj⟩
    obtain ⟨l, hl1, hl2⟩ := list_of len each
    subst hl1
    refine ⟨l, _, rfl, _, _, rfl, hl, hm, hlr, fun h0 => ?_⟩
    -- the first element's first cell: the address is plain
    have hsp : a.spot = none ∧ a.block < w.heap.size := by
      have h1 := hel 0 h0
      rw [List.getElem?_eq_getElem (by omega), Option.bind_eq_some_iff, hc] at h1
      obtain ⟨c, h2, _⟩ := h1
      refine ⟨?_, by have := World.cells?_block h2 hpos; simpa [Addr.add] using this⟩
      obtain ⟨_, h4, h5⟩ := World.cells?_some h2
      have h6 := h5 0 hpos
      rw [List.getElem?_eq_getElem (by omega)] at h6
      simp only [Nat.zero_mul, Addr.add, if_true, World.cell?] at h6
      split at h6
      · cases hs : a.spot with
        | none => rfl
        | some q => simp [hs] at h6
      · cases h6
    obtain ⟨b, o, spt⟩ := a
    obtain ⟨rfl, hbl⟩ : spt = none ∧ b < w.heap.size := hsp
    refine ⟨b, o, rfl, hbl, fun i y hi => ?_⟩
    obtain ⟨c, h1, h2⟩ := hl2 i y hi
    refine ⟨c, h1, fun j u hj => ?_⟩
    have h3 := h2 j u hj
    have e1 : ((⟨b, o, none⟩ : Addr).add (i * d.sz)).add j = ⟨b, o + i * d.sz + j, none⟩ := by
      unfold Addr.add
      split <;> split <;> simp_all
    rw [e1] at h3
    exact h3

/-- A struct's field. -/
theorem opens_field {t : TypeId} {fs : Array Field} (ht : P.underlying t = some (.struct fs)) {fuel : Nat} {cs : List Value} {x : DataW H × List MemPlace} (h : DataW.trod enc P w base sp held fuel t cs = some x) (hw : ∀ n ∈ x.1.weights P t, n ≤ reachBytes)
    (i : Nat) {f : Field} (hf : fs[i]? = some f) {α : Type} {K : α → List Value → Prop} (ho : Opens enc P w base sp held f.type K) : ∃ a, K a ((cs.drop f.offset).take (P.cellsOf f.type)) := by
  obtain ⟨xs, n, _, rfl, _, hxl, hx⟩ := DataW.trod_struct ht h
  have h1 := hx i f hf
  have hi : i < xs.length := by rw [hxl]; exact (Array.getElem?_eq_some_iff.1 hf).1
  rw [List.getElem?_eq_getElem hi] at h1
  refine ho _ _ _ h1 (fun q hq => hw q ?_)
  simp only [DataW.weights, ht]
  exact DataW.weights_mem_each (j := i) (t := f.type) (d := xs[i].1) (by simp [hf]) (by simp [List.getElem?_eq_getElem hi]) q hq
theorem struct_len {t : TypeId} {fs : Array Field} (ht : P.underlying t = some (.struct fs)) {fuel : Nat} {cs : List Value} {x : DataW H × List MemPlace} (h : DataW.trod enc P w base sp held fuel t cs = some x) : cs.length = P.cellsOf t := by
  obtain ⟨xs, n, _, rfl, h1, _, _⟩ := DataW.trod_struct ht h
  exact h1
theorem array_at {t e : TypeId} {m : Nat} (ht : P.underlying t = some (.array m e)) {fuel : Nat} {cs : List Value} {x : DataW H × List MemPlace} (h : DataW.trod enc P w base sp held fuel t cs = some x) (hw : ∀ n ∈ x.1.weights P t, n ≤ reachBytes)
    (i : Nat) (hi : i < m) {α : Type} {K : α → List Value → Prop} (ho : Opens enc P w base sp held e K) : ∃ a, K a ((cs.drop (i * P.cellsOf e)).take (P.cellsOf e)) := by
  obtain ⟨xs, n, _, rfl, _, hxl, hx⟩ := DataW.trod_array ht h
  have h1 := hx i hi
  rw [List.getElem?_eq_getElem (by omega)] at h1
  refine ho _ _ _ h1 (fun q hq => hw q ?_)
  simp only [DataW.weights, ht]
  exact weights_mem_all (List.mem_map.2 ⟨_, List.getElem_mem (by omega), rfl⟩) q hq

theorem wfI64 {n : Int} (h : (Lit.int .i64 n).wf = true) : I64 n := by
  simp [Lit.wf, IntKind.min, IntKind.max, IntKind.signed, IntKind.bits] at h
  exact h
theorem wfU8 {n : Int} (h : (Lit.int .u8 n).wf = true) : U8 n := by
  simp [Lit.wf, IntKind.min, IntKind.max, IntKind.signed, IntKind.bits] at h
  exact ⟨h.1, by omega⟩
theorem wfU16 {n : Int} (h : (Lit.int .u16 n).wf = true) : 0 ≤ n ∧ n ≤ 65535 := by
  simp [Lit.wf, IntKind.min, IntKind.max, IntKind.signed, IntKind.bits] at h
  exact ⟨h.1, by omega⟩
end
end Go.Proofs.YtljfloopjgpaeabDoor
