/- What an argument that can be read as data tells of its cells: slices, structs, programs, frames. -/
import Derived.Test.YtljfloopjgpaeaaK
import Derived.OpenShut
import Derived.SizedLaws
import Derived.ProofKit
namespace Go.Proofs.Ytljfloopjgpaeaa
set_option linter.unusedVariables false
set_option linter.unusedSimpArgs false
open Go.RowKit
set_option maxRecDepth 100000

section
variable {H : Type} {enc : TypeId × Value → H} {P : Program} {w : World} {base : Nat} {sp : Nat → Bool} {held : Bool}

/-- What is read of type t has cells of which K holds. -/
def Opens (enc : TypeId × Value → H) (P : Program) (w : World) (base : Nat) (sp : Nat → Bool) (held : Bool) (t : TypeId) {α : Type} (K : α → List Value → Prop) : Prop :=
  ∀ fuel cs x, DataW.trod enc P w base sp held fuel t cs = some x → (∀ n ∈ x.1.weights P t, n ≤ reachBytes) → ∃ a, K a cs

theorem opens_int {t : TypeId} {k : IntKind} (ht : P.underlying t = some (.int k)) : Opens enc P w base sp held t (fun (a : Int) cs => cs = [.int k a] ∧ (Lit.int k a).wf = true) := fun fuel cs x h _ => by
  obtain ⟨n, h1, _, h2⟩ := DataW.trod_int ht h
  exact ⟨n, h1, h2⟩
theorem opens_bool {t : TypeId} (ht : P.underlying t = some .bool) : Opens enc P w base sp held t (fun (b : Bool) cs => cs = [.bool b]) := fun fuel cs x h _ => by
  obtain ⟨b, h1, _⟩ := DataW.trod_bool ht h
  exact ⟨b, h1⟩
theorem opens_string {t : TypeId} (ht : P.underlying t = some .string) : Opens enc P w base sp held t (fun (s : ByteArray) cs => cs = [.string s] ∧ s.size ≤ reachBytes) := fun fuel cs x h hw => by
  obtain ⟨s, h1, h2, _⟩ := DataW.trod_string ht h
  subst h2
  refine ⟨s, h1, ?_⟩
  have := hw s.data.toList.length (by simp [DataW.weights])
  rw [Array.length_toList] at this
  exact this

theorem list_of {α : Type} {p : Nat → α → Prop} : ∀ n, (∀ i, i < n → ∃ a, p i a) → ∃ l : List α, l.length = n ∧ ∀ i a, l[i]? = some a → p i a
  | 0, _ => ⟨[], rfl, fun i a h => by simp at h⟩
  | n + 1, h => by
    obtain ⟨l, h1, h2⟩ := list_of n (fun i hi => h i (by omega))
    obtain ⟨a, ha⟩ := h n (by omega)
    refine ⟨l ++ [a], by simp [h1], fun i b hb => ?_⟩
    by_cases hi : i < n
    · exact h2 i b (by rwa [List.getElem?_append_left (by omega)] at hb)
    · rw [List.getElem?_append_right (by omega), h1] at hb
      obtain rfl : i = n := by
        have := (List.getElem?_eq_some_iff.1 hb).1
        simp at this
        omega
      simp at hb
      exact hb ▸ ha
theorem weights_mem_all {e : TypeId} : ∀ {l : List (DataW H)} {d : DataW H}, d ∈ l → ∀ n ∈ d.weights P e, n ∈ DataW.weightsAll P e l
  | a :: l, d, h, n, hn => by
    rcases List.mem_cons.1 h with rfl | h
    · simp only [DataW.weightsAll, List.mem_append]; exact .inl hn
    · simp only [DataW.weightsAll, List.mem_append]; exact .inr (weights_mem_all h n hn)

/-- A slice of what can be opened. -/
theorem opens_slice {α : Type} {d : Kn α} {t e : TypeId} (ht : P.underlying t = some (.slice e)) (hc : P.cellsOf e = d.sz) (hpos : 0 < d.sz) (hby : 0 < P.bytesOf e) (he : Opens enc P w base sp held e (d.K w)) :
    Opens enc P w base sp held t (fun l cs => ∃ v, cs = [v] ∧ d.R w v l) := fun fuel cs x h hw => by
  rcases DataW.trod_slice ht h with ⟨rfl, _⟩ | ⟨a, len, cap, elems, rest, n, _, rfl, rfl, hb, hl, hm, hlen, hel, _, _⟩
  · exact ⟨[], _, rfl, _, _, rfl, Nat.le_refl _, Nat.zero_le _, Nat.zero_le _, fun h => absurd h (Nat.lt_irrefl _)⟩
  · have hwt : (elems.length + rest.length) * P.bytesOf e ≤ reachBytes := hw _ (by simp [DataW.weights, ht])
    have hlr : len ≤ 140737488351232 := by
      have h1 : elems.length ≤ (elems.length + rest.length) * P.bytesOf e := Nat.le_trans (Nat.le_add_right _ _) (Nat.le_mul_of_pos_right _ hby)
      have h2 : reachBytes = 140737488351232 := rfl
      omega
    have each : ∀ i, i < len → ∃ y : α, ∃ c, d.K w y c ∧ ∀ j u, c[j]? = some u → w.cell? ((a.add (i * d.sz)).add j) = some u := fun i hi => by
      have h1 := hel i hi
      rw [List.getElem?_eq_getElem (by omega), Option.bind_eq_some_iff, hc] at h1
      obtain ⟨c, h2, h3⟩ := h1
      obtain ⟨_, h4, h5⟩ := World.cells?_some h2
      obtain ⟨y, hy⟩ := he _ _ _ h3 (fun q hq => hw q (by
        simp only [DataW.weights, ht, List.mem_cons, List.mem_append]
        exact .inr (.inl (weights_mem_all (List.mem_map.2 ⟨_, List.getElem_mem (by omega), rfl⟩) q hq))))
      exact ⟨y, c, hy, fun j u hj => (h5 j (by rw [← h4]; exact (List.getElem?_eq_some_iff.1 hj).1)).trans hj⟩
    obtain ⟨l, hl1, hl2⟩ := list_of len each
    subst hl1
    refine ⟨l, _, rfl, _, _, rfl, hl, hm, hlr, fun h0 => ?_⟩
    -- the first element's first cell: the address is plain
    have hsp : a.spot = none ∧ a.block < w.heap.size := by
      have h1 := hel 0 h0
      rw [List.getElem?_eq_getElem (by omega), Option.bind_eq_some_iff, hc] at h1
      obtain ⟨c, h2, _⟩ := h1
      refine ⟨?_, by have := World.cells?_block h2 hpos; simpa [Addr.add] using this⟩
      obtain ⟨_, h4, h5⟩ := World.cells?_some h2
      have h6 := h5 0 hpos
      rw [List.getElem?_eq_getElem (by omega)] at h6
      simp only [Nat.zero_mul, Addr.add, if_true, World.cell?] at h6
      split at h6
      · cases hs : a.spot with
        | none => rfl
        | some q => simp [hs] at h6
      · cases h6
    obtain ⟨b, o, spt⟩ := a
    obtain ⟨rfl, hbl⟩ : spt = none ∧ b < w.heap.size := hsp
    refine ⟨b, o, rfl, hbl, fun i y hi => ?_⟩
    obtain ⟨c, h1, h2⟩ := hl2 i y hi
    refine ⟨c, h1, fun j u hj => ?_⟩
    have h3 := h2 j u hj
    have e1 : ((⟨b, o, none⟩ : Addr).add (i * d.sz)).add j = ⟨b, o + i * d.sz + j, none⟩ := by
      unfold Addr.add
      split <;> split <;> simp_all
    rw [e1] at h3
    exact h3

/-- A struct's field. -/
theorem opens_field {t : TypeId} {fs : Array Field} (ht : P.underlying t = some (.struct fs)) {fuel : Nat} {cs : List Value} {x : DataW H × List MemPlace} (h : DataW.trod enc P w base sp held fuel t cs = some x) (hw : ∀ n ∈ x.1.weights P t, n ≤ reachBytes)
    (i : Nat) {f : Field} (hf : fs[i]? = some f) {α : Type} {K : α → List Value → Prop} (ho : Opens enc P w base sp held f.type K) : ∃ a, K a ((cs.drop f.offset).take (P.cellsOf f.type)) := by
  obtain ⟨xs, n, _, rfl, _, hxl, hx⟩ := DataW.trod_struct ht h
  have h1 := hx i f hf
  have hi : i < xs.length := by rw [hxl]; exact (Array.getElem?_eq_some_iff.1 hf).1
  rw [List.getElem?_eq_getElem hi] at h1
  refine ho _ _ _ h1 (fun q hq => hw q ?_)
  simp only [DataW.weights, ht]
  exact DataW.weights_mem_each (j := i) (t := f.type) (d := xs[i].1) (by simp [hf]) (by simp [List.getElem?_eq_getElem hi]) q hq
theorem struct_len {t : TypeId} {fs : Array Field} (ht : P.underlying t = some (.struct fs)) {fuel : Nat} {cs : List Value} {x : DataW H × List MemPlace} (h : DataW.trod enc P w base sp held fuel t cs = some x) : cs.length = P.cellsOf t := by
  obtain ⟨xs, n, _, rfl, h1, _, _⟩ := DataW.trod_struct ht h
  exact h1
theorem array_at {t e : TypeId} {m : Nat} (ht : P.underlying t = some (.array m e)) {fuel : Nat} {cs : List Value} {x : DataW H × List MemPlace} (h : DataW.trod enc P w base sp held fuel t cs = some x) (hw : ∀ n ∈ x.1.weights P t, n ≤ reachBytes)
    (i : Nat) (hi : i < m) {α : Type} {K : α → List Value → Prop} (ho : Opens enc P w base sp held e K) : ∃ a, K a ((cs.drop (i * P.cellsOf e)).take (P.cellsOf e)) := by
  obtain ⟨xs, n, _, rfl, _, hxl, hx⟩ := DataW.trod_array ht h
  have h1 := hx i hi
  rw [List.getElem?_eq_getElem (by omega)] at h1
  refine ho _ _ _ h1 (fun q hq => hw q ?_)
  simp only [DataW.weights, ht]
  exact weights_mem_all (List.mem_map.2 ⟨_, List.getElem_mem (by omega), rfl⟩) q hq

theorem wfI64 {n : Int} (h : (Lit.int .i64 n).wf = true) : I64 n := by
  simp [Lit.wf, IntKind.min, IntKind.max, IntKind.signed, IntKind.bits] at h
  exact h
theorem wfU8 {n : Int} (h : (Lit.int .u8 n).wf = true) : U8 n := by
  simp [Lit.wf, IntKind.min, IntKind.max, IntKind.signed, IntKind.bits] at h
  exact ⟨h.1, by omega⟩
theorem wfU16 {n : Int} (h : (Lit.int .u16 n).wf = true) : 0 ≤ n ∧ n ≤ 65535 := by
  simp [Lit.wf, IntKind.min, IntKind.max, IntKind.signed, IntKind.bits] at h
  exact ⟨h.1, by omega⟩
end

section
variable {H : Type} {enc : TypeId × Value → H} {w : World} {base : Nat} {sp : Nat → Bool} {held : Bool}
theorem cells1 : Try.prog.cellsOf 3 = 1 ∧ Try.prog.cellsOf 2 = 1 ∧ Try.prog.cellsOf 5 = 1 ∧ Try.prog.cellsOf 4 = 1 := ⟨by kernel_rfl, by kernel_rfl, by kernel_rfl, by kernel_rfl⟩
theorem opens_Ins : Opens enc Try.prog w base sp held 56 (kIns.K w) := fun fuel cs x h hw => by
  have hl := struct_len Try.underlying56 h
  rw [show Try.prog.cellsOf 56 = 5 by kernel_rfl] at hl
  obtain ⟨c1, c2, c3, c4⟩ := cells1
  obtain ⟨x0, h0, w0⟩ := opens_field Try.underlying56 h hw 0 rfl (opens_int Try.underlying5)
  obtain ⟨x1, h1, w1⟩ := opens_field Try.underlying56 h hw 1 rfl (opens_int Try.underlying3)
  obtain ⟨x2, h2, w2⟩ := opens_field Try.underlying56 h hw 2 rfl (opens_int Try.underlying3)
  obtain ⟨x3, h3, w3⟩ := opens_field Try.underlying56 h hw 3 rfl (opens_int Try.underlying3)
  obtain ⟨x4, h4, w4⟩ := opens_field Try.underlying56 h hw 4 rfl (opens_int Try.underlying2)
  match cs, hl with
  | [v0, v1, v2, v3, v4], _ =>
    simp [c1, c2, c3] at h0 h1 h2 h3 h4
    subst h0 h1 h2 h3 h4
    exact ⟨⟨x0, x1, x2, x3, x4⟩, rfl, wfU8 w0, wfI64 w1, wfI64 w2, wfI64 w3, wfI64 w4⟩
theorem opens_Case : Opens enc Try.prog w base sp held 63 (kCase.K w) := fun fuel cs x h hw => by
  have hl := struct_len Try.underlying63 h
  rw [show Try.prog.cellsOf 63 = 4 by kernel_rfl] at hl
  obtain ⟨c1, c2, c3, c4⟩ := cells1
  obtain ⟨x0, h0⟩ := opens_field Try.underlying63 h hw 0 rfl (opens_bool Try.underlying4)
  obtain ⟨x1, h1, w1⟩ := opens_field Try.underlying63 h hw 1 rfl (opens_int Try.underlying3)
  obtain ⟨x2, h2, w2⟩ := opens_field Try.underlying63 h hw 2 rfl (opens_int Try.underlying3)
  obtain ⟨x3, h3, w3⟩ := opens_field Try.underlying63 h hw 3 rfl (opens_int Try.underlying3)
  match cs, hl with
  | [v0, v1, v2, v3], _ =>
    simp [c1, c4] at h0 h1 h2 h3
    subst h0 h1 h2 h3
    exact ⟨⟨x0, x1, x2, x3⟩, rfl, wfI64 w1, wfI64 w2, wfI64 w3⟩
theorem opens_cases : Opens enc Try.prog w base sp held 64 (fun l cs => ∃ v, cs = [v] ∧ kCase.R w v l) := opens_slice Try.underlying64 (by kernel_rfl) (by decide) (by rw [show Try.prog.bytesOf 63 = 32 by kernel_rfl]; decide) opens_Case
theorem opens_inss : Opens enc Try.prog w base sp held 54 (fun l cs => ∃ v, cs = [v] ∧ kIns.R w v l) := opens_slice Try.underlying54 (by kernel_rfl) (by decide) (by rw [show Try.prog.bytesOf 56 = 40 by kernel_rfl]; decide) opens_Ins
theorem opens_Site : Opens enc Try.prog w base sp held 66 (kSite.K w) := fun fuel cs x h hw => by
  have hl := struct_len Try.underlying66 h
  rw [show Try.prog.cellsOf 66 = 2 by kernel_rfl] at hl
  obtain ⟨c1, c2, c3, c4⟩ := cells1
  obtain ⟨l, u, h0, hr⟩ := opens_field Try.underlying66 h hw 0 rfl opens_cases
  obtain ⟨x1, h1⟩ := opens_field Try.underlying66 h hw 1 rfl (opens_bool Try.underlying4)
  match cs, hl with
  | [v0, v1], _ =>
    simp [c4, show Try.prog.cellsOf 64 = 1 by kernel_rfl] at h0 h1
    subst h0 h1
    exact ⟨⟨l, x1⟩, v0, rfl, hr⟩
theorem opens_int64 : Opens enc Try.prog w base sp held 3 (kInt.K w) := fun fuel cs x h hw => by
  obtain ⟨n, h1, h2⟩ := opens_int (k := .i64) Try.underlying3 fuel cs x h hw
  exact ⟨n, h1, wfI64 h2⟩
/-- A program that came in. -/
theorem open_Program {r : Reach} {b0 : Nat} {v : Value} {d : DataW H} {ps : List MemPlace} (hval : Value.okWide Try.prog w r b0 44 v) (hd : DataW.Trod enc Try.prog w base sp held 44 v d ps) (hw : ∀ n ∈ d.weights Try.prog 44, n ≤ reachBytes) :
    ∃ c1 c2 c3 P, v = .agg #[c1, c2, c3] ∧ RProg w c1 c2 c3 P := by
  obtain ⟨cs, rfl, _⟩ := WideShapes.okWide_struct Try.underlying44 hval
  obtain ⟨fuel, h⟩ := hd
  have hl := struct_len Try.underlying44 h
  rw [show Try.prog.cellsOf 44 = 3 by kernel_rfl] at hl
  obtain ⟨l0, u0, h0, r0⟩ := opens_field Try.underlying44 h hw 0 rfl (opens_slice (d := kInt) Try.underlying38 (by kernel_rfl) (by decide) (by rw [show Try.prog.bytesOf 3 = 8 by kernel_rfl]; decide) opens_int64)
  obtain ⟨l1, u1, h1, r1⟩ := opens_field Try.underlying44 h hw 1 rfl (opens_slice (d := kIns.slice) Try.underlying41 (by kernel_rfl) (by decide) (by rw [show Try.prog.bytesOf 54 = 24 by kernel_rfl]; decide) opens_inss)
  obtain ⟨l2, u2, h2, r2⟩ := opens_field Try.underlying44 h hw 2 rfl (opens_slice (d := kSite) Try.underlying42 (by kernel_rfl) (by decide) (by rw [show Try.prog.bytesOf 66 = 32 by kernel_rfl]; decide) opens_Site)
  obtain ⟨cs⟩ := cs
  simp only [Value.cells] at hl h0 h1 h2
  match cs, hl with
  | [v0, v1, v2], _ =>
    simp [show Try.prog.cellsOf 38 = 1 by kernel_rfl, show Try.prog.cellsOf 41 = 1 by kernel_rfl, show Try.prog.cellsOf 42 = 1 by kernel_rfl] at h0 h1 h2
    subst h0 h1 h2
    exact ⟨v0, v1, v2, ⟨l0, l1, l2⟩, rfl, r0, r1, r2⟩
theorem opens_regs : Opens enc Try.prog w base sp held 45 (fun (l : List Int) cs => l.length = 8 ∧ cs = [.int .i64 (rg l 0), .int .i64 (rg l 1), .int .i64 (rg l 2), .int .i64 (rg l 3), .int .i64 (rg l 4), .int .i64 (rg l 5), .int .i64 (rg l 6), .int .i64 (rg l 7)] ∧ ∀ i, i < 8 → I64 (rg l i)) := fun fuel cs x h hw => by
  obtain ⟨_, _, _, _, hl, _, _⟩ := DataW.trod_array Try.underlying45 h
  rw [show Try.prog.cellsOf 45 = 8 by kernel_rfl] at hl
  obtain ⟨c1, c2, c3, c4⟩ := cells1
  obtain ⟨x0, h0, w0⟩ := array_at Try.underlying45 h hw 0 (by decide) (opens_int Try.underlying2)
  obtain ⟨x1, h1, w1⟩ := array_at Try.underlying45 h hw 1 (by decide) (opens_int Try.underlying2)
  obtain ⟨x2, h2, w2⟩ := array_at Try.underlying45 h hw 2 (by decide) (opens_int Try.underlying2)
  obtain ⟨x3, h3, w3⟩ := array_at Try.underlying45 h hw 3 (by decide) (opens_int Try.underlying2)
  obtain ⟨x4, h4, w4⟩ := array_at Try.underlying45 h hw 4 (by decide) (opens_int Try.underlying2)
  obtain ⟨x5, h5, w5⟩ := array_at Try.underlying45 h hw 5 (by decide) (opens_int Try.underlying2)
  obtain ⟨x6, h6, w6⟩ := array_at Try.underlying45 h hw 6 (by decide) (opens_int Try.underlying2)
  obtain ⟨x7, h7, w7⟩ := array_at Try.underlying45 h hw 7 (by decide) (opens_int Try.underlying2)
  match cs, hl with
  | [v0, v1, v2, v3, v4, v5, v6, v7], _ =>
    simp [c2] at h0 h1 h2 h3 h4 h5 h6 h7
    subst h0 h1 h2 h3 h4 h5 h6 h7
    refine ⟨[x0, x1, x2, x3, x4, x5, x6, x7], rfl, rfl, fun i hi => ?_⟩
    obtain rfl | rfl | rfl | rfl | rfl | rfl | rfl | rfl : i = 0 ∨ i = 1 ∨ i = 2 ∨ i = 3 ∨ i = 4 ∨ i = 5 ∨ i = 6 ∨ i = 7 := by omega
    · exact wfI64 w0
    · exact wfI64 w1
    · exact wfI64 w2
    · exact wfI64 w3
    · exact wfI64 w4
    · exact wfI64 w5
    · exact wfI64 w6
    · exact wfI64 w7
/-- A frame's numbers are of 64 bits. -/
def FrameV.fits (f : FrameV) : Prop := I64 f.code ∧ I64 f.pc ∧ ∀ i, i < 8 → I64 (rg f.r i)
theorem open_Frame {r : Reach} {b0 : Nat} {v : Value} {d : DataW H} {ps : List MemPlace} (hval : Value.okWide Try.prog w r b0 47 v) (hd : DataW.Trod enc Try.prog w base sp held 47 v d ps) (hw : ∀ n ∈ d.weights Try.prog 47, n ≤ reachBytes) :
    ∃ f : FrameV, v = f.agg ∧ f.wf ∧ f.fits := by
  obtain ⟨cs, rfl, _⟩ := WideShapes.okWide_struct Try.underlying47 hval
  obtain ⟨fuel, h⟩ := hd
  have hl := struct_len Try.underlying47 h
  rw [show Try.prog.cellsOf 47 = 10 by kernel_rfl] at hl
  obtain ⟨c1, c2, c3, c4⟩ := cells1
  obtain ⟨x0, h0, w0⟩ := opens_field Try.underlying47 h hw 0 rfl (opens_int Try.underlying3)
  obtain ⟨x1, h1, w1⟩ := opens_field Try.underlying47 h hw 1 rfl (opens_int Try.underlying3)
  obtain ⟨l, hl2, h2, w2⟩ := opens_field Try.underlying47 h hw 2 rfl opens_regs
  obtain ⟨cs⟩ := cs
  simp only [Value.cells] at hl h0 h1 h2
  match cs, hl with
  | [v0, v1, v2, v3, v4, v5, v6, v7, v8, v9], _ =>
    simp [c1, show Try.prog.cellsOf 45 = 8 by kernel_rfl] at h0 h1 h2
    subst h0 h1
    obtain ⟨rfl, rfl, rfl, rfl, rfl, rfl, rfl, rfl⟩ := h2
    exact ⟨⟨x0, x1, l⟩, rfl, hl2, wfI64 w0, wfI64 w1, w2⟩
end
end Go.Proofs.Ytljfloopjgpaeaa
