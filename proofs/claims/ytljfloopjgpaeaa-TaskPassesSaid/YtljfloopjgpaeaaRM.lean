/- Maps keyed by whole numbers 0 to 31, as what they hold: found, put, struck, counted. Nothing of the dump is named here. -/
import Derived.Test.YtljfloopjgpaeaaM
import Derived.Test.YtljfloopjgpaeaaMA
namespace Go.Proofs.Ytljfloopjgpaeaa
set_option linter.unusedVariables false
set_option linter.unusedSimpArgs false
open Go.RowKit
variable {P : Program}

theorem findI_base (q : IntKind) (k : Int) : ∀ (es : List (Int × Value × Nat)) (b : Nat), findI q k es b = (findI q k es 0).map fun x => (x.1 + b, x.2)
  | [], b => rfl
  | (j, v, n) :: es, b => by
    rw [findI_cons, findI_cons]
    by_cases h : k = j
    · simp [h]
    · rw [if_neg h, if_neg h, findI_base q k es (b + 1), findI_base q k es (0 + 1)]
      cases findI q k es 0 <;> simp
      omega
theorem findI_some {q : IntKind} {k : Int} {v : Value} : ∀ {es : List (Int × Value × Nat)} {j : Nat}, findI q k es 0 = some (j, v) → ∃ n, es[j]? = some (k, v, n)
  | [], j, h => by cases h
  | (a, u, n) :: es, j, h => by
    have ih := fun (j : Nat) (hf : findI q k es 0 = some (j, v)) => findI_some hf
    rw [findI_cons] at h
    by_cases e : k = a
    · rw [if_pos e] at h
      injection h with h
      injection h with h1 h2
      subst h1 h2 e
      exact ⟨n, rfl⟩
    · rw [if_neg e, findI_base] at h
      cases hf : findI q k es 0 with
      | none => rw [hf] at h; cases h
      | some x =>
        obtain ⟨i, u2⟩ := x
        rw [hf] at h
        simp at h
        obtain ⟨rfl, rfl⟩ := h
        exact ih _ hf
theorem findI_none {q : IntKind} {k : Int} : ∀ {es : List (Int × Value × Nat)}, findI q k es 0 = none ↔ k ∉ es.map (·.1)
  | [] => by simp [findI]
  | (a, u, n) :: es => by
    rw [findI_cons]
    by_cases e : k = a
    · simp [e]
    · rw [if_neg e, findI_base]
      have ih := @findI_none q k es
      simp only [Option.map_eq_none_iff, ih, List.map_cons, List.mem_cons, e, false_or]

/-- What a map holds: of each key below 32 what d says, and no other key. -/
structure Dict (es : List (Int × Value × Nat)) (d : Nat → Option Value) : Prop where
  nodup : (es.map (·.1)).Nodup
  has : ∀ i, i < 32 → ∀ v, d i = some v → ∃ n, ((i : Int), v, n) ∈ es
  of : ∀ k v n, (k, v, n) ∈ es → ∃ i : Nat, i < 32 ∧ k = (i : Int) ∧ d i = some v
theorem Dict.nil : Dict [] (fun _ => none) := ⟨by simp, fun _ _ _ h => (by cases h), fun _ _ _ h => by cases h⟩
theorem Dict.congr {es : List (Int × Value × Nat)} {d d' : Nat → Option Value} (h : Dict es d) (e : ∀ i, i < 32 → d' i = d i) : Dict es d' :=
  ⟨h.nodup, fun i hi v hv => h.has i hi v (by rw [← e i hi]; exact hv), fun k v n hm => by
    obtain ⟨i, h1, h2, h3⟩ := h.of k v n hm
    exact ⟨i, h1, h2, by rw [e i h1]; exact h3⟩⟩
theorem Dict.find {es : List (Int × Value × Nat)} {d : Nat → Option Value} (h : Dict es d) (q : IntKind) {i : Nat} (hi : i < 32) {v : Value} (hd : d i = some v) : ∃ j, findI q i es 0 = some (j, v) := by
  obtain ⟨n, hn⟩ := h.has i hi v hd
  cases hf : findI q i es 0 with
  | none => exact absurd (List.mem_map.2 ⟨_, hn, rfl⟩) (findI_none.1 hf)
  | some x =>
    obtain ⟨j, u⟩ := x
    obtain ⟨n2, h2⟩ := findI_some hf
    obtain ⟨i2, h3, h4, h5⟩ := h.of _ _ _ (List.mem_of_getElem? h2)
    obtain rfl : i = i2 := by omega
    rw [hd] at h5
    injection h5 with h5
    exact ⟨j, by rw [h5]⟩
theorem Dict.findNone {es : List (Int × Value × Nat)} {d : Nat → Option Value} (h : Dict es d) (q : IntKind) {k : Int} (hd : ∀ i : Nat, i < 32 → k = (i : Int) → d i = none) : findI q k es 0 = none := by
  rw [findI_none]
  intro hm
  obtain ⟨⟨a, v, n⟩, h1, rfl⟩ := List.mem_map.1 hm
  obtain ⟨i, h2, h3, h4⟩ := h.of _ _ _ h1
  rw [hd i h2 h3] at h4
  cases h4
theorem Dict.put {es : List (Int × Value × Nat)} {d : Nat → Option Value} (h : Dict es d) {i : Nat} (hi : i < 32) (hd : d i = none) (v : Value) (n : Nat) : Dict (es ++ [((i : Int), v, n)]) (updF d i (some v)) := by
  have hn : (i : Int) ∉ es.map (·.1) := findI_none.1 (h.findNone .i64 (k := i) (fun j _ e => (show i = j by omega) ▸ hd))
  refine ⟨?_, fun j hj u hu => ?_, fun k u m hm => ?_⟩
  · rw [List.map_append, List.nodup_append]
    refine ⟨h.nodup, by simp, fun a ha b hb => ?_⟩
    simp at hb
    subst hb
    exact fun e => hn (e ▸ ha)
  · by_cases e : j = i
    · subst e
      simp [updF] at hu
      exact ⟨n, by simp [hu]⟩
    · simp [updF, e] at hu
      obtain ⟨m, hm⟩ := h.has j hj u hu
      exact ⟨m, List.mem_append_left _ hm⟩
  · rcases List.mem_append.1 hm with hm | hm
    · obtain ⟨j, h1, h2, h3⟩ := h.of k u m hm
      refine ⟨j, h1, h2, ?_⟩
      have : j ≠ i := fun e => by subst e; rw [hd] at h3; cases h3
      simp [updF, this, h3]
    · simp at hm
      obtain ⟨rfl, rfl, rfl⟩ := hm
      exact ⟨i, hi, rfl, by simp [updF]⟩
theorem mem_eraseIdx_key : ∀ {es : List (Int × Value × Nat)} {j : Nat} {x : Int × Value × Nat}, (es.map (·.1)).Nodup → es[j]? = some x → ∀ y, y ∈ es.eraseIdx j ↔ (y ∈ es ∧ y.1 ≠ x.1)
  | [], j, x, _, h, _ => by simp at h
  | a :: es, 0, x, hn, h, y => by
    obtain rfl : a = x := by simpa using h
    rw [List.map_cons, List.nodup_cons] at hn
    simp only [List.eraseIdx_cons_zero, List.mem_cons]
    constructor
    · intro hy
      exact ⟨.inr hy, fun e => hn.1 (e ▸ List.mem_map.2 ⟨y, hy, rfl⟩)⟩
    · rintro ⟨rfl | hy, hne⟩
      · exact absurd rfl hne
      · exact hy
  | a :: es, j + 1, x, hn, h, y => by
    rw [List.map_cons, List.nodup_cons] at hn
    have hx : es[j]? = some x := by simpa using h
    have ih := mem_eraseIdx_key hn.2 hx y
    simp only [List.eraseIdx_cons_succ, List.mem_cons, ih]
    constructor
    · rintro (rfl | ⟨h1, h2⟩)
      · exact ⟨.inl rfl, fun e => hn.1 (e ▸ List.mem_map.2 ⟨x, List.mem_of_getElem? hx, rfl⟩)⟩
      · exact ⟨.inr h1, h2⟩
    · rintro ⟨rfl | h1, h2⟩
      · exact .inl rfl
      · exact .inr ⟨h1, h2⟩
theorem Dict.del {es : List (Int × Value × Nat)} {d : Nat → Option Value} (h : Dict es d) {q : IntKind} {i : Nat} {j : Nat} {v : Value} (hf : findI q i es 0 = some (j, v)) : Dict (es.eraseIdx j) (updF d i none) := by
  obtain ⟨n, hj⟩ := findI_some hf
  have hm := mem_eraseIdx_key h.nodup hj
  refine ⟨h.nodup.sublist ((List.eraseIdx_sublist _ _).map _), fun k hk u hu => ?_, fun k u m hmm => ?_⟩
  · by_cases e : k = i
    · subst e; simp [updF] at hu
    · simp [updF, e] at hu
      obtain ⟨m, h1⟩ := h.has k hk u hu
      exact ⟨m, (hm _).2 ⟨h1, by simp; omega⟩⟩
  · obtain ⟨h1, h2⟩ := (hm _).1 hmm
    obtain ⟨k2, h3, h4, h5⟩ := h.of _ _ _ h1
    refine ⟨k2, h3, h4, ?_⟩
    have : k2 ≠ i := fun e => h2 (by simp [h4, e])
    simp [updF, this, h5]
theorem Dict.len {es : List (Int × Value × Nat)} {d : Nat → Option Value} (h : Dict es d) : es.length = ((List.range 32).filter fun i => (d i).isSome).length := by
  have hp : (es.map (·.1)).Perm (((List.range 32).filter fun i => (d i).isSome).map Int.ofNat) := by
    rw [List.perm_ext_iff_of_nodup h.nodup]
    · intro k
      simp only [List.mem_map, List.mem_filter, List.mem_range]
      constructor
      · rintro ⟨⟨a, v, n⟩, h1, rfl⟩
        obtain ⟨i, h2, h3, h4⟩ := h.of _ _ _ h1
        exact ⟨i, ⟨h2, by rw [h4]; rfl⟩, h3.symm⟩
      · rintro ⟨i, ⟨h2, h3⟩, rfl⟩
        obtain ⟨v, hv⟩ := Option.isSome_iff_exists.1 h3
        obtain ⟨n, hn⟩ := h.has i h2 v hv
        exact ⟨_, hn, rfl⟩
    · have := (List.nodup_range (n := 32)).sublist (List.filter_sublist (p := fun i => (d i).isSome))
      rw [List.Nodup, List.pairwise_map]
      exact this.imp (fun hne e => hne (Int.ofNat.inj e))
  have := hp.length_eq
  simpa using this

/-- A key that is there is put anew, with the value that it has. -/
theorem run_mapPut_same {w : World} {mt kt et : TypeId} {q : IntKind} (hm : P.underlying mt = some (.map kt et)) (hk : P.underlying kt = some (.int q)) {r n : Nat} {es : List (Int × Value × Nat)} (hb : w.heap[r]? = some (.map (entsI q es) n)) (k : Int) {j : Nat} (v : Value) (hf : findI q k es 0 = some (j, v)) :
    (Instr.mapUpdate mt (.map (some r)) (.int q k) v).run P w = .ok () (w.putObj r (.map (entsI q es) n)) := by
  have hf' : Instr.findNow (.int q) (.int q k) (entsI q es).toList 0 = some (some (j, v)) := by simp only [entsI]; rw [findNow_entI, hf]
  obtain ⟨m, hj⟩ := findI_some hf
  have hj2 : (entsI q es)[j]? = some ⟨.int q k, v, m⟩ := by simp [entsI, hj, entI]
  have hmod : (entsI q es).modify j (fun e => { e with key := .int q k, val := v }) = entsI q es := by
    apply Array.ext_getElem?
    intro i
    rw [Array.getElem?_modify]
    by_cases e : j = i
    · subst e; simp [hj2]
    · simp [e]
  simp [Instr.mapUpdate, run_underlying hm, MapKept.run_getObj_map hb, run_keyI hk, MapKept.run_findKey hk hf', MapKept.run_setObj_map _ hb, Result.andThen, World.putObj, hj2, Instr.keyThatStays, Instr.sameBits]
  rw [hmod]
theorem eraseIdx_map' {α β : Type} (f : α → β) : ∀ (l : List α) (j : Nat), (l.map f).eraseIdx j = (l.eraseIdx j).map f
  | [], _ => rfl
  | _ :: _, 0 => rfl
  | a :: l, j + 1 => by simp [eraseIdx_map' f l j]
/-- A key is struck. -/
theorem run_mapDel {w : World} {mt kt et ty : TypeId} {q : IntKind} (hm : P.underlying mt = some (.map kt et)) (hk : P.underlying kt = some (.int q)) {r n : Nat} {es : List (Int × Value × Nat)} (hb : w.heap[r]? = some (.map (entsI q es) n)) (k : Int) {j : Nat} {v : Value} (hf : findI q k es 0 = some (j, v)) :
    (Builtin.delete_ #[mt, kt] ty #[.map (some r), .int q k]).run P w = .ok (.tuple #[]) (w.putObj r (.map (entsI q (es.eraseIdx j)) n)) := by
  have hf' : Instr.findNow (.int q) (.int q k) (entsI q es).toList 0 = some (some (j, v)) := by simp only [entsI]; rw [findNow_entI, hf]
  simp [Builtin.delete_, run_underlying hm, MapKept.run_getObj_map hb, run_keyI hk, MapKept.run_findKey hk hf', MapKept.run_setObj_map _ hb, Result.andThen, World.putObj]
  congr 2
  apply Array.toList_inj.1
  simp only [entsI, Array.toList_eraseIdxIfInBounds]
  exact eraseIdx_map' _ _ _
theorem run_mapLen {w : World} {mt kt et ty : TypeId} {q : IntKind} (hm : P.underlying mt = some (.map kt et)) {r n : Nat} {es : List (Int × Value × Nat)} (hb : w.heap[r]? = some (.map (entsI q es) n)) :
    (Builtin.len_ #[mt] ty #[.map (some r)]).run P w = .ok (goInt es.length) w := by
  simp [Builtin.len_, run_underlying hm, MapKept.run_getObj_map hb, Result.andThen, entsI]
end Go.Proofs.Ytljfloopjgpaeaa
