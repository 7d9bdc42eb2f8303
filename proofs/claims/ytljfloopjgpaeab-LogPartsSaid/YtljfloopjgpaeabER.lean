/- slices.Reverse of entries, by the library's contract at a struct. -/
import Derived.Shelf.SlicesQ.Reverse
import Derived.Test.YtljfloopjgpaeabOW
import Derived.Test.YtljfloopjgpaeabLA
namespace Go.Proofs.Ytljfloopjgpaeab
set_option linter.unusedVariables false
set_option linter.unusedSimpArgs false
open Go.RowKit Go.Sort
set_option maxRecDepth 100000
def revRen : Go.Shelf.Ren := ⟨fun | 35 => 56 | n => n, fun | 0 => 0 | 3 => 3 | 4 => 4 | 22 => 22 | 23 => 30 | n => n, fun | n => n⟩
theorem revLays : SlLaysE0.n35 Try.prog revRen := {
  mixed := by kernel_rfl
  f35 := ⟨Try.f56.name, by decide, Try.func56.trans (congrArg some (by kernel_rfl))⟩
  t0 := Try.underlying0
  a0 := Try.isAgg0
  z0 := Try.sizeOf0
  v0 := Try.zeroValue0
  t3 := Try.underlying3
  a3 := Try.isAgg3
  z3 := Try.sizeOf3
  v3 := Try.zeroValue3
  t4 := Try.underlying4
  a4 := Try.isAgg4
  z4 := Try.sizeOf4
  v4 := Try.zeroValue4
  t22 := Try.underlying22
  a22 := Try.isAgg22
  z22 := Try.sizeOf22
  v22 := Try.zeroValue22 }
theorem cells_len (x : EntV) : x.cells.length = 13 := rfl
theorem cells_one (x : EntV) : ∀ v ∈ x.cells, v.oneCell' = true := by
  intro v hv
  simp only [EntV.cells, List.mem_cons, List.mem_nil_iff, or_false] at hv
  rcases hv with rfl | rfl | rfl | rfl | rfl | rfl | rfl | rfl | rfl | rfl | rfl | rfl | rfl <;> rfl
theorem get_cells {l : List EntV} {t : Nat} (h : t < l.length * 13) : (flatK EntV.cells 13 l.toArray)[t]! = (l.flatMap EntV.cells)[t]! := by
  rw [get_flatK _ _ _ _ (by simpa using h)]
  have h1 : t / 13 < l.length := by omega
  have h2 := flatMap_put (f := EntV.cells) (sz := 13) cells_len l (t / 13) (t % 13) l[t / 13] (l[t / 13]).cells[t % 13]! (List.getElem?_eq_getElem h1) (by rw [getElem!_pos _ _ (by rw [cells_len]; omega), List.getElem?_eq_getElem])
  rw [show t / 13 * 13 + t % 13 = t by omega] at h2
  obtain ⟨h3, h4⟩ := List.getElem?_eq_some_iff.1 h2
  rw [getElem!_pos (l.flatMap EntV.cells) t h3, h4]
  congr 1
  rw [getElem!_pos l.toArray _ (by simpa using h1)]
  simp
theorem ents_flat {l : List EntV} (i c : Nat) (x : EntV) (u : Value) (hi : l[i]? = some x) (hc : x.cells[c]? = some u) : (flatK EntV.cells 13 l.toArray)[i * 13 + c]! = u ∧ i * 13 + c < l.length * 13 := by
  have h1 := (List.getElem?_eq_some_iff.1 hi).1
  have h2 := (List.getElem?_eq_some_iff.1 hc).1
  rw [cells_len] at h2
  have h3 : i * 13 + c < l.length * 13 := by omega
  refine ⟨?_, h3⟩
  rw [get_cells h3]
  obtain ⟨h4, h5⟩ := List.getElem?_eq_some_iff.1 (flatMap_put (f := EntV.cells) (sz := 13) cells_len l i c x u hi hc)
  rw [getElem!_pos (l.flatMap EntV.cells) _ h4, h5]
theorem own_holds {w : World} {base E g cap : Nat} {l : List EntV} (ho : w.ownsRow base E 13 (.slice (some ⟨g, 0, none⟩) l.length cap) l.length (l.flatMap EntV.cells)) : HoldsK EntV.cells 13 w g 0 l.toArray := by
  obtain ⟨hlen, h⟩ := ho
  rcases h with ⟨h, _⟩ | ⟨g', cap', cur, h, hg, hb, hn, hcap, hsz, htk⟩
  · cases h
  · obtain ⟨rfl, rfl⟩ : g = g' ∧ cap = cap' := by simpa using h
    intro t ht
    rw [size_flatK, List.size_toArray] at ht
    rw [id, get_cells ht, Nat.zero_add]
    have h1 : cur.toList[t]? = (l.flatMap EntV.cells)[t]? := by rw [← htk, List.getElem?_take_of_lt ht]
    have h2 : t < (l.flatMap EntV.cells).length := by rw [hlen]; exact ht
    constructor
    · simp only [World.cell?, hb]
      rw [← Array.getElem?_toList, h1, List.getElem?_eq_getElem h2, getElem!_pos (l.flatMap EntV.cells) _ h2]
      rfl
    · simp [World.frozen?, hb]
theorem holds_R {w : World} {g cap : Nat} {l : List EntV} (h : HoldsK EntV.cells 13 w g 0 l.toArray) (hc : l.length ≤ cap) (hm : cap ≤ maxLen) (hl : l.length ≤ 140737488351232) : kEnt.R w (.slice (some ⟨g, 0, none⟩) l.length cap) l := by
  refine ⟨_, cap, rfl, hc, hm, hl, fun h0 => ⟨g, 0, rfl, ?_, fun i x hi => ⟨x.cells, ⟨rfl, trivial⟩, fun c u hu => ?_⟩⟩⟩
  · have h1 := (h 0 (by rw [size_flatK, List.size_toArray]; omega)).1
    simp only [World.cell?] at h1
    cases hh : w.heap[g]? with
    | none => rw [hh] at h1; cases h1
    | some o => exact (Array.getElem?_eq_some_iff.1 hh).1
  · obtain ⟨h1, h2⟩ := ents_flat i c x u hi hu
    have h3 := (h (i * 13 + c) (by rw [size_flatK, List.size_toArray]; exact h2)).1
    rw [id, h1] at h3
    rw [show 0 + i * kEnt.sz + c = 0 + (i * 13 + c) by show 0 + i * 13 + c = _; omega]
    exact h3
theorem aggEnt : ∀ w, (isAgg (revRen.t 23)).run Try.prog w = .ok true w := Try.isAgg30
theorem sizeEnt : ∀ w, (Go.sizeOf (revRen.t 23)).run Try.prog w = .ok 13 w := Try.sizeOf30
/-- slices.Reverse at a row of one's own: it reads turned; only its block is written. -/
theorem revEnt_any {w : World} {base E : Nat} {v : Value} {l : List EntV} (ho : w.ownsRow base E 13 v l.length (l.flatMap EntV.cells)) (hl : l.length ≤ 140737488351232) :
    Calls Try.prog 56 #[v] w fun e w' => e = .returned (.tuple #[]) ∧ kEnt.R w' v l.reverse ∧ w'.heap.size = w.heap.size ∧ (∀ k, v.ownBlock ≠ some k → w'.heap[k]? = w.heap[k]?) ∧ Below base w w' := by
  have ho' := ho
  obtain ⟨hlen, h⟩ := ho'
  rcases h with ⟨rfl, h0⟩ | ⟨g, cap, cur, rfl, hg, hb, hn, hcap, hsz, htk⟩
  · have hl0 : l = [] := List.length_eq_zero_iff.1 h0
    subst hl0
    refine (AnyQ.slices_Reverse_empty revLays none 0 w).mono ?_
    rintro e w' ⟨rfl, rfl⟩
    exact ⟨rfl, ⟨none, 0, rfl, Nat.le_refl _, Nat.zero_le _, Nat.zero_le _, fun h => absurd h (Nat.not_lt_zero _)⟩, rfl, fun _ _ => rfl, Below.refl _ _⟩
  · have hH := own_holds ho
    refine (AnyQ.slices_Reverse revLays 13 aggEnt sizeEnt EntV.cells cells_len cells_one g 0 cap l.toArray w hH (by simp; omega)).mono ?_
    rintro e w' ⟨rfl, n, rfl⟩
    have hS : (putRowK EntV.cells 13 (Sort.ahead w n) g 0 l.toArray.reverse).heap.size = w.heap.size := by simp [putRowK, putRow, mapBlock, Sort.ahead]
    have hB : ∀ k, g ≠ k → (putRowK EntV.cells 13 (Sort.ahead w n) g 0 l.toArray.reverse).heap[k]? = w.heap[k]? := fun k hk => by simp [putRowK, putRow, mapBlock, Sort.ahead, Array.getElem?_modify, hk]
    refine ⟨rfl, ?_, hS, fun k hk => hB k (fun e => hk (by rw [← e]; rfl)), ⟨rfl, rfl, rfl, by rw [hS]; exact Nat.le_refl _, fun k hk => hB k (by omega)⟩⟩
    have h1 := holdsK_putRowK EntV.cells 13 (Sort.ahead w n) g 0 l.toArray l.toArray.reverse (holdsK_ahead EntV.cells 13 w n g 0 _ hH) (by simp)
    rw [List.reverse_toArray] at h1 ⊢
    have h2 := holds_R (cap := cap) h1 (by simpa using hn) hcap (by simpa using hl)
    rw [List.length_reverse] at h2
    simpa using h2
end Go.Proofs.Ytljfloopjgpaeab
