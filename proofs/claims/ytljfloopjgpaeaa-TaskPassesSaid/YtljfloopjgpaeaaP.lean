/- Plain laws of programs that may be: each instruction's next one is there. No program text is walked here. -/
import Derived.Test.YtljfloopjgpaeaaV
import Derived.Test.YtljfloopjgpaeaaS
namespace Go.Proofs.Ytljfloopjgpaeaa
set_option linter.unusedVariables false
set_option linter.unusedSimpArgs false
open Go.RowKit
set_option maxRecDepth 100000

theorem map_find_none {α β : Type} {p : α → Bool} {l : List α} {g : Nat → β} (h : (l.findIdx? p).map g = none) : ∀ x ∈ l, p x = false := by
  simpa [Option.map_eq_none_iff, List.findIdx?_eq_none_iff] using h
theorem chansW_e {P : ProgV} {x : Int × Int × Int} (h : chansW P = some x) : x.2.2 = 110 := by
  unfold chansW at h
  split at h
  · simp only [Option.map_eq_some_iff] at h; obtain ⟨k, _, rfl⟩ := h; rfl
  · cases h; rfl
theorem sitesW_e {P : ProgV} {x : Int × Int × Int} (h : sitesW P = some x) : x.2.2 = 111 := by
  unfold sitesW at h
  split at h
  · simp only [Option.map_eq_some_iff] at h; obtain ⟨k, _, rfl⟩ := h; rfl
  · cases h; rfl
theorem codesW_e {P : ProgV} {x : Int × Int × Int} (h : codesW P = some x) : x.2.2 = 112 := by
  unfold codesW at h
  split at h
  · simp only [Option.map_eq_some_iff] at h; obtain ⟨k, _, rfl⟩ := h; rfl
  · cases h; rfl
theorem endsW_e {P : ProgV} {x : Int × Int × Int} (h : endsW P = some x) : x.2.2 = 113 := by
  unfold endsW at h
  simp only [Option.map_eq_some_iff] at h; obtain ⟨k, _, rfl⟩ := h; rfl
theorem sane_parts {P : ProgV} (h : saneP P = true) : chansW P = none ∧ sitesW P = none ∧ codesW P = none ∧ endsW P = none := by
  simp only [saneP, beq_iff_eq] at h
  unfold checkW at h
  cases h1 : chansW P with
  | some x => rw [h1] at h; have := chansW_e h1; simp [this] at h
  | none =>
    cases h2 : sitesW P with
    | some x => rw [h1, h2] at h; have := sitesW_e h2; simp [this] at h
    | none =>
      cases h3 : codesW P with
      | some x => rw [h1, h2, h3] at h; have := codesW_e h3; simp [this] at h
      | none =>
        cases h4 : endsW P with
        | some x => rw [h1, h2, h3, h4] at h; have := endsW_e h4; simp [this] at h
        | none => exact ⟨rfl, rfl, rfl, rfl⟩
theorem sane_of {P : ProgV} (h1 : chansW P = none) (h2 : sitesW P = none) (h3 : codesW P = none) (h4 : endsW P = none) : saneP P = true := by
  simp [saneP, checkW, h1, h2, h3, h4]
theorem codes_len {P : ProgV} (h : codesW P = none) : 1 ≤ P.codes.length ∧ P.codes.length ≤ 8 := by
  unfold codesW at h
  split at h
  · assumption
  · cases h
theorem code_ok {P : ProgV} (h : codesW P = none) {l : List InsV} (hl : l ∈ P.codes) : (1 ≤ l.length ∧ l.length ≤ 40) ∧ ∀ x ∈ l, codeI P l x = true := by
  unfold codesW at h
  split at h
  · have h1 := map_find_none h l hl
    simp only [codeP, codeBad, Bool.not_eq_false'] at h1
    split at h1
    · rename_i hlen
      refine ⟨hlen, fun x hx => ?_⟩
      simp only [Option.isNone_iff_eq_none, List.findIdx?_eq_none_iff] at h1
      simpa using h1 x hx
    · cases h1
  · cases h
theorem end_ok {P : ProgV} (h : endsW P = none) {l : List InsV} (hl : l ∈ P.codes) : lastB l = true := by
  cases hf : P.codes.findIdx? (fun l => !lastB l) with
  | none => have := (List.findIdx?_eq_none_iff.1 hf) l hl; simpa using this
  | some k => unfold endsW at h; rw [hf] at h; cases h
/-- What an instruction that may be has. -/
theorem ins_ok {x : InsV} {n s c l : Int} (h : insB x n s c l = true) : regB x.a = true ∧ regB x.b = true ∧ (x.op = 3 ∨ x.op = 4 → 0 ≤ x.k ∧ x.k < l) := by
  unfold insB at h
  split at h
  · cases h
  · rename_i has hh
    simp only [okB, Bool.and_eq_true, Bool.not_eq_true'] at h
    refine ⟨h.1.1.2.1, h.1.1.2.2, fun ho => ?_⟩
    have hj : jB x.op has = true := by
      rcases ho with ho | ho <;> rw [ho] at hh ⊢ <;> (obtain rfl : _ = has := Option.some.inj hh) <;> decide
    have hm : mostOf x.op s c l = l := by unfold mostOf; rw [if_pos ho]
    have hk := h.2
    rw [hj, Bool.true_and, hm] at hk
    simp only [kB, Bool.or_eq_false_iff, decide_eq_false_iff_not] at hk
    omega

/-- Where an instruction stands. -/
theorem atB_iff {P : ProgV} {i j : Int} : atB P i j = true ↔ 0 ≤ i ∧ 0 ≤ j ∧ ∃ l, P.codes[i.toNat]? = some l ∧ j.toNat < l.length := by
  unfold atB atV
  constructor
  · intro h
    split at h
    · rename_i h0
      refine ⟨h0.1, h0.2, ?_⟩
      cases hl : P.codes[i.toNat]? with
      | none => rw [hl] at h; cases h
      | some l =>
        rw [hl] at h
        refine ⟨l, rfl, ?_⟩
        simp only [Option.bind_some, Option.isSome_iff_exists] at h
        obtain ⟨x, hx⟩ := h
        exact (List.getElem?_eq_some_iff.1 hx).1
    · cases h
  · rintro ⟨h1, h2, l, h3, h4⟩
    rw [if_pos ⟨h1, h2⟩, h3]
    simp [List.getElem?_eq_getElem h4]
theorem atX_get {P : ProgV} {i j : Int} {l : List InsV} (h1 : 0 ≤ i) (h2 : 0 ≤ j) (h3 : P.codes[i.toNat]? = some l) (h4 : j.toNat < l.length) : atX P i j = l[j.toNat] := by
  unfold atX atV
  rw [if_pos ⟨h1, h2⟩, h3]
  simp [List.getElem?_eq_getElem h4]
theorem atB_here {P : ProgV} {i j : Int} {l : List InsV} (h1 : 0 ≤ i) (h3 : P.codes[i.toNat]? = some l) : atB P i j = true ↔ 0 ≤ j ∧ j.toNat < l.length := by
  rw [atB_iff]
  constructor
  · rintro ⟨_, h2, l', h4, h5⟩
    rw [h3] at h4
    exact ⟨h2, Option.some.inj h4 ▸ h5⟩
  · rintro ⟨h2, h4⟩
    exact ⟨h1, h2, l, h3, h4⟩

/-- In a program that may be: what stands at a place may be; and its next one is there. -/
theorem sane_at {P : ProgV} (hs : saneP P = true) {i j : Int} (h : atB P i j = true) :
    regB (atX P i j).a = true ∧ regB (atX P i j).b = true ∧ ((atX P i j).op ≠ 10 → (atX P i j).op ≠ 3 → atB P i (j + 1) = true) ∧ ((atX P i j).op = 3 ∨ (atX P i j).op = 4 → atB P i (atX P i j).k = true) := by
  obtain ⟨_, _, hc, he⟩ := sane_parts hs
  obtain ⟨h1, h2, l, h3, h4⟩ := atB_iff.1 h
  have hl : l ∈ P.codes := List.mem_of_getElem? h3
  have hx := atX_get h1 h2 h3 h4
  obtain ⟨hlen, hall⟩ := code_ok hc hl
  have hi := hall l[j.toNat] (List.getElem_mem h4)
  obtain ⟨ha, hb, hk⟩ := ins_ok hi
  rw [hx]
  refine ⟨ha, hb, fun h10 h3' => ?_, fun ho => ?_⟩
  · rw [atB_here h1 h3]
    refine ⟨by omega, ?_⟩
    by_cases hlast : j.toNat = l.length - 1
    · have hend := end_ok he hl
      simp only [lastB, Bool.or_eq_true, decide_eq_true_eq] at hend
      rw [← hlast] at hend
      simp only [List.getD_eq_getElem?_getD, List.getElem?_eq_getElem h4, Option.getD_some] at hend
      rcases hend with hend | hend
      · exact absurd hend h10
      · exact absurd hend h3'
    · omega
  · rw [atB_here h1 h3]
    have := hk ho
    exact ⟨this.1, by omega⟩

/-- A step of a frame that may be. -/
theorem sane_step {P : ProgV} (hs : saneP P = true) {f : FrameV} (h : atB P f.code f.pc = true) :
    (localB (atX P f.code f.pc).op = false ∧ stepF P f = (FrameV.zero, 8)) ∨
    (localB (atX P f.code f.pc).op = true ∧ (stepF P f).2 = 0 ∧ (stepF P f).1.code = f.code ∧ atB P (stepF P f).1.code (stepF P f).1.pc = true) := by
  obtain ⟨ha, hb, hn, hk⟩ := sane_at hs h
  have hreg : regsB (atX P f.code f.pc) = true := by simp [regsB, ha, hb]
  unfold stepF
  rw [if_pos (by simp [h, hreg])]
  cases hl : localB (atX P f.code f.pc).op with
  | false => exact .inl ⟨rfl, rfl⟩
  | true =>
    refine .inr ⟨rfl, rfl, ?_⟩
    simp only [if_true]
    simp only [localB, Bool.and_eq_true, decide_eq_true_eq] at hl
    generalize atX P f.code f.pc = x at *
    unfold actF
    split
    · rename_i ho; exact ⟨rfl, hn (by omega) (by omega)⟩
    · split
      · rename_i ho; exact ⟨rfl, hn (by omega) (by omega)⟩
      · split
        · rename_i ho; exact ⟨rfl, hk (.inl ho)⟩
        · split
          · exact ⟨rfl, hk (.inr (by omega))⟩
          · exact ⟨rfl, hn (by omega) (by omega)⟩
theorem sane_err {P : ProgV} (hs : saneP P = true) {f : FrameV} (h : atB P f.code f.pc = true) : (stepF P f).2 = 8 ∨ ((stepF P f).2 = 0 ∧ (stepF P f).1.code = f.code ∧ atB P (stepF P f).1.code (stepF P f).1.pc = true) := by
  rcases sane_step hs h with ⟨_, h1⟩ | ⟨_, h1⟩
  · exact .inl (by rw [h1])
  · exact .inr h1
/-- Behind k steps. -/
theorem sane_nth {P : ProgV} (hs : saneP P = true) {f : FrameV} (h : atB P f.code f.pc = true) : ∀ k, okTo P f k → (nthF P f k).code = f.code ∧ atB P (nthF P f k).code (nthF P f k).pc = true
  | 0, _ => ⟨rfl, h⟩
  | k + 1, hk => by
    obtain ⟨h1, h2⟩ := sane_nth hs h k (fun i hi => hk i (by omega))
    have h3 := hk k (Nat.lt_succ_self k)
    rcases sane_err hs h2 with h4 | ⟨_, h4, h5⟩
    · unfold errN at h3; rw [h4] at h3; cases h3
    · exact ⟨h4.trans h1, h5⟩
theorem sane_errN {P : ProgV} (hs : saneP P = true) {f : FrameV} (h : atB P f.code f.pc = true) {k : Nat} (hk : okTo P f k) : errN P f k = 8 ∨ errN P f k = 0 := by
  rcases sane_err hs (sane_nth hs h k hk).2 with h1 | ⟨h1, _⟩
  · exact .inl h1
  · exact .inr h1
end Go.Proofs.Ytljfloopjgpaeaa
