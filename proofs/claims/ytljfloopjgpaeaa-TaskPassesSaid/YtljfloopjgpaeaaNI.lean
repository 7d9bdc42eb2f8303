/- Plain laws: a program that may be may be with a channel, a site, or a code more. No program text is walked here. -/
import Derived.Test.YtljfloopjgpaeaaP
namespace Go.Proofs.Ytljfloopjgpaeaa
set_option linter.unusedVariables false
set_option linter.unusedSimpArgs false
open Go.RowKit
set_option maxRecDepth 100000

theorem chansW_iff (P : ProgV) : chansW P = none ↔ P.caps.length ≤ 6 ∧ ∀ n ∈ P.caps, capB n = true := by
  unfold chansW
  split
  · rename_i h
    constructor
    · intro h1
      have h2 : P.caps.findIdx? (fun n => !capB n) = none := by
        cases hf : P.caps.findIdx? (fun n => !capB n) with
        | none => rfl
        | some k => rw [hf] at h1; cases h1
      exact ⟨h, fun n hn => by simpa using List.findIdx?_eq_none_iff.1 h2 n hn⟩
    · intro h1
      rw [List.findIdx?_eq_none_iff.2 fun n hn => by simp [h1.2 n hn]]
      rfl
  · rename_i h
    exact ⟨fun h1 => (by cases h1), fun h1 => absurd h1.1 h⟩
theorem sitesW_iff (P : ProgV) : sitesW P = none ↔ P.sites.length ≤ 12 ∧ ∀ s ∈ P.sites, siteB s P.caps.length = true := by
  unfold sitesW
  split
  · rename_i h
    constructor
    · intro h1
      have h2 : P.sites.findIdx? (fun s => !siteP P s) = none := by
        cases hf : P.sites.findIdx? (fun s => !siteP P s) with
        | none => rfl
        | some k => rw [hf] at h1; cases h1
      exact ⟨h, fun n hn => by simpa [siteP] using List.findIdx?_eq_none_iff.1 h2 n hn⟩
    · intro h1
      rw [List.findIdx?_eq_none_iff.2 fun n hn => by simp [siteP, h1.2 n hn]]
      rfl
  · rename_i h
    exact ⟨fun h1 => (by cases h1), fun h1 => absurd h1.1 h⟩
theorem endsW_iff (P : ProgV) : endsW P = none ↔ ∀ l ∈ P.codes, lastB l = true := by
  constructor
  · intro h l hl
    exact end_ok h hl
  · intro h
    unfold endsW
    rw [List.findIdx?_eq_none_iff.2 fun n hn => by simp [h n hn]]
    rfl
theorem codesW_iff (P : ProgV) : codesW P = none ↔ (1 ≤ P.codes.length ∧ P.codes.length ≤ 8) ∧ ∀ l ∈ P.codes, (1 ≤ l.length ∧ l.length ≤ 40) ∧ ∀ x ∈ l, codeI P l x = true := by
  constructor
  · intro h
    exact ⟨codes_len h, fun l hl => code_ok h hl⟩
  · intro ⟨h1, h2⟩
    unfold codesW
    rw [if_pos h1, List.findIdx?_eq_none_iff.2 fun l hl => ?_]
    · rfl
    · have h3 := h2 l hl
      simp only [codeP, codeBad]
      rw [if_pos h3.1, List.findIdx?_eq_none_iff.2 fun x hx => by simp [h3.2 x hx]]
      rfl
theorem sane_iff (P : ProgV) : saneP P = true ↔ (P.caps.length ≤ 6 ∧ ∀ n ∈ P.caps, capB n = true) ∧ (P.sites.length ≤ 12 ∧ ∀ s ∈ P.sites, siteB s P.caps.length = true) ∧ ((1 ≤ P.codes.length ∧ P.codes.length ≤ 8) ∧ ∀ l ∈ P.codes, (1 ≤ l.length ∧ l.length ≤ 40) ∧ ∀ x ∈ l, codeI P l x = true) ∧ ∀ l ∈ P.codes, lastB l = true := by
  rw [← chansW_iff, ← sitesW_iff, ← codesW_iff, ← endsW_iff]
  exact ⟨fun h => sane_parts h, fun ⟨a, b, c, d⟩ => sane_of a b c d⟩
theorem insB_mono {x : InsV} {n s c l n' s' c' : Int} (hn : n ≤ n') (hs : s ≤ s') (hc : c ≤ c') (h : insB x n s c l = true) : insB x n' s' c' l = true := by
  unfold insB at h ⊢
  cases hh : hasOf x.op with
  | none => rw [hh] at h; cases h
  | some has =>
    rw [hh] at h
    simp only [okB, Bool.and_eq_true, Bool.not_eq_true', chB, kB, Bool.and_eq_false_iff, Bool.or_eq_false_iff, decide_eq_false_iff_not] at h ⊢
    refine ⟨⟨h.1.1, ?_⟩, ?_⟩
    · rcases h.1.2 with h1 | h1
      · exact .inl h1
      · exact .inr ⟨h1.1, by omega⟩
    · rcases h.2 with h1 | h1
      · exact .inl h1
      · refine .inr ⟨h1.1, ?_⟩
        have h2 := h1.2
        unfold mostOf at h2 ⊢
        split <;> split at h2 <;> (try split at h2) <;> (try split) <;> (try split at h2) <;> (try split) <;> (first | omega | (exfalso; omega) | exact h2)
theorem siteB_mono {s : SiteV} {n n' : Int} (h : n ≤ n') (hs : siteB s n = true) : siteB s n' = true := by
  simp only [siteB, Bool.and_eq_true, List.all_eq_true, fitsB, decide_eq_true_eq] at hs ⊢
  refine ⟨hs.1, fun c hc => ?_⟩
  have h1 := hs.2 c hc
  exact ⟨⟨⟨⟨h1.1.1.1.1, by omega⟩, h1.1.1.2⟩, h1.1.2⟩, h1.2⟩
def moreCap (P : ProgV) (m : Int) : ProgV := ⟨P.caps ++ [m], P.codes, P.sites⟩
def newSite : SiteV := ⟨[⟨false, -1, 0, 0⟩], false⟩
def moreSite (P : ProgV) : ProgV := ⟨P.caps, P.codes, P.sites ++ [newSite]⟩
def moreCode (P : ProgV) : ProgV := ⟨P.caps, P.codes ++ [[⟨10, 0, 0, 0, 0⟩]], P.sites⟩
theorem eq_dec {a : Bool} {p : Prop} [Decidable p] (h : a = true ↔ p) : a = decide p := by
  cases a <;> simp_all
theorem sane_cap {P : ProgV} (hs : saneP P = true) {m : Int} (h0 : 0 ≤ m) (h8 : m ≤ 8) : saneP (moreCap P m) = decide (P.caps.length < 6) := by
  apply eq_dec
  rw [sane_iff] at hs ⊢
  obtain ⟨⟨h1, h2⟩, ⟨h3, h4⟩, ⟨h5, h6⟩, h7⟩ := hs
  simp only [moreCap, List.length_append, List.length_singleton]
  constructor
  · intro h; omega
  · intro h
    refine ⟨⟨by omega, fun n hn => ?_⟩, ⟨h3, fun s hs => siteB_mono (by omega) (h4 s hs)⟩, ⟨h5, fun l hl => ⟨(h6 l hl).1, fun x hx => ?_⟩⟩, h7⟩
    · rcases List.mem_append.1 hn with hn | hn
      · exact h2 n hn
      · obtain rfl : n = m := by simpa using hn
        simp [capB, h0, h8]
    · have h9 := (h6 l hl).2 x hx
      unfold codeI at h9 ⊢
      exact insB_mono (by simp; omega) (Int.le_refl _) (Int.le_refl _) h9
theorem sane_site {P : ProgV} (hs : saneP P = true) : saneP (moreSite P) = decide (P.sites.length < 12) := by
  apply eq_dec
  rw [sane_iff] at hs ⊢
  obtain ⟨⟨h1, h2⟩, ⟨h3, h4⟩, ⟨h5, h6⟩, h7⟩ := hs
  simp only [moreSite, List.length_append, List.length_singleton]
  constructor
  · intro h; omega
  · intro h
    refine ⟨⟨h1, h2⟩, ⟨by omega, fun s hs => ?_⟩, ⟨h5, fun l hl => ⟨(h6 l hl).1, fun x hx => ?_⟩⟩, h7⟩
    · rcases List.mem_append.1 hs with hs | hs
      · exact h4 s hs
      · obtain rfl : s = newSite := by simpa using hs
        simp [siteB, newSite, fitsB, regB]
        omega
    · have h9 := (h6 l hl).2 x hx
      unfold codeI at h9 ⊢
      exact insB_mono (Int.le_refl _) (by simp; omega) (Int.le_refl _) h9
theorem sane_code {P : ProgV} (hs : saneP P = true) : saneP (moreCode P) = decide (P.codes.length < 8) := by
  apply eq_dec
  rw [sane_iff] at hs ⊢
  obtain ⟨⟨h1, h2⟩, ⟨h3, h4⟩, ⟨h5, h6⟩, h7⟩ := hs
  simp only [moreCode, List.length_append, List.length_singleton]
  constructor
  · intro h; omega
  · intro h
    refine ⟨⟨h1, h2⟩, ⟨h3, h4⟩, ⟨by omega, fun l hl => ?_⟩, fun l hl => ?_⟩
    · rcases List.mem_append.1 hl with hl | hl
      · refine ⟨(h6 l hl).1, fun x hx => ?_⟩
        have h9 := (h6 l hl).2 x hx
        unfold codeI at h9 ⊢
        exact insB_mono (Int.le_refl _) (Int.le_refl _) (by simp; omega) h9
      · obtain rfl : l = [⟨10, 0, 0, 0, 0⟩] := by simpa using hl
        refine ⟨by simp, fun x hx => ?_⟩
        obtain rfl : x = ⟨10, 0, 0, 0, 0⟩ := by simpa using hx
        have hb : bareB ⟨#[]⟩ ⟨10, 0, 0, 0, 0⟩ = true := by decide +kernel
        have hf : sufB ⟨#[]⟩ 107 = false := by decide +kernel
        have hg : sufB ⟨#[]⟩ 99 = false := by decide +kernel
        simp [codeI, insB, hasOf, okB, hb, hf, hg, chB, jB, kB, regB]
    · rcases List.mem_append.1 hl with hl | hl
      · exact h7 l hl
      · obtain rfl : l = [⟨10, 0, 0, 0, 0⟩] := by simpa using hl
        decide
theorem cap_ne (P : ProgV) (m : Int) : moreCap P m ≠ P := fun h => by
  have := congrArg (fun p => p.caps.length) h
  simp [moreCap] at this
theorem site_ne (P : ProgV) : moreSite P ≠ P := fun h => by
  have := congrArg (fun p => p.sites.length) h
  simp [moreSite] at this
theorem code_ne (P : ProgV) : moreCode P ≠ P := fun h => by
  have := congrArg (fun p => p.codes.length) h
  simp [moreCode] at this
end Go.Proofs.Ytljfloopjgpaeaa
