/- tollbarlaw15.alive. -/
import Derived.LoopTactic
import Derived.Test.YtljfloopjgpaeabJG
import Derived.Test.YtljfloopjgpaeabJH
namespace Go.Proofs.Ytljfloopjgpaeab
set_option linter.unusedVariables false
set_option linter.unusedSimpArgs false
open Go.RowKit Go.Shelf
attribute [local go_sem] Oper.semAt_some run_store_fn
set_option maxRecDepth 100000
theorem LogIn.at {w0 w : World} {M : Nat → Option Obj} {p : Nat} {v : Value} {L : List EntV} (h : LogIn M p v L) (hw : Lw w0 M w) (hs : L.length ≤ 1000) : LogAt w p v L := In.logAt hw.1 h.1 h.2 hs
theorem len_R {w : World} {v : Value} {l : List EntV} (h : kEnt.R w v l) {n : Nat} (hn : l.length = n) : ∃ A c, v = .slice A n c := by
  obtain ⟨A, c, rfl, _⟩ := h.val
  rw [hn]
  exact ⟨A, c, rfl⟩
/-- A log stays, if another one is put to. -/
theorem LogIn.other {M M' : Nat → Option Obj} {p q : Nat} {v u : Value} {L : List EntV} (h : LogIn M p v L) (hpq : p ≠ q) (hu : ∀ k, u.ownBlock = some k → v.ownBlock ≠ some k) (hup : u.ownBlock ≠ some p) (hvq : v.ownBlock ≠ some q) (hs : ∀ k o, M k = some o → k ≠ q → u.ownBlock ≠ some k → M' k = some o) : LogIn M' p v L := by
  refine ⟨hs p _ h.1 hpq hup, h.2.1, ?_⟩
  rcases h.2.2 with h1 | ⟨g, cap, cur, rfl, hm, rest⟩
  · exact .inl h1
  · refine .inr ⟨g, cap, cur, rfl, hs g _ hm (fun e => hvq (by rw [e]; rfl)) (fun e => hu g e rfl), rest⟩
theorem LogIn.own_ne {M : Nat → Option Obj} {p : Nat} {v : Value} {L : List EntV} (h : LogIn M p v L) {q : Nat} {x : Value} (hq : M q = some (.cells #[x] 76 (0, 0))) : v.ownBlock ≠ some q := fun e => by
  rcases h.2.2 with ⟨h1, _⟩ | ⟨g, cap, cur, h1, hm, _⟩
  · rw [h1] at e; simp [Value.ownBlock] at e
  · rw [h1] at e
    simp only [Value.ownBlock, Option.some.injEq] at e
    rw [e, hq] at hm
    injection hm with hm
    injection hm with _ hm
    cases hm
theorem LogIn.own_some {M : Nat → Option Obj} {p : Nat} {v : Value} {L : List EntV} (h : LogIn M p v L) {k : Nat} (hk : v.ownBlock = some k) : M k ≠ none := fun e => by
  rcases h.2.2 with ⟨h1, _⟩ | ⟨g, cap, cur, h1, hm, _⟩
  · rw [h1] at hk; simp [Value.ownBlock] at hk
  · rw [h1] at hk
    simp only [Value.ownBlock, Option.some.injEq] at hk
    rw [← hk, hm] at e
    cases e
def ent1 : EntV := ⟨1, 11, 0, 0, -1, 0, 0, 0, 0, 0, false, 142, 0⟩
theorem three_ok : ∀ k (h : k < threeL.length), Lg.putE (Lg.logOf threeL k) threeL[k] = 0 := by
  intro k h
  have h3 : k < 3 := h
  obtain rfl | rfl | rfl : k = 0 ∨ k = 1 ∨ k = 2 := by omega
  · show Lg.putE (Lg.logOf threeL 0) (entOf 3 8 1) = 0
    decide +kernel
  · show Lg.putE (Lg.logOf threeL 1) (entOf 3 22 2) = 0
    decide +kernel
  · show Lg.putE (Lg.logOf threeL 2) (entOf 5 10 2) = 0
    decide +kernel
theorem three_log : Lg.logOf threeL threeL.length = threeL := by decide +kernel
theorem three_last : lastV [8] threeL = .tuple #[.int .i64 0, EntV.agg (entOf 3 8 1), .bool true] := by rfl
theorem kByt_one {w : World} (k : Int) : kByt.R (w.alloc (.cells #[.int .u8 k] 5)) (.slice (some ⟨w.heap.size, 0, none⟩) 1 1) [k] := by
  refine own_R (B := 0) (E := 5) (l := [k]) (sz := 1) (enc := fun k => [Value.int .u8 k]) (Q := fun _ => True) (fun _ => rfl) ⟨rfl, .inr ⟨w.heap.size, 1, _, rfl, Nat.zero_le _, World.alloc_heap_new w _, Nat.le_refl _, by unfold maxLen; decide, rfl, rfl⟩⟩ (fun _ _ => trivial) (by simp)
set_option maxHeartbeats 8000000 in
theorem alive15_any (w : World) : Calls Try.prog 9 #[] w fun e w' => e = .returned (.bool true) ∧ Below w.heap.size w w' := by
  go_enter Try.func9, Try.ntmps9
  go_upto_region 2 with (first
    | ((with_reducible refine (three_any _).mono ?_); rintro e w1 ⟨⟨A, c, rfl, hR⟩, hb⟩; (have HR := Lib.hid hR); (have HB := Lib.hid hb); clear hR hb)
    | ((with_reducible refine (from_any (w0 := w1) (M := fun _ => none) Lw.start HR.out (by decide) three_ok).mono ?_); rintro e w2 ⟨p, v, M, rfl, hL, hlog, _, _, _⟩; (rw [three_log] at hlog); (have HL := Lib.hid hL); (have HG := Lib.hid hlog); clear hL hlog))
  have hla := fun A c W (hW : Lw w1 M W) hk => last_any (w := W) (A := A) (n := 1) (c := c) (ks := [8]) (HG.out.at hW (by decide)) hk (by decide)
  rw [three_last] at hla
  simp only [EntV.agg, entOf] at hla
  have HLA := Lib.hid hla
  clear hla
  go_upto_region 6 with (first
    | ((with_reducible refine (HLA.out _ _ _ (HL.out.keep (by (repeat (first | with_reducible exact Below.refl _ _ | (with_reducible refine Below.setCell ?_ (by first | (simp; done) | (simp; omega) | omega) _) | (with_reducible refine Below.alloc ?_ (by first | (simp; done) | (simp; omega) | omega) _) | (with_reducible refine Below.drew ?_))))) (kByt_one 8)).mono ?_); rintro e w3 ⟨rfl, hb3⟩; (have HB3 := Lib.hid hb3); clear hb3)
    | ((with_reducible refine (logNew_any _).mono ?_); rintro e w' ⟨rfl, rfl⟩))
  have hL3 : Lw w1 M w3 := (HL.out.keep (by (repeat (first | with_reducible exact Below.refl _ _ | (with_reducible refine Below.setCell ?_ (by first | (simp; done) | (simp; omega) | omega) _) | (with_reducible refine Below.alloc ?_ (by first | (simp; done) | (simp; omega) | omega) _) | (with_reducible refine Below.drew ?_))))).keep HB3.out
  obtain ⟨P2, hP2⟩ : ∃ P2, P2 = w3.heap.size + 1 := ⟨_, rfl⟩
  obtain ⟨M2, hM2⟩ : ∃ M2 : Nat → Option Obj, M2 = fun k => if k = P2 then some (.cells #[.slice none 0 0] 76 (0, 0)) else M k := ⟨_, rfl⟩
  have hP0 : M P2 = none := hL3.none (by omega)
  have key : ∀ o : Obj, Lw w1 M2 ((w3.alloc o).alloc (.cells #[.slice none 0 0] 76)) := fun o => by
    have h4 : Lw w1 M (w3.alloc o) := hL3.keep ((Below.refl _ w3).alloc (Nat.le_refl _) _)
    have h5 := Lw.put (h4.keep ((Below.refl _ _).alloc (Nat.le_refl _) _)) (g := (w3.alloc o).heap.size) h4.1.below.size (World.alloc_heap_new (w3.alloc o) (.cells #[.slice none 0 0] 76))
    rw [World.size_alloc, ← hP2, ← hM2] at h5
    exact h5
  have hpp : p ≠ P2 := fun e => by have := HG.out.1; rw [e, hP0] at this; cases this
  have hg2 : LogIn M2 P2 (.slice none 0 0) [] := ⟨by rw [hM2]; exact if_pos rfl, Ly.RowAt.nil _ _ _⟩
  have hg1 : LogIn M2 p v threeL := by
    refine LogIn.other (u := .slice none 0 0) (q := P2) HG.out hpp (fun k hk => by simp [Value.ownBlock] at hk) (by simp [Value.ownBlock]) (fun e => HG.out.own_some e hP0) (fun k o hk hn _ => ?_)
    rw [hM2]
    exact (if_neg hn).trans hk
  have hp1 := fun W (hW : Lw w1 M2 W) => put_any hW hg2.1 hg2.2 (by decide) ent1
  rw [show Lg.putE [] ent1 = 0 by decide +kernel, show Lg.putL [] ent1 = [ent1] by decide +kernel] at hp1
  simp only [EntV.agg, ent1] at hp1
  have HP1 := Lib.hid hp1
  have KEY := Lib.hid key
  have HG1 := Lib.hid hg1
  have HG2 := Lib.hid hg2
  have HPP := Lib.hid hpp
  rw [← hP2]
  clear hL3 hM2 hP0 key hpp hg1 hg2 hp1 hP2
  go_upto_region 7 with ((with_reducible refine (HP1.out _ (KEY.out _)).mono ?_); rintro e w5 ⟨rfl, v5, M5, hL5, hp5, hr5, ho5, hs5⟩)
  have hg5 : LogIn M5 P2 v5 [ent1] := ⟨hp5, hr5⟩
  have hq5 : LogIn M5 p v threeL := LogIn.other (u := .slice none 0 0) (q := P2) HG1.out HPP.out (fun k hk => by simp [Value.ownBlock] at hk) (by simp [Value.ownBlock]) (HG1.out.own_ne HG2.out.1) hs5
  have hne5 : ∀ k, v5.ownBlock = some k → v.ownBlock ≠ some k := fun k hk e => by
    rcases ho5 k hk with h | h
    · simp [Value.ownBlock] at h
    · exact HG1.out.own_some e h
  have hp2 := fun W (hW : Lw w1 M5 W) => put_any hW hg5.1 hg5.2 (by decide) (entOf 2 10 0)
  rw [show Lg.putE [ent1] (entOf 2 10 0) = 6 by decide +kernel, show Lg.putL [ent1] (entOf 2 10 0) = [ent1] by decide +kernel] at hp2
  simp only [EntV.agg, entOf] at hp2
  have HP2 := Lib.hid hp2
  have HL5 := Lib.hid hL5
  have HG5 := Lib.hid hg5
  have HQ5 := Lib.hid hq5
  have HN5 := Lib.hid hne5
  clear hp5 hr5 ho5 hs5 hp2 hL5 hg5 hq5 hne5
  go_upto_region 8 with ((with_reducible refine (HP2.out _ HL5.out).mono ?_); rintro e w6 ⟨rfl, v6, M6, hL6, hp6, hr6, ho6, hs6⟩)
  have hq6 : LogIn M6 p v threeL := LogIn.other (u := v5) (q := P2) HQ5.out HPP.out HN5.out (HG5.out.own_ne HQ5.out.1) (HQ5.out.own_ne HG5.out.1) hs6
  clear hp6 hr6 ho6 hs6
  have hcm := fun W (hW : Lw w1 M6 W) => logCommits_any (hq6.at hW (by decide)) (by decide)
  have hbt := fun W (hW : Lw w1 M6 W) => logBetween_any (hq6.at hW (by decide)) (by decide) 3 5
  have hpt := fun W (hW : Lw w1 M6 W) => put_any hW hq6.1 hq6.2 (by decide) (entOf 4 10 0)
  rw [show Lg.putE threeL (entOf 4 10 0) = 2 by decide +kernel, show Lg.putL threeL (entOf 4 10 0) = threeL by decide +kernel] at hpt
  simp only [EntV.agg, entOf] at hpt
  have HCM := Lib.hid hcm
  have HBT := Lib.hid hbt
  have HPT := Lib.hid hpt
  have HW := Lib.hid hL6
  clear hcm hbt hpt hL6 hq6
  go_wp2_with (first
    | ((with_reducible refine (HCM.out _ HW.out).mono ?_); rintro e w' ⟨⟨v, rfl, hR⟩, hb⟩; obtain ⟨A1, n1, rfl⟩ := len_R hR (n := 2) (by decide +kernel); (have HW := Lib.hid (HW.out.keep hb)); clear hR hb)
    | ((with_reducible refine (HBT.out _ HW.out).mono ?_); rintro e w' ⟨⟨v, rfl, hR⟩, hb⟩; obtain ⟨A2, n2, rfl⟩ := len_R hR (n := 2) (by decide +kernel); (have HW := Lib.hid (HW.out.keep hb)); clear hR hb)
    | ((with_reducible refine (HPT.out _ HW.out).mono ?_); rintro e w8 ⟨rfl, v8, M8, hL8, hp8, hr8, _, _⟩; (have hof := fun W (hW : Lw w1 M8 W) => logOf_any (LogIn.at (⟨hp8, hr8⟩ : LogIn M8 p v8 threeL) hW (by decide)) (by decide) 2); (have HOF := Lib.hid hof); (have HW8 := Lib.hid hL8); clear hL8 hp8 hr8 hof)
    | ((with_reducible refine (HOF.out _ HW8.out).mono ?_); rintro e w9 ⟨⟨v, rfl, hR⟩, hb⟩; obtain ⟨A3, n3, rfl⟩ := len_R hR (n := 2) (by decide +kernel); (have HW9 := Lib.hid (HW8.out.keep hb)); clear hR hb))
  go_ret
  exact ⟨rfl, HB.out.trans (HW9.out.1.below.mono HB.out.size)⟩
end Go.Proofs.Ytljfloopjgpaeab
