/- tollbar/log: New, From; tollbarlaw15.three; append onto a row of one's own that is known. -/
import Derived.LoopTactic
import Derived.LoopNIn
import Derived.Test.YtljfloopjgpaeabJE
namespace Go.Proofs.Ytljfloopjgpaeab
set_option linter.unusedVariables false
set_option linter.unusedSimpArgs false
open Go.RowKit Go.Shelf
attribute [local go_sem] Oper.semAt_some run_store_fn
set_option maxRecDepth 100000
theorem logNew_any (w : World) : Calls Try.prog 10 #[] w fun e w' => e = .returned (.pointer (some ⟨w.heap.size, 0, none⟩)) ∧ w' = w.alloc (.cells #[.slice none 0 0] 76) := by
  go_enter Try.func10, Try.ntmps10
  go_wp2
  go_ret
  exact ⟨rfl, rfl⟩
def entOf (a k t : Int) : EntV := ⟨a, k, 0, t, 0, 0, 0, 0, 0, 0, false, 0, 0⟩
def threeL : List EntV := [entOf 3 8 1, entOf 3 22 2, entOf 5 10 2]
theorem three_any (w : World) : Calls Try.prog 29 #[] w fun e w' => (∃ A c, e = .returned (.slice A 3 c) ∧ kEnt.R w' (.slice A 3 c) threeL) ∧ Below w.heap.size w w' := by
  go_enter Try.func29, Try.ntmps29
  go_wp2
  go_ret
  refine ⟨⟨_, _, rfl, ?_⟩, by (repeat (first | with_reducible exact Below.refl _ _ | (with_reducible refine Below.setCell ?_ (by first | (simp; done) | (simp; omega) | omega) _) | (with_reducible refine Below.alloc ?_ (by first | (simp; done) | (simp; omega) | omega) _) | (with_reducible refine Below.drew ?_)))⟩
  refine own_R (B := 0) (E := 30) (l := threeL) (sz := 13) (enc := EntV.cells) (Q := fun _ => True) cells_len ⟨rfl, .inr ⟨w.heap.size, 3, _, rfl, Nat.zero_le _, World.alloc_heap_new w _, Nat.le_refl _, by unfold maxLen; decide, rfl, rfl⟩⟩ (fun _ _ => trivial) (by decide)
theorem Lw.start {w : World} : Lw w (fun _ => Option.none) w := Ly.II.nil (Below.refl _ _)
theorem Lw.put {w0 w : World} {M : Nat → Option Obj} (h : Lw w0 M w) {g : Nat} {o : Obj} (hg : w0.heap.size ≤ g) (hw : w.heap[g]? = some o) : Lw w0 (fun k => if k = g then some o else M k) w := Ly.II.put h hg hw
theorem Lw.append {w0 w w' : World} {M : Nat → Option Obj} {E sz n n' : Nat} {v v' : Value} {xs xs' : List Value} (h : Lw w0 M w) (hr : Ly.RowAt M E sz v n xs) (ho : w'.ownsRow 0 E sz v' n' xs') (hg : w.grownBy w' v.ownBlock) (hob : v'.ownBlock = v.ownBlock ∨ v'.ownBlock = some w.heap.size) :
    ∃ M', Lw w0 M' w' ∧ Ly.RowAt M' E sz v' n' xs' ∧ (∀ k, v'.ownBlock = some k → v.ownBlock = some k ∨ M k = Option.none) ∧ (∀ k o, M k = some o → v.ownBlock ≠ some k → M' k = some o) := by
  have hsz : w0.heap.size ≤ w.heap.size := h.1.below.size
  have hdom : ∀ k, v.ownBlock = some k → w0.heap.size ≤ k ∧ k < w.heap.size := fun k hk => by
    rcases hr.2 with ⟨h1, _⟩ | ⟨g, cap, cur, h1, hm, _⟩
    · rw [h1] at hk; simp [Value.ownBlock] at hk
    · rw [h1] at hk
      simp only [Value.ownBlock, Option.some.injEq] at hk
      subst hk
      exact ⟨h.2.dom _ _ hm, (Array.getElem?_eq_some_iff.1 (h.1.holds _ _ hm)).1⟩
  have hnew : ∀ k, v'.ownBlock = some k → (v.ownBlock = some k ∨ k = w.heap.size) := fun k hk => hob.elim (fun e => .inl (e ▸ hk)) (fun e => .inr (by rw [e] at hk; injection hk with hk; exact hk.symm))
  refine ⟨fun k => if v.ownBlock = some k ∨ v'.ownBlock = some k then w'.heap[k]? else M k, ⟨⟨⟨hg.os.trans h.1.below.os, hg.tape.trans h.1.below.tape, hg.output.trans h.1.below.output, Nat.le_trans hsz hg.size, fun k hk => ?_⟩, fun k o hk => ?_, trivial⟩, ⟨fun _ _ _ _ => trivial, fun k o hk => ?_, ?_⟩⟩, ⟨ho.1, ?_⟩, fun k hk => ?_, fun k o hk hn => ?_⟩
  · rw [hg.block k (by omega) (fun e => by have := (hdom k e.symm).1; omega)]
    exact h.1.below.block k hk
  · dsimp only at hk
    split at hk
    · exact hk
    · rename_i hn
      have h1 := h.1.holds k o hk
      exact (hg.block k (Array.getElem?_eq_some_iff.1 h1).1 (fun e => hn (.inl e.symm))).trans h1
  · dsimp only at hk
    split at hk
    · rename_i hc
      rcases hc with hc | hc
      · exact (hdom k hc).1
      · rcases hnew k hc with hc | hc
        · exact (hdom k hc).1
        · omega
    · exact h.2.dom k o hk
  · obtain ⟨m, hm⟩ := h.2.fin
    refine ⟨m + w'.heap.size, fun k hk => ?_⟩
    dsimp only
    split
    · exact Array.getElem?_eq_none (by omega)
    · exact hm k (by omega)
  · rcases ho.2 with h1 | ⟨g, cap, cur, h1, _, hb, rest⟩
    · exact .inl h1
    · refine .inr ⟨g, cap, cur, h1, ?_, rest⟩
      dsimp only
      rw [if_pos (.inr (by rw [h1]; rfl))]
      exact hb
  · rcases hnew k hk with h1 | h1
    · exact .inl h1
    · exact .inr (h.none (by omega))
  · dsimp only
    rw [if_neg]
    · exact hk
    · rintro (h1 | h1)
      · exact hn h1
      · rcases hnew k h1 with h2 | h2
        · exact hn h2
        · rw [h.none (by omega)] at hk; cases hk
/-- A log in a state: its block, its row. -/
def LogIn (M : Nat → Option Obj) (p : Nat) (v : Value) (L : List EntV) : Prop := M p = some (.cells #[v] 76 (0, 0)) ∧ Ly.RowAt M 30 13 v L.length (L.flatMap EntV.cells)
set_option maxHeartbeats 8000000 in
theorem from_any {w0 w : World} {M : Nat → Option Obj} (h : Lw w0 M w) {A : Option Addr} {n c : Nat} {l : List EntV} (hl : kEnt.R w0 (.slice A n c) l) (hs : l.length ≤ 1000) (hok : ∀ k (h : k < l.length), Lg.putE (Lg.logOf l k) l[k] = 0) :
    Calls Try.prog 28 #[.slice A n c] w fun e w' => ∃ p v M', e = .returned (.tuple #[.pointer (some ⟨p, 0, none⟩), .int .i64 0]) ∧ Lw w0 M' w' ∧ LogIn M' p v (Lg.logOf l l.length) ∧ (∀ k o, M k = some o → M' k = some o) ∧ M p = Option.none ∧ (∀ k, v.ownBlock = some k → M k = Option.none) := by
  obtain ⟨A', c', hv, _, _, hl2⟩ := hl.val
  obtain ⟨rfl, rfl, rfl⟩ : A = A' ∧ n = l.length ∧ c = c' := by simpa using hv
  clear hv
  go_enter Try.func28, Try.ntmps28
  go_upto_region 2 with ((with_reducible refine (logNew_any _).mono ?_); rintro e w' ⟨rfl, hw'⟩)
  rw [← hw']
  obtain ⟨P, hP⟩ : ∃ P, P = w.heap.size := ⟨_, rfl⟩
  have hM0 : M P = Option.none := by rw [hP]; exact h.none (Nat.le_refl _)
  have h1 : Lw w0 (fun k => if k = P then some (.cells #[.slice none 0 0] 76 (0, 0)) else M k) w' := by
    rw [hP, hw']
    exact Lw.put (h.keep ((Below.refl _ w).alloc (Nat.le_refl _) _)) h.1.below.size (World.alloc_heap_new w _)
  have hi0 : LogIn (fun k => if k = P then some (.cells #[.slice none 0 0] 76 (0, 0)) else M k) P (.slice none 0 0) (Lg.logOf l 0) := ⟨by simp, Ly.RowAt.nil _ _ _⟩
  have hsub0 : ∀ k o, M k = some o → (fun k => if k = P then some (.cells #[.slice none 0 0] 76 (0, 0)) else M k) k = some o := fun k o hk => by
    dsimp only
    rw [if_neg (fun e => by rw [e, hM0] at hk; cases hk)]
    exact hk
  have H1 := Lib.hid h1
  have HL := Lib.hid hl
  have HI := Lib.hid hi0
  have HS := Lib.hid hsub0
  have HM0 := Lib.hid hM0
  rw [← hP]
  clear h1 hi0 hsub0 hM0 hP hw' h hl
  have HOK := Lib.hid hok
  clear hok
  go_wp2
  go_loopw [11] (fun i wr => ∃ k : Nat, k ≤ l.length ∧ i = .int .i64 k ∧ ∃ v M', Lw w0 M' wr ∧ LogIn M' P v (Lg.logOf l k) ∧ (∀ k o, M k = some o → M' k = some o) ∧ (∀ k, v.ownBlock = some k → M k = Option.none)) (fun i _ => l.length - (intOf i).toNat)
  case atStart => exact ⟨0, Nat.zero_le _, rfl, _, _, H1.out, HI.out, HS.out, fun k hk => by simp [Value.ownBlock] at hk⟩
  case round =>
    obtain ⟨k, hk, rfl, v, M', hw, hlog, hsub, hown⟩ := hrel
    have HW := Lib.hid hw
    have HG := Lib.hid hlog
    have HSU := Lib.hid hsub
    have HOW := Lib.hid hown
    by_cases hlt : k < l.length
    · obtain ⟨b, o, rfl, hb, g0, g1, g2, g3, g4, g5, g6, g7, g8, g9, g10, g11, g12⟩ := kEnt_at (HL.out.keep hw.1.below) hlt
      have hi1 : (k : Int) < (l.length : Int) := by omega
      have hi0 : (0 : Int) ≤ (k : Int) := by omega
      have hwr : IntKind.i64.wrap ((k : Int) + 1) = (k : Int) + 1 := IntWalk.i64_in _ (by omega)
      have hput := fun W (hW : Lw w0 M' W) => put_any hW hlog.1 hlog.2 (Nat.le_trans (Lg.logOf_len l k) (by omega)) l[k]
      have hok := HOK.out k hlt
      rw [hok] at hput
      have hsc : Lg.putL (Lg.logOf l k) l[k] = Lg.logOf l (k + 1) := (Lg.logOf_succ hlt).symm
      rw [hsc] at hput
      simp only [EntV.agg] at hput
      have HPUT := Lib.hid hput
      clear hput hw hlog hsub hown hok hsc
      go_wp2_with ((with_reducible refine (HPUT.out _ (HW.out.keep (by (repeat (first | with_reducible exact Below.refl _ _ | (with_reducible refine Below.setCell ?_ (by first | (simp; done) | (simp; omega) | omega) _) | (with_reducible refine Below.alloc ?_ (by first | (simp; done) | (simp; omega) | omega) _) | (with_reducible refine Below.drew ?_)))))).mono ?_); rintro e w2 ⟨rfl, hpt⟩)
      obtain ⟨v', M2, hw2, hp2, hr2, ho2, hs2⟩ := hpt
      go_roundw
      case rel =>
        refine ⟨k + 1, hlt, by go_num, v', M2, hw2, ⟨hp2, hr2⟩, fun j o hj => ?_, fun j hj => ?_⟩
        · refine hs2 j o (HSU.out j o hj) (fun e => by rw [e, HM0.out] at hj; cases hj) (fun e => by rw [HOW.out j e] at hj; cases hj)
        · rcases ho2 j hj with h1 | h1
          · exact HOW.out j h1
          · cases hm : M j with
            | none => rfl
            | some o => rw [HSU.out j o hm] at h1; cases h1
      case measure => simp [intOf]; omega
    · obtain rfl : k = l.length := by omega
      clear hw hlog hsub hown
      go_wp2
      refine bodyPost_ret (results_tmp2 rfl _ _ _) rfl ?_
      exact ⟨P, v, M', rfl, HW.out, HG.out, HSU.out, HM0.out, HOW.out⟩
end Go.Proofs.Ytljfloopjgpaeab
