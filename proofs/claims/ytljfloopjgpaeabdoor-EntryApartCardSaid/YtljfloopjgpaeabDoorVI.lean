/- The sink of entry.one: a Builder. -/
import Derived.Test.YtljfloopjgpaeabDoorVH
import Derived.Test.YtljfloopjgpaeabDoorVP
namespace Go.Proofs.YtljfloopjgpaeabDoor
set_option linter.unusedVariables false
set_option linter.unusedSimpArgs false
open Go.RowKit Go.Shelf
set_option maxRecDepth 100000
theorem SbL.kept {B b : Nat} {l : List UInt8} {w w' : World} (h : SbL B b l w) (hb : CellsKept w w') : SbL B b l w' := by
  have key : ∀ p, SbAt B b p (Lib.byteCells l) w → SbAt B b p (Lib.byteCells l) w' := fun p ⟨h1, v, h2, h3, h4⟩ => by
    refine ⟨h1, v, hb.2 _ _ _ _ h2, ⟨h3.1, ?_⟩, h4⟩
    rcases h3.2 with h5 | ⟨g, cap, cur, h5, h6, h7, rest⟩
    · exact .inl h5
    · exact .inr ⟨g, cap, cur, h5, h6, hb.2 _ _ _ _ h7, rest⟩
  exact h.imp (key _) (key _)
def ModSb (_ : Nat) (o : Obj) : Prop := SbObj o
theorem ModSb.free : Free ModSb where
  ent := fun k cs z ⟨_, _, _, h, hT⟩ => by injection h with _ h; subst h; revert hT; decide
  fn := fun k cs z ⟨_, _, _, h, hT⟩ => by injection h with _ h; subst h; revert hT; decide
  str := fun k cs z _ _ _ _ ⟨_, _, _, h, hT⟩ => by injection h with _ h; subst h; revert hT; decide
  ptr := fun k cs z ⟨_, _, _, h, hT⟩ => by injection h with _ h; subst h; revert hT; decide
  oth := fun k o ho ⟨_, _, _, h, _⟩ => by subst h; cases ho
/-- What entry.one's callbacks take. -/
def okSb : Ev → Prop
  | .small s v => 0 ≤ v + shiftB s ∧ v ≤ 1000
  | .wide v => -9223372036854775808 ≤ v ∧ v ≤ 9223372036854775807
  | .plain n => n < 18446744073709551616
def SbS (B b : Nat) (l0 : List UInt8) (evs : List Ev) (w : World) : Prop := SbL B b (l0 ++ evsB evs) w ∧ (l0 ++ evsB evs).length ≤ 100 + 10 * evs.length
theorem evB_len {ev : Ev} (h : okSb ev) : (evB ev).length ≤ 10 := by
  cases ev with
  | small s v =>
    have : shiftB s ≤ 1 := by unfold shiftB; split <;> omega
    obtain ⟨h1, h2⟩ := h
    exact numL_len _ (by omega)
  | wide v =>
    obtain ⟨h1, h2⟩ := h
    exact numL_len _ (by unfold zig; split <;> omega)
  | plain n => exact numL_len _ h
theorem evsB_snoc (evs : List Ev) (ev : Ev) : evsB (evs ++ [ev]) = evsB evs ++ evB ev := by simp [evsB]
theorem SbS.snoc {B b : Nat} {l0 : List UInt8} {evs : List Ev} {w w' : World} {ev : Ev} (h : SbS B b l0 evs w) (hok : okSb ev) (hw : SbL B b ((l0 ++ evsB evs) ++ evB ev) w') : SbS B b l0 (evs ++ [ev]) w' := by
  have h1 := evB_len hok
  have h2 := h.2
  refine ⟨by rw [evsB_snoc, ← List.append_assoc]; exact hw, ?_⟩
  rw [evsB_snoc]
  simp only [List.length_append, List.length_singleton] at h2 ⊢
  omega
theorem sinkSb (B b : Nat) (l0 : List UInt8) : Sink ModSb B (SbS B b l0) okSb 94 97 99 #[.pointer (some ⟨b, 0, none⟩)] #[.pointer (some ⟨b, 0, none⟩)] #[.pointer (some ⟨b, 0, none⟩)] where
  keep := fun evs w w' h hk => ⟨h.1.kept hk, h.2⟩
  es := enters_of Tryd.func94 (by kernel_rfl) rfl
  ew := enters_of Tryd.func97 (by kernel_rfl) rfl
  ep := enters_of Tryd.func99 (by kernel_rfl) rfl
  small := fun evs w s v h hok hlen hB => by
    refine (one1_any h.1 hB (by have := h.2; omega) s v hok.1 (by have := hok.2; omega)).mono ?_
    rintro e w' ⟨rfl, h1, h2, h3⟩
    exact ⟨rfl, h.snoc hok h1, h3, h2⟩
  wide := fun evs w v h hok hlen hB => by
    refine (one2_any h.1 hB (by have := h.2; omega) v hok.1 hok.2).mono ?_
    rintro e w' ⟨rfl, h1, h2, h3⟩
    exact ⟨rfl, h.snoc hok h1, h3, h2⟩
  plain := fun evs w n h hok hlen hB => by
    refine (one3_any h.1 hB (by have := h.2; omega) n hok).mono ?_
    rintro e w' ⟨rfl, h1, h2, h3⟩
    exact ⟨rfl, h.snoc hok h1, h3, h2⟩
theorem evAll_ok {x : EntV} (h : okE x) {ns : List ByteArray} (hs : ∀ s ∈ ns, s ∈ all11) : ∀ ev ∈ evAll x ns, okSb ev := by
  intro ev hev
  unfold evAll at hev
  obtain ⟨s, hs1, hs2⟩ := List.mem_flatMap.1 hev
  obtain ⟨_, _, h0, h1, h2, h3, h4, h5, h6, h7, h9, h10⟩ := h
  have e1 : evOf x s_worker = [.small s_worker x.worker] := by kernel_rfl
  have e2 : evOf x s_task = [.small s_task x.task] := by kernel_rfl
  have e3 : evOf x s_peer = [.small s_peer x.peer] := by kernel_rfl
  have e4 : evOf x s_ch = [.small s_ch x.ch] := by kernel_rfl
  have e5 : evOf x s_case = [.small s_case x.cs] := by kernel_rfl
  have e6 : evOf x s_peercase = [.small s_peercase x.pc] := by kernel_rfl
  have e7 : evOf x s_val = [.wide x.val] := by kernel_rfl
  have e8 : evOf x s_val2 = [.wide x.val2] := by kernel_rfl
  have e9 : evOf x s_ok = [.plain (if x.ok then 1 else 0)] := by kernel_rfl
  have e10 : evOf x s_code = [.plain (IntKind.u64.wrap x.code).toNat] := by kernel_rfl
  have e11 : evOf x s_set = [.plain x.set.toNat] := by kernel_rfl
  have k0 : shiftB s_worker = 0 ∧ shiftB s_task = 0 ∧ shiftB s_peer = 1 ∧ shiftB s_ch = 0 ∧ shiftB s_case = 1 ∧ shiftB s_peercase = 1 := by refine ⟨?_, ?_, ?_, ?_, ?_, ?_⟩ <;> kernel_rfl
  obtain ⟨k1, k2, k3, k4, k5, k6⟩ := k0
  rcases mem11 (hs s hs1) with rfl | rfl | rfl | rfl | rfl | rfl | rfl | rfl | rfl | rfl | rfl
  · rw [e1, List.mem_singleton] at hs2; subst hs2; show 0 ≤ x.worker + shiftB s_worker ∧ x.worker ≤ 1000; omega
  · rw [e2, List.mem_singleton] at hs2; subst hs2; show 0 ≤ x.task + shiftB s_task ∧ x.task ≤ 1000; omega
  · rw [e3, List.mem_singleton] at hs2; subst hs2; show 0 ≤ x.peer + shiftB s_peer ∧ x.peer ≤ 1000; omega
  · rw [e4, List.mem_singleton] at hs2; subst hs2; show 0 ≤ x.ch + shiftB s_ch ∧ x.ch ≤ 1000; omega
  · rw [e5, List.mem_singleton] at hs2; subst hs2; show 0 ≤ x.cs + shiftB s_case ∧ x.cs ≤ 1000; omega
  · rw [e6, List.mem_singleton] at hs2; subst hs2; show 0 ≤ x.pc + shiftB s_peercase ∧ x.pc ≤ 1000; omega
  · rw [e7, List.mem_singleton] at hs2; subst hs2; exact h6
  · rw [e8, List.mem_singleton] at hs2; subst hs2; exact h7
  · rw [e9, List.mem_singleton] at hs2; subst hs2; show (if x.ok = true then 1 else 0) < 18446744073709551616; split <;> omega
  · rw [e10, List.mem_singleton] at hs2; subst hs2; show (IntKind.u64.wrap x.code).toNat < 18446744073709551616; rw [IntKind.wrap_u64]; omega
  · rw [e11, List.mem_singleton] at hs2; subst hs2; show x.set.toNat < 18446744073709551616; omega
end Go.Proofs.YtljfloopjgpaeabDoor
