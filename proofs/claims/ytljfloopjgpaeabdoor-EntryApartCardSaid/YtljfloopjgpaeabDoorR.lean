/- A range over a function whose iterator writes cells of its own between two rounds ('A': what it may turn), and may go on as long as the body bears it ('Bd'). After the library's laws on such loops (one goroutine, the wide fence). -/
import Derived.RangeFuncNested
import Derived.RangeFuncBound
import Derived.RangeFuncCalls
import Derived.RangeFuncLeaves
import Derived.WalkKit
import Derived.Scope
namespace Go.Proofs.YtljfloopjgpaeabDoor
set_option linter.unusedVariables false
set_option linter.unusedSimpArgs false
open Go.RowKit
variable {P : Program} {α : Type}

/-- The iterator's contract. -/
def SeqX (n : Nat) (P : Program) (g : Nat) (lb : Array Value) (encs : α → Array Value) (A Kp : World → World → Prop) (S Sp : List α → Prop) (Gd : List α → α → Prop) (Bd : List α → Prop) (w : World) : Prop :=
  ∀ (l : Nat) (J Jx : List α → World → Prop) (W : World), Below w.heap.size w W →
    (∀ pre W1 W2, J pre W1 → A W1 W2 → J pre W2) → (∀ pre W1 W2, Jx pre W1 → A W1 W2 → Jx pre W2) → (∀ pre W1, J pre W1 → Bd pre) →
    (∀ pre x W1, J pre W1 → Gd pre x → YieldAt Fence.wide (n - 1) P l (encs x) W1 fun e W' =>
      (e = .returned (.bool true) ∧ J (pre ++ [x]) W' ∧ Kp W1 W') ∨ (e = .returned (.bool false) ∧ Jx (pre ++ [x]) W')) →
    J [] W →
    CallsIn Fence.wide n P g (#[.func (.yield l) #[] #[]] ++ lb) W fun e W' => (∃ v, e = .returned v) ∧ ((∃ xs, S xs ∧ J xs W') ∨ (∃ pre, Sp pre ∧ Jx pre W'))

/-- How a round's body ends. -/
def postX (B : Nat) (Kp : World → World → Prop) (I : List α → World → Prop) (Ix : Code → List α → World → Prop) (xs : List α) (W : World) : Exit → Act → World → Prop
  | .normal, _, W' => KeepsFrom B W W' ∧ Kp W W' ∧ I xs W'
  | .ret, _, W' => KeepsFrom B W W' ∧ Ix .ret xs W'
  | .exit id, _, W' => KeepsFrom B W W' ∧ Ix (.exit id) xs W'
  | .goto t, _, W' => KeepsFrom B W W' ∧ Ix (.goto t) xs W'
  | .panic _, _, _ => False
  | .outgrown, _, _ => False

/-- The loop's record. -/
def recX (w : World) (fn : Nat) (tmps : Array Value) (ps : Array Tmp) (assign body : Code) (st : LoopState) (pe : Option Code) : Loop := { state := st, pending := pe, fn := fn, tmps := tmps, params := ps, assign := assign, body := body, defers := w.heap.size }

theorem rangeX {n : Nat} {g : Operand} {ps : Array Tmp} {assign body : Code} {Q : Exit → Act → World → Prop} {a : Act} {w : World} (h1 : 1 ≤ n) {gf : Nat} {lb : Array Value}
    (hg : a.eval g = .func (.func gf) #[] lb) (eg : ∀ args w, (callFunc gf args).run P w = .ok (.enter gf args) w)
    {encs : α → Array Value} {A Kp : World → World → Prop} {S Sp : List α → Prop} {Gd : List α → α → Prop} {Bd : List α → Prop} {w0 : World} (hseq : SeqX (n - 1) P gf lb encs A Kp S Sp Gd Bd w0)
    (hA : ∀ W W' k o, A W W' → w.heap.size ≤ k → W.heap[k]? = some o → o.isCells = false → W'.heap[k]? = some o)
    (hKt : ∀ {X Y Z : World}, Kp X Y → Kp Y Z → Kp X Z) (hKb : ∀ (W : World) (k : Nat) (o o' : Obj), w.heap.size ≤ k → W.heap[k]? = some o → o.isCells = false → Kp W (W.putObj k o')) (hb0 : Below w0.heap.size w0 w) (hps : ∀ x, (encs x).size = ps.size)
    (I : List α → World → Prop) (Ix : Code → List α → World → Prop) (hI : OwnFrom w.heap.size I) (hIx : ∀ c, OwnFrom w.heap.size (Ix c))
    (hIA : ∀ pre W W', I pre W → A W W' → I pre W') (hIxA : ∀ c pre W W', Ix c pre W → A W W' → Ix c pre W') (hBd : ∀ pre W, I pre W → Bd pre) (h0 : I [] w)
    (Ax : List α → α → Act → World → Prop) (hAx : ∀ pre x a', OwnFrom w.heap.size (fun (_ : Unit) W => Ax pre x a' W))
    (hassign : ∀ (l : Nat) (pre : List α) (x : α) (W : World) (K : Act → World → Prop), I pre W → Gd pre x → (∀ a' W', KeepsFrom w.heap.size W W' → Kp W W' → Ax pre x a' W' → K a' W') →
      assign.wpIn (Fence.wide.inRound l) (n - 1 - 1) P (Exit.then K (fun _ _ _ => False)) { tmps := (ps.zip (encs x)).foldl (fun t (p, v) => t.setIfInBounds p v) a.tmps, defers := [] } W)
    (hbody : ∀ (l : Nat) (pre : List α) (x : α) (a' : Act) (W : World), w.heap.size ≤ l → Ax pre x a' W → Gd pre x → body.wpIn (Fence.wide.inRound l) (n - 1 - 1) P (postX w.heap.size Kp I Ix (pre ++ [x]) W) a' W)
    (hdone : ∀ (D : Nat) (xs : List α) (W : World), w.heap.size ≤ D → S xs → I xs W → W.heap[D]? = some (.deferred (some [])) → Q .normal { a with defers := { target := .collected D, args := #[] } :: a.defers } W)
    (hstop : ∀ (D : Nat) (c : Code) (pre : List α) (W : World), w.heap.size ≤ D → Sp pre → Ix c pre W → W.heap[D]? = some (.deferred (some [])) → c.wpIn Fence.wide n P Q { a with defers := { target := .collected D, args := #[] } :: a.defers } W) :
    (Code.rangeFunc g ps assign body).wpIn Fence.wide n P Q a w := by
  refine wpIn_rangeFunc ?_
  intro fn hfn
  show ∃ _, _
  obtain ⟨rc, hrc⟩ : ∃ rc : LoopState → Option Code → Loop, rc = recX w fn a.tmps ps assign body := ⟨_, rfl⟩
  obtain ⟨W1, hW1⟩ : ∃ W1, (w.alloc (.deferred (some []))).alloc (.loop (rc .ready none)) = W1 := ⟨_, rfl⟩
  have hL1 : W1.heap[w.heap.size + 1]? = some (.loop (rc .ready none)) := by
    rw [← hW1]; have := World.alloc_heap_new (w.alloc (.deferred (some []))) (.loop (rc .ready none)); rwa [World.size_alloc] at this
  have hK1 : W1.heap[w.heap.size]? = some (.deferred (some [])) := by
    rw [← hW1]; exact (Below.heap_alloc _ _ _ (by simp)).trans (World.alloc_heap_new w _)
  have hI1 : I [] W1 := by rw [← hW1]; exact hI.alloc _ (hI.alloc _ h0)
  have hb1 : Below w0.heap.size w0 W1 := by
    rw [← hW1]; exact hb0.trans ((((Below.refl _ w).alloc (Nat.le_refl _) _).alloc (by simp) _).mono hb0.size)
  refine ⟨w.heap.size + 1, [{ target := .collected w.heap.size, args := #[] }], W1, { target := .fn (.func gf) lb, args := #[.func (.yield (w.heap.size + 1)) #[] #[]] }, W1, gf,
    #[.func (.yield (w.heap.size + 1)) #[] #[]] ++ lb, W1, ?_, ?_, fun _ _ => trivial, ?_, fun _ => h1, ?_⟩
  · rw [← hW1, hrc]; exact run_enterLoop_outer _ _ _ _ _
  · simp only [resolve, hg]
    simp [go_sem]
  · simp [invoke, go_sem, eg]
  · have keep : ∀ {X Y : World} {k : Nat} {o : Obj}, A X Y → w.heap.size ≤ k → X.heap[k]? = some o → o.isCells = false → Y.heap[k]? = some o := fun h hk ho hc => hA _ _ _ _ h hk ho hc
    refine (hseq (w.heap.size + 1)
      (fun pre W => I pre W ∧ W.heap[w.heap.size + 1]? = some (.loop (rc .ready none)) ∧ W.heap[w.heap.size]? = some (.deferred (some [])))
      (fun pre W => ∃ c, Ix c pre W ∧ W.heap[w.heap.size + 1]? = some (.loop (rc .done (some c))) ∧ W.heap[w.heap.size]? = some (.deferred (some [])))
      W1 hb1
      (fun pre X Y hj hxy => ⟨hIA _ _ _ hj.1 hxy, keep hxy (by omega) hj.2.1 rfl, keep hxy (Nat.le_refl _) hj.2.2 rfl⟩)
      (fun pre X Y hj hxy => by
        obtain ⟨c, hc, hl, hk⟩ := hj
        exact ⟨c, hIxA _ _ _ _ hc hxy, keep hxy (by omega) hl rfl, keep hxy (Nat.le_refl _) hk rfl⟩)
      (fun pre X hj => hBd _ _ hj.1) ?_ ⟨hI1, hL1, hK1⟩).mono ?_
    · rintro pre x W ⟨hi, hl, hk⟩ hgd
      have hy := run_yield (P := P) (args := encs x) hl (by rw [hrc]; exact hps x)
      rw [hrc] at hy
      refine ⟨fn, _, assign, body, hy, roundIn_of_wpIn hfn (hassign _ pre x W _ hi hgd ?_)⟩
      clear hy
      intro a' Wa hkfa hkpa hax
      have hla := hkfa.same _ _ (by omega) hl rfl
      have hka := hkfa.same _ _ (Nat.le_refl _) hk rfl
      have hlt : w.heap.size + 1 < Wa.heap.size := (Array.getElem?_eq_some_iff.1 hla).1
      refine ⟨_, run_beginRound hla (by rw [hrc]; rfl), ?_⟩
      obtain ⟨Wb, hWb⟩ : ∃ Wb, Wb = Wa.putObj (w.heap.size + 1) (.loop { rc .ready none with state := .busy }) := ⟨_, rfl⟩
      rw [← hWb]
      have hl2 : Wb.heap[w.heap.size + 1]? = some (.loop { rc .ready none with state := .busy }) := by rw [hWb]; exact World.putObj_heap_same hlt
      have hk2 : Wb.heap[w.heap.size]? = some (.deferred (some [])) := by rw [hWb]; exact (World.putObj_heap_other (by omega)).trans hka
      have hw2 : Kp Wa Wb := by rw [hWb]; exact hKb _ _ _ _ (by omega) hla rfl
      have hax2 : Ax pre x a' Wb := by rw [hWb]; exact (hAx pre x a').putObj (s := ()) _ hax (by omega) hla rfl
      refine wpIn_mono (hbody _ pre x a' Wb (by omega) hax2 hgd) ?_
      have fin : ∀ (jump : Option Code) (W3 : World), KeepsFrom w.heap.size Wb W3 →
          (Instr.endRound (w.heap.size + 1) jump).run P W3 = .ok (.bool jump.isNone) (W3.putObj (w.heap.size + 1) (.loop (rc (if jump.isNone then .ready else .done) jump))) ∧
          W3.heap[w.heap.size + 1]? = some (.loop { rc .ready none with state := .busy }) ∧
          (W3.putObj (w.heap.size + 1) (.loop (rc (if jump.isNone then .ready else .done) jump))).heap[w.heap.size + 1]? = some (.loop (rc (if jump.isNone then .ready else .done) jump)) ∧
          (W3.putObj (w.heap.size + 1) (.loop (rc (if jump.isNone then .ready else .done) jump))).heap[w.heap.size]? = some (.deferred (some [])) := fun jump W3 hk3 => by
        have hl3 := hk3.same _ _ (by omega) hl2 rfl
        have := run_endRound (P := P) jump hl3
        rw [hrc] at this ⊢
        exact ⟨this, by rw [hrc] at hl3; exact hl3, World.putObj_heap_same (Array.getElem?_eq_some_iff.1 hl3).1, (World.putObj_heap_other (by omega)).trans (hk3.same _ _ (Nat.le_refl _) hk2 rfl)⟩
      rintro e a3 W3 hp
      cases e with
      | normal =>
        obtain ⟨hk3, hkp3, hi3⟩ := hp
        obtain ⟨hr, hl3, hl4, hk4⟩ := fin none W3 hk3
        exact ⟨_, _, hr, .inl ⟨rfl, ⟨hI.putObj _ hi3 (by omega) hl3 rfl, hl4, hk4⟩, hKt hkpa (hKt (hKt hw2 hkp3) (hKb _ _ _ _ (by omega) hl3 rfl))⟩⟩
      | ret =>
        obtain ⟨hk3, hi3⟩ := hp
        obtain ⟨hr, hl3, hl4, hk4⟩ := fin (some .ret) W3 hk3
        exact ⟨_, _, hr, .inr ⟨rfl, .ret, (hIx _).putObj _ hi3 (by omega) hl3 rfl, hl4, hk4⟩⟩
      | exit id =>
        obtain ⟨hk3, hi3⟩ := hp
        obtain ⟨hr, hl3, hl4, hk4⟩ := fin (some (.exit id)) W3 hk3
        exact ⟨_, _, hr, .inr ⟨rfl, .exit id, (hIx _).putObj _ hi3 (by omega) hl3 rfl, hl4, hk4⟩⟩
      | goto t =>
        obtain ⟨hk3, hi3⟩ := hp
        obtain ⟨hr, hl3, hl4, hk4⟩ := fin (some (.goto t)) W3 hk3
        exact ⟨_, _, hr, .inr ⟨rfl, .goto t, (hIx _).putObj _ hi3 (by omega) hl3 rfl, hl4, hk4⟩⟩
      | panic ch => exact hp.elim
      | outgrown => exact hp.elim
    · rintro e W2 ⟨⟨v, rfl⟩, (⟨xs, hS, hi, hl, hk⟩ | ⟨pre, hSp, c, hi, hl, hk⟩)⟩
      · exact ⟨none, _, by have := run_endLoop (P := P) hl (by rw [hrc]; simp [recX]); rw [hrc] at this; exact this, hdone _ xs _ (Nat.le_refl _) hS (hI.putObj _ hi (by omega) hl rfl) ((World.putObj_heap_other (by omega)).trans hk)⟩
      · exact ⟨some c, _, by have := run_endLoop (P := P) hl (by rw [hrc]; simp [recX]); rw [hrc] at this; exact this, hstop _ c pre _ (Nat.le_refl _) hSp ((hIx c).putObj _ hi (by omega) hl rfl) ((World.putObj_heap_other (by omega)).trans hk)⟩

/-- A scope that is gone through without a jump. -/
theorem wpIn_scopeX {n : Nat} {c : Code} {Q : Exit → Act → World → Prop} {a : Act} {w : World} (h : c.wpIn Fence.wide n P (Exit.noGoto Q) a w) : (Code.scope c).wpIn Fence.wide n P Q a w := by
  intro b k cs hro hb hr
  have hs : step P (lone (b.atR a (.code (.scope c) :: k)) cs w) = .next (lone (b.atR a (.code c :: .inScope c :: k)) cs w) := step_lone_go (by simp [stepG, stepG.exec, Frame.atR])
  have h0 : (lone (b.atR a (.code (.scope c) :: k)) cs w).fenced P Fence.wide := fenced_calm hb hr rfl
  obtain ⟨e, a₁, w₁, hq, harr⟩ := h b (.inScope c :: k) cs hro hb hr
  have hx : ∀ id, exitTo id (.inScope c :: k) = exitTo id k := fun id => by simp [exitTo]
  cases e with
  | normal =>
    refine ⟨.normal, a₁, w₁, hq, .head h0 hs (StepsIn.trans harr (.one (fenced_calm hb hr rfl) (step_lone_go ?_)))⟩
    simp [stepG, stepG.exec, Frame.atR]
  | exit id => exact ⟨.exit id, a₁, w₁, hq, fun k' hk => .head h0 hs (harr.1 k' (by rw [hx]; exact hk)), fun hr' hk => let ⟨k₁, g1, g2⟩ := harr.2 hr' (by rw [hx]; exact hk); ⟨k₁, g1, .head h0 hs g2⟩⟩
  | goto l => exact hq.elim
  | ret => exact ⟨_, a₁, w₁, hq, .of_steps (.one h0 hs) harr⟩
  | panic ch => exact ⟨_, a₁, w₁, hq, .of_steps (.one h0 hs) harr⟩
  | outgrown => exact ⟨_, a₁, w₁, hq, .of_steps (.one h0 hs) harr⟩
theorem noGoto_ret {Q : Exit → Act → World → Prop} {a : Act} {w : World} (h : Q .ret a w) : Exit.noGoto Q .ret a w := h

/-- What a body keeps that writes the blocks 'Own' alone: old memory (below base), and all other cells. -/
structure KpO (base : Nat) (Own : Nat → Prop) (W W' : World) : Prop where
  below : Below base W W'
  cells : ∀ k o, W.heap[k]? = some o → o.isCells = true → ¬ Own k → W'.heap[k]? = some o
theorem KpO.trans {base : Nat} {Own : Nat → Prop} {X Y Z : World} (h : KpO base Own X Y) (k : KpO base Own Y Z) : KpO base Own X Z :=
  ⟨h.below.trans k.below, fun i o hi hc ho => k.cells i o (h.cells i o hi hc ho) hc ho⟩
theorem KpO.putObj {base : Nat} {Own : Nat → Prop} {W : World} {k : Nat} {o : Obj} (o' : Obj) (hk : base ≤ k) (h : W.heap[k]? = some o) (hc : o.isCells = false) : KpO base Own W (W.putObj k o') :=
  ⟨⟨rfl, rfl, rfl, by simp, fun i hi => World.putObj_heap_other (by omega)⟩, fun i o2 hi hc2 _ => by
    by_cases e : i = k
    · subst e; rw [h] at hi; cases hi; rw [hc] at hc2; cases hc2
    · exact (World.putObj_heap_other e).trans hi⟩
theorem KpO.refl {base : Nat} {Own : Nat → Prop} (W : World) : KpO base Own W W := ⟨Below.refl _ _, fun _ _ h _ _ => h⟩
theorem KpO.alloc {base : Nat} {Own : Nat → Prop} {X W : World} (h : KpO base Own X W) (hb : base ≤ W.heap.size) (o : Obj) : KpO base Own X (W.alloc o) :=
  h.trans ⟨(Below.refl _ _).alloc hb _, fun i o2 hi _ _ => (Below.heap_alloc W o i (Array.getElem?_eq_some_iff.1 hi).1).trans hi⟩
theorem KpO.drew {base : Nat} {Own : Nat → Prop} {X W : World} (h : KpO base Own X W) : KpO base Own X W.drew := ⟨h.below.drew, h.cells⟩
theorem KpO.set {base : Nat} {Own : Nat → Prop} {X W : World} (h : KpO base Own X W) {p : Addr} (hb : base ≤ p.block) (ho : Own p.block) (u : Value) : KpO base Own X (W.setCell p u) :=
  h.trans ⟨(Below.refl _ _).setCell hb _, fun i o2 hi _ hn => (Below.heap_setCell W p u i (fun e => hn (e ▸ ho))).trans hi⟩
theorem KpO.of_below {base : Nat} {Own : Nat → Prop} {X Y Z : World} (h : KpO base Own X Y) (hb : base ≤ Y.heap.size) (k : Below Y.heap.size Y Z) : KpO base Own X Z :=
  h.trans ⟨k.mono hb, fun i o hi _ _ => (k.block i (Array.getElem?_eq_some_iff.1 hi).1).trans hi⟩

/-- A loop's measure by a count that stands in no slot. -/
theorem muX_ex (inv : Nat → World → Prop) (N : Nat) (wr : World) : ∃ m, (∀ k, inv k wr → m ≤ N - k) ∧ ((∃ k, inv k wr) → ∃ k, inv k wr ∧ m = N - k) := by
  have key : ∀ m k, inv k wr → N - k = m → ∃ m, (∀ k, inv k wr → m ≤ N - k) ∧ ((∃ k, inv k wr) → ∃ k, inv k wr ∧ m = N - k) := by
    intro m
    induction m using Nat.strongRecOn with
    | ind m ih =>
      intro k hk hm
      by_cases h : ∃ k', inv k' wr ∧ N - k' < m
      · obtain ⟨k', hk', hlt⟩ := h
        exact ih _ hlt k' hk' rfl
      · refine ⟨m, fun k' hk' => ?_, fun _ => ⟨k, hk, hm.symm⟩⟩
        by_cases hlt : N - k' < m
        · exact absurd ⟨k', hk', hlt⟩ h
        · omega
  by_cases h : ∃ k, inv k wr
  · obtain ⟨k, hk⟩ := h
    exact key _ k hk rfl
  · exact ⟨0, fun k hk => absurd ⟨k, hk⟩ h, fun h' => absurd h' h⟩
noncomputable def muX (inv : Nat → World → Prop) (N : Nat) (wr : World) : Nat := (muX_ex inv N wr).choose
theorem muX_pick {inv : Nat → World → Prop} {N : Nat} {wr : World} (h : ∃ k, inv k wr) : ∃ k, inv k wr ∧ muX inv N wr = N - k := (muX_ex inv N wr).choose_spec.2 h
theorem muX_le {inv : Nat → World → Prop} {N : Nat} {wr : World} {k : Nat} (h : inv k wr) : muX inv N wr ≤ N - k := (muX_ex inv N wr).choose_spec.1 k h
end Go.Proofs.YtljfloopjgpaeabDoor
