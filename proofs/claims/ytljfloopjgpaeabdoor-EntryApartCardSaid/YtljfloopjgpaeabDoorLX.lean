/- A region walked outside a round serves inside one, too. Nothing of the dump is named here. -/
import Derived.Test.YtljfloopjgpaeabDoorR
import Derived.Test.YtljfloopjgpaeabDoorQU
import Derived.TacticsInMore
import Derived.OrdersIn
import Derived.OwnWalkIn
namespace Go.Proofs.YtljfloopjgpaeabDoor
set_option linter.unusedVariables false
set_option linter.unusedSimpArgs false
open Go.RowKit
variable {P : Program}
theorem rowsIn_round {n : Nat} {row : String} {args : Array Value} {w : World} {R : Value → World → Prop} (l : Nat) (h : Rows P row args w R) : RowsIn (Fence.wide.inRound l) n P row args w R :=
  fun c cs _ => let ⟨v, w', r, s⟩ := h c cs; ⟨v, w', r, stepsIn_wide.2 s⟩
theorem oper_round {n : Nat} {o : Oper} {a : Act} {w : World} {K : Act → World → Prop} {Q : Exit → Act → World → Prop} (l : Nat) (hd : ∀ c, o.op ≠ .defer c) (h : o.wp P a w K Q) : o.wpIn (Fence.wide.inRound l) n P a w K Q := by
  refine ⟨fun _ _ => trivial, ?_⟩
  rw [Oper.semAt_plain _ _ _ hd]
  unfold Oper.wp at h
  cases hr : (execOp a.eval o).run P w with
  | ok x w' =>
    rw [hr] at h
    cases x <;> first | exact h | exact ⟨fun hh => (by cases hh), CallsIn.inRound l (callsIn_wide.2 h)⟩ | exact ⟨fun hh => (by cases hh), rowsIn_round l h⟩ | exact h.elim
  | halt x w' =>
    rw [hr] at h
    cases x <;> first | exact h | exact h.elim
def noDefer (ops : Array Oper) : Prop := ∀ (i : Nat) (o : Oper), ops[i]? = some o → ∀ c, o.op ≠ .defer c
theorem wpOp_round {n : Nat} {ops : Array Oper} {Q : Exit → Act → World → Prop} (l : Nat) (hd : noDefer ops) {i : Nat} {K : Act → World → Prop} {a : Act} {w : World} (hQ : ¬ LetsOut Q) (h : wpOp P ops Q i K a w) : wpOpIn (Fence.wide.inRound l) n P ops Q i K a w := by
  unfold wpOp at h
  unfold wpOpIn
  cases ho : ops[i]? with
  | none => rw [ho] at h; exact h
  | some o =>
    rw [ho] at h
    simp only at h ⊢
    split
    · rename_i hw
      rw [if_pos hw] at h
      rcases h with h | ⟨_, h⟩
      · exact oper_round l (hd i o ho) h
      · exact absurd h hQ
    · rename_i hw
      rw [if_neg hw] at h
      exact ⟨fun _ _ => trivial, h⟩
theorem wpAny_round {n : Nat} {md : Region.Mode} {ops : Array Oper} {Q : Exit → Act → World → Prop} (l : Nat) (hd : noDefer ops) (hQ : ¬ LetsOut Q) : ∀ (fuel : Nat) (listed : Array Bool) (a : Act) (w : World), wpAny P md ops Q fuel listed a w → wpAnyIn (Fence.wide.inRound l) n P md ops Q fuel listed a w
  | 0, _, _, _, h => h
  | fuel + 1, listed, a, w, h => ⟨h.1, fun i hi => wpOpIn_mono (fun a w h => wpAny_round l hd hQ fuel _ a w h) (wpOp_round l hd hQ (h.2 i hi))⟩
theorem noDefer_of {ops : Array Oper} (h : ops.toList.all (fun o => match o.op with | .defer _ => false | _ => true) = true) : noDefer ops := fun i o ho c e => by
  have hm : o ∈ ops.toList := Array.mem_toList_iff.2 (Array.mem_of_getElem? ho)
  have := List.all_eq_true.1 h o hm
  rw [e] at this
  cases this
/-- A drawn region inside a round. -/
theorem region_round {n id : Nat} {l : List Oper} {Q : Exit → Act → World → Prop} {a : Act} {w : World} (r : Nat) (hm : P.follows .mixedOrders = true) (hd : l.all (fun o => match o.op with | .defer _ => false | _ => true) = true) (hQ : ¬ LetsOut Q)
    (h : wpAny P .any l.toArray Q l.toArray.size (Array.replicate l.toArray.size false) a { w with drawn := w.drawn + 1 }) : (Code.region id l.toArray true).wpIn (Fence.wide.inRound r) n P Q a w :=
  wpIn_region_any hm (wpAny_round r (noDefer_of (by simpa using hd)) hQ _ _ _ _ h)
/-- A drawn region inside a round, from a world of which something is known: one walk in a chosen order. -/
theorem regionR {id : Nat} {Q : Exit → Act → World → Prop} {a : Act} {w : World} {l : List Oper} {w0 : World} {s0 : Ly.St} (r nn : Nat) (hm : P.follows .mixedOrders = true) (hd : l.all (fun o => match o.op with | .defer _ => false | _ => true) = true) (hQ : ¬ LetsOut Q) (hn : Region.noSelect l.toArray = true) (hin : Ly.In w0.heap.size w0 s0 w) (hs : Ly.Inv w0.heap.size s0)
    {n : Nat} (hlen : l.toArray.size = n) (h : ∀ (O : Array Oper) (Z : Act → Ly.St → Prop), O = l.toArray → (∀ a' s, (∀ w', Ly.In w0.heap.size w0 s w' → Q .normal a' w') → Z a' s) → Ly.J P w0.heap.size w0 O Z n (Array.replicate n false) a s0) : (Code.region id l.toArray true).wpIn (Fence.wide.inRound r) nn P Q a w := by
  subst hlen
  exact
  region_round r hm hd hQ (Ly.wpAny_of_L (B := w0.heap.size) (w0 := w0) (Q := fun a' s => ∀ w', Ly.In w0.heap.size w0 s w' → Q .normal a' w') (Nat.le_refl _) (fun _ _ w' _ hw' h => h w' hw') _ _ _ _ _ hs (hin.drewS hs) (h _ _ rfl (fun _ _ h => h) rfl hn hs))
end Go.Proofs.YtljfloopjgpaeabDoor
