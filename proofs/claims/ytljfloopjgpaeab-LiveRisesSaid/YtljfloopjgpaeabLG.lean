/- live.Of: what stands between the steps; the plain sums. -/
import Derived.Test.YtljfloopjgpaeabLF
import Derived.Test.YtljfloopjgpaeabQC
namespace Go.Proofs.Ytljfloopjgpaeab
set_option linter.unusedVariables false
set_option linter.unusedSimpArgs false
open Go.RowKit Go.Shelf
attribute [local go_sem] Oper.semAt_some
set_option maxRecDepth 100000
/-- The greatest lag of a kind, of those that are told, from a0 on. -/
def accV (k : Nat) (l : List EntV) (fin a0 : Int) (xs : List (Nat × Int)) : Int := xs.foldl (fun m x => max m (tillV k (l.drop (x.1 + 1)) (l.getD x.1 default).at_ x.2 fin)) a0
def stV (k : Nat) (l : List EntV) (fin : Int) : Int := if k = 0 then tillV 0 l 0 0 fin else 0
def ofV (k : Nat) (l : List EntV) (fin : Int) : Int := accV k l fin (stV k l fin) (openL k l l.length)
theorem accV_snoc (k : Nat) (l : List EntV) (fin a0 : Int) (xs : List (Nat × Int)) (x : Nat × Int) : accV k l fin a0 (xs ++ [x]) = max (accV k l fin a0 xs) (tillV k (l.drop (x.1 + 1)) (l.getD x.1 default).at_ x.2 fin) := by simp [accV]
/-- A block that holds cells. -/
def HasC (W : World) (B : Nat) (o : Obj) : Prop := W.heap[B]? = some o
theorem HasC.own {β : Type} (B : Nat) (o : Obj) (hc : o.isCells = true) : Own (fun (_ : β) W => HasC W B o) := fun _ W W' row hs hg hr => by
  refine (hg.block B (Array.getElem?_eq_some_iff.1 hs).1 ?_).trans hs
  intro e
  obtain ⟨o', ho, hc'⟩ := hr B e.symm
  rw [show W.heap[B]? = _ from hs] at ho
  injection ho with ho
  subst ho
  rw [hc] at hc'
  cases hc'
theorem HasC.lt {W : World} {B : Nat} {o : Obj} (h : HasC W B o) : B < W.heap.size := (Array.getElem?_eq_some_iff.1 h).1
/-- Only block B, and new ones. -/
structure OnlyW (B : Nat) (w w' : World) : Prop where
  os : w'.os = w.os
  tape : w'.tape = w.tape
  output : w'.output = w.output
  size : w.heap.size ≤ w'.heap.size
  block : ∀ k, k < w.heap.size → k ≠ B → w'.heap[k]? = w.heap[k]?
theorem OnlyW.refl (B : Nat) (w : World) : OnlyW B w w := ⟨rfl, rfl, rfl, Nat.le_refl _, fun _ _ _ => rfl⟩
theorem OnlyW.grow {B : Nat} {a w w' : World} (h : OnlyW B a w) (hb : Below w.heap.size w w') : OnlyW B a w' :=
  ⟨hb.os.trans h.os, hb.tape.trans h.tape, hb.output.trans h.output, Nat.le_trans h.size hb.size, fun k h1 h2 => (hb.block k (Nat.lt_of_lt_of_le h1 h.size)).trans (h.block k h1 h2)⟩
theorem OnlyW.at_ {B : Nat} {a w w' : World} (h : OnlyW B a w) (ha : Lx.OnlyAt B w w') : OnlyW B a w' :=
  ⟨ha.os.trans h.os, ha.tape.trans h.tape, ha.output.trans h.output, ha.size ▸ h.size, fun k h1 h2 => (ha.block k h2).trans (h.block k h1 h2)⟩
theorem OnlyW.has {B : Nat} {w w' : World} (h : OnlyW B w w') {k : Nat} {o : Obj} (hk : HasC w k o) (hne : k ≠ B) : HasC w' k o := (h.block k hk.lt hne).trans hk
theorem OnlyW.stable (B : Nat) (a : World) : Lx.Stable (OnlyW B a) := fun _ _ h hb => h.grow hb
theorem OnlyW.keeps {B D : Nat} {w w' : World} (h : OnlyW B w w') (hD : B < D) : KeepsFrom D w w' := ⟨h.size, fun k _ hk ho _ => (h.block k (Array.getElem?_eq_some_iff.1 ho).1 (by omega)).trans ho⟩
theorem OnlyW.kp {B base : Nat} {w w' : World} (h : OnlyW B w w') (hB : base ≤ B) (hw : base ≤ w.heap.size) : KpO base (fun k => k = B) w w' :=
  ⟨⟨h.os, h.tape, h.output, h.size, fun k hk => by
    exact h.block k (by omega) (by omega)⟩, fun k o hk _ hn => (h.block k (Array.getElem?_eq_some_iff.1 hk).1 hn).trans hk⟩
/-- A drawn region inside a round, from a world of which something is known: one walk in a chosen order. -/
theorem regionRx {P : Program} {id : Nat} {Q : Exit → Act → World → Prop} {a : Act} {w : World} {l : List Oper} {w0 : World} {s0 : Lx.St} (r nn : Nat) (hm : P.follows .mixedOrders = true) (hd : l.all (fun o => match o.op with | .defer _ => false | _ => true) = true) (hQ : ¬ LetsOut Q) (hn : Region.noSelect l.toArray = true) (hin : Lx.In w0.heap.size w0 s0 w) (hs : Lx.Inv w0.heap.size s0)
    {n : Nat} (hlen : l.toArray.size = n) (h : ∀ (O : Array Oper) (Z : Act → Lx.St → Prop), O = l.toArray → (∀ a' s, (∀ w', Lx.In w0.heap.size w0 s w' → Q .normal a' w') → Z a' s) → Lx.J P w0.heap.size w0 O Z n (Array.replicate n false) a s0) : (Code.region id l.toArray true).wpIn (Fence.wide.inRound r) nn P Q a w := by
  subst hlen
  exact
  region_round r hm hd hQ (Lx.wpAny_of_L (B := w0.heap.size) (w0 := w0) (Q := fun a' s => ∀ w', Lx.In w0.heap.size w0 s w' → Q .normal a' w') (Nat.le_refl _) (fun _ _ w' _ hw' h => h w' hw') _ _ _ _ _ hs (hin.drewS hs) (h _ _ rfl (fun _ _ h => h) rfl hn hs))
end Go.Proofs.Ytljfloopjgpaeab
