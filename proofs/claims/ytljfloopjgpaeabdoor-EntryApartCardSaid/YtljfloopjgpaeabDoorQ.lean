/- A region that draws its order, with calls that make memory, allocs, stores into what it made: one walk, in an order that the prover picks, serves every order. Nothing of the dump is named here. -/
import Derived.Deep.Quiet
import Derived.Below
namespace Go.Proofs.YtljfloopjgpaeabDoor
set_option linter.unusedVariables false
set_option linter.unusedSimpArgs false
open Go.RowKit

namespace Lx

inductive Tag where
  | pure | read | call | new | store
  deriving DecidableEq
def tagOf (o : Oper) : Tag :=
  match o.op with
  | .call c => match c.callee with
    | .builtin .len | .builtin .min | .builtin .max | .builtin .cap => .read
    | _ => .call
  | .alloc _ | .box _ _ | .buildSlice _ _ _ | .makeMap _ _ => .new
  | .store _ _ _ | .mapUpdate _ _ _ _ | .insert _ _ _ _ => .store
  | .load _ _ | .lookup _ _ _ _ => .read
  | _ => .pure
def compat : Tag → Tag → Bool
  | .pure, _ => true
  | .read, .store => false
  | .read, _ => true
  | _, .pure => true
  | _, .new => true
  | _, _ => false

/-- What is known: new blocks and what they hold; what else holds. -/
structure St where
  M : Nat → Option Obj
  G : World → Prop
def St.upd (s : St) (g : Nat) (o : Obj) : St := ⟨fun k => if k = g then some o else s.M k, s.G⟩
def St.add (s : St) (φ : World → Prop) : St := ⟨s.M, fun w => s.G w ∧ φ w⟩
def St.nil : St := ⟨fun _ => none, fun _ => True⟩
theorem St.upd_add (s : St) (g : Nat) (o : Obj) (φ : World → Prop) : (s.add φ).upd g o = (s.upd g o).add φ := rfl
theorem St.upd_upd (s : St) {g h : Nat} (o p : Obj) (hne : g ≠ h) : (s.upd g o).upd h p = (s.upd h p).upd g o := by
  simp only [St.upd, St.mk.injEq, and_true]
  funext k
  by_cases h1 : k = h <;> by_cases h2 : k = g <;> simp [h1, h2]
  · subst h1; exact absurd h2.symm hne
  · intro e; exact absurd e.symm hne
  · intro e; exact absurd e hne
theorem St.upd_at (s : St) (g : Nat) (o : Obj) : (s.upd g o).M g = some o := by simp [St.upd]
theorem St.upd_ne (s : St) {g k : Nat} (o : Obj) (h : k ≠ g) : (s.upd g o).M k = s.M k := by simp [St.upd, h]

theorem St.add_M (s : St) (φ : World → Prop) : (s.add φ).M = s.M := rfl
theorem St.fresh_upd {s : St} {g k : Nat} {o : Obj} (h : (s.upd g o).M k = none) : k ≠ g ∧ s.M k = none := by
  by_cases e : k = g
  · subst e; rw [St.upd_at] at h; cases h
  · exact ⟨e, by rw [← St.upd_ne s o e]; exact h⟩

def Stable (φ : World → Prop) : Prop := ∀ w w', φ w → Below w.heap.size w w' → φ w'
structure Inv (B : Nat) (s : St) : Prop where
  stable : Stable s.G
  dom : ∀ g o, s.M g = some o → B ≤ g
  fin : ∃ n, ∀ g, n ≤ g → s.M g = none
theorem Inv.nil (B : Nat) : Inv B St.nil := ⟨fun _ _ _ _ => trivial, fun _ _ h => (by cases h), 0, fun _ _ => rfl⟩
theorem Inv.upd {B : Nat} {s : St} (h : Inv B s) {g : Nat} (hg : B ≤ g) (o : Obj) : Inv B (s.upd g o) := by
  refine ⟨h.stable, fun k p hk => ?_, ?_⟩
  · by_cases e : k = g
    · rw [e]; exact hg
    · rw [St.upd_ne s o e] at hk; exact h.dom k p hk
  · obtain ⟨n, hn⟩ := h.fin
    refine ⟨n + g + 1, fun k hk => ?_⟩
    rw [St.upd_ne s o (by omega)]
    exact hn k (by omega)
theorem Inv.add {B : Nat} {s : St} (h : Inv B s) {φ : World → Prop} (hφ : Stable φ) : Inv B (s.add φ) :=
  ⟨fun w w' ⟨a, b⟩ hb => ⟨h.stable w w' a hb, hφ w w' b hb⟩, h.dom, h.fin⟩
theorem Inv.fresh {B : Nat} {s : St} (h : Inv B s) : ∃ g, B ≤ g ∧ s.M g = none := by
  obtain ⟨n, hn⟩ := h.fin
  exact ⟨n + B, by omega, hn _ (by omega)⟩

/-- The worlds that are meant. -/
structure In (B : Nat) (w0 : World) (s : St) (w : World) : Prop where
  below : Below B w0 w
  holds : ∀ g o, s.M g = some o → w.heap[g]? = some o
  more : s.G w
theorem In.of_upd {B : Nat} {w0 : World} {s : St} {g : Nat} {o : Obj} {w : World} (h : In B w0 (s.upd g o) w) (hg : s.M g = none) : In B w0 s w :=
  ⟨h.below, fun k p hk => h.holds k p (by rw [St.upd_ne s o (fun e => by rw [e, hg] at hk; cases hk)]; exact hk), h.more⟩
theorem In.of_add {B : Nat} {w0 : World} {s : St} {φ : World → Prop} {w : World} (h : In B w0 (s.add φ) w) : In B w0 s w := ⟨h.below, h.holds, h.more.1⟩

def valAt (r : Result Next) (w : World) (v : Value) : Prop := r = .ok (.value v) w ∨ (r = .ok .skip w ∧ v = undef)
theorem valAt_det {r : Result Next} {w : World} {v u : Value} (h : valAt r w v) (k : valAt r w u) : v = u := by
  rcases h with h | ⟨h, rfl⟩ <;> rcases k with k | ⟨k, rfl⟩
  · rw [h] at k; injection k with k1 k2; injection k1
  · rw [h] at k; injection k with k1 k2; cases k1
  · rw [h] at k; injection k with k1 k2; cases k1
  · rfl
def newAt (r : Result Next) (w : World) (v : Value) (o : Obj) : Prop :=
  ∃ w', r = .ok (.value v) w' ∧ w'.heap[w.heap.size]? = some o ∧ Below w.heap.size w w'
theorem newAt_det {r : Result Next} {w : World} {v u : Value} {o p : Obj} (h : newAt r w v o) (k : newAt r w u p) : v = u ∧ o = p := by
  obtain ⟨w1, h1, h2, _⟩ := h
  obtain ⟨w2, k1, k2, _⟩ := k
  rw [h1] at k1
  injection k1 with e1 e2
  injection e1 with e1
  subst e2
  rw [h2] at k2
  injection k2 with k2
  exact ⟨e1, k2⟩
structure OnlyAt (g : Nat) (w w' : World) : Prop where
  os : w'.os = w.os
  tape : w'.tape = w.tape
  output : w'.output = w.output
  size : w.heap.size = w'.heap.size
  block : ∀ k, k ≠ g → w'.heap[k]? = w.heap[k]?
theorem OnlyAt.refl (g : Nat) (w : World) : OnlyAt g w w := ⟨rfl, rfl, rfl, rfl, fun _ _ => rfl⟩
theorem OnlyAt.set {g : Nat} {a w : World} (h : OnlyAt g a w) (i : Nat) (u : Value) : OnlyAt g a (w.setCell ⟨g, i, none⟩ u) :=
  ⟨h.os, h.tape, h.output, h.size.trans (by simp [World.setCell]), fun k hk => (Below.heap_setCell _ _ _ _ hk).trans (h.block k hk)⟩
theorem OnlyAt.below {g B : Nat} {w w' : World} (h : OnlyAt g w w') (hB : B ≤ g) : Below B w w' :=
  ⟨h.os, h.tape, h.output, Nat.le_of_eq h.size, fun k hk => h.block k (by omega)⟩
def stoAt (r : Result Next) (w : World) (g : Nat) (o : Obj) (G : World → Prop) : Prop :=
  ∃ w', r = .ok .skip w' ∧ OnlyAt g w w' ∧ w'.heap[g]? = some o ∧ G w'
def callAt (P : Program) (r : Result Next) (w : World) (R : Value → (World → Prop) → Prop) : Prop :=
  (∃ f args, r = .ok (.enter f args) w ∧ Calls P f args w fun e w' => ∃ v φ, e = .returned v ∧ R v φ ∧ φ w' ∧ Below w.heap.size w w') ∨
  (∃ v w' φ, r = .ok (.value v) w' ∧ R v φ ∧ φ w' ∧ Below w.heap.size w w')

inductive Eff where
  | val (v : Value)
  | call (R : Value → (World → Prop) → Prop)
  | new (mk : Nat → Value) (o : Obj)
  | store (g : Nat) (o : Obj)

section
variable (P : Program) (B : Nat) (w0 : World)
def Eff.ok (o : Oper) (a : Act) (s : St) : Eff → Prop
  | .val v => (tagOf o = .pure ∧ ∀ w, Below B w0 w → valAt ((execOp a.eval o).run P w) w v) ∨ (tagOf o = .read ∧ ∀ w, In B w0 s w → valAt ((execOp a.eval o).run P w) w v)
  | .call R => tagOf o = .call ∧ (∃ v φ, R v φ) ∧ (∀ v φ, R v φ → Stable φ) ∧ ∀ w, In B w0 s w → callAt P ((execOp a.eval o).run P w) w R
  | .new mk x => tagOf o = .new ∧ ∀ w, Below B w0 w → newAt ((execOp a.eval o).run P w) w (mk w.heap.size) x
  | .store g x => tagOf o = .store ∧ (∃ y, s.M g = some y) ∧ ∀ w, In B w0 s w → stoAt ((execOp a.eval o).run P w) w g x s.G
def Eff.res (dst : Option Tmp) (a : Act) (s : St) (K : Act → St → Prop) : Eff → Prop
  | .val v => K (a.put dst v) s
  | .call R => ∀ v φ, R v φ → K (a.put dst v) (s.add φ)
  | .new mk o => ∀ g, B ≤ g → s.M g = none → K (a.put dst (mk g)) (s.upd g o)
  | .store g o => K (a.put dst undef) (s.upd g o)
end

section
variable {P : Program} {ops : Array Oper} {md : Region.Mode} {B : Nat} {w0 : World}

theorem Eff.res_mono {dst : Option Tmp} {a : Act} {s : St} {K K' : Act → St → Prop} (h : ∀ a s, K a s → K' a s) : ∀ {e : Eff}, e.res B dst a s K → e.res B dst a s K'
  | .val _, k => h _ _ k
  | .call _, k => fun v φ hr => h _ _ (k v φ hr)
  | .new _ _, k => fun g h1 h2 => h _ _ (k g h1 h2)
  | .store _ _, k => h _ _ k
/-- The same, with what is known of the state behind it. -/
theorem Eff.res_inv {o : Oper} {dst : Option Tmp} {a : Act} {s : St} {K : Act → St → Prop} (hs : Inv B s) : ∀ {e : Eff}, e.ok P B w0 o a s → e.res B dst a s K → e.res B dst a s (fun a' s' => Inv B s' ∧ K a' s')
  | .val _, _, k => ⟨hs, k⟩
  | .call _, hk, k => fun v φ hr => ⟨hs.add (hk.2.2.1 v φ hr), k v φ hr⟩
  | .new _ _, _, k => fun g h1 h2 => ⟨hs.upd h1 _, k g h1 h2⟩
  | .store g _, hk, k => ⟨hs.upd (by obtain ⟨_, ⟨y, hy⟩, _⟩ := hk; exact hs.dom g y hy) _, k⟩

def lexOp (P : Program) (B : Nat) (w0 : World) (ops : Array Oper) (i : Nat) (K : Act → St → Prop) (a : Act) (s : St) : Prop :=
  match ops[i]? with
  | none => K a s
  | some o => if Region.wanted o (yielded ops a.tmps) then ∃ e : Eff, e.ok P B w0 o a s ∧ e.res B o.dst a s K else K (a.put o.dst undef) s
theorem lexOp_mono {i : Nat} {a : Act} {s : St} {K K' : Act → St → Prop} (h : ∀ a s, K a s → K' a s) (hh : lexOp P B w0 ops i K a s) : lexOp P B w0 ops i K' a s := by
  unfold lexOp at *
  split
  · exact h _ _ (by simpa [*] using hh)
  · rename_i o ho
    simp only [ho] at hh
    split
    · rename_i hw; simp only [hw, if_true] at hh; obtain ⟨e, h1, h2⟩ := hh; exact ⟨e, h1, Eff.res_mono h h2⟩
    · rename_i hw; simp only [hw] at hh; exact h _ _ hh
theorem lexOp_inv {i : Nat} {a : Act} {s : St} {K : Act → St → Prop} (hs : Inv B s) (hh : lexOp P B w0 ops i K a s) : lexOp P B w0 ops i (fun a' s' => Inv B s' ∧ K a' s') a s := by
  unfold lexOp at *
  split
  · exact ⟨hs, by simpa [*] using hh⟩
  · rename_i o ho
    simp only [ho] at hh
    split
    · rename_i hw; simp only [hw, if_true] at hh; obtain ⟨e, h1, h2⟩ := hh; exact ⟨e, h1, Eff.res_inv hs h1 h2⟩
    · rename_i hw; simp only [hw] at hh; exact ⟨hs, hh⟩

def wpL (P : Program) (B : Nat) (w0 : World) (md : Region.Mode) (ops : Array Oper) (Q : Act → St → Prop) : Nat → Array Bool → Act → St → Prop
  | 0, listed, a, s => Region.ready md ops listed = [] ∧ Q a s
  | fuel + 1, listed, a, s =>
    (Region.ready md ops listed = [] → Q a s) ∧
    ∀ i ∈ Region.ready md ops listed, lexOp P B w0 ops i (wpL P B w0 md ops Q fuel (listed.setIfInBounds i true)) a s

/-! ### Down to the worlds -/
theorem In.call {s : St} {w w' : World} {φ : World → Prop} (h : In B w0 s w) (hs : Inv B s) (hB : B ≤ w0.heap.size) (hb : Below w.heap.size w w') (hφ : φ w') : In B w0 (s.add φ) w' :=
  ⟨h.below.trans (hb.mono (Nat.le_trans hB h.below.size)), fun g o hg => by
    have h1 := h.holds g o hg
    have hlt := (Array.getElem?_eq_some_iff.1 h1).1
    rw [hb.block g hlt]; exact h1, hs.stable _ _ h.more hb, hφ⟩
theorem wpOp_of_lexOp (hB : B ≤ w0.heap.size) {i : Nat} {a : Act} {s : St} {K : Act → St → Prop} {K' : Act → World → Prop} {Q' : Exit → Act → World → Prop} {w : World} (hw : In B w0 s w) (hs : Inv B s)
    (h : ∀ a s w', Inv B s → In B w0 s w' → K a s → K' a w') (hh : lexOp P B w0 ops i K a s) : wpOp P ops Q' i K' a w := by
  have hh := lexOp_inv hs hh
  unfold lexOp at hh
  unfold wpOp
  split
  · rename_i ho; simp only [ho] at hh; exact h _ _ _ hh.1 hw hh.2
  · rename_i o ho
    simp only [ho] at hh
    split
    · rename_i hwt
      simp only [hwt, if_true] at hh
      obtain ⟨e, h1, h2⟩ := hh
      refine .inl ?_
      unfold Oper.wp
      cases e with
      | val v =>
        have hv : valAt ((execOp a.eval o).run P w) w v := by
          rcases h1 with ⟨_, h1⟩ | ⟨_, h1⟩
          · exact h1 w hw.below
          · exact h1 w hw
        obtain ⟨h3, h4⟩ := h2
        rcases hv with hv | ⟨hv, rfl⟩
        · rw [hv]; exact h _ _ _ h3 hw h4
        · rw [hv]; exact h _ _ _ h3 hw h4
      | call R =>
        rcases h1.2.2.2 w hw with ⟨f, args, hr, hc⟩ | ⟨v, w', φ, hr, hR, hφ, hb⟩
        · rw [hr]
          refine Calls.mono hc ?_
          rintro e' w' ⟨v, φ, rfl, hR, hφ, hb⟩
          obtain ⟨h3, h4⟩ := h2 v φ hR
          exact h _ _ _ h3 (hw.call hs hB hb hφ) h4
        · rw [hr]
          obtain ⟨h3, h4⟩ := h2 v φ hR
          exact h _ _ _ h3 (hw.call hs hB hb hφ) h4
      | new mk x =>
        obtain ⟨w', hr, hx, hb⟩ := h1.2 w hw.below
        rw [hr]
        have hfr : s.M w.heap.size = none := by
          cases hm : s.M w.heap.size with
          | none => rfl
          | some y => have := (Array.getElem?_eq_some_iff.1 (hw.holds _ _ hm)).1; omega
        obtain ⟨h3, h4⟩ := h2 w.heap.size (Nat.le_trans hB hw.below.size) hfr
        refine h _ _ _ h3 ⟨hw.below.trans (hb.mono (Nat.le_trans hB hw.below.size)), fun g p hg => ?_, hs.stable _ _ hw.more hb⟩ h4
        by_cases e : g = w.heap.size
        · subst e
          rw [St.upd_at] at hg
          injection hg with hg
          rw [← hg]; exact hx
        · rw [St.upd_ne s x e] at hg
          have h5 := hw.holds g p hg
          have hlt := (Array.getElem?_eq_some_iff.1 h5).1
          rw [hb.block g hlt]; exact h5
      | store g x =>
        obtain ⟨w', hr, ho', hx, hG⟩ := h1.2.2 w hw
        obtain ⟨y, hy⟩ := h1.2.1
        rw [hr]
        obtain ⟨h3, h4⟩ := h2
        refine h _ _ _ h3 ⟨hw.below.trans (ho'.below (hs.dom g y hy)), fun k p hk => ?_, hG⟩ h4
        by_cases e : k = g
        · subst e
          rw [St.upd_at] at hk
          injection hk with hk
          rw [← hk]; exact hx
        · rw [St.upd_ne s x e] at hk
          rw [ho'.block k e]; exact hw.holds k p hk
    · rename_i hwt; simp only [hwt] at hh; exact h _ _ _ hh.1 hw hh.2

theorem wpAny_of_L (hB : B ≤ w0.heap.size) {Q : Act → St → Prop} {Q' : Exit → Act → World → Prop} (hQ : ∀ a s w, Inv B s → In B w0 s w → Q a s → Q' .normal a w) : ∀ (fuel : Nat) (listed : Array Bool) (a : Act) (s : St) (w : World), Inv B s → In B w0 s w →
    wpL P B w0 md ops Q fuel listed a s → wpAny P md ops Q' fuel listed a w
  | 0, _, _, _, _, hs, hw, h => ⟨h.1, hQ _ _ _ hs hw h.2⟩
  | fuel + 1, _, _, _, _, hs, hw, h => ⟨fun h0 => hQ _ _ _ hs hw (h.1 h0), fun i hi => wpOp_of_lexOp hB hw hs (fun a' s' w' hs' hw' => wpAny_of_L hB hQ fuel _ a' s' w' hs' hw') (h.2 i hi)⟩

/-! ### One operation ahead of another one -/
theorem pad (w0 : World) : ∀ n, ∃ w, Below w0.heap.size w0 w ∧ w.heap.size = w0.heap.size + n
  | 0 => ⟨w0, Below.refl _ _, rfl⟩
  | n + 1 => by
    obtain ⟨w, h1, h2⟩ := pad w0 n
    exact ⟨w.alloc (.cells #[] 0 (0, 0)), h1.alloc h1.size _, by rw [World.size_alloc, h2]; rfl⟩
theorem sized (hB : B = w0.heap.size) {g : Nat} (hg : B ≤ g) : ∃ w, Below B w0 w ∧ w.heap.size = g := by
  obtain ⟨w, h1, h2⟩ := pad w0 (g - w0.heap.size)
  exact ⟨w, hB ▸ h1, by omega⟩

def YieldsL (P : Program) (B : Nat) (w0 : World) (ops : Array Oper) (o : Oper) (e : Eff) (a : Act) (s : St) : Prop :=
  (Region.wanted o (yielded ops a.tmps) = true ∧ e.ok P B w0 o a s) ∨ (Region.wanted o (yielded ops a.tmps) = false ∧ e = .val undef)

/-- What is told of operation 'o' in one state is told in another one. -/
theorem Eff.ok_put {o : Oper} (hs : ∀ cs b, o.op ≠ .select cs b) {a : Act} {dst : Option Tmp} {v : Value} (h : ∀ d, dst = some d → d ∉ o.looksAt ops) {s : St} {e : Eff} :
    e.ok P B w0 o (a.put dst v) s ↔ e.ok P B w0 o a s := by
  cases e <;> simp only [Eff.ok, execOp_put o hs a dst v h]
theorem Eff.ok_of {o : Oper} {a : Act} {s s' : St} {e : Eff} (hin : ∀ w, In B w0 s' w → In B w0 s w) (hM : ∀ g y, s.M g = some y → s'.M g = some y) (hG : tagOf o = .store → s'.G = s.G) (h : e.ok P B w0 o a s) : e.ok P B w0 o a s' := by
  cases e with
  | val v => rcases h with h | ⟨h1, h2⟩
             · exact .inl h
             · exact .inr ⟨h1, fun w hw => h2 w (hin w hw)⟩
  | call R => exact ⟨h.1, h.2.1, h.2.2.1, fun w hw => h.2.2.2 w (hin w hw)⟩
  | new mk x => exact h
  | store g x =>
    obtain ⟨y, hy⟩ := h.2.1
    exact ⟨h.1, ⟨y, hM g y hy⟩, fun w hw => by rw [hG h.1]; exact h.2.2 w (hin w hw)⟩

theorem lexOp_put (hB : B = w0.heap.size) {j : Nat} {oi oj : Oper} {e : Eff} (hj : ops[j]? = some oj) (hap : oi.apart ops oj = true) (hcp : compat (tagOf oi) (tagOf oj) = true)
    (hsi : ∀ cs b, oi.op ≠ .select cs b) (hsj : ∀ cs b, oj.op ≠ .select cs b) {K : Act → St → Prop} {a : Act} {s : St} (hs : Inv B s)
    (hy : YieldsL P B w0 ops oi e a s) (h : e.res B oi.dst a s (fun a' s' => lexOp P B w0 ops j K a' s')) :
    lexOp P B w0 ops j (fun a' s' => YieldsL P B w0 ops oi e a' s' ∧ e.res B oi.dst a' s' K) a s := by
  obtain ⟨h1, h2, h3⟩ := Oper.apart_spec hap
  -- what is told of oi, behind oj
  have keep : ∀ (s' : St) (u : Value), (∀ w, In B w0 s' w → In B w0 s w) → (∀ g y, s.M g = some y → s'.M g = some y) → (tagOf oi = .store → s'.G = s.G) → YieldsL P B w0 ops oi e (a.put oj.dst u) s' := fun s' u k1 k2 k3 => by
    rcases hy with ⟨hw, hok⟩ | ⟨hw, he⟩
    · exact .inl ⟨by rw [wanted_put oi a oj.dst u h3]; exact hw, (Eff.ok_put hsi h3).2 (Eff.ok_of k1 k2 k3 hok)⟩
    · exact .inr ⟨by rw [wanted_put oi a oj.dst u h3]; exact hw, he⟩
  have keep0 : ∀ u, YieldsL P B w0 ops oi e (a.put oj.dst u) s := fun u => keep s u (fun _ h => h) (fun _ _ h => h) (fun _ => rfl)
  have keepN : ∀ (u : Value) (g : Nat) (x : Obj), s.M g = none → YieldsL P B w0 ops oi e (a.put oj.dst u) (s.upd g x) := fun u g x hg =>
    keep _ u (fun _ h => h.of_upd hg) (fun k y hk => by rw [St.upd_ne s x (fun e => by rw [e, hg] at hk; cases hk)]; exact hk) (fun _ => rfl)
  have hwant : ∀ u, Region.wanted oj (yielded ops (a.put oi.dst u).tmps) = Region.wanted oj (yielded ops a.tmps) := fun u => wanted_put oj a oi.dst u h1
  have hcomm : ∀ u v, (a.put oi.dst v).put oj.dst u = (a.put oj.dst u).put oi.dst v := fun u v => Act.put_comm a v u h2
  by_cases hwj : Region.wanted oj (yielded ops a.tmps) = true
  case neg =>
    have hno : ∀ (u : Value) (s' : St), lexOp P B w0 ops j K (a.put oi.dst u) s' → K ((a.put oj.dst undef).put oi.dst u) s' := fun u s' hh => by
      unfold lexOp at hh
      simp only [hj, hwant u, hwj] at hh
      rw [← hcomm]; exact hh
    unfold lexOp
    simp only [hj, hwj]
    refine ⟨keep0 undef, ?_⟩
    cases e with
    | val v => exact hno v s h
    | call R => exact fun v φ hr => hno v _ (h v φ hr)
    | new mk x => exact fun g k1 k2 => hno _ _ (h g k1 k2)
    | store g x => exact hno _ _ h
  case pos =>
  -- what is told of oj, behind oi, at whatever outcome of oi
  have hyes : ∀ (u : Value) (s' : St), lexOp P B w0 ops j K (a.put oi.dst u) s' → ∃ e' : Eff, e'.ok P B w0 oj a s' ∧ e'.res B oj.dst (a.put oi.dst u) s' K := fun u s' hh => by
    unfold lexOp at hh
    simp only [hj, hwant u, hwj, if_true] at hh
    obtain ⟨e', k1, k2⟩ := hh
    exact ⟨e', (Eff.ok_put hsj h1).1 k1, k2⟩
  unfold lexOp
  simp only [hj, hwj, if_true]
  have detP : ∀ {v u : Value}, (∀ w, Below B w0 w → valAt ((execOp a.eval oj).run P w) w v) → (∀ w, Below B w0 w → valAt ((execOp a.eval oj).run P w) w u) → v = u := fun hv hu => valAt_det (hv w0 (Below.refl _ _)) (hu w0 (Below.refl _ _))
  have detN : ∀ {mk mk' : Nat → Value} {x x' : Obj}, (∀ w, Below B w0 w → newAt ((execOp a.eval oj).run P w) w (mk w.heap.size) x) → (∀ w, Below B w0 w → newAt ((execOp a.eval oj).run P w) w (mk' w.heap.size) x') → (∀ g, B ≤ g → mk g = mk' g) ∧ x = x' := fun hv hu => by
    refine ⟨fun g hg => ?_, (newAt_det (hv w0 (Below.refl _ _)) (hu w0 (Below.refl _ _))).2⟩
    obtain ⟨w, k1, rfl⟩ := sized (w0 := w0) hB hg
    exact (newAt_det (hv w k1) (hu w k1)).1
  -- an operation oj that is 'pure' or 'new'
  have mono_pn : ∀ {e' : Eff} {s1 s2 : St}, (tagOf oj = .pure ∨ tagOf oj = .new) → e'.ok P B w0 oj a s1 → e'.ok P B w0 oj a s2 := fun {e' s1 s2} ht hok => by
    cases e' with
    | val v => rcases hok with hok | ⟨hok, _⟩
               · exact .inl hok
               · rw [hok] at ht; rcases ht with ht | ht <;> cases ht
    | call R => rw [hok.1] at ht; rcases ht with ht | ht <;> cases ht
    | new mk x => exact hok
    | store g x => rw [hok.1] at ht; rcases ht with ht | ht <;> cases ht
  cases e with
  | val v =>
    obtain ⟨e', k1, k2⟩ := hyes v s h
    refine ⟨e', k1, ?_⟩
    cases e' with
    | val u => exact ⟨keep0 u, by show K _ _; rw [← hcomm]; exact k2⟩
    | call R =>
      refine fun u φ hr => ⟨keep _ u (fun _ h => h.of_add) (fun _ _ h => h) (fun ht => ?_), by show K _ _; rw [← hcomm]; exact k2 u φ hr⟩
      rw [ht, k1.1] at hcp; cases hcp
    | new mk x => exact fun g p1 p2 => ⟨keepN _ g x p2, by show K _ _; rw [← hcomm]; exact k2 g p1 p2⟩
    | store g x =>
      refine ⟨?_, by show K _ _; rw [← hcomm]; exact k2⟩
      rcases hy with ⟨hw, hok⟩ | ⟨hw, he⟩
      · refine .inl ⟨by rw [wanted_put oi a oj.dst undef h3]; exact hw, (Eff.ok_put hsi h3).2 ?_⟩
        rcases hok with hok | ⟨hok, _⟩
        · exact .inl hok
        · rw [hok, k1.1] at hcp; cases hcp
      · exact .inr ⟨by rw [wanted_put oi a oj.dst undef h3]; exact hw, he⟩
  | call R =>
    rcases hy with ⟨hw, hok⟩ | ⟨_, he⟩
    case inr => cases he
    have ht : tagOf oj = .pure ∨ tagOf oj = .new := by
      rw [hok.1] at hcp
      cases htj : tagOf oj <;> rw [htj] at hcp <;> first | exact .inl rfl | exact .inr rfl | cases hcp
    obtain ⟨v0, φ0, hr0⟩ := hok.2.1
    obtain ⟨e', k1, _⟩ := hyes v0 _ (h v0 φ0 hr0)
    have k1 := mono_pn (s2 := s) ht k1
    refine ⟨e', k1, ?_⟩
    cases e' with
    | val u =>
      have k1' : ∀ w, Below B w0 w → valAt ((execOp a.eval oj).run P w) w u := by
        rcases k1 with k1 | ⟨k1, _⟩
        · exact k1.2
        · rw [k1] at ht; rcases ht with ht | ht <;> cases ht
      refine ⟨keep0 u, fun v φ hr => ?_⟩
      obtain ⟨e2, q1, q2⟩ := hyes v _ (h v φ hr)
      cases e2 with
      | val u2 =>
        have q1' : ∀ w, Below B w0 w → valAt ((execOp a.eval oj).run P w) w u2 := by
          rcases q1 with q1 | ⟨q1, _⟩
          · exact q1.2
          · rw [q1] at ht; rcases ht with ht | ht <;> cases ht
        obtain rfl := detP k1' q1'
        rw [← hcomm]; exact q2
      | call R2 => rw [q1.1] at ht; rcases ht with ht | ht <;> cases ht
      | new mk x =>
        rcases k1 with k1 | k1
        · rw [q1.1] at k1; cases k1.1
        · rw [q1.1] at k1; cases k1.1
      | store g x => rw [q1.1] at ht; rcases ht with ht | ht <;> cases ht
    | call R2 => rw [k1.1] at ht; rcases ht with ht | ht <;> cases ht
    | new mk x =>
      refine fun g p1 p2 => ⟨keepN _ g x p2, fun v φ hr => ?_⟩
      obtain ⟨e2, q1, q2⟩ := hyes v _ (h v φ hr)
      cases e2 with
      | val u2 =>
        rcases q1 with q1 | q1
        · rw [k1.1] at q1; cases q1.1
        · rw [k1.1] at q1; cases q1.1
      | call R2 => rw [q1.1] at ht; rcases ht with ht | ht <;> cases ht
      | new mk2 x2 =>
        obtain ⟨d1, rfl⟩ := detN k1.2 q1.2
        rw [← hcomm, d1 g p1]; exact q2 g p1 p2
      | store g x => rw [q1.1] at ht; rcases ht with ht | ht <;> cases ht
    | store g x => rw [k1.1] at ht; rcases ht with ht | ht <;> cases ht
  | new mk x =>
    rcases hy with ⟨hw, hok⟩ | ⟨_, he⟩
    case inr => cases he
    have ht : tagOf oj = .pure ∨ tagOf oj = .new := by
      rw [hok.1] at hcp
      cases htj : tagOf oj <;> rw [htj] at hcp <;> first | exact .inl rfl | exact .inr rfl | cases hcp
    obtain ⟨g0, p10, p20⟩ := hs.fresh
    obtain ⟨e', k1, _⟩ := hyes _ _ (h g0 p10 p20)
    have k1 := mono_pn (s2 := s) ht k1
    refine ⟨e', k1, ?_⟩
    cases e' with
    | val u =>
      have k1' : ∀ w, Below B w0 w → valAt ((execOp a.eval oj).run P w) w u := by
        rcases k1 with k1 | ⟨k1, _⟩
        · exact k1.2
        · rw [k1] at ht; rcases ht with ht | ht <;> cases ht
      refine ⟨keep0 u, fun g p1 p2 => ?_⟩
      obtain ⟨e2, q1, q2⟩ := hyes _ _ (h g p1 p2)
      cases e2 with
      | val u2 =>
        have q1' : ∀ w, Below B w0 w → valAt ((execOp a.eval oj).run P w) w u2 := by
          rcases q1 with q1 | ⟨q1, _⟩
          · exact q1.2
          · rw [q1] at ht; rcases ht with ht | ht <;> cases ht
        obtain rfl := detP k1' q1'
        rw [← hcomm]; exact q2
      | call R2 => rw [q1.1] at ht; rcases ht with ht | ht <;> cases ht
      | new mk x =>
        rcases k1 with k1 | k1
        · rw [q1.1] at k1; cases k1.1
        · rw [q1.1] at k1; cases k1.1
      | store g x => rw [q1.1] at ht; rcases ht with ht | ht <;> cases ht
    | call R2 => rw [k1.1] at ht; rcases ht with ht | ht <;> cases ht
    | new mk' x' =>
      refine fun g' p1 p2 => ⟨keepN _ g' x' p2, fun g r1 r2 => ?_⟩
      have hne : g ≠ g' := fun e => by rw [e, St.upd_at] at r2; cases r2
      have r2' : s.M g = none := by rw [St.upd_ne s x' hne] at r2; exact r2
      obtain ⟨e2, q1, q2⟩ := hyes _ _ (h g r1 r2')
      cases e2 with
      | val u2 =>
        rcases q1 with q1 | q1
        · rw [k1.1] at q1; cases q1.1
        · rw [k1.1] at q1; cases q1.1
      | call R2 => rw [q1.1] at ht; rcases ht with ht | ht <;> cases ht
      | new mk2 x2 =>
        obtain ⟨d1, rfl⟩ := detN k1.2 q1.2
        rw [← hcomm, d1 g' p1, ← St.upd_upd s _ _ hne]
        exact q2 g' p1 (by rw [St.upd_ne s x (Ne.symm hne)]; exact p2)
      | store g x => rw [q1.1] at ht; rcases ht with ht | ht <;> cases ht
    | store g x => rw [k1.1] at ht; rcases ht with ht | ht <;> cases ht
  | store g x =>
    rcases hy with ⟨hw, hok⟩ | ⟨_, he⟩
    case inr => cases he
    have ht : tagOf oj = .pure ∨ tagOf oj = .new := by
      rw [hok.1] at hcp
      cases htj : tagOf oj <;> rw [htj] at hcp <;> first | exact .inl rfl | exact .inr rfl | cases hcp
    obtain ⟨y, hyM⟩ := hok.2.1
    obtain ⟨e', k1, k2⟩ := hyes _ _ h
    have k1 := mono_pn (s2 := s) ht k1
    refine ⟨e', k1, ?_⟩
    cases e' with
    | val u => exact ⟨keep0 u, by show K _ _; rw [← hcomm]; exact k2⟩
    | call R2 => rw [k1.1] at ht; rcases ht with ht | ht <;> cases ht
    | new mk' x' =>
      refine fun g' p1 p2 => ⟨keepN _ g' x' p2, ?_⟩
      have hne : g ≠ g' := fun e => by rw [e, p2] at hyM; cases hyM
      show K _ _
      rw [← hcomm, ← St.upd_upd s _ _ hne]
      exact k2 g' p1 (by rw [St.upd_ne s x (Ne.symm hne)]; exact p2)
    | store g x => rw [k1.1] at ht; rcases ht with ht | ht <;> cases ht

/-! ### The order -/
def after1 (md : Region.Mode) (ops : Array Oper) (i : Nat) (S : List Nat) (j : Nat) : Bool :=
  match ops[j]? with
  | none => false
  | some o => o.after.any fun e => Region.binds md e && (e.on == i || S.contains e.on)
def behind (md : Region.Mode) (ops : Array Oper) (i : Nat) : List Nat :=
  (List.range ops.size).foldl (fun S j => if after1 md ops i S j then j :: S else S) []
/-- May number i be taken first? -/
def okTake (md : Region.Mode) (ops : Array Oper) (listed : Array Bool) (i : Nat) : Bool :=
  (behind md ops i).all (fun j => !listed.getD j true && after1 md ops i (behind md ops i) j && j != i) &&
  match ops[i]? with
  | none => false
  | some oi => (List.range ops.size).all fun j => j == i || listed.getD j true || (behind md ops i).contains j || match ops[j]? with
      | some oj => oi.apart ops oj && compat (tagOf oi) (tagOf oj)
      | none => true

theorem wpL_first (hB : B = w0.heap.size) {Q : Act → St → Prop} {i : Nat} {oi : Oper} {e : Eff} {S : List Nat} (hi : ops[i]? = some oi) (hsel : ∀ (j : Nat) (o : Oper) cs b, ops[j]? = some o → o.op ≠ .select cs b)
    (hS : ∀ j ∈ S, after1 md ops i S j = true ∧ j ≠ i) :
    ∀ (fuel : Nat) (listed : Array Bool) (a : Act) (s : St), Inv B s →
      (∀ j ∈ S, listed.getD j true = false) → (∀ j oj, ops[j]? = some oj → j ≠ i → listed.getD j true = false → j ∉ S → oi.apart ops oj = true ∧ compat (tagOf oi) (tagOf oj) = true) →
      i ∈ Region.ready md ops listed → YieldsL P B w0 ops oi e a s →
      e.res B oi.dst a s (wpL P B w0 md ops Q fuel (listed.setIfInBounds i true)) → wpL P B w0 md ops Q (fuel + 1) listed a s := by
  intro fuel
  have now : ∀ {K : Act → St → Prop} {a : Act} {s : St}, YieldsL P B w0 ops oi e a s → e.res B oi.dst a s K → lexOp P B w0 ops i K a s := fun {K a s} hy H => by
    unfold lexOp
    simp only [hi]
    rcases hy with ⟨hw, hok⟩ | ⟨hw, rfl⟩
    · simp only [hw, if_true]; exact ⟨e, hok, H⟩
    · simp only [hw, Bool.false_eq_true, if_false]; exact H
  induction fuel with
  | zero =>
    intro listed a s hs _ _ hr hy H
    refine ⟨fun h => (by rw [h] at hr; cases hr), fun j hj => ?_⟩
    by_cases hji : j = i
    · subst hji; exact now hy H
    · have hm := ready_mono hj hji
      -- j is there yet, and nothing is left
      exfalso
      have hex : ∃ a' s', wpL P B w0 md ops Q 0 (listed.setIfInBounds i true) a' s' := by
        cases e with
        | val v => exact ⟨_, _, H⟩
        | call R =>
          rcases hy with ⟨_, hok⟩ | ⟨_, he⟩
          · obtain ⟨v, φ, hr⟩ := hok.2.1; exact ⟨_, _, H v φ hr⟩
          · cases he
        | new mk x => obtain ⟨g, p1, p2⟩ := hs.fresh; exact ⟨_, _, H g p1 p2⟩
        | store g x => exact ⟨_, _, H⟩
      obtain ⟨_, _, hx⟩ := hex
      rw [hx.1] at hm
      cases hm
  | succ fuel ih =>
    intro listed a s hs hSu hfree hr hy H
    refine ⟨fun h => (by rw [h] at hr; cases hr), fun j hj => ?_⟩
    by_cases hji : j = i
    · subst hji; exact now hy H
    · obtain ⟨hjun, oj, hoj, hall⟩ := mem_ready.1 hj
      have hiun := (mem_ready.1 hr).1
      have notlisted : ∀ k, listed.getD k true = false → listed.getD k false = false := fun k hk => by
        rcases Nat.lt_or_ge k listed.size with h' | h'
        · simp [h'] at hk ⊢; exact hk
        · simp [Array.getElem?_eq_none h']
      have hjS : j ∉ S := fun hjS => by
        have h1 := (hS j hjS).1
        unfold after1 at h1
        simp only [hoj] at h1
        obtain ⟨ed, he, hb⟩ := Array.any_eq_true'.1 h1
        simp only [Bool.and_eq_true, Bool.or_eq_true, beq_iff_eq, List.contains_iff_mem] at hb
        have h2 := hall ed he hb.1
        rcases hb.2 with h3 | h3
        · rw [h3, notlisted i hiun] at h2; cases h2
        · rw [notlisted _ (hSu _ h3)] at h2; cases h2
      obtain ⟨hap, hcp⟩ := hfree j oj hoj hji hjun hjS
      have h1 : e.res B oi.dst a s (fun a' s' => lexOp P B w0 ops j (wpL P B w0 md ops Q fuel ((listed.setIfInBounds i true).setIfInBounds j true)) a' s') :=
        Eff.res_mono (fun a' s' h => h.2 j (ready_mono hj hji)) H
      have h2 := lexOp_inv hs (lexOp_put hB hoj hap hcp (fun cs b => hsel i oi cs b hi) (fun cs b => hsel j oj cs b hoj) hs hy h1)
      have hSu' : ∀ k ∈ S, (listed.setIfInBounds j true).getD k true = false := fun k hk => by
        have hkj : j ≠ k := fun e => hjS (e ▸ hk)
        rw [getD_set_ne true hkj]; exact hSu k hk
      have hfree' : ∀ k ok, ops[k]? = some ok → k ≠ i → (listed.setIfInBounds j true).getD k true = false → k ∉ S → oi.apart ops ok = true ∧ compat (tagOf oi) (tagOf ok) = true := fun k ok hk hki hun hkS => by
        refine hfree k ok hk hki ?_ hkS
        by_cases hjk : j = k
        · subst hjk; exact hjun
        · rw [getD_set_ne true hjk] at hun; exact hun
      refine lexOp_mono (fun a' s' h3 => ih (listed.setIfInBounds j true) a' s' h3.1 hSu' hfree' (ready_mono hr (Ne.symm hji)) h3.2.1 ?_) h2
      rw [Array.setIfInBounds_comm _ _ hji]
      exact h3.2.2

theorem okTake_spec {listed : Array Bool} {i : Nat} {oi : Oper} (hi : ops[i]? = some oi) (h : okTake md ops listed i = true) :
    (∀ j ∈ behind md ops i, after1 md ops i (behind md ops i) j = true ∧ j ≠ i) ∧ (∀ j ∈ behind md ops i, listed.getD j true = false) ∧
    (∀ j oj, ops[j]? = some oj → j ≠ i → listed.getD j true = false → j ∉ behind md ops i → oi.apart ops oj = true ∧ compat (tagOf oi) (tagOf oj) = true) := by
  simp only [okTake, hi, Bool.and_eq_true, List.all_eq_true, List.mem_range] at h
  obtain ⟨h1, h2⟩ := h
  refine ⟨fun j hj => ⟨(h1 j hj).1.2, by have := (h1 j hj).2; simpa using this⟩, fun j hj => by have := (h1 j hj).1.1; simpa using this, fun j oj hj hne hun hno => ?_⟩
  have h3 := h2 j (Array.getElem?_eq_some_iff.1 hj).1
  simp only [hj, Bool.or_eq_true, beq_iff_eq, hne, false_or, hun, Bool.false_eq_true, Bool.and_eq_true, List.contains_iff_mem, hno] at h3
  exact h3

/-! ### The moves -/
/-- The judgement of a walk. -/
def J (P : Program) (B : Nat) (w0 : World) (ops : Array Oper) (Q : Act → St → Prop) (fuel : Nat) (listed : Array Bool) (a : Act) (s : St) : Prop :=
  B = w0.heap.size → Region.noSelect ops = true → Inv B s → wpL P B w0 .any ops Q fuel listed a s

theorem J.take {Q : Act → St → Prop} {i : Nat} {oi : Oper} {fuel : Nat} {listed : Array Bool} {a : Act} {s : St} (hi : ops[i]? = some oi) (hk : okTake .any ops listed i = true) (hr : (Region.ready .any ops listed).contains i = true)
    {e : Eff} (hw : Region.wanted oi (yielded ops a.tmps) = true) (hok : e.ok P B w0 oi a s) (h : e.res B oi.dst a s (J P B w0 ops Q fuel (listed.setIfInBounds i true))) : J P B w0 ops Q (fuel + 1) listed a s := fun hB hn hs => by
  obtain ⟨h1, h2, h3⟩ := okTake_spec hi hk
  exact wpL_first hB hi (Region.noSelect_spec hn) h1 fuel listed a s hs h2 h3 (by simpa using hr) (.inl ⟨hw, hok⟩) (Eff.res_mono (fun a' s' k => k.2 hB hn k.1) (Eff.res_inv hs hok h))
theorem J.skip {Q : Act → St → Prop} (i : Nat) {oi : Oper} {fuel : Nat} {listed : Array Bool} {a : Act} {s : St} (hi : ops[i]? = some oi) (hk : okTake .any ops listed i = true) (hr : (Region.ready .any ops listed).contains i = true)
    (hw : Region.wanted oi (yielded ops a.tmps) = false) (h : J P B w0 ops Q fuel (listed.setIfInBounds i true) (a.put oi.dst undef) s) : J P B w0 ops Q (fuel + 1) listed a s := fun hB hn hs => by
  obtain ⟨h1, h2, h3⟩ := okTake_spec hi hk
  exact wpL_first (e := .val undef) hB hi (Region.noSelect_spec hn) h1 fuel listed a s hs h2 h3 (by simpa using hr) (.inr ⟨hw, rfl⟩) (h hB hn hs)
/-- An operation that computes. -/
theorem J.pure {Q : Act → St → Prop} (i : Nat) {oi : Oper} {v : Value} {fuel : Nat} {listed : Array Bool} {a : Act} {s : St} (hi : ops[i]? = some oi) (hk : okTake .any ops listed i = true) (hr : (Region.ready .any ops listed).contains i = true)
    (ht : tagOf oi = .pure) (hw : Region.wanted oi (yielded ops a.tmps) = true) (hv : ∀ w, Below B w0 w → (execOp a.eval oi).run P w = .ok (.value v) w)
    (h : J P B w0 ops Q fuel (listed.setIfInBounds i true) (a.put oi.dst v) s) : J P B w0 ops Q (fuel + 1) listed a s :=
  J.take hi hk hr (e := .val v) hw (.inl ⟨ht, fun w hb => .inl (hv w hb)⟩) h
/-- A load. -/
theorem J.read {Q : Act → St → Prop} (i : Nat) {oi : Oper} {v : Value} {fuel : Nat} {listed : Array Bool} {a : Act} {s : St} (hi : ops[i]? = some oi) (hk : okTake .any ops listed i = true) (hr : (Region.ready .any ops listed).contains i = true)
    (ht : tagOf oi = .read) (hw : Region.wanted oi (yielded ops a.tmps) = true) (hv : ∀ w, In B w0 s w → (execOp a.eval oi).run P w = .ok (.value v) w)
    (h : J P B w0 ops Q fuel (listed.setIfInBounds i true) (a.put oi.dst v) s) : J P B w0 ops Q (fuel + 1) listed a s :=
  J.take hi hk hr (e := .val v) hw (.inr ⟨ht, fun w hb => .inl (hv w hb)⟩) h
/-- A call whose result is known. -/
theorem J.call {Q : Act → St → Prop} (i : Nat) {oi : Oper} {fuel : Nat} {listed : Array Bool} {a : Act} {s : St} (hi : ops[i]? = some oi) (hk : okTake .any ops listed i = true) (hr : (Region.ready .any ops listed).contains i = true)
    (ht : tagOf oi = .call) (hw : Region.wanted oi (yielded ops a.tmps) = true) {f : FuncId} {args : Array Value} (hrun : ∀ w, (execOp a.eval oi).run P w = .ok (.enter f args) w) {v : Value}
    (hc : ∀ w, In B w0 s w → Calls P f args w fun e w' => e = .returned v ∧ Below w.heap.size w w')
    (h : J P B w0 ops Q fuel (listed.setIfInBounds i true) (a.put oi.dst v) (s.add fun _ => True)) : J P B w0 ops Q (fuel + 1) listed a s :=
  J.take hi hk hr (e := .call fun u φ => u = v ∧ φ = fun _ => True) hw ⟨ht, ⟨_, _, rfl, rfl⟩, (by rintro _ _ ⟨_, rfl⟩; exact fun _ _ _ _ => trivial), fun w hw => .inl ⟨f, args, hrun w, (hc w hw).mono fun e w' ⟨h1, h2⟩ => ⟨v, _, h1, ⟨rfl, rfl⟩, trivial, h2⟩⟩⟩ (by rintro _ _ ⟨rfl, rfl⟩; exact h)
/-- A call of which something is known. -/
theorem J.callR {Q : Act → St → Prop} (i : Nat) (R : Value → (World → Prop) → Prop) {oi : Oper} {fuel : Nat} {listed : Array Bool} {a : Act} {s : St} (hi : ops[i]? = some oi) (hk : okTake .any ops listed i = true) (hr : (Region.ready .any ops listed).contains i = true)
    (ht : tagOf oi = .call) (hw : Region.wanted oi (yielded ops a.tmps) = true) {f : FuncId} {args : Array Value} (hrun : ∀ w, (execOp a.eval oi).run P w = .ok (.enter f args) w) (hne : ∃ v φ, R v φ) (hst : ∀ v φ, R v φ → Stable φ)
    (hc : ∀ w, In B w0 s w → Calls P f args w fun e w' => ∃ v φ, e = .returned v ∧ R v φ ∧ φ w' ∧ Below w.heap.size w w')
    (h : ∀ v φ, R v φ → J P B w0 ops Q fuel (listed.setIfInBounds i true) (a.put oi.dst v) (s.add φ)) : J P B w0 ops Q (fuel + 1) listed a s :=
  J.take hi hk hr (e := .call R) hw ⟨ht, hne, hst, fun w hw => .inl ⟨f, args, hrun w, hc w hw⟩⟩ h
theorem J.new {Q : Act → St → Prop} (i : Nat) {oi : Oper} {fuel : Nat} {listed : Array Bool} {a : Act} {s : St} (hi : ops[i]? = some oi) (hk : okTake .any ops listed i = true) (hr : (Region.ready .any ops listed).contains i = true)
    (ht : tagOf oi = .new) (hw : Region.wanted oi (yielded ops a.tmps) = true) {mk : Nat → Value} {o : Obj} (hrun : ∀ w, (execOp a.eval oi).run P w = .ok (.value (mk w.heap.size)) (w.alloc o))
    (h : ∀ g, B ≤ g → s.M g = none → J P B w0 ops Q fuel (listed.setIfInBounds i true) (a.put oi.dst (mk g)) (s.upd g o)) : J P B w0 ops Q (fuel + 1) listed a s :=
  J.take hi hk hr (e := .new mk o) hw ⟨ht, fun w _ => ⟨w.alloc o, hrun w, (by show (w.heap.push o)[w.heap.size]? = some o; simp), (Below.refl _ _).alloc (Nat.le_refl _) _⟩⟩ h
theorem J.store {Q : Act → St → Prop} (i : Nat) {oi : Oper} {fuel : Nat} {listed : Array Bool} {a : Act} {s : St} (hi : ops[i]? = some oi) (hk : okTake .any ops listed i = true) (hr : (Region.ready .any ops listed).contains i = true)
    (ht : tagOf oi = .store) (hw : Region.wanted oi (yielded ops a.tmps) = true) {g : Nat} {o o' : Obj} (hg : s.M g = some o)
    (hrun : ∀ w, In B w0 s w → w.heap[g]? = some o → ∃ w', (execOp a.eval oi).run P w = .ok .skip w' ∧ OnlyAt g w w' ∧ w'.heap[g]? = some o') (hG : ∀ w w', s.G w → OnlyAt g w w' → s.G w')
    (h : J P B w0 ops Q fuel (listed.setIfInBounds i true) (a.put oi.dst undef) (s.upd g o')) : J P B w0 ops Q (fuel + 1) listed a s :=
  J.take hi hk hr (e := .store g o') hw ⟨ht, ⟨o, hg⟩, fun w hin => by obtain ⟨w', h1, h2, h3⟩ := hrun w hin (hin.holds g o hg); exact ⟨w', h1, h2, h3, hG _ _ hin.more h2⟩⟩ h
theorem J.done {Q : Act → St → Prop} {listed : Array Bool} {a : Act} {s : St} (hr : Region.ready .any ops listed = []) (h : Inv B s → Q a s) : ∀ fuel, J P B w0 ops Q fuel listed a s
  | 0 => fun _ _ hs => ⟨hr, h hs⟩
  | _ + 1 => fun _ _ hs => ⟨fun _ => h hs, by rw [hr]; simp⟩
/-- The beginning. -/
theorem region {id : Nat} {Q : Exit → Act → World → Prop} {a : Act} {w : World} {l : List Oper} (hm : P.follows .mixedOrders = true) (hn : Region.noSelect l.toArray = true)
    {n : Nat} (hlen : l.toArray.size = n) (h : ∀ (O : Array Oper) (Z : Act → St → Prop), O = l.toArray → (∀ a' s, (∀ w', In w.heap.size w.drew s w' → Q .normal a' w') → Z a' s) → J P w.heap.size w.drew O Z n (Array.replicate n false) a St.nil) : (Code.region id l.toArray true).wp P Q a w := by
  subst hlen
  exact
  wp_region_any hm (wpAny_of_L (B := w.heap.size) (w0 := w.drew) (Q := fun a' s => ∀ w', In w.heap.size w.drew s w' → Q .normal a' w') (Nat.le_refl _) (fun _ _ w' _ hw' h => h w' hw') _ _ _ _ _ (Inv.nil _) ⟨Below.refl _ _, fun _ _ h => (by cases h), trivial⟩ (h _ _ rfl (fun _ _ h => h) rfl hn (Inv.nil _)))
/-! ### A region whose order is the text's -/
def lexOk (md : Region.Mode) (ops : Array Oper) : Nat → Nat → Array Bool → Bool
  | 0, _, listed => (Region.ready md ops listed).isEmpty
  | n + 1, k, listed => (Region.ready md ops listed).contains k && lexOk md ops n (k + 1) (listed.setIfInBounds k true)
theorem wpOps_of_any {Q' : Exit → Act → World → Prop} : ∀ (n k : Nat) (listed : Array Bool) (a : Act) (w : World), lexOk md ops n k listed = true → wpAny P md ops Q' n listed a w → wpOps P ops Q' (List.range' k n) a w
  | 0, _, _, _, _, _, h => h.2
  | n + 1, k, listed, a, w, hk, h => by
    simp only [lexOk, Bool.and_eq_true] at hk
    rw [List.range'_succ, wpOps_cons]
    exact wpOp_mono (fun a' w' => wpOps_of_any n (k + 1) _ a' w' hk.2) (h.2 k (by simpa using hk.1))
theorem region0 {id : Nat} {Q : Exit → Act → World → Prop} {a : Act} {w : World} {l : List Oper} (hn : Region.noSelect l.toArray = true) (hl : lexOk .any l.toArray l.toArray.size 0 (Array.replicate l.toArray.size false) = true)
    {n : Nat} (hlen : l.toArray.size = n) (h : ∀ (O : Array Oper) (Z : Act → St → Prop), O = l.toArray → (∀ a' s, (∀ w', In w.heap.size w s w' → Q .normal a' w') → Z a' s) → J P w.heap.size w O Z n (Array.replicate n false) a St.nil) : (Code.region id l.toArray false).wp P Q a w := by
  subst hlen
  refine wp_region ?_
  rw [List.range_eq_range']
  exact wpOps_of_any _ _ _ _ _ hl (wpAny_of_L (B := w.heap.size) (w0 := w) (Q := fun a' s => ∀ w', In w.heap.size w s w' → Q .normal a' w') (Nat.le_refl _) (fun _ _ w' _ hw' h => h w' hw') _ _ _ _ _ (Inv.nil _) ⟨Below.refl _ _, fun _ _ h => (by cases h), trivial⟩ (h _ _ rfl (fun _ _ h => h) rfl hn (Inv.nil _)))
/-- From a world of which something is known (what the call itself made). -/
theorem In.drewS {w0 : World} {s : St} {w : World} (h : In B w0 s w) (hs : Inv B s) : In B w0 s w.drew :=
  ⟨h.below.drew, h.holds, hs.stable _ _ h.more ((Below.refl w.heap.size w).drew)⟩
theorem regionS {id : Nat} {Q : Exit → Act → World → Prop} {a : Act} {w : World} {l : List Oper} {w0 : World} {s0 : St} (hm : P.follows .mixedOrders = true) (hn : Region.noSelect l.toArray = true) (hin : In w0.heap.size w0 s0 w) (hs : Inv w0.heap.size s0)
    {n : Nat} (hlen : l.toArray.size = n) (h : ∀ (O : Array Oper) (Z : Act → St → Prop), O = l.toArray → (∀ a' s, (∀ w', In w0.heap.size w0 s w' → Q .normal a' w') → Z a' s) → J P w0.heap.size w0 O Z n (Array.replicate n false) a s0) : (Code.region id l.toArray true).wp P Q a w := by
  subst hlen
  exact
  wp_region_any hm (wpAny_of_L (B := w0.heap.size) (w0 := w0) (Q := fun a' s => ∀ w', In w0.heap.size w0 s w' → Q .normal a' w') (Nat.le_refl _) (fun _ _ w' _ hw' h => h w' hw') _ _ _ _ _ hs (hin.drewS hs) (h _ _ rfl (fun _ _ h => h) rfl hn hs))
theorem regionS0 {id : Nat} {Q : Exit → Act → World → Prop} {a : Act} {w : World} {l : List Oper} {w0 : World} {s0 : St} (hn : Region.noSelect l.toArray = true) (hl : lexOk .any l.toArray l.toArray.size 0 (Array.replicate l.toArray.size false) = true) (hin : In w0.heap.size w0 s0 w) (hs : Inv w0.heap.size s0)
    {n : Nat} (hlen : l.toArray.size = n) (h : ∀ (O : Array Oper) (Z : Act → St → Prop), O = l.toArray → (∀ a' s, (∀ w', In w0.heap.size w0 s w' → Q .normal a' w') → Z a' s) → J P w0.heap.size w0 O Z n (Array.replicate n false) a s0) : (Code.region id l.toArray false).wp P Q a w := by
  subst hlen
  refine wp_region ?_
  rw [List.range_eq_range']
  exact wpOps_of_any _ _ _ _ _ hl (wpAny_of_L (B := w0.heap.size) (w0 := w0) (Q := fun a' s => ∀ w', In w0.heap.size w0 s w' → Q .normal a' w') (Nat.le_refl _) (fun _ _ w' _ hw' h => h w' hw') _ _ _ _ _ hs hin (h _ _ rfl (fun _ _ h => h) rfl hn hs))
/-- One block that is known; two; three. -/
theorem In.one {w0 w : World} (hb : Below B w0 w) {g : Nat} {o : Obj} (h : w.heap[g]? = some o) : In B w0 (St.nil.upd g o) w :=
  (fun hh => ⟨hb, hh, trivial⟩) (fun k p hk => by
    by_cases e : k = g
    · subst e; rw [St.upd_at] at hk; injection hk with hk; rw [← hk]; exact h
    · rw [St.upd_ne _ o e] at hk; cases hk)
theorem In.put {w0 w : World} {s : St} (hi : In B w0 s w) {g : Nat} {o : Obj} (h : w.heap[g]? = some o) : In B w0 (s.upd g o) w :=
  (fun hh => ⟨hi.below, hh, hi.more⟩) (fun k p hk => by
    by_cases e : k = g
    · subst e; rw [St.upd_at] at hk; injection hk with hk; rw [← hk]; exact h
    · rw [St.upd_ne _ o e] at hk; exact hi.holds k p hk)
/-- A new variable. -/
theorem J.alloc {Q : Act → St → Prop} (i : Nat) {oi : Oper} {fuel : Nat} {listed : Array Bool} {a : Act} {s : St} (hi : ops[i]? = some oi) (hk : okTake .any ops listed i = true) (hr : (Region.ready .any ops listed).contains i = true)
    (ht : tagOf oi = .new) (hw : Region.wanted oi (yielded ops a.tmps) = true) {o : Obj} (hrun : ∀ w, (execOp a.eval oi).run P w = .ok (.value (.pointer (some ⟨w.heap.size, 0, none⟩))) (w.alloc o))
    (h : ∀ g, B ≤ g → s.M g = none → J P B w0 ops Q fuel (listed.setIfInBounds i true) (a.put oi.dst (.pointer (some ⟨g, 0, none⟩))) (s.upd g o)) : J P B w0 ops Q (fuel + 1) listed a s :=
  J.new i hi hk hr ht hw (mk := fun n => .pointer (some ⟨n, 0, none⟩)) hrun h
end
end Lx
end Go.Proofs.YtljfloopjgpaeabDoor
