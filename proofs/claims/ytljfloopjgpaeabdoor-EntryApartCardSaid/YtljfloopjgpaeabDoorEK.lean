/- tollbar/entry.Check. -/
import Derived.WalkKit
import Derived.Deep.QuietTactic
import Derived.BigQuiet
import Derived.WalkLawsBesides
import Derived.WalkSpells
import Derived.Lib.Hide
import Derived.LoopTactic
import Derived.RangeFuncNested
import Derived.RangeFuncBound
import Derived.RangeFuncCalls
import Derived.RangeFuncLeaves
import Derived.Shelf.Abstract
import Derived.Shelf.RegionOpen
import Derived.OwnWalkIn
import Derived.TacticsInMore
import Derived.LoopNIn
import Derived.LoopIn
import Derived.Deep.Cut
import Derived.Deep.DeepCutAuto
import Derived.BigRegion
import Derived.IntWalk
import Derived.Sort.CutIn
import Derived.Test.YtljfloopjgpaeabDoorEJ
namespace Go.Proofs.YtljfloopjgpaeabDoor
set_option linter.unusedVariables false
set_option linter.unusedSimpArgs false
open Go.RowKit Go.Shelf
attribute [local go_sem] Oper.semAt_some
set_option maxRecDepth 100000
theorem wideE {P : Program} {f : FuncId} {args : Array Value} {w : World} {R : Ending → World → Prop} (h : Calls P f args w R) (n : Nat) : CallsIn Fence.wide n P f args w R := callsIn_wide.2 h
theorem run_store_fn {P : Program} {w : World} {a : Addr} {m : Mode} (f : Fn) (x y : Array Value) : (store a (.func f x y) m).run P w = stored P w a (.func f x y) m := run_store P w a _ m rfl
attribute [local go_sem] run_store_fn
/-- An entry's field by its place. -/
def EntV.fld (x : EntV) (j : Nat) : Int := if j = 2 then x.worker else if j = 3 then x.task else if j = 4 then x.peer else if j = 5 then x.ch else if j = 6 then x.cs else x.pc
def fieldE (k : Int) (has : List ByteArray) (s : ByteArray) (v : Int) : Bool := if hasS has s = true then decide (leastOf k s ≤ v) && decide (v ≤ mostOf k s) else v == 0
def fieldsE (x : EntV) (has : List ByteArray) : Bool := eFields.all fun p => fieldE x.kind has p.1.1 (x.fld p.1.2)
def tailE (x : EntV) (has : List ByteArray) : Bool := (hasS has s_val || x.val == 0) && ((hasS has s_val2 || x.val2 == 0) && ((hasS has s_ok || !x.ok) && ((hasS has s_set || x.set == 0) && (if hasS has s_code = true then decide (140 ≤ x.code) && decide (x.code ≤ 143) else x.code == 0))))
/-- May an entry be? -/
def entB (x : EntV) : Bool := match hasOf x.kind with | none => false | some p => decide (0 ≤ x.at_) && (fieldsE x p.2 && tailE x p.2)
def errOf (b : Bool) : Int := if b then 0 else 2
def FormN (W : World) (r : Nat) (k : Int) : Prop := ∃ n es, W.heap[r]? = some (.map (entsI .u8 es) n) ∧ findI .u8 k es 0 = none
def FormK (W : World) (r : Nat) (k : Int) (word : ByteArray) (u : Value) (has : List ByteArray) : Prop := ∃ n es i, W.heap[r]? = some (.map (entsI .u8 es) n) ∧ findI .u8 k es 0 = some (i, .agg #[.string word, u]) ∧ Ef.Has W u has
theorem FormsAt.no {W : World} {r : Nat} {k : Int} (h : FormsAt W r) (hk : hasOf k = none) : FormN W r k := by
  obtain ⟨n, es, h1, h2⟩ := h
  have := h2 k
  rw [hk] at this
  exact ⟨n, es, h1, this⟩
theorem FormsAt.yes {W : World} {r : Nat} {k : Int} {p : ByteArray × List ByteArray} (h : FormsAt W r) (hk : hasOf k = some p) : ∃ u, FormK W r k p.1 u p.2 := by
  obtain ⟨n, es, h1, h2⟩ := h
  have := h2 k
  rw [hk] at this
  obtain ⟨i, u, h3, h4⟩ := this
  exact ⟨u, n, es, i, h1, h3, h4⟩
theorem FormN.stable {r : Nat} {k : Int} : Lx.Stable fun W => FormN W r k := fun W W' ⟨n, es, h1, h2⟩ hb => ⟨n, es, (hb.block _ (Array.getElem?_eq_some_iff.1 h1).1).trans h1, h2⟩
theorem FormK.stable {r : Nat} {k : Int} {word : ByteArray} {u : Value} {has : List ByteArray} : Lx.Stable fun W => FormK W r k word u has := fun W W' ⟨n, es, i, h1, h2, h3⟩ hb => ⟨n, es, i, (hb.block _ (Array.getElem?_eq_some_iff.1 h1).1).trans h1, h2, h3.keep fun g cs t z hg => (hb.block _ (Array.getElem?_eq_some_iff.1 hg).1).trans hg⟩
theorem Lx.OnlyAt.row {g T : Nat} {W W' : World} {cs : Array Value} {z : Nat × Nat} (ho : Lx.OnlyAt g W W') (hg : W.heap[g]? = some (.cells cs T z)) {k : Nat} {o : Obj} (hk : W.heap[k]? = some o) (hne : ∀ cs z, o ≠ .cells cs T z) : W'.heap[k]? = some o := by
  refine (ho.block k ?_).trans hk
  rintro rfl
  rw [hk] at hg
  injection hg with hg
  exact hne _ _ hg
theorem FormN.only {g T : Nat} {W W' : World} {cs : Array Value} {z : Nat × Nat} {r : Nat} {k : Int} (h : FormN W r k) (hg : W.heap[g]? = some (.cells cs T z)) (ho : Lx.OnlyAt g W W') : FormN W' r k := by
  obtain ⟨n, es, h1, h2⟩ := h
  exact ⟨n, es, ho.row hg h1 (fun _ _ h => by cases h), h2⟩
theorem FormK.only {g T : Nat} {W W' : World} {cs : Array Value} {z : Nat × Nat} {r : Nat} {k : Int} {word : ByteArray} {u : Value} {has : List ByteArray} (h : FormK W r k word u has) (hg : W.heap[g]? = some (.cells cs T z)) (hT : T ≠ 9) (ho : Lx.OnlyAt g W W') : FormK W' r k word u has := by
  obtain ⟨n, es, i, h1, h2, h0, b, o, c, h3, h4, h5, cs', z', h6, h7⟩ := h
  exact ⟨n, es, i, ho.row hg h1 (fun _ _ h => by cases h), h2, h0, b, o, c, h3, h4, h5, cs', z', ho.row hg h6 (fun _ _ h => by injection h with _ h; exact hT h.symm), h7⟩
def relN (k : Int) (v : Value) (φ : World → Prop) : Prop := ∃ r, v = .map (some r) ∧ φ = fun W => FormN W r k
theorem relN_ok (k : Int) : (∃ v φ, relN k v φ) ∧ ∀ v φ, relN k v φ → Lx.Stable φ := ⟨⟨_, _, 0, rfl, rfl⟩, by rintro _ _ ⟨r, rfl, rfl⟩; exact FormN.stable⟩
def relK (k : Int) (p : ByteArray × List ByteArray) (v : Value) (φ : World → Prop) : Prop := ∃ r A c, v = .map (some r) ∧ φ = fun W => FormK W r k p.1 (.slice A p.2.length c) p.2
theorem relK_ok (k : Int) (p : ByteArray × List ByteArray) : (∃ v φ, relK k p v φ) ∧ ∀ v φ, relK k p v φ → Lx.Stable φ := ⟨⟨_, _, 0, none, 0, rfl, rfl⟩, by rintro _ _ ⟨r, A, c, rfl, rfl⟩; exact FormK.stable⟩
theorem forms_no {k : Int} (hk : hasOf k = none) (w : World) : Calls Tryd.prog 55 #[] w fun e w' => ∃ v φ, e = .returned v ∧ relN k v φ ∧ φ w' ∧ Below w.heap.size w w' :=
  (eforms_any w).mono fun e w' ⟨r, h1, h2, _, h4⟩ => ⟨_, _, h1, ⟨r, rfl, rfl⟩, h4.no hk, h2⟩
theorem forms_yes {k : Int} {p : ByteArray × List ByteArray} (hk : hasOf k = some p) (w : World) : Calls Tryd.prog 55 #[] w fun e w' => ∃ v φ, e = .returned v ∧ relK k p v φ ∧ φ w' ∧ Below w.heap.size w w' :=
  (eforms_any w).mono fun e w' ⟨r, h1, h2, _, h4⟩ => by
    obtain ⟨u, hu⟩ := h4.yes hk
    obtain ⟨n, es, i, a1, a2, a3⟩ := hu
    obtain ⟨A, c, rfl, _⟩ := a3.R.val
    exact ⟨_, _, h1, ⟨r, A, c, rfl, rfl⟩, ⟨n, es, i, a1, a2, a3⟩, h2⟩
theorem zero_eform (w : World) : (zeroValue 96).run Tryd.prog w = .ok (.agg #[.string ⟨#[]⟩, .slice none 0 0]) w := by rfl
theorem ask_no {W : World} {r : Nat} {k : Int} (h : FormN W r k) : (Instr.lookup 98 (.map (some r)) (.int .u8 k) true).run Tryd.prog W = .ok (.tuple #[.agg #[.string ⟨#[]⟩, .slice none 0 0], .bool false]) W := by
  obtain ⟨n, es, h1, h2⟩ := h
  rw [run_mapAsk Tryd.underlying98 Tryd.underlying5 zero_eform h1 k, h2]
  rfl
theorem ask_yes {W : World} {r : Nat} {k : Int} {word : ByteArray} {u : Value} {has : List ByteArray} (h : FormK W r k word u has) : (Instr.lookup 98 (.map (some r)) (.int .u8 k) true).run Tryd.prog W = .ok (.tuple #[.agg #[.string word, u], .bool true]) W := by
  obtain ⟨n, es, i, h1, h2, _⟩ := h
  rw [run_mapAsk Tryd.underlying98 Tryd.underlying5 zero_eform h1 k, h2]
  rfl
set_option maxHeartbeats 4000000 in
theorem eCheck_no (x : EntV) (hk : hasOf x.kind = none) (w : World) : Calls Tryd.prog 17 #[x.agg] w fun e w' => e = .returned (.int .i64 2) ∧ Below w.heap.size w w' := by
  obtain ⟨xa, xk, x2, x3, x4, x5, x6, x7, x8, x9, x10, x11, x12⟩ := x
  simp only [EntV.agg] at hk ⊢
  go_enter Tryd.func17, Tryd.ntmps17
  go_upto_region 1 with fail
  refine Lx.start2 (fun W1 hII => ?_)
  have HIN := Lib.hid hII
  clear hII
  refine Lx.regionS (by kernel_rfl) (by kernel_rfl) HIN.out.1 HIN.out.2 (by simp only [List.size_toArray, List.length_cons, List.length_nil, Nat.reduceAdd]; rfl) (fun O Z hO hZ => ?_); have HO := Lib.hid hO; clear hO
  first
    | (apply Lx.kp HO 1; (case hx => exact ⟨rfl, rfl, rfl⟩); (case hk => decide +kernel); (case hv => intro w_ hw_; (go_simp <;> first | with_reducible rfl | exact ⟨rfl, rfl⟩)); simp only [Act.put, Lx.p1, Lx.p2, Lx.p3])
  first
    | (apply Lx.kr HO 2; (case hx => exact ⟨rfl, rfl, rfl⟩); (case hk => decide +kernel); (case hv => intro w_ hw_; have P_ := hw_.holds (w.heap.size) _ (by (repeat (first | exact Lx.ua _ _ _ | rw [Lx.un _ _ (by omega)] | rw [Lx.am]))); have c1 : w_.cell? ⟨w.heap.size, 1, none⟩ = some (.int .u8 xk) := Ly.cellAt P_ 1 rfl; clear P_; (go_simp <;> first | with_reducible rfl | exact ⟨rfl, rfl⟩)); simp only [Act.put, Lx.p1, Lx.p2, Lx.p3])
  first
    | (apply Lx.kR HO 0 (relN xk); (case hx => exact ⟨rfl, rfl, rfl⟩); (case hk => decide +kernel); (case hrun => intro w_; (go_simp <;> first | with_reducible rfl | exact ⟨rfl, rfl⟩)); (case hne => exact relN_ok _); (case hc => intro w_ hw_; exact forms_no hk w_))
  rintro _ _ ⟨r, rfl, rfl⟩
  simp only [Act.put, Lx.p1, Lx.p2, Lx.p3]
  first
    | (apply Lx.kr HO 3; (case hx => exact ⟨rfl, rfl, rfl⟩); (case hk => decide +kernel); (case hv => intro w_ hw_; have q_ := ask_no (Lx.m0 hw_.more); (go_simp <;> first | with_reducible rfl | exact ⟨rfl, rfl⟩)); simp only [Act.put, Lx.p1, Lx.p2, Lx.p3])
  first
    | (apply Lx.kp HO 4; (case hx => exact ⟨rfl, rfl, rfl⟩); (case hk => decide +kernel); (case hv => intro w_ hw_; (go_simp <;> first | with_reducible rfl | exact ⟨rfl, rfl⟩)); simp only [Act.put, Lx.p1, Lx.p2, Lx.p3])
  first
    | (apply Lx.kp HO 5; (case hx => exact ⟨rfl, rfl, rfl⟩); (case hk => decide +kernel); (case hv => intro w_ hw_; (go_simp <;> first | with_reducible rfl | exact ⟨rfl, rfl⟩)); simp only [Act.put, Lx.p1, Lx.p2, Lx.p3])
  first
    | (apply Lx.kp HO 6; (case hx => exact ⟨rfl, rfl, rfl⟩); (case hk => decide +kernel); (case hv => intro w_ hw_; (go_simp <;> first | with_reducible rfl | exact ⟨rfl, rfl⟩)); simp only [Act.put, Lx.p1, Lx.p2, Lx.p3])
  first
    | (apply Lx.ka HO 7; (case hx => exact ⟨rfl, rfl, rfl⟩); (case hk => decide +kernel); (case hrun => intro w_; (go_simp <;> first | with_reducible rfl | exact ⟨rfl, rfl⟩)); simp only [Act.put, Lx.p1, Lx.p2, Lx.p3])
  intro g hg_ hfr
  (repeat (first | (rw [Lx.St.add_M] at hfr) | (replace hfr := Lx.St.fresh_upd hfr; have n_ := hfr.1; replace hfr := hfr.2))); clear hfr
  first
    | (apply Lx.ksG HO 8 (g := g); (case hx => exact ⟨rfl, rfl, rfl⟩); (case hk => decide +kernel); (case hg => (repeat (first | exact Lx.ua _ _ _ | rw [Lx.un _ _ (by omega)] | rw [Lx.am]))); (case hG => exact fun _ _ h_ hg_ ho_ => ⟨trivial, (Lx.m0 (Lx.mU h_.more)).only hg_ ho_⟩); (case hrun => intro w_ hw_ hb_; obtain ⟨c0, c1⟩ := Lx.cells2 hb_; obtain ⟨d0, d1⟩ := Lx.froz2 hb_; refine ⟨?_, ?_, ?_, ?_⟩; rotate_left; (next => (go_simp <;> first | with_reducible rfl | rfl)); (next => (repeat (first | (with_reducible exact Lx.OnlyAt.refl _ _) | (with_reducible refine Lx.OnlyAt.set ?_ _ _)))); (next => (first | with_reducible exact Lx.sets10 hb_ | with_reducible exact Lx.sets5 hb_ | with_reducible exact Lx.sets3 hb_ | with_reducible exact Lx.sets2 hb_ | with_reducible exact Lx.sets4 hb_ | (simp [World.setCell, Array.getElem?_modify, hb_] <;> rfl)))); simp only [Act.put, Lx.p1, Lx.p2, Lx.p3])
  first
    | (apply Lx.kp HO 9; (case hx => exact ⟨rfl, rfl, rfl⟩); (case hk => decide +kernel); (case hv => intro w_ hw_; (go_simp <;> first | with_reducible rfl | exact ⟨rfl, rfl⟩)); simp only [Act.put, Lx.p1, Lx.p2, Lx.p3])
  refine Lx.kd HO (by kernel_rfl) (fun hiv2 => hZ _ _ (fun W2 hw2 => ?_))
  clear hZ Z HO O
  have hb_ := Lib.hid hw2.below
  have hQ := hw2.holds (w.heap.size + 1) _ (by (repeat (first | exact Lx.ua _ _ _ | rw [Lx.un _ _ (by omega)] | rw [Lx.am])))
  have q0 : W2.cell? ⟨w.heap.size + 1, 0, none⟩ = some (.int .i64 0) := Ly.cellAt hQ 0 rfl
  have q1 := (Lx.froz2 hQ).1
  have hlt : w.heap.size + 1 < W2.heap.size := (Array.getElem?_eq_some_iff.1 hQ).1
  clear hw2 hiv2 HIN hQ
  go_wp2
  have q2 := Lib.cell?_alloc_some (.cells #[.func (.func 56) #[] #[.pointer (some ⟨g, 0, none⟩)]] 101) (World.cell?_setCell_same' W2 ⟨w.heap.size + 1, 0, none⟩ (.int .i64 2) (by rw [q0]; rfl))
  refine bodyPost_ret (v := .int .i64 2) (by simp [results, Tryd.f17, go_sem] <;> rw [q2]) rfl ⟨rfl, ?_⟩
  (have hszq := hb_.out.size; (try simp only [World.size_alloc] at hszq); (repeat (first | (with_reducible refine Below.setCell ?_ (by first | (simp; done) | (simp; omega) | omega) _) | (with_reducible refine Below.alloc ?_ (by first | (simp; done) | (simp; omega) | omega) _) | (with_reducible refine Below.drew ?_))); refine Below.trans ?_ (hb_.out.mono (by first | (simp; done) | (simp; omega) | omega)); (repeat (first | with_reducible exact Below.refl _ _ | (with_reducible refine Below.setCell ?_ (by first | (simp; done) | (simp; omega) | omega) _) | (with_reducible refine Below.alloc ?_ (by first | (simp; done) | (simp; omega) | omega) _) | (with_reducible refine Below.drew ?_))))
theorem KeepsOthers.of_below {W W' : World} (h : Below W.heap.size W W') : KeepsOthers W W' := ⟨h.size, fun k o hk _ => (h.block k (Array.getElem?_eq_some_iff.1 hk).1).trans hk⟩
theorem chk_end (n : Nat) {w W : World} {D Q : Nat} {v0 : Value} {tmps : Array Value} (r : Int) (hb : Below w.heap.size w W) (hQ : w.heap.size ≤ Q) (hD : w.heap.size ≤ D) (hK : W.heap[D]? = some (.deferred (some []))) (q0 : W.cell? ⟨Q, 0, none⟩ = some v0) (ht : tmps[2]?.getD undef = .pointer (some ⟨Q, 0, none⟩)) :
    LeavesInM Fence.wide n Tryd.prog Tryd.f17 tmps (fun e w' => e = .returned (.int .i64 r) ∧ Below w.heap.size w w') [{ target := .collected D, args := #[] }] .returning (W.setCell ⟨Q, 0, none⟩ (.int .i64 r)) := by
  have hK' := (KeepsOthers.setCell W ⟨Q, 0, none⟩ (.int .i64 r)).same D _ hK rfl
  refine ⟨by simp, .inl ⟨_, _, rfl, run_takeDeferred hK', ?_⟩⟩
  have hc5 := cell_kept (World.cell?_setCell_same' W ⟨Q, 0, none⟩ (.int .i64 r) (by rw [q0]; rfl)) (grownBy_putObj' _ D (.deferred none)) (fun r e => by cases e; exact ⟨_, hK', rfl⟩)
  refine ⟨.int .i64 r, ?_, rfl, (hb.setCell (p := ⟨Q, 0, none⟩) hQ _).trans (belowK_b (w := w) (Nat.le_refl _) _ D _ _ hD hK' rfl rfl)⟩
  simp [results, Tryd.f17, go_sem, hc5, ht]
theorem chk_end0 (n : Nat) {w W : World} {D Q : Nat} {tmps : Array Value} (r : Int) (hb : Below w.heap.size w W) (hQ : w.heap.size ≤ Q) (hD : w.heap.size ≤ D) (hK : W.heap[D]? = some (.deferred (some []))) (q0 : W.cell? ⟨Q, 0, none⟩ = some (.int .i64 r)) (ht : tmps[2]?.getD undef = .pointer (some ⟨Q, 0, none⟩)) :
    LeavesInM Fence.wide n Tryd.prog Tryd.f17 tmps (fun e w' => e = .returned (.int .i64 r) ∧ Below w.heap.size w w') [{ target := .collected D, args := #[] }] .returning W := by
  refine ⟨by simp, .inl ⟨_, _, rfl, run_takeDeferred hK, ?_⟩⟩
  have hc5 := cell_kept q0 (grownBy_putObj' _ D (.deferred none)) (fun r e => by cases e; exact ⟨_, hK, rfl⟩)
  refine ⟨.int .i64 r, ?_, rfl, hb.trans (belowK_b (w := w) (Nat.le_refl _) W D _ _ hD hK rfl rfl)⟩
  simp [results, Tryd.f17, go_sem, hc5, ht]
set_option maxHeartbeats 8000000 in
theorem eCheck_yes (n : Nat) (hn : 3 ≤ n) (x : EntV) (p : ByteArray × List ByteArray) (hk : hasOf x.kind = some p) (w : World) : CallsIn Fence.wide n Tryd.prog 17 #[x.agg] w fun e w' => e = .returned (.int .i64 (errOf (entB x))) ∧ Below w.heap.size w w' := by
  have h1 : 1 ≤ n := by omega
  obtain ⟨xa, xk, x2, x3, x4, x5, x6, x7, x8, x9, x10, x11, x12⟩ := x
  have hent : entB ⟨xa, xk, x2, x3, x4, x5, x6, x7, x8, x9, x10, x11, x12⟩ = (decide (0 ≤ xa) && (fieldsE ⟨xa, xk, x2, x3, x4, x5, x6, x7, x8, x9, x10, x11, x12⟩ p.2 && tailE ⟨xa, xk, x2, x3, x4, x5, x6, x7, x8, x9, x10, x11, x12⟩ p.2)) := by simp only [entB]; simp only at hk; rw [hk]
  obtain ⟨X, hX⟩ : ∃ X : EntV, X = ⟨xa, xk, x2, x3, x4, x5, x6, x7, x8, x9, x10, x11, x12⟩ := ⟨_, rfl⟩
  rw [← hX] at hent
  obtain ⟨rr, hrr⟩ : ∃ rr, rr = errOf (entB ⟨xa, xk, x2, x3, x4, x5, x6, x7, x8, x9, x10, x11, x12⟩) := ⟨_, rfl⟩
  rw [← hrr]
  rw [← hX, hent] at hrr
  have HE := Lib.hid hrr
  have HX := Lib.hid hX
  clear hent hrr hX
  simp only [EntV.agg] at hk ⊢
  refine callsIn_of_wp_marks Tryd.func17 rfl trivial ?_ rfl
  simp only [Tryd.ntmps17, List.size_toArray, List.length_cons, List.length_nil, Nat.reduceAdd, Nat.reduceSub, Array.replicate_succ, Array.replicate_zero, List.push_toArray, List.append_toArray, List.nil_append, List.cons_append]
  refine wpIn_wide.2 ?_
  go_upto_region 1 with fail
  refine Lx.start2 (fun W1 hII => ?_)
  have HIN := Lib.hid hII
  clear hII
  refine Lx.regionS (by kernel_rfl) (by kernel_rfl) HIN.out.1 HIN.out.2 (by simp only [List.size_toArray, List.length_cons, List.length_nil, Nat.reduceAdd]; rfl) (fun O Z hO hZ => ?_); have HO := Lib.hid hO; clear hO
  first
    | (apply Lx.kp HO 1; (case hx => exact ⟨rfl, rfl, rfl⟩); (case hk => decide +kernel); (case hv => intro w_ hw_; (go_simp <;> first | with_reducible rfl | exact ⟨rfl, rfl⟩)); simp only [Act.put, Lx.p1, Lx.p2, Lx.p3])
  first
    | (apply Lx.kr HO 2; (case hx => exact ⟨rfl, rfl, rfl⟩); (case hk => decide +kernel); (case hv => intro w_ hw_; have P_ := hw_.holds (w.heap.size) _ (by (repeat (first | exact Lx.ua _ _ _ | rw [Lx.un _ _ (by omega)] | rw [Lx.am]))); have c1 : w_.cell? ⟨w.heap.size, 1, none⟩ = some (.int .u8 xk) := Ly.cellAt P_ 1 rfl; clear P_; (go_simp <;> first | with_reducible rfl | exact ⟨rfl, rfl⟩)); simp only [Act.put, Lx.p1, Lx.p2, Lx.p3])
  first
    | (apply Lx.kR HO 0 (relK xk p); (case hx => exact ⟨rfl, rfl, rfl⟩); (case hk => decide +kernel); (case hrun => intro w_; (go_simp <;> first | with_reducible rfl | exact ⟨rfl, rfl⟩)); (case hne => exact relK_ok _ _); (case hc => intro w_ hw_; exact forms_yes hk w_))
  rintro _ _ ⟨r, A, c, rfl, rfl⟩
  simp only [Act.put, Lx.p1, Lx.p2, Lx.p3]
  first
    | (apply Lx.kr HO 3; (case hx => exact ⟨rfl, rfl, rfl⟩); (case hk => decide +kernel); (case hv => intro w_ hw_; have q_ := ask_yes (Lx.m0 hw_.more); (go_simp <;> first | with_reducible rfl | exact ⟨rfl, rfl⟩)); simp only [Act.put, Lx.p1, Lx.p2, Lx.p3])
  first
    | (apply Lx.kp HO 4; (case hx => exact ⟨rfl, rfl, rfl⟩); (case hk => decide +kernel); (case hv => intro w_ hw_; (go_simp <;> first | with_reducible rfl | exact ⟨rfl, rfl⟩)); simp only [Act.put, Lx.p1, Lx.p2, Lx.p3])
  first
    | (apply Lx.kp HO 5; (case hx => exact ⟨rfl, rfl, rfl⟩); (case hk => decide +kernel); (case hv => intro w_ hw_; (go_simp <;> first | with_reducible rfl | exact ⟨rfl, rfl⟩)); simp only [Act.put, Lx.p1, Lx.p2, Lx.p3])
  first
    | (apply Lx.kp HO 6; (case hx => exact ⟨rfl, rfl, rfl⟩); (case hk => decide +kernel); (case hv => intro w_ hw_; (go_simp <;> first | with_reducible rfl | exact ⟨rfl, rfl⟩)); simp only [Act.put, Lx.p1, Lx.p2, Lx.p3])
  first
    | (apply Lx.ka HO 7; (case hx => exact ⟨rfl, rfl, rfl⟩); (case hk => decide +kernel); (case hrun => intro w_; (go_simp <;> first | with_reducible rfl | exact ⟨rfl, rfl⟩)); simp only [Act.put, Lx.p1, Lx.p2, Lx.p3])
  intro g hg_ hfr
  (repeat (first | (rw [Lx.St.add_M] at hfr) | (replace hfr := Lx.St.fresh_upd hfr; have n_ := hfr.1; replace hfr := hfr.2))); clear hfr
  first
    | (apply Lx.ksG HO 8 (g := g); (case hx => exact ⟨rfl, rfl, rfl⟩); (case hk => decide +kernel); (case hg => (repeat (first | exact Lx.ua _ _ _ | rw [Lx.un _ _ (by omega)] | rw [Lx.am]))); (case hG => exact fun _ _ h_ hg_ ho_ => ⟨trivial, (Lx.m0 (Lx.mU h_.more)).only hg_ (by decide) ho_⟩); (case hrun => intro w_ hw_ hb_; obtain ⟨c0, c1⟩ := Lx.cells2 hb_; obtain ⟨d0, d1⟩ := Lx.froz2 hb_; refine ⟨?_, ?_, ?_, ?_⟩; rotate_left; (next => (go_simp <;> first | with_reducible rfl | rfl)); (next => (repeat (first | (with_reducible exact Lx.OnlyAt.refl _ _) | (with_reducible refine Lx.OnlyAt.set ?_ _ _)))); (next => (first | with_reducible exact Lx.sets10 hb_ | with_reducible exact Lx.sets5 hb_ | with_reducible exact Lx.sets3 hb_ | with_reducible exact Lx.sets2 hb_ | with_reducible exact Lx.sets4 hb_ | (simp [World.setCell, Array.getElem?_modify, hb_] <;> rfl)))); simp only [Act.put, Lx.p1, Lx.p2, Lx.p3])
  first
    | (apply Lx.kp HO 9; (case hx => exact ⟨rfl, rfl, rfl⟩); (case hk => decide +kernel); (case hv => intro w_ hw_; (go_simp <;> first | with_reducible rfl | exact ⟨rfl, rfl⟩)); simp only [Act.put, Lx.p1, Lx.p2, Lx.p3])
  refine Lx.kd HO (by kernel_rfl) (fun hiv2 => hZ _ _ (fun W2 hw2 => ?_))
  clear hZ Z HO O
  have hB2 := hw2.below
  have hQ := hw2.holds (w.heap.size + 1) _ (by (repeat (first | exact Lx.ua _ _ _ | rw [Lx.un _ _ (by omega)] | rw [Lx.am])))
  have hE := hw2.holds (w.heap.size) _ (by (repeat (first | exact Lx.ua _ _ _ | rw [Lx.un _ _ (by omega)] | rw [Lx.am])))
  have hG := hw2.holds g _ (by (repeat (first | exact Lx.ua _ _ _ | rw [Lx.un _ _ (by omega)] | rw [Lx.am])))
  have hF := Lx.m0 (Lx.mU (Lx.mU hw2.more))
  have hHas := (show Ef.Has W2 (.slice A p.2.length c) p.2 from by obtain ⟨_, _, _, _, _, h⟩ := hF; exact h)
  clear hw2 hiv2 HIN hF
  have q0 : W2.cell? ⟨w.heap.size + 1, 0, none⟩ = some (.int .i64 0) := Ly.cellAt hQ 0 rfl
  have q1 := (Lx.froz2 hQ).1
  have hlt : w.heap.size + 1 < W2.heap.size := (Array.getElem?_eq_some_iff.1 hQ).1
  have hlt0 : w.heap.size < W2.heap.size := (Array.getElem?_eq_some_iff.1 hE).1
  have hgl : g < W2.heap.size := (Array.getElem?_eq_some_iff.1 hG).1
  have c0 : W2.cell? ⟨w.heap.size, 0, none⟩ = some (.int .i64 xa) := Ly.cellAt hE 0 rfl
  have hC : ∀ W, Below W2.heap.size W2 W → ∀ s, Calls Tryd.prog 56 #[.string s, .pointer (some ⟨g, 0, none⟩)] W fun e w' => e = .returned (.bool (hasS p.2 s)) ∧ Below W.heap.size W w' := fun W hb s =>
    check1_any (hHas.R.keep hb) (Below.at hb (Ly.cellAt hG 1 rfl) hgl) (Nat.lt_of_lt_of_le hgl hb.size) s
  have HC := Lib.hid hC
  have HE2 := Lib.hid hE
  have HQ2 := Lib.hid hQ
  have HB2 := Lib.hid hB2
  clear hC hHas hG hE hQ hB2
  by_cases ha : xa < 0
  · have d1 : decide (xa < 0) = true := decide_eq_true ha
    obtain rfl : rr = 2 := by rw [HE.out, decide_eq_false (by omega)]; rfl
    clear HE
    go_wp2
    have q2 := Lib.cell?_alloc_some (.cells #[.func (.func 56) #[] #[.pointer (some ⟨g, 0, none⟩)]] 101) (World.cell?_setCell_same' W2 ⟨w.heap.size + 1, 0, none⟩ (.int .i64 2) (by rw [q0]; rfl))
    refine ⟨.int .i64 2, by simp [results, Tryd.f17, go_sem] <;> rw [q2], rfl, ?_⟩
    (have hszq := HB2.out.size; (try simp only [World.size_alloc] at hszq); (repeat (first | (with_reducible refine Below.setCell ?_ (by first | (simp; done) | (simp; omega) | omega) _) | (with_reducible refine Below.alloc ?_ (by first | (simp; done) | (simp; omega) | omega) _) | (with_reducible refine Below.drew ?_))); refine Below.trans ?_ (HB2.out.mono (by first | (simp; done) | (simp; omega) | omega)); (repeat (first | with_reducible exact Below.refl _ _ | (with_reducible refine Below.setCell ?_ (by first | (simp; done) | (simp; omega) | omega) _) | (with_reducible refine Below.alloc ?_ (by first | (simp; done) | (simp; omega) | omega) _) | (with_reducible refine Below.drew ?_))))
  · have d1 : decide (xa < 0) = false := decide_eq_false ha
    go_wp2_with ((with_reducible refine (efields_any _ _).mono ?_); rintro e w' ⟨rfl, rfl⟩)
    clear d1
    obtain ⟨W3, hW3⟩ : ∃ W3, W3 = (W2.alloc (.cells #[.func (.func 56) #[] #[.pointer (some ⟨g, 0, none⟩)]] 101)).alloc (.cells #[.pointer (some ⟨w.heap.size, 0, none⟩)] 105) := ⟨_, rfl⟩
    rw [← hW3]
    have hs3 : W3.heap.size = W2.heap.size + 2 := by rw [hW3]; simp
    have hB3 : Below W2.heap.size W2 W3 := by rw [hW3]; (repeat (first | with_reducible exact Below.refl _ _ | (with_reducible refine Below.setCell ?_ (by first | (simp; done) | (simp; omega) | omega) _) | (with_reducible refine Below.alloc ?_ (by first | (simp; done) | (simp; omega) | omega) _) | (with_reducible refine Below.drew ?_)))
    have k5 : W3.cell? ⟨W2.heap.size, 0, none⟩ = some (.func (.func 56) #[] #[.pointer (some ⟨g, 0, none⟩)]) := by rw [hW3]; simp [go_sem]
    have kb : W3.cell? ⟨W2.heap.size + 1, 0, none⟩ = some (.pointer (some ⟨w.heap.size, 0, none⟩)) := by rw [hW3]; simp [go_sem]
    have hfl : ∀ q ∈ eFields0, W2.cell? ⟨w.heap.size, q.2, none⟩ = some (.int .i64 (X.fld q.2)) := by
      intro q hq
      rw [HX.out]
      simp only [eFields0, List.mem_cons, List.mem_nil_iff, or_false] at hq
      rcases hq with rfl | rfl | rfl | rfl | rfl | rfl
      · exact Ly.cellAt HE2.out 2 rfl
      · exact Ly.cellAt HE2.out 3 rfl
      · exact Ly.cellAt HE2.out 4 rfl
      · exact Ly.cellAt HE2.out 5 rfl
      · exact Ly.cellAt HE2.out 6 rfl
      · exact Ly.cellAt HE2.out 7 rfl
    have HFL := Lib.hid hfl
    have HB3 := Lib.hid hB3
    have HW3 := Lib.hid hW3
    have K5 := Lib.hid k5
    have KB := Lib.hid kb
    clear hfl hB3 hW3 k5 kb q0 q1 c0
    refine (wpIn_wide (n := n)).1 ?_
    refine wpIn_rangeFunc_ownF rfl h1 (gf := 110) (lb := #[.pointer (some ⟨W2.heap.size + 1, 0, none⟩)]) rfl trivial (enters_of Tryd.func110 (by kernel_rfl) rfl)
      (efields1_stops (n - 1) (by omega) (W2.heap.size + 1) w.heap.size (W2.heap.size + 2) W3 (by omega) (by omega) KB.out) belowK_t (belowK_b (by omega)) (Below.refl _ _) (fun _ => rfl)
      (fun pre W => (∀ y ∈ pre, fieldE xk p.2 y.1.1 (X.fld y.1.2) = true) ∧ Below (W2.heap.size + 2) W3 W)
      (fun e pre W => (e = .ret ∧ (∃ y ∈ pre, fieldE xk p.2 y.1.1 (X.fld y.1.2) = false) ∧ W.cell? ⟨w.heap.size + 1, 0, none⟩ = some (.int .i64 2)) ∧ Below w.heap.size w W)
      (OwnFrom.and (Own.from (fun s A B row hs hg hr => hs) _) (ownFrom_below (by omega) (by omega)))
      (fun e => OwnFrom.and (Own.from (fun s A B row hs hg hr => ⟨hs.1, hs.2.1, cell_kept hs.2.2 hg hr⟩) _) (ownFrom_below (Nat.le_refl _) (by omega)))
      ⟨by simp, Below.refl _ _⟩
      (fun y => { tmps := #[.agg #[.int .i64 xa, .int .u8 xk, .int .i64 x2, .int .i64 x3, .int .i64 x4, .int .i64 x5, .int .i64 x6, .int .i64 x7, .int .i64 x8, .int .i64 x9, .bool x10, .int .i64 x11, .int .u64 x12], .pointer (some ⟨w.heap.size, 0, none⟩), .pointer (some ⟨w.heap.size + 1, 0, none⟩), .pointer (some ⟨g, 0, none⟩), .bool true, .pointer (some ⟨W2.heap.size, 0, none⟩), .string y.1.1, .pointer (some ⟨w.heap.size, y.1.2, none⟩), undef, undef, undef, .tuple #[.agg #[.string p.1, .slice A p.2.length c], .bool true], .map (some r), .pointer (some ⟨w.heap.size, 1, none⟩), .int .u8 xk, .tuple #[.agg #[.string p.1, .slice A p.2.length c], .bool true], .agg #[.string p.1, .slice A p.2.length c], .bool true, .func (.func 56) #[] #[.pointer (some ⟨g, 0, none⟩)], .bool true, .bool false, .bool false, .pointer (some ⟨w.heap.size, 0, none⟩), .int .i64 xa, .bool false, .bool false, .func (.func 110) #[] #[.pointer (some ⟨W2.heap.size + 1, 0, none⟩)], .string y.1.1, .pointer (some ⟨w.heap.size, y.1.2, none⟩), undef, undef, undef, undef, undef, undef, undef, undef, undef, undef, undef, undef, undef, undef, undef, undef, undef, undef, undef, undef, undef, undef, undef, undef, undef, undef, undef, undef, undef, undef, undef, undef, undef, undef, undef, undef, undef, undef, undef, undef, undef, undef, undef, undef, undef, undef, undef, undef, undef, undef, undef, undef, undef, undef, undef, undef, undef, undef, undef, undef, undef, undef, undef, undef, undef, undef, undef, undef, undef, undef, undef, undef, undef, undef, undef, undef, undef, undef, undef, undef, undef, undef, undef, undef, undef, undef, undef, undef, undef, undef, undef], defers := [] })
      ?assign ?body ?done ?stop
    case assign =>
      intro l y W K hK
      gi_wp2
      exact hK
    case body =>
      rintro l pre y W ⟨hp, hB⟩ _
      obtain ⟨s, hs⟩ : ∃ s, s = y.1.1 := ⟨_, rfl⟩
      obtain ⟨j, hj⟩ : ∃ j, j = y.1.2 := ⟨_, rfl⟩
      rw [← hs, ← hj]
      have hBW : Below W2.heap.size W2 W := HB3.out.trans (hB.mono (by omega))
      have hQ' : W.heap[w.heap.size + 1]? = _ := (hBW.block _ hlt).trans HQ2.out
      have gk : W.cell? ⟨w.heap.size, 1, none⟩ = some (.int .u8 xk) := Below.at hBW (Ly.cellAt HE2.out 1 rfl) hlt0
      obtain ⟨v, hv⟩ : ∃ v, v = X.fld j := ⟨_, rfl⟩
      have gv : W.cell? ⟨w.heap.size, j, none⟩ = some (.int .i64 v) := by rw [hv, hj]; exact Below.at hBW (HFL.out _ y.2) hlt0
      have g5 := Below.at hB K5.out (by omega)
      have gq : W.cell? ⟨w.heap.size + 1, 0, none⟩ = some (.int .i64 0) := Ly.cellAt hQ' 0 rfl
      have gf := (Lx.froz2 hQ').1
      have hz : w.heap.size < W.heap.size := Nat.lt_of_lt_of_le hlt0 hBW.size
      have hx : w.heap.size + 1 < W.heap.size := Nat.lt_of_lt_of_le hlt hBW.size
      have hy : W2.heap.size < W.heap.size := by have := hB.size; omega
      have goOn : fieldE xk p.2 s v = true → ∀ y' ∈ pre ++ [y], fieldE xk p.2 y'.1.1 (X.fld y'.1.2) = true := fun h y' hy' => (List.mem_append.1 hy').elim (hp y') (fun e => by rw [List.mem_singleton.1 e, ← hs, ← hj, ← hv]; exact h)
      have stopOn : fieldE xk p.2 s v = false → ∃ y' ∈ pre ++ [y], fieldE xk p.2 y'.1.1 (X.fld y'.1.2) = false := fun h => ⟨y, by simp, by rw [← hs, ← hj, ← hv]; exact h⟩
      have HW := Lib.hid hBW
      have HBB := Lib.hid hB
      have HGO := Lib.hid goOn
      have HST := Lib.hid stopOn
      clear hp hB hBW hQ' hv goOn stopOn hs hj
      obtain ⟨lo, hlo⟩ : ∃ lo, lo = leastOf xk s := ⟨_, rfl⟩
      obtain ⟨hi, hhi⟩ : ∃ hi, hi = mostOf xk s := ⟨_, rfl⟩
      have hwi : ∀ w, Calls Tryd.prog 59 #[.int .u8 xk, .string s] w fun e w' => e = .returned (.tuple #[.int .i64 (leastOf xk s), .int .i64 (mostOf xk s)]) ∧ w = w' := fun w => (within_any xk s w).mono fun _ _ h => ⟨h.1, h.2.symm⟩
      rw [← hlo, ← hhi] at hwi
      have HWI := Lib.hid hwi
      have hF : fieldE xk p.2 s v = if hasS p.2 s = true then decide (lo ≤ v) && decide (v ≤ hi) else v == 0 := by rw [hlo, hhi]; rfl
      have HF := Lib.hid hF
      have hcs := fun W hb => HC.out W hb s
      clear hlo hhi hwi hF
      by_cases hh : hasS p.2 s = true
      · rw [hh] at hcs
        have HCS := Lib.hid hcs
        by_cases h2 : v < lo
        · have d1 : decide (v < lo) = true := decide_eq_true h2
          have hno : fieldE xk p.2 s v = false := by rw [HF.out, if_pos hh, decide_eq_false (by omega)]; rfl
          have HNO := Lib.hid (HST.out hno)
          clear hcs hh hno h2
          gi_wp2_with ((first | refine ⟨trivial, fun _ => by omega, ?_⟩ | refine ⟨trivial, ?_⟩); first
          | ((with_reducible refine (CallsIn.inRound l (wideE (HWI.out _) _)).mono ?_); rintro e w' ⟨rfl, rfl⟩)
          | ((with_reducible refine (CallsIn.inRound l (wideE (HCS.out _ (by first | exact HW1.out | exact HW.out)) _)).mono ?_); rintro e w' ⟨rfl, hb'⟩; (have gv1 := Below.at hb' (by first | exact gv1 | exact gv) (by first | exact hz1 | exact hz)); (have g51 := Below.at hb' (by first | exact g51 | exact g5) (by first | exact hy1 | exact hy)); (have gq1 := Below.at hb' (by first | exact gq1 | exact gq) (by first | exact hx1 | exact hx)); (have gf1 := (Below.frozen hb' (p := ⟨w.heap.size + 1, 0, none⟩) (by first | exact hx1 | exact hx)).trans (by first | exact gf1 | exact gf)); (have hz1 := Nat.lt_of_lt_of_le (by first | exact hz1 | exact hz) hb'.size); (have hy1 := Nat.lt_of_lt_of_le (by first | exact hy1 | exact hy) hb'.size); (have hx1 := Nat.lt_of_lt_of_le (by first | exact hx1 | exact hx) hb'.size); (have HW1 := Lib.hid ((by first | exact HW1.out | exact HW.out : Below W2.heap.size W2 _).trans (hb'.mono (by omega)))); (have HK1 := Lib.hid ((by first | exact HK1.out | exact Below.refl _ _ : Below W.heap.size W _).trans (hb'.mono (by first | exact HK1.out.size | exact Nat.le_refl _)))); clear hb'))
          refine ⟨fun _ h => (by cases h), ?_⟩
          gi_wp2
          exact ⟨(KeepsOthers.of_below HK1.out).trans (KeepsOthers.setCell _ _ _), ⟨rfl, HNO.out, World.cell?_setCell_same' _ _ _ (by rw [gq1]; rfl)⟩, (HB2.out.trans (HW1.out.mono (by omega))).setCell (p := ⟨w.heap.size + 1, 0, none⟩) (by simp) _⟩
        · by_cases h3 : hi < v
          · have d1 : decide (v < lo) = false := decide_eq_false h2
            have d2 : decide (v > hi) = true := decide_eq_true h3
            have d3 : decide (hi < v) = true := decide_eq_true h3
            have hno : fieldE xk p.2 s v = false := by rw [HF.out, if_pos hh, decide_eq_false (show ¬ v ≤ hi by omega), Bool.and_false]
            have HNO := Lib.hid (HST.out hno)
            clear hcs hh hno h2 h3
            gi_wp2_with ((first | refine ⟨trivial, fun _ => by omega, ?_⟩ | refine ⟨trivial, ?_⟩); first
          | ((with_reducible refine (CallsIn.inRound l (wideE (HWI.out _) _)).mono ?_); rintro e w' ⟨rfl, rfl⟩)
          | ((with_reducible refine (CallsIn.inRound l (wideE (HCS.out _ (by first | exact HW1.out | exact HW.out)) _)).mono ?_); rintro e w' ⟨rfl, hb'⟩; (have gv1 := Below.at hb' (by first | exact gv1 | exact gv) (by first | exact hz1 | exact hz)); (have g51 := Below.at hb' (by first | exact g51 | exact g5) (by first | exact hy1 | exact hy)); (have gq1 := Below.at hb' (by first | exact gq1 | exact gq) (by first | exact hx1 | exact hx)); (have gf1 := (Below.frozen hb' (p := ⟨w.heap.size + 1, 0, none⟩) (by first | exact hx1 | exact hx)).trans (by first | exact gf1 | exact gf)); (have hz1 := Nat.lt_of_lt_of_le (by first | exact hz1 | exact hz) hb'.size); (have hy1 := Nat.lt_of_lt_of_le (by first | exact hy1 | exact hy) hb'.size); (have hx1 := Nat.lt_of_lt_of_le (by first | exact hx1 | exact hx) hb'.size); (have HW1 := Lib.hid ((by first | exact HW1.out | exact HW.out : Below W2.heap.size W2 _).trans (hb'.mono (by omega)))); (have HK1 := Lib.hid ((by first | exact HK1.out | exact Below.refl _ _ : Below W.heap.size W _).trans (hb'.mono (by first | exact HK1.out.size | exact Nat.le_refl _)))); clear hb'))
            refine ⟨fun _ h => (by cases h), ?_⟩
            gi_wp2
            exact ⟨(KeepsOthers.of_below HK1.out).trans (KeepsOthers.setCell _ _ _), ⟨rfl, HNO.out, World.cell?_setCell_same' _ _ _ (by rw [gq1]; rfl)⟩, (HB2.out.trans (HW1.out.mono (by omega))).setCell (p := ⟨w.heap.size + 1, 0, none⟩) (by simp) _⟩
          · have d1 : decide (v < lo) = false := decide_eq_false h2
            have d2 : decide (v > hi) = false := decide_eq_false h3
            have d3 : decide (hi < v) = false := decide_eq_false h3
            have hyes : fieldE xk p.2 s v = true := by rw [HF.out, if_pos hh, decide_eq_true (show v ≤ hi by omega), decide_eq_true (show lo ≤ v by omega)]; rfl
            have HYES := Lib.hid (HGO.out hyes)
            clear hcs hh hyes h2 h3
            gi_wp2_with ((first | refine ⟨trivial, fun _ => by omega, ?_⟩ | refine ⟨trivial, ?_⟩); first
          | ((with_reducible refine (CallsIn.inRound l (wideE (HWI.out _) _)).mono ?_); rintro e w' ⟨rfl, rfl⟩)
          | ((with_reducible refine (CallsIn.inRound l (wideE (HCS.out _ (by first | exact HW1.out | exact HW.out)) _)).mono ?_); rintro e w' ⟨rfl, hb'⟩; (have gv1 := Below.at hb' (by first | exact gv1 | exact gv) (by first | exact hz1 | exact hz)); (have g51 := Below.at hb' (by first | exact g51 | exact g5) (by first | exact hy1 | exact hy)); (have gq1 := Below.at hb' (by first | exact gq1 | exact gq) (by first | exact hx1 | exact hx)); (have gf1 := (Below.frozen hb' (p := ⟨w.heap.size + 1, 0, none⟩) (by first | exact hx1 | exact hx)).trans (by first | exact gf1 | exact gf)); (have hz1 := Nat.lt_of_lt_of_le (by first | exact hz1 | exact hz) hb'.size); (have hy1 := Nat.lt_of_lt_of_le (by first | exact hy1 | exact hy) hb'.size); (have hx1 := Nat.lt_of_lt_of_le (by first | exact hx1 | exact hx) hb'.size); (have HW1 := Lib.hid ((by first | exact HW1.out | exact HW.out : Below W2.heap.size W2 _).trans (hb'.mono (by omega)))); (have HK1 := Lib.hid ((by first | exact HK1.out | exact Below.refl _ _ : Below W.heap.size W _).trans (hb'.mono (by first | exact HK1.out.size | exact Nat.le_refl _)))); clear hb'))
            exact ⟨KeepsOthers.of_below HK1.out, HK1.out.mono (by have := HBB.out.size; omega), HYES.out, HBB.out.trans (HK1.out.mono (by have := HBB.out.size; omega))⟩
      · have hh' := Bool.eq_false_iff.2 hh
        rw [hh'] at hcs
        have HCS := Lib.hid hcs
        by_cases h2 : v = 0
        · have d1 : (v != 0) = false := by simp [h2]
          have hyes : fieldE xk p.2 s v = true := by rw [HF.out, if_neg hh, h2]; rfl
          have HYES := Lib.hid (HGO.out hyes)
          clear hcs hh hh' hyes h2
          gi_wp2_with ((first | refine ⟨trivial, fun _ => by omega, ?_⟩ | refine ⟨trivial, ?_⟩); first
          | ((with_reducible refine (CallsIn.inRound l (wideE (HWI.out _) _)).mono ?_); rintro e w' ⟨rfl, rfl⟩)
          | ((with_reducible refine (CallsIn.inRound l (wideE (HCS.out _ (by first | exact HW1.out | exact HW.out)) _)).mono ?_); rintro e w' ⟨rfl, hb'⟩; (have gv1 := Below.at hb' (by first | exact gv1 | exact gv) (by first | exact hz1 | exact hz)); (have g51 := Below.at hb' (by first | exact g51 | exact g5) (by first | exact hy1 | exact hy)); (have gq1 := Below.at hb' (by first | exact gq1 | exact gq) (by first | exact hx1 | exact hx)); (have gf1 := (Below.frozen hb' (p := ⟨w.heap.size + 1, 0, none⟩) (by first | exact hx1 | exact hx)).trans (by first | exact gf1 | exact gf)); (have hz1 := Nat.lt_of_lt_of_le (by first | exact hz1 | exact hz) hb'.size); (have hy1 := Nat.lt_of_lt_of_le (by first | exact hy1 | exact hy) hb'.size); (have hx1 := Nat.lt_of_lt_of_le (by first | exact hx1 | exact hx) hb'.size); (have HW1 := Lib.hid ((by first | exact HW1.out | exact HW.out : Below W2.heap.size W2 _).trans (hb'.mono (by omega)))); (have HK1 := Lib.hid ((by first | exact HK1.out | exact Below.refl _ _ : Below W.heap.size W _).trans (hb'.mono (by first | exact HK1.out.size | exact Nat.le_refl _)))); clear hb'))
          exact ⟨KeepsOthers.of_below HK1.out, HK1.out.mono (by have := HBB.out.size; omega), HYES.out, HBB.out.trans (HK1.out.mono (by have := HBB.out.size; omega))⟩
        · have d1 : (v != 0) = true := by simp [h2]
          have hno : fieldE xk p.2 s v = false := by rw [HF.out, if_neg hh]; simp [h2]
          have HNO := Lib.hid (HST.out hno)
          clear hcs hh hh' hno h2
          gi_wp2_with ((first | refine ⟨trivial, fun _ => by omega, ?_⟩ | refine ⟨trivial, ?_⟩); first
          | ((with_reducible refine (CallsIn.inRound l (wideE (HWI.out _) _)).mono ?_); rintro e w' ⟨rfl, rfl⟩)
          | ((with_reducible refine (CallsIn.inRound l (wideE (HCS.out _ (by first | exact HW1.out | exact HW.out)) _)).mono ?_); rintro e w' ⟨rfl, hb'⟩; (have gv1 := Below.at hb' (by first | exact gv1 | exact gv) (by first | exact hz1 | exact hz)); (have g51 := Below.at hb' (by first | exact g51 | exact g5) (by first | exact hy1 | exact hy)); (have gq1 := Below.at hb' (by first | exact gq1 | exact gq) (by first | exact hx1 | exact hx)); (have gf1 := (Below.frozen hb' (p := ⟨w.heap.size + 1, 0, none⟩) (by first | exact hx1 | exact hx)).trans (by first | exact gf1 | exact gf)); (have hz1 := Nat.lt_of_lt_of_le (by first | exact hz1 | exact hz) hb'.size); (have hy1 := Nat.lt_of_lt_of_le (by first | exact hy1 | exact hy) hb'.size); (have hx1 := Nat.lt_of_lt_of_le (by first | exact hx1 | exact hx) hb'.size); (have HW1 := Lib.hid ((by first | exact HW1.out | exact HW.out : Below W2.heap.size W2 _).trans (hb'.mono (by omega)))); (have HK1 := Lib.hid ((by first | exact HK1.out | exact Below.refl _ _ : Below W.heap.size W _).trans (hb'.mono (by first | exact HK1.out.size | exact Nat.le_refl _)))); clear hb'))
          exact ⟨(KeepsOthers.of_below HK1.out).trans (KeepsOthers.setCell _ _ _), ⟨rfl, HNO.out, World.cell?_setCell_same' _ _ _ (by rw [gq1]; rfl)⟩, (HB2.out.trans (HW1.out.mono (by omega))).setCell (p := ⟨w.heap.size + 1, 0, none⟩) (by simp) _⟩
    case done =>
      rintro D ys W hD rfl ⟨hp, hB⟩ hK
      have hyes : fieldsE X p.2 = true := by
        rw [fieldsE, List.all_eq_true]
        intro y hy
        have := hp y hy
        rw [HX.out] at this ⊢
        exact this
      obtain ⟨b0, hb0⟩ : ∃ b, b = (decide (140 ≤ x11) && decide (x11 ≤ 143)) := ⟨_, rfl⟩
      obtain ⟨b1, hb1⟩ : ∃ b, b = (!hasS p.2 s_val && (x8 != 0)) := ⟨_, rfl⟩
      obtain ⟨b2, hb2⟩ : ∃ b, b = (!hasS p.2 s_val2 && (x9 != 0)) := ⟨_, rfl⟩
      obtain ⟨b3, hb3⟩ : ∃ b, b = (!hasS p.2 s_ok && x10) := ⟨_, rfl⟩
      obtain ⟨b4, hb4⟩ : ∃ b, b = (!hasS p.2 s_set && (x12 != 0)) := ⟨_, rfl⟩
      obtain ⟨b5, hb5⟩ : ∃ b, b = (hasS p.2 s_code && !b0) := ⟨_, rfl⟩
      obtain ⟨b6, hb6⟩ : ∃ b, b = (!hasS p.2 s_code && (x11 != 0)) := ⟨_, rfl⟩
      have hrr : rr = errOf (!b1 && (!b2 && (!b3 && (!b4 && (!b5 && !b6))))) := by
        rw [HE.out, hyes, decide_eq_true (show 0 ≤ xa by omega), Bool.true_and, Bool.true_and]
        congr 1
        have ht : tailE X p.2 = ((hasS p.2 s_val || x8 == 0) && ((hasS p.2 s_val2 || x9 == 0) && ((hasS p.2 s_ok || !x10) && ((hasS p.2 s_set || x12 == 0) && (if hasS p.2 s_code = true then decide (140 ≤ x11) && decide (x11 ≤ 143) else x11 == 0))))) := by rw [HX.out]; rfl
        rw [ht, ← hb0, hb1, hb2, hb3, hb4, hb5, hb6]
        cases hasS p.2 s_val <;> cases hasS p.2 s_val2 <;> cases hasS p.2 s_ok <;> cases hasS p.2 s_set <;> cases hasS p.2 s_code <;> simp [bne]
      have hall : ∀ wx, Below W.heap.size W wx → wx.cell? ⟨w.heap.size, 8, none⟩ = some (.int .i64 x8) ∧ wx.cell? ⟨w.heap.size, 9, none⟩ = some (.int .i64 x9) ∧ wx.cell? ⟨w.heap.size, 10, none⟩ = some (.bool x10) ∧ wx.cell? ⟨w.heap.size, 11, none⟩ = some (.int .i64 x11) ∧ wx.cell? ⟨w.heap.size, 12, none⟩ = some (.int .u64 x12) ∧
          wx.cell? ⟨W2.heap.size, 0, none⟩ = some (.func (.func 56) #[] #[.pointer (some ⟨g, 0, none⟩)]) ∧ wx.cell? ⟨w.heap.size + 1, 0, none⟩ = some (.int .i64 0) ∧ wx.frozen? ⟨w.heap.size + 1, 0, none⟩ = false ∧ wx.heap[D]? = some (.deferred (some [])) ∧ Below W2.heap.size W2 wx ∧ w.heap.size < wx.heap.size ∧ w.heap.size + 1 < wx.heap.size ∧ W2.heap.size < wx.heap.size := fun wx hx => by
        have h3 : Below (W2.heap.size + 2) W3 wx := hB.trans (hx.mono (by have := hB.size; omega))
        have h2 : Below W2.heap.size W2 wx := HB3.out.trans (h3.mono (by omega))
        have hEx : wx.heap[w.heap.size]? = _ := (h2.block _ hlt0).trans HE2.out
        have hQx : wx.heap[w.heap.size + 1]? = _ := (h2.block _ hlt).trans HQ2.out
        have := h3.size
        exact ⟨Ly.cellAt hEx 8 rfl, Ly.cellAt hEx 9 rfl, Ly.cellAt hEx 10 rfl, Ly.cellAt hEx 11 rfl, Ly.cellAt hEx 12 rfl, Below.at h3 K5.out (by omega), Ly.cellAt hQx 0 rfl, (Lx.froz2 hQx).1, (hx.block _ (Array.getElem?_eq_some_iff.1 hK).1).trans hK, h2, by omega, by omega, by omega⟩
      have HALL := Lib.hid hall
      have HRR := Lib.hid hrr
      have H0 := Lib.hid hb0
      have H1 := Lib.hid hb1
      have H2 := Lib.hid hb2
      have H3 := Lib.hid hb3
      have H4 := Lib.hid hb4
      have H5 := Lib.hid hb5
      have H6 := Lib.hid hb6
      have HB := Lib.hid (Below.refl W.heap.size W)
      obtain ⟨c8, c9, c10, c11, c12, k5, q0, q1, hKx, h2x, hl0, hl1, hl2⟩ := hall W (Below.refl _ _)
      have HKX := Lib.hid hKx
      have H2X := Lib.hid h2x
      clear hall hrr hb0 hb1 hb2 hb3 hb4 hb5 hb6 hp hB hK hyes hKx h2x
      gi_upto_region 11 with fail
      go_upto_region 11 with fail
      go_cut [10] from 65 to 119 (fun t wx => t = .bool b0 ∧ W = wx)
      case first =>
        by_cases h1 : 140 ≤ x11
        · have d1 : decide (x11 ≥ 140) = true := decide_eq_true h1
          have d2 : b0 = decide (x11 ≤ 143) := by rw [H0.out, decide_eq_true h1, Bool.true_and]
          have D2 := Lib.hid d2
          clear d2 h1
          go_wp2
          go_meet
          exact ⟨by rw [D2.out], rfl⟩
        · have d1 : decide (x11 ≥ 140) = false := decide_eq_false h1
          have d2 : b0 = false := by rw [H0.out, decide_eq_false h1, Bool.false_and]
          have D2 := Lib.hid d2
          clear d2 h1
          go_wp2
          go_meet
          exact ⟨by rw [D2.out], rfl⟩
      case rest =>
        obtain ⟨rfl, rfl⟩ := hcut
        go_upto_region 12 with fail
        go_cut [73] from 74 to 119 (fun t wx => t = .bool b1 ∧ Below W.heap.size W wx)
        case first =>
          have hcs := fun wx h => HC.out wx h s_val
          by_cases hv : hasS p.2 s_val = true
          · rw [hv] at hcs
            have HCS := Lib.hid hcs
            have HBV := Lib.hid (show b1 = false by rw [H1.out, hv]; rfl)
            clear hcs hv
            go_wp2_with ((with_reducible refine (HCS.out _ H2X.out).mono ?_); rintro e w' ⟨rfl, hb'⟩; (have HN := Lib.hid (HB.out.trans (hb'.mono (by exact HB.out.size)))); clear c8 c9 c10 c11 c12 k5 q0 q1 hl0 hl1 hl2; (obtain ⟨c8, c9, c10, c11, c12, k5, q0, q1, _, _, hl0, hl1, hl2⟩ := HALL.out _ HN.out); clear hb')
            go_meet
            exact ⟨by rw [HBV.out], by (have hszq := HN.out.size; (try simp only [World.size_alloc] at hszq); (repeat (first | (with_reducible refine Below.setCell ?_ (by first | (simp; done) | (simp; omega) | omega) _) | (with_reducible refine Below.alloc ?_ (by first | (simp; done) | (simp; omega) | omega) _) | (with_reducible refine Below.drew ?_))); refine Below.trans ?_ (HN.out.mono (by first | (simp; done) | (simp; omega) | omega)); (repeat (first | with_reducible exact Below.refl _ _ | (with_reducible refine Below.setCell ?_ (by first | (simp; done) | (simp; omega) | omega) _) | (with_reducible refine Below.alloc ?_ (by first | (simp; done) | (simp; omega) | omega) _) | (with_reducible refine Below.drew ?_))))⟩
          · have hv2 := Bool.eq_false_iff.2 hv
            rw [hv2] at hcs
            have HCS := Lib.hid hcs
            have HBV := Lib.hid (show b1 = (x8 != 0) by rw [H1.out, hv2]; rfl)
            clear hcs hv hv2
            go_wp2_with ((with_reducible refine (HCS.out _ H2X.out).mono ?_); rintro e w' ⟨rfl, hb'⟩; (have HN := Lib.hid (HB.out.trans (hb'.mono (by exact HB.out.size)))); clear c8 c9 c10 c11 c12 k5 q0 q1 hl0 hl1 hl2; (obtain ⟨c8, c9, c10, c11, c12, k5, q0, q1, _, _, hl0, hl1, hl2⟩ := HALL.out _ HN.out); clear hb')
            go_meet
            exact ⟨by rw [HBV.out], by (have hszq := HN.out.size; (try simp only [World.size_alloc] at hszq); (repeat (first | (with_reducible refine Below.setCell ?_ (by first | (simp; done) | (simp; omega) | omega) _) | (with_reducible refine Below.alloc ?_ (by first | (simp; done) | (simp; omega) | omega) _) | (with_reducible refine Below.drew ?_))); refine Below.trans ?_ (HN.out.mono (by first | (simp; done) | (simp; omega) | omega)); (repeat (first | with_reducible exact Below.refl _ _ | (with_reducible refine Below.setCell ?_ (by first | (simp; done) | (simp; omega) | omega) _) | (with_reducible refine Below.alloc ?_ (by first | (simp; done) | (simp; omega) | omega) _) | (with_reducible refine Below.drew ?_))))⟩
        case rest =>
          obtain ⟨rfl, hbx⟩ := hcut
          clear c8 c9 c10 c11 c12 k5 q0 q1 hl0 hl1 hl2 HKX H2X HB
          have HB := Lib.hid hbx
          obtain ⟨c8, c9, c10, c11, c12, k5, q0, q1, hKx, h2x, hl0, hl1, hl2⟩ := HALL.out _ hbx
          have HKX := Lib.hid hKx
          have H2X := Lib.hid h2x
          clear hbx hKx h2x
          rcases Bool.eq_false_or_eq_true b1 with rfl | rfl
          · obtain rfl : rr = 2 := by rw [HRR.out]; simp [errOf]
            go_wp2
            exact chk_end n 2 (HB2.out.trans (H2X.out.mono (by omega))) (by omega) (by omega) HKX.out q0 rfl
          go_upto_region 13 with fail
          go_cut [73] from 74 to 119 (fun t wx => t = .bool b2 ∧ Below W.heap.size W wx)
          case first =>
            have hcs := fun wx h => HC.out wx h s_val2
            by_cases hv : hasS p.2 s_val2 = true
            · rw [hv] at hcs
              have HCS := Lib.hid hcs
              have HBV := Lib.hid (show b2 = false by rw [H2.out, hv]; rfl)
              clear hcs hv
              go_wp2_with ((with_reducible refine (HCS.out _ H2X.out).mono ?_); rintro e w' ⟨rfl, hb'⟩; (have HN := Lib.hid (HB.out.trans (hb'.mono (by exact HB.out.size)))); clear c8 c9 c10 c11 c12 k5 q0 q1 hl0 hl1 hl2; (obtain ⟨c8, c9, c10, c11, c12, k5, q0, q1, _, _, hl0, hl1, hl2⟩ := HALL.out _ HN.out); clear hb')
              go_meet
              exact ⟨by rw [HBV.out], by (have hszq := HN.out.size; (try simp only [World.size_alloc] at hszq); (repeat (first | (with_reducible refine Below.setCell ?_ (by first | (simp; done) | (simp; omega) | omega) _) | (with_reducible refine Below.alloc ?_ (by first | (simp; done) | (simp; omega) | omega) _) | (with_reducible refine Below.drew ?_))); refine Below.trans ?_ (HN.out.mono (by first | (simp; done) | (simp; omega) | omega)); (repeat (first | with_reducible exact Below.refl _ _ | (with_reducible refine Below.setCell ?_ (by first | (simp; done) | (simp; omega) | omega) _) | (with_reducible refine Below.alloc ?_ (by first | (simp; done) | (simp; omega) | omega) _) | (with_reducible refine Below.drew ?_))))⟩
            · have hv2 := Bool.eq_false_iff.2 hv
              rw [hv2] at hcs
              have HCS := Lib.hid hcs
              have HBV := Lib.hid (show b2 = (x9 != 0) by rw [H2.out, hv2]; rfl)
              clear hcs hv hv2
              go_wp2_with ((with_reducible refine (HCS.out _ H2X.out).mono ?_); rintro e w' ⟨rfl, hb'⟩; (have HN := Lib.hid (HB.out.trans (hb'.mono (by exact HB.out.size)))); clear c8 c9 c10 c11 c12 k5 q0 q1 hl0 hl1 hl2; (obtain ⟨c8, c9, c10, c11, c12, k5, q0, q1, _, _, hl0, hl1, hl2⟩ := HALL.out _ HN.out); clear hb')
              go_meet
              exact ⟨by rw [HBV.out], by (have hszq := HN.out.size; (try simp only [World.size_alloc] at hszq); (repeat (first | (with_reducible refine Below.setCell ?_ (by first | (simp; done) | (simp; omega) | omega) _) | (with_reducible refine Below.alloc ?_ (by first | (simp; done) | (simp; omega) | omega) _) | (with_reducible refine Below.drew ?_))); refine Below.trans ?_ (HN.out.mono (by first | (simp; done) | (simp; omega) | omega)); (repeat (first | with_reducible exact Below.refl _ _ | (with_reducible refine Below.setCell ?_ (by first | (simp; done) | (simp; omega) | omega) _) | (with_reducible refine Below.alloc ?_ (by first | (simp; done) | (simp; omega) | omega) _) | (with_reducible refine Below.drew ?_))))⟩
          case rest =>
            obtain ⟨rfl, hbx⟩ := hcut
            clear c8 c9 c10 c11 c12 k5 q0 q1 hl0 hl1 hl2 HKX H2X HB
            have HB := Lib.hid hbx
            obtain ⟨c8, c9, c10, c11, c12, k5, q0, q1, hKx, h2x, hl0, hl1, hl2⟩ := HALL.out _ hbx
            have HKX := Lib.hid hKx
            have H2X := Lib.hid h2x
            clear hbx hKx h2x
            rcases Bool.eq_false_or_eq_true b2 with rfl | rfl
            · obtain rfl : rr = 2 := by rw [HRR.out]; simp [errOf]
              go_wp2
              exact chk_end n 2 (HB2.out.trans (H2X.out.mono (by omega))) (by omega) (by omega) HKX.out q0 rfl
            go_upto_region 14 with fail
            go_cut [73] from 74 to 119 (fun t wx => t = .bool b3 ∧ Below W.heap.size W wx)
            case first =>
              have hcs := fun wx h => HC.out wx h s_ok
              by_cases hv : hasS p.2 s_ok = true
              · rw [hv] at hcs
                have HCS := Lib.hid hcs
                have HBV := Lib.hid (show b3 = false by rw [H3.out, hv]; rfl)
                clear hcs hv
                go_wp2_with ((with_reducible refine (HCS.out _ H2X.out).mono ?_); rintro e w' ⟨rfl, hb'⟩; (have HN := Lib.hid (HB.out.trans (hb'.mono (by exact HB.out.size)))); clear c8 c9 c10 c11 c12 k5 q0 q1 hl0 hl1 hl2; (obtain ⟨c8, c9, c10, c11, c12, k5, q0, q1, _, _, hl0, hl1, hl2⟩ := HALL.out _ HN.out); clear hb')
                go_meet
                exact ⟨by rw [HBV.out], by (have hszq := HN.out.size; (try simp only [World.size_alloc] at hszq); (repeat (first | (with_reducible refine Below.setCell ?_ (by first | (simp; done) | (simp; omega) | omega) _) | (with_reducible refine Below.alloc ?_ (by first | (simp; done) | (simp; omega) | omega) _) | (with_reducible refine Below.drew ?_))); refine Below.trans ?_ (HN.out.mono (by first | (simp; done) | (simp; omega) | omega)); (repeat (first | with_reducible exact Below.refl _ _ | (with_reducible refine Below.setCell ?_ (by first | (simp; done) | (simp; omega) | omega) _) | (with_reducible refine Below.alloc ?_ (by first | (simp; done) | (simp; omega) | omega) _) | (with_reducible refine Below.drew ?_))))⟩
              · have hv2 := Bool.eq_false_iff.2 hv
                rw [hv2] at hcs
                have HCS := Lib.hid hcs
                have HBV := Lib.hid (show b3 = x10 by rw [H3.out, hv2]; rfl)
                clear hcs hv hv2
                go_wp2_with ((with_reducible refine (HCS.out _ H2X.out).mono ?_); rintro e w' ⟨rfl, hb'⟩; (have HN := Lib.hid (HB.out.trans (hb'.mono (by exact HB.out.size)))); clear c8 c9 c10 c11 c12 k5 q0 q1 hl0 hl1 hl2; (obtain ⟨c8, c9, c10, c11, c12, k5, q0, q1, _, _, hl0, hl1, hl2⟩ := HALL.out _ HN.out); clear hb')
                go_meet
                exact ⟨by rw [HBV.out], by (have hszq := HN.out.size; (try simp only [World.size_alloc] at hszq); (repeat (first | (with_reducible refine Below.setCell ?_ (by first | (simp; done) | (simp; omega) | omega) _) | (with_reducible refine Below.alloc ?_ (by first | (simp; done) | (simp; omega) | omega) _) | (with_reducible refine Below.drew ?_))); refine Below.trans ?_ (HN.out.mono (by first | (simp; done) | (simp; omega) | omega)); (repeat (first | with_reducible exact Below.refl _ _ | (with_reducible refine Below.setCell ?_ (by first | (simp; done) | (simp; omega) | omega) _) | (with_reducible refine Below.alloc ?_ (by first | (simp; done) | (simp; omega) | omega) _) | (with_reducible refine Below.drew ?_))))⟩
            case rest =>
              obtain ⟨rfl, hbx⟩ := hcut
              clear c8 c9 c10 c11 c12 k5 q0 q1 hl0 hl1 hl2 HKX H2X HB
              have HB := Lib.hid hbx
              obtain ⟨c8, c9, c10, c11, c12, k5, q0, q1, hKx, h2x, hl0, hl1, hl2⟩ := HALL.out _ hbx
              have HKX := Lib.hid hKx
              have H2X := Lib.hid h2x
              clear hbx hKx h2x
              rcases Bool.eq_false_or_eq_true b3 with rfl | rfl
              · obtain rfl : rr = 2 := by rw [HRR.out]; simp [errOf]
                go_wp2
                exact chk_end n 2 (HB2.out.trans (H2X.out.mono (by omega))) (by omega) (by omega) HKX.out q0 rfl
              go_upto_region 15 with fail
              go_cut [73] from 74 to 119 (fun t wx => t = .bool b4 ∧ Below W.heap.size W wx)
              case first =>
                have hcs := fun wx h => HC.out wx h s_set
                by_cases hv : hasS p.2 s_set = true
                · rw [hv] at hcs
                  have HCS := Lib.hid hcs
                  have HBV := Lib.hid (show b4 = false by rw [H4.out, hv]; rfl)
                  clear hcs hv
                  go_wp2_with ((with_reducible refine (HCS.out _ H2X.out).mono ?_); rintro e w' ⟨rfl, hb'⟩; (have HN := Lib.hid (HB.out.trans (hb'.mono (by exact HB.out.size)))); clear c8 c9 c10 c11 c12 k5 q0 q1 hl0 hl1 hl2; (obtain ⟨c8, c9, c10, c11, c12, k5, q0, q1, _, _, hl0, hl1, hl2⟩ := HALL.out _ HN.out); clear hb')
                  go_meet
                  exact ⟨by rw [HBV.out], by (have hszq := HN.out.size; (try simp only [World.size_alloc] at hszq); (repeat (first | (with_reducible refine Below.setCell ?_ (by first | (simp; done) | (simp; omega) | omega) _) | (with_reducible refine Below.alloc ?_ (by first | (simp; done) | (simp; omega) | omega) _) | (with_reducible refine Below.drew ?_))); refine Below.trans ?_ (HN.out.mono (by first | (simp; done) | (simp; omega) | omega)); (repeat (first | with_reducible exact Below.refl _ _ | (with_reducible refine Below.setCell ?_ (by first | (simp; done) | (simp; omega) | omega) _) | (with_reducible refine Below.alloc ?_ (by first | (simp; done) | (simp; omega) | omega) _) | (with_reducible refine Below.drew ?_))))⟩
                · have hv2 := Bool.eq_false_iff.2 hv
                  rw [hv2] at hcs
                  have HCS := Lib.hid hcs
                  have HBV := Lib.hid (show b4 = (x12 != 0) by rw [H4.out, hv2]; rfl)
                  clear hcs hv hv2
                  go_wp2_with ((with_reducible refine (HCS.out _ H2X.out).mono ?_); rintro e w' ⟨rfl, hb'⟩; (have HN := Lib.hid (HB.out.trans (hb'.mono (by exact HB.out.size)))); clear c8 c9 c10 c11 c12 k5 q0 q1 hl0 hl1 hl2; (obtain ⟨c8, c9, c10, c11, c12, k5, q0, q1, _, _, hl0, hl1, hl2⟩ := HALL.out _ HN.out); clear hb')
                  go_meet
                  exact ⟨by rw [HBV.out], by (have hszq := HN.out.size; (try simp only [World.size_alloc] at hszq); (repeat (first | (with_reducible refine Below.setCell ?_ (by first | (simp; done) | (simp; omega) | omega) _) | (with_reducible refine Below.alloc ?_ (by first | (simp; done) | (simp; omega) | omega) _) | (with_reducible refine Below.drew ?_))); refine Below.trans ?_ (HN.out.mono (by first | (simp; done) | (simp; omega) | omega)); (repeat (first | with_reducible exact Below.refl _ _ | (with_reducible refine Below.setCell ?_ (by first | (simp; done) | (simp; omega) | omega) _) | (with_reducible refine Below.alloc ?_ (by first | (simp; done) | (simp; omega) | omega) _) | (with_reducible refine Below.drew ?_))))⟩
              case rest =>
                obtain ⟨rfl, hbx⟩ := hcut
                clear c8 c9 c10 c11 c12 k5 q0 q1 hl0 hl1 hl2 HKX H2X HB
                have HB := Lib.hid hbx
                obtain ⟨c8, c9, c10, c11, c12, k5, q0, q1, hKx, h2x, hl0, hl1, hl2⟩ := HALL.out _ hbx
                have HKX := Lib.hid hKx
                have H2X := Lib.hid h2x
                clear hbx hKx h2x
                rcases Bool.eq_false_or_eq_true b4 with rfl | rfl
                · obtain rfl : rr = 2 := by rw [HRR.out]; simp [errOf]
                  go_wp2
                  exact chk_end n 2 (HB2.out.trans (H2X.out.mono (by omega))) (by omega) (by omega) HKX.out q0 rfl
                go_upto_region 17 with fail
                go_cut [105] from 106 to 119 (fun t wx => t = .bool b5 ∧ Below W.heap.size W wx)
                case first =>
                  have hcs := fun wx h => HC.out wx h s_code
                  by_cases hv : hasS p.2 s_code = true
                  · rw [hv] at hcs
                    have HCS := Lib.hid hcs
                    have HBV := Lib.hid (show b5 = (!b0) by rw [H5.out, hv, Bool.true_and])
                    clear hcs hv
                    go_wp2_with ((with_reducible refine (HCS.out _ H2X.out).mono ?_); rintro e w' ⟨rfl, hb'⟩; (have HN := Lib.hid (HB.out.trans (hb'.mono (by exact HB.out.size)))); clear c8 c9 c10 c11 c12 k5 q0 q1 hl0 hl1 hl2; (obtain ⟨c8, c9, c10, c11, c12, k5, q0, q1, _, _, hl0, hl1, hl2⟩ := HALL.out _ HN.out); clear hb')
                    go_meet
                    exact ⟨by rw [HBV.out], by (have hszq := HN.out.size; (try simp only [World.size_alloc] at hszq); (repeat (first | (with_reducible refine Below.setCell ?_ (by first | (simp; done) | (simp; omega) | omega) _) | (with_reducible refine Below.alloc ?_ (by first | (simp; done) | (simp; omega) | omega) _) | (with_reducible refine Below.drew ?_))); refine Below.trans ?_ (HN.out.mono (by first | (simp; done) | (simp; omega) | omega)); (repeat (first | with_reducible exact Below.refl _ _ | (with_reducible refine Below.setCell ?_ (by first | (simp; done) | (simp; omega) | omega) _) | (with_reducible refine Below.alloc ?_ (by first | (simp; done) | (simp; omega) | omega) _) | (with_reducible refine Below.drew ?_))))⟩
                  · have hv2 := Bool.eq_false_iff.2 hv
                    rw [hv2] at hcs
                    have HCS := Lib.hid hcs
                    have HBV := Lib.hid (show b5 = false by rw [H5.out, hv2]; rfl)
                    clear hcs hv hv2
                    go_wp2_with ((with_reducible refine (HCS.out _ H2X.out).mono ?_); rintro e w' ⟨rfl, hb'⟩; (have HN := Lib.hid (HB.out.trans (hb'.mono (by exact HB.out.size)))); clear c8 c9 c10 c11 c12 k5 q0 q1 hl0 hl1 hl2; (obtain ⟨c8, c9, c10, c11, c12, k5, q0, q1, _, _, hl0, hl1, hl2⟩ := HALL.out _ HN.out); clear hb')
                    go_meet
                    exact ⟨by rw [HBV.out], by (have hszq := HN.out.size; (try simp only [World.size_alloc] at hszq); (repeat (first | (with_reducible refine Below.setCell ?_ (by first | (simp; done) | (simp; omega) | omega) _) | (with_reducible refine Below.alloc ?_ (by first | (simp; done) | (simp; omega) | omega) _) | (with_reducible refine Below.drew ?_))); refine Below.trans ?_ (HN.out.mono (by first | (simp; done) | (simp; omega) | omega)); (repeat (first | with_reducible exact Below.refl _ _ | (with_reducible refine Below.setCell ?_ (by first | (simp; done) | (simp; omega) | omega) _) | (with_reducible refine Below.alloc ?_ (by first | (simp; done) | (simp; omega) | omega) _) | (with_reducible refine Below.drew ?_))))⟩
                case rest =>
                  obtain ⟨rfl, hbx⟩ := hcut
                  clear c8 c9 c10 c11 c12 k5 q0 q1 hl0 hl1 hl2 HKX H2X HB
                  have HB := Lib.hid hbx
                  obtain ⟨c8, c9, c10, c11, c12, k5, q0, q1, hKx, h2x, hl0, hl1, hl2⟩ := HALL.out _ hbx
                  have HKX := Lib.hid hKx
                  have H2X := Lib.hid h2x
                  clear hbx hKx h2x
                  rcases Bool.eq_false_or_eq_true b5 with rfl | rfl
                  · obtain rfl : rr = 2 := by rw [HRR.out]; simp [errOf]
                    go_wp2
                    exact chk_end n 2 (HB2.out.trans (H2X.out.mono (by omega))) (by omega) (by omega) HKX.out q0 rfl
                  go_upto_region 18 with fail
                  go_cut [105] from 106 to 119 (fun t wx => t = .bool b6 ∧ Below W.heap.size W wx)
                  case first =>
                    have hcs := fun wx h => HC.out wx h s_code
                    by_cases hv : hasS p.2 s_code = true
                    · rw [hv] at hcs
                      have HCS := Lib.hid hcs
                      have HBV := Lib.hid (show b6 = false by rw [H6.out, hv]; rfl)
                      clear hcs hv
                      go_wp2_with ((with_reducible refine (HCS.out _ H2X.out).mono ?_); rintro e w' ⟨rfl, hb'⟩; (have HN := Lib.hid (HB.out.trans (hb'.mono (by exact HB.out.size)))); clear c8 c9 c10 c11 c12 k5 q0 q1 hl0 hl1 hl2; (obtain ⟨c8, c9, c10, c11, c12, k5, q0, q1, _, _, hl0, hl1, hl2⟩ := HALL.out _ HN.out); clear hb')
                      go_meet
                      exact ⟨by rw [HBV.out], by (have hszq := HN.out.size; (try simp only [World.size_alloc] at hszq); (repeat (first | (with_reducible refine Below.setCell ?_ (by first | (simp; done) | (simp; omega) | omega) _) | (with_reducible refine Below.alloc ?_ (by first | (simp; done) | (simp; omega) | omega) _) | (with_reducible refine Below.drew ?_))); refine Below.trans ?_ (HN.out.mono (by first | (simp; done) | (simp; omega) | omega)); (repeat (first | with_reducible exact Below.refl _ _ | (with_reducible refine Below.setCell ?_ (by first | (simp; done) | (simp; omega) | omega) _) | (with_reducible refine Below.alloc ?_ (by first | (simp; done) | (simp; omega) | omega) _) | (with_reducible refine Below.drew ?_))))⟩
                    · have hv2 := Bool.eq_false_iff.2 hv
                      rw [hv2] at hcs
                      have HCS := Lib.hid hcs
                      have HBV := Lib.hid (show b6 = (x11 != 0) by rw [H6.out, hv2]; rfl)
                      clear hcs hv hv2
                      go_wp2_with ((with_reducible refine (HCS.out _ H2X.out).mono ?_); rintro e w' ⟨rfl, hb'⟩; (have HN := Lib.hid (HB.out.trans (hb'.mono (by exact HB.out.size)))); clear c8 c9 c10 c11 c12 k5 q0 q1 hl0 hl1 hl2; (obtain ⟨c8, c9, c10, c11, c12, k5, q0, q1, _, _, hl0, hl1, hl2⟩ := HALL.out _ HN.out); clear hb')
                      go_meet
                      exact ⟨by rw [HBV.out], by (have hszq := HN.out.size; (try simp only [World.size_alloc] at hszq); (repeat (first | (with_reducible refine Below.setCell ?_ (by first | (simp; done) | (simp; omega) | omega) _) | (with_reducible refine Below.alloc ?_ (by first | (simp; done) | (simp; omega) | omega) _) | (with_reducible refine Below.drew ?_))); refine Below.trans ?_ (HN.out.mono (by first | (simp; done) | (simp; omega) | omega)); (repeat (first | with_reducible exact Below.refl _ _ | (with_reducible refine Below.setCell ?_ (by first | (simp; done) | (simp; omega) | omega) _) | (with_reducible refine Below.alloc ?_ (by first | (simp; done) | (simp; omega) | omega) _) | (with_reducible refine Below.drew ?_))))⟩
                  case rest =>
                    obtain ⟨rfl, hbx⟩ := hcut
                    clear c8 c9 c10 c11 c12 k5 q0 q1 hl0 hl1 hl2 HKX H2X HB
                    have HB := Lib.hid hbx
                    obtain ⟨c8, c9, c10, c11, c12, k5, q0, q1, hKx, h2x, hl0, hl1, hl2⟩ := HALL.out _ hbx
                    have HKX := Lib.hid hKx
                    have H2X := Lib.hid h2x
                    clear hbx hKx h2x
                    rcases Bool.eq_false_or_eq_true b6 with rfl | rfl
                    · obtain rfl : rr = 2 := by rw [HRR.out]; simp [errOf]
                      go_wp2
                      exact chk_end n 2 (HB2.out.trans (H2X.out.mono (by omega))) (by omega) (by omega) HKX.out q0 rfl
                    obtain rfl : rr = 0 := by rw [HRR.out]; rfl
                    go_wp2
                    exact chk_end n 0 (HB2.out.trans (H2X.out.mono (by omega))) (by omega) (by omega) HKX.out q0 rfl
    case stop =>
      rintro D e pre W hD hpre ⟨⟨rfl, ⟨y, hy, hf⟩, hcr⟩, hB⟩ hK
      have hno : fieldsE X p.2 = false := by
        rw [fieldsE, List.all_eq_false]
        exact ⟨y, hpre.subset hy, by rw [HX.out] at hf ⊢; simp [hf]⟩
      obtain rfl : rr = 2 := by rw [HE.out, hno]; simp [errOf]
      clear hno hf
      gi_wp2
      exact chk_end0 n 2 hB (by omega) (by omega) hK hcr rfl
/-- entry.Check. -/
theorem eCheck_any (x : EntV) (w : World) : Calls Tryd.prog 17 #[x.agg] w fun e w' => e = .returned (.int .i64 (errOf (entB x))) ∧ Below w.heap.size w w' := by
  cases hk : hasOf x.kind with
  | none =>
    have he : entB x = false := by rw [entB, hk]
    rw [he]
    exact eCheck_no x hk w
  | some p => exact callsIn_wide.1 (eCheck_yes 3 (by omega) x p hk w)
end Go.Proofs.YtljfloopjgpaeabDoor
