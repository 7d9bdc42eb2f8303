/- tollbar/log: the entries from behind on; commits; the closures. -/
import Derived.RangeFuncBox
import Derived.Maps.AppendAt
import Derived.LoopTactic
import Derived.Deep.QuietTactic
import Derived.BigQuiet
import Derived.WalkLawsBesides
import Derived.WalkSpells
import Derived.Lib.Hide
import Derived.IntWalk
import Derived.Test.YtljfloopjgpaeabRX
import Derived.Test.YtljfloopjgpaeabER
import Derived.Test.YtljfloopjgpaeabEK
namespace Go.Proofs.Ytljfloopjgpaeab
set_option linter.unusedVariables false
set_option linter.unusedSimpArgs false
open Go.RowKit Go.Shelf
attribute [local go_sem] Oper.semAt_some
set_option maxRecDepth 100000
abbrev bkEnc (p : Nat × EntV) : Array Value := #[.int .i64 p.1, p.2.agg]
/-- The places of a row from behind on, down to k. -/
def backL (l : List EntV) (k : Nat) : List (Nat × EntV) := ((List.range l.length).drop k).reverse.map fun i => (i, l.getD i default)
theorem backL_top (l : List EntV) : backL l l.length = [] := by simp [backL]
theorem backL_step {l : List EntV} {k : Nat} (h : k < l.length) : backL l k = backL l (k + 1) ++ [(k, l[k])] := by
  unfold backL
  rw [List.drop_eq_getElem_cons (show k < (List.range l.length).length by simpa using h), List.reverse_cons, List.map_append]
  simp [List.getD_eq_getElem?_getD, h]
/-- A log: its block, its row. -/
def LogAt (w : World) (p : Nat) (v : Value) (l : List EntV) : Prop := w.heap[p]? = some (.cells #[v] 76) ∧ kEnt.R w v l
theorem LogAt.lt {w : World} {p : Nat} {v : Value} {l : List EntV} (h : LogAt w p v l) : p < w.heap.size := (Array.getElem?_eq_some_iff.1 h.1).1
theorem LogAt.keep {w w' : World} {p : Nat} {v : Value} {l : List EntV} (h : LogAt w p v l) (hb : Below w.heap.size w w') : LogAt w' p v l := ⟨(hb.block _ h.lt).trans h.1, h.2.keep hb⟩

set_option maxHeartbeats 4000000 in
theorem back_seq (n p : Nat) (hn1 : 1 ≤ n) {v : Value} {l : List EntV} (W0 w : World) (h : LogAt W0 p v l) (hw : Below W0.heap.size W0 w) :
    SeqXb n Try.prog 55 #[.pointer (some ⟨p, 0, none⟩)] #[] bkEnc Eq (Below W0.heap.size) (· = backL l 0) (fun _ => True) (fun pre x => ∃ k, ∃ h : k < l.length, pre = backL l (k + 1) ∧ x = (k, l[k])) (fun _ => True) w := fun l' J Jx W hW _ _ _ hY h0 => by
  have hWW : Below W0.heap.size W0 W := hw.trans (hW.mono hw.size)
  obtain ⟨A, c, rfl, _, _, hl⟩ := h.2.val
  have HL := Lib.hid h
  have HW := Lib.hid hWW
  have hc0 : W.cell? ⟨p, 0, none⟩ = some (.slice A l.length c) := Ly.cellAt (h.keep hWW).1 0 rfl
  have e1 : IntKind.i64.wrap ((l.length : Int) - 1) = (l.length : Int) - 1 := IntWalk.i64_in _ (by omega)
  have HY := Lib.hid hY
  clear h hWW hY hW
  refine callsIn_of_wp Try.func55 rfl trivial ?_ rfl
  simp only [Try.ntmps55, List.size_toArray, List.length_cons, List.length_nil, Nat.reduceAdd, Nat.reduceSub, Array.replicate_succ, Array.replicate_zero, List.push_toArray, List.append_toArray, List.nil_append, List.cons_append]
  gi_wp2
  gi_loopw [4] (fun i wr => ∃ k : Nat, k ≤ l.length ∧ i = .int .i64 ((k : Int) - 1) ∧ J (backL l k) wr ∧ Below W0.heap.size W0 wr) (fun i _ => (intOf i + 1).toNat)
  case atStart => exact ⟨l.length, Nat.le_refl _, rfl, by rw [backL_top]; exact h0, HW.out⟩
  case round =>
    obtain ⟨k, hk, rfl, hj, hbl⟩ := hrel
    cases k with
    | zero =>
      have HJ := Lib.hid hj
      clear hj
      gi_wp2
      go_end0
      exact ⟨⟨_, rfl⟩, .inl ⟨_, rfl, HJ.out⟩⟩
    | succ k =>
      have hlt : k < l.length := hk
      obtain ⟨b, o, rfl, hbb, g0, g1, g2, g3, g4, g5, g6, g7, g8, g9, g10, g11, g12⟩ := kEnt_at (HL.out.2.keep hbl) hlt
      have c0 : wr.cell? ⟨p, 0, none⟩ = some (.slice (some ⟨b, o, none⟩) l.length c) := Ly.cellAt (HL.out.keep hbl).1 0 rfl
      rw [show (((k + 1 : Nat) : Int) - 1) = (k : Int) by omega]
      obtain ⟨e0, e2⟩ : decide ((k : Int) ≥ 0) = true ∧ IntKind.i64.wrap ((k : Int) - 1) = (k : Int) - 1 := ⟨by simp, IntWalk.i64_in _ (by omega)⟩
      obtain ⟨fn, tmps, assign, body, hy, hR⟩ := HY.out (backL l (k + 1)) (k, l[k]) wr hj ⟨k, hlt, rfl, rfl⟩
      dsimp only [bkEnc, EntV.agg] at hy
      have HBL := Lib.hid hbl
      have HR := Lib.hid hR
      clear hbl hj hR
      gi_wp2
      refine HR.out.mono ?_
      rintro e W3 (⟨rfl, hJ3, hk3⟩ | ⟨rfl, hJx3⟩)
      · gi_wp2
        go_roundw
        case rel => exact ⟨k, by omega, rfl, by rw [backL_step hlt]; exact hJ3, HBL.out.trans hk3⟩
        case measure => simp [intOf]
      · gi_wp2
        refine bodyPost_ret (results_none rfl _ _ _) rfl ?_
        exact ⟨⟨_, rfl⟩, .inr ⟨_, trivial, hJx3⟩⟩
end Go.Proofs.Ytljfloopjgpaeab
