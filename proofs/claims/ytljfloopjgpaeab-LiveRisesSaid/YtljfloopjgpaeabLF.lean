/- live.lags, open; till behind a place. -/
import Derived.Test.YtljfloopjgpaeabLE
import Derived.Test.YtljfloopjgpaeabLD
namespace Go.Proofs.Ytljfloopjgpaeab
set_option linter.unusedVariables false
set_option linter.unusedSimpArgs false
open Go.RowKit Go.Shelf
attribute [local go_sem] Oper.semAt_some
set_option maxRecDepth 100000
/-- What begins, and what ends, a lag of a kind; m0, m3: the boxes of the two marks. -/
def fbV (k : Nat) : Value := match k with
  | 0 => .func (.func 47) #[] #[]
  | 1 => .func (.func 49) #[] #[]
  | 2 => .func (.func 51) #[] #[]
  | _ => .func (.func 53) #[] #[]
def feV (k m0 m3 : Nat) : Value := match k with
  | 0 => .func (.func 65) #[] #[.pointer (some ⟨m0, 0, none⟩)]
  | 1 => .func (.func 50) #[] #[]
  | 2 => .func (.func 52) #[] #[]
  | _ => .func (.func 65) #[] #[.pointer (some ⟨m3, 0, none⟩)]
theorem lopen_any (fb fe : Value) (A : Option Addr) (n c : Nat) (w : World) : Calls Try.prog 26 #[.agg #[fb, fe], .slice A n c] w fun e w' => e = .returned (.func (.func 54) #[] #[.pointer (some ⟨w.heap.size + 1, 0, none⟩), .pointer (some ⟨w.heap.size, 0, none⟩)]) ∧ w' = (w.alloc (.cells #[fb, fe] 64)).alloc (.cells #[.slice A n c] 22) := by
  have hmf : ∀ (fn : Fn) (first cap : Array Value) (w : World), (Instr.makeFunc fn first cap).run Try.prog w = .ok (.func fn first cap) w := fun _ _ _ _ => rfl
  go_enter Try.func26, Try.ntmps26
  go_wp2
  go_ret
  exact ⟨rfl, rfl⟩
def lagsO (m0 m3 : Nat) : Obj := .cells #[fbV 0, feV 0 m0 m3, fbV 1, feV 1 m0 m3, fbV 2, feV 2 m0 m3, fbV 3, feV 3 m0 m3] 64
set_option maxHeartbeats 1000000 in
theorem lags_any (w : World) : Calls Try.prog 24 #[] w fun e w' => e = .returned (.slice (some ⟨w.heap.size + 2, 0, none⟩) 4 4) ∧ w' = ((w.alloc (.cells #[.int .u8 21] 5)).alloc (.cells #[.int .u8 22] 5)).alloc (lagsO w.heap.size (w.heap.size + 1)) := by
  go_enter Try.func24, Try.ntmps24
  go_wp2_with (go_at_call 48; (with_reducible refine (mark_any _ _).mono ?_); rintro e w2 ⟨rfl, rfl⟩)
  go_ret
  exact ⟨rfl, rfl⟩
theorem till_K (k m0 m3 : Nat) (hk : k < 4) {w : World} {A : Option Addr} {n c : Nat} {l : List EntV} (hn : n = l.length) (h : kEnt.R w (.slice A n c) l) (fb : Value) (h0 : Boxed w m0 5 (.int .u8 21)) (h3 : Boxed w m3 5 (.int .u8 22)) (frm who fin : Int) (hb : ∀ x ∈ l, -4611686018427387904 ≤ x.at_ - frm ∧ x.at_ - frm ≤ 4611686018427387904) (he : -4611686018427387904 ≤ fin - frm ∧ fin - frm ≤ 4611686018427387904) :
    Calls Try.prog 25 #[.agg #[fb, feV k m0 m3], .int .i64 frm, .int .i64 who, .slice A n c, .int .i64 fin] w fun e w' => e = .returned (.int .i64 (tillV k l frm who fin)) ∧ Below w.heap.size w w' := by
  subst hn
  match k, hk with
  | 0, _ => exact till_m21 h fb h0.lt h0.cell frm who fin hb he
  | 1, _ => exact till_done h fb h0.lt h0.cell frm who fin hb he
  | 2, _ => exact till_free h fb h0.lt h0.cell frm who fin hb he
  | 3, _ => exact till_m22 h fb h3.lt h3.cell frm who fin hb he
end Go.Proofs.Ytljfloopjgpaeab
