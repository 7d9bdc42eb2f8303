/- order.ready: the iterator; order.Pick. -/
import Derived.RangeFuncBox
import Derived.Maps.AppendAt
import Derived.Test.YtljfloopjgpaeaaSC
import Derived.Test.YtljfloopjgpaeaaR
namespace Go.Proofs.Ytljfloopjgpaeaa
set_option linter.unusedVariables false
set_option linter.unusedSimpArgs false
open Go.RowKit Go.Shelf
attribute [local go_sem] Oper.semAt_some
set_option maxRecDepth 100000
/-- Those of the first n that are ready. -/
def readyL (a : Nat → Int) (s : Int) (n : Nat) : List Int := ((List.range n).map a).filter (hasB s)
theorem readyL_hit (a : Nat → Int) (s : Int) (k : Nat) (h : hasB s (a k) = true) : readyL a s (k + 1) = readyL a s k ++ [a k] := by simp [readyL, List.range_succ, h]
theorem readyL_miss (a : Nat → Int) (s : Int) (k : Nat) (h : hasB s (a k) = false) : readyL a s (k + 1) = readyL a s k := by simp [readyL, List.range_succ, h]
/-- Only draws. -/
def Drawn (W W' : World) : Prop := ∃ q, W' = W.drewN q

set_option maxHeartbeats 2000000 in
theorem ready1_seq (n N b bo bs : Nat) (hn1 : 1 ≤ n) {a : Nat → Int} {m : Nat} {s : Int} (hm : m ≤ 6) (w : World) (hb : N ≤ w.heap.size) (hbN : b < N) (hboN : bo < N) (hbsN : bs < N) (h : OrdB w b a m) (ho : w.cell? ⟨bo, 0, none⟩ = some (.pointer (some ⟨b, 0, none⟩))) (hs : w.cell? ⟨bs, 0, none⟩ = some (.int .u64 s)) :
    SeqX n Try.prog 125 #[.pointer (some ⟨bo, 0, none⟩), .pointer (some ⟨bs, 0, none⟩)] (fun x : Int => #[.int .i64 x]) Drawn (Below N) (· = readyL a s m) (fun _ => True) (fun pre x => ∃ k, k < m ∧ pre = readyL a s k ∧ x = a k ∧ hasB s x = true) (fun _ => True) w := fun l J Jx W hW hJA _ _ hY h0 => by
  have hbl := hW.mono hb
  have ho' := Below.at hbl ho hboN
  have hs' := Below.at hbl hs hbsN
  have h' := h.keep hbl hbN
  have hrow := fun W' (hx : OrdB W' b a m) => callsIn_wide (n := n - 1) |>.2 (row_any hx hm)
  have HRW := Lib.hid hrow
  have hhas := fun (k : Int) (W : World) => callsIn_wide (n := n - 1) |>.2 (has_any s k W)
  have HH := Lib.hid hhas
  have HX := Lib.hid h'
  have hwW := hW.size
  have HJA := Lib.hid hJA
  have HY := Lib.hid hY
  have HJ0 := Lib.hid h0
  have hol : bo < W.heap.size := by omega
  have hsl : bs < W.heap.size := by omega
  clear h ho hs hrow hhas h' hJA hY h0 hW
  refine callsIn_of_wp Try.func125 rfl trivial ?_ rfl
  simp only [Try.ntmps125, List.size_toArray, List.length_cons, List.length_nil, Nat.reduceAdd, Nat.reduceSub, Array.replicate_succ, Array.replicate_zero, List.push_toArray, List.append_toArray, List.nil_append, List.cons_append]
  gi_wp2_with ((first | refine ⟨trivial, fun _ => by omega, ?_⟩ | refine ⟨trivial, ?_⟩); (with_reducible refine (HRW.out _ HX.out).mono ?_); rintro e w2 ⟨rfl, q, rfl⟩)
  have hst : J [] (W.drewN q) := HJA.out _ _ _ HJ0.out ⟨q, rfl⟩
  have HST := Lib.hid hst
  clear hst
  gi_loopw [5, 9] (fun _ i wr => ∃ k : Nat, k ≤ m ∧ i = .int .i64 k ∧ J (readyL a s k) wr ∧ Below N W wr) (fun _ i _ => m - (intOf i).toNat)
  case atStart => exact ⟨0, Nat.zero_le _, rfl, HST.out, below_drewN (Below.refl _ _) q⟩
  case round =>
    obtain ⟨k, hk, rfl, hj, hbk⟩ := hrel
    by_cases hlt : k < m
    · have hx := HX.out.keep hbk hbN
      have e0 : (0 : Int) ≤ (k : Int) := by omega
      have e1 : (k : Int) < (m : Int) := by omega
      have e2 : decide ((k : Int) < (m : Int)) = true := by simp; omega
      have hwr : IntKind.i64.wrap ((k : Int) + 1) = (k : Int) + 1 := IntWalk.i64_in _ (by omega)
      have hl := hx.lt
      have hc := hx.cell (i := k) (by omega)
      have hsk := Below.at hbk hs' hbsN
      have hszk := hbk.size
      have hskl : bs < wr.heap.size := by have := hbk.size; omega
      have HB := Lib.hid hbk
      cases hh : hasB s (a k)
      · have HHH := Lib.hid hh
        clear hbk
        gi_wp2_with ((first | refine ⟨trivial, fun _ => by omega, ?_⟩ | refine ⟨trivial, ?_⟩); (with_reducible refine (HH.out _ _).mono ?_); rintro e w3 ⟨rfl, rfl⟩)
        refine ⟨fun _ h => (by cases h), ?_⟩
        gi_wp2
        go_roundw
        case rel => exact ⟨k + 1, hlt, rfl, by rw [readyL_miss a s k HHH.out]; exact hj, HB.out⟩
        case measure => simp [intOf]; omega
      · have HHH := Lib.hid hh
        obtain ⟨fn, tmps, assign, body, hy, hR⟩ := HY.out (readyL a s k) (a k) wr hj ⟨k, hlt, rfl, rfl, hh⟩
        clear hbk
        gi_wp2_with ((first | refine ⟨trivial, fun _ => by omega, ?_⟩ | refine ⟨trivial, ?_⟩); (with_reducible refine (HH.out _ _).mono ?_); rintro e w3 ⟨rfl, rfl⟩)
        refine hR.mono ?_
        rintro e W3 (⟨rfl, hJ3, hk3⟩ | ⟨rfl, hJx3⟩)
        · gi_wp2
          go_roundw
          case rel => exact ⟨k + 1, hlt, rfl, by rw [readyL_hit a s k HHH.out]; exact hJ3, HB.out.trans hk3⟩
          case measure => simp [intOf]; omega
        · gi_wp2
          refine bodyPost_ret (results_none rfl _ _ _) rfl ?_
          exact ⟨⟨_, rfl⟩, .inr ⟨_, trivial, hJx3⟩⟩
    · obtain rfl : k = m := by omega
      have e2 : decide ((k : Int) < (k : Int)) = false := by simp
      gi_wp2
      go_end0
      exact ⟨⟨_, rfl⟩, .inl ⟨_, rfl, hj⟩⟩
end Go.Proofs.Ytljfloopjgpaeaa
