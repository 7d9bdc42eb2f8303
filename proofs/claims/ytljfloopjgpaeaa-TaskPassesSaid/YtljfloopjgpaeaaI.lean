/- prog.Check: its deferred closure, and itself. -/
import Derived.Recover
import Derived.RegionTactic
import Derived.BigRegion
import Derived.Laws.EntriesVeiled
import Derived.Test.YtljfloopjgpaeaaH
namespace Go.Proofs.Ytljfloopjgpaeaa
set_option linter.unusedVariables false
set_option linter.unusedSimpArgs false
open Go.RowKit
set_option maxRecDepth 100000

theorem check1_idle (p q r : Addr) (w : World) :
    CallsD Try.prog 56 #[.pointer (some p), .pointer (some q), .pointer (some r)] .returning w fun e u' w' => e = .returned (.tuple #[]) ∧ u' = .returning ∧ w' = w := by
  refine callsD_of_wpS Try.func56 rfl fun c₀ cs hu => ?_
  apply wpS_seq
  apply wpS_region
  simp [wpOpsS, go_sem, recoverD, hu, Try.ntmps56, Exit.thenS]
  refine wpS_of_wp ?_
  simp only [Array.replicate_succ, Array.replicate_zero, List.push_toArray, List.append_toArray, List.nil_append, List.cons_append, List.setIfInBounds_toArray, List.set_cons_zero, List.set_cons_succ]
  go_wp2
  cases c₀
  simp_all [bodyPostS, results, Try.results56]

set_option maxHeartbeats 1000000 in
theorem check1_panic (m : Nat) (x y z : Int) (k pc e : Int) (w : World) (hm : m + 1 + 1 < w.heap.size)
    (h1 : w.heap[m]? = some (.cells #[.int .i64 x] 3 (0, 0))) (h2 : w.heap[m + 1]? = some (.cells #[.int .i64 y] 3 (0, 0))) (h3 : w.heap[m + 1 + 1]? = some (.cells #[.int .i64 z] 28 (0, 0))) :
    CallsD Try.prog 56 #[.pointer (some ⟨m, 0, none⟩), .pointer (some ⟨m + 1, 0, none⟩), .pointer (some ⟨m + 1 + 1, 0, none⟩)] (.panicking ({ v := wrongV k pc e, recovered := false } :: [])) w fun e' u' w' =>
      e' = .returned (.tuple #[]) ∧ u' = .panicking ({ v := wrongV k pc e, recovered := true } :: []) ∧
      w'.cell? ⟨m, 0, none⟩ = some (.int .i64 k) ∧ w'.cell? ⟨m + 1, 0, none⟩ = some (.int .i64 pc) ∧ w'.cell? ⟨m + 1 + 1, 0, none⟩ = some (.int .i64 e) ∧ Below m w w' := by
  refine callsD_of_wpS Try.func56 rfl fun c₀ cs hu => ?_
  apply wpS_seq
  apply wpS_region
  simp [wpOpsS, go_sem, recoverD, hu, Try.ntmps56, Exit.thenS, wrongV]
  refine wpS_of_wp ?_
  simp only [Array.replicate_succ, Array.replicate_zero, List.push_toArray, List.append_toArray, List.nil_append, List.cons_append, List.setIfInBounds_toArray, List.set_cons_zero, List.set_cons_succ]
  have hta : ∀ (v : Value) (W : World), (Instr.typeAssert (.iface 109 v) 20 109 true).run Try.prog W = .ok (.tuple #[v, .bool true]) W := fun v W => by rfl
  have k1 : w.cell? ⟨m, 0, none⟩ = some (.int .i64 x) := cell_of_one h1
  have k2 : w.cell? ⟨m + 1, 0, none⟩ = some (.int .i64 y) := cell_of_one h2
  have k3 : w.cell? ⟨m + 1 + 1, 0, none⟩ = some (.int .i64 z) := cell_of_one h3
  have f1 : w.frozen? ⟨m, 0, none⟩ = false := free_of_one h1
  have f2 : w.frozen? ⟨m + 1, 0, none⟩ = false := free_of_one h2
  have f3 : w.frozen? ⟨m + 1 + 1, 0, none⟩ = false := free_of_one h3
  clear h1 h2 h3
  go_wp2
  have hm0 : m < w.heap.size := by omega
  have hm1 : m + 1 < w.heap.size := by omega
  go_region
  all_goals go_wp2
  refine ⟨rfl, _, rfl, _, results_none rfl _ _ _, rfl, rfl, ?_, ?_, ?_, ?_⟩
  · go_simp
  · go_simp
  · go_simp
  · exact (((((Below.refl m w).setCell (p := ⟨m, 0, none⟩) (Nat.le_refl _) _).setCell (p := ⟨m + 1, 0, none⟩) (by simp) _).setCell (p := ⟨m + 1 + 1, 0, none⟩) (by simp; omega) _).alloc (by simp; omega) _).drew

theorem alloc_heap? (w : World) (o : Obj) (k : Nat) : (w.alloc o).heap[k]? = if k = w.heap.size then some o else w.heap[k]? := by
  show (w.heap.push o)[k]? = _
  rw [Array.getElem?_push]
/-- The first k looks found nothing. -/
def Passed (P : ProgV) (k : Nat) : Prop := (1 ≤ k → chansW P = none) ∧ (2 ≤ k → sitesW P = none) ∧ (3 ≤ k → codesW P = none) ∧ (4 ≤ k → endsW P = none)
def checkW (P : ProgV) : Int × Int × Int := ((chansW P).or ((sitesW P).or ((codesW P).or (endsW P)))).getD (0, 0, 0)
def tripV (x : Int × Int × Int) : Value := .tuple #[.int .i64 x.1, .int .i64 x.2.1, .int .i64 x.2.2]

theorem codesW_ne {P : ProgV} (h : codesW P = none) : ∀ l ∈ P.codes, l ≠ [] := by
  unfold codesW at h
  split at h
  · rename_i hn
    simp only [Option.map_eq_none_iff, List.findIdx?_eq_none_iff] at h
    intro l hl he
    have := h l hl
    subst he
    simp [codeP, codeBad] at this
  · cases h

theorem endW_none : endW none = .returned (.tuple #[]) := rfl
theorem endW_some (x y z : Int) : endW (some (x, y, z)) = .panicked [{ v := wrongV x y z, recovered := false }] := rfl
/-- What lies ready where prog.Check's loop begins. -/
structure ChkW (W : World) (m : Nat) (p : Value) : Prop where
  size : W.heap.size = m + 6
  r0 : W.heap[m + 1]? = some (.cells #[.int .i64 0] 3 (0, 0))
  r1 : W.heap[m + 2]? = some (.cells #[.int .i64 0] 3 (0, 0))
  r2 : W.heap[m + 3]? = some (.cells #[.int .i64 0] 28 (0, 0))
  l0 : W.cell? ⟨m + 5, 0, none⟩ = some (.func (.func 57) #[p] #[])
  l1 : W.cell? ⟨m + 5, 1, none⟩ = some (.func (.func 58) #[p] #[])
  l2 : W.cell? ⟨m + 5, 2, none⟩ = some (.func (.func 59) #[p] #[])
  l3 : W.cell? ⟨m + 5, 3, none⟩ = some (.func (.func 60) #[p] #[])

set_option maxHeartbeats 4000000 in
theorem check_any (c1 c2 c3 : Value) (P : ProgV) (w : World) (h : RProg w c1 c2 c3 P) :
    Calls Try.prog 19 #[.agg #[c1, c2, c3]] w fun e w' => e = .returned (tripV (checkW P)) ∧ Below w.heap.size w w' := by
  have hmf : ∀ (fn : Fn) (first cap : Array Value) (w : World), (Instr.makeFunc fn first cap).run Try.prog w = .ok (.func fn first cap) w := fun _ _ _ _ => rfl
  obtain ⟨A1, n1, rfl, _, _, hl1⟩ := h.caps.val
  obtain ⟨A2, n2, rfl, _, _, hl2⟩ := h.codes.val
  obtain ⟨A3, n3, rfl, _, _, hl3⟩ := h.sites.val
  have HP := Lib.hid h
  clear h
  go_enter_defers Try.func19, Try.ntmps19
  go_wp2
  have hC : ChkW ((((((w.alloc (.cells #[.slice A1 P.caps.length n1, .slice A2 P.codes.length n2, .slice A3 P.sites.length n3] 44)).alloc (.cells #[.int .i64 0] 3)).alloc (.cells #[.int .i64 0] 3)).alloc (.cells #[.int .i64 0] 28)).alloc (.cells #[.slice A1 P.caps.length n1, .slice A2 P.codes.length n2, .slice A3 P.sites.length n3] 111)).alloc (.cells #[.func (.func 57) #[.agg #[.slice A1 P.caps.length n1, .slice A2 P.codes.length n2, .slice A3 P.sites.length n3]] #[], .func (.func 58) #[.agg #[.slice A1 P.caps.length n1, .slice A2 P.codes.length n2, .slice A3 P.sites.length n3]] #[], .func (.func 59) #[.agg #[.slice A1 P.caps.length n1, .slice A2 P.codes.length n2, .slice A3 P.sites.length n3]] #[], .func (.func 60) #[.agg #[.slice A1 P.caps.length n1, .slice A2 P.codes.length n2, .slice A3 P.sites.length n3]] #[]] 113)) w.heap.size (.agg #[.slice A1 P.caps.length n1, .slice A2 P.codes.length n2, .slice A3 P.sites.length n3]) := by
    refine ⟨by simp, ?_, ?_, ?_, ?_, ?_, ?_, ?_⟩
    · simp only [alloc_heap?, World.size_alloc]; simp
    · simp only [alloc_heap?, World.size_alloc]; simp
    · simp only [alloc_heap?, World.size_alloc]; simp
    all_goals simp [go_sem]
  have hB0 : Below w.heap.size w ((((((w.alloc (.cells #[.slice A1 P.caps.length n1, .slice A2 P.codes.length n2, .slice A3 P.sites.length n3] 44)).alloc (.cells #[.int .i64 0] 3)).alloc (.cells #[.int .i64 0] 3)).alloc (.cells #[.int .i64 0] 28)).alloc (.cells #[.slice A1 P.caps.length n1, .slice A2 P.codes.length n2, .slice A3 P.sites.length n3] 111)).alloc (.cells #[.func (.func 57) #[.agg #[.slice A1 P.caps.length n1, .slice A2 P.codes.length n2, .slice A3 P.sites.length n3]] #[], .func (.func 58) #[.agg #[.slice A1 P.caps.length n1, .slice A2 P.codes.length n2, .slice A3 P.sites.length n3]] #[], .func (.func 59) #[.agg #[.slice A1 P.caps.length n1, .slice A2 P.codes.length n2, .slice A3 P.sites.length n3]] #[], .func (.func 60) #[.agg #[.slice A1 P.caps.length n1, .slice A2 P.codes.length n2, .slice A3 P.sites.length n3]] #[]] 113)) := by (repeat (first | with_reducible exact Below.refl _ _ | (with_reducible refine Below.setCell ?_ (by first | (simp; done) | (simp; omega) | omega) _) | (with_reducible refine Below.alloc ?_ (by first | (simp; done) | (simp; omega) | omega) _) | (with_reducible refine Below.drew ?_)))
  generalize ((((((w.alloc (.cells #[.slice A1 P.caps.length n1, .slice A2 P.codes.length n2, .slice A3 P.sites.length n3] 44)).alloc (.cells #[.int .i64 0] 3)).alloc (.cells #[.int .i64 0] 3)).alloc (.cells #[.int .i64 0] 28)).alloc (.cells #[.slice A1 P.caps.length n1, .slice A2 P.codes.length n2, .slice A3 P.sites.length n3] 111)).alloc (.cells #[.func (.func 57) #[.agg #[.slice A1 P.caps.length n1, .slice A2 P.codes.length n2, .slice A3 P.sites.length n3]] #[], .func (.func 58) #[.agg #[.slice A1 P.caps.length n1, .slice A2 P.codes.length n2, .slice A3 P.sites.length n3]] #[], .func (.func 59) #[.agg #[.slice A1 P.caps.length n1, .slice A2 P.codes.length n2, .slice A3 P.sites.length n3]] #[], .func (.func 60) #[.agg #[.slice A1 P.caps.length n1, .slice A2 P.codes.length n2, .slice A3 P.sites.length n3]] #[]] 113)) = W0 at *
  have HC := Lib.hid hC
  have HB0 := Lib.hid hB0
  clear hC hB0
  go_loopw [25] (fun i wr => ∃ k : Nat, k ≤ 4 ∧ i = .int .i64 k ∧ Passed P k ∧ Below (w.heap.size + 6) W0 wr) (fun i _ => 4 - (intOf i).toNat)
  case atStart => exact ⟨0, by omega, rfl, ⟨by omega, by omega, by omega, by omega⟩, Below.refl _ _⟩
  case round =>
    obtain ⟨k, hk, rfl, hpass, hbl⟩ := hrel
    have HPS := Lib.hid hpass
    clear hpass
    have hszW := HC.out.size
    have hszr := hbl.size
    rw [hszW] at hszr
    have hB := HB0.out.trans (hbl.mono (by omega))
    have HPr := Lib.hid (HP.out.keep hB)
    have l0 := Below.at hbl HC.out.l0 (by omega)
    have l1 := Below.at hbl HC.out.l1 (by omega)
    have l2 := Below.at hbl HC.out.l2 (by omega)
    have l3 := Below.at hbl HC.out.l3 (by omega)
    have r0 := (hbl.block (w.heap.size + 1) (by omega)).trans HC.out.r0
    have r1 := (hbl.block (w.heap.size + 2) (by omega)).trans HC.out.r1
    have r2 := (hbl.block (w.heap.size + 3) (by omega)).trans HC.out.r2
    have R0 := Lib.hid r0
    have R1 := Lib.hid r1
    have R2 := Lib.hid r2
    have HB := Lib.hid hB
    have HBL := Lib.hid hbl
    clear r0 r1 r2 hB hbl hszW
    have hlt5 : w.heap.size + 5 < wr.heap.size := by omega
    obtain rfl | rfl | rfl | rfl | rfl : k = 0 ∨ k = 1 ∨ k = 2 ∨ k = 3 ∨ k = 4 := by omega
    · cases hres : chansW P with
      | none =>
        go_wp2_with ((with_reducible refine (chans_any _ _ _ P _ (HPr.out.keep (by (repeat (first | with_reducible exact Below.refl _ _ | (with_reducible refine Below.setCell ?_ (by first | (simp; done) | (simp; omega) | omega) _) | (with_reducible refine Below.alloc ?_ (by first | (simp; done) | (simp; omega) | omega) _) | (with_reducible refine Below.drew ?_))))) ).mono ?_); rw [hres, endW_none]; rintro e w' ⟨rfl, hb'⟩)
        go_roundw
        case rel => exact ⟨1, by omega, rfl, ⟨(fun _ => hres), (by omega), (by omega), (by omega)⟩, HBL.out.trans (Below.trans (by (repeat (first | with_reducible exact Below.refl _ _ | (with_reducible refine Below.setCell ?_ (by first | (simp; done) | (simp; omega) | omega) _) | (with_reducible refine Below.alloc ?_ (by first | (simp; done) | (simp; omega) | omega) _) | (with_reducible refine Below.drew ?_)))) (hb'.mono (by simp; omega)))⟩
        case measure => simp [intOf]
      | some x =>
        obtain ⟨x1, x2, x3⟩ := x
        go_wp2_with ((with_reducible refine (chans_any _ _ _ P _ (HPr.out.keep (by (repeat (first | with_reducible exact Below.refl _ _ | (with_reducible refine Below.setCell ?_ (by first | (simp; done) | (simp; omega) | omega) _) | (with_reducible refine Below.alloc ?_ (by first | (simp; done) | (simp; omega) | omega) _) | (with_reducible refine Below.drew ?_))))) ).mono ?_); rw [hres, endW_some]; rintro e w' ⟨rfl, hb'⟩)
        have hbw := Below.trans (show Below wr.heap.size wr _ from by (repeat (first | with_reducible exact Below.refl _ _ | (with_reducible refine Below.setCell ?_ (by first | (simp; done) | (simp; omega) | omega) _) | (with_reducible refine Below.alloc ?_ (by first | (simp; done) | (simp; omega) | omega) _) | (with_reducible refine Below.drew ?_)))) (hb'.mono (by simp))
        have hsw := hbw.size
        clear hmf l0 l1 l2 l3
        refine leaves_cons (f := 56) (args := #[.pointer (some ⟨w.heap.size + 1, 0, none⟩), .pointer (some ⟨w.heap.size + 1 + 1, 0, none⟩), .pointer (some ⟨w.heap.size + 1 + 1 + 1, 0, none⟩)]) (by simp) (by simp [go_sem]) ?_
        refine (check1_panic (w.heap.size + 1) 0 0 0 x1 x2 x3 _ (by omega) ((hbw.block _ (by omega)).trans R0.out) ((hbw.block _ (by omega)).trans R1.out) ((hbw.block _ (by omega)).trans R2.out)).mono ?_
        rintro e u' w'' ⟨rfl, rfl, hc1, hc2, hc3, hB⟩
        have hck : checkW P = (x1, x2, x3) := by simp [checkW, hres]
        have HCK := Lib.hid hck
        clear hck
        simp only [Leaves, settle]
        refine ⟨_, ?_, by rw [HCK.out], HB.out.trans ((hbw.mono (by omega)).trans (hB.mono (by omega)))⟩
        simp [results, Try.results19, go_sem, hc1, hc2, hc3, tripV]
    · cases hres : sitesW P with
      | none =>
        go_wp2_with ((with_reducible refine (sites_any _ _ _ P _ (HPr.out.keep (by (repeat (first | with_reducible exact Below.refl _ _ | (with_reducible refine Below.setCell ?_ (by first | (simp; done) | (simp; omega) | omega) _) | (with_reducible refine Below.alloc ?_ (by first | (simp; done) | (simp; omega) | omega) _) | (with_reducible refine Below.drew ?_))))) ).mono ?_); rw [hres, endW_none]; rintro e w' ⟨rfl, hb'⟩)
        go_roundw
        case rel => exact ⟨2, by omega, rfl, ⟨(fun _ => HPS.out.1 (by omega)), (fun _ => hres), (by omega), (by omega)⟩, HBL.out.trans (Below.trans (by (repeat (first | with_reducible exact Below.refl _ _ | (with_reducible refine Below.setCell ?_ (by first | (simp; done) | (simp; omega) | omega) _) | (with_reducible refine Below.alloc ?_ (by first | (simp; done) | (simp; omega) | omega) _) | (with_reducible refine Below.drew ?_)))) (hb'.mono (by simp; omega)))⟩
        case measure => simp [intOf]
      | some x =>
        obtain ⟨x1, x2, x3⟩ := x
        go_wp2_with ((with_reducible refine (sites_any _ _ _ P _ (HPr.out.keep (by (repeat (first | with_reducible exact Below.refl _ _ | (with_reducible refine Below.setCell ?_ (by first | (simp; done) | (simp; omega) | omega) _) | (with_reducible refine Below.alloc ?_ (by first | (simp; done) | (simp; omega) | omega) _) | (with_reducible refine Below.drew ?_))))) ).mono ?_); rw [hres, endW_some]; rintro e w' ⟨rfl, hb'⟩)
        have hbw := Below.trans (show Below wr.heap.size wr _ from by (repeat (first | with_reducible exact Below.refl _ _ | (with_reducible refine Below.setCell ?_ (by first | (simp; done) | (simp; omega) | omega) _) | (with_reducible refine Below.alloc ?_ (by first | (simp; done) | (simp; omega) | omega) _) | (with_reducible refine Below.drew ?_)))) (hb'.mono (by simp))
        have hsw := hbw.size
        clear hmf l0 l1 l2 l3
        refine leaves_cons (f := 56) (args := #[.pointer (some ⟨w.heap.size + 1, 0, none⟩), .pointer (some ⟨w.heap.size + 1 + 1, 0, none⟩), .pointer (some ⟨w.heap.size + 1 + 1 + 1, 0, none⟩)]) (by simp) (by simp [go_sem]) ?_
        refine (check1_panic (w.heap.size + 1) 0 0 0 x1 x2 x3 _ (by omega) ((hbw.block _ (by omega)).trans R0.out) ((hbw.block _ (by omega)).trans R1.out) ((hbw.block _ (by omega)).trans R2.out)).mono ?_
        rintro e u' w'' ⟨rfl, rfl, hc1, hc2, hc3, hB⟩
        have hck : checkW P = (x1, x2, x3) := by simp [checkW, hres, HPS.out.1 (by omega)]
        have HCK := Lib.hid hck
        clear hck
        simp only [Leaves, settle]
        refine ⟨_, ?_, by rw [HCK.out], HB.out.trans ((hbw.mono (by omega)).trans (hB.mono (by omega)))⟩
        simp [results, Try.results19, go_sem, hc1, hc2, hc3, tripV]
    · cases hres : codesW P with
      | none =>
        go_wp2_with ((with_reducible refine (codes_any _ _ _ P _ (HPr.out.keep (by (repeat (first | with_reducible exact Below.refl _ _ | (with_reducible refine Below.setCell ?_ (by first | (simp; done) | (simp; omega) | omega) _) | (with_reducible refine Below.alloc ?_ (by first | (simp; done) | (simp; omega) | omega) _) | (with_reducible refine Below.drew ?_))))) ).mono ?_); rw [hres, endW_none]; rintro e w' ⟨rfl, hb'⟩)
        go_roundw
        case rel => exact ⟨3, by omega, rfl, ⟨(fun _ => HPS.out.1 (by omega)), (fun _ => HPS.out.2.1 (by omega)), (fun _ => hres), (by omega)⟩, HBL.out.trans (Below.trans (by (repeat (first | with_reducible exact Below.refl _ _ | (with_reducible refine Below.setCell ?_ (by first | (simp; done) | (simp; omega) | omega) _) | (with_reducible refine Below.alloc ?_ (by first | (simp; done) | (simp; omega) | omega) _) | (with_reducible refine Below.drew ?_)))) (hb'.mono (by simp; omega)))⟩
        case measure => simp [intOf]
      | some x =>
        obtain ⟨x1, x2, x3⟩ := x
        go_wp2_with ((with_reducible refine (codes_any _ _ _ P _ (HPr.out.keep (by (repeat (first | with_reducible exact Below.refl _ _ | (with_reducible refine Below.setCell ?_ (by first | (simp; done) | (simp; omega) | omega) _) | (with_reducible refine Below.alloc ?_ (by first | (simp; done) | (simp; omega) | omega) _) | (with_reducible refine Below.drew ?_))))) ).mono ?_); rw [hres, endW_some]; rintro e w' ⟨rfl, hb'⟩)
        have hbw := Below.trans (show Below wr.heap.size wr _ from by (repeat (first | with_reducible exact Below.refl _ _ | (with_reducible refine Below.setCell ?_ (by first | (simp; done) | (simp; omega) | omega) _) | (with_reducible refine Below.alloc ?_ (by first | (simp; done) | (simp; omega) | omega) _) | (with_reducible refine Below.drew ?_)))) (hb'.mono (by simp))
        have hsw := hbw.size
        clear hmf l0 l1 l2 l3
        refine leaves_cons (f := 56) (args := #[.pointer (some ⟨w.heap.size + 1, 0, none⟩), .pointer (some ⟨w.heap.size + 1 + 1, 0, none⟩), .pointer (some ⟨w.heap.size + 1 + 1 + 1, 0, none⟩)]) (by simp) (by simp [go_sem]) ?_
        refine (check1_panic (w.heap.size + 1) 0 0 0 x1 x2 x3 _ (by omega) ((hbw.block _ (by omega)).trans R0.out) ((hbw.block _ (by omega)).trans R1.out) ((hbw.block _ (by omega)).trans R2.out)).mono ?_
        rintro e u' w'' ⟨rfl, rfl, hc1, hc2, hc3, hB⟩
        have hck : checkW P = (x1, x2, x3) := by simp [checkW, hres, HPS.out.1 (by omega), HPS.out.2.1 (by omega)]
        have HCK := Lib.hid hck
        clear hck
        simp only [Leaves, settle]
        refine ⟨_, ?_, by rw [HCK.out], HB.out.trans ((hbw.mono (by omega)).trans (hB.mono (by omega)))⟩
        simp [results, Try.results19, go_sem, hc1, hc2, hc3, tripV]
    · have HNE := Lib.hid (codesW_ne (HPS.out.2.2.1 (by omega)))
      cases hres : endsW P with
      | none =>
        go_wp2_with ((with_reducible refine (ends_any _ _ _ P _ (HPr.out.keep (by (repeat (first | with_reducible exact Below.refl _ _ | (with_reducible refine Below.setCell ?_ (by first | (simp; done) | (simp; omega) | omega) _) | (with_reducible refine Below.alloc ?_ (by first | (simp; done) | (simp; omega) | omega) _) | (with_reducible refine Below.drew ?_))))) HNE.out).mono ?_); rw [hres, endW_none]; rintro e w' ⟨rfl, hb'⟩)
        go_roundw
        case rel => exact ⟨4, by omega, rfl, ⟨(fun _ => HPS.out.1 (by omega)), (fun _ => HPS.out.2.1 (by omega)), (fun _ => HPS.out.2.2.1 (by omega)), (fun _ => hres)⟩, HBL.out.trans (Below.trans (by (repeat (first | with_reducible exact Below.refl _ _ | (with_reducible refine Below.setCell ?_ (by first | (simp; done) | (simp; omega) | omega) _) | (with_reducible refine Below.alloc ?_ (by first | (simp; done) | (simp; omega) | omega) _) | (with_reducible refine Below.drew ?_)))) (hb'.mono (by simp; omega)))⟩
        case measure => simp [intOf]
      | some x =>
        obtain ⟨x1, x2, x3⟩ := x
        go_wp2_with ((with_reducible refine (ends_any _ _ _ P _ (HPr.out.keep (by (repeat (first | with_reducible exact Below.refl _ _ | (with_reducible refine Below.setCell ?_ (by first | (simp; done) | (simp; omega) | omega) _) | (with_reducible refine Below.alloc ?_ (by first | (simp; done) | (simp; omega) | omega) _) | (with_reducible refine Below.drew ?_))))) HNE.out).mono ?_); rw [hres, endW_some]; rintro e w' ⟨rfl, hb'⟩)
        have hbw := Below.trans (show Below wr.heap.size wr _ from by (repeat (first | with_reducible exact Below.refl _ _ | (with_reducible refine Below.setCell ?_ (by first | (simp; done) | (simp; omega) | omega) _) | (with_reducible refine Below.alloc ?_ (by first | (simp; done) | (simp; omega) | omega) _) | (with_reducible refine Below.drew ?_)))) (hb'.mono (by simp))
        have hsw := hbw.size
        clear hmf l0 l1 l2 l3
        refine leaves_cons (f := 56) (args := #[.pointer (some ⟨w.heap.size + 1, 0, none⟩), .pointer (some ⟨w.heap.size + 1 + 1, 0, none⟩), .pointer (some ⟨w.heap.size + 1 + 1 + 1, 0, none⟩)]) (by simp) (by simp [go_sem]) ?_
        refine (check1_panic (w.heap.size + 1) 0 0 0 x1 x2 x3 _ (by omega) ((hbw.block _ (by omega)).trans R0.out) ((hbw.block _ (by omega)).trans R1.out) ((hbw.block _ (by omega)).trans R2.out)).mono ?_
        rintro e u' w'' ⟨rfl, rfl, hc1, hc2, hc3, hB⟩
        have hck : checkW P = (x1, x2, x3) := by simp [checkW, hres, HPS.out.1 (by omega), HPS.out.2.1 (by omega), HPS.out.2.2.1 (by omega)]
        have HCK := Lib.hid hck
        clear hck
        simp only [Leaves, settle]
        refine ⟨_, ?_, by rw [HCK.out], HB.out.trans ((hbw.mono (by omega)).trans (hB.mono (by omega)))⟩
        simp [results, Try.results19, go_sem, hc1, hc2, hc3, tripV]
    · have q1 : wr.cell? ⟨w.heap.size + 1, 0, none⟩ = some (.int .i64 0) := cell_of_one R0.out
      have q2 : wr.cell? ⟨w.heap.size + 1 + 1, 0, none⟩ = some (.int .i64 0) := cell_of_one R1.out
      have q3 : wr.cell? ⟨w.heap.size + 1 + 1 + 1, 0, none⟩ = some (.int .i64 0) := cell_of_one R2.out
      have f1 : wr.frozen? ⟨w.heap.size + 1, 0, none⟩ = false := free_of_one R0.out
      have f2 : wr.frozen? ⟨w.heap.size + 1 + 1, 0, none⟩ = false := free_of_one R1.out
      have f3 : wr.frozen? ⟨w.heap.size + 1 + 1 + 1, 0, none⟩ = false := free_of_one R2.out
      clear hmf l0 l1 l2 l3
      go_wp2
      refine leaves_cons (f := 56) (args := #[.pointer (some ⟨w.heap.size + 1, 0, none⟩), .pointer (some ⟨w.heap.size + 1 + 1, 0, none⟩), .pointer (some ⟨w.heap.size + 1 + 1 + 1, 0, none⟩)]) (by simp) (by simp [go_sem]) ?_
      refine (check1_idle _ _ _ _).mono ?_
      rintro e u' w'' ⟨rfl, rfl, rfl⟩
      have hck : checkW P = (0, 0, 0) := by simp [checkW, HPS.out.1 (by omega), HPS.out.2.1 (by omega), HPS.out.2.2.1 (by omega), HPS.out.2.2.2 (by omega)]
      have HCK := Lib.hid hck
      clear hck
      have hc1 : (((wr.setCell ⟨w.heap.size + 1, 0, none⟩ (.int .i64 0)).setCell ⟨w.heap.size + 1 + 1, 0, none⟩ (.int .i64 0)).setCell ⟨w.heap.size + 1 + 1 + 1, 0, none⟩ (.int .i64 0)).cell? ⟨w.heap.size + 1, 0, none⟩ = some (.int .i64 0) := by go_simp
      have hc2 : (((wr.setCell ⟨w.heap.size + 1, 0, none⟩ (.int .i64 0)).setCell ⟨w.heap.size + 1 + 1, 0, none⟩ (.int .i64 0)).setCell ⟨w.heap.size + 1 + 1 + 1, 0, none⟩ (.int .i64 0)).cell? ⟨w.heap.size + 1 + 1, 0, none⟩ = some (.int .i64 0) := by go_simp
      have hc3 : (((wr.setCell ⟨w.heap.size + 1, 0, none⟩ (.int .i64 0)).setCell ⟨w.heap.size + 1 + 1, 0, none⟩ (.int .i64 0)).setCell ⟨w.heap.size + 1 + 1 + 1, 0, none⟩ (.int .i64 0)).cell? ⟨w.heap.size + 1 + 1 + 1, 0, none⟩ = some (.int .i64 0) := by go_simp
      have hB3 : Below w.heap.size wr (((wr.setCell ⟨w.heap.size + 1, 0, none⟩ (.int .i64 0)).setCell ⟨w.heap.size + 1 + 1, 0, none⟩ (.int .i64 0)).setCell ⟨w.heap.size + 1 + 1 + 1, 0, none⟩ (.int .i64 0)) := (((Below.refl _ wr).setCell (p := ⟨w.heap.size + 1, 0, none⟩) (by simp) _).setCell (p := ⟨w.heap.size + 1 + 1, 0, none⟩) (by simp; omega) _).setCell (p := ⟨w.heap.size + 1 + 1 + 1, 0, none⟩) (by simp; omega) _
      simp only [Leaves, settle]
      refine ⟨_, ?_, by rw [HCK.out], HB.out.trans hB3⟩
      simp [results, Try.results19, go_sem, hc1, hc2, hc3, tripV]
end Go.Proofs.Ytljfloopjgpaeaa
