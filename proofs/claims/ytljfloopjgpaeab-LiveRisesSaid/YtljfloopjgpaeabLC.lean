/- live: where lags begin. -/
import Derived.Test.YtljfloopjgpaeabLB
namespace Go.Proofs.Ytljfloopjgpaeab
set_option linter.unusedVariables false
set_option linter.unusedSimpArgs false
open Go.RowKit
attribute [local go_sem] Oper.semAt_some
set_option maxRecDepth 100000
section
variable {w : World} {A : Option Addr} {n c : Nat} {l : List EntV} (h : kEnt.R w (.slice A l.length c) l) {i : Nat} (hi : i < l.length)
include h hi
set_option maxHeartbeats 2000000 in
theorem readied_any : Calls Try.prog 47 #[.slice A l.length c, .int .i64 i] w fun e w' => BegE (begB 0 l i) e ∧ Below w.heap.size w w' := by
  obtain ⟨b, o, rfl, hbl, g0, g1, g2, g3, g4, g5, g6, g7, g8, g9, g10, g11, g12⟩ := kEnt_at h hi; obtain ⟨x, hx⟩ : ∃ x, x = l[i] := ⟨_, rfl⟩; rw [← hx] at g0 g1 g2 g3 g4 g5 g6 g7 g8 g9 g10 g11 g12; have hd : l.getD i default = x := (by rw [hx]; simp [hi]); have e0 : (0 : Int) ≤ (i : Int) := (by omega); have e1 : (i : Int) < (l.length : Int) := (by omega); obtain ⟨at_, kind, worker, task, peer, ch, cs, pc, val, val2, ok, code, set⟩ := x; simp only at g0 g1 g2 g3 g4 g5 g6 g7 g8 g9 g10 g11 g12; clear hx h
  simp only [begB, hd]
  by_cases h1 : kind = 22
  · subst h1
    go_enter Try.func47, Try.ntmps47
    go_wp2; refine Ly.ret_of (by simp [results, Try.results47, go_sem] <;> (repeat' (first | rfl | apply And.intro))) rfl ⟨⟨_, true, rfl, fun _ => (by simp [readB]), fun h => (by cases h)⟩, by (repeat (first | with_reducible exact Below.refl _ _ | (with_reducible refine Below.setCell ?_ (by first | (simp; done) | (simp; omega) | omega) _) | (with_reducible refine Below.alloc ?_ (by first | (simp; done) | (simp; omega) | omega) _) | (with_reducible refine Below.drew ?_)))⟩
  · have h1' : (kind == 22) = false := by simpa using h1
    by_cases h2 : kind = 23
    · subst h2
      go_enter Try.func47, Try.ntmps47
      go_wp2; refine Ly.ret_of (by simp [results, Try.results47, go_sem] <;> (repeat' (first | rfl | apply And.intro))) rfl ⟨⟨_, true, rfl, fun _ => (by simp [readB]), fun h => (by cases h)⟩, by (repeat (first | with_reducible exact Below.refl _ _ | (with_reducible refine Below.setCell ?_ (by first | (simp; done) | (simp; omega) | omega) _) | (with_reducible refine Below.alloc ?_ (by first | (simp; done) | (simp; omega) | omega) _) | (with_reducible refine Below.drew ?_)))⟩
    · have h2' : (kind == 23) = false := by simpa using h2
      by_cases h3 : kind = 9
      · subst h3
        go_enter Try.func47, Try.ntmps47
        go_wp2; refine Ly.ret_of (by simp [results, Try.results47, go_sem] <;> (repeat' (first | rfl | apply And.intro))) rfl ⟨⟨_, true, rfl, fun _ => (by simp [readB]), fun h => (by cases h)⟩, by (repeat (first | with_reducible exact Below.refl _ _ | (with_reducible refine Below.setCell ?_ (by first | (simp; done) | (simp; omega) | omega) _) | (with_reducible refine Below.alloc ?_ (by first | (simp; done) | (simp; omega) | omega) _) | (with_reducible refine Below.drew ?_)))⟩
      · have h3' : (kind == 9) = false := by simpa using h3
        go_enter Try.func47, Try.ntmps47
        go_wp2; refine Ly.ret_of (by simp [results, Try.results47, go_sem] <;> (repeat' (first | rfl | apply And.intro))) rfl ⟨⟨_, false, rfl, fun h => (by cases h), fun _ => (by simp [readB, h1, h2, h3])⟩, by (repeat (first | with_reducible exact Below.refl _ _ | (with_reducible refine Below.setCell ?_ (by first | (simp; done) | (simp; omega) | omega) _) | (with_reducible refine Below.alloc ?_ (by first | (simp; done) | (simp; omega) | omega) _) | (with_reducible refine Below.drew ?_)))⟩
set_option maxHeartbeats 2000000 in
theorem woken_any : Calls Try.prog 53 #[.slice A l.length c, .int .i64 i] w fun e w' => BegE (begB 3 l i) e ∧ Below w.heap.size w w' := by
  obtain ⟨b, o, rfl, hbl, g0, g1, g2, g3, g4, g5, g6, g7, g8, g9, g10, g11, g12⟩ := kEnt_at h hi; obtain ⟨x, hx⟩ : ∃ x, x = l[i] := ⟨_, rfl⟩; rw [← hx] at g0 g1 g2 g3 g4 g5 g6 g7 g8 g9 g10 g11 g12; have hd : l.getD i default = x := (by rw [hx]; simp [hi]); have e0 : (0 : Int) ≤ (i : Int) := (by omega); have e1 : (i : Int) < (l.length : Int) := (by omega); obtain ⟨at_, kind, worker, task, peer, ch, cs, pc, val, val2, ok, code, set⟩ := x; simp only at g0 g1 g2 g3 g4 g5 g6 g7 g8 g9 g10 g11 g12; clear hx h
  simp only [begB, hd]
  by_cases h1 : kind = 3
  · subst h1
    go_enter Try.func53, Try.ntmps53
    go_wp2; refine Ly.ret_of (by simp [results, Try.results53, go_sem] <;> (repeat' (first | rfl | apply And.intro))) rfl ⟨⟨_, true, rfl, fun _ => (by simp [wokeB]), fun h => (by cases h)⟩, by (repeat (first | with_reducible exact Below.refl _ _ | (with_reducible refine Below.setCell ?_ (by first | (simp; done) | (simp; omega) | omega) _) | (with_reducible refine Below.alloc ?_ (by first | (simp; done) | (simp; omega) | omega) _) | (with_reducible refine Below.drew ?_)))⟩
  · have h1' : (kind == 3) = false := by simpa using h1
    by_cases h2 : kind = 4
    · subst h2
      go_enter Try.func53, Try.ntmps53
      go_wp2; refine Ly.ret_of (by simp [results, Try.results53, go_sem] <;> (repeat' (first | rfl | apply And.intro))) rfl ⟨⟨_, true, rfl, fun _ => (by simp [wokeB]), fun h => (by cases h)⟩, by (repeat (first | with_reducible exact Below.refl _ _ | (with_reducible refine Below.setCell ?_ (by first | (simp; done) | (simp; omega) | omega) _) | (with_reducible refine Below.alloc ?_ (by first | (simp; done) | (simp; omega) | omega) _) | (with_reducible refine Below.drew ?_)))⟩
    · have h2' : (kind == 4) = false := by simpa using h2
      by_cases h3 : kind = 6
      · subst h3
        go_enter Try.func53, Try.ntmps53
        go_wp2; refine Ly.ret_of (by simp [results, Try.results53, go_sem] <;> (repeat' (first | rfl | apply And.intro))) rfl ⟨⟨_, true, rfl, fun _ => (by simp [wokeB]), fun h => (by cases h)⟩, by (repeat (first | with_reducible exact Below.refl _ _ | (with_reducible refine Below.setCell ?_ (by first | (simp; done) | (simp; omega) | omega) _) | (with_reducible refine Below.alloc ?_ (by first | (simp; done) | (simp; omega) | omega) _) | (with_reducible refine Below.drew ?_)))⟩
      · have h3' : (kind == 6) = false := by simpa using h3
        go_enter Try.func53, Try.ntmps53
        go_wp2; refine Ly.ret_of (by simp [results, Try.results53, go_sem] <;> (repeat' (first | rfl | apply And.intro))) rfl ⟨⟨_, false, rfl, fun h => (by cases h), fun _ => (by simp [wokeB, h1, h2, h3])⟩, by (repeat (first | with_reducible exact Below.refl _ _ | (with_reducible refine Below.setCell ?_ (by first | (simp; done) | (simp; omega) | omega) _) | (with_reducible refine Below.alloc ?_ (by first | (simp; done) | (simp; omega) | omega) _) | (with_reducible refine Below.drew ?_)))⟩
set_option maxHeartbeats 2000000 in
theorem worked_any : Calls Try.prog 49 #[.slice A l.length c, .int .i64 i] w fun e w' => BegE (begB 1 l i) e ∧ Below w.heap.size w w' := by
  obtain ⟨b, o, rfl, hbl, g0, g1, g2, g3, g4, g5, g6, g7, g8, g9, g10, g11, g12⟩ := kEnt_at h hi; obtain ⟨x, hx⟩ : ∃ x, x = l[i] := ⟨_, rfl⟩; rw [← hx] at g0 g1 g2 g3 g4 g5 g6 g7 g8 g9 g10 g11 g12; have hd : l.getD i default = x := (by rw [hx]; simp [hi]); have e0 : (0 : Int) ≤ (i : Int) := (by omega); have e1 : (i : Int) < (l.length : Int) := (by omega); obtain ⟨at_, kind, worker, task, peer, ch, cs, pc, val, val2, ok, code, set⟩ := x; simp only at g0 g1 g2 g3 g4 g5 g6 g7 g8 g9 g10 g11 g12; clear hx h
  simp only [begB, hd]
  cases h1 : (kind == 21)
  · have h1' : kind ≠ 21 := by simpa using h1
    go_enter Try.func49, Try.ntmps49
    go_upto_region 1 with fail
    go_region
    all_goals go_wp2
    all_goals refine Ly.ret_of (by simp [results, Try.results49, go_sem] <;> (repeat' (first | rfl | apply And.intro))) rfl ⟨⟨_, false, rfl, fun h => (by cases h), fun _ => by simp [workB, h1']⟩, by (repeat (first | with_reducible exact Below.refl _ _ | (with_reducible refine Below.setCell ?_ (by first | (simp; done) | (simp; omega) | omega) _) | (with_reducible refine Below.alloc ?_ (by first | (simp; done) | (simp; omega) | omega) _) | (with_reducible refine Below.drew ?_)))⟩
  · have h1' : kind = 21 := by simpa using h1
    go_enter Try.func49, Try.ntmps49
    go_upto_region 1 with fail
    go_region
    all_goals go_wp2
    all_goals refine Ly.ret_of (by simp [results, Try.results49, go_sem] <;> (repeat' (first | rfl | apply And.intro))) rfl ⟨⟨_, true, rfl, fun _ => by simp [workB, h1'], fun h => by cases h⟩, by (repeat (first | with_reducible exact Below.refl _ _ | (with_reducible refine Below.setCell ?_ (by first | (simp; done) | (simp; omega) | omega) _) | (with_reducible refine Below.alloc ?_ (by first | (simp; done) | (simp; omega) | omega) _) | (with_reducible refine Below.drew ?_)))⟩
set_option maxHeartbeats 4000000 in
theorem left_any : Calls Try.prog 51 #[.slice A l.length c, .int .i64 i] w fun e w' => BegE (begB 2 l i) e ∧ Below w.heap.size w w' := by
  have HL := Lib.hid h
  obtain ⟨_, _, _, _, _, hl⟩ := h.val
  obtain ⟨b, o, rfl, hbl, g0, g1, g2, g3, g4, g5, g6, g7, g8, g9, g10, g11, g12⟩ := kEnt_at h hi; obtain ⟨x, hx⟩ : ∃ x, x = l[i] := ⟨_, rfl⟩; rw [← hx] at g0 g1 g2 g3 g4 g5 g6 g7 g8 g9 g10 g11 g12; have hd : l.getD i default = x := (by rw [hx]; simp [hi]); have e0 : (0 : Int) ≤ (i : Int) := (by omega); have e1 : (i : Int) < (l.length : Int) := (by omega); obtain ⟨at_, kind, worker, task, peer, ch, cs, pc, val, val2, ok, code, set⟩ := x; simp only at g0 g1 g2 g3 g4 g5 g6 g7 g8 g9 g10 g11 g12; clear hx h
  simp only [begB, hd]
  by_cases h1 : kind = 8 ∨ kind = 10
  · have hb : leftB l i ⟨at_, kind, worker, task, peer, ch, cs, pc, val, val2, ok, code, set⟩ = leftW l task i := by simp [leftB, h1]
    rw [hb]
    have hw1 : IntKind.i64.wrap ((i : Int) - 1) = (i : Int) - 1 := IntWalk.i64_in _ (by have := hi; omega)
    rcases h1 with rfl | rfl
    all_goals
      go_enter Try.func51, Try.ntmps51
      go_wp2
      have G3 := Lib.hid g3
      clear g0 g1 g2 g3 g4 g5 g6 g7 g8 g9 g10 g11 g12 hb
      go_loopw [7] (fun iv wr => ∃ (j : Nat) (z : Int), j ≤ i ∧ iv = .int .i64 z ∧ z + 1 = (j : Int) ∧ leftW l task i = leftW l task j ∧ Below w.heap.size w wr) (fun iv _ => (intOf iv + 1).toNat)
      case atStart => exact ⟨i, (i : Int) - 1, Nat.le_refl _, rfl, by omega, rfl, Below.refl _ _⟩
      case round =>
        obtain ⟨j, z, hj, rfl, hz, he, hbw⟩ := hrel
        have HB := Lib.hid hbw
        have HE := Lib.hid he
        clear hbw he
        rcases j with _ | p
        · obtain rfl : z = -1 := by omega
          go_wp2
          refine Ly.ret_of (by simp [results, Try.results51, go_sem] <;> (repeat' (first | rfl | apply And.intro))) rfl ⟨⟨_, false, rfl, fun h => (by cases h), fun _ => HE.out⟩, HB.out⟩
        · obtain rfl : z = (p : Int) := by omega
          have hpl : p < l.length := by omega
          obtain ⟨b', o', hA', _, g0, g1, g2, g3, g4, g5, g6, g7, g8, g9, g10, g11, g12⟩ := kEnt_at HL.out hpl
          obtain ⟨rfl, rfl⟩ : b = b' ∧ o = o' := by simpa using hA'
          have hstep : leftW l task (p + 1) = if markB 21 l[p] task then some l[p].worker else leftW l task p := by simp only [leftW, List.getD_eq_getElem?_getD, List.getElem?_eq_getElem hpl, Option.getD_some]
          obtain ⟨y, hy⟩ : ∃ y, y = l[p] := ⟨_, rfl⟩
          rw [← hy] at g0 g1 g2 g3 g4 g5 g6 g7 g8 g9 g10 g11 g12 hstep
          clear hy hA'
          have HST := Lib.hid (HE.out.trans hstep)
          have hmk := fun (W : World) (c : Nat) (hb : c < W.heap.size) (hk : W.cell? ⟨c, 0, none⟩ = some (.int .u8 21)) => mark1_any (w := W) (b := c) 21 task y hb hk
          have g0 := Below.at HB.out g0 hbl
          have g1 := Below.at HB.out g1 hbl
          have g2 := Below.at HB.out g2 hbl
          have g3 := Below.at HB.out g3 hbl
          have g4 := Below.at HB.out g4 hbl
          have g5 := Below.at HB.out g5 hbl
          have g6 := Below.at HB.out g6 hbl
          have g7 := Below.at HB.out g7 hbl
          have g8 := Below.at HB.out g8 hbl
          have g9 := Below.at HB.out g9 hbl
          have g10 := Below.at HB.out g10 hbl
          have g11 := Below.at HB.out g11 hbl
          have g12 := Below.at HB.out g12 hbl
          have f3 := Below.at HB.out G3.out hbl
          have hbr := Nat.lt_of_lt_of_le hbl HB.out.size
          have p0 : (0 : Int) ≤ (p : Int) := by omega
          have p1 : (p : Int) < (l.length : Int) := by omega
          have hwp : IntKind.i64.wrap ((p : Int) - 1) = (p : Int) - 1 := IntWalk.i64_in _ (by omega)
          have hcell : (wr.alloc (.cells #[.int .u8 21] 5)).drew.cell? ⟨wr.heap.size, 0, none⟩ = some (.int .u8 21) := Ly.cellAt (w := (wr.alloc (.cells #[.int .u8 21] 5)).drew) (World.alloc_heap_new wr _) 0 rfl
          simp only [EntV.agg] at hmk
          have HMK := Lib.hid hmk
          clear hmk hstep hz
          go_upto_region 7 with fail
          go_region_law (first | (go_simp; go_at_call 48; (with_reducible refine (mark_any _ _).mono ?_); rintro e w2 ⟨rfl, rfl⟩) | (go_simp; go_at_call 65; (with_reducible refine (HMK.out _ _ (by simp) hcell).mono ?_); rintro e w3 ⟨rfl, hb3⟩))
          all_goals
            have hbz : Below wr.heap.size wr w3 := Below.trans ((Below.refl _ wr).alloc (Nat.le_refl _) _).drew (hb3.mono (by simp))
            have hbw := HB.out.trans (hbz.mono HB.out.size)
            have f2 := Below.at hbz g2 hbr
            have hb3' := Nat.lt_of_lt_of_le hbr hbz.size
            have HBW := Lib.hid hbw
            clear hb3 hbz hbw HB g0 g1 g2 g3 g4 g5 g6 g7 g8 g9 g10 g11 g12 f3 hcell HMK
            cases hm : markB 21 y task
            · rw [hm] at HST
              go_wp2
              go_roundw
              all_goals first | exact ⟨p, (p : Int) - 1, by omega, rfl, by omega, HST.out, HBW.out⟩ | exact ⟨p, (p : Int) - 1, by omega, by go_num, by omega, HST.out, HBW.out⟩ | (simp [intOf]; done) | (simp [intOf]; omega)
            · rw [hm] at HST
              go_wp2
              refine Ly.ret_of (by simp [results, Try.results51, go_sem] <;> (repeat' (first | rfl | apply And.intro))) rfl ⟨⟨_, true, rfl, fun _ => HST.out, fun h => (by cases h)⟩, HBW.out⟩
  · have h1' : kind ≠ 8 := fun e => h1 (.inl e)
    have h2' : kind ≠ 10 := fun e => h1 (.inr e)
    have d1 : (kind != 8) = true := by simpa using h1'
    have d2 : (kind != 10) = true := by simpa using h2'
    go_enter Try.func51, Try.ntmps51
    go_wp2; refine Ly.ret_of (by simp [results, Try.results51, go_sem] <;> (repeat' (first | rfl | apply And.intro))) rfl ⟨⟨_, false, rfl, fun h => (by cases h), fun _ => (by simp [leftB, h1', h2'])⟩, by (repeat (first | with_reducible exact Below.refl _ _ | (with_reducible refine Below.setCell ?_ (by first | (simp; done) | (simp; omega) | omega) _) | (with_reducible refine Below.alloc ?_ (by first | (simp; done) | (simp; omega) | omega) _) | (with_reducible refine Below.drew ?_)))⟩
end
end Go.Proofs.Ytljfloopjgpaeab
