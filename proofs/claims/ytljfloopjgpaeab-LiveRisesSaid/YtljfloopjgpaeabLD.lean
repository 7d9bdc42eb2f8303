/- live.till: how long a lag is. -/
import Derived.Test.YtljfloopjgpaeabLB
namespace Go.Proofs.Ytljfloopjgpaeab
set_option linter.unusedVariables false
set_option linter.unusedSimpArgs false
open Go.RowKit
attribute [local go_sem] Oper.semAt_some
set_option maxRecDepth 100000
def tillV (k : Nat) (l : List EntV) (frm who fin : Int) : Int := match l.find? (fun x => endB k x who) with
  | some x => x.at_ - frm
  | none => max (fin - frm) 0
set_option maxHeartbeats 4000000 in
theorem till_done {w : World} {A : Option Addr} {c : Nat} {l : List EntV} (h : kEnt.R w (.slice A l.length c) l) (fb : Value) {B : Nat} (hB : B < w.heap.size) (hBc : w.cell? ⟨B, 0, none⟩ = some (.int .u8 (21))) (frm who fin : Int) (hb : ∀ x ∈ l, -4611686018427387904 ≤ x.at_ - frm ∧ x.at_ - frm ≤ 4611686018427387904) (he : -4611686018427387904 ≤ fin - frm ∧ fin - frm ≤ 4611686018427387904) : Calls Try.prog 25 #[.agg #[fb, .func (.func 50) #[] #[]], .int .i64 frm, .int .i64 who, .slice A l.length c, .int .i64 fin] w fun e w' => e = .returned (.int .i64 (tillV (1) l frm who fin)) ∧ Below w.heap.size w w' := by
  have HL := Lib.hid h
  have HBD := Lib.hid hb
  have HBC := Lib.hid hBc
  obtain ⟨_, _, _, _, _, hl⟩ := h.val
  clear h hb hBc
  have wf : IntKind.i64.wrap (fin - frm) = fin - frm := IntWalk.i64_in _ (by omega)
  go_enter Try.func25, Try.ntmps25
  go_wp2
  obtain ⟨w1, hw1⟩ : ∃ w1, w1 = w.alloc (.cells #[fb, .func (.func 50) #[] #[]] 64) := ⟨_, rfl⟩
  have hs1 : w1.heap.size = w.heap.size + 1 := by rw [hw1]; simp
  have hb1 : Below w.heap.size w w1 := by rw [hw1]; (repeat (first | with_reducible exact Below.refl _ _ | (with_reducible refine Below.setCell ?_ (by first | (simp; done) | (simp; omega) | omega) _) | (with_reducible refine Below.alloc ?_ (by first | (simp; done) | (simp; omega) | omega) _) | (with_reducible refine Below.drew ?_)))
  have hx1 : w1.cell? ⟨w.heap.size, 1, none⟩ = some (.func (.func 50) #[] #[]) := by rw [hw1]; exact Ly.cellAt (World.alloc_heap_new w _) 1 rfl
  rw [← hw1]
  clear hw1
  have HB1 := Lib.hid hb1
  have HX1 := Lib.hid hx1
  clear hb1 hx1
  go_loopw [15] (fun iv wr => ∃ i : Nat, i ≤ l.length ∧ iv = .int .i64 i ∧ l.find? (fun x => endB 1 x who) = (l.drop i).find? (fun x => endB 1 x who) ∧ Below w1.heap.size w1 wr) (fun iv _ => l.length - (intOf iv).toNat)
  case atStart => exact ⟨0, Nat.zero_le _, rfl, by simp, Below.refl _ _⟩
  case round =>
    obtain ⟨i, hi, rfl, hf, hbw⟩ := hrel
    have HF := Lib.hid hf
    have HB2 := Lib.hid hbw
    have hsz := hbw.size
    have f1 := Below.at hbw HX1.out (by omega)
    have hwl : w.heap.size < wr.heap.size := by omega
    clear hf hbw
    by_cases hlt : i < l.length
    · obtain ⟨b, o, rfl, hbl, g0, g1, g2, g3, g4, g5, g6, g7, g8, g9, g10, g11, g12⟩ := kEnt_at (HL.out.keep HB1.out) hlt
      have hdrop : l.drop i = l[i] :: l.drop (i + 1) := List.drop_eq_getElem_cons hlt
      have hbx := HBD.out l[i] (List.getElem_mem hlt)
      obtain ⟨y, hy⟩ : ∃ y, y = l[i] := ⟨_, rfl⟩
      rw [← hy] at g0 g1 g2 g3 g4 g5 g6 g7 g8 g9 g10 g11 g12 hdrop hbx
      have hff : l.find? (fun x => endB 1 x who) = (match endB 1 y who with | true => some y | false => (l.drop (i + 1)).find? (fun x => endB 1 x who)) := by rw [HF.out, hdrop]; rfl
      clear hy hdrop
      have g0 := Below.at HB2.out g0 hbl
      have g1 := Below.at HB2.out g1 hbl
      have g2 := Below.at HB2.out g2 hbl
      have g3 := Below.at HB2.out g3 hbl
      have g4 := Below.at HB2.out g4 hbl
      have g5 := Below.at HB2.out g5 hbl
      have g6 := Below.at HB2.out g6 hbl
      have g7 := Below.at HB2.out g7 hbl
      have g8 := Below.at HB2.out g8 hbl
      have g9 := Below.at HB2.out g9 hbl
      have g10 := Below.at HB2.out g10 hbl
      have g11 := Below.at HB2.out g11 hbl
      have g12 := Below.at HB2.out g12 hbl
      have hbr := Nat.lt_of_lt_of_le hbl hsz
      have p0 : (0 : Int) ≤ (i : Int) := by omega
      have p1 : (i : Int) < (l.length : Int) := by omega
      have p2 : decide ((i : Int) < (l.length : Int)) = true := by simp; omega
      have hwi : IntKind.i64.wrap ((i : Int) + 1) = (i : Int) + 1 := IntWalk.i64_in _ (by omega)
      have wy : IntKind.i64.wrap (y.at_ - frm) = y.at_ - frm := IntWalk.i64_in _ (by omega)
      have hend : ∀ (W : World), True → Calls Try.prog 50 #[y.agg, .int .i64 who] W fun r w' => r = .returned (.bool (endB 1 y who)) ∧ Below W.heap.size W w' := fun W _ => done_any who y W
      simp only [EntV.agg] at hend
      have HEN := Lib.hid hend
      clear hend
      cases hm : endB 1 y who
      · rw [hm] at HEN hff
        have HFF := Lib.hid hff
        clear hff hm
        go_wp2_with (go_at_call 50; (with_reducible refine (HEN.out _ trivial).mono ?_); rintro e w3 ⟨rfl, hb3⟩; have HB3 := Lib.hid (HB2.out.trans (Below.trans ((Below.refl _ wr).alloc (Nat.le_refl _) _) (hb3.mono (by simp)) |>.mono hsz)); clear hb3)
        go_roundw
        all_goals first | exact ⟨i + 1, hlt, by go_num, HFF.out, HB3.out⟩ | (simp [intOf]; omega)
      · rw [hm] at HEN hff
        have HFF := Lib.hid hff
        clear hff hm
        go_wp2_with (go_at_call 50; (with_reducible refine (HEN.out _ trivial).mono ?_); rintro e w3 ⟨rfl, hb3⟩; have q0 : w3.cell? ⟨wr.heap.size, 0, none⟩ = some (.int .i64 y.at_) := Below.at hb3 (Ly.cellAt (World.alloc_heap_new wr _) 0 rfl) (by simp); have q1 : wr.heap.size < w3.heap.size := (by have := hb3.size; simp at this; omega); have HB3 := Lib.hid (HB2.out.trans (Below.trans ((Below.refl _ wr).alloc (Nat.le_refl _) _) (hb3.mono (by simp)) |>.mono hsz)); clear hb3)
        go_ret
        exact ⟨by (simp only [tillV]; rw [HFF.out]; rfl), HB1.out.trans (HB3.out.mono HB1.out.size)⟩
    · obtain rfl : i = l.length := by omega
      have p2 : decide ((l.length : Int) < (l.length : Int)) = false := by simp
      have hnone : l.find? (fun x => endB 1 x who) = none := by rw [HF.out, List.drop_length]; rfl
      have HFF := Lib.hid hnone
      clear hnone
      have hv : tillV 1 l frm who fin = max (fin - frm) 0 := by simp only [tillV, HFF.out]
      have HV := Lib.hid hv
      clear hv
      go_wp2
      all_goals
        go_ret
        refine ⟨?_, HB1.out.trans (HB2.out.mono HB1.out.size)⟩
        rw [HV.out]
        first | (rw [show max (fin - frm) 0 = 0 by omega]; done) | (rw [show max (fin - frm) 0 = fin - frm by omega]; done) | (rw [show max (fin - frm) 0 = 0 by omega]; rfl) | (rw [show max (fin - frm) 0 = fin - frm by omega]; rfl)
set_option maxHeartbeats 4000000 in
theorem till_free {w : World} {A : Option Addr} {c : Nat} {l : List EntV} (h : kEnt.R w (.slice A l.length c) l) (fb : Value) {B : Nat} (hB : B < w.heap.size) (hBc : w.cell? ⟨B, 0, none⟩ = some (.int .u8 (21))) (frm who fin : Int) (hb : ∀ x ∈ l, -4611686018427387904 ≤ x.at_ - frm ∧ x.at_ - frm ≤ 4611686018427387904) (he : -4611686018427387904 ≤ fin - frm ∧ fin - frm ≤ 4611686018427387904) : Calls Try.prog 25 #[.agg #[fb, .func (.func 52) #[] #[]], .int .i64 frm, .int .i64 who, .slice A l.length c, .int .i64 fin] w fun e w' => e = .returned (.int .i64 (tillV (2) l frm who fin)) ∧ Below w.heap.size w w' := by
  have HL := Lib.hid h
  have HBD := Lib.hid hb
  have HBC := Lib.hid hBc
  obtain ⟨_, _, _, _, _, hl⟩ := h.val
  clear h hb hBc
  have wf : IntKind.i64.wrap (fin - frm) = fin - frm := IntWalk.i64_in _ (by omega)
  go_enter Try.func25, Try.ntmps25
  go_wp2
  obtain ⟨w1, hw1⟩ : ∃ w1, w1 = w.alloc (.cells #[fb, .func (.func 52) #[] #[]] 64) := ⟨_, rfl⟩
  have hs1 : w1.heap.size = w.heap.size + 1 := by rw [hw1]; simp
  have hb1 : Below w.heap.size w w1 := by rw [hw1]; (repeat (first | with_reducible exact Below.refl _ _ | (with_reducible refine Below.setCell ?_ (by first | (simp; done) | (simp; omega) | omega) _) | (with_reducible refine Below.alloc ?_ (by first | (simp; done) | (simp; omega) | omega) _) | (with_reducible refine Below.drew ?_)))
  have hx1 : w1.cell? ⟨w.heap.size, 1, none⟩ = some (.func (.func 52) #[] #[]) := by rw [hw1]; exact Ly.cellAt (World.alloc_heap_new w _) 1 rfl
  rw [← hw1]
  clear hw1
  have HB1 := Lib.hid hb1
  have HX1 := Lib.hid hx1
  clear hb1 hx1
  go_loopw [15] (fun iv wr => ∃ i : Nat, i ≤ l.length ∧ iv = .int .i64 i ∧ l.find? (fun x => endB 2 x who) = (l.drop i).find? (fun x => endB 2 x who) ∧ Below w1.heap.size w1 wr) (fun iv _ => l.length - (intOf iv).toNat)
  case atStart => exact ⟨0, Nat.zero_le _, rfl, by simp, Below.refl _ _⟩
  case round =>
    obtain ⟨i, hi, rfl, hf, hbw⟩ := hrel
    have HF := Lib.hid hf
    have HB2 := Lib.hid hbw
    have hsz := hbw.size
    have f1 := Below.at hbw HX1.out (by omega)
    have hwl : w.heap.size < wr.heap.size := by omega
    clear hf hbw
    by_cases hlt : i < l.length
    · obtain ⟨b, o, rfl, hbl, g0, g1, g2, g3, g4, g5, g6, g7, g8, g9, g10, g11, g12⟩ := kEnt_at (HL.out.keep HB1.out) hlt
      have hdrop : l.drop i = l[i] :: l.drop (i + 1) := List.drop_eq_getElem_cons hlt
      have hbx := HBD.out l[i] (List.getElem_mem hlt)
      obtain ⟨y, hy⟩ : ∃ y, y = l[i] := ⟨_, rfl⟩
      rw [← hy] at g0 g1 g2 g3 g4 g5 g6 g7 g8 g9 g10 g11 g12 hdrop hbx
      have hff : l.find? (fun x => endB 2 x who) = (match endB 2 y who with | true => some y | false => (l.drop (i + 1)).find? (fun x => endB 2 x who)) := by rw [HF.out, hdrop]; rfl
      clear hy hdrop
      have g0 := Below.at HB2.out g0 hbl
      have g1 := Below.at HB2.out g1 hbl
      have g2 := Below.at HB2.out g2 hbl
      have g3 := Below.at HB2.out g3 hbl
      have g4 := Below.at HB2.out g4 hbl
      have g5 := Below.at HB2.out g5 hbl
      have g6 := Below.at HB2.out g6 hbl
      have g7 := Below.at HB2.out g7 hbl
      have g8 := Below.at HB2.out g8 hbl
      have g9 := Below.at HB2.out g9 hbl
      have g10 := Below.at HB2.out g10 hbl
      have g11 := Below.at HB2.out g11 hbl
      have g12 := Below.at HB2.out g12 hbl
      have hbr := Nat.lt_of_lt_of_le hbl hsz
      have p0 : (0 : Int) ≤ (i : Int) := by omega
      have p1 : (i : Int) < (l.length : Int) := by omega
      have p2 : decide ((i : Int) < (l.length : Int)) = true := by simp; omega
      have hwi : IntKind.i64.wrap ((i : Int) + 1) = (i : Int) + 1 := IntWalk.i64_in _ (by omega)
      have wy : IntKind.i64.wrap (y.at_ - frm) = y.at_ - frm := IntWalk.i64_in _ (by omega)
      have hend : ∀ (W : World), True → Calls Try.prog 52 #[y.agg, .int .i64 who] W fun r w' => r = .returned (.bool (endB 2 y who)) ∧ Below W.heap.size W w' := fun W _ => free_any who y W
      simp only [EntV.agg] at hend
      have HEN := Lib.hid hend
      clear hend
      cases hm : endB 2 y who
      · rw [hm] at HEN hff
        have HFF := Lib.hid hff
        clear hff hm
        go_wp2_with (go_at_call 52; (with_reducible refine (HEN.out _ trivial).mono ?_); rintro e w3 ⟨rfl, hb3⟩; have HB3 := Lib.hid (HB2.out.trans (Below.trans ((Below.refl _ wr).alloc (Nat.le_refl _) _) (hb3.mono (by simp)) |>.mono hsz)); clear hb3)
        go_roundw
        all_goals first | exact ⟨i + 1, hlt, by go_num, HFF.out, HB3.out⟩ | (simp [intOf]; omega)
      · rw [hm] at HEN hff
        have HFF := Lib.hid hff
        clear hff hm
        go_wp2_with (go_at_call 52; (with_reducible refine (HEN.out _ trivial).mono ?_); rintro e w3 ⟨rfl, hb3⟩; have q0 : w3.cell? ⟨wr.heap.size, 0, none⟩ = some (.int .i64 y.at_) := Below.at hb3 (Ly.cellAt (World.alloc_heap_new wr _) 0 rfl) (by simp); have q1 : wr.heap.size < w3.heap.size := (by have := hb3.size; simp at this; omega); have HB3 := Lib.hid (HB2.out.trans (Below.trans ((Below.refl _ wr).alloc (Nat.le_refl _) _) (hb3.mono (by simp)) |>.mono hsz)); clear hb3)
        go_ret
        exact ⟨by (simp only [tillV]; rw [HFF.out]; rfl), HB1.out.trans (HB3.out.mono HB1.out.size)⟩
    · obtain rfl : i = l.length := by omega
      have p2 : decide ((l.length : Int) < (l.length : Int)) = false := by simp
      have hnone : l.find? (fun x => endB 2 x who) = none := by rw [HF.out, List.drop_length]; rfl
      have HFF := Lib.hid hnone
      clear hnone
      have hv : tillV 2 l frm who fin = max (fin - frm) 0 := by simp only [tillV, HFF.out]
      have HV := Lib.hid hv
      clear hv
      go_wp2
      all_goals
        go_ret
        refine ⟨?_, HB1.out.trans (HB2.out.mono HB1.out.size)⟩
        rw [HV.out]
        first | (rw [show max (fin - frm) 0 = 0 by omega]; done) | (rw [show max (fin - frm) 0 = fin - frm by omega]; done) | (rw [show max (fin - frm) 0 = 0 by omega]; rfl) | (rw [show max (fin - frm) 0 = fin - frm by omega]; rfl)
set_option maxHeartbeats 4000000 in
theorem till_m21 {w : World} {A : Option Addr} {c : Nat} {l : List EntV} (h : kEnt.R w (.slice A l.length c) l) (fb : Value) {B : Nat} (hB : B < w.heap.size) (hBc : w.cell? ⟨B, 0, none⟩ = some (.int .u8 (21))) (frm who fin : Int) (hb : ∀ x ∈ l, -4611686018427387904 ≤ x.at_ - frm ∧ x.at_ - frm ≤ 4611686018427387904) (he : -4611686018427387904 ≤ fin - frm ∧ fin - frm ≤ 4611686018427387904) : Calls Try.prog 25 #[.agg #[fb, .func (.func 65) #[] #[.pointer (some ⟨B, 0, none⟩)]], .int .i64 frm, .int .i64 who, .slice A l.length c, .int .i64 fin] w fun e w' => e = .returned (.int .i64 (tillV (0) l frm who fin)) ∧ Below w.heap.size w w' := by
  have HL := Lib.hid h
  have HBD := Lib.hid hb
  have HBC := Lib.hid hBc
  obtain ⟨_, _, _, _, _, hl⟩ := h.val
  clear h hb hBc
  have wf : IntKind.i64.wrap (fin - frm) = fin - frm := IntWalk.i64_in _ (by omega)
  go_enter Try.func25, Try.ntmps25
  go_wp2
  obtain ⟨w1, hw1⟩ : ∃ w1, w1 = w.alloc (.cells #[fb, .func (.func 65) #[] #[.pointer (some ⟨B, 0, none⟩)]] 64) := ⟨_, rfl⟩
  have hs1 : w1.heap.size = w.heap.size + 1 := by rw [hw1]; simp
  have hb1 : Below w.heap.size w w1 := by rw [hw1]; (repeat (first | with_reducible exact Below.refl _ _ | (with_reducible refine Below.setCell ?_ (by first | (simp; done) | (simp; omega) | omega) _) | (with_reducible refine Below.alloc ?_ (by first | (simp; done) | (simp; omega) | omega) _) | (with_reducible refine Below.drew ?_)))
  have hx1 : w1.cell? ⟨w.heap.size, 1, none⟩ = some (.func (.func 65) #[] #[.pointer (some ⟨B, 0, none⟩)]) := by rw [hw1]; exact Ly.cellAt (World.alloc_heap_new w _) 1 rfl
  rw [← hw1]
  clear hw1
  have HB1 := Lib.hid hb1
  have HX1 := Lib.hid hx1
  clear hb1 hx1
  go_loopw [15] (fun iv wr => ∃ i : Nat, i ≤ l.length ∧ iv = .int .i64 i ∧ l.find? (fun x => endB 0 x who) = (l.drop i).find? (fun x => endB 0 x who) ∧ Below w1.heap.size w1 wr) (fun iv _ => l.length - (intOf iv).toNat)
  case atStart => exact ⟨0, Nat.zero_le _, rfl, by simp, Below.refl _ _⟩
  case round =>
    obtain ⟨i, hi, rfl, hf, hbw⟩ := hrel
    have HF := Lib.hid hf
    have HB2 := Lib.hid hbw
    have hsz := hbw.size
    have f1 := Below.at hbw HX1.out (by omega)
    have hwl : w.heap.size < wr.heap.size := by omega
    clear hf hbw
    by_cases hlt : i < l.length
    · obtain ⟨b, o, rfl, hbl, g0, g1, g2, g3, g4, g5, g6, g7, g8, g9, g10, g11, g12⟩ := kEnt_at (HL.out.keep HB1.out) hlt
      have hdrop : l.drop i = l[i] :: l.drop (i + 1) := List.drop_eq_getElem_cons hlt
      have hbx := HBD.out l[i] (List.getElem_mem hlt)
      obtain ⟨y, hy⟩ : ∃ y, y = l[i] := ⟨_, rfl⟩
      rw [← hy] at g0 g1 g2 g3 g4 g5 g6 g7 g8 g9 g10 g11 g12 hdrop hbx
      have hff : l.find? (fun x => endB 0 x who) = (match endB 0 y who with | true => some y | false => (l.drop (i + 1)).find? (fun x => endB 0 x who)) := by rw [HF.out, hdrop]; rfl
      clear hy hdrop
      have g0 := Below.at HB2.out g0 hbl
      have g1 := Below.at HB2.out g1 hbl
      have g2 := Below.at HB2.out g2 hbl
      have g3 := Below.at HB2.out g3 hbl
      have g4 := Below.at HB2.out g4 hbl
      have g5 := Below.at HB2.out g5 hbl
      have g6 := Below.at HB2.out g6 hbl
      have g7 := Below.at HB2.out g7 hbl
      have g8 := Below.at HB2.out g8 hbl
      have g9 := Below.at HB2.out g9 hbl
      have g10 := Below.at HB2.out g10 hbl
      have g11 := Below.at HB2.out g11 hbl
      have g12 := Below.at HB2.out g12 hbl
      have hbr := Nat.lt_of_lt_of_le hbl hsz
      have p0 : (0 : Int) ≤ (i : Int) := by omega
      have p1 : (i : Int) < (l.length : Int) := by omega
      have p2 : decide ((i : Int) < (l.length : Int)) = true := by simp; omega
      have hwi : IntKind.i64.wrap ((i : Int) + 1) = (i : Int) + 1 := IntWalk.i64_in _ (by omega)
      have wy : IntKind.i64.wrap (y.at_ - frm) = y.at_ - frm := IntWalk.i64_in _ (by omega)
      have hend : ∀ (W : World), (B < W.heap.size ∧ W.cell? ⟨B, 0, none⟩ = some (.int .u8 21)) → Calls Try.prog 65 #[y.agg, .int .i64 who, .pointer (some ⟨B, 0, none⟩)] W fun r w' => r = .returned (.bool (endB 0 y who)) ∧ Below W.heap.size W w' := fun W hh => mark1_any 21 who y hh.1 hh.2
      have hBr : wr.cell? ⟨B, 0, none⟩ = some (.int .u8 21) := Below.at HB2.out (Below.at HB1.out HBC.out hB) (by omega)
      have HBR := Lib.hid hBr
      clear hBr
      simp only [EntV.agg] at hend
      have HEN := Lib.hid hend
      clear hend
      cases hm : endB 0 y who
      · rw [hm] at HEN hff
        have HFF := Lib.hid hff
        clear hff hm
        go_wp2_with (go_at_call 65; (with_reducible refine (HEN.out _ ⟨by simp; omega, Below.at ((Below.refl _ wr).alloc (Nat.le_refl _) _) HBR.out (by omega)⟩).mono ?_); rintro e w3 ⟨rfl, hb3⟩; have HB3 := Lib.hid (HB2.out.trans (Below.trans ((Below.refl _ wr).alloc (Nat.le_refl _) _) (hb3.mono (by simp)) |>.mono hsz)); clear hb3)
        go_roundw
        all_goals first | exact ⟨i + 1, hlt, by go_num, HFF.out, HB3.out⟩ | (simp [intOf]; omega)
      · rw [hm] at HEN hff
        have HFF := Lib.hid hff
        clear hff hm
        go_wp2_with (go_at_call 65; (with_reducible refine (HEN.out _ ⟨by simp; omega, Below.at ((Below.refl _ wr).alloc (Nat.le_refl _) _) HBR.out (by omega)⟩).mono ?_); rintro e w3 ⟨rfl, hb3⟩; have q0 : w3.cell? ⟨wr.heap.size, 0, none⟩ = some (.int .i64 y.at_) := Below.at hb3 (Ly.cellAt (World.alloc_heap_new wr _) 0 rfl) (by simp); have q1 : wr.heap.size < w3.heap.size := (by have := hb3.size; simp at this; omega); have HB3 := Lib.hid (HB2.out.trans (Below.trans ((Below.refl _ wr).alloc (Nat.le_refl _) _) (hb3.mono (by simp)) |>.mono hsz)); clear hb3)
        go_ret
        exact ⟨by (simp only [tillV]; rw [HFF.out]; rfl), HB1.out.trans (HB3.out.mono HB1.out.size)⟩
    · obtain rfl : i = l.length := by omega
      have p2 : decide ((l.length : Int) < (l.length : Int)) = false := by simp
      have hnone : l.find? (fun x => endB 0 x who) = none := by rw [HF.out, List.drop_length]; rfl
      have HFF := Lib.hid hnone
      clear hnone
      have hv : tillV 0 l frm who fin = max (fin - frm) 0 := by simp only [tillV, HFF.out]
      have HV := Lib.hid hv
      clear hv
      go_wp2
      all_goals
        go_ret
        refine ⟨?_, HB1.out.trans (HB2.out.mono HB1.out.size)⟩
        rw [HV.out]
        first | (rw [show max (fin - frm) 0 = 0 by omega]; done) | (rw [show max (fin - frm) 0 = fin - frm by omega]; done) | (rw [show max (fin - frm) 0 = 0 by omega]; rfl) | (rw [show max (fin - frm) 0 = fin - frm by omega]; rfl)
set_option maxHeartbeats 4000000 in
theorem till_m22 {w : World} {A : Option Addr} {c : Nat} {l : List EntV} (h : kEnt.R w (.slice A l.length c) l) (fb : Value) {B : Nat} (hB : B < w.heap.size) (hBc : w.cell? ⟨B, 0, none⟩ = some (.int .u8 (22))) (frm who fin : Int) (hb : ∀ x ∈ l, -4611686018427387904 ≤ x.at_ - frm ∧ x.at_ - frm ≤ 4611686018427387904) (he : -4611686018427387904 ≤ fin - frm ∧ fin - frm ≤ 4611686018427387904) : Calls Try.prog 25 #[.agg #[fb, .func (.func 65) #[] #[.pointer (some ⟨B, 0, none⟩)]], .int .i64 frm, .int .i64 who, .slice A l.length c, .int .i64 fin] w fun e w' => e = .returned (.int .i64 (tillV (3) l frm who fin)) ∧ Below w.heap.size w w' := by
  have HL := Lib.hid h
  have HBD := Lib.hid hb
  have HBC := Lib.hid hBc
  obtain ⟨_, _, _, _, _, hl⟩ := h.val
  clear h hb hBc
  have wf : IntKind.i64.wrap (fin - frm) = fin - frm := IntWalk.i64_in _ (by omega)
  go_enter Try.func25, Try.ntmps25
  go_wp2
  obtain ⟨w1, hw1⟩ : ∃ w1, w1 = w.alloc (.cells #[fb, .func (.func 65) #[] #[.pointer (some ⟨B, 0, none⟩)]] 64) := ⟨_, rfl⟩
  have hs1 : w1.heap.size = w.heap.size + 1 := by rw [hw1]; simp
  have hb1 : Below w.heap.size w w1 := by rw [hw1]; (repeat (first | with_reducible exact Below.refl _ _ | (with_reducible refine Below.setCell ?_ (by first | (simp; done) | (simp; omega) | omega) _) | (with_reducible refine Below.alloc ?_ (by first | (simp; done) | (simp; omega) | omega) _) | (with_reducible refine Below.drew ?_)))
  have hx1 : w1.cell? ⟨w.heap.size, 1, none⟩ = some (.func (.func 65) #[] #[.pointer (some ⟨B, 0, none⟩)]) := by rw [hw1]; exact Ly.cellAt (World.alloc_heap_new w _) 1 rfl
  rw [← hw1]
  clear hw1
  have HB1 := Lib.hid hb1
  have HX1 := Lib.hid hx1
  clear hb1 hx1
  go_loopw [15] (fun iv wr => ∃ i : Nat, i ≤ l.length ∧ iv = .int .i64 i ∧ l.find? (fun x => endB 3 x who) = (l.drop i).find? (fun x => endB 3 x who) ∧ Below w1.heap.size w1 wr) (fun iv _ => l.length - (intOf iv).toNat)
  case atStart => exact ⟨0, Nat.zero_le _, rfl, by simp, Below.refl _ _⟩
  case round =>
    obtain ⟨i, hi, rfl, hf, hbw⟩ := hrel
    have HF := Lib.hid hf
    have HB2 := Lib.hid hbw
    have hsz := hbw.size
    have f1 := Below.at hbw HX1.out (by omega)
    have hwl : w.heap.size < wr.heap.size := by omega
    clear hf hbw
    by_cases hlt : i < l.length
    · obtain ⟨b, o, rfl, hbl, g0, g1, g2, g3, g4, g5, g6, g7, g8, g9, g10, g11, g12⟩ := kEnt_at (HL.out.keep HB1.out) hlt
      have hdrop : l.drop i = l[i] :: l.drop (i + 1) := List.drop_eq_getElem_cons hlt
      have hbx := HBD.out l[i] (List.getElem_mem hlt)
      obtain ⟨y, hy⟩ : ∃ y, y = l[i] := ⟨_, rfl⟩
      rw [← hy] at g0 g1 g2 g3 g4 g5 g6 g7 g8 g9 g10 g11 g12 hdrop hbx
      have hff : l.find? (fun x => endB 3 x who) = (match endB 3 y who with | true => some y | false => (l.drop (i + 1)).find? (fun x => endB 3 x who)) := by rw [HF.out, hdrop]; rfl
      clear hy hdrop
      have g0 := Below.at HB2.out g0 hbl
      have g1 := Below.at HB2.out g1 hbl
      have g2 := Below.at HB2.out g2 hbl
      have g3 := Below.at HB2.out g3 hbl
      have g4 := Below.at HB2.out g4 hbl
      have g5 := Below.at HB2.out g5 hbl
      have g6 := Below.at HB2.out g6 hbl
      have g7 := Below.at HB2.out g7 hbl
      have g8 := Below.at HB2.out g8 hbl
      have g9 := Below.at HB2.out g9 hbl
      have g10 := Below.at HB2.out g10 hbl
      have g11 := Below.at HB2.out g11 hbl
      have g12 := Below.at HB2.out g12 hbl
      have hbr := Nat.lt_of_lt_of_le hbl hsz
      have p0 : (0 : Int) ≤ (i : Int) := by omega
      have p1 : (i : Int) < (l.length : Int) := by omega
      have p2 : decide ((i : Int) < (l.length : Int)) = true := by simp; omega
      have hwi : IntKind.i64.wrap ((i : Int) + 1) = (i : Int) + 1 := IntWalk.i64_in _ (by omega)
      have wy : IntKind.i64.wrap (y.at_ - frm) = y.at_ - frm := IntWalk.i64_in _ (by omega)
      have hend : ∀ (W : World), (B < W.heap.size ∧ W.cell? ⟨B, 0, none⟩ = some (.int .u8 22)) → Calls Try.prog 65 #[y.agg, .int .i64 who, .pointer (some ⟨B, 0, none⟩)] W fun r w' => r = .returned (.bool (endB 3 y who)) ∧ Below W.heap.size W w' := fun W hh => mark1_any 22 who y hh.1 hh.2
      have hBr : wr.cell? ⟨B, 0, none⟩ = some (.int .u8 22) := Below.at HB2.out (Below.at HB1.out HBC.out hB) (by omega)
      have HBR := Lib.hid hBr
      clear hBr
      simp only [EntV.agg] at hend
      have HEN := Lib.hid hend
      clear hend
      cases hm : endB 3 y who
      · rw [hm] at HEN hff
        have HFF := Lib.hid hff
        clear hff hm
        go_wp2_with (go_at_call 65; (with_reducible refine (HEN.out _ ⟨by simp; omega, Below.at ((Below.refl _ wr).alloc (Nat.le_refl _) _) HBR.out (by omega)⟩).mono ?_); rintro e w3 ⟨rfl, hb3⟩; have HB3 := Lib.hid (HB2.out.trans (Below.trans ((Below.refl _ wr).alloc (Nat.le_refl _) _) (hb3.mono (by simp)) |>.mono hsz)); clear hb3)
        go_roundw
        all_goals first | exact ⟨i + 1, hlt, by go_num, HFF.out, HB3.out⟩ | (simp [intOf]; omega)
      · rw [hm] at HEN hff
        have HFF := Lib.hid hff
        clear hff hm
        go_wp2_with (go_at_call 65; (with_reducible refine (HEN.out _ ⟨by simp; omega, Below.at ((Below.refl _ wr).alloc (Nat.le_refl _) _) HBR.out (by omega)⟩).mono ?_); rintro e w3 ⟨rfl, hb3⟩; have q0 : w3.cell? ⟨wr.heap.size, 0, none⟩ = some (.int .i64 y.at_) := Below.at hb3 (Ly.cellAt (World.alloc_heap_new wr _) 0 rfl) (by simp); have q1 : wr.heap.size < w3.heap.size := (by have := hb3.size; simp at this; omega); have HB3 := Lib.hid (HB2.out.trans (Below.trans ((Below.refl _ wr).alloc (Nat.le_refl _) _) (hb3.mono (by simp)) |>.mono hsz)); clear hb3)
        go_ret
        exact ⟨by (simp only [tillV]; rw [HFF.out]; rfl), HB1.out.trans (HB3.out.mono HB1.out.size)⟩
    · obtain rfl : i = l.length := by omega
      have p2 : decide ((l.length : Int) < (l.length : Int)) = false := by simp
      have hnone : l.find? (fun x => endB 3 x who) = none := by rw [HF.out, List.drop_length]; rfl
      have HFF := Lib.hid hnone
      clear hnone
      have hv : tillV 3 l frm who fin = max (fin - frm) 0 := by simp only [tillV, HFF.out]
      have HV := Lib.hid hv
      clear hv
      go_wp2
      all_goals
        go_ret
        refine ⟨?_, HB1.out.trans (HB2.out.mono HB1.out.size)⟩
        rw [HV.out]
        first | (rw [show max (fin - frm) 0 = 0 by omega]; done) | (rw [show max (fin - frm) 0 = fin - frm by omega]; done) | (rw [show max (fin - frm) 0 = 0 by omega]; rfl) | (rw [show max (fin - frm) 0 = fin - frm by omega]; rfl)
end Go.Proofs.Ytljfloopjgpaeab
