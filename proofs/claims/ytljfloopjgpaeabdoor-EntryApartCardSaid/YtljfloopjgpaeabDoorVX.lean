/- tollbarlaw14.alive: its walk. -/
import Derived.Test.YtljfloopjgpaeabDoorVV
namespace Go.Proofs.YtljfloopjgpaeabDoor
set_option linter.unusedVariables false
set_option linter.unusedSimpArgs false
open Go.RowKit Go.Shelf
attribute [local go_sem] Oper.semAt_some
set_option maxRecDepth 100000
theorem kEnt_one (W : World) (x : EntV) : kEnt.R (W.alloc (.cells x.cells.toArray 26)) (.slice (some ⟨W.heap.size, 0, none⟩) 1 1) [x] := by
  refine ⟨_, 1, rfl, Nat.le_refl _, by decide, by simp, fun _ => ⟨W.heap.size, 0, rfl, by simp, fun i y hy => ?_⟩⟩
  match i, hy with
  | 0, hy =>
    cases hy
    refine ⟨_, ⟨rfl, trivial⟩, fun j u hu => ?_⟩
    have := cells_at (World.alloc_heap_new W (.cells x.cells.toArray 26)) j u hu
    rw [Addr.add_lit] at this
    simpa [kEnt, Kn.flat] using this
  | n + 1, hy => simp at hy
theorem commit_yes (w : World) : Calls Tryd.prog 22 #[.int .u8 11] w fun e w' => e = .returned (.bool true) ∧ w = w' := by
  go_enter Tryd.func22, Tryd.ntmps22
  go_wp2
  go_ret
  exact ⟨rfl, rfl⟩
theorem commit_no (w : World) : Calls Tryd.prog 22 #[.int .u8 25] w fun e w' => e = .returned (.bool false) ∧ w = w' := by
  go_enter Tryd.func22, Tryd.ntmps22
  go_wp2
  go_ret
  exact ⟨rfl, rfl⟩
set_option maxHeartbeats 4000000 in
theorem alive14_any (w : World) (htab : Tab10 w) : Calls Tryd.prog 10 #[] w fun e w' => e = .returned (.bool true) ∧ Below w.heap.size w w' := by
  have hline : ∀ W, Below w.heap.size w W → Calls Tryd.prog 11 #[.agg #[.int .i64 7, .int .u8 3, .int .i64 0, .int .i64 0, .int .i64 2, .int .i64 1, .int .i64 (-1), .int .i64 (-1), .int .i64 5, .int .i64 0, .bool true, .int .i64 0, .int .u64 0]] W fun e w' => e = .returned (.tuple #[.string ⟨#[55, 32, 109, 101, 101, 116, 32, 48, 32, 50, 32, 49, 32, 45, 49, 32, 45, 49, 32, 53, 32, 49]⟩, .int .i64 0]) ∧ Below W.heap.size W w' := fun W hW => by
    have := eLine_any entA entA_rg W (Tab10.keep htab hW)
    rw [lineV, if_pos entA_ok, entA_line] at this
    exact this
  have hput : ∀ W : World, Calls Tryd.prog 13 #[.slice (some ⟨W.heap.size, 0, none⟩) 1 1] (W.alloc (.cells #[.int .i64 7, .int .u8 3, .int .i64 0, .int .i64 0, .int .i64 2, .int .i64 1, .int .i64 (-1), .int .i64 (-1), .int .i64 5, .int .i64 0, .bool true, .int .i64 0, .int .u64 0] 26)) fun e w' => e = .returned (.tuple #[.string ⟨#[7, 3, 0, 3, 1, 0, 0, 10, 1]⟩, .int .i64 0]) ∧ Below (W.alloc (.cells #[.int .i64 7, .int .u8 3, .int .i64 0, .int .i64 0, .int .i64 2, .int .i64 1, .int .i64 (-1), .int .i64 (-1), .int .i64 5, .int .i64 0, .bool true, .int .i64 0, .int .u64 0] 26)).heap.size (W.alloc (.cells #[.int .i64 7, .int .u8 3, .int .i64 0, .int .i64 0, .int .i64 2, .int .i64 1, .int .i64 (-1), .int .i64 (-1), .int .i64 5, .int .i64 0, .bool true, .int .i64 0, .int .u64 0] 26)) w' := fun W => by
    have := ePut_any (kEnt_one W entA) (fun y hy => by rw [List.mem_singleton.1 hy]; exact entA_rg) (by decide)
    rw [putV, if_pos (by simp [entA_ok]), entA_bytes] at this
    exact this
  have hput0 : ∀ W : World, Calls Tryd.prog 13 #[.slice (some ⟨W.heap.size, 0, none⟩) 1 1] (W.alloc (.cells #[.int .i64 0, .int .u8 0, .int .i64 0, .int .i64 0, .int .i64 0, .int .i64 0, .int .i64 0, .int .i64 0, .int .i64 0, .int .i64 0, .bool false, .int .i64 0, .int .u64 0] 26)) fun e w' => e = .returned (.tuple #[.string ⟨#[]⟩, .int .i64 2]) ∧ Below (W.alloc (.cells #[.int .i64 0, .int .u8 0, .int .i64 0, .int .i64 0, .int .i64 0, .int .i64 0, .int .i64 0, .int .i64 0, .int .i64 0, .int .i64 0, .bool false, .int .i64 0, .int .u64 0] 26)).heap.size (W.alloc (.cells #[.int .i64 0, .int .u8 0, .int .i64 0, .int .i64 0, .int .i64 0, .int .i64 0, .int .i64 0, .int .i64 0, .int .i64 0, .int .i64 0, .bool false, .int .i64 0, .int .u64 0] 26)) w' := fun W => by
    have h0 : entB (ent0 0 0) = false := by decide +kernel
    have := ePut_any (kEnt_one W (ent0 0 0)) (fun y hy => by rw [List.mem_singleton.1 hy]; exact ⟨by decide, by decide, by decide, by decide⟩) (by decide)
    rw [putV, if_neg (by simp [h0])] at this
    exact this
  have hget : ∀ W : World, Calls Tryd.prog 15 #[.string ⟨#[7, 3, 0, 3, 1, 0, 0, 10, 1]⟩] W fun e w' => (∃ A c, e = .returned (.tuple #[.slice A 1 c, .int .i64 0]) ∧ kEnt.R w' (.slice A 1 c) [entA]) ∧ Below W.heap.size W w' := fun W =>
    (eGet_any [7, 3, 0, 3, 1, 0, 0, 10, 1] (by decide) W).mono fun e w' ⟨h1, h2⟩ => ⟨get_put (fun x hx => by rw [List.mem_singleton.1 hx]; exact ⟨entA_ok, entA_rg⟩) (by rw [entA_bytes]; exact h1), h2⟩
  have hget7 : ∀ W : World, Calls Tryd.prog 15 #[.string ⟨#[7]⟩] W fun e w' => e = .returned (.tuple #[.slice none 0 0, .int .i64 7]) ∧ Below W.heap.size W w' := fun W =>
    (eGet_any [7] (by decide) W).mono fun e w' ⟨h1, h2⟩ => ⟨get_short h1, h2⟩
  have hword : ∀ W : World, Calls Tryd.prog 20 #[.int .u8 26] W fun e w' => e = .returned (.string ⟨#[102, 114, 101, 101]⟩) ∧ Below W.heap.size W w' := fun W => eWord_any 26 W
  have HLINE := Lib.hid hline
  have HPUT := Lib.hid hput
  have HPUT0 := Lib.hid hput0
  have HGET := Lib.hid hget
  have HGET7 := Lib.hid hget7
  have HWORD := Lib.hid hword
  clear hline hput hput0 hget hget7 hword htab
  go_enter Tryd.func10, Tryd.ntmps10
  go_upto_region 2 with fail
  obtain ⟨w1, hw1⟩ : ∃ w1, w1 = w.alloc (.cells #[.int .i64 7, .int .u8 3, .int .i64 0, .int .i64 0, .int .i64 2, .int .i64 1, .int .i64 (-1), .int .i64 (-1), .int .i64 5, .int .i64 0, .bool true, .int .i64 0, .int .u64 0] 26) := ⟨_, rfl⟩
  have hE1 : w1.heap[w.heap.size]? = some (.cells #[.int .i64 7, .int .u8 3, .int .i64 0, .int .i64 0, .int .i64 2, .int .i64 1, .int .i64 (-1), .int .i64 (-1), .int .i64 5, .int .i64 0, .bool true, .int .i64 0, .int .u64 0] 26 (0, 0)) := by rw [hw1]; exact World.alloc_heap_new w _
  have hb1 : Below w.heap.size w w1 := by rw [hw1]; exact (Below.refl _ w).alloc (Nat.le_refl _) _
  rw [← hw1]
  have c0 : w1.cell? ⟨w.heap.size, 0, none⟩ = some (.int .i64 7) := Ly.cellAt hE1 0 rfl
  have c1 : w1.cell? ⟨w.heap.size, 1, none⟩ = some (.int .u8 3) := Ly.cellAt hE1 1 rfl
  have c2 : w1.cell? ⟨w.heap.size, 2, none⟩ = some (.int .i64 0) := Ly.cellAt hE1 2 rfl
  have c3 : w1.cell? ⟨w.heap.size, 3, none⟩ = some (.int .i64 0) := Ly.cellAt hE1 3 rfl
  have c4 : w1.cell? ⟨w.heap.size, 4, none⟩ = some (.int .i64 2) := Ly.cellAt hE1 4 rfl
  have c5 : w1.cell? ⟨w.heap.size, 5, none⟩ = some (.int .i64 1) := Ly.cellAt hE1 5 rfl
  have c6 : w1.cell? ⟨w.heap.size, 6, none⟩ = some (.int .i64 (-1)) := Ly.cellAt hE1 6 rfl
  have c7 : w1.cell? ⟨w.heap.size, 7, none⟩ = some (.int .i64 (-1)) := Ly.cellAt hE1 7 rfl
  have c8 : w1.cell? ⟨w.heap.size, 8, none⟩ = some (.int .i64 5) := Ly.cellAt hE1 8 rfl
  have c9 : w1.cell? ⟨w.heap.size, 9, none⟩ = some (.int .i64 0) := Ly.cellAt hE1 9 rfl
  have c10 : w1.cell? ⟨w.heap.size, 10, none⟩ = some (.bool true) := Ly.cellAt hE1 10 rfl
  have c11 : w1.cell? ⟨w.heap.size, 11, none⟩ = some (.int .i64 0) := Ly.cellAt hE1 11 rfl
  have c12 : w1.cell? ⟨w.heap.size, 12, none⟩ = some (.int .u64 0) := Ly.cellAt hE1 12 rfl
  have hl1 : w.heap.size < w1.heap.size := (Array.getElem?_eq_some_iff.1 hE1).1
  have HE1 := Lib.hid hE1
  have HB1 := Lib.hid hb1
  clear hw1 hE1 hb1
  go_upto_region 3 with ((with_reducible refine (HLINE.out _ HB1.out).mono ?_); rintro e w2 ⟨rfl, hb2⟩; (have HB2 := Lib.hid hb2); clear hb2)
  have hE2 := (HB2.out.block _ hl1).trans HE1.out
  clear hl1 c0 c1 c2 c3 c4 c5 c6 c7 c8 c9 c10 c11 c12
  have c0 : w2.cell? ⟨w.heap.size, 0, none⟩ = some (.int .i64 7) := Ly.cellAt hE2 0 rfl
  have c1 : w2.cell? ⟨w.heap.size, 1, none⟩ = some (.int .u8 3) := Ly.cellAt hE2 1 rfl
  have c2 : w2.cell? ⟨w.heap.size, 2, none⟩ = some (.int .i64 0) := Ly.cellAt hE2 2 rfl
  have c3 : w2.cell? ⟨w.heap.size, 3, none⟩ = some (.int .i64 0) := Ly.cellAt hE2 3 rfl
  have c4 : w2.cell? ⟨w.heap.size, 4, none⟩ = some (.int .i64 2) := Ly.cellAt hE2 4 rfl
  have c5 : w2.cell? ⟨w.heap.size, 5, none⟩ = some (.int .i64 1) := Ly.cellAt hE2 5 rfl
  have c6 : w2.cell? ⟨w.heap.size, 6, none⟩ = some (.int .i64 (-1)) := Ly.cellAt hE2 6 rfl
  have c7 : w2.cell? ⟨w.heap.size, 7, none⟩ = some (.int .i64 (-1)) := Ly.cellAt hE2 7 rfl
  have c8 : w2.cell? ⟨w.heap.size, 8, none⟩ = some (.int .i64 5) := Ly.cellAt hE2 8 rfl
  have c9 : w2.cell? ⟨w.heap.size, 9, none⟩ = some (.int .i64 0) := Ly.cellAt hE2 9 rfl
  have c10 : w2.cell? ⟨w.heap.size, 10, none⟩ = some (.bool true) := Ly.cellAt hE2 10 rfl
  have c11 : w2.cell? ⟨w.heap.size, 11, none⟩ = some (.int .i64 0) := Ly.cellAt hE2 11 rfl
  have c12 : w2.cell? ⟨w.heap.size, 12, none⟩ = some (.int .u64 0) := Ly.cellAt hE2 12 rfl
  have hl2 : w.heap.size < w2.heap.size := (Array.getElem?_eq_some_iff.1 hE2).1
  have HE2 := Lib.hid hE2
  have HBB2 := Lib.hid (HB1.out.trans (HB2.out.mono HB1.out.size))
  clear hE2
  go_upto_region 7 with (first
    | ((with_reducible refine (HPUT.out _).mono ?_); rintro e w3 ⟨rfl, hb3⟩; (have HB3 := Lib.hid hb3); clear hb3)
    | ((with_reducible refine (HGET.out _).mono ?_); rintro e w4 ⟨⟨A, c, rfl, hR⟩, hb4⟩; (have HB4 := Lib.hid hb4); (have HR := Lib.hid hR); clear hb4 hR)
    | ((with_reducible refine (HGET7.out _).mono ?_); rintro e w5 ⟨rfl, hb5⟩; (have HB5 := Lib.hid hb5); clear hb5)
    | ((with_reducible refine (HPUT0.out _).mono ?_); rintro e w6 ⟨rfl, hb6⟩; (have HB6 := Lib.hid hb6); clear hb6))
  have hA3 : Below w2.heap.size w2 w3 := ((Below.refl _ w2).alloc (Nat.le_refl _) _).trans (HB3.out.mono (by simp))
  have hA4 : Below w2.heap.size w2 w4 := hA3.trans (HB4.out.mono hA3.size)
  have hA6' : Below w4.heap.size w4 w6 := (HB5.out.alloc HB5.out.size _).trans (HB6.out.mono (by have := HB5.out.size; simp; omega))
  have hA6 : Below w2.heap.size w2 w6 := hA4.trans (hA6'.mono hA4.size)
  have hE6 := (hA6.block _ hl2).trans HE2.out
  have hR6 : kEnt.R (w6.alloc (.cells #[.int .i64 7, .int .u8 3, .int .i64 0, .int .i64 0, .int .i64 2, .int .i64 1, .int .i64 (-1), .int .i64 (-1), .int .i64 5, .int .i64 0, .bool true, .int .i64 0, .int .u64 0] 26)) (.slice A 1 c) [entA] := (HR.out.keep hA6').keep ((Below.refl _ w6).alloc (Nat.le_refl _) _)
  have hsame : Calls Tryd.prog 19 #[.slice A 1 c, .slice (some ⟨w6.heap.size, 0, none⟩) 1 1] (w6.alloc (.cells #[.int .i64 7, .int .u8 3, .int .i64 0, .int .i64 0, .int .i64 2, .int .i64 1, .int .i64 (-1), .int .i64 (-1), .int .i64 5, .int .i64 0, .bool true, .int .i64 0, .int .u64 0] 26)) fun e w' => e = .returned (.bool true) ∧ Below (w6.alloc (.cells #[.int .i64 7, .int .u8 3, .int .i64 0, .int .i64 0, .int .i64 2, .int .i64 1, .int .i64 (-1), .int .i64 (-1), .int .i64 5, .int .i64 0, .bool true, .int .i64 0, .int .u64 0] 26)).heap.size (w6.alloc (.cells #[.int .i64 7, .int .u8 3, .int .i64 0, .int .i64 0, .int .i64 2, .int .i64 1, .int .i64 (-1), .int .i64 (-1), .int .i64 5, .int .i64 0, .bool true, .int .i64 0, .int .u64 0] 26)) w' := same14_yes hR6 (kEnt_one w6 entA)
  have HSAME := Lib.hid hsame
  have HBB6 := Lib.hid (HBB2.out.trans (hA6.mono HBB2.out.size))
  clear hl2 c0 c1 c2 c3 c4 c5 c6 c7 c8 c9 c10 c11 c12 hA3 hA4 hA6' hA6 hR6 hsame
  have d0 : w6.cell? ⟨w.heap.size, 0, none⟩ = some (.int .i64 7) := Ly.cellAt hE6 0 rfl
  have d1 : w6.cell? ⟨w.heap.size, 1, none⟩ = some (.int .u8 3) := Ly.cellAt hE6 1 rfl
  have d2 : w6.cell? ⟨w.heap.size, 2, none⟩ = some (.int .i64 0) := Ly.cellAt hE6 2 rfl
  have d3 : w6.cell? ⟨w.heap.size, 3, none⟩ = some (.int .i64 0) := Ly.cellAt hE6 3 rfl
  have d4 : w6.cell? ⟨w.heap.size, 4, none⟩ = some (.int .i64 2) := Ly.cellAt hE6 4 rfl
  have d5 : w6.cell? ⟨w.heap.size, 5, none⟩ = some (.int .i64 1) := Ly.cellAt hE6 5 rfl
  have d6 : w6.cell? ⟨w.heap.size, 6, none⟩ = some (.int .i64 (-1)) := Ly.cellAt hE6 6 rfl
  have d7 : w6.cell? ⟨w.heap.size, 7, none⟩ = some (.int .i64 (-1)) := Ly.cellAt hE6 7 rfl
  have d8 : w6.cell? ⟨w.heap.size, 8, none⟩ = some (.int .i64 5) := Ly.cellAt hE6 8 rfl
  have d9 : w6.cell? ⟨w.heap.size, 9, none⟩ = some (.int .i64 0) := Ly.cellAt hE6 9 rfl
  have d10 : w6.cell? ⟨w.heap.size, 10, none⟩ = some (.bool true) := Ly.cellAt hE6 10 rfl
  have d11 : w6.cell? ⟨w.heap.size, 11, none⟩ = some (.int .i64 0) := Ly.cellAt hE6 11 rfl
  have d12 : w6.cell? ⟨w.heap.size, 12, none⟩ = some (.int .u64 0) := Ly.cellAt hE6 12 rfl
  have hl6 : w.heap.size < w6.heap.size := (Array.getElem?_eq_some_iff.1 hE6).1
  clear hE6
  go_wp2_with (first
    | ((with_reducible refine HSAME.out.mono ?_); rintro e w7 ⟨rfl, hb7⟩; (have HB7 := Lib.hid hb7); clear hb7)
    | ((with_reducible refine (commit_yes _).mono ?_); rintro e w' ⟨rfl, rfl⟩)
    | ((with_reducible refine (commit_no _).mono ?_); rintro e w' ⟨rfl, rfl⟩)
    | ((with_reducible refine (HWORD.out _).mono ?_); rintro e w8 ⟨rfl, hb8⟩; (have HB8 := Lib.hid hb8); clear hb8))
  go_ret
  exact ⟨rfl, HBB6.out.trans ((((Below.refl _ w6).alloc (Nat.le_refl _) _).trans (HB7.out.mono (by simp))).trans (HB8.out.mono (by have := HB7.out.size; simp at this; omega)) |>.mono HBB6.out.size)⟩
end Go.Proofs.YtljfloopjgpaeabDoor
