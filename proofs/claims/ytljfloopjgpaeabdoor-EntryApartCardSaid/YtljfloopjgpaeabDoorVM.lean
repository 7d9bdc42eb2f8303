/- entry.Put. -/
import Derived.Test.YtljfloopjgpaeabDoorVK
namespace Go.Proofs.YtljfloopjgpaeabDoor
set_option linter.unusedVariables false
set_option linter.unusedSimpArgs false
open Go.RowKit Go.Shelf
attribute [local go_sem] Oper.semAt_some
set_option maxRecDepth 100000
theorem bytesL_take {l : List EntV} {k : Nat} (h : k < l.length) : bytesL (l.take (k + 1)) = bytesL (l.take k) ++ bytesX l[k] := by
  unfold bytesL
  rw [List.take_succ_eq_append_getElem h, List.flatMap_append]
  simp
set_option maxHeartbeats 4000000 in
theorem ePut_any {w : World} {v : Value} {l : List EntV} (h : kEnt.R w v l) (hr : ∀ x ∈ l, rgE x) (hl : l.length ≤ 10000) : Calls Tryd.prog 13 #[v] w fun e w' => e = .returned (putV l) ∧ Below w.heap.size w w' := by
  obtain ⟨A, c, rfl, _, _, _⟩ := h.val
  have H := Lib.hid h
  have HR := Lib.hid hr
  clear h hr
  go_enter Tryd.func13, Tryd.ntmps13
  go_upto_region 2 with fail
  obtain ⟨w1, hw1⟩ : ∃ w1, w1 = w.alloc (.cells #[.pointer none, .slice none 0 0] 80) := ⟨_, rfl⟩
  have hS : SbL w.heap.size w.heap.size [] w1 := by rw [hw1]; exact sb_new (Nat.le_refl _)
  have hB1 : Below w.heap.size w w1 := by rw [hw1]; exact (Below.refl _ w).alloc (Nat.le_refl _) _
  rw [← hw1]
  have HS := Lib.hid hS
  have HB1 := Lib.hid hB1
  clear hw1 hS hB1
  go_wp2
  go_loopw [10] (fun i wr => ∃ k : Nat, k ≤ l.length ∧ i = .int .i64 k ∧ (l.take k).all entB = true ∧ SbL w.heap.size w.heap.size (bytesL (l.take k)) wr ∧ Below w.heap.size w wr) (fun i _ => l.length - (intOf i).toNat)
  case atStart => exact ⟨0, Nat.zero_le _, rfl, by simp, HS.out, HB1.out⟩
  case round =>
    obtain ⟨k, hk, rfl, hall, hs, hbl⟩ := hrel
    have HB := Lib.hid hbl
    have HS2 := Lib.hid hs
    have HALL := Lib.hid hall
    clear hbl hs hall
    by_cases hlt : k < l.length
    · obtain ⟨b, o, rfl, hb, g0, g1, g2, g3, g4, g5, g6, g7, g8, g9, g10, g11, g12⟩ := kEnt_at (H.out.keep HB.out) hlt
      obtain ⟨x, hx⟩ : ∃ x, x = l[k] := ⟨_, rfl⟩
      rw [← hx] at g0 g1 g2 g3 g4 g5 g6 g7 g8 g9 g10 g11 g12
      have hi1 : (k : Int) < (l.length : Int) := by omega
      have hi0 : (0 : Int) ≤ (k : Int) := by omega
      have hwr : IntKind.i64.wrap ((k : Int) + 1) = (k : Int) + 1 := IntWalk.i64_in _ (by omega)
      have hrx : rgE x := by rw [hx]; exact HR.out _ (List.getElem_mem hlt)
      have hchk := fun W => eCheck_any x W
      have hputno : entB x = false → putV l = .tuple #[.string ⟨#[]⟩, .int .i64 2] := fun hno => by
        unfold putV
        rw [if_neg]
        intro ha
        rw [List.all_eq_true] at ha
        have := ha x (by rw [hx]; exact List.getElem_mem hlt)
        rw [hno] at this
        cases this
      have htk : bytesL (l.take (k + 1)) = bytesL (l.take k) ++ bytesX x := by rw [hx]; exact bytesL_take hlt
      have hallk : entB x = true → (l.take (k + 1)).all entB = true := fun hy => by
        rw [List.take_succ_eq_append_getElem hlt, List.all_append, HALL.out]
        simp [← hx, hy]
      have hblen : (bytesL (l.take k)).length ≤ 10000000 := by
        have h1 := bytesL_len (l := l.take k) (fun y hy => HR.out y (List.mem_of_mem_take hy)) HALL.out
        have h2 : (l.take k).length ≤ 10000 := Nat.le_trans (List.length_take_le ..) (by omega)
        omega
      have HCHK := Lib.hid hchk
      have HRX := Lib.hid hrx
      have HTK := Lib.hid htk
      have HAK := Lib.hid hallk
      have HBL := Lib.hid hblen
      clear hrx htk hallk hblen hx hchk
      obtain ⟨xa, xk, x2, x3, x4, x5, x6, x7, x8, x9, x10, x11, x12⟩ := x
      simp only [EntV.agg] at HCHK g0 g1 g2 g3 g4 g5 g6 g7 g8 g9 g10 g11 g12
      cases hx : entB ⟨xa, xk, x2, x3, x4, x5, x6, x7, x8, x9, x10, x11, x12⟩ with
      | false =>
        rw [hx] at HCHK
        have hno := hputno hx
        have HNO := Lib.hid hno
        have e2 : errOf false = 2 := rfl
        rw [e2] at HCHK
        clear hputno hno hx e2
        go_wp2_with (first
          | ((with_reducible refine (HCHK.out _).mono ?_); rintro e w2 ⟨rfl, hb2⟩; (have HB2 := Lib.hid hb2); clear hb2))
        refine bodyPost_ret (results_tmp2 rfl _ _ _) rfl ?_
        exact ⟨by rw [HNO.out]; rfl, HB.out.trans (((Below.refl _ wr).alloc (Nat.le_refl _) _).mono HB.out.size |>.trans (HB2.out.mono (by simp; have := HB.out.size; omega)))⟩
      | true =>
        rw [hx] at HCHK
        have e2 : errOf true = 0 := rfl
        rw [e2] at HCHK
        have hone : ∀ W, Calls Tryd.prog 50 #[EntV.agg ⟨xa, xk, x2, x3, x4, x5, x6, x7, x8, x9, x10, x11, x12⟩] W fun e w' => e = .returned (.string ⟨(bytesX ⟨xa, xk, x2, x3, x4, x5, x6, x7, x8, x9, x10, x11, x12⟩).toArray⟩) ∧ Below W.heap.size W w' := fun W => by
          obtain ⟨p, hp, _⟩ := entB_facts hx
          exact one_any _ (okE_of hx HRX.out) p hp W
        simp only [EntV.agg] at hone
        obtain ⟨bx, hbx⟩ : ∃ bx, bx = bytesX ⟨xa, xk, x2, x3, x4, x5, x6, x7, x8, x9, x10, x11, x12⟩ := ⟨_, rfl⟩
        have hbxl : bx.length ≤ 1000 := by rw [hbx]; exact bytesX_len (okE_of hx HRX.out) hx
        rw [← hbx] at hone HTK
        have HONE := Lib.hid hone
        have hall2 := HAK.out hx
        have HA2 := Lib.hid hall2
        have HBXL := Lib.hid hbxl
        clear hputno e2 hone hx hbx hbxl hall2 HAK HRX
        go_upto_region 5 with fail
        obtain ⟨wx, hwx⟩ : ∃ wx, wx = wr.alloc (.cells #[.int .i64 xa, .int .u8 xk, .int .i64 x2, .int .i64 x3, .int .i64 x4, .int .i64 x5, .int .i64 x6, .int .i64 x7, .int .i64 x8, .int .i64 x9, .bool x10, .int .i64 x11, .int .u64 x12] 26) := ⟨_, rfl⟩
        have hX : wx.heap[wr.heap.size]? = some (.cells #[.int .i64 xa, .int .u8 xk, .int .i64 x2, .int .i64 x3, .int .i64 x4, .int .i64 x5, .int .i64 x6, .int .i64 x7, .int .i64 x8, .int .i64 x9, .bool x10, .int .i64 x11, .int .u64 x12] 26 (0, 0)) := by rw [hwx]; exact World.alloc_heap_new wr _
        have hbx : Below wr.heap.size wr wx := by rw [hwx]; exact (Below.refl _ wr).alloc (Nat.le_refl _) _
        rw [← hwx]
        have c0 : wx.cell? ⟨wr.heap.size, 0, none⟩ = some (.int .i64 xa) := Ly.cellAt hX 0 rfl
        have c1 : wx.cell? ⟨wr.heap.size, 1, none⟩ = some (.int .u8 xk) := Ly.cellAt hX 1 rfl
        have c2 : wx.cell? ⟨wr.heap.size, 2, none⟩ = some (.int .i64 x2) := Ly.cellAt hX 2 rfl
        have c3 : wx.cell? ⟨wr.heap.size, 3, none⟩ = some (.int .i64 x3) := Ly.cellAt hX 3 rfl
        have c4 : wx.cell? ⟨wr.heap.size, 4, none⟩ = some (.int .i64 x4) := Ly.cellAt hX 4 rfl
        have c5 : wx.cell? ⟨wr.heap.size, 5, none⟩ = some (.int .i64 x5) := Ly.cellAt hX 5 rfl
        have c6 : wx.cell? ⟨wr.heap.size, 6, none⟩ = some (.int .i64 x6) := Ly.cellAt hX 6 rfl
        have c7 : wx.cell? ⟨wr.heap.size, 7, none⟩ = some (.int .i64 x7) := Ly.cellAt hX 7 rfl
        have c8 : wx.cell? ⟨wr.heap.size, 8, none⟩ = some (.int .i64 x8) := Ly.cellAt hX 8 rfl
        have c9 : wx.cell? ⟨wr.heap.size, 9, none⟩ = some (.int .i64 x9) := Ly.cellAt hX 9 rfl
        have c10 : wx.cell? ⟨wr.heap.size, 10, none⟩ = some (.bool x10) := Ly.cellAt hX 10 rfl
        have c11 : wx.cell? ⟨wr.heap.size, 11, none⟩ = some (.int .i64 x11) := Ly.cellAt hX 11 rfl
        have c12 : wx.cell? ⟨wr.heap.size, 12, none⟩ = some (.int .u64 x12) := Ly.cellAt hX 12 rfl
        have hlx : wr.heap.size < wx.heap.size := (Array.getElem?_eq_some_iff.1 hX).1
        have HX := Lib.hid hX
        have HBX := Lib.hid hbx
        clear hwx hX hbx
        go_upto_region 8 with (first
          | ((with_reducible refine (HCHK.out _).mono ?_); rintro e w2 ⟨rfl, hb2⟩; (have HB2 := Lib.hid hb2); clear hb2))
        have hX2 := (HB2.out.block _ hlx).trans HX.out
        clear hlx c0 c1 c2 c3 c4 c5 c6 c7 c8 c9 c10 c11 c12
        have d0 : w2.cell? ⟨wr.heap.size, 0, none⟩ = some (.int .i64 xa) := Ly.cellAt hX2 0 rfl
        have d1 : w2.cell? ⟨wr.heap.size, 1, none⟩ = some (.int .u8 xk) := Ly.cellAt hX2 1 rfl
        have d2 : w2.cell? ⟨wr.heap.size, 2, none⟩ = some (.int .i64 x2) := Ly.cellAt hX2 2 rfl
        have d3 : w2.cell? ⟨wr.heap.size, 3, none⟩ = some (.int .i64 x3) := Ly.cellAt hX2 3 rfl
        have d4 : w2.cell? ⟨wr.heap.size, 4, none⟩ = some (.int .i64 x4) := Ly.cellAt hX2 4 rfl
        have d5 : w2.cell? ⟨wr.heap.size, 5, none⟩ = some (.int .i64 x5) := Ly.cellAt hX2 5 rfl
        have d6 : w2.cell? ⟨wr.heap.size, 6, none⟩ = some (.int .i64 x6) := Ly.cellAt hX2 6 rfl
        have d7 : w2.cell? ⟨wr.heap.size, 7, none⟩ = some (.int .i64 x7) := Ly.cellAt hX2 7 rfl
        have d8 : w2.cell? ⟨wr.heap.size, 8, none⟩ = some (.int .i64 x8) := Ly.cellAt hX2 8 rfl
        have d9 : w2.cell? ⟨wr.heap.size, 9, none⟩ = some (.int .i64 x9) := Ly.cellAt hX2 9 rfl
        have d10 : w2.cell? ⟨wr.heap.size, 10, none⟩ = some (.bool x10) := Ly.cellAt hX2 10 rfl
        have d11 : w2.cell? ⟨wr.heap.size, 11, none⟩ = some (.int .i64 x11) := Ly.cellAt hX2 11 rfl
        have d12 : w2.cell? ⟨wr.heap.size, 12, none⟩ = some (.int .u64 x12) := Ly.cellAt hX2 12 rfl
        have hlx2 : wr.heap.size < w2.heap.size := (Array.getElem?_eq_some_iff.1 hX2).1
        have hbb : Below wr.heap.size wr w2 := HBX.out.trans (HB2.out.mono HBX.out.size)
        have HBB := Lib.hid hbb
        clear hX2 hbb
        go_wp2_with (first
          | ((with_reducible refine (HONE.out _).mono ?_); rintro e w3 ⟨rfl, hb3⟩; (have HB3 := Lib.hid (HBB.out.trans (hb3.mono HBB.out.size))); clear hb3)
          | ((with_reducible refine (sbw_any (SbL.keep HS2.out HB3.out) (by have := HBL.out; have := HBXL.out; omega) (Nat.le_trans HB.out.size HB3.out.size)).mono ?_); rintro e w4 ⟨rfl, hs4, hb4, hk4⟩; (have HS4 := Lib.hid hs4); (have HB4 := Lib.hid hb4); clear hs4 hb4 hk4))
        go_roundw
        case rel => exact ⟨k + 1, hlt, by go_num, HA2.out, by rw [HTK.out]; exact HS4.out, (HB.out.trans (HB3.out.mono HB.out.size)).trans HB4.out⟩
        case measure => (simp [intOf] <;> omega)
    · obtain rfl : k = l.length := by omega
      have hp : putV l = .tuple #[.string ⟨(bytesL l).toArray⟩, .int .i64 0] := by
        have := HALL.out
        rw [List.take_length] at this
        unfold putV
        rw [if_pos this]
      have hs := HS2.out
      rw [List.take_length] at hs
      have HS3 := Lib.hid hs
      have HP := Lib.hid hp
      clear hs hp hlt hk
      go_wp2_with (first
        | ((with_reducible refine (sbString_any HS3.out HB.out.size).mono ?_); rintro e w5 ⟨rfl, hb5⟩; (have HB5 := Lib.hid hb5); clear hb5))
      refine bodyPost_ret (results_tmp2 rfl _ _ _) rfl ?_
      exact ⟨by rw [HP.out]; rfl, HB.out.trans HB5.out⟩
end Go.Proofs.YtljfloopjgpaeabDoor
