/- entry's reader: the walk of one. -/
import Derived.Deep.Cut
import Derived.Deep.DeepCutAuto
import Derived.Deep.CutBlock
import Derived.Sort.CutIn
import Derived.RangeFuncNested
import Derived.RangeFuncBound
import Derived.RangeFuncCalls
import Derived.RangeFuncLeaves
import Derived.LoopNIn
import Derived.LoopIn
import Derived.Test.YtljfloopjgpaeabDoorVL
namespace Go.Proofs.YtljfloopjgpaeabDoor
set_option linter.unusedVariables false
set_option linter.unusedSimpArgs false
open Go.RowKit Go.Shelf
attribute [local go_sem] Oper.semAt_some run_store_fn
set_option maxRecDepth 100000
theorem XAt.new {w : World} : XAt w.heap.size (ent0 0 0) (w.alloc (.cells #[.int .i64 0, .int .u8 0, .int .i64 0, .int .i64 0, .int .i64 0, .int .i64 0, .int .i64 0, .int .i64 0, .int .i64 0, .int .i64 0, .bool false, .int .i64 0, .int .u64 0] 26)) := World.alloc_heap_new w _
set_option maxHeartbeats 8000000 in
theorem rdOne_in (n : Nat) (hn : 3 ≤ n) {w : World} {p : Nat} {r : Rd} (h : RdAt p r w) (hl : r.l.length ≤ 1000000000) :
    CallsIn Fence.wide n Tryd.prog 53 #[.pointer (some ⟨p, 0, none⟩)] w fun e w' => e = .returned (rdOne r).1.agg ∧ RdAt p (rdOne r).2 w' ∧ OnlyP p w w' := by
  have h1 : 1 ≤ n := by omega
  obtain ⟨⟨na, r1⟩, hq1⟩ : ∃ q, q = r.num 9223372036854775807 := ⟨_, rfl⟩
  obtain ⟨⟨nk, r2⟩, hq2⟩ : ∃ q, q = r1.num 255 := ⟨_, rfl⟩
  have hD : rdOne r = rdNames (ent0 (na : Int) (nk : Int), r2) (match hasOf (nk : Int) with | none => [] | some p => p.2) := by
    unfold rdOne
    rw [← hq1]
    simp only
    rw [← hq2]
    rfl
  obtain ⟨Z, hZ⟩ : ∃ Z, Z = rdOne r := ⟨_, rfl⟩
  rw [← hZ] at hD ⊢
  have hla : na ≤ 9223372036854775807 := by have := Rd.num_le r 9223372036854775807; rw [← hq1] at this; exact this
  have hlk : nk ≤ 255 := by have := Rd.num_le r1 255; rw [← hq2] at this; exact this
  have hl1 : r1.l.length ≤ 1000000000 := by have := Rd.num_len r 9223372036854775807; rw [← hq1] at this; exact Nat.le_trans this hl
  have hl2 : r2.l.length ≤ 1000000000 := by have := Rd.num_len r1 255; rw [← hq2] at this; exact Nat.le_trans this hl1
  have hn1 : ∀ W, RdAt p r W → Calls Tryd.prog 103 #[.pointer (some ⟨p, 0, none⟩), .int .u64 9223372036854775807] W fun e w' => e = .returned (.int .u64 na) ∧ RdAt p r1 w' ∧ OnlyP p W w' := fun W hW => by
    have := rdNum_any hW hl 9223372036854775807
    rw [← hq1] at this
    exact this
  have hn2 : ∀ W, RdAt p r1 W → Calls Tryd.prog 103 #[.pointer (some ⟨p, 0, none⟩), .int .u64 255] W fun e w' => e = .returned (.int .u64 nk) ∧ RdAt p r2 w' ∧ OnlyP p W w' := fun W hW => by
    have := rdNum_any hW hl1 255
    rw [← hq2] at this
    exact this
  have hwa : IntKind.i64.wrap (na : Int) = (na : Int) := IntWalk.i64_in _ (by omega)
  have hwk : IntKind.u8.wrap (nk : Int) = (nk : Int) := by rw [IntKind.wrap_u8]; omega
  have HD := Lib.hid hD
  have HR := Lib.hid h
  have HN1 := Lib.hid hn1
  have HN2 := Lib.hid hn2
  have HL2 := Lib.hid hl2
  have hltp : p < w.heap.size := h.lt
  clear hZ hD hq1 hq2 hla hlk hl1 hl2 hl hn1 hn2 h
  refine callsIn_of_wp_marks Tryd.func53 rfl trivial ?_ rfl
  simp only [Tryd.ntmps53, List.size_toArray, List.length_cons, List.length_nil, Nat.reduceAdd, Nat.reduceSub, Array.replicate_succ, Array.replicate_zero, List.push_toArray, List.append_toArray, List.nil_append, List.cons_append]
  refine wpIn_wide.2 ?_
  go_upto_region 1 with fail
  obtain ⟨w1, hw1⟩ : ∃ w1, w1 = (w.alloc (.cells #[.pointer (some ⟨p, 0, none⟩)] 87)).alloc (.cells #[.int .i64 0, .int .u8 0, .int .i64 0, .int .i64 0, .int .i64 0, .int .i64 0, .int .i64 0, .int .i64 0, .int .i64 0, .int .i64 0, .bool false, .int .i64 0, .int .u64 0] 26) := ⟨_, rfl⟩
  have hX1 : XAt (w.heap.size + 1) (ent0 0 0) w1 := by
    rw [hw1]
    have := XAt.new (w := w.alloc (.cells #[.pointer (some ⟨p, 0, none⟩)] 87))
    simpa using this
  have hB1 : w1.heap[w.heap.size]? = some (.cells #[.pointer (some ⟨p, 0, none⟩)] 87 (0, 0)) := by rw [hw1]; exact (Below.heap_alloc _ _ _ (by simp)).trans (World.alloc_heap_new w _)
  have hb1 : Below w.heap.size w w1 := by rw [hw1]; exact ((Below.refl _ w).alloc (Nat.le_refl _) _).alloc (by simp) _
  rw [← hw1]
  have hR1 : RdAt p r w1 := HR.out.keep hb1
  have c0 : w1.cell? ⟨w.heap.size, 0, none⟩ = some (.pointer (some ⟨p, 0, none⟩)) := Ly.cellAt hB1 0 rfl
  have hl1 : w.heap.size < w1.heap.size := (Array.getElem?_eq_some_iff.1 hB1).1
  have HX1 := Lib.hid hX1
  have HB1 := Lib.hid hB1
  have HR1 := Lib.hid hR1
  have HO1 := Lib.hid (OnlyP.of_below (p := p) hb1)
  have hne0 : w.heap.size ≠ p := by omega
  have hne1 : w.heap.size + 1 ≠ p := by omega
  clear hw1 hX1 hB1 hb1 hR1
  go_upto_region 2 with ((with_reducible refine (HN1.out _ HR1.out).mono ?_); rintro e w2 ⟨rfl, hq, ho⟩; (have hx2 := XAt.only HX1.out ho hne1); (have hb2 := (ho.block _ hl1 hne0).trans HB1.out); (have g0 := Ly.cellAt hx2 0 rfl); (have f0 := Lib.frozen_of_heap hx2 0); (have lx := XAt.lt hx2); (have HX2 := Lib.hid hx2); (have HB2 := Lib.hid hb2); (have HR2 := Lib.hid hq); (have HO2 := Lib.hid (HO1.out.trans ho)); clear hx2 hb2 hq ho)
  obtain ⟨w3, hw3⟩ : ∃ w3, w3 = w2.setCell ⟨w.heap.size + 1, 0, none⟩ (.int .i64 (na : Int)) := ⟨_, rfl⟩
  have hX3 : XAt (w.heap.size + 1) (ent0 (na : Int) 0) w3 := by rw [hw3]; exact HX2.out.set0 _
  have hB3 : w3.heap[w.heap.size]? = some (.cells #[.pointer (some ⟨p, 0, none⟩)] 87 (0, 0)) := by rw [hw3]; exact (Below.heap_setCell _ _ _ _ (by simp)).trans HB2.out
  have hR3 : RdAt p r1 w3 := by rw [hw3]; exact HR2.out.setX (by omega)
  have hO3 : OnlyP p w w3 := by rw [hw3]; exact HO2.out.setX (by omega)
  rw [← hw3]
  have c3 : w3.cell? ⟨w.heap.size, 0, none⟩ = some (.pointer (some ⟨p, 0, none⟩)) := Ly.cellAt hB3 0 rfl
  have hl3 : w.heap.size < w3.heap.size := (Array.getElem?_eq_some_iff.1 hB3).1
  have HX3 := Lib.hid hX3
  have HB3 := Lib.hid hB3
  have HR3 := Lib.hid hR3
  have HO3 := Lib.hid hO3
  clear hw3 hX3 hB3 hR3 hO3 g0 f0 lx c0 hl1
  go_upto_region 3 with ((with_reducible refine (HN2.out _ HR3.out).mono ?_); rintro e w4 ⟨rfl, hq, ho⟩; (have hx2 := XAt.only HX3.out ho hne1); (have hb2 := (ho.block _ hl3 hne0).trans HB3.out); (have g0 := Ly.cellAt hx2 1 rfl); (have f0 := Lib.frozen_of_heap hx2 1); (have lx := XAt.lt hx2); (have HX4 := Lib.hid hx2); (have HB4 := Lib.hid hb2); (have HR4 := Lib.hid hq); (have HO4 := Lib.hid (HO3.out.trans ho)); clear hx2 hb2 hq ho)
  obtain ⟨w5, hw5⟩ : ∃ w5, w5 = w4.setCell ⟨w.heap.size + 1, 1, none⟩ (.int .u8 (nk : Int)) := ⟨_, rfl⟩
  have hX5 : XAt (w.heap.size + 1) (ent0 (na : Int) (nk : Int)) w5 := by rw [hw5]; exact HX4.out.set1 _
  have hB5 : w5.heap[w.heap.size]? = some (.cells #[.pointer (some ⟨p, 0, none⟩)] 87 (0, 0)) := by rw [hw5]; exact (Below.heap_setCell _ _ _ _ (by simp)).trans HB4.out
  have hR5 : RdAt p r2 w5 := by rw [hw5]; exact HR4.out.setX (by omega)
  have hO5 : OnlyP p w w5 := by rw [hw5]; exact HO4.out.setX (by omega)
  rw [← hw5]
  have HIN := Lib.hid (Lx.II.nil (Below.refl w5.heap.size w5))
  have hlX5 := hX5.lt
  have HX5 := Lib.hid hX5
  have HB5 := Lib.hid hB5
  have HR5 := Lib.hid hR5
  have HO5 := Lib.hid hO5
  clear hw5 hX5 hB5 hR5 hO5 g0 f0 lx c3 hl3
  cases hk : hasOf (nk : Int) with
  | none =>
    refine Lx.regionS (by kernel_rfl) (by kernel_rfl) HIN.out.1 HIN.out.2 (by simp only [List.size_toArray, List.length_cons, List.length_nil, Nat.reduceAdd]; rfl) (fun O Z hO hZ => ?_); have HO := Lib.hid hO; clear hO
    first
      | (apply Lx.kp HO 1; (case hx => exact ⟨rfl, rfl, rfl⟩); (case hk => decide +kernel); (case hv => intro w_ hw_; (go_simp <;> first | with_reducible rfl | exact ⟨rfl, rfl⟩)); simp only [Act.put, Lx.p1, Lx.p2, Lx.p3])
    first
      | (apply Lx.kr HO 2; (case hx => exact ⟨rfl, rfl, rfl⟩); (case hk => decide +kernel); (case hv => intro w_ hw_; have c1 : w_.cell? ⟨w.heap.size + 1, 1, none⟩ = some (.int .u8 (nk : Int)) := Ly.cellAt ((hw_.below.block _ hlX5).trans HX5.out) 1 rfl; (go_simp <;> first | with_reducible rfl | exact ⟨rfl, rfl⟩)); simp only [Act.put, Lx.p1, Lx.p2, Lx.p3])
    first
      | (apply Lx.kR HO 0 (relN (nk : Int)); (case hx => exact ⟨rfl, rfl, rfl⟩); (case hk => decide +kernel); (case hrun => intro w_; (go_simp <;> first | with_reducible rfl | exact ⟨rfl, rfl⟩)); (case hne => exact relN_ok _); (case hc => intro w_ hw_; exact forms_no hk w_))
    rintro _ _ ⟨rr, rfl, rfl⟩
    simp only [Act.put, Lx.p1, Lx.p2, Lx.p3]
    first
      | (apply Lx.kr HO 3; (case hx => exact ⟨rfl, rfl, rfl⟩); (case hk => decide +kernel); (case hv => intro w_ hw_; have q_ := ask1_no (Lx.m0 hw_.more); (go_simp <;> first | with_reducible rfl | exact ⟨rfl, rfl⟩)); simp only [Act.put, Lx.p1, Lx.p2, Lx.p3])
    first
      | (apply Lx.kp HO 4; (case hx => exact ⟨rfl, rfl, rfl⟩); (case hk => decide +kernel); (case hv => intro w_ hw_; have q_ := field_form ⟨#[]⟩ (.slice none 0 0) w_; (go_simp <;> first | with_reducible rfl | exact ⟨rfl, rfl⟩)); simp only [Act.put, Lx.p1, Lx.p2, Lx.p3])
    first
      | (apply Lx.kr HO 5; (case hx => exact ⟨rfl, rfl, rfl⟩); (case hk => decide +kernel); (case hv => intro w_ hw_; skip; (go_simp <;> first | with_reducible rfl | exact ⟨rfl, rfl⟩)); simp only [Act.put, Lx.p1, Lx.p2, Lx.p3])
    first
      | (apply Lx.kp HO 6; (case hx => exact ⟨rfl, rfl, rfl⟩); (case hk => decide +kernel); (case hv => intro w_ hw_; (go_simp <;> first | with_reducible rfl | exact ⟨rfl, rfl⟩)); simp only [Act.put, Lx.p1, Lx.p2, Lx.p3])
    refine Lx.kd HO (by kernel_rfl) (fun hiv2 => hZ _ _ (fun wr hw2 => ?_))
    clear hZ Z HO O
    have hB2 := hw2.below
    have hx0 : XAt (w.heap.size + 1) (ent0 (na : Int) (nk : Int)) wr := (hB2.block _ hlX5).trans HX5.out
    obtain ⟨y, hy⟩ : ∃ y, y = ent0 (na : Int) (nk : Int) := ⟨_, rfl⟩
    have hx : XAt (w.heap.size + 1) y wr := by rw [hy]; exact hx0
    have hzz : Z = (y, r2) := by rw [HD.out, hk, hy]; rfl
    have HZ := Lib.hid hzz
    have HX := Lib.hid hx
    have HRQ := Lib.hid (HR5.out.keep hB2)
    have HON := Lib.hid (HO5.out.trans (OnlyP.of_below (p := p) hB2))
    have hneX : w.heap.size + 1 ≠ p := hne1
    clear hw2 hiv2 HIN hB2 hx0 hy hzz
    go_wp2
    refine wp_loop_K (fun a wr' => a = _ ∧ wr' = wr) (fun _ _ => 0) ⟨rfl, rfl⟩ ?_
    rintro a wr' ⟨rfl, hww⟩ K0 hK0
    rw [hww]
    clear hK0 hww
    have c0 : wr.cell? ⟨w.heap.size + 1, 0, none⟩ = some (.int .i64 y.at_) := Ly.cellAt hx 0 rfl
    have f0 := Lib.frozen_of_heap hx 0
    have c1 : wr.cell? ⟨w.heap.size + 1, 1, none⟩ = some (.int .u8 y.kind) := Ly.cellAt hx 1 rfl
    have f1 := Lib.frozen_of_heap hx 1
    have c2 : wr.cell? ⟨w.heap.size + 1, 2, none⟩ = some (.int .i64 y.worker) := Ly.cellAt hx 2 rfl
    have f2 := Lib.frozen_of_heap hx 2
    have c3 : wr.cell? ⟨w.heap.size + 1, 3, none⟩ = some (.int .i64 y.task) := Ly.cellAt hx 3 rfl
    have f3 := Lib.frozen_of_heap hx 3
    have c4 : wr.cell? ⟨w.heap.size + 1, 4, none⟩ = some (.int .i64 y.peer) := Ly.cellAt hx 4 rfl
    have f4 := Lib.frozen_of_heap hx 4
    have c5 : wr.cell? ⟨w.heap.size + 1, 5, none⟩ = some (.int .i64 y.ch) := Ly.cellAt hx 5 rfl
    have f5 := Lib.frozen_of_heap hx 5
    have c6 : wr.cell? ⟨w.heap.size + 1, 6, none⟩ = some (.int .i64 y.cs) := Ly.cellAt hx 6 rfl
    have f6 := Lib.frozen_of_heap hx 6
    have c7 : wr.cell? ⟨w.heap.size + 1, 7, none⟩ = some (.int .i64 y.pc) := Ly.cellAt hx 7 rfl
    have f7 := Lib.frozen_of_heap hx 7
    have c8 : wr.cell? ⟨w.heap.size + 1, 8, none⟩ = some (.int .i64 y.val) := Ly.cellAt hx 8 rfl
    have f8 := Lib.frozen_of_heap hx 8
    have c9 : wr.cell? ⟨w.heap.size + 1, 9, none⟩ = some (.int .i64 y.val2) := Ly.cellAt hx 9 rfl
    have f9 := Lib.frozen_of_heap hx 9
    have c10 : wr.cell? ⟨w.heap.size + 1, 10, none⟩ = some (.bool y.ok) := Ly.cellAt hx 10 rfl
    have f10 := Lib.frozen_of_heap hx 10
    have c11 : wr.cell? ⟨w.heap.size + 1, 11, none⟩ = some (.int .i64 y.code) := Ly.cellAt hx 11 rfl
    have f11 := Lib.frozen_of_heap hx 11
    have c12 : wr.cell? ⟨w.heap.size + 1, 12, none⟩ = some (.int .u64 y.set) := Ly.cellAt hx 12 rfl
    have f12 := Lib.frozen_of_heap hx 12
    have lx := hx.lt
    clear hx
    go_wp2
    obtain ⟨we, hwe⟩ : ∃ we, we = (((((((((((((wr.setCell ⟨w.heap.size + 1, 0, none⟩ (.int .i64 y.at_)).setCell ⟨w.heap.size + 1, 1, none⟩ (.int .u8 y.kind)).setCell ⟨w.heap.size + 1, 2, none⟩ (.int .i64 y.worker)).setCell ⟨w.heap.size + 1, 3, none⟩ (.int .i64 y.task)).setCell ⟨w.heap.size + 1, 4, none⟩ (.int .i64 y.peer)).setCell ⟨w.heap.size + 1, 5, none⟩ (.int .i64 y.ch)).setCell ⟨w.heap.size + 1, 6, none⟩ (.int .i64 y.cs)).setCell ⟨w.heap.size + 1, 7, none⟩ (.int .i64 y.pc)).setCell ⟨w.heap.size + 1, 8, none⟩ (.int .i64 y.val)).setCell ⟨w.heap.size + 1, 9, none⟩ (.int .i64 y.val2)).setCell ⟨w.heap.size + 1, 10, none⟩ (.bool y.ok)).setCell ⟨w.heap.size + 1, 11, none⟩ (.int .i64 y.code)).setCell ⟨w.heap.size + 1, 12, none⟩ (.int .u64 y.set)) := ⟨_, rfl⟩
    have hxe : XAt (w.heap.size + 1) y we := by
      have hx := HX.out
      unfold XAt at hx ⊢
      simp [hwe, World.setCell, Array.getElem?_modify, hx]
    have hre : RdAt p r2 we := by
      rw [hwe]
      (repeat refine RdAt.setX ?_ (fun e => hneX e.symm))
      exact HRQ.out
    have hoe : OnlyP p w we := by
      rw [hwe]
      (repeat refine OnlyP.setX ?_ (Nat.le_succ _))
      exact HON.out
    rw [← hwe]
    clear hwe c0 c1 c2 c3 c4 c5 c6 c7 c8 c9 c10 c11 c12 f0 f1 f2 f3 f4 f5 f6 f7 f8 f9 f10 f11 f12 lx
    refine leaves_all (B := w.heap.size) (fun W => XAt (w.heap.size + 1) y W ∧ RdAt p r2 W ∧ OnlyP p w W) ?_ ?_ [] we (by simp [DefS]) List.nodup_nil (by simp) ⟨hxe, hre, hoe⟩
    · rintro W D hD hW ⟨q1, q2, q3⟩
      have n1 : w.heap.size + 1 ≠ D := by rintro rfl; rw [q1] at hW; cases hW
      have n2 : p ≠ D := by omega
      exact ⟨(World.putObj_heap_other n1).trans q1, (World.putObj_heap_other n2).trans q2, ⟨q3.os, q3.tape, q3.output, by simp [World.putObj]; exact q3.size, fun k hk hne => (World.putObj_heap_other (by omega)).trans (q3.block k hk hne)⟩⟩
    · rintro W ⟨q1, q2, q3⟩
      have c0 : W.cell? ⟨w.heap.size + 1, 0, none⟩ = some (.int .i64 y.at_) := Ly.cellAt q1 0 rfl
      have c1 : W.cell? ⟨w.heap.size + 1, 1, none⟩ = some (.int .u8 y.kind) := Ly.cellAt q1 1 rfl
      have c2 : W.cell? ⟨w.heap.size + 1, 2, none⟩ = some (.int .i64 y.worker) := Ly.cellAt q1 2 rfl
      have c3 : W.cell? ⟨w.heap.size + 1, 3, none⟩ = some (.int .i64 y.task) := Ly.cellAt q1 3 rfl
      have c4 : W.cell? ⟨w.heap.size + 1, 4, none⟩ = some (.int .i64 y.peer) := Ly.cellAt q1 4 rfl
      have c5 : W.cell? ⟨w.heap.size + 1, 5, none⟩ = some (.int .i64 y.ch) := Ly.cellAt q1 5 rfl
      have c6 : W.cell? ⟨w.heap.size + 1, 6, none⟩ = some (.int .i64 y.cs) := Ly.cellAt q1 6 rfl
      have c7 : W.cell? ⟨w.heap.size + 1, 7, none⟩ = some (.int .i64 y.pc) := Ly.cellAt q1 7 rfl
      have c8 : W.cell? ⟨w.heap.size + 1, 8, none⟩ = some (.int .i64 y.val) := Ly.cellAt q1 8 rfl
      have c9 : W.cell? ⟨w.heap.size + 1, 9, none⟩ = some (.int .i64 y.val2) := Ly.cellAt q1 9 rfl
      have c10 : W.cell? ⟨w.heap.size + 1, 10, none⟩ = some (.bool y.ok) := Ly.cellAt q1 10 rfl
      have c11 : W.cell? ⟨w.heap.size + 1, 11, none⟩ = some (.int .i64 y.code) := Ly.cellAt q1 11 rfl
      have c12 : W.cell? ⟨w.heap.size + 1, 12, none⟩ = some (.int .u64 y.set) := Ly.cellAt q1 12 rfl
      exact ⟨y.agg, by simp [results, Tryd.f53, go_sem, EntV.agg, c0, c1, c2, c3, c4, c5, c6, c7, c8, c9, c10, c11, c12], by rw [HZ.out], by rw [HZ.out]; exact q2, q3⟩
  | some pp =>
    refine Lx.regionS (by kernel_rfl) (by kernel_rfl) HIN.out.1 HIN.out.2 (by simp only [List.size_toArray, List.length_cons, List.length_nil, Nat.reduceAdd]; rfl) (fun O Z hO hZ => ?_); have HO := Lib.hid hO; clear hO
    first
      | (apply Lx.kp HO 1; (case hx => exact ⟨rfl, rfl, rfl⟩); (case hk => decide +kernel); (case hv => intro w_ hw_; (go_simp <;> first | with_reducible rfl | exact ⟨rfl, rfl⟩)); simp only [Act.put, Lx.p1, Lx.p2, Lx.p3])
    first
      | (apply Lx.kr HO 2; (case hx => exact ⟨rfl, rfl, rfl⟩); (case hk => decide +kernel); (case hv => intro w_ hw_; have c1 : w_.cell? ⟨w.heap.size + 1, 1, none⟩ = some (.int .u8 (nk : Int)) := Ly.cellAt ((hw_.below.block _ hlX5).trans HX5.out) 1 rfl; (go_simp <;> first | with_reducible rfl | exact ⟨rfl, rfl⟩)); simp only [Act.put, Lx.p1, Lx.p2, Lx.p3])
    first
      | (apply Lx.kR HO 0 (relK (nk : Int) pp); (case hx => exact ⟨rfl, rfl, rfl⟩); (case hk => decide +kernel); (case hrun => intro w_; (go_simp <;> first | with_reducible rfl | exact ⟨rfl, rfl⟩)); (case hne => exact relK_ok _ _); (case hc => intro w_ hw_; exact forms_yes hk w_))
    rintro _ _ ⟨rr, A, c, rfl, rfl⟩
    simp only [Act.put, Lx.p1, Lx.p2, Lx.p3]
    first
      | (apply Lx.kr HO 3; (case hx => exact ⟨rfl, rfl, rfl⟩); (case hk => decide +kernel); (case hv => intro w_ hw_; have q_ := ask1_yes (Lx.m0 hw_.more); (go_simp <;> first | with_reducible rfl | exact ⟨rfl, rfl⟩)); simp only [Act.put, Lx.p1, Lx.p2, Lx.p3])
    first
      | (apply Lx.kp HO 4; (case hx => exact ⟨rfl, rfl, rfl⟩); (case hk => decide +kernel); (case hv => intro w_ hw_; have q_ := field_form pp.1 (.slice A pp.2.length c) w_; (go_simp <;> first | with_reducible rfl | exact ⟨rfl, rfl⟩)); simp only [Act.put, Lx.p1, Lx.p2, Lx.p3])
    first
      | (apply Lx.kr HO 5; (case hx => exact ⟨rfl, rfl, rfl⟩); (case hk => decide +kernel); (case hv => intro w_ hw_; skip; (go_simp <;> first | with_reducible rfl | exact ⟨rfl, rfl⟩)); simp only [Act.put, Lx.p1, Lx.p2, Lx.p3])
    first
      | (apply Lx.kp HO 6; (case hx => exact ⟨rfl, rfl, rfl⟩); (case hk => decide +kernel); (case hv => intro w_ hw_; (go_simp <;> first | with_reducible rfl | exact ⟨rfl, rfl⟩)); simp only [Act.put, Lx.p1, Lx.p2, Lx.p3])
    refine Lx.kd HO (by kernel_rfl) (fun hiv2 => hZ _ _ (fun W2 hw2 => ?_))
    clear hZ Z HO O
    have hB2 := hw2.below
    have hFm := Lx.m0 hw2.more
    have hHas := (show Ef.Has W2 (.slice A pp.2.length c) pp.2 from by obtain ⟨_, _, _, _, _, h⟩ := hFm; exact h)
    have hX2 : XAt (w.heap.size + 1) (ent0 (na : Int) (nk : Int)) W2 := (hB2.block _ hlX5).trans HX5.out
    have hBx : W2.heap[w.heap.size]? = some (.cells #[.pointer (some ⟨p, 0, none⟩)] 87 (0, 0)) := (hB2.block _ (by omega)).trans HB5.out
    have hR2 : RdAt p r2 W2 := HR5.out.keep hB2
    have hO2 : OnlyP p w W2 := HO5.out.trans (OnlyP.of_below hB2)
    have HX6 := Lib.hid hX2
    have HBX := Lib.hid hBx
    have HR6 := Lib.hid hR2
    have HO6 := Lib.hid hO2
    have HHAS := Lib.hid hHas
    have hl50 : pp.2.length ≤ 50 := hHas.1
    have hneX : w.heap.size + 1 ≠ p := hne1
    clear hw2 hiv2 HIN hFm hB2 hHas hX2 hBx hR2 hO2
    go_wp2
    refine wp_loop_K (fun a wr => ∃ (k : Nat) (Ds : List Nat) (y : EntV) (q : Rd) (u3 u4 u5 u6 u7 u8 u9 u10 u11 u12 u13 u14 u15 u16 u17 u18 u22 u23 u24 u25 u26 u27 u28 u29 u30 u31 u32 u33 u34 u35 u36 u37 u38 u39 u40 u41 u42 u43 u44 u45 u46 u47 u48 u49 u50 u51 u52 u53 u54 u55 u56 u57 u58 u59 u60 u61 u62 u63 u64 u65 u66 u67 : Value), a = { tmps := #[.pointer (some ⟨p, 0, none⟩), .pointer (some ⟨w.heap.size, 0, none⟩), .pointer (some ⟨w.heap.size + 1, 0, none⟩), u3, u4, u5, u6, u7, u8, u9, u10, u11, u12, u13, u14, u15, u16, u17, u18, .slice A pp.2.length c, .int .i64 pp.2.length, .int .i64 k, u22, u23, u24, u25, u26, u27, u28, u29, u30, u31, u32, u33, u34, u35, u36, u37, u38, u39, u40, u41, u42, u43, u44, u45, u46, u47, u48, u49, u50, u51, u52, u53, u54, u55, u56, u57, u58, u59, u60, u61, u62, u63, u64, u65, u66, u67], defers := marksOf Ds } ∧ k ≤ pp.2.length ∧ (y, q) = rdNames (ent0 (na : Int) (nk : Int), r2) (pp.2.take k) ∧ XAt (w.heap.size + 1) y wr ∧ RdAt p q wr ∧ KeepsM (ModR p (w.heap.size + 1)) W2 wr ∧ OnlyP p w wr ∧ DefS Ds wr ∧ Ds.Nodup ∧ (∀ D ∈ Ds, w.heap.size ≤ D)) (fun a _ => pp.2.length - (intOf (a.tmps.getD 21 undef)).toNat) ?atStart ?round
    case atStart =>
      refine ⟨0, [], ent0 (na : Int) (nk : Int), r2, ?_⟩
      (repeat apply Exists.intro)
      exact ⟨rfl, Nat.zero_le _, rfl, HX6.out, HR6.out, KeepsM.refl _ _, HO6.out, by simp [DefS], List.nodup_nil, by simp⟩
    case round =>
      rintro a wr ⟨k, Ds, y, q, u3, u4, u5, u6, u7, u8, u9, u10, u11, u12, u13, u14, u15, u16, u17, u18, u22, u23, u24, u25, u26, u27, u28, u29, u30, u31, u32, u33, u34, u35, u36, u37, u38, u39, u40, u41, u42, u43, u44, u45, u46, u47, u48, u49, u50, u51, u52, u53, u54, u55, u56, u57, u58, u59, u60, u61, u62, u63, u64, u65, u66, u67, rfl, hk2, hyq, hx, hrq, hkm, hon, hds, hnd, hge⟩ K0 hK0
      have HK0 := Lib.hid hK0
      have HDS := Lib.hid hds
      have HND := Lib.hid hnd
      have HGE := Lib.hid hge
      have HX := Lib.hid hx
      have HRQ := Lib.hid hrq
      have HKM := Lib.hid hkm
      have HON := Lib.hid hon
      clear hK0 hds hnd hge
      by_cases hlt : k < pp.2.length
      · obtain ⟨_, b, o, c2, hsl, hc1, hc2, cs, z, hcell, hget⟩ := HHAS.out
        obtain ⟨rfl, rfl⟩ : A = some ⟨b, o, none⟩ ∧ c = c2 := by simpa using hsl
        obtain ⟨s, hsx⟩ : ∃ s, s = pp.2[k] := ⟨_, rfl⟩
        have hcell' := hkm.2 _ _ hcell (ModR.ne (ty_ne hcell HR6.out (by decide)) (ty_ne hcell HX6.out (by decide)))
        have hbl : b < wr.heap.size := (Array.getElem?_eq_some_iff.1 hcell').1
        have g0 : wr.cell? ⟨b, o + k, none⟩ = some (.string s) := by
          have h3 := hget k pp.2[k] (List.getElem?_eq_getElem hlt)
          rw [hsx]
          simp only [World.cell?, hcell', h3]
          rfl
        have hi1 : (k : Int) < (pp.2.length : Int) := by omega
        have hi0 : (0 : Int) ≤ (k : Int) := by omega
        have hwr : IntKind.i64.wrap ((k : Int) + 1) = (k : Int) + 1 := IntWalk.i64_in _ (by omega)
        have htake : rdNames (ent0 (na : Int) (nk : Int), r2) (pp.2.take (k + 1)) = rdName (y, q) s := by rw [List.take_succ_eq_append_getElem hlt, rdNames_snoc, ← hyq, hsx]
        have hlq : q.l.length ≤ 1000000000 := by
          have h3 := rdNames_len (pp.2.take k) (ent0 (na : Int) (nk : Int), r2)
          rw [← hyq] at h3
          exact Nat.le_trans h3 HL2.out
        have hBr := hkm.2 _ _ HBX.out (ModR.ne hne0 (by omega))
        have HT := Lib.hid htake
        have HLQ := Lib.hid hlq
        have HBR := Lib.hid hBr
        clear hx hrq hkm hon hcell hget hcell' hsl htake hsx hc1 hc2 hyq hlq hBr
        have e_val : (s.toList == [118, 97, 108]) = decide (s = s_val) := by rw [← eqS, ByteArray.toList_eq s_val]
        have e_val2 : (s.toList == [118, 97, 108, 50]) = decide (s = s_val2) := by rw [← eqS, ByteArray.toList_eq s_val2]
        have e_ok : (s.toList == [111, 107]) = decide (s = s_ok) := by rw [← eqS, ByteArray.toList_eq s_ok]
        have e_code : (s.toList == [99, 111, 100, 101]) = decide (s = s_code) := by rw [← eqS, ByteArray.toList_eq s_code]
        have e_set : (s.toList == [115, 101, 116]) = decide (s = s_set) := by rw [← eqS, ByteArray.toList_eq s_set]
        go_upto_block 2 with fail
        obtain ⟨wa, hwa⟩ : ∃ wa, wa = wr.alloc (.cells #[.string s] 9) := ⟨_, rfl⟩
        have hD : wa.heap[wr.heap.size]? = some (.cells #[.string s] 9 (0, 0)) := by rw [hwa]; exact World.alloc_heap_new wr _
        have hba : Below wr.heap.size wr wa := by rw [hwa]; exact (Below.refl _ wr).alloc (Nat.le_refl _) _
        rw [← hwa]
        have HRA := Lib.hid (KeepsM.of_below (Mod := ModR p (w.heap.size + 1)) hba)
        have hXa : XAt (w.heap.size + 1) y wa := (hba.block _ HX.out.lt).trans HX.out
        have hQa : RdAt p q wa := HRQ.out.keep hba
        have hKa : KeepsM (ModR p (w.heap.size + 1)) W2 wa := HKM.out.trans (KeepsM.of_below hba)
        have hOa : OnlyP p w wa := HON.out.trans (OnlyP.of_below hba)
        have hBa : wa.heap[w.heap.size]? = some (.cells #[.pointer (some ⟨p, 0, none⟩)] 87 (0, 0)) := (hba.block _ (Array.getElem?_eq_some_iff.1 HBR.out).1).trans HBR.out
        have cb : wa.cell? ⟨w.heap.size, 0, none⟩ = some (.pointer (some ⟨p, 0, none⟩)) := Ly.cellAt hBa 0 rfl
        have lb : w.heap.size < wa.heap.size := (Array.getElem?_eq_some_iff.1 hBa).1
        have HXA := Lib.hid hXa
        have HQA := Lib.hid hQa
        have HKA := Lib.hid hKa
        have HOA := Lib.hid hOa
        have HBA := Lib.hid hBa
        have HD := Lib.hid hD
        clear hwa hD hba hXa hQa hKa hOa hBa g0 hbl
        go_cut [] from 26 to 67 (fun wx => XAt (w.heap.size + 1) (rdSw (y, q) s).1 wx ∧ RdAt p (rdSw (y, q) s).2 wx ∧ KeepsM (ModR p (w.heap.size + 1)) wa wx ∧ OnlyP p w wx)
        case first =>
          by_cases dval : s = s_val
          · obtain ⟨⟨v, q1⟩, hv⟩ : ∃ z, z = q.wide := ⟨_, rfl⟩
            have hcall : Calls Tryd.prog 104 #[.pointer (some ⟨p, 0, none⟩)] wa fun e w' => e = .returned (.int .i64 v) ∧ RdAt p q1 w' ∧ OnlyP p wa w' := by
              have := rdWide_any HQA.out HLQ.out
              rw [← hv] at this
              exact this
            have hsw : rdSw (y, q) s = ({ y with val := v }, q1) := by unfold rdSw; rw [if_pos dval]; simp only [← hv]
            have HC := Lib.hid hcall
            have HSW := Lib.hid hsw
            rw [decide_eq_true dval] at e_val
            clear hcall hsw hv dval
            go_wp2_with ((with_reducible refine HC.out.mono ?_); rintro e w' ⟨rfl, hq', ho'⟩; (have qx := XAt.only HXA.out ho' hneX); (have g := Ly.cellAt qx 8 rfl); (have f := Lib.frozen_of_heap qx 8); (have lx := XAt.lt qx); (have QX := Lib.hid qx); (have HQ' := Lib.hid hq'); (have HO' := Lib.hid ho'); clear qx hq' ho')
            go_meet
            exact ⟨by rw [HSW.out]; exact QX.out.set8 _, by rw [HSW.out]; exact HQ'.out.setX (fun e => hneX e.symm), (KeepsM.onlyP HQA.out HO'.out).setR QX.out, (HOA.out.trans HO'.out).setX (by omega)⟩
          rw [decide_eq_false dval] at e_val
          by_cases dval2 : s = s_val2
          · obtain ⟨⟨v, q1⟩, hv⟩ : ∃ z, z = q.wide := ⟨_, rfl⟩
            have hcall : Calls Tryd.prog 104 #[.pointer (some ⟨p, 0, none⟩)] wa fun e w' => e = .returned (.int .i64 v) ∧ RdAt p q1 w' ∧ OnlyP p wa w' := by
              have := rdWide_any HQA.out HLQ.out
              rw [← hv] at this
              exact this
            have hsw : rdSw (y, q) s = ({ y with val2 := v }, q1) := by unfold rdSw; rw [if_neg dval, if_pos dval2]; simp only [← hv]
            have HC := Lib.hid hcall
            have HSW := Lib.hid hsw
            rw [decide_eq_true dval2] at e_val2
            clear hcall hsw hv dval dval2
            go_wp2_with ((with_reducible refine HC.out.mono ?_); rintro e w' ⟨rfl, hq', ho'⟩; (have qx := XAt.only HXA.out ho' hneX); (have g := Ly.cellAt qx 9 rfl); (have f := Lib.frozen_of_heap qx 9); (have lx := XAt.lt qx); (have QX := Lib.hid qx); (have HQ' := Lib.hid hq'); (have HO' := Lib.hid ho'); clear qx hq' ho')
            go_meet
            exact ⟨by rw [HSW.out]; exact QX.out.set9 _, by rw [HSW.out]; exact HQ'.out.setX (fun e => hneX e.symm), (KeepsM.onlyP HQA.out HO'.out).setR QX.out, (HOA.out.trans HO'.out).setX (by omega)⟩
          rw [decide_eq_false dval2] at e_val2
          by_cases dok : s = s_ok
          · obtain ⟨⟨v, q1⟩, hv⟩ : ∃ z, z = q.flag := ⟨_, rfl⟩
            have hcall : Calls Tryd.prog 105 #[.pointer (some ⟨p, 0, none⟩)] wa fun e w' => e = .returned (.bool v) ∧ RdAt p q1 w' ∧ OnlyP p wa w' := by
              have := rdFlag_any HQA.out HLQ.out
              rw [← hv] at this
              exact this
            have hsw : rdSw (y, q) s = ({ y with ok := v }, q1) := by unfold rdSw; rw [if_neg dval, if_neg dval2, if_pos dok]; simp only [← hv]
            have HC := Lib.hid hcall
            have HSW := Lib.hid hsw
            rw [decide_eq_true dok] at e_ok
            clear hcall hsw hv dval dval2 dok
            go_wp2_with ((with_reducible refine HC.out.mono ?_); rintro e w' ⟨rfl, hq', ho'⟩; (have qx := XAt.only HXA.out ho' hneX); (have g := Ly.cellAt qx 10 rfl); (have f := Lib.frozen_of_heap qx 10); (have lx := XAt.lt qx); (have QX := Lib.hid qx); (have HQ' := Lib.hid hq'); (have HO' := Lib.hid ho'); clear qx hq' ho')
            go_meet
            exact ⟨by rw [HSW.out]; exact QX.out.set10 _, by rw [HSW.out]; exact HQ'.out.setX (fun e => hneX e.symm), (KeepsM.onlyP HQA.out HO'.out).setR QX.out, (HOA.out.trans HO'.out).setX (by omega)⟩
          rw [decide_eq_false dok] at e_ok
          by_cases dcode : s = s_code
          · obtain ⟨⟨v, q1⟩, hv⟩ : ∃ z, z = q.num 1000 := ⟨_, rfl⟩
            have hvl : v ≤ 1000 := by have := Rd.num_le q 1000; rw [← hv] at this; exact this
            have hcall : Calls Tryd.prog 103 #[.pointer (some ⟨p, 0, none⟩), .int .u64 1000] wa fun e w' => e = .returned (.int .u64 v) ∧ RdAt p q1 w' ∧ OnlyP p wa w' := by
              have := rdNum_any HQA.out HLQ.out 1000
              rw [← hv] at this
              exact this
            have hsw : rdSw (y, q) s = ({ y with code := (v : Int) }, q1) := by unfold rdSw; rw [if_neg dval, if_neg dval2, if_neg dok, if_pos dcode]; simp only [← hv]
            have hwv : IntKind.i64.wrap (v : Int) = if v ≤ 1000 then (v : Int) else IntKind.i64.wrap (v : Int) := by split <;> first | rfl | exact IntWalk.i64_in _ (by omega)
            rw [if_pos hvl] at hwv
            clear hvl
            have HC := Lib.hid hcall
            have HSW := Lib.hid hsw
            rw [decide_eq_true dcode] at e_code
            clear hcall hsw hv dval dval2 dok dcode
            go_wp2_with ((with_reducible refine HC.out.mono ?_); rintro e w' ⟨rfl, hq', ho'⟩; (have qx := XAt.only HXA.out ho' hneX); (have g := Ly.cellAt qx 11 rfl); (have f := Lib.frozen_of_heap qx 11); (have lx := XAt.lt qx); (have QX := Lib.hid qx); (have HQ' := Lib.hid hq'); (have HO' := Lib.hid ho'); clear qx hq' ho')
            go_meet
            exact ⟨by rw [HSW.out]; exact QX.out.set11 _, by rw [HSW.out]; exact HQ'.out.setX (fun e => hneX e.symm), (KeepsM.onlyP HQA.out HO'.out).setR QX.out, (HOA.out.trans HO'.out).setX (by omega)⟩
          rw [decide_eq_false dcode] at e_code
          by_cases dset : s = s_set
          · obtain ⟨⟨v, q1⟩, hv⟩ : ∃ z, z = q.num 18446744073709551615 := ⟨_, rfl⟩
            have hvl : v ≤ 18446744073709551615 := by have := Rd.num_le q 18446744073709551615; rw [← hv] at this; exact this
            have hcall : Calls Tryd.prog 103 #[.pointer (some ⟨p, 0, none⟩), .int .u64 18446744073709551615] wa fun e w' => e = .returned (.int .u64 v) ∧ RdAt p q1 w' ∧ OnlyP p wa w' := by
              have := rdNum_any HQA.out HLQ.out 18446744073709551615
              rw [← hv] at this
              exact this
            have hsw : rdSw (y, q) s = ({ y with set := (v : Int) }, q1) := by unfold rdSw; rw [if_neg dval, if_neg dval2, if_neg dok, if_neg dcode, if_pos dset]; simp only [← hv]
            have hwv : IntKind.i64.wrap (v : Int) = if v ≤ 1000 then (v : Int) else IntKind.i64.wrap (v : Int) := by split <;> first | rfl | exact IntWalk.i64_in _ (by omega)
            clear hwv
            clear hvl
            have HC := Lib.hid hcall
            have HSW := Lib.hid hsw
            rw [decide_eq_true dset] at e_set
            clear hcall hsw hv dval dval2 dok dcode dset
            go_wp2_with ((with_reducible refine HC.out.mono ?_); rintro e w' ⟨rfl, hq', ho'⟩; (have qx := XAt.only HXA.out ho' hneX); (have g := Ly.cellAt qx 12 rfl); (have f := Lib.frozen_of_heap qx 12); (have lx := XAt.lt qx); (have QX := Lib.hid qx); (have HQ' := Lib.hid hq'); (have HO' := Lib.hid ho'); clear qx hq' ho')
            go_meet
            exact ⟨by rw [HSW.out]; exact QX.out.set12 _, by rw [HSW.out]; exact HQ'.out.setX (fun e => hneX e.symm), (KeepsM.onlyP HQA.out HO'.out).setR QX.out, (HOA.out.trans HO'.out).setX (by omega)⟩
          rw [decide_eq_false dset] at e_set
          have hsw : rdSw (y, q) s = (y, q) := by unfold rdSw; rw [if_neg dval, if_neg dval2, if_neg dok, if_neg dcode, if_neg dset]
          have HSW := Lib.hid hsw
          clear hsw dval dval2 dok dcode dset
          go_wp2
          go_meet
          exact ⟨by rw [HSW.out]; exact HXA.out, by rw [HSW.out]; exact HQA.out, KeepsM.refl _ _, HOA.out⟩
        case rest =>
          obtain ⟨hx, hq, hkm, hon⟩ := hcut
          have HX1 := Lib.hid hx
          have HQ1 := Lib.hid hq
          have HK1 := Lib.hid hkm
          have HO1 := Lib.hid hon
          clear hx hq hkm hon e_val e_val2 e_ok e_code e_set cb lb
          go_wp2_with ((with_reducible refine (efields_any _ _).mono ?_); rintro e w' ⟨rfl, rfl⟩)
          obtain ⟨wd, hwd⟩ : ∃ wd, wd = wc.alloc (.cells #[.pointer (some ⟨w.heap.size + 1, 0, none⟩)] 105) := ⟨_, rfl⟩
          have hP : wd.heap[wc.heap.size]? = some (.cells #[.pointer (some ⟨w.heap.size + 1, 0, none⟩)] 105 (0, 0)) := by rw [hwd]; exact World.alloc_heap_new wc _
          have hbd : Below wc.heap.size wc wd := by rw [hwd]; exact (Below.refl _ wc).alloc (Nat.le_refl _) _
          have hsd : wd.heap.size = wc.heap.size + 1 := by rw [hwd]; simp
          rw [← hwd]
          have hXd : XAt (w.heap.size + 1) (rdSw (y, q) s).1 wd := (hbd.block _ HX1.out.lt).trans HX1.out
          have hQd : RdAt p (rdSw (y, q) s).2 wd := HQ1.out.keep hbd
          have hKad : KeepsM (ModR p (w.heap.size + 1)) wa wd := HK1.out.trans (KeepsM.of_below hbd)
          have hOd : OnlyP p w wd := HO1.out.trans (OnlyP.of_below hbd)
          have hK2d : KeepsM (ModR p (w.heap.size + 1)) W2 wd := HKA.out.trans hKad
          have hBd := hKad.2 _ _ HBA.out (ModR.ne hne0 (by omega))
          have hszw : w.heap.size + 1 < wr.heap.size := HX.out.lt
          have hDd := hKad.2 _ _ HD.out (ModR.ne (by omega) (by omega))
          have hDSa : DefS Ds wa := fun D hD => HRA.out.2 _ _ (HDS.out D hD) (ModR.oth rfl)
          have hDSd : DefS Ds wd := fun D hD => hKad.2 _ _ (hDSa D hD) (ModR.oth rfl)
          have hlq2 : (rdSw (y, q) s).2.l.length ≤ 1000000000 := Nat.le_trans (rdSw_len (y, q) s) HLQ.out
          have hwc0 : w.heap.size + 1 < wc.heap.size := HX1.out.lt
          have HP := Lib.hid hP
          have HXD := Lib.hid hXd
          have HQD := Lib.hid hQd
          have HKD := Lib.hid hK2d
          have HOD := Lib.hid hOd
          have HBD := Lib.hid hBd
          have HDD := Lib.hid hDd
          have HDSD := Lib.hid hDSd
          have HSZ := Lib.hid hsd
          have HLQ2 := Lib.hid hlq2
          clear hwd hP hbd hXd hQd hKad hOd hK2d hBd hDd hDSa hDSd hlq2
          refine (wpIn_wide (n := n)).1 ?_
          refine wpIn_rangeFunc_ownF rfl h1 (gf := 110) (lb := #[.pointer (some ⟨wc.heap.size, 0, none⟩)]) rfl trivial (enters_of Tryd.func110 (by kernel_rfl) rfl)
            (efields1_stopsM (n - 1) (by omega) wc.heap.size (w.heap.size + 1) wd (fun W W' => ∀ q, W.cell? ⟨wc.heap.size, 0, none⟩ = some (.pointer q) → W'.cell? ⟨wc.heap.size, 0, none⟩ = some (.pointer q)) (fun _ _ q h hc => h q hc) (by omega) (Ly.cellAt HP.out 0 rfl)) (fun h1 h2 q hq => h2 q (h1 q hq)) ?kb (Below.refl _ _) (fun _ => rfl)
            (fun pre W => XAt (w.heap.size + 1) (pre.foldl (rdFd s) (rdSw (y, q) s)).1 W ∧ RdAt p (pre.foldl (rdFd s) (rdSw (y, q) s)).2 W ∧ KeepsM (ModR p (w.heap.size + 1)) wd W ∧ OnlyP p w W)
            (fun _ _ _ => False)
            (OwnFrom.and ?ownX (OwnFrom.and ?ownQ (OwnFrom.and (KeepsM.ownFrom (Nat.le_refl _)) (OnlyP.ownFrom HOD.out.size))))
            (fun _ _ _ _ _ hs _ _ => hs)
            ⟨HXD.out, HQD.out, KeepsM.refl _ _, HOD.out⟩
            (fun yy => { tmps := #[.pointer (some ⟨p, 0, none⟩), .pointer (some ⟨w.heap.size, 0, none⟩), .pointer (some ⟨w.heap.size + 1, 0, none⟩), u3, .pointer (some ⟨wr.heap.size, 0, none⟩), .string yy.1.1, .pointer (some ⟨w.heap.size + 1, yy.1.2, none⟩), u7, u8, u9, u10, u11, u12, u13, u14, u15, u16, u17, u18, .slice (some ⟨b, o, none⟩) pp.2.length c, .int .i64 pp.2.length, .int .i64 k, .bool true, .pointer (some ⟨b, o + k, none⟩), .string s, .string s, u26, u27, u28, u29, u30, u31, u32, u33, u34, u35, u36, u37, u38, u39, u40, u41, u42, u43, u44, u45, u46, u47, u48, u49, u50, u51, .func (.func 110) #[] #[.pointer (some ⟨wc.heap.size, 0, none⟩)], .string yy.1.1, .pointer (some ⟨w.heap.size + 1, yy.1.2, none⟩), u55, u56, u57, u58, u59, u60, u61, u62, u63, u64, u65, u66, u67], defers := [] })
            ?assign ?body ?done ?stop
          case kb =>
            intro W l o o' hl ho hc _ q hq
            exact cell_kept hq (grownBy_putObj' W l o') (fun r e => by cases e; exact ⟨o, ho, hc⟩)
          case ownX =>
            intro pre W W' row hs hg hr
            exact (CellsKept.of_grown hg (fun r e => (hr r e).2)).2 _ _ _ _ hs
          case ownQ =>
            intro pre W W' row hs hg hr
            exact (CellsKept.of_grown hg (fun r e => (hr r e).2)).2 _ _ _ _ hs
          case assign =>
            intro l y W K hK
            gi_wp2
            exact hK
          case body =>
            rintro l pre yy W ⟨hx, hq, hkm, hon⟩ _
            obtain ⟨⟨y2, q2⟩, hY⟩ : ∃ z, z = pre.foldl (rdFd s) (rdSw (y, q) s) := ⟨_, rfl⟩
            have hsn : (pre ++ [yy]).foldl (rdFd s) (rdSw (y, q) s) = rdFd s (y2, q2) yy := by rw [List.foldl_append, ← hY]; rfl
            have hlq : q2.l.length ≤ 1000000000 := by
              have h3 := rdFds_len s pre (rdSw (y, q) s)
              rw [← hY] at h3
              exact Nat.le_trans h3 HLQ2.out
            rw [← hY] at hx hq
            have hB' := hkm.2 _ _ HBD.out (ModR.ne hne0 (by omega))
            have hD' := hkm.2 _ _ HDD.out (ModR.ne (by omega) (by omega))
            have hP' := hkm.2 _ _ HP.out (ModR.ne (by omega) (by omega))
            have gv : W.cell? ⟨w.heap.size + 1, yy.1.2, none⟩ = some (.int .i64 (y2.fld yy.1.2)) := hx.fld yy
            have gn : W.cell? ⟨wr.heap.size, 0, none⟩ = some (.string s) := Ly.cellAt hD' 0 rfl
            have gb : W.cell? ⟨w.heap.size, 0, none⟩ = some (.pointer (some ⟨p, 0, none⟩)) := Ly.cellAt hB' 0 rfl
            have gx : w.heap.size + 1 < W.heap.size := hx.lt
            have gz : w.heap.size < W.heap.size := (Array.getElem?_eq_some_iff.1 hB').1
            have gd : wr.heap.size < W.heap.size := (Array.getElem?_eq_some_iff.1 hD').1
            obtain ⟨nm, hnm⟩ : ∃ nm, nm = yy.1.1 := ⟨_, rfl⟩
            obtain ⟨j, hj⟩ : ∃ j, j = yy.1.2 := ⟨_, rfl⟩
            rw [← hj] at gv
            rw [← hnm, ← hj]
            have HX2 := Lib.hid hx
            have HQ2 := Lib.hid hq
            have HK2 := Lib.hid hkm
            have HO2 := Lib.hid hon
            have HP2 := Lib.hid hP'
            have HJ := Lib.hid hj
            have hrf : rdFd s (y2, q2) yy = if nm = s then (setF y2 j (((q2.num 1000).1 : Int) - shiftB nm), (q2.num 1000).2) else (y2, q2) := by rw [hnm, hj]; rfl
            have HRF := Lib.hid hrf
            clear hx hq hkm hon hB' hD' hP' hY hnm hj hrf
            by_cases hy : nm = s
            · have e1 : (nm.toList == s.toList) = true := by rw [hy]; simp
              obtain ⟨⟨v, q3⟩, hv⟩ : ∃ z, z = q2.num 1000 := ⟨_, rfl⟩
              have hvl : v ≤ 1000 := by have := Rd.num_le q2 1000; rw [← hv] at this; exact this
              have hsb : 0 ≤ shiftB nm ∧ shiftB nm ≤ 1 := by unfold shiftB; split <;> omega
              have hw1 : IntKind.i64.wrap (v : Int) = (v : Int) := IntWalk.i64_in _ (by omega)
              have hw2 : IntKind.i64.wrap ((v : Int) - shiftB nm) = (v : Int) - shiftB nm := IntWalk.i64_in _ (by omega)
              have hcall : Calls Tryd.prog 103 #[.pointer (some ⟨p, 0, none⟩), .int .u64 1000] W fun e w' => e = .returned (.int .u64 v) ∧ RdAt p q3 w' ∧ OnlyP p W w' := by
                have := rdNum_any HQ2.out hlq 1000
                rw [← hv] at this
                exact this
              have hrf2 : rdFd s (y2, q2) yy = (setF y2 j ((v : Int) - shiftB nm), q3) := by rw [HRF.out, if_pos hy]; simp only [← hv]
              have HFI := Lib.hid (hsn.trans hrf2)
              have HC := Lib.hid hcall
              clear hcall hv hvl hsb hrf2 hlq hy hsn HRF
              gi_wp2_with ((first | refine ⟨trivial, fun _ => by omega, ?_⟩ | refine ⟨trivial, ?_⟩); first
                | ((with_reducible refine (CallsIn.inRound l (wideE HC.out _)).mono ?_); rintro e w' ⟨rfl, hq', ho'⟩; (have qx := XAt.only HX2.out ho' hneX); (have gv' : w'.cell? ⟨w.heap.size + 1, j, none⟩ = some (.int .i64 (y2.fld j)) := by rw [HJ.out]; exact qx.fld yy); (have fv := Lib.frozen_of_heap qx j); (have lx := XAt.lt qx); (have QX := Lib.hid qx); (have HQ' := Lib.hid hq'); (have HO' := Lib.hid ho'); clear qx hq' ho')
                | ((with_reducible refine (CallsIn.inRound l (wideE (shift_any nm _) _)).mono ?_); rintro e w' ⟨rfl, rfl⟩))
              exact ⟨KeepsOthers.trans ⟨HO'.out.size, fun k o hk hc => (HO'.out.block k (Array.getElem?_eq_some_iff.1 hk).1 (fun e => by rw [e, HQ2.out] at hk; cases hk; cases hc)).trans hk⟩ (KeepsOthers.setCell _ _ _), fun q hq => (by
                have h2_ := (Below.heap_setCell w' ⟨w.heap.size + 1, j, none⟩ (.int .i64 ((v : Int) - shiftB nm)) wc.heap.size (by show wc.heap.size ≠ w.heap.size + 1; omega)).trans ((HO'.out.block _ (Array.getElem?_eq_some_iff.1 HP2.out).1 (by omega)).trans HP2.out)
                have h3_ := Ly.cellAt HP2.out 0 rfl
                rw [hq] at h3_
                rw [h3_]
                exact Ly.cellAt h2_ 0 rfl), by rw [HFI.out, HJ.out]; exact QX.out.putF yy _, by rw [HFI.out]; exact HQ'.out.setX (fun e => hneX e.symm), HK2.out.trans ((KeepsM.onlyP HQ2.out HO'.out).setR QX.out), (HO2.out.trans HO'.out).setX (by omega)⟩
            · have e1 : (nm.toList == s.toList) = false := by rw [eqS]; simpa using hy
              have hfd : rdFd s (y2, q2) yy = (y2, q2) := by rw [HRF.out, if_neg hy]
              have HFI := Lib.hid (hsn.trans hfd)
              clear hfd hy hlq hsn
              gi_wp2
              exact ⟨KeepsOthers.refl _, fun _ h => h, by rw [HFI.out]; exact HX2.out, by rw [HFI.out]; exact HQ2.out, HK2.out, HO2.out⟩
          case done =>
            rintro D ys W hD rfl ⟨hx, hq, hkm, hon⟩ hK
            obtain ⟨⟨y3, q3⟩, hY3⟩ : ∃ z, z = eFields.foldl (rdFd s) (rdSw (y, q) s) := ⟨_, rfl⟩
            have hfin : (y3, q3) = rdNames (ent0 (na : Int) (nk : Int), r2) (pp.2.take (k + 1)) := by rw [HT.out]; exact hY3
            rw [← hY3] at hx hq
            have HFIN := Lib.hid hfin
            have HX2 := Lib.hid hx
            have HQ2 := Lib.hid hq
            have HK2 := Lib.hid (HKD.out.trans hkm)
            have HKW := Lib.hid hkm
            have HO2 := Lib.hid hon
            have HDW := Lib.hid hK
            clear hx hq hkm hon hK hY3 hfin
            have hkd : (Deferred.mk (.collected D) #[]) :: marksOf Ds = marksOf (D :: Ds) := rfl
            rw [hkd]
            clear hkd
            gi_wp2
            go_wp2
            refine HK0.out _ _ ?_ ?_
            · refine ⟨k + 1, D :: Ds, y3, q3, ?_⟩
              rw [show ((k + 1 : Nat) : Int) = (k : Int) + 1 from rfl]
              (repeat apply Exists.intro)
              refine ⟨rfl, hlt, HFIN.out, HX2.out, HQ2.out, HK2.out, HO2.out, ?_, List.nodup_cons.2 ⟨fun hm => ?_, HND.out⟩, ?_⟩
              · intro E hE
                rcases List.mem_cons.1 hE with rfl | hE
                · exact HDW.out
                · exact HKW.out.2 _ _ (HDSD.out E hE) (ModR.oth rfl)
              · have := (Array.getElem?_eq_some_iff.1 (HDSD.out D hm)).1
                omega
              · intro E hE
                rcases List.mem_cons.1 hE with rfl | hE
                · exact Nat.le_trans HOD.out.size hD
                · exact HGE.out E hE
            · show pp.2.length - (intOf (.int .i64 ((k : Int) + 1))).toNat < pp.2.length - (intOf (.int .i64 (k : Int))).toNat
              simp only [intOf]
              omega
          case stop =>
            intro D c pre W hD hsp hf
            exact hf.elim
      · obtain rfl : k = pp.2.length := by omega
        have hx0 : ¬ ((pp.2.length : Int) < (pp.2.length : Int)) := by omega
        rw [List.take_length] at hyq
        have hzz : Z = (y, q) := by rw [HD.out, hk]; exact hyq.symm
        have HZ := Lib.hid hzz
        clear hkm hon hrq hlt hk2 hyq hzz
        have c0 : wr.cell? ⟨w.heap.size + 1, 0, none⟩ = some (.int .i64 y.at_) := Ly.cellAt hx 0 rfl
        have f0 := Lib.frozen_of_heap hx 0
        have c1 : wr.cell? ⟨w.heap.size + 1, 1, none⟩ = some (.int .u8 y.kind) := Ly.cellAt hx 1 rfl
        have f1 := Lib.frozen_of_heap hx 1
        have c2 : wr.cell? ⟨w.heap.size + 1, 2, none⟩ = some (.int .i64 y.worker) := Ly.cellAt hx 2 rfl
        have f2 := Lib.frozen_of_heap hx 2
        have c3 : wr.cell? ⟨w.heap.size + 1, 3, none⟩ = some (.int .i64 y.task) := Ly.cellAt hx 3 rfl
        have f3 := Lib.frozen_of_heap hx 3
        have c4 : wr.cell? ⟨w.heap.size + 1, 4, none⟩ = some (.int .i64 y.peer) := Ly.cellAt hx 4 rfl
        have f4 := Lib.frozen_of_heap hx 4
        have c5 : wr.cell? ⟨w.heap.size + 1, 5, none⟩ = some (.int .i64 y.ch) := Ly.cellAt hx 5 rfl
        have f5 := Lib.frozen_of_heap hx 5
        have c6 : wr.cell? ⟨w.heap.size + 1, 6, none⟩ = some (.int .i64 y.cs) := Ly.cellAt hx 6 rfl
        have f6 := Lib.frozen_of_heap hx 6
        have c7 : wr.cell? ⟨w.heap.size + 1, 7, none⟩ = some (.int .i64 y.pc) := Ly.cellAt hx 7 rfl
        have f7 := Lib.frozen_of_heap hx 7
        have c8 : wr.cell? ⟨w.heap.size + 1, 8, none⟩ = some (.int .i64 y.val) := Ly.cellAt hx 8 rfl
        have f8 := Lib.frozen_of_heap hx 8
        have c9 : wr.cell? ⟨w.heap.size + 1, 9, none⟩ = some (.int .i64 y.val2) := Ly.cellAt hx 9 rfl
        have f9 := Lib.frozen_of_heap hx 9
        have c10 : wr.cell? ⟨w.heap.size + 1, 10, none⟩ = some (.bool y.ok) := Ly.cellAt hx 10 rfl
        have f10 := Lib.frozen_of_heap hx 10
        have c11 : wr.cell? ⟨w.heap.size + 1, 11, none⟩ = some (.int .i64 y.code) := Ly.cellAt hx 11 rfl
        have f11 := Lib.frozen_of_heap hx 11
        have c12 : wr.cell? ⟨w.heap.size + 1, 12, none⟩ = some (.int .u64 y.set) := Ly.cellAt hx 12 rfl
        have f12 := Lib.frozen_of_heap hx 12
        have lx := hx.lt
        clear hx
        go_wp2
        obtain ⟨we, hwe⟩ : ∃ we, we = (((((((((((((wr.setCell ⟨w.heap.size + 1, 0, none⟩ (.int .i64 y.at_)).setCell ⟨w.heap.size + 1, 1, none⟩ (.int .u8 y.kind)).setCell ⟨w.heap.size + 1, 2, none⟩ (.int .i64 y.worker)).setCell ⟨w.heap.size + 1, 3, none⟩ (.int .i64 y.task)).setCell ⟨w.heap.size + 1, 4, none⟩ (.int .i64 y.peer)).setCell ⟨w.heap.size + 1, 5, none⟩ (.int .i64 y.ch)).setCell ⟨w.heap.size + 1, 6, none⟩ (.int .i64 y.cs)).setCell ⟨w.heap.size + 1, 7, none⟩ (.int .i64 y.pc)).setCell ⟨w.heap.size + 1, 8, none⟩ (.int .i64 y.val)).setCell ⟨w.heap.size + 1, 9, none⟩ (.int .i64 y.val2)).setCell ⟨w.heap.size + 1, 10, none⟩ (.bool y.ok)).setCell ⟨w.heap.size + 1, 11, none⟩ (.int .i64 y.code)).setCell ⟨w.heap.size + 1, 12, none⟩ (.int .u64 y.set)) := ⟨_, rfl⟩
        have hxe : XAt (w.heap.size + 1) y we := by
          have hx := HX.out
          unfold XAt at hx ⊢
          simp [hwe, World.setCell, Array.getElem?_modify, hx]
        have hre : RdAt p q we := by
          rw [hwe]
          (repeat refine RdAt.setX ?_ (fun e => hneX e.symm))
          exact HRQ.out
        have hoe : OnlyP p w we := by
          rw [hwe]
          (repeat refine OnlyP.setX ?_ (Nat.le_succ _))
          exact HON.out
        have hde : DefS Ds we := fun D hD => by
          have hd1 := HDS.out D hD
          have hdne : D ≠ w.heap.size + 1 := by
            rintro rfl
            rw [HX.out] at hd1
            cases hd1
          rw [hwe]
          (repeat refine (Below.heap_setCell _ _ _ _ hdne).trans ?_)
          exact hd1
        rw [← hwe]
        clear hwe c0 c1 c2 c3 c4 c5 c6 c7 c8 c9 c10 c11 c12 f0 f1 f2 f3 f4 f5 f6 f7 f8 f9 f10 f11 f12 lx
        refine leaves_all (B := w.heap.size) (fun W => XAt (w.heap.size + 1) y W ∧ RdAt p q W ∧ OnlyP p w W) ?_ ?_ Ds we hde HND.out HGE.out ⟨hxe, hre, hoe⟩
        · rintro W D hD hW ⟨q1, q2, q3⟩
          have n1 : w.heap.size + 1 ≠ D := by rintro rfl; rw [q1] at hW; cases hW
          have n2 : p ≠ D := by omega
          exact ⟨(World.putObj_heap_other n1).trans q1, (World.putObj_heap_other n2).trans q2, ⟨q3.os, q3.tape, q3.output, by simp [World.putObj]; exact q3.size, fun k hk hne => (World.putObj_heap_other (by omega)).trans (q3.block k hk hne)⟩⟩
        · rintro W ⟨q1, q2, q3⟩
          have c0 : W.cell? ⟨w.heap.size + 1, 0, none⟩ = some (.int .i64 y.at_) := Ly.cellAt q1 0 rfl
          have c1 : W.cell? ⟨w.heap.size + 1, 1, none⟩ = some (.int .u8 y.kind) := Ly.cellAt q1 1 rfl
          have c2 : W.cell? ⟨w.heap.size + 1, 2, none⟩ = some (.int .i64 y.worker) := Ly.cellAt q1 2 rfl
          have c3 : W.cell? ⟨w.heap.size + 1, 3, none⟩ = some (.int .i64 y.task) := Ly.cellAt q1 3 rfl
          have c4 : W.cell? ⟨w.heap.size + 1, 4, none⟩ = some (.int .i64 y.peer) := Ly.cellAt q1 4 rfl
          have c5 : W.cell? ⟨w.heap.size + 1, 5, none⟩ = some (.int .i64 y.ch) := Ly.cellAt q1 5 rfl
          have c6 : W.cell? ⟨w.heap.size + 1, 6, none⟩ = some (.int .i64 y.cs) := Ly.cellAt q1 6 rfl
          have c7 : W.cell? ⟨w.heap.size + 1, 7, none⟩ = some (.int .i64 y.pc) := Ly.cellAt q1 7 rfl
          have c8 : W.cell? ⟨w.heap.size + 1, 8, none⟩ = some (.int .i64 y.val) := Ly.cellAt q1 8 rfl
          have c9 : W.cell? ⟨w.heap.size + 1, 9, none⟩ = some (.int .i64 y.val2) := Ly.cellAt q1 9 rfl
          have c10 : W.cell? ⟨w.heap.size + 1, 10, none⟩ = some (.bool y.ok) := Ly.cellAt q1 10 rfl
          have c11 : W.cell? ⟨w.heap.size + 1, 11, none⟩ = some (.int .i64 y.code) := Ly.cellAt q1 11 rfl
          have c12 : W.cell? ⟨w.heap.size + 1, 12, none⟩ = some (.int .u64 y.set) := Ly.cellAt q1 12 rfl
          exact ⟨y.agg, by simp [results, Tryd.f53, go_sem, EntV.agg, c0, c1, c2, c3, c4, c5, c6, c7, c8, c9, c10, c11, c12], by rw [HZ.out], by rw [HZ.out]; exact q2, q3⟩
theorem rdOne_any {w : World} {p : Nat} {r : Rd} (h : RdAt p r w) (hl : r.l.length ≤ 1000000000) :
    Calls Tryd.prog 53 #[.pointer (some ⟨p, 0, none⟩)] w fun e w' => e = .returned (rdOne r).1.agg ∧ RdAt p (rdOne r).2 w' ∧ OnlyP p w w' := callsIn_wide.1 (rdOne_in 3 (Nat.le_refl _) h hl)
end Go.Proofs.YtljfloopjgpaeabDoor
