/- entry.one: an entry's bytes; entry.Put. -/
import Derived.Test.YtljfloopjgpaeabDoorVJ
namespace Go.Proofs.YtljfloopjgpaeabDoor
set_option linter.unusedVariables false
set_option linter.unusedSimpArgs false
open Go.RowKit Go.Shelf
attribute [local go_sem] Oper.semAt_some
set_option maxRecDepth 100000
theorem kU64_two (W : World) {a k : Nat} (ha : a < 18446744073709551616) (hk : k < 18446744073709551616) : kU64.R (W.alloc (.cells #[.int .u64 a, .int .u64 k] 23)) (.slice (some ⟨W.heap.size, 0, none⟩) 2 2) [a, k] := by
  refine ⟨_, 2, rfl, Nat.le_refl _, by decide, by simp, fun _ => ⟨W.heap.size, 0, rfl, by simp, fun i x hx => ⟨_, ⟨rfl, ?_⟩, fun j u hj => ?_⟩⟩⟩
  · match i, hx with
    | 0, hx => cases hx; exact ha
    | 1, hx => cases hx; exact hk
    | n + 2, hx => cases hx
  · match i, hx with
    | 0, hx =>
      cases hx
      match j, hj with
      | 0, hj => cases hj; exact Ly.cellAt (World.alloc_heap_new W _) 0 rfl
      | n + 1, hj => simp at hj
    | 1, hx =>
      cases hx
      match j, hj with
      | 0, hj => cases hj; exact Ly.cellAt (World.alloc_heap_new W _) 1 rfl
      | n + 1, hj => simp at hj
    | n + 2, hx => cases hx
theorem sb_new {W : World} {B : Nat} (hB : B ≤ W.heap.size) : SbL B W.heap.size [] (W.alloc (.cells #[.pointer none, .slice none 0 0] 80)) :=
  .inl ⟨hB, _, World.alloc_heap_new W _, World.ownsRow_nil _ _ _ _, by simp [Value.ownBlock]⟩
theorem sbString_any {B b : Nat} {l : List UInt8} {w : World} (h : SbL B b l w) (hBw : B ≤ w.heap.size) : Calls Tryd.prog 51 #[.pointer (some ⟨b, 0, none⟩)] w fun e w' => e = .returned (.string ⟨l.toArray⟩) ∧ Below B w w' := Tryd.Builder_String_any B b l w h hBw
set_option maxHeartbeats 4000000 in
theorem one_any (x : EntV) (h : okE x) (p : ByteArray × List ByteArray) (hk : hasOf x.kind = some p) (w : World) : Calls Tryd.prog 50 #[x.agg] w fun e w' => e = .returned (.string ⟨(bytesX x).toArray⟩) ∧ Below w.heap.size w w' := by
  have hn : namesX x = p.2 := by unfold namesX; rw [hk]
  have hev := evAll_ok h (has_names hk).2.1
  have hbx : bytesX x = rowL [x.at_.toNat, x.kind.toNat] ++ evsB (evAll x p.2) := by unfold bytesX; rw [hn]
  have hset : 0 ≤ x.set := h.set.1
  have hrl := rowL_len [x.at_.toNat, x.kind.toNat] (by have := h.at_; have := h.kind; intro y hy; simp at hy; omega)
  have htell : ∀ W, SbL w.heap.size (w.heap.size + 1) (rowL [x.at_.toNat, x.kind.toNat]) W → w.heap.size ≤ W.heap.size → Calls Tryd.prog 41 #[x.agg, .func (.func 94) #[] #[.pointer (some ⟨w.heap.size + 1, 0, none⟩)], .func (.func 97) #[] #[.pointer (some ⟨w.heap.size + 1, 0, none⟩)], .func (.func 99) #[] #[.pointer (some ⟨w.heap.size + 1, 0, none⟩)]] W fun e w' => e = .returned (.tuple #[]) ∧ SbL w.heap.size (w.heap.size + 1) (bytesX x) w' ∧ Below w.heap.size W w' := fun W hW hs => by
    refine (callsIn_wide.1 (tell_in 3 (Nat.le_refl _) x p hk (sinkSb w.heap.size (w.heap.size + 1) (rowL [x.at_.toNat, x.kind.toNat])) ModSb.free hset ⟨by simpa [evsB] using hW, ?_⟩ hs hev)).mono ?_
    · simp only [evsB, List.flatMap_nil, List.append_nil, List.length_nil, Nat.mul_zero, Nat.add_zero]
      simp only [List.length_cons, List.length_nil] at hrl
      omega
    · rintro e w' ⟨rfl, h1, _, h3⟩
      exact ⟨rfl, by rw [hbx]; exact h1.1, h3⟩
  have HTELL := Lib.hid htell
  obtain ⟨bx, hbx2⟩ : ∃ bx, bx = bytesX x := ⟨_, rfl⟩
  rw [← hbx2] at htell ⊢
  have HT := Lib.hid htell
  obtain ⟨na, hna⟩ : ∃ n : Nat, n = x.at_.toNat := ⟨_, rfl⟩
  obtain ⟨nk, hnk⟩ : ∃ n : Nat, n = x.kind.toNat := ⟨_, rfl⟩
  have hw1 : IntKind.u64.wrap x.at_ = (na : Int) := by have := h.at_; rw [IntKind.wrap_u64]; omega
  have hw2 : IntKind.u64.wrap x.kind = (nk : Int) := by have := h.kind; rw [IntKind.wrap_u64]; omega
  have hla : na < 18446744073709551616 := by have := h.at_; omega
  have hlk : nk < 18446744073709551616 := by have := h.kind; omega
  rw [← hna, ← hnk] at hrl
  have hnan : (rowL [na, nk]).length ≤ 20 := hrl
  rw [← hna, ← hnk] at HT
  have HRL := Lib.hid hnan
  have HLA := Lib.hid hla
  have HLK := Lib.hid hlk
  obtain ⟨xa, xk, x2, x3, x4, x5, x6, x7, x8, x9, x10, x11, x12⟩ := x
  simp only [EntV.agg] at hw1 hw2 HT ⊢
  clear h hk hn hev hbx hset htell HTELL hbx2 hna hnk hla hlk hnan hrl
  have hmf : ∀ (fn : Fn) (first cap : Array Value) (w : World), (Instr.makeFunc fn first cap).run Tryd.prog w = .ok (.func fn first cap) w := fun _ _ _ _ => rfl
  go_enter Tryd.func50, Tryd.ntmps50
  go_upto_region 2 with fail
  obtain ⟨w1, hw1'⟩ : ∃ w1, w1 = (w.alloc (.cells #[.int .i64 xa, .int .u8 xk, .int .i64 x2, .int .i64 x3, .int .i64 x4, .int .i64 x5, .int .i64 x6, .int .i64 x7, .int .i64 x8, .int .i64 x9, .bool x10, .int .i64 x11, .int .u64 x12] 26)).alloc (.cells #[.pointer none, .slice none 0 0] 80) := ⟨_, rfl⟩
  have hE : w1.heap[w.heap.size]? = some (.cells #[.int .i64 xa, .int .u8 xk, .int .i64 x2, .int .i64 x3, .int .i64 x4, .int .i64 x5, .int .i64 x6, .int .i64 x7, .int .i64 x8, .int .i64 x9, .bool x10, .int .i64 x11, .int .u64 x12] 26 (0, 0)) := by rw [hw1']; exact (Below.heap_alloc _ _ _ (by simp)).trans (World.alloc_heap_new w _)
  have hS : SbL w.heap.size (w.heap.size + 1) [] w1 := by
    rw [hw1']
    have := sb_new (W := w.alloc (.cells #[.int .i64 xa, .int .u8 xk, .int .i64 x2, .int .i64 x3, .int .i64 x4, .int .i64 x5, .int .i64 x6, .int .i64 x7, .int .i64 x8, .int .i64 x9, .bool x10, .int .i64 x11, .int .u64 x12] 26)) (B := w.heap.size) (by simp)
    simpa using this
  have hb1 : Below w.heap.size w w1 := by rw [hw1']; exact ((Below.refl _ w).alloc (Nat.le_refl _) _).alloc (by simp) _
  rw [← hw1']
  clear hw1'
  have c0 : w1.cell? ⟨w.heap.size, 0, none⟩ = some (.int .i64 xa) := Ly.cellAt hE 0 rfl
  have c1 : w1.cell? ⟨w.heap.size, 1, none⟩ = some (.int .u8 xk) := Ly.cellAt hE 1 rfl
  have hlt : w.heap.size < w1.heap.size := (Array.getElem?_eq_some_iff.1 hE).1
  have HE := Lib.hid hE
  have HS := Lib.hid hS
  have HB1 := Lib.hid hb1
  clear hE hS hb1
  go_upto_region 3 with (first
    | ((with_reducible refine (row_any (kU64_two w1 HLA.out HLK.out) (by simp)).mono ?_); rintro e w2 ⟨rfl, hb2⟩; (have HB2 := Lib.hid (((Below.refl _ w1).alloc (Nat.le_refl _) _).trans (hb2.mono (by simp)))); clear hb2)
    | ((with_reducible refine (sbw_any (SbL.keep HS.out HB2.out) (by have := HRL.out; simp only [List.length_nil]; omega) (Nat.le_trans HB1.out.size HB2.out.size)).mono ?_); rintro e w3 ⟨rfl, hs3, hb3, hk3⟩; (have HS3 := Lib.hid hs3); (have HB3 := Lib.hid hb3); (have HK3 := Lib.hid hk3); clear hs3 hb3 hk3))
  have hE3 := HK3.out.2 _ _ ((HB2.out.block _ hlt).trans HE.out) (by rintro ⟨_, _, _, h, hT⟩; injection h with _ h; subst h; revert hT; decide)
  have d0 : w3.cell? ⟨w.heap.size, 0, none⟩ = some (.int .i64 xa) := Ly.cellAt hE3 0 rfl
  have d1 : w3.cell? ⟨w.heap.size, 1, none⟩ = some (.int .u8 xk) := Ly.cellAt hE3 1 rfl
  have d2 : w3.cell? ⟨w.heap.size, 2, none⟩ = some (.int .i64 x2) := Ly.cellAt hE3 2 rfl
  have d3 : w3.cell? ⟨w.heap.size, 3, none⟩ = some (.int .i64 x3) := Ly.cellAt hE3 3 rfl
  have d4 : w3.cell? ⟨w.heap.size, 4, none⟩ = some (.int .i64 x4) := Ly.cellAt hE3 4 rfl
  have d5 : w3.cell? ⟨w.heap.size, 5, none⟩ = some (.int .i64 x5) := Ly.cellAt hE3 5 rfl
  have d6 : w3.cell? ⟨w.heap.size, 6, none⟩ = some (.int .i64 x6) := Ly.cellAt hE3 6 rfl
  have d7 : w3.cell? ⟨w.heap.size, 7, none⟩ = some (.int .i64 x7) := Ly.cellAt hE3 7 rfl
  have d8 : w3.cell? ⟨w.heap.size, 8, none⟩ = some (.int .i64 x8) := Ly.cellAt hE3 8 rfl
  have d9 : w3.cell? ⟨w.heap.size, 9, none⟩ = some (.int .i64 x9) := Ly.cellAt hE3 9 rfl
  have d10 : w3.cell? ⟨w.heap.size, 10, none⟩ = some (.bool x10) := Ly.cellAt hE3 10 rfl
  have d11 : w3.cell? ⟨w.heap.size, 11, none⟩ = some (.int .i64 x11) := Ly.cellAt hE3 11 rfl
  have d12 : w3.cell? ⟨w.heap.size, 12, none⟩ = some (.int .u64 x12) := Ly.cellAt hE3 12 rfl
  have hlt3 : w.heap.size < w3.heap.size := (Array.getElem?_eq_some_iff.1 hE3).1
  have hBB : Below w.heap.size w w3 := (HB1.out.trans (HB2.out.mono HB1.out.size)).trans HB3.out
  have hs3 := HS3.out
  rw [List.nil_append] at hs3
  have ht := HT.out w3 hs3 hBB.size
  have HTL := Lib.hid ht
  have HBB := Lib.hid hBB
  clear hE3 hs3 ht hBB c0 c1 hlt
  go_wp2_with (first
    | ((with_reducible refine HTL.out.mono ?_); rintro e w4 ⟨rfl, hs4, hb4⟩; (have HS4 := Lib.hid hs4); (have HB4 := Lib.hid hb4); clear hs4 hb4)
    | ((with_reducible refine (sbString_any HS4.out (Nat.le_trans HBB.out.size HB4.out.size)).mono ?_); rintro e w5 ⟨rfl, hb5⟩; (have HB5 := Lib.hid hb5); clear hb5))
  go_ret
  exact ⟨rfl, (HBB.out.trans HB4.out).trans HB5.out⟩
/-- What Put answers. -/
def putV (l : List EntV) : Value := if l.all entB = true then .tuple #[.string ⟨(bytesL l).toArray⟩, .int .i64 0] else .tuple #[.string ⟨#[]⟩, .int .i64 2]
theorem bytesX_len {x : EntV} (h : okE x) (hb : entB x = true) : (bytesX x).length ≤ 1000 := by
  obtain ⟨p, hk, _⟩ := entB_facts hb
  have hn : namesX x = p.2 := by unfold namesX; rw [hk]
  have hrl := rowL_len [x.at_.toNat, x.kind.toNat] (by have := h.at_; have := h.kind; intro y hy; simp at hy; omega)
  have hev := evAll_ok h (has_names hk).2.1
  have hlen := evAll_len x p.2
  have h7 := (has_names hk).2.2.1
  have key : ∀ l : List Ev, (∀ ev ∈ l, okSb ev) → (evsB l).length ≤ 10 * l.length := fun l => by
    induction l with
    | nil => intro _; simp [evsB]
    | cons ev l ih =>
      intro h
      have h1 := evB_len (h ev (List.mem_cons_self ..))
      have h2 := ih fun t ht => h t (List.mem_cons_of_mem _ ht)
      have e : evsB (ev :: l) = evB ev ++ evsB l := rfl
      rw [e, List.length_append, List.length_cons]
      omega
  have hk2 := key _ hev
  unfold bytesX
  rw [hn, List.length_append]
  simp only [List.length_cons, List.length_nil] at hrl
  omega
theorem bytesL_len : ∀ {l : List EntV}, (∀ x ∈ l, rgE x) → l.all entB = true → (bytesL l).length ≤ 1000 * l.length
  | [], _, _ => by simp [bytesL]
  | x :: l, h, hb => by
    simp only [List.all_cons, Bool.and_eq_true] at hb
    have h1 := bytesX_len (okE_of hb.1 (h x (List.mem_cons_self ..))) hb.1
    have h2 := bytesL_len (fun y hy => h y (List.mem_cons_of_mem _ hy)) hb.2
    have e : bytesL (x :: l) = bytesX x ++ bytesL l := rfl
    rw [e, List.length_append, List.length_cons]
    omega
end Go.Proofs.YtljfloopjgpaeabDoor
