/- entry.Line: Word, the closures, the sink. -/
import Derived.Deep.RegionWith
import Derived.Test.YtljfloopjgpaeabDoorVH
import Derived.Test.YtljfloopjgpaeabDoorVP
import Derived.Test.YtljfloopjgpaeabDoorVQ
namespace Go.Proofs.YtljfloopjgpaeabDoor
set_option linter.unusedVariables false
set_option linter.unusedSimpArgs false
open Go.RowKit Go.Shelf
attribute [local go_sem] Oper.semAt_some
set_option maxRecDepth 100000
theorem sp_app (l m : List UInt8) : (⟨l.toArray⟩ : ByteArray) ++ ((⟨#[32]⟩ : ByteArray) ++ ⟨m.toArray⟩) = ⟨(l ++ 32 :: m).toArray⟩ := by
  have e : (⟨#[32]⟩ : ByteArray) = ⟨[32].toArray⟩ := rfl
  rw [e, str_app, str_app]
  rfl
theorem line1_any {w : World} {b : Nat} {l m : List UInt8} (h : w.heap[b]? = some (.cells #[.string ⟨l.toArray⟩] 9 (0, 0))) (hl : l.length + m.length ≤ 1000000000) :
    Calls Tryd.prog 40 #[.string ⟨m.toArray⟩, .pointer (some ⟨b, 0, none⟩)] w fun e w' => e = .returned (.tuple #[]) ∧ w' = w.setCell ⟨b, 0, none⟩ (.string ⟨(l ++ 32 :: m).toArray⟩) := by
  have g0 : w.cell? ⟨b, 0, none⟩ = some (.string ⟨l.toArray⟩) := Ly.cellAt h 0 rfl
  have f0 := Lib.frozen_of_heap h 0
  have hb : b < w.heap.size := (Array.getElem?_eq_some_iff.1 h).1
  have hsp := sp_app l m
  have HSP := Lib.hid hsp
  have hno1 : ¬ 9223372036854775807 < 1 + m.length := by omega
  have hno2 : ¬ 9223372036854775807 < l.length + (1 + m.length) := by omega
  clear h hsp
  go_enter Tryd.func40, Tryd.ntmps40
  go_wp2
  go_end0
  exact ⟨rfl, by rw [HSP.out]⟩
theorem dec_len {u : Nat} (h : u < 18446744073709551616) : (Lib.decDigits u).length ≤ 20 := by
  rw [Lib.decDigits_length]
  rcases Nat.eq_zero_or_pos u with rfl | h1
  · unfold Lib.nDigits; simp
  · have := Lib.numDigits_eq u h1 h
    split at this <;> omega
theorem itoa_len {v : Int} (h1 : -9223372036854775808 ≤ v) (h2 : v ≤ 9223372036854775807) : (Lib.itoa v).length ≤ 21 := by
  unfold Lib.itoa
  split
  · have := dec_len (u := v.natAbs) (by omega)
    rw [List.length_cons]
    omega
  · have := dec_len (u := v.toNat) (by omega)
    omega
theorem line2_any {w : World} {b q : Nat} {l : List UInt8} {v : Int} (h : w.heap[b]? = some (.cells #[.string ⟨l.toArray⟩] 9 (0, 0))) (hq : w.heap[q]? = some (.cells #[.func (.func 40) #[] #[.pointer (some ⟨b, 0, none⟩)]] 64 (0, 0))) (hl : l.length ≤ 100000000) (ht : Tab10 w)
    (h1 : -9223372036854775808 ≤ v) (h2 : v ≤ 9223372036854775807) (s : ByteArray) :
    Calls Tryd.prog 42 #[.string s, .int .i64 v, .pointer (some ⟨q, 0, none⟩)] w fun e w' => e = .returned (.tuple #[]) ∧ ∃ w1, Below w.heap.size w w1 ∧ w' = w1.setCell ⟨b, 0, none⟩ (.string ⟨(l ++ 32 :: Lib.itoa v).toArray⟩) := by
  have g0 : w.cell? ⟨q, 0, none⟩ = some (.func (.func 40) #[] #[.pointer (some ⟨b, 0, none⟩)]) := Ly.cellAt hq 0 rfl
  have hq0 : q < w.heap.size := (Array.getElem?_eq_some_iff.1 hq).1
  have e1 : ∀ args w, (callFunc 40 args).run Tryd.prog w = .ok (.enter 40 args) w := enters_of Tryd.func40 (by kernel_rfl) rfl
  have hit := fun W (hW : Below w.heap.size w W) => itoa_any v h1 h2 W (Tab10.keep ht hW)
  have hlen : (Lib.itoa v).length ≤ 21 := itoa_len h1 h2
  have hln := fun W (hW : Below w.heap.size w W) => line1_any (w := W) (m := Lib.itoa v) ((hW.block _ (Array.getElem?_eq_some_iff.1 h).1).trans h) (by omega)
  have HQ := Lib.hid hq
  have HIT := Lib.hid hit
  have HLN := Lib.hid hln
  have HB0 := Lib.hid (Below.refl w.heap.size w)
  clear hq hit hln h ht hlen
  go_enter Tryd.func42, Tryd.ntmps42
  go_region_with (first
    | ((with_reducible refine (HIT.out _ (Below.refl _ _).drew).mono ?_); rintro e w1 ⟨rfl, hb1⟩; (have HB1 := Lib.hid (show Below w.heap.size w w1 from (Below.refl w.heap.size w).drew.trans hb1)); (have g1 : w1.cell? ⟨q, 0, none⟩ = some (.func (.func 40) #[] #[.pointer (some ⟨b, 0, none⟩)]) := Ly.cellAt ((hb1.block _ hq0).trans HQ.out) 0 rfl); clear hb1)
    | ((with_reducible refine (HLN.out _ HB1.out).mono ?_); rintro e w2 ⟨rfl, rfl⟩))
  all_goals (go_end0; exact ⟨rfl, _, HB1.out, rfl⟩)
theorem line3_any {w : World} {b q : Nat} {l : List UInt8} {v : Int} (h : w.heap[b]? = some (.cells #[.string ⟨l.toArray⟩] 9 (0, 0))) (hq : w.heap[q]? = some (.cells #[.func (.func 40) #[] #[.pointer (some ⟨b, 0, none⟩)]] 64 (0, 0))) (hl : l.length ≤ 100000000) (ht : Tab10 w)
    (h1 : -9223372036854775808 ≤ v) (h2 : v ≤ 9223372036854775807) :
    Calls Tryd.prog 44 #[.int .i64 v, .pointer (some ⟨q, 0, none⟩)] w fun e w' => e = .returned (.tuple #[]) ∧ ∃ w1, Below w.heap.size w w1 ∧ w' = w1.setCell ⟨b, 0, none⟩ (.string ⟨(l ++ 32 :: Lib.itoa v).toArray⟩) := by
  have g0 : w.cell? ⟨q, 0, none⟩ = some (.func (.func 40) #[] #[.pointer (some ⟨b, 0, none⟩)]) := Ly.cellAt hq 0 rfl
  have hq0 : q < w.heap.size := (Array.getElem?_eq_some_iff.1 hq).1
  have e1 : ∀ args w, (callFunc 40 args).run Tryd.prog w = .ok (.enter 40 args) w := enters_of Tryd.func40 (by kernel_rfl) rfl
  have hit := fun W (hW : Below w.heap.size w W) => fmtI_any v h1 h2 W (Tab10.keep ht hW)
  have hlen : (Lib.itoa v).length ≤ 21 := itoa_len h1 h2
  have hln := fun W (hW : Below w.heap.size w W) => line1_any (w := W) (m := Lib.itoa v) ((hW.block _ (Array.getElem?_eq_some_iff.1 h).1).trans h) (by omega)
  have HQ := Lib.hid hq
  have HIT := Lib.hid hit
  have HLN := Lib.hid hln
  have HB0 := Lib.hid (Below.refl w.heap.size w)
  clear hq hit hln h ht hlen
  go_enter Tryd.func44, Tryd.ntmps44
  go_region_with (first
    | ((with_reducible refine (HIT.out _ (Below.refl _ _).drew).mono ?_); rintro e w1 ⟨rfl, hb1⟩; (have HB1 := Lib.hid (show Below w.heap.size w w1 from (Below.refl w.heap.size w).drew.trans hb1)); (have g1 : w1.cell? ⟨q, 0, none⟩ = some (.func (.func 40) #[] #[.pointer (some ⟨b, 0, none⟩)]) := Ly.cellAt ((hb1.block _ hq0).trans HQ.out) 0 rfl); clear hb1)
    | ((with_reducible refine (HLN.out _ HB1.out).mono ?_); rintro e w2 ⟨rfl, rfl⟩))
  all_goals (go_end0; exact ⟨rfl, _, HB1.out, rfl⟩)
set_option maxHeartbeats 1000000 in
theorem line4_any {w : World} {E b q : Nat} {x : EntV} {l : List UInt8} {n : Nat} (h : w.heap[b]? = some (.cells #[.string ⟨l.toArray⟩] 9 (0, 0))) (hq : w.heap[q]? = some (.cells #[.func (.func 40) #[] #[.pointer (some ⟨b, 0, none⟩)]] 64 (0, 0))) (hE1 : w.cell? ⟨E, 1, none⟩ = some (.int .u8 x.kind)) (hE2 : w.cell? ⟨E, 12, none⟩ = some (.int .u64 x.set)) (hE : E < w.heap.size) (hl : l.length ≤ 100000000) (ht : Tab10 w)
    (hn : n < 18446744073709551616) (hp : x.kind = 25 → x.set = n) :
    Calls Tryd.prog 45 #[.int .u64 n, .pointer (some ⟨E, 0, none⟩), .pointer (some ⟨q, 0, none⟩)] w fun e w' => e = .returned (.tuple #[]) ∧ ∃ w1, Below w.heap.size w w1 ∧ w' = w1.setCell ⟨b, 0, none⟩ (.string ⟨(l ++ 32 :: Lib.decDigits n).toArray⟩) := by
  have g0 : w.cell? ⟨q, 0, none⟩ = some (.func (.func 40) #[] #[.pointer (some ⟨b, 0, none⟩)]) := Ly.cellAt hq 0 rfl
  have hq0 : q < w.heap.size := (Array.getElem?_eq_some_iff.1 hq).1
  have e1 : ∀ args w, (callFunc 40 args).run Tryd.prog w = .ok (.enter 40 args) w := enters_of Tryd.func40 (by kernel_rfl) rfl
  have hit := fun W (hW : Below w.heap.size w W) => fmtU_any n hn W (Tab10.keep ht hW)
  have hlen : (Lib.decDigits n).length ≤ 21 := Nat.le_trans (dec_len hn) (by decide)
  have hln := fun W (hW : Below w.heap.size w W) => line1_any (w := W) (m := Lib.decDigits n) ((hW.block _ (Array.getElem?_eq_some_iff.1 h).1).trans h) (by omega)
  have HQ := Lib.hid hq
  have HIT := Lib.hid hit
  have HLN := Lib.hid hln
  clear hq hit hln h ht hlen
  go_enter Tryd.func45, Tryd.ntmps45
  by_cases hk : x.kind = 25
  · have hx : x.set = (n : Int) := hp hk
    have d1 : (x.kind == 25) = true := by rw [hk]; rfl
    rw [hx] at hE2
    clear hk hp hx
    go_upto_region 1 with fail
    go_region_with (first
      | ((with_reducible refine (HIT.out _ (Below.refl _ _).drew).mono ?_); rintro e w1 ⟨rfl, hb1⟩; (have HB1 := Lib.hid (show Below w.heap.size w w1 from (Below.refl w.heap.size w).drew.trans hb1)); (have g1 : w1.cell? ⟨q, 0, none⟩ = some (.func (.func 40) #[] #[.pointer (some ⟨b, 0, none⟩)]) := Ly.cellAt ((hb1.block _ hq0).trans HQ.out) 0 rfl); clear hb1)
      | ((with_reducible refine (HLN.out _ HB1.out).mono ?_); rintro e w2 ⟨rfl, rfl⟩))
    all_goals (go_wp2; (first | go_end0 | go_ret2 | (refine bodyPost_ret (v := .tuple #[]) (by simp [results, Tryd.f45, go_sem]) rfl ?_)); exact ⟨rfl, _, HB1.out, rfl⟩)
  · have d1 : (x.kind == 25) = false := by rw [beq_eq_false_iff_ne]; exact hk
    clear hk hp
    go_upto_region 2 with fail
    go_region_with (first
      | ((with_reducible refine (HIT.out _ (Below.refl _ _).drew).mono ?_); rintro e w1 ⟨rfl, hb1⟩; (have HB1 := Lib.hid (show Below w.heap.size w w1 from (Below.refl w.heap.size w).drew.trans hb1)); (have g1 : w1.cell? ⟨q, 0, none⟩ = some (.func (.func 40) #[] #[.pointer (some ⟨b, 0, none⟩)]) := Ly.cellAt ((hb1.block _ hq0).trans HQ.out) 0 rfl); clear hb1)
      | ((with_reducible refine (HLN.out _ HB1.out).mono ?_); rintro e w2 ⟨rfl, rfl⟩))
    all_goals (go_wp2; (first | go_end0 | go_ret2 | (refine bodyPost_ret (v := .tuple #[]) (by simp [results, Tryd.f45, go_sem]) rfl ?_)); exact ⟨rfl, _, HB1.out, rfl⟩)
end Go.Proofs.YtljfloopjgpaeabDoor
