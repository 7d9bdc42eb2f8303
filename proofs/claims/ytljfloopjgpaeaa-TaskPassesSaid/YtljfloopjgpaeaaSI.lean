/- task.New. -/
import Derived.Test.YtljfloopjgpaeaaSH
import Derived.Test.YtljfloopjgpaeaaNG
import Derived.Test.YtljfloopjgpaeaaT
namespace Go.Proofs.Ytljfloopjgpaeaa
set_option linter.unusedVariables false
set_option linter.unusedSimpArgs false
open Go.RowKit Go.Shelf
attribute [local go_sem] Oper.semAt_some
set_option maxRecDepth 100000
set_option maxHeartbeats 1000000 in
theorem tNew_bad {c1 c2 c3 : Value} {P : ProgV} {w : World} (h : RProg w c1 c2 c3 P) (hs : saneP P = false) :
    Calls Try.prog 44 #[.agg #[c1, c2, c3]] w fun e w' => e = .returned (.tuple #[.pointer none, .int .i64 2]) ∧ Below w.heap.size w w' := by
  have hs0 := hs
  unfold saneP at hs0
  have hck := fun (W : World) (h : RProg W c1 c2 c3 P) => check_any c1 c2 c3 P W h
  simp only [tripV] at hck
  obtain ⟨y1, y2, y3, hx⟩ : ∃ a b d, checkW P = (a, b, d) := ⟨_, _, _, rfl⟩
  rw [hx] at hs0 hck
  simp only at hs0 hck
  have hd : (y3 != 0) = true := by simpa using hs0
  have HCK := Lib.hid hck
  have HP := Lib.hid h
  clear h hck hx hs hs0
  go_enter Try.func44, Try.ntmps44
  go_wp2_with (go_at_call 19; (with_reducible refine (HCK.out _ (HP.out.keep (by (repeat (first | with_reducible exact Below.refl _ _ | (with_reducible refine Below.setCell ?_ (by first | (simp; done) | (simp; omega) | omega) _) | (with_reducible refine Below.alloc ?_ (by first | (simp; done) | (simp; omega) | omega) _) | (with_reducible refine Below.drew ?_)))))).mono ?_); rintro e w1 ⟨rfl, hb1⟩; have HB := Lib.hid hb1; clear hb1)
  refine Ly.ret_of (by simp [results, Try.results44, go_sem] <;> (repeat' (first | rfl | apply And.intro))) rfl ⟨rfl, by (have hszq := HB.out.size; (try simp only [World.size_alloc] at hszq); (repeat (first | (with_reducible refine Below.setCell ?_ (by first | (simp; done) | (simp; omega) | omega) _) | (with_reducible refine Below.alloc ?_ (by first | (simp; done) | (simp; omega) | omega) _) | (with_reducible refine Below.drew ?_))); refine Below.trans ?_ (HB.out.mono (by first | (simp; done) | (simp; omega) | omega)); (repeat (first | with_reducible exact Below.refl _ _ | (with_reducible refine Below.setCell ?_ (by first | (simp; done) | (simp; omega) | omega) _) | (with_reducible refine Below.alloc ?_ (by first | (simp; done) | (simp; omega) | omega) _) | (with_reducible refine Below.drew ?_))))⟩
set_option maxHeartbeats 1000000 in
theorem tNew_ok {c1 c2 c3 : Value} {P : ProgV} {w : World} (h : RProg w c1 c2 c3 P) (hs : saneP P = true) (hsm : Small P) :
    Calls Try.prog 44 #[.agg #[c1, c2, c3]] w fun e w' => ∃ wp x1 x2 x3, e = .returned (.tuple #[.pointer (some ⟨wp.heap.size, 0, none⟩), .int .i64 0]) ∧ Below w.heap.size w wp ∧ RProg wp x1 x2 x3 P ∧ Below wp.heap.size wp w' ∧ TabAt w' wp.heap.size x1 x2 x3 (.slice none 0 0) := by
  have hs0 := hs
  unfold saneP at hs0
  have hck := fun (W : World) (h : RProg W c1 c2 c3 P) => check_any c1 c2 c3 P W h
  simp only [tripV] at hck
  obtain ⟨y1, y2, y3, hx⟩ : ∃ a b d, checkW P = (a, b, d) := ⟨_, _, _, rfl⟩
  rw [hx] at hs0 hck
  simp only at hs0 hck
  obtain rfl : y3 = 0 := by simpa using hs0
  have HCK := Lib.hid hck
  have HP := Lib.hid h
  have HSM := Lib.hid hsm
  obtain ⟨A1, n1, rfl, _, _, hl1⟩ := h.caps.val
  obtain ⟨A2, n2, rfl, _, _, hl2⟩ := h.codes.val
  obtain ⟨A3, n3, rfl, _, _, hl3⟩ := h.sites.val
  clear h hck hx hs hs0 hsm
  go_enter Try.func44, Try.ntmps44
  go_wp2_with (first | (go_at_call 19; (with_reducible refine (HCK.out _ (HP.out.keep (by (repeat (first | with_reducible exact Below.refl _ _ | (with_reducible refine Below.setCell ?_ (by first | (simp; done) | (simp; omega) | omega) _) | (with_reducible refine Below.alloc ?_ (by first | (simp; done) | (simp; omega) | omega) _) | (with_reducible refine Below.drew ?_)))))).mono ?_); rintro e w1 ⟨rfl, hb1⟩; have q0 : w1.cell? ⟨w.heap.size, 0, none⟩ = some (.slice A1 P.caps.length n1) := Below.at hb1 (by simp) (by simp); have q1 : w1.cell? ⟨w.heap.size, 1, none⟩ = some (.slice A2 P.codes.length n2) := Below.at hb1 (by simp) (by simp); have q2 : w1.cell? ⟨w.heap.size, 2, none⟩ = some (.slice A3 P.sites.length n3) := Below.at hb1 (by simp) (by simp); have HB := Lib.hid hb1; have hlt1 : w.heap.size < w1.heap.size := (by have := hb1.size; simp at this; omega); clear hb1) | (go_at_call 26; (with_reducible refine (copyR_any (HP.out.keep (by (have hszq := HB.out.size; (try simp only [World.size_alloc] at hszq); (repeat (first | (with_reducible refine Below.setCell ?_ (by first | (simp; done) | (simp; omega) | omega) _) | (with_reducible refine Below.alloc ?_ (by first | (simp; done) | (simp; omega) | omega) _) | (with_reducible refine Below.drew ?_))); refine Below.trans ?_ (HB.out.mono (by first | (simp; done) | (simp; omega) | omega)); (repeat (first | with_reducible exact Below.refl _ _ | (with_reducible refine Below.setCell ?_ (by first | (simp; done) | (simp; omega) | omega) _) | (with_reducible refine Below.alloc ?_ (by first | (simp; done) | (simp; omega) | omega) _) | (with_reducible refine Below.drew ?_)))))) HSM.out).mono ?_); rintro e w2 ⟨_, _, rfl, ⟨x1, x2, x3, rfl, rfl⟩, hrp, hb2⟩; have HB2 := Lib.hid hb2; have HRP := Lib.hid hrp; clear hb2 hrp))
  refine Ly.ret_of (by simp [results, Try.results44, go_sem] <;> (repeat' (first | rfl | apply And.intro))) rfl ⟨w2, x1, x2, x3, rfl, ?_, HRP.out, (Below.refl _ _).alloc (Nat.le_refl _) _, World.alloc_heap_new _ _⟩
  have h1 : Below w.heap.size w w1 := by (have hszq := HB.out.size; (try simp only [World.size_alloc] at hszq); (repeat (first | (with_reducible refine Below.setCell ?_ (by first | (simp; done) | (simp; omega) | omega) _) | (with_reducible refine Below.alloc ?_ (by first | (simp; done) | (simp; omega) | omega) _) | (with_reducible refine Below.drew ?_))); refine Below.trans ?_ (HB.out.mono (by first | (simp; done) | (simp; omega) | omega)); (repeat (first | with_reducible exact Below.refl _ _ | (with_reducible refine Below.setCell ?_ (by first | (simp; done) | (simp; omega) | omega) _) | (with_reducible refine Below.alloc ?_ (by first | (simp; done) | (simp; omega) | omega) _) | (with_reducible refine Below.drew ?_))))
  exact h1.trans (HB2.out.mono h1.size)
end Go.Proofs.Ytljfloopjgpaeaa
