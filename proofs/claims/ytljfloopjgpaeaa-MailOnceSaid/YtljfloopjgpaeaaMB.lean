/- tollbarlaw27.alive. -/
import Derived.Test.YtljfloopjgpaeaaMA
namespace Go.Proofs.Ytljfloopjgpaeaa
set_option linter.unusedVariables false
set_option linter.unusedSimpArgs false
open Go.RowKit
attribute [local go_sem] Oper.semAt_some
set_option maxRecDepth 100000

/-- A block that holds boxes. -/
def BxO (x : Obj) (o : Nat → Bool) (m : Nat → Option Nat) : Prop := ∀ (w : World) (B : Nat), w.heap[B]? = some x → Bxs w B o m
theorem Bxs.obj {w : World} {B : Nat} {o : Nat → Bool} {m : Nat → Option Nat} (h : Bxs w B o m) {x : Obj} (hx : w.heap[B]? = some x) : BxO x o m := by
  intro w2 B2 h2
  refine ⟨(Array.getElem?_eq_some_iff.1 h2).1, fun i hi => ?_, fun i hi => ?_, fun i => ?_⟩
  · rw [← h.op i hi]; simp only [World.cell?, hx, h2]
  · rw [← h.ml i hi]; simp only [World.cell?, hx, h2]
  · rw [← h.fr i]; simp only [World.frozen?, hx, h2]
theorem Bxs.got {w : World} {B : Nat} {o : Nat → Bool} {m : Nat → Option Nat} (h : Bxs w B o m) : ∃ x, w.heap[B]? = some x ∧ BxO x o m :=
  ⟨w.heap[B]'h.lt, Array.getElem?_eq_getElem h.lt, h.obj (Array.getElem?_eq_getElem h.lt)⟩
/-- There are such blocks. -/
def bxC (o : Nat → Bool) (m : Nat → Option Nat) (k : Nat) : Value := if k % 2 = 0 then .bool (o (k / 2)) else ptr (m (k / 2))
theorem bx_some (o : Nat → Bool) (m : Nat → Option Nat) : ∃ x, BxO x o m := by
  refine ⟨.cells ((List.range 64).map (bxC o m)).toArray 0 (0, 0), fun w B h => ⟨(Array.getElem?_eq_some_iff.1 h).1, fun i hi => Ly.cellAt h _ ?_, fun i hi => Ly.cellAt h _ ?_, fun i => Ly.frozAt h i⟩⟩
  · rw [List.getElem?_toArray, List.getElem?_map, List.getElem?_range (by omega)]
    simp only [Option.map_some, bxC]
    rw [if_pos (by omega), show i * 2 / 2 = i by omega]
  · rw [List.getElem?_toArray, List.getElem?_map, List.getElem?_range (by omega)]
    simp only [Option.map_some, bxC]
    rw [if_neg (by omega), show (i * 2 + 1) / 2 = i by omega]
theorem OnlyB.apart {B : Nat} {w w' : World} (h : OnlyB B w w') : Ly.Apart (fun k => k = B) w w' := ⟨h.os, h.tape, h.output, h.size, fun k h1 h2 => h.block k h1 h2⟩
/-- What a call that keeps to the boxes leaves. -/
def bR (B : Nat) (c : Value) (o : Nat → Bool) (m : Nat → Option Nat) (v : Value) (p : Nat → Option Obj) : Prop := v = c ∧ ∃ x, p = Ly.pt1 B x ∧ BxO x o m
theorem bR_ne (B : Nat) (c : Value) (o : Nat → Bool) (m : Nat → Option Nat) (N : Nat) : ∃ v p, bR B c o m v p ∧ (∀ k, p k ≠ none → k = B ∨ N ≤ k) ∧ ∃ n, ∀ k, n ≤ k → p k = none := by
  obtain ⟨x, hx⟩ := bx_some o m
  refine ⟨c, _, ⟨rfl, x, rfl, hx⟩, fun k hk => .inl ?_, B + 1, fun k hk => ?_⟩
  · by_cases e : k = B
    · exact e
    · exact absurd (by simp [Ly.pt1, e]) hk
  · simp only [Ly.pt1]; rw [if_neg (by omega)]
theorem bR_of {P : Program} {f : FuncId} {args : Array Value} {w : World} {B : Nat} {c : Value} {o : Nat → Bool} {m : Nat → Option Nat} (h : Calls P f args w fun e w' => e = .returned c ∧ Bxs w' B o m ∧ OnlyB B w w') :
    Calls P f args w fun e w' => ∃ v p, e = .returned v ∧ bR B c o m v p ∧ (∀ k, p k ≠ none → k = B ∨ w.heap.size ≤ k) ∧ (∀ k, k = B → p k ≠ none) ∧ (∀ k o, p k = some o → w'.heap[k]? = some o) ∧ Ly.Apart (fun k => k = B) w w' := by
  refine h.mono fun e w' ⟨he, hb, ho⟩ => ?_
  obtain ⟨x, hx, hX⟩ := hb.got
  refine ⟨c, _, he, ⟨rfl, x, rfl, hX⟩, fun k hk => .inl ?_, fun k hk => by subst hk; simp [Ly.pt1], fun k y hk => ?_, ho.apart⟩
  · by_cases e : k = B
    · exact e
    · exact absurd (by simp [Ly.pt1, e]) hk
  · by_cases e : k = B
    · subst e; simp only [Ly.pt1, if_true] at hk; rw [← hk]; exact hx
    · simp [Ly.pt1, e] at hk
/-- The same, with one new block. -/
def bR2 (B i : Nat) (c : Value) (y : Obj) (o : Nat → Bool) (m : Nat → Option Nat) (v : Value) (p : Nat → Option Obj) : Prop := v = c ∧ ∃ x nb, nb ≠ B ∧ p = Ly.pt2 B x nb y ∧ BxO x o (updF m i (some nb))
theorem bR2_ne (B i : Nat) (c : Value) (y : Obj) (o : Nat → Bool) (m : Nat → Option Nat) (N : Nat) : ∃ v p, bR2 B i c y o m v p ∧ (∀ k, p k ≠ none → k = B ∨ N ≤ k) ∧ ∃ n, ∀ k, n ≤ k → p k = none := by
  obtain ⟨x, hx⟩ := bx_some o (updF m i (some (N + B + 1)))
  refine ⟨c, _, ⟨rfl, x, N + B + 1, by omega, rfl, hx⟩, fun k hk => ?_, N + B + 2, fun k hk => ?_⟩
  · by_cases e : k = N + B + 1
    · exact .inr (by omega)
    · by_cases e2 : k = B
      · exact .inl e2
      · exact absurd (by simp [Ly.pt2, e, e2]) hk
  · simp only [Ly.pt2]; rw [if_neg (by omega), if_neg (by omega)]
theorem bR2_of {P : Program} {f : FuncId} {args : Array Value} {w : World} {B i : Nat} (hB : B < w.heap.size) {c : Value} {y : Obj} {o : Nat → Bool} {m : Nat → Option Nat} (h : Calls P f args w fun e w' => e = .returned c ∧ ∃ nb, w.heap.size ≤ nb ∧ w'.heap[nb]? = some y ∧ Bxs w' B o (updF m i (some nb)) ∧ OnlyB B w w') :
    Calls P f args w fun e w' => ∃ v p, e = .returned v ∧ bR2 B i c y o m v p ∧ (∀ k, p k ≠ none → k = B ∨ w.heap.size ≤ k) ∧ (∀ k, k = B → p k ≠ none) ∧ (∀ k o, p k = some o → w'.heap[k]? = some o) ∧ Ly.Apart (fun k => k = B) w w' := by
  refine h.mono fun e w' ⟨he, nb, hn, hy, hb, ho⟩ => ?_
  obtain ⟨x, hx, hX⟩ := hb.got
  have hne : nb ≠ B := by omega
  refine ⟨c, _, he, ⟨rfl, x, nb, hne, rfl, hX⟩, fun k hk => ?_, fun k hk => by subst hk; simp [Ly.pt2, Ne.symm hne], fun k z hk => ?_, ho.apart⟩
  · by_cases e : k = nb
    · exact .inr (by omega)
    · by_cases e2 : k = B
      · exact .inl e2
      · exact absurd (by simp [Ly.pt2, e, e2]) hk
  · by_cases e : k = nb
    · subst e; simp only [Ly.pt2, if_true] at hk; rw [← hk]; exact hy
    · by_cases e2 : k = B
      · subst e2; simp only [Ly.pt2, if_neg e, if_true] at hk; rw [← hk]; exact hx
      · simp [Ly.pt2, e, e2] at hk

theorem fields_mail : (Try.prog.fieldsOf 30).toList.map (fun f => (f.name, f.type, f.offset)) = [("Case", 3, 0), ("Val", 2, 1), ("Ok", 4, 2), ("Code", 28, 3)] := by kernel_rfl
theorem eq_mail (d : Nat) (a1 a2 a4 b1 b2 b4 : Int) (a3 b3 : Bool) (w : World) : (Op.equalIn (d + 2) 30 (.agg #[.int .i64 a1, .int .i64 a2, .bool a3, .int .i64 a4]) (.agg #[.int .i64 b1, .int .i64 b2, .bool b3, .int .i64 b4])).run Try.prog w = .ok (a1 == b1 && (a2 == b2 && (a3 == b3 && a4 == b4))) w := by
  have h1 : ∀ (a b : Int) (w : World), (Op.equalIn (d + 1) 3 (.int .i64 a) (.int .i64 b)).run Try.prog w = .ok (a == b) w := fun a b w => run_equalIn_int w d 3 .i64 .i64 a b Try.underlying3
  have h2 : ∀ (a b : Int) (w : World), (Op.equalIn (d + 1) 2 (.int .i64 a) (.int .i64 b)).run Try.prog w = .ok (a == b) w := fun a b w => run_equalIn_int w d 2 .i64 .i64 a b Try.underlying2
  have h3 : ∀ (a b : Bool) (w : World), (Op.equalIn (d + 1) 4 (.bool a) (.bool b)).run Try.prog w = .ok (a == b) w := fun a b w => run_equalIn_bool w d 4 a b Try.underlying4
  have h4 : ∀ (a b : Int) (w : World), (Op.equalIn (d + 1) 28 (.int .i64 a) (.int .i64 b)).run Try.prog w = .ok (a == b) w := fun a b w => run_equalIn_int w d 28 .i64 .i64 a b Try.underlying28
  rw [run_equalIn_struct w (d + 1) 30 _ _ (by kernel_rfl) (by kernel_rfl)]
  obtain ⟨f0, f1, f2, f3, hf⟩ : ∃ f0 f1 f2 f3, (Try.prog.fieldsOf 30).toList = [f0, f1, f2, f3] := ⟨_, _, _, _, rfl⟩
  have h := fields_mail
  rw [hf] at h
  simp only [List.map_cons, List.map_nil, List.cons.injEq, Prod.mk.injEq, and_true] at h
  obtain ⟨⟨n0, t0, o0⟩, ⟨n1, t1, o1⟩, ⟨n2, t2, o2⟩, n3, t3, o3⟩ := h
  rw [hf]
  simp only [Op.eqFields, n0, n1, n2, n3, t0, t1, t2, t3, o0, o1, o2, o3]
  simp [go_sem, h1, h2, h3, h4]
  (repeat' split) <;> simp_all
set_option maxHeartbeats 4000000 in
theorem alive27_any (w : World) : Calls Try.prog 13 #[] w fun e w' => e = .returned (.bool true) ∧ Below w.heap.size w w' := by
  go_enter Try.func13, Try.ntmps13
  go_upto_region 3 with (go_at_call 14; (with_reducible refine (new_any _).mono ?_); rintro e w1 ⟨rfl, hbx, hb1⟩)
  have hlt := hbx.lt
  obtain ⟨x, hx, hX⟩ := hbx.got
  have HIN := Lib.hid (((((Ly.II.nil hb1).frz (fun k => k = w1.heap.size)).put (Nat.le_refl _) hx).alloc rfl (.cells #[.int .i64 (-1), .int .i64 7, .bool true, .int .i64 0] 30 (0, 0)) rfl))
  have HX := Lib.hid hX
  clear hX hx hbx hb1
  generalize w1.heap.size = M at *
  refine Ly.regionS (by kernel_rfl) (by kernel_rfl) HIN.out.1 HIN.out.2 (by simp only [List.size_toArray, List.length_cons, List.length_nil, Nat.reduceAdd]; rfl) (fun O Z hO hZ => ?_); have HO := Lib.hid hO; clear hO
  first
    | (apply Ly.kp HO 0; (case hx => exact ⟨rfl, rfl, rfl⟩); (case hk => decide +kernel); (case hv => intro w_ hw_; (go_simp <;> first | with_reducible rfl | exact ⟨rfl, rfl⟩)); simp only [Act.put, Ly.p1, Ly.p2, Ly.p3])
  first
    | (apply Ly.kp HO 2; (case hx => exact ⟨rfl, rfl, rfl⟩); (case hk => decide +kernel); (case hv => intro w_ hw_; (go_simp <;> first | with_reducible rfl | exact ⟨rfl, rfl⟩)); simp only [Act.put, Ly.p1, Ly.p2, Ly.p3])
  first
    | (apply Ly.kf HO 3; (case hx => exact ⟨rfl, rfl, rfl⟩); (case hk => decide +kernel); (case hv => intro w_ hw_ hF_; have P_ := hF_ M _ (show M = M from rfl) (by (repeat (first | exact Ly.ua _ _ _ | rw [Ly.un _ _ (by omega)] | rw [Ly.am]))); obtain ⟨c0, c1, c2, c3⟩ := Ly.cells4 P_; clear P_; (go_simp <;> first | with_reducible rfl | exact ⟨rfl, rfl⟩)); simp only [Act.put, Ly.p1, Ly.p2, Ly.p3])
  first
    | (apply Ly.kp HO 5; (case hx => exact ⟨rfl, rfl, rfl⟩); (case hk => decide +kernel); (case hv => intro w_ hw_; (go_simp <;> first | with_reducible rfl | exact ⟨rfl, rfl⟩)); simp only [Act.put, Ly.p1, Ly.p2, Ly.p3])
  first
    | (apply Ly.kf HO 6; (case hx => exact ⟨rfl, rfl, rfl⟩); (case hk => decide +kernel); (case hv => intro w_ hw_ hF_; have P_ := hF_ M _ (show M = M from rfl) (by (repeat (first | exact Ly.ua _ _ _ | rw [Ly.un _ _ (by omega)] | rw [Ly.am]))); obtain ⟨c0, c1, c2, c3⟩ := Ly.cells4 P_; clear P_; (go_simp <;> first | with_reducible rfl | exact ⟨rfl, rfl⟩)); simp only [Act.put, Ly.p1, Ly.p2, Ly.p3])
  first
    | (apply Ly.kst HO 1 (own := fun k => k = w.heap.size) (R := bR w.heap.size (.int .i64 0) (updF (fun _ => false) 2 true) (fun _ => none)); (case hx => exact ⟨rfl, rfl, rfl⟩); (case hk => decide +kernel); (case hrun => intro w_; (go_simp <;> first | with_reducible rfl | exact ⟨rfl, rfl⟩)); (case hG => exact fun _ _ h_ _ => h_); (case hown => (rintro k_ rfl; exact ⟨⟨_, by (repeat (first | exact Ly.ua _ _ _ | rw [Ly.un _ _ (by omega)] | rw [Ly.am]))⟩, fun h_ => by have h2_ : w.heap.size = M := h_; omega⟩)); (case hne => exact bR_ne _ _ _ _); (case hc => intro w_ hw_; exact bR_of (open_at (HX.out w_ _ (hw_.holds _ _ (by (repeat (first | exact Ly.ua _ _ _ | rw [Ly.un _ _ (by omega)] | rw [Ly.am]))))) 2 (by omega))))
  intro v_ p_ hR_ hf_ hn_
  obtain ⟨rfl, x2, rfl, hX2⟩ := hR_
  have HX2 := Lib.hid hX2
  clear hX2 hf_ hn_
  rw [Ly.patch1]
  simp only [Act.put, Ly.p1, Ly.p2, Ly.p3]
  first
    | (apply Ly.kst HO 4 (own := fun k => k = w.heap.size) (R := bR2 w.heap.size 2 (.int .i64 0) (.cells #[.int .i64 (-1), .int .i64 7, .bool true, .int .i64 0] 30 (0, 0)) (updF (fun _ => false) 2 true) (fun _ => none)); (case hx => exact ⟨rfl, rfl, rfl⟩); (case hk => decide +kernel); (case hrun => intro w_; (go_simp <;> first | with_reducible rfl | exact ⟨rfl, rfl⟩)); (case hG => exact fun _ _ h_ _ => h_); (case hown => (rintro k_ rfl; exact ⟨⟨_, by (repeat (first | exact Ly.ua _ _ _ | rw [Ly.un _ _ (by omega)] | rw [Ly.am]))⟩, fun h_ => by have h2_ : w.heap.size = M := h_; omega⟩)); (case hne => exact bR2_ne _ _ _ _ _ _); (case hc => intro w_ hw_; exact bR2_of (HX2.out w_ _ (hw_.holds _ _ (by (repeat (first | exact Ly.ua _ _ _ | rw [Ly.un _ _ (by omega)] | rw [Ly.am]))))).lt (put_ok (HX2.out w_ _ (hw_.holds _ _ (by (repeat (first | exact Ly.ua _ _ _ | rw [Ly.un _ _ (by omega)] | rw [Ly.am]))))) 2 (by omega) (-1) 7 true 0 (by decide) rfl rfl)))
  intro v_ p_ hR_ hf_ hn_
  obtain ⟨rfl, x3, nb, hne, rfl, hX3⟩ := hR_
  have HX3 := Lib.hid hX3
  have hq := (hf_ nb (by simp [Ly.pt2])).2.resolve_left hne
  have hq2 := (Ly.St.fresh_upd (Ly.St.fresh_upd hq).2).1
  clear hX3 hf_ hn_ hq
  rw [Ly.patch2]
  simp only [Act.put, Ly.p1, Ly.p2, Ly.p3]
  first
    | (apply Ly.kst HO 7 (own := fun k => k = w.heap.size) (R := bR w.heap.size (.int .i64 9) (updF (fun _ => false) 2 true) (updF (fun _ => none) 2 (some nb))); (case hx => exact ⟨rfl, rfl, rfl⟩); (case hk => decide +kernel); (case hrun => intro w_; (go_simp <;> first | with_reducible rfl | exact ⟨rfl, rfl⟩)); (case hG => exact fun _ _ h_ _ => h_); (case hown => (rintro k_ rfl; exact ⟨⟨_, by (repeat (first | exact Ly.ua _ _ _ | rw [Ly.un _ _ (by omega)] | rw [Ly.am]))⟩, fun h_ => by have h2_ : w.heap.size = M := h_; omega⟩)); (case hne => exact bR_ne _ _ _ _); (case hc => intro w_ hw_; exact bR_of (put_have (HX3.out w_ _ (hw_.holds _ _ (by (repeat (first | exact Ly.ua _ _ _ | rw [Ly.un _ _ (by omega)] | rw [Ly.am]))))) 2 (by omega) (-1) 7 true 0 (by decide) rfl nb rfl)))
  intro v_ p_ hR_ hf_ hn_
  obtain ⟨rfl, x4, rfl, hX4⟩ := hR_
  have HX4 := Lib.hid hX4
  clear hX4 hf_ hn_
  rw [Ly.patch1]
  simp only [Act.put, Ly.p1, Ly.p2, Ly.p3]
  first
    | (apply Ly.kp HO 8; (case hx => exact ⟨rfl, rfl, rfl⟩); (case hk => decide +kernel); (case hv => intro w_ hw_; (go_simp <;> first | with_reducible rfl | exact ⟨rfl, rfl⟩)); simp only [Act.put, Ly.p1, Ly.p2, Ly.p3])
  first
    | (apply Ly.kp HO 9; (case hx => exact ⟨rfl, rfl, rfl⟩); (case hk => decide +kernel); (case hv => intro w_ hw_; (go_simp <;> first | with_reducible rfl | exact ⟨rfl, rfl⟩)); simp only [Act.put, Ly.p1, Ly.p2, Ly.p3])
  first
    | (apply Ly.kp HO 10; (case hx => exact ⟨rfl, rfl, rfl⟩); (case hk => decide +kernel); (case hv => intro w_ hw_; (go_simp <;> first | with_reducible rfl | exact ⟨rfl, rfl⟩)); simp only [Act.put, Ly.p1, Ly.p2, Ly.p3])
  refine Ly.kd HO (by kernel_rfl) (fun hiv2 => hZ _ _ (fun W4 hw2 => ?_))
  clear hZ Z HO O
  have hM := hw2.holds M _ (by (repeat (first | exact Ly.ua _ _ _ | rw [Ly.un _ _ (by omega)] | rw [Ly.am])))
  have hN := hw2.holds nb _ (by (repeat (first | exact Ly.ua _ _ _ | rw [Ly.un _ _ (by omega)] | rw [Ly.am])))
  have hX4 := HX4.out W4 _ (hw2.holds w.heap.size _ (by (repeat (first | exact Ly.ua _ _ _ | rw [Ly.un _ _ (by omega)] | rw [Ly.am]))))
  have hb4 := hw2.below
  clear hw2 hiv2 HIN HX HX2 HX3 HX4
  have hMl : M < W4.heap.size := (Array.getElem?_eq_some_iff.1 hM).1
  have hNl : nb < W4.heap.size := (Array.getElem?_eq_some_iff.1 hN).1
  have HX4 := Lib.hid hX4
  have HB4 := Lib.hid hb4
  have HM := Lib.hid hM
  have HN := Lib.hid hN
  clear hX4 hb4 hM hN
  go_upto_region 5 with (go_at_call 49; (refine (has_at HX4.out 2 (by omega)).mono ?_); rintro e w5 ⟨rfl, hX5, ho5⟩)
  have HX5 := Lib.hid hX5
  have HB5 := Lib.hid (HB4.out.trans (Below.mono ⟨ho5.os, ho5.tape, ho5.output, ho5.size, fun k hk => ho5.block k (Nat.lt_of_lt_of_le hk HB4.out.size) (by omega)⟩ (Nat.le_refl _)))
  have HM5 := Lib.hid ((ho5.block M hMl (by omega)).trans HM.out)
  have HN5 := Lib.hid ((ho5.block nb hNl hne).trans HN.out)
  have HS5 := Lib.hid ho5.size
  clear hX5 ho5 HX4 HB4 HM HN
  go_upto_region 6 with (go_at_call 17; (refine (take_some HX5.out 2 (by omega) (-1) 7 true 0 nb rfl HN5.out hne).mono ?_); rintro e w6 ⟨rfl, hX6, ho6⟩)
  have HX6 := Lib.hid (alloc_one hX6 (.cells #[.int .i64 (-1), .int .i64 7, .bool true, .int .i64 0] 30 (0, 0)))
  have hBl : w.heap.size < w6.heap.size := hX6.lt
  have HB6 := Lib.hid ((HB5.out.trans (Below.mono ⟨ho6.os, ho6.tape, ho6.output, ho6.size, fun k hk => ho6.block k (Nat.lt_of_lt_of_le hk HB5.out.size) (by omega)⟩ (Nat.le_refl _))).alloc (by omega) (.cells #[.int .i64 (-1), .int .i64 7, .bool true, .int .i64 0] 30 (0, 0)))
  have HM6 := Lib.hid ((Below.heap_alloc _ (.cells #[.int .i64 (-1), .int .i64 7, .bool true, .int .i64 0] 30 (0, 0)) _ (by have := HS5.out; have := ho6.size; omega)).trans ((ho6.block M (by have := HS5.out; omega) (by omega)).trans HM5.out))
  have HK6 := Lib.hid (alloc_its w6 (.cells #[.int .i64 (-1), .int .i64 7, .bool true, .int .i64 0] 30 (0, 0)))
  have hMK : M < w6.heap.size := by have := HS5.out; have := ho6.size; omega
  have hKl : (w6.alloc (.cells #[.int .i64 (-1), .int .i64 7, .bool true, .int .i64 0] 30 (0, 0))).heap.size = w6.heap.size + 1 := by simp
  clear hX6 ho6 HX5 HB5 HM5 HN5 HS5
  generalize w6.heap.size = K at *
  generalize w6.alloc (.cells #[.int .i64 (-1), .int .i64 7, .bool true, .int .i64 0] 30 (0, 0)) = w7 at *
  go_upto_region 7 with (go_at_call 17; (refine (take_none HX6.out 2 (by omega) rfl).mono ?_); rintro e w8 ⟨rfl, hX8, ho8⟩)
  have HX8 := Lib.hid (alloc_one hX8 (.cells #[.int .i64 0, .int .i64 0, .bool false, .int .i64 0] 30 (0, 0)))
  have HB8 := Lib.hid ((HB6.out.trans (Below.mono ⟨ho8.os, ho8.tape, ho8.output, ho8.size, fun k hk => ho8.block k (Nat.lt_of_lt_of_le hk HB6.out.size) (by omega)⟩ (Nat.le_refl _))).alloc (Nat.le_of_lt hX8.lt) (.cells #[.int .i64 0, .int .i64 0, .bool false, .int .i64 0] 30 (0, 0)))
  have hM8 := (Below.heap_alloc _ (.cells #[.int .i64 0, .int .i64 0, .bool false, .int .i64 0] 30 (0, 0)) _ (by have := ho8.size; omega)).trans ((ho8.block M (by omega) (by omega)).trans HM6.out)
  have hK8 := (Below.heap_alloc _ (.cells #[.int .i64 0, .int .i64 0, .bool false, .int .i64 0] 30 (0, 0)) _ (by have := ho8.size; omega)).trans ((ho8.block K (by omega) (by omega)).trans HK6.out)
  clear hX8 ho8 HX6 HB6 HM6 HK6
  generalize w8.alloc (.cells #[.int .i64 0, .int .i64 0, .bool false, .int .i64 0] 30 (0, 0)) = w9 at *
  obtain ⟨c0, c1, c2, c3⟩ := Ly.cells4 hM8
  obtain ⟨d0, d1, d2, d3⟩ := Ly.cells4 hK8
  have q30 := fun (d : Nat) => @eq_mail d
  clear hM8 hK8
  go_wp2_with (first | (go_at_call 16; (refine (put_closed HX8.out 3 (by omega) (-1) 7 true 0 (by decide) rfl).mono ?_); rintro e w10 ⟨rfl, hX10, ho10⟩; have HX10 := Lib.hid hX10; have HO10 := Lib.hid ho10; clear hX10 ho10) | (go_at_call 15; (refine (open_out HX10.out.lt 32 (by omega)).mono ?_); rintro e w11 ⟨rfl, rfl⟩))
  go_ret
  exact ⟨rfl, HB8.out.trans ⟨HO10.out.os, HO10.out.tape, HO10.out.output, HO10.out.size, fun k hk => HO10.out.block k (Nat.lt_of_lt_of_le hk HB8.out.size |> fun h => Nat.lt_of_lt_of_le hk (Nat.le_of_lt HX8.out.lt)) (by omega)⟩⟩
end Go.Proofs.Ytljfloopjgpaeaa
