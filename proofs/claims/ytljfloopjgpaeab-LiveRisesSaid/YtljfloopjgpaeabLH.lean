/- live.Of. -/
import Derived.Test.YtljfloopjgpaeabLG
import Derived.LoopNIn
import Derived.Test.YtljfloopjgpaeabQD
namespace Go.Proofs.Ytljfloopjgpaeab
set_option linter.unusedVariables false
set_option linter.unusedSimpArgs false
open Go.RowKit Go.Shelf
attribute [local go_sem] Oper.semAt_some
set_option maxRecDepth 100000
theorem run_store_func {P : Program} {w : World} {a : Addr} {m : Mode} (f : Fn) (x y : Array Value) : (store a (.func f x y) m).run P w = stored P w a (.func f x y) m := run_store P w a _ m rfl
attribute [local go_sem] run_store_func
structure OfS (w : World) (A : Option Addr) (n c : Nat) (fin v0 v1 v2 v3 : Int) (W : World) : Prop where
  e2 : HasC W w.heap.size (.cells #[.int .i64 fin] 2)
  e3 : HasC W (w.heap.size + 1) (.cells #[.slice A n c] 22)
  e4 : HasC W (w.heap.size + 2) (.cells #[.int .i64 0, .int .i64 0, .int .i64 0, .int .i64 0] 32)
  e5 : HasC W (w.heap.size + 3) (.cells #[.int .i64 v0, .int .i64 v1, .int .i64 v2, .int .i64 v3] 58)
  m0 : HasC W (w.heap.size + 4) (.cells #[.int .u8 21] 5)
  m3 : HasC W (w.heap.size + 5) (.cells #[.int .u8 22] 5)
  lg : HasC W (w.heap.size + 6) (lagsO (w.heap.size + 4) (w.heap.size + 5))
  below : Below w.heap.size w W
theorem OfS.grow {w : World} {A : Option Addr} {n c : Nat} {fin v0 v1 v2 v3 : Int} {W W' : World} (h : OfS w A n c fin v0 v1 v2 v3 W) (hb : Below W.heap.size W W') : OfS w A n c fin v0 v1 v2 v3 W' :=
  ⟨(hb.block _ h.e2.lt).trans h.e2, (hb.block _ h.e3.lt).trans h.e3, (hb.block _ h.e4.lt).trans h.e4, (hb.block _ h.e5.lt).trans h.e5, (hb.block _ h.m0.lt).trans h.m0, (hb.block _ h.m3.lt).trans h.m3, (hb.block _ h.lg.lt).trans h.lg, h.below.trans (hb.mono h.below.size)⟩
theorem OfS.put {w : World} {A : Option Addr} {n c : Nat} {fin v0 v1 v2 v3 u0 u1 u2 u3 : Int} {W W' : World} (h : OfS w A n c fin v0 v1 v2 v3 W) (ho : OnlyW (w.heap.size + 3) W W') (h5 : HasC W' (w.heap.size + 3) (.cells #[.int .i64 u0, .int .i64 u1, .int .i64 u2, .int .i64 u3] 58)) : OfS w A n c fin u0 u1 u2 u3 W' :=
  ⟨ho.has h.e2 (by omega), ho.has h.e3 (by omega), ho.has h.e4 (by omega), h5, ho.has h.m0 (by omega), ho.has h.m3 (by omega), ho.has h.lg (by omega), h.below.trans (ho.kp (Nat.le_add_right _ _) h.below.size).below⟩
theorem OfS.own {β : Type} {w : World} {A : Option Addr} {n c B : Nat} (hB : w.heap.size ≤ B) {fin v0 v1 v2 v3 : Int} : OwnFrom B (fun (_ : β) W => OfS w A n c fin v0 v1 v2 v3 W) := fun s W W' row hs hg hr =>
  ⟨(HasC.own _ _ rfl).from B s W W' row hs.e2 hg hr, (HasC.own _ _ rfl).from B s W W' row hs.e3 hg hr, (HasC.own _ _ rfl).from B s W W' row hs.e4 hg hr, (HasC.own _ _ rfl).from B s W W' row hs.e5 hg hr, (HasC.own _ _ rfl).from B s W W' row hs.m0 hg hr, (HasC.own _ _ rfl).from B s W W' row hs.m3 hg hr, (HasC.own _ _ rfl).from B s W W' row hs.lg hg hr, ownFrom_below (Nat.le_refl _) hB s W W' row hs.below hg hr⟩
section
variable {w : World} {B t : Nat} {z : Nat × Nat} {u0 u1 u2 u3 : Value}
theorem setA0 {v : Value} (h : w.heap[B]? = some (.cells #[u0, u1, u2, u3] t z)) : (w.setCell ⟨B, 0, none⟩ v).heap[B]? = some (.cells #[v, u1, u2, u3] t z) := by simp [World.setCell, Array.getElem?_modify, h]
theorem setA1 {v : Value} (h : w.heap[B]? = some (.cells #[u0, u1, u2, u3] t z)) : (w.setCell ⟨B, 1, none⟩ v).heap[B]? = some (.cells #[u0, v, u2, u3] t z) := by simp [World.setCell, Array.getElem?_modify, h]
theorem setA2 {v : Value} (h : w.heap[B]? = some (.cells #[u0, u1, u2, u3] t z)) : (w.setCell ⟨B, 2, none⟩ v).heap[B]? = some (.cells #[u0, u1, v, u3] t z) := by simp [World.setCell, Array.getElem?_modify, h]
theorem setA3 {v : Value} (h : w.heap[B]? = some (.cells #[u0, u1, u2, u3] t z)) : (w.setCell ⟨B, 3, none⟩ v).heap[B]? = some (.cells #[u0, u1, u2, v] t z) := by simp [World.setCell, Array.getElem?_modify, h]
end
theorem II.only {B : Nat} {w0 W : World} {s : Lx.St} (h : Lx.II B w0 s W) (g : Nat) : Lx.II B w0 (s.add (OnlyW g W)) W := ⟨⟨h.1.below, h.1.holds, ⟨h.1.more, OnlyW.refl _ _⟩⟩, h.2.add (OnlyW.stable g W)⟩
theorem alloc_at2 {w : World} {o : Obj} {i : Nat} (h : i = w.heap.size) : (w.alloc o).heap[i]? = some o := by rw [h]; exact World.alloc_heap_new w o
/-- Marks of loops that have ended. -/
def DefS (Ds : List Nat) (W : World) : Prop := ∀ D, D ∈ Ds → W.heap[D]? = some (.deferred (some []))
theorem DefS.grow {Ds : List Nat} {W W' : World} (h : DefS Ds W) (hb : Below W.heap.size W W') : DefS Ds W' := fun D hD => (hb.block D (Array.getElem?_eq_some_iff.1 (h D hD)).1).trans (h D hD)
theorem DefS.only {Ds : List Nat} {W W' : World} {B : Nat} (h : DefS Ds W) (ho : OnlyW B W W') (hne : ∀ D, D ∈ Ds → D ≠ B) : DefS Ds W' := fun D hD => (ho.block D (Array.getElem?_eq_some_iff.1 (h D hD)).1 (hne D hD)).trans (h D hD)
theorem DefS.own {β : Type} {Ds : List Nat} {B : Nat} (hB : ∀ D, D ∈ Ds → D < B) : OwnFrom B (fun (_ : β) W => DefS Ds W) := fun s W W' row hs hg hr D hD => by
  refine (hg.block D (Array.getElem?_eq_some_iff.1 (hs D hD)).1 ?_).trans (hs D hD)
  intro e
  have := (hr D e.symm).1
  have := hB D hD
  omega
theorem wpIn_cap {F : Fence} {n : Nat} {P : Program} {c : Code} {Q : Exit → Act → World → Prop} {a : Act} {w : World} (h : ∀ T ds, a.tmps = T → a.defers = ds → c.wpIn F n P Q ⟨T, ds⟩ w) : c.wpIn F n P Q a w := by
  cases a
  exact h _ _ rfl rfl
set_option maxHeartbeats 8000000 in
theorem of_in (n : Nat) (hn : 4 ≤ n) {w : World} {A : Option Addr} {c : Nat} {l : List EntV} (h : kEnt.R w (.slice A l.length c) l) (fin : Int) (hx : ∀ x ∈ l, 0 ≤ x.at_ ∧ x.at_ ≤ 1152921504606846976) (hf : 0 ≤ fin ∧ fin ≤ 2305843009213693952) :
    CallsIn Fence.wide n Try.prog 7 #[.int .i64 fin, .slice A l.length c] w fun e w' => e = .returned (.agg #[.int .i64 (ofV 0 l fin), .int .i64 (ofV 1 l fin), .int .i64 (ofV 2 l fin), .int .i64 (ofV 3 l fin)]) ∧ Below w.heap.size w w' := by
  have h1 : 1 ≤ n := by omega
  obtain ⟨A', c', hv, hlc, _, hll⟩ := h.val
  obtain ⟨rfl, rfl⟩ : A = A' ∧ c = c' := by simpa using hv
  clear hv
  have HL := Lib.hid h
  have HX := Lib.hid hx
  clear h hx
  refine callsIn_of_wp_marks Try.func7 rfl trivial ?_ rfl
  simp only [Try.ntmps7, List.size_toArray, List.length_cons, List.length_nil, Nat.reduceAdd, Nat.reduceSub, Array.replicate_succ, Array.replicate_zero, List.push_toArray, List.append_toArray, List.nil_append, List.cons_append]
  have hlg := fun (W : World) => callsIn_wide (n := n - 1) |>.2 (lags_any W)
  have HLG := Lib.hid hlg
  clear hlg
  have hlo := fun (fb fe : Value) (A : Option Addr) (m c : Nat) (W : World) => callsIn_wide (n := n - 1) |>.2 (lopen_any fb fe A m c W)
  have HLO := Lib.hid hlo
  clear hlo
  gi_wp2_with ((first | refine ⟨trivial, fun _ => by omega, ?_⟩ | refine ⟨trivial, ?_⟩); (with_reducible refine (HLG.out _).mono ?_); rintro e w2 ⟨rfl, rfl⟩)
  obtain ⟨W0, hW⟩ : ∃ W0, W0 = ((((((w.alloc (.cells #[.int .i64 fin] 2)).alloc (.cells #[.slice A l.length c] 22)).alloc (.cells #[.int .i64 0, .int .i64 0, .int .i64 0, .int .i64 0] 32)).alloc (.cells #[.int .i64 0, .int .i64 0, .int .i64 0, .int .i64 0] 58)).alloc (.cells #[.int .u8 21] 5)).alloc (.cells #[.int .u8 22] 5)).alloc (lagsO (w.heap.size + 1 + 1 + 1 + 1) (w.heap.size + 1 + 1 + 1 + 1 + 1)) := ⟨_, rfl⟩
  have HS := Lib.hid (show OfS w A l.length c fin 0 0 0 0 W0 from ⟨(by (rw [hW]; unfold HasC; (repeat (refine (Below.heap_alloc _ _ _ (by simp only [World.size_alloc]; omega)).trans ?_)); exact alloc_at2 (by simp only [World.size_alloc]))), (by (rw [hW]; unfold HasC; (repeat (refine (Below.heap_alloc _ _ _ (by simp only [World.size_alloc]; omega)).trans ?_)); exact alloc_at2 (by simp only [World.size_alloc]))), (by (rw [hW]; unfold HasC; (repeat (refine (Below.heap_alloc _ _ _ (by simp only [World.size_alloc]; omega)).trans ?_)); exact alloc_at2 (by simp only [World.size_alloc]))), (by (rw [hW]; unfold HasC; (repeat (refine (Below.heap_alloc _ _ _ (by simp only [World.size_alloc]; omega)).trans ?_)); exact alloc_at2 (by simp only [World.size_alloc]))), (by (rw [hW]; unfold HasC; (repeat (refine (Below.heap_alloc _ _ _ (by simp only [World.size_alloc]; omega)).trans ?_)); exact alloc_at2 (by simp only [World.size_alloc]))), (by (rw [hW]; unfold HasC; (repeat (refine (Below.heap_alloc _ _ _ (by simp only [World.size_alloc]; omega)).trans ?_)); exact alloc_at2 (by simp only [World.size_alloc]))), (by (rw [hW]; unfold HasC; (repeat (refine (Below.heap_alloc _ _ _ (by simp only [World.size_alloc]; omega)).trans ?_)); exact alloc_at2 (by simp only [World.size_alloc]))), by rw [hW]; (repeat (first | with_reducible exact Below.refl _ _ | (with_reducible refine Below.setCell ?_ (by first | (simp; done) | (simp; omega) | omega) _) | (with_reducible refine Below.alloc ?_ (by first | (simp; done) | (simp; omega) | omega) _) | (with_reducible refine Below.drew ?_)))⟩)
  rw [← hW]
  clear hW
  refine wpIn_loop_rounds 5 ?_
  have c0 := Lx.cellAt HS.out.lg 0 rfl
  have c1 := Lx.cellAt HS.out.lg 1 rfl
  have c3 := Lx.cellAt HS.out.e3 0 rfl
  have l3 := HS.out.e3.lt
  have lg := HS.out.lg.lt
  have l2 := HS.out.e2.lt
  have c2 := Lx.cellAt HS.out.e2 0 rfl
  simp only [fbV, feV] at c0 c1
  rw [roundsIn_succ]
  gi_wp2
  obtain ⟨V0, hW⟩ : ∃ V, V = (W0.alloc (.cells #[.int .i64 0] 3)).alloc (.cells #[.func (.func 47) #[] #[], .func (.func 65) #[] #[.pointer (some ⟨w.heap.size + 4, 0, none⟩)]] 64) := ⟨_, rfl⟩
  have hbv : Below W0.heap.size W0 V0 := by rw [hW]; (repeat (first | with_reducible exact Below.refl _ _ | (with_reducible refine Below.setCell ?_ (by first | (simp; done) | (simp; omega) | omega) _) | (with_reducible refine Below.alloc ?_ (by first | (simp; done) | (simp; omega) | omega) _) | (with_reducible refine Below.drew ?_)))
  have hsv : V0.heap.size = W0.heap.size + 2 := by rw [hW]; simp
  have h6 : HasC V0 W0.heap.size (.cells #[.int .i64 0] 3) := by (rw [hW]; unfold HasC; exact (Below.heap_alloc _ _ _ (by simp)).trans (World.alloc_heap_new _ _))
  have h7 : HasC V0 (W0.heap.size + 1) (.cells #[.func (.func 47) #[] #[], .func (.func 65) #[] #[.pointer (some ⟨w.heap.size + 4, 0, none⟩)]] 64) := by (rw [hW]; unfold HasC; exact alloc_at2 (by simp))
  rw [← hW]
  clear hW
  have hs := HS.out.grow hbv
  have hz := HS.out.below.size
  have hII : Lx.II w.heap.size w (((((((((Lx.St.nil.upd w.heap.size (.cells #[.int .i64 fin] 2 (0, 0))).upd (w.heap.size + 1) (.cells #[.slice A l.length c] 22 (0, 0))).upd (w.heap.size + 3) (.cells #[.int .i64 0, .int .i64 0, .int .i64 0, .int .i64 0] 58 (0, 0))).upd (w.heap.size + 4) (.cells #[.int .u8 21] 5 (0, 0))).upd (w.heap.size + 5) (.cells #[.int .u8 22] 5 (0, 0))).upd (W0.heap.size) (.cells #[.int .i64 0] 3 (0, 0))).upd (W0.heap.size + 1) (.cells #[.func (.func 47) #[] #[], .func (.func 65) #[] #[.pointer (some ⟨w.heap.size + 4, 0, none⟩)]] 64 (0, 0)))).add (OnlyW (w.heap.size + 3) V0)) V0 := II.only ((((((((Lx.II.nil hs.below).put (Nat.le_refl _) hs.e2).put (Nat.le_add_right _ _) hs.e3).put (Nat.le_add_right _ _) hs.e5).put (Nat.le_add_right _ _) hs.m0).put (Nat.le_add_right _ _) hs.m3).put hz h6).put (by omega) h7) _
  have HIN := Lib.hid hII
  have H6 := Lib.hid h6
  have H7 := Lib.hid h7
  have HS1 := Lib.hid hs
  have HZ := Lib.hid hz
  have lw := HS.out.lg.lt
  clear hII h6 h7 hs c0 c1 c2 c3 hz
  have htl := fun (W' : World) (hb : Below w.heap.size w W') (h0 : Boxed W' (w.heap.size + 4) 5 (.int .u8 21)) (h3 : Boxed W' (w.heap.size + 5) 5 (.int .u8 22)) => till_K 0 (w.heap.size + 4) (w.heap.size + 5) (by omega) rfl (HL.out.keep hb) (fbV 0) h0 h3 0 0 fin (fun x hx => by have := HX.out x hx; omega) (by omega)
  simp only [fbV, feV] at htl
  have HTL := Lib.hid htl
  clear htl
  refine wpIn_wide.2 ?_
  refine Lx.regionS (by kernel_rfl) (by kernel_rfl) HIN.out.1 HIN.out.2 (by simp only [List.size_toArray, List.length_cons, List.length_nil, Nat.reduceAdd]; rfl) (fun O Z hO hZ => ?_); have HO := Lib.hid hO; clear hO
  apply Lx.kr HO 0; (case hx => exact ⟨rfl, rfl, rfl⟩); (case hk => decide +kernel); (case hv => intro w_ hw_; have P_ := hw_.holds (W0.heap.size) _ (by (repeat (first | exact Lx.ua _ _ _ | rw [Lx.un _ _ (by omega)] | rw [Lx.am]))); have y0 := Lx.cellAt P_ 0 rfl; clear P_; (go_simp <;> first | with_reducible rfl | exact ⟨rfl, rfl⟩)); simp only [Act.put, Lx.p1, Lx.p2, Lx.p3]
  apply Lx.kr HO 1; (case hx => exact ⟨rfl, rfl, rfl⟩); (case hk => decide +kernel); (case hv => intro w_ hw_; have P_ := hw_.holds (W0.heap.size + 1) _ (by (repeat (first | exact Lx.ua _ _ _ | rw [Lx.un _ _ (by omega)] | rw [Lx.am]))); obtain ⟨y0, y1⟩ := Lx.cells2 P_; clear P_; (go_simp <;> first | with_reducible rfl | exact ⟨rfl, rfl⟩)); simp only [Act.put, Lx.p1, Lx.p2, Lx.p3]
  apply Lx.kr HO 2; (case hx => exact ⟨rfl, rfl, rfl⟩); (case hk => decide +kernel); (case hv => intro w_ hw_; have P_ := hw_.holds (w.heap.size + 1) _ (by (repeat (first | exact Lx.ua _ _ _ | rw [Lx.un _ _ (by omega)] | rw [Lx.am]))); have y0 := Lx.cellAt P_ 0 rfl; clear P_; (go_simp <;> first | with_reducible rfl | exact ⟨rfl, rfl⟩)); simp only [Act.put, Lx.p1, Lx.p2, Lx.p3]
  apply Lx.kr HO 3; (case hx => exact ⟨rfl, rfl, rfl⟩); (case hk => decide +kernel); (case hv => intro w_ hw_; have P_ := hw_.holds (w.heap.size) _ (by (repeat (first | exact Lx.ua _ _ _ | rw [Lx.un _ _ (by omega)] | rw [Lx.am]))); have y0 := Lx.cellAt P_ 0 rfl; clear P_; (go_simp <;> first | with_reducible rfl | exact ⟨rfl, rfl⟩)); simp only [Act.put, Lx.p1, Lx.p2, Lx.p3]
  apply Lx.kc HO 4; (case hx => exact ⟨rfl, rfl, rfl⟩); (case hk => decide +kernel); (case hrun => intro w_; (go_simp <;> first | with_reducible rfl | exact ⟨rfl, rfl⟩)); (case hc => intro w_ hw_; exact HTL.out _ hw_.below (by (have P_ := hw_.holds (w.heap.size + 4) _ (by (repeat (first | exact Lx.ua _ _ _ | rw [Lx.un _ _ (by omega)] | rw [Lx.am]))); exact P_)) (by (have P_ := hw_.holds (w.heap.size + 5) _ (by (repeat (first | exact Lx.ua _ _ _ | rw [Lx.un _ _ (by omega)] | rw [Lx.am]))); exact P_))); simp only [Act.put, Lx.p1, Lx.p2, Lx.p3]
  apply Lx.kp HO 5; (case hx => exact ⟨rfl, rfl, rfl⟩); (case hk => decide +kernel); (case hv => intro w_ hw_; (go_simp <;> first | with_reducible rfl | exact ⟨rfl, rfl⟩)); simp only [Act.put, Lx.p1, Lx.p2, Lx.p3]
  (apply Lx.ks HO 6 (g := w.heap.size + 3)); (case hx => exact ⟨rfl, rfl, rfl⟩); (case hk => decide +kernel); (case hG => exact fun _ _ h_ ha_ => ⟨⟨trivial, h_.1.2.at_ ha_⟩, trivial⟩); (case hg => (repeat (first | exact Lx.ua _ _ _ | rw [Lx.un _ _ (by omega)] | rw [Lx.am]))); (case hrun => (intro w_ hw_ hb_; (obtain ⟨d0, d1, d2, d3⟩ := Lx.cells4 hb_); (obtain ⟨f0, f1, f2, f3⟩ := Lx.froz4 hb_); (have l_ := (Array.getElem?_eq_some_iff.1 hb_).1); refine ⟨?_, ?_, ?_, ?_⟩; rotate_left; (next => (go_simp <;> first | with_reducible rfl | rfl)); (next => (repeat (first | (with_reducible exact Lx.OnlyAt.refl _ _) | (with_reducible refine Lx.OnlyAt.set ?_ _ _)))); (next => exact setA0 hb_))); simp only [Act.put, Lx.p1, Lx.p2, Lx.p3]
  refine Lx.kd HO (by kernel_rfl) (fun hiv2 => hZ _ _ (fun Z1 hw2 => ?_))
  have ho := hw2.more.1.2
  have h5 := hw2.holds (w.heap.size + 3) _ (by (repeat (first | exact Lx.ua _ _ _ | rw [Lx.un _ _ (by omega)] | rw [Lx.am])))
  have hs := HS1.out.put ho h5
  have h6 := ho.has H6.out (by omega)
  have h7 := ho.has H7.out (by omega)
  clear hZ Z HO O hw2 hiv2 HIN
  have l6 := h6.lt
  have l7 := h7.lt
  have l3 := hs.e3.lt
  have c6 := Lx.cellAt h6 0 rfl
  have c70 := Lx.cellAt h7 0 rfl
  have c71 := Lx.cellAt h7 1 rfl
  have c3 := Lx.cellAt hs.e3 0 rfl
  have HS1 := Lib.hid hs
  have H6 := Lib.hid h6
  have H7 := Lib.hid h7
  clear hs h6 h7 ho h5
  gi_wp2_with ((first | refine ⟨trivial, fun _ => by omega, ?_⟩ | refine ⟨trivial, ?_⟩); (with_reducible refine (HLO.out _ _ _ _ _ _).mono ?_); rintro e w2 ⟨rfl, rfl⟩)
  obtain ⟨U0, hU⟩ : ∃ U, U = (Z1.alloc (.cells #[.func (.func 47) #[] #[], .func (.func 65) #[] #[.pointer (some ⟨w.heap.size + 4, 0, none⟩)]] 64)).alloc (.cells #[.slice A l.length c] 22) := ⟨_, rfl⟩
  have hbu : Below Z1.heap.size Z1 U0 := by rw [hU]; (repeat (first | with_reducible exact Below.refl _ _ | (with_reducible refine Below.setCell ?_ (by first | (simp; done) | (simp; omega) | omega) _) | (with_reducible refine Below.alloc ?_ (by first | (simp; done) | (simp; omega) | omega) _) | (with_reducible refine Below.drew ?_)))
  have hsu : U0.heap.size = Z1.heap.size + 2 := by rw [hU]; simp
  have hs := HS1.out.grow hbu
  have h6 : HasC U0 (W0.heap.size) _ := (hbu.block _ H6.out.lt).trans H6.out
  have h7 : HasC U0 (W0.heap.size + 1) _ := (hbu.block _ H7.out.lt).trans H7.out
  have hg : LagB U0 (Z1.heap.size) (.func (.func 47) #[] #[]) (.func (.func 65) #[] #[.pointer (some ⟨w.heap.size + 4, 0, none⟩)]) := by (rw [hU]; unfold LagB; exact (Below.heap_alloc _ _ _ (by simp)).trans (World.alloc_heap_new _ _))
  have hl : Boxed U0 (Z1.heap.size + 1) 22 (.slice A l.length c) := by (rw [hU]; unfold Boxed; exact alloc_at2 (by simp))
  have hz6 : w.heap.size + 7 ≤ W0.heap.size := by omega
  have hz7 := HS1.out.below.size
  have hzg : w.heap.size + 7 ≤ Z1.heap.size := by omega
  rw [← hU]
  clear hU
  have hzu := hs.below.size
  have HU := Lib.hid hs.below
  have H0 := Lib.hid (And.intro hs (And.intro h6 (And.intro h7 (show DefS ([] : List Nat) U0 from fun _ h_ => (by cases h_)))))
  have HDL := Lib.hid (show ∀ D, D ∈ ([] : List Nat) → D < U0.heap.size from fun _ h_ => (by cases h_))
  have HDN := Lib.hid (show ∀ D, D ∈ ([] : List Nat) → D ≠ w.heap.size + 3 from fun _ h_ => (by cases h_))
  clear hs h6 h7 hbu
  refine wpIn_cap (fun T ds hT hds => ?_)
  refine rangeX h1 (gf := 54) (lb := #[.pointer (some ⟨Z1.heap.size + 1, 0, none⟩), .pointer (some ⟨Z1.heap.size, 0, none⟩)]) (by rw [← hT]; rfl) (enters_of Try.func54 (by kernel_rfl) rfl)
    (open0_seq (n - 1) (Z1.heap.size + 1) (Z1.heap.size) (by omega) HL.out (.func (.func 65) #[] #[.pointer (some ⟨w.heap.size + 4, 0, none⟩)]) (fun B => B = w.heap.size + 3) U0 HU.out (by omega) (by omega) hl hg)
    ?hA (fun h k => h.trans k) ?hKb (Below.refl _ _) (fun _ => rfl)
    (fun pre W => OfS w A l.length c fin (accV 0 l fin (tillV 0 l 0 0 fin) pre) 0 0 0 W ∧ HasC W (W0.heap.size) (.cells #[.int .i64 0] 3) ∧ HasC W (W0.heap.size + 1) (.cells #[.func (.func 47) #[] #[], .func (.func 65) #[] #[.pointer (some ⟨w.heap.size + 4, 0, none⟩)]] 64) ∧ DefS ([] : List Nat) W)
    (fun _ _ _ => False) ?oI (fun _ _ _ _ _ hs _ _ => hs) ?iA (fun _ _ _ _ hs _ => hs) (fun _ _ _ => trivial) H0.out
    (fun pre x a' W => a' = { tmps := (((T.setIfInBounds 28 (.int .i64 x.1)).setIfInBounds 29 (.int .i64 x.2)).setIfInBounds 8 (.int .i64 x.1)).setIfInBounds 9 (.int .i64 x.2), defers := [] } ∧ OfS w A l.length c fin (accV 0 l fin (tillV 0 l 0 0 fin) pre) 0 0 0 W ∧ HasC W (W0.heap.size) (.cells #[.int .i64 0] 3) ∧ HasC W (W0.heap.size + 1) (.cells #[.func (.func 47) #[] #[], .func (.func 65) #[] #[.pointer (some ⟨w.heap.size + 4, 0, none⟩)]] 64) ∧ DefS ([] : List Nat) W)
    ?oAx ?assign ?body ?done ?stop
  case hA =>
    intro W W' k o ho hk hko _
    exact (ho.block k (Array.getElem?_eq_some_iff.1 hko).1).trans hko
  case hKb =>
    intro W k ob ob' hk h hc
    exact KpO.putObj ob' (by omega) h hc
  case oI =>
    rintro s W W' row ⟨h1, h2, h3, h4⟩ hg hr
    exact ⟨OfS.own hzu s W W' row h1 hg hr, (HasC.own _ _ rfl).from _ s W W' row h2 hg hr, (HasC.own _ _ rfl).from _ s W W' row h3 hg hr, DefS.own HDL.out s W W' row h4 hg hr⟩
  case iA =>
    rintro pre W W' ⟨h1, h2, h3, h4⟩ hb
    exact ⟨h1.grow hb, (hb.block _ h2.lt).trans h2, (hb.block _ h3.lt).trans h3, h4.grow hb⟩
  case oAx =>
    rintro pre x a' s W W' row ⟨h0, h1, h2, h3, h4⟩ hg hr
    exact ⟨h0, OfS.own hzu s W W' row h1 hg hr, (HasC.own _ _ rfl).from _ s W W' row h2 hg hr, (HasC.own _ _ rfl).from _ s W W' row h3 hg hr, DefS.own HDL.out s W W' row h4 hg hr⟩
  case assign =>
    rintro ll pre x W K hi hg hK
    have HK := Lib.hid hK
    have HI := Lib.hid hi
    clear hK hi
    subst hT hds
    dsimp only [encO]
    gi_wp2
    refine HK.out _ _ (KeepsFrom.refl _ _) (KpO.refl _) ?_
    refine ⟨?_, HI.out⟩
    first | rfl | (simp only [List.setIfInBounds_toArray, List.set_cons_zero, List.set_cons_succ]; done) | (simp only [List.setIfInBounds_toArray, List.set_cons_zero, List.set_cons_succ]; rfl)
  case stop =>
    rintro D c pre W _ _ h _
    exact h.elim
  case body =>
    rintro ll pre x a' W hl2 ⟨rfl, hS, h6, h7, h8⟩ ⟨i, hi, hpre, hbk, hx1⟩
    subst hT hds
    obtain ⟨ati, who⟩ := x
    simp only at hx1 hbk
    subst hx1
    simp only [List.setIfInBounds_toArray, List.set_cons_zero, List.set_cons_succ]
    obtain ⟨b, o, hA, hb, g0, _⟩ := kEnt_at HL.out hi
    subst hA
    have hbn := HX.out l[ati] (List.getElem_mem hi)
    have hgd : (l.getD ati default).at_ = l[ati].at_ := by simp [hi]
    have htl := fun (A' : Option Addr) (hA' : ati + 1 < l.length → A' = some ⟨b, o + (ati + 1) * 13, none⟩) (W' : World) (hb' : Below w.heap.size w W') (h0 : Boxed W' (w.heap.size + 4) 5 (.int .u8 21)) (h3 : Boxed W' (w.heap.size + 5) 5 (.int .u8 22)) => till_K 0 (w.heap.size + 4) (w.heap.size + 5) (by omega) (n := l.length - (ati + 1)) (by simp) ((R_drop HL.out (k := ati + 1) (by omega) hA').keep hb') (fbV 0) h0 h3 l[ati].at_ who fin (fun x hx => by have := HX.out x (List.mem_of_mem_drop hx); omega) (by omega)
    simp only [fbV, feV] at htl
    have HTL2 := Lib.hid htl
    have HGD := Lib.hid hgd
    have hII : Lx.II w.heap.size w (((((((((Lx.St.nil.upd w.heap.size (.cells #[.int .i64 fin] 2 (0, 0))).upd (w.heap.size + 1) (.cells #[.slice (some ⟨b, o, none⟩) l.length c] 22 (0, 0))).upd (w.heap.size + 3) (.cells #[.int .i64 (accV 0 l fin (tillV 0 l 0 0 fin) pre), .int .i64 0, .int .i64 0, .int .i64 0] 58 (0, 0))).upd (w.heap.size + 4) (.cells #[.int .u8 21] 5 (0, 0))).upd (w.heap.size + 5) (.cells #[.int .u8 22] 5 (0, 0))).upd (W0.heap.size) (.cells #[.int .i64 0] 3 (0, 0))).upd (W0.heap.size + 1) (.cells #[.func (.func 47) #[] #[], .func (.func 65) #[] #[.pointer (some ⟨w.heap.size + 4, 0, none⟩)]] 64 (0, 0)))).add (OnlyW (w.heap.size + 3) W)) W := II.only ((((((((Lx.II.nil hS.below).put (Nat.le_refl _) hS.e2).put (Nat.le_add_right _ _) hS.e3).put (Nat.le_add_right _ _) hS.e5).put (Nat.le_add_right _ _) hS.m0).put (Nat.le_add_right _ _) hS.m3).put (by omega) h6).put (by omega) h7) _
    have HIN2 := Lib.hid hII
    have HS2 := Lib.hid hS
    have H62 := Lib.hid h6
    have H72 := Lib.hid h7
    have H82 := Lib.hid h8
    clear htl hgd hII hS h6 h7 h8 hpre hbk hbn
    have e0 : (0 : Int) ≤ (ati : Int) := by omega
    have e1 : (ati : Int) < (l.length : Int) := by omega
    have we : IntKind.i64.wrap ((ati : Int) + 1) = (ati : Int) + 1 := IntWalk.i64_in _ (by omega)
    have e2 : (0 : Int) ≤ (ati : Int) + 1 := by omega
    have e3 : (ati : Int) + 1 ≤ (l.length : Int) := by omega
    gi_wp2
    refine regionRx ll _ (by kernel_rfl) (by kernel_rfl) (by rintro ⟨_, _, h⟩; exact h) (by kernel_rfl) HIN2.out.1 HIN2.out.2 (by simp only [List.size_toArray, List.length_cons, List.length_nil, Nat.reduceAdd]; rfl) (fun O Z hO hZ => ?_)
    have HO := Lib.hid hO
    clear hO
    apply Lx.kr HO 0; (case hx => exact ⟨rfl, rfl, rfl⟩); (case hk => decide +kernel); (case hv => intro w_ hw_; have P_ := hw_.holds (W0.heap.size) _ (by (repeat (first | exact Lx.ua _ _ _ | rw [Lx.un _ _ (by omega)] | rw [Lx.am]))); have y0 := Lx.cellAt P_ 0 rfl; clear P_; (go_simp <;> first | with_reducible rfl | exact ⟨rfl, rfl⟩)); simp only [Act.put, Lx.p1, Lx.p2, Lx.p3]
    apply Lx.kr HO 1; (case hx => exact ⟨rfl, rfl, rfl⟩); (case hk => decide +kernel); (case hv => intro w_ hw_; have P_ := hw_.holds (W0.heap.size) _ (by (repeat (first | exact Lx.ua _ _ _ | rw [Lx.un _ _ (by omega)] | rw [Lx.am]))); have y0 := Lx.cellAt P_ 0 rfl; clear P_; (go_simp <;> first | with_reducible rfl | exact ⟨rfl, rfl⟩)); simp only [Act.put, Lx.p1, Lx.p2, Lx.p3]
    apply Lx.kp HO 2; (case hx => exact ⟨rfl, rfl, rfl⟩); (case hk => decide +kernel); (case hv => intro w_ hw_; (go_simp <;> first | with_reducible rfl | exact ⟨rfl, rfl⟩)); simp only [Act.put, Lx.p1, Lx.p2, Lx.p3]
    apply Lx.kr HO 3; (case hx => exact ⟨rfl, rfl, rfl⟩); (case hk => decide +kernel); (case hv => intro w_ hw_; have P_ := hw_.holds (w.heap.size + 3) _ (by (repeat (first | exact Lx.ua _ _ _ | rw [Lx.un _ _ (by omega)] | rw [Lx.am]))); obtain ⟨y0, y1, y2, y3⟩ := Lx.cells4 P_; clear P_; (go_simp <;> first | with_reducible rfl | exact ⟨rfl, rfl⟩)); simp only [Act.put, Lx.p1, Lx.p2, Lx.p3]
    apply Lx.kr HO 4; (case hx => exact ⟨rfl, rfl, rfl⟩); (case hk => decide +kernel); (case hv => intro w_ hw_; have P_ := hw_.holds (W0.heap.size + 1) _ (by (repeat (first | exact Lx.ua _ _ _ | rw [Lx.un _ _ (by omega)] | rw [Lx.am]))); obtain ⟨y0, y1⟩ := Lx.cells2 P_; clear P_; (go_simp <;> first | with_reducible rfl | exact ⟨rfl, rfl⟩)); simp only [Act.put, Lx.p1, Lx.p2, Lx.p3]
    apply Lx.kr HO 5; (case hx => exact ⟨rfl, rfl, rfl⟩); (case hk => decide +kernel); (case hv => intro w_ hw_; have P_ := hw_.holds (w.heap.size + 1) _ (by (repeat (first | exact Lx.ua _ _ _ | rw [Lx.un _ _ (by omega)] | rw [Lx.am]))); have y0 := Lx.cellAt P_ 0 rfl; clear P_; (go_simp <;> first | with_reducible rfl | exact ⟨rfl, rfl⟩)); simp only [Act.put, Lx.p1, Lx.p2, Lx.p3]
    apply Lx.kp HO 6; (case hx => exact ⟨rfl, rfl, rfl⟩); (case hk => decide +kernel); (case hv => intro w_ hw_; (go_simp <;> first | with_reducible rfl | exact ⟨rfl, rfl⟩)); simp only [Act.put, Lx.p1, Lx.p2, Lx.p3]
    apply Lx.kp HO 7; (case hx => exact ⟨rfl, rfl, rfl⟩); (case hk => decide +kernel); (case hv => intro w_ hw_; (go_simp <;> first | with_reducible rfl | exact ⟨rfl, rfl⟩)); simp only [Act.put, Lx.p1, Lx.p2, Lx.p3]
    apply Lx.kp HO 8; (case hx => exact ⟨rfl, rfl, rfl⟩); (case hk => decide +kernel); (case hv => intro w_ hw_; (go_simp <;> first | with_reducible rfl | exact ⟨rfl, rfl⟩)); simp only [Act.put, Lx.p1, Lx.p2, Lx.p3]
    apply Lx.kr HO 9; (case hx => exact ⟨rfl, rfl, rfl⟩); (case hk => decide +kernel); (case hv => intro w_ hw_; have y0 := Below.at hw_.below g0 hb; have y1 := Nat.lt_of_lt_of_le hb hw_.below.size; (go_simp <;> first | with_reducible rfl | exact ⟨rfl, rfl⟩)); simp only [Act.put, Lx.p1, Lx.p2, Lx.p3]
    apply Lx.kp HO 10; (case hx => exact ⟨rfl, rfl, rfl⟩); (case hk => decide +kernel); (case hv => intro w_ hw_; (go_simp <;> first | with_reducible rfl | exact ⟨rfl, rfl⟩)); simp only [Act.put, Lx.p1, Lx.p2, Lx.p3]
    apply Lx.kr HO 11; (case hx => exact ⟨rfl, rfl, rfl⟩); (case hk => decide +kernel); (case hv => intro w_ hw_; have P_ := hw_.holds (w.heap.size + 1) _ (by (repeat (first | exact Lx.ua _ _ _ | rw [Lx.un _ _ (by omega)] | rw [Lx.am]))); have y0 := Lx.cellAt P_ 0 rfl; clear P_; (go_simp <;> first | with_reducible rfl | exact ⟨rfl, rfl⟩)); simp only [Act.put, Lx.p1, Lx.p2, Lx.p3]
    apply Lx.kp HO 12; (case hx => exact ⟨rfl, rfl, rfl⟩); (case hk => decide +kernel); (case hv => intro w_ hw_; (go_simp <;> first | with_reducible rfl | exact ⟨rfl, rfl⟩)); simp only [Act.put, Lx.p1, Lx.p2, Lx.p3]
    apply Lx.kp HO 13; (case hx => exact ⟨rfl, rfl, rfl⟩); (case hk => decide +kernel); (case hv => intro w_ hw_; (go_simp <;> first | with_reducible rfl | exact ⟨rfl, rfl⟩)); simp only [Act.put, Lx.p1, Lx.p2, Lx.p3]
    apply Lx.kp HO 14; (case hx => exact ⟨rfl, rfl, rfl⟩); (case hk => decide +kernel); (case hv => intro w_ hw_; (go_simp <;> first | with_reducible rfl | exact ⟨rfl, rfl⟩)); simp only [Act.put, Lx.p1, Lx.p2, Lx.p3]
    apply Lx.kr HO 15; (case hx => exact ⟨rfl, rfl, rfl⟩); (case hk => decide +kernel); (case hv => intro w_ hw_; have P_ := hw_.holds (w.heap.size) _ (by (repeat (first | exact Lx.ua _ _ _ | rw [Lx.un _ _ (by omega)] | rw [Lx.am]))); have y0 := Lx.cellAt P_ 0 rfl; clear P_; (go_simp <;> first | with_reducible rfl | exact ⟨rfl, rfl⟩)); simp only [Act.put, Lx.p1, Lx.p2, Lx.p3]
    apply Lx.kc HO 16; (case hx => exact ⟨rfl, rfl, rfl⟩); (case hk => decide +kernel); (case hrun => intro w_; (go_simp <;> first | with_reducible rfl | exact ⟨rfl, rfl⟩)); (case hc => intro w_ hw_; exact HTL2.out _ (fun h_ => if_neg (by omega)) _ hw_.below (by (have P_ := hw_.holds (w.heap.size + 4) _ (by (repeat (first | exact Lx.ua _ _ _ | rw [Lx.un _ _ (by omega)] | rw [Lx.am]))); exact P_)) (by (have P_ := hw_.holds (w.heap.size + 5) _ (by (repeat (first | exact Lx.ua _ _ _ | rw [Lx.un _ _ (by omega)] | rw [Lx.am]))); exact P_))); simp only [Act.put, Lx.p1, Lx.p2, Lx.p3]
    apply Lx.kr HO 17; (case hx => exact ⟨rfl, rfl, rfl⟩); (case hk => decide +kernel); (case hv => intro w_ hw_; skip; (go_simp <;> first | with_reducible rfl | exact ⟨rfl, rfl⟩)); simp only [Act.put, Lx.p1, Lx.p2, Lx.p3]
    apply Lx.kp HO 18; (case hx => exact ⟨rfl, rfl, rfl⟩); (case hk => decide +kernel); (case hv => intro w_ hw_; (go_simp <;> first | with_reducible rfl | exact ⟨rfl, rfl⟩)); simp only [Act.put, Lx.p1, Lx.p2, Lx.p3]
    (apply Lx.ks HO 19 (g := w.heap.size + 3)); (case hx => exact ⟨rfl, rfl, rfl⟩); (case hk => decide +kernel); (case hG => exact fun _ _ h_ ha_ => ⟨⟨trivial, h_.1.2.at_ ha_⟩, trivial⟩); (case hg => (repeat (first | exact Lx.ua _ _ _ | rw [Lx.un _ _ (by omega)] | rw [Lx.am]))); (case hrun => (intro w_ hw_ hb_; (obtain ⟨d0, d1, d2, d3⟩ := Lx.cells4 hb_); (obtain ⟨f0, f1, f2, f3⟩ := Lx.froz4 hb_); (have l_ := (Array.getElem?_eq_some_iff.1 hb_).1); refine ⟨?_, ?_, ?_, ?_⟩; rotate_left; (next => (go_simp <;> first | with_reducible rfl | rfl)); (next => (repeat (first | (with_reducible exact Lx.OnlyAt.refl _ _) | (with_reducible refine Lx.OnlyAt.set ?_ _ _)))); (next => exact setA0 hb_))); simp only [Act.put, Lx.p1, Lx.p2, Lx.p3]
    refine Lx.kd HO (by kernel_rfl) (fun hiv2 => hZ _ _ (fun Z2 hw2 => ?_))
    have ho := hw2.more.1.2
    have h5 := hw2.holds (w.heap.size + 3) _ (by (repeat (first | exact Lx.ua _ _ _ | rw [Lx.un _ _ (by omega)] | rw [Lx.am])))
    have hnew : (if accV 0 l fin (tillV 0 l 0 0 fin) pre < tillV 0 (l.drop (ati + 1)) l[ati].at_ who fin then tillV 0 (l.drop (ati + 1)) l[ati].at_ who fin else accV 0 l fin (tillV 0 l 0 0 fin) pre) = accV 0 l fin (tillV 0 l 0 0 fin) (pre ++ [(ati, who)]) := by
      rw [accV_snoc]
      simp only [HGD.out]
      generalize accV 0 l fin (tillV 0 l 0 0 fin) pre = m1
      generalize tillV 0 (l.drop (ati + 1)) l[ati].at_ who fin = m2
      rw [Int.max_def]
      split <;> split <;> omega
    rw [hnew] at h5
    exact ⟨ho.keeps (by omega), ho.kp (Nat.le_add_right _ _) HS2.out.below.size, HS2.out.put ho h5, ho.has H62.out (by omega), ho.has H72.out (by omega), H82.out.only ho HDN.out⟩
  case done =>
    rintro D0 xs W1 hD rfl ⟨hs, _, _, hdf⟩ hDef
    subst hT hds
    have HDEF := Lib.hid (show DefS ([D0] : List Nat) W1 from fun D h_ => by
      rcases List.mem_cons.1 h_ with rfl | h_
      · exact hDef
      · exact hdf D h_)
    have HDNE := Lib.hid (show ∀ D, D ∈ ([D0] : List Nat) → D ≠ w.heap.size + 3 from fun D h_ => by
      rcases List.mem_cons.1 h_ with rfl | h_
      · omega
      · exact HDN.out D h_)
    have HLT0 := Lib.hid (show w.heap.size + 7 ≤ D0 from by omega)
    have HS := Lib.hid (show OfS w A l.length c fin (ofV 0 l fin) 0 0 0 W1 from hs)
    clear hs hdf hDef hD HDN HDL H0 HU hg hl hz6 hzg hsu hzu
    gi_wp2
    have c0 := Lx.cellAt HS.out.lg 2 rfl
    have c1 := Lx.cellAt HS.out.lg 3 rfl
    have c3 := Lx.cellAt HS.out.e3 0 rfl
    have l3 := HS.out.e3.lt
    have lg := HS.out.lg.lt
    have l2 := HS.out.e2.lt
    have c2 := Lx.cellAt HS.out.e2 0 rfl
    simp only [fbV, feV] at c0 c1
    rw [roundsIn_succ]
    gi_wp2_with ((first | refine ⟨trivial, fun _ => by omega, ?_⟩ | refine ⟨trivial, ?_⟩); (with_reducible refine (HLO.out _ _ _ _ _ _).mono ?_); rintro e w2 ⟨rfl, rfl⟩)
    obtain ⟨U1, hU⟩ : ∃ U, U = (((W1.alloc (.cells #[.int .i64 1] 3)).alloc (.cells #[.func (.func 49) #[] #[], .func (.func 50) #[] #[]] 64)).alloc (.cells #[.func (.func 49) #[] #[], .func (.func 50) #[] #[]] 64)).alloc (.cells #[.slice A l.length c] 22) := ⟨_, rfl⟩
    have hbu : Below W1.heap.size W1 U1 := by rw [hU]; (repeat (first | with_reducible exact Below.refl _ _ | (with_reducible refine Below.setCell ?_ (by first | (simp; done) | (simp; omega) | omega) _) | (with_reducible refine Below.alloc ?_ (by first | (simp; done) | (simp; omega) | omega) _) | (with_reducible refine Below.drew ?_)))
    have hsu : U1.heap.size = W1.heap.size + 4 := by rw [hU]; simp
    have hs := HS.out.grow hbu
    have h6 : HasC U1 (W1.heap.size) (.cells #[.int .i64 1] 3) := (by (rw [hU]; (first | unfold HasC | unfold LagB | unfold Boxed); (repeat (refine (Below.heap_alloc _ _ _ (by simp only [World.size_alloc]; omega)).trans ?_)); exact alloc_at2 (by simp only [World.size_alloc])))
    have h7 : HasC U1 (W1.heap.size + 1) (.cells #[.func (.func 49) #[] #[], .func (.func 50) #[] #[]] 64) := (by (rw [hU]; (first | unfold HasC | unfold LagB | unfold Boxed); (repeat (refine (Below.heap_alloc _ _ _ (by simp only [World.size_alloc]; omega)).trans ?_)); exact alloc_at2 (by simp only [World.size_alloc])))
    have hg : LagB U1 (W1.heap.size + 1 + 1) (.func (.func 49) #[] #[]) (.func (.func 50) #[] #[]) := (by (rw [hU]; (first | unfold HasC | unfold LagB | unfold Boxed); (repeat (refine (Below.heap_alloc _ _ _ (by simp only [World.size_alloc]; omega)).trans ?_)); exact alloc_at2 (by simp only [World.size_alloc])))
    have hl : Boxed U1 (W1.heap.size + 1 + 1 + 1) 22 (.slice A l.length c) := (by (rw [hU]; (first | unfold HasC | unfold LagB | unfold Boxed); (repeat (refine (Below.heap_alloc _ _ _ (by simp only [World.size_alloc]; omega)).trans ?_)); exact alloc_at2 (by simp only [World.size_alloc])))
    have hz6 : w.heap.size + 7 ≤ W1.heap.size := by have := HS.out.lg.lt; omega
    have hzg : w.heap.size + 7 ≤ W1.heap.size + 1 + 1 := by omega
    rw [← hU]
    clear hU
    have hzu := hs.below.size
    have HU := Lib.hid hs.below
    have H0 := Lib.hid (And.intro hs (And.intro h6 (And.intro h7 (show DefS ([D0] : List Nat) U1 from HDEF.out.grow hbu))))
    have HDL := Lib.hid (show ∀ D, D ∈ ([D0] : List Nat) → D < U1.heap.size from fun D h_ => Nat.lt_of_lt_of_le (Array.getElem?_eq_some_iff.1 (HDEF.out D h_)).1 hbu.size)
    have HDN := Lib.hid (show ∀ D, D ∈ ([D0] : List Nat) → D ≠ w.heap.size + 3 from HDNE.out)
    clear hs h6 h7 hbu
    refine wpIn_cap (fun T ds hT hds => ?_)
    refine rangeX h1 (gf := 54) (lb := #[.pointer (some ⟨W1.heap.size + 1 + 1 + 1, 0, none⟩), .pointer (some ⟨W1.heap.size + 1 + 1, 0, none⟩)]) (by rw [← hT]; rfl) (enters_of Try.func54 (by kernel_rfl) rfl)
      (open1_seq (n - 1) (W1.heap.size + 1 + 1 + 1) (W1.heap.size + 1 + 1) (by omega) HL.out (.func (.func 50) #[] #[]) (fun B => B = w.heap.size + 3) U1 HU.out (by omega) (by omega) hl hg)
      ?hA (fun h k => h.trans k) ?hKb (Below.refl _ _) (fun _ => rfl)
      (fun pre W => OfS w A l.length c fin (ofV 0 l fin) (accV 1 l fin 0 pre) 0 0 W ∧ HasC W (W1.heap.size) (.cells #[.int .i64 1] 3) ∧ HasC W (W1.heap.size + 1) (.cells #[.func (.func 49) #[] #[], .func (.func 50) #[] #[]] 64) ∧ DefS ([D0] : List Nat) W)
      (fun _ _ _ => False) ?oI (fun _ _ _ _ _ hs _ _ => hs) ?iA (fun _ _ _ _ hs _ => hs) (fun _ _ _ => trivial) H0.out
      (fun pre x a' W => a' = { tmps := (((T.setIfInBounds 28 (.int .i64 x.1)).setIfInBounds 29 (.int .i64 x.2)).setIfInBounds 8 (.int .i64 x.1)).setIfInBounds 9 (.int .i64 x.2), defers := [] } ∧ OfS w A l.length c fin (ofV 0 l fin) (accV 1 l fin 0 pre) 0 0 W ∧ HasC W (W1.heap.size) (.cells #[.int .i64 1] 3) ∧ HasC W (W1.heap.size + 1) (.cells #[.func (.func 49) #[] #[], .func (.func 50) #[] #[]] 64) ∧ DefS ([D0] : List Nat) W)
      ?oAx ?assign ?body ?done ?stop
    case hA =>
      intro W W' k o ho hk hko _
      exact (ho.block k (Array.getElem?_eq_some_iff.1 hko).1).trans hko
    case hKb =>
      intro W k ob ob' hk h hc
      exact KpO.putObj ob' (by omega) h hc
    case oI =>
      rintro s W W' row ⟨h1, h2, h3, h4⟩ hg hr
      exact ⟨OfS.own hzu s W W' row h1 hg hr, (HasC.own _ _ rfl).from _ s W W' row h2 hg hr, (HasC.own _ _ rfl).from _ s W W' row h3 hg hr, DefS.own HDL.out s W W' row h4 hg hr⟩
    case iA =>
      rintro pre W W' ⟨h1, h2, h3, h4⟩ hb
      exact ⟨h1.grow hb, (hb.block _ h2.lt).trans h2, (hb.block _ h3.lt).trans h3, h4.grow hb⟩
    case oAx =>
      rintro pre x a' s W W' row ⟨h0, h1, h2, h3, h4⟩ hg hr
      exact ⟨h0, OfS.own hzu s W W' row h1 hg hr, (HasC.own _ _ rfl).from _ s W W' row h2 hg hr, (HasC.own _ _ rfl).from _ s W W' row h3 hg hr, DefS.own HDL.out s W W' row h4 hg hr⟩
    case assign =>
      rintro ll pre x W K hi hg hK
      have HK := Lib.hid hK
      have HI := Lib.hid hi
      clear hK hi
      subst hT hds
      dsimp only [encO]
      gi_wp2
      refine HK.out _ _ (KeepsFrom.refl _ _) (KpO.refl _) ?_
      refine ⟨?_, HI.out⟩
      first | rfl | (simp only [List.setIfInBounds_toArray, List.set_cons_zero, List.set_cons_succ]; done) | (simp only [List.setIfInBounds_toArray, List.set_cons_zero, List.set_cons_succ]; rfl)
    case stop =>
      rintro D c pre W _ _ h _
      exact h.elim
    case body =>
      rintro ll pre x a' W hl2 ⟨rfl, hS, h6, h7, h8⟩ ⟨i, hi, hpre, hbk, hx1⟩
      subst hT hds
      obtain ⟨ati, who⟩ := x
      simp only at hx1 hbk
      subst hx1
      simp only [List.setIfInBounds_toArray, List.set_cons_zero, List.set_cons_succ]
      obtain ⟨b, o, hA, hb, g0, _⟩ := kEnt_at HL.out hi
      subst hA
      have hbn := HX.out l[ati] (List.getElem_mem hi)
      have hgd : (l.getD ati default).at_ = l[ati].at_ := by simp [hi]
      have htl := fun (A' : Option Addr) (hA' : ati + 1 < l.length → A' = some ⟨b, o + (ati + 1) * 13, none⟩) (W' : World) (hb' : Below w.heap.size w W') (h0 : Boxed W' (w.heap.size + 4) 5 (.int .u8 21)) (h3 : Boxed W' (w.heap.size + 5) 5 (.int .u8 22)) => till_K 1 (w.heap.size + 4) (w.heap.size + 5) (by omega) (n := l.length - (ati + 1)) (by simp) ((R_drop HL.out (k := ati + 1) (by omega) hA').keep hb') (fbV 1) h0 h3 l[ati].at_ who fin (fun x hx => by have := HX.out x (List.mem_of_mem_drop hx); omega) (by omega)
      simp only [fbV, feV] at htl
      have HTL2 := Lib.hid htl
      have HGD := Lib.hid hgd
      have hII : Lx.II w.heap.size w (((((((((Lx.St.nil.upd w.heap.size (.cells #[.int .i64 fin] 2 (0, 0))).upd (w.heap.size + 1) (.cells #[.slice (some ⟨b, o, none⟩) l.length c] 22 (0, 0))).upd (w.heap.size + 3) (.cells #[.int .i64 (ofV 0 l fin), .int .i64 (accV 1 l fin 0 pre), .int .i64 0, .int .i64 0] 58 (0, 0))).upd (w.heap.size + 4) (.cells #[.int .u8 21] 5 (0, 0))).upd (w.heap.size + 5) (.cells #[.int .u8 22] 5 (0, 0))).upd (W1.heap.size) (.cells #[.int .i64 1] 3 (0, 0))).upd (W1.heap.size + 1) (.cells #[.func (.func 49) #[] #[], .func (.func 50) #[] #[]] 64 (0, 0)))).add (OnlyW (w.heap.size + 3) W)) W := II.only ((((((((Lx.II.nil hS.below).put (Nat.le_refl _) hS.e2).put (Nat.le_add_right _ _) hS.e3).put (Nat.le_add_right _ _) hS.e5).put (Nat.le_add_right _ _) hS.m0).put (Nat.le_add_right _ _) hS.m3).put (by omega) h6).put (by omega) h7) _
      have HIN2 := Lib.hid hII
      have HS2 := Lib.hid hS
      have H62 := Lib.hid h6
      have H72 := Lib.hid h7
      have H82 := Lib.hid h8
      clear htl hgd hII hS h6 h7 h8 hpre hbk hbn
      have e0 : (0 : Int) ≤ (ati : Int) := by omega
      have e1 : (ati : Int) < (l.length : Int) := by omega
      have we : IntKind.i64.wrap ((ati : Int) + 1) = (ati : Int) + 1 := IntWalk.i64_in _ (by omega)
      have e2 : (0 : Int) ≤ (ati : Int) + 1 := by omega
      have e3 : (ati : Int) + 1 ≤ (l.length : Int) := by omega
      gi_wp2
      refine regionRx ll _ (by kernel_rfl) (by kernel_rfl) (by rintro ⟨_, _, h⟩; exact h) (by kernel_rfl) HIN2.out.1 HIN2.out.2 (by simp only [List.size_toArray, List.length_cons, List.length_nil, Nat.reduceAdd]; rfl) (fun O Z hO hZ => ?_)
      have HO := Lib.hid hO
      clear hO
      apply Lx.kr HO 0; (case hx => exact ⟨rfl, rfl, rfl⟩); (case hk => decide +kernel); (case hv => intro w_ hw_; have P_ := hw_.holds (W1.heap.size) _ (by (repeat (first | exact Lx.ua _ _ _ | rw [Lx.un _ _ (by omega)] | rw [Lx.am]))); have y0 := Lx.cellAt P_ 0 rfl; clear P_; (go_simp <;> first | with_reducible rfl | exact ⟨rfl, rfl⟩)); simp only [Act.put, Lx.p1, Lx.p2, Lx.p3]
      apply Lx.kr HO 1; (case hx => exact ⟨rfl, rfl, rfl⟩); (case hk => decide +kernel); (case hv => intro w_ hw_; have P_ := hw_.holds (W1.heap.size) _ (by (repeat (first | exact Lx.ua _ _ _ | rw [Lx.un _ _ (by omega)] | rw [Lx.am]))); have y0 := Lx.cellAt P_ 0 rfl; clear P_; (go_simp <;> first | with_reducible rfl | exact ⟨rfl, rfl⟩)); simp only [Act.put, Lx.p1, Lx.p2, Lx.p3]
      apply Lx.kp HO 2; (case hx => exact ⟨rfl, rfl, rfl⟩); (case hk => decide +kernel); (case hv => intro w_ hw_; (go_simp <;> first | with_reducible rfl | exact ⟨rfl, rfl⟩)); simp only [Act.put, Lx.p1, Lx.p2, Lx.p3]
      apply Lx.kr HO 3; (case hx => exact ⟨rfl, rfl, rfl⟩); (case hk => decide +kernel); (case hv => intro w_ hw_; have P_ := hw_.holds (w.heap.size + 3) _ (by (repeat (first | exact Lx.ua _ _ _ | rw [Lx.un _ _ (by omega)] | rw [Lx.am]))); obtain ⟨y0, y1, y2, y3⟩ := Lx.cells4 P_; clear P_; (go_simp <;> first | with_reducible rfl | exact ⟨rfl, rfl⟩)); simp only [Act.put, Lx.p1, Lx.p2, Lx.p3]
      apply Lx.kr HO 4; (case hx => exact ⟨rfl, rfl, rfl⟩); (case hk => decide +kernel); (case hv => intro w_ hw_; have P_ := hw_.holds (W1.heap.size + 1) _ (by (repeat (first | exact Lx.ua _ _ _ | rw [Lx.un _ _ (by omega)] | rw [Lx.am]))); obtain ⟨y0, y1⟩ := Lx.cells2 P_; clear P_; (go_simp <;> first | with_reducible rfl | exact ⟨rfl, rfl⟩)); simp only [Act.put, Lx.p1, Lx.p2, Lx.p3]
      apply Lx.kr HO 5; (case hx => exact ⟨rfl, rfl, rfl⟩); (case hk => decide +kernel); (case hv => intro w_ hw_; have P_ := hw_.holds (w.heap.size + 1) _ (by (repeat (first | exact Lx.ua _ _ _ | rw [Lx.un _ _ (by omega)] | rw [Lx.am]))); have y0 := Lx.cellAt P_ 0 rfl; clear P_; (go_simp <;> first | with_reducible rfl | exact ⟨rfl, rfl⟩)); simp only [Act.put, Lx.p1, Lx.p2, Lx.p3]
      apply Lx.kp HO 6; (case hx => exact ⟨rfl, rfl, rfl⟩); (case hk => decide +kernel); (case hv => intro w_ hw_; (go_simp <;> first | with_reducible rfl | exact ⟨rfl, rfl⟩)); simp only [Act.put, Lx.p1, Lx.p2, Lx.p3]
      apply Lx.kp HO 7; (case hx => exact ⟨rfl, rfl, rfl⟩); (case hk => decide +kernel); (case hv => intro w_ hw_; (go_simp <;> first | with_reducible rfl | exact ⟨rfl, rfl⟩)); simp only [Act.put, Lx.p1, Lx.p2, Lx.p3]
      apply Lx.kp HO 8; (case hx => exact ⟨rfl, rfl, rfl⟩); (case hk => decide +kernel); (case hv => intro w_ hw_; (go_simp <;> first | with_reducible rfl | exact ⟨rfl, rfl⟩)); simp only [Act.put, Lx.p1, Lx.p2, Lx.p3]
      apply Lx.kr HO 9; (case hx => exact ⟨rfl, rfl, rfl⟩); (case hk => decide +kernel); (case hv => intro w_ hw_; have y0 := Below.at hw_.below g0 hb; have y1 := Nat.lt_of_lt_of_le hb hw_.below.size; (go_simp <;> first | with_reducible rfl | exact ⟨rfl, rfl⟩)); simp only [Act.put, Lx.p1, Lx.p2, Lx.p3]
      apply Lx.kp HO 10; (case hx => exact ⟨rfl, rfl, rfl⟩); (case hk => decide +kernel); (case hv => intro w_ hw_; (go_simp <;> first | with_reducible rfl | exact ⟨rfl, rfl⟩)); simp only [Act.put, Lx.p1, Lx.p2, Lx.p3]
      apply Lx.kr HO 11; (case hx => exact ⟨rfl, rfl, rfl⟩); (case hk => decide +kernel); (case hv => intro w_ hw_; have P_ := hw_.holds (w.heap.size + 1) _ (by (repeat (first | exact Lx.ua _ _ _ | rw [Lx.un _ _ (by omega)] | rw [Lx.am]))); have y0 := Lx.cellAt P_ 0 rfl; clear P_; (go_simp <;> first | with_reducible rfl | exact ⟨rfl, rfl⟩)); simp only [Act.put, Lx.p1, Lx.p2, Lx.p3]
      apply Lx.kp HO 12; (case hx => exact ⟨rfl, rfl, rfl⟩); (case hk => decide +kernel); (case hv => intro w_ hw_; (go_simp <;> first | with_reducible rfl | exact ⟨rfl, rfl⟩)); simp only [Act.put, Lx.p1, Lx.p2, Lx.p3]
      apply Lx.kp HO 13; (case hx => exact ⟨rfl, rfl, rfl⟩); (case hk => decide +kernel); (case hv => intro w_ hw_; (go_simp <;> first | with_reducible rfl | exact ⟨rfl, rfl⟩)); simp only [Act.put, Lx.p1, Lx.p2, Lx.p3]
      apply Lx.kp HO 14; (case hx => exact ⟨rfl, rfl, rfl⟩); (case hk => decide +kernel); (case hv => intro w_ hw_; (go_simp <;> first | with_reducible rfl | exact ⟨rfl, rfl⟩)); simp only [Act.put, Lx.p1, Lx.p2, Lx.p3]
      apply Lx.kr HO 15; (case hx => exact ⟨rfl, rfl, rfl⟩); (case hk => decide +kernel); (case hv => intro w_ hw_; have P_ := hw_.holds (w.heap.size) _ (by (repeat (first | exact Lx.ua _ _ _ | rw [Lx.un _ _ (by omega)] | rw [Lx.am]))); have y0 := Lx.cellAt P_ 0 rfl; clear P_; (go_simp <;> first | with_reducible rfl | exact ⟨rfl, rfl⟩)); simp only [Act.put, Lx.p1, Lx.p2, Lx.p3]
      apply Lx.kc HO 16; (case hx => exact ⟨rfl, rfl, rfl⟩); (case hk => decide +kernel); (case hrun => intro w_; (go_simp <;> first | with_reducible rfl | exact ⟨rfl, rfl⟩)); (case hc => intro w_ hw_; exact HTL2.out _ (fun h_ => if_neg (by omega)) _ hw_.below (by (have P_ := hw_.holds (w.heap.size + 4) _ (by (repeat (first | exact Lx.ua _ _ _ | rw [Lx.un _ _ (by omega)] | rw [Lx.am]))); exact P_)) (by (have P_ := hw_.holds (w.heap.size + 5) _ (by (repeat (first | exact Lx.ua _ _ _ | rw [Lx.un _ _ (by omega)] | rw [Lx.am]))); exact P_))); simp only [Act.put, Lx.p1, Lx.p2, Lx.p3]
      apply Lx.kr HO 17; (case hx => exact ⟨rfl, rfl, rfl⟩); (case hk => decide +kernel); (case hv => intro w_ hw_; skip; (go_simp <;> first | with_reducible rfl | exact ⟨rfl, rfl⟩)); simp only [Act.put, Lx.p1, Lx.p2, Lx.p3]
      apply Lx.kp HO 18; (case hx => exact ⟨rfl, rfl, rfl⟩); (case hk => decide +kernel); (case hv => intro w_ hw_; (go_simp <;> first | with_reducible rfl | exact ⟨rfl, rfl⟩)); simp only [Act.put, Lx.p1, Lx.p2, Lx.p3]
      (apply Lx.ks HO 19 (g := w.heap.size + 3)); (case hx => exact ⟨rfl, rfl, rfl⟩); (case hk => decide +kernel); (case hG => exact fun _ _ h_ ha_ => ⟨⟨trivial, h_.1.2.at_ ha_⟩, trivial⟩); (case hg => (repeat (first | exact Lx.ua _ _ _ | rw [Lx.un _ _ (by omega)] | rw [Lx.am]))); (case hrun => (intro w_ hw_ hb_; (obtain ⟨d0, d1, d2, d3⟩ := Lx.cells4 hb_); (obtain ⟨f0, f1, f2, f3⟩ := Lx.froz4 hb_); (have l_ := (Array.getElem?_eq_some_iff.1 hb_).1); refine ⟨?_, ?_, ?_, ?_⟩; rotate_left; (next => (go_simp <;> first | with_reducible rfl | rfl)); (next => (repeat (first | (with_reducible exact Lx.OnlyAt.refl _ _) | (with_reducible refine Lx.OnlyAt.set ?_ _ _)))); (next => exact setA1 hb_))); simp only [Act.put, Lx.p1, Lx.p2, Lx.p3]
      refine Lx.kd HO (by kernel_rfl) (fun hiv2 => hZ _ _ (fun Z2 hw2 => ?_))
      have ho := hw2.more.1.2
      have h5 := hw2.holds (w.heap.size + 3) _ (by (repeat (first | exact Lx.ua _ _ _ | rw [Lx.un _ _ (by omega)] | rw [Lx.am])))
      have hnew : (if accV 1 l fin 0 pre < tillV 1 (l.drop (ati + 1)) l[ati].at_ who fin then tillV 1 (l.drop (ati + 1)) l[ati].at_ who fin else accV 1 l fin 0 pre) = accV 1 l fin 0 (pre ++ [(ati, who)]) := by
        rw [accV_snoc]
        simp only [HGD.out]
        generalize accV 1 l fin 0 pre = m1
        generalize tillV 1 (l.drop (ati + 1)) l[ati].at_ who fin = m2
        rw [Int.max_def]
        split <;> split <;> omega
      rw [hnew] at h5
      exact ⟨ho.keeps (by omega), ho.kp (Nat.le_add_right _ _) HS2.out.below.size, HS2.out.put ho h5, ho.has H62.out (by omega), ho.has H72.out (by omega), H82.out.only ho HDN.out⟩
    case done =>
      rintro D1 xs W2 hD rfl ⟨hs, _, _, hdf⟩ hDef
      subst hT hds
      have HDEF := Lib.hid (show DefS ([D1, D0] : List Nat) W2 from fun D h_ => by
        rcases List.mem_cons.1 h_ with rfl | h_
        · exact hDef
        · exact hdf D h_)
      have HDNE := Lib.hid (show ∀ D, D ∈ ([D1, D0] : List Nat) → D ≠ w.heap.size + 3 from fun D h_ => by
        rcases List.mem_cons.1 h_ with rfl | h_
        · omega
        · exact HDN.out D h_)
      have HLT1 := Lib.hid (show D0 < D1 from Nat.lt_of_lt_of_le (HDL.out D0 (by simp)) hD)
      have HS := Lib.hid (show OfS w A l.length c fin (ofV 0 l fin) (ofV 1 l fin) 0 0 W2 from hs)
      clear hs hdf hDef hD HDN HDL H0 HU hg hl hz6 hzg hsu hzu
      gi_wp2
      have c0 := Lx.cellAt HS.out.lg 4 rfl
      have c1 := Lx.cellAt HS.out.lg 5 rfl
      have c3 := Lx.cellAt HS.out.e3 0 rfl
      have l3 := HS.out.e3.lt
      have lg := HS.out.lg.lt
      have l2 := HS.out.e2.lt
      have c2 := Lx.cellAt HS.out.e2 0 rfl
      simp only [fbV, feV] at c0 c1
      rw [roundsIn_succ]
      gi_wp2_with ((first | refine ⟨trivial, fun _ => by omega, ?_⟩ | refine ⟨trivial, ?_⟩); (with_reducible refine (HLO.out _ _ _ _ _ _).mono ?_); rintro e w2 ⟨rfl, rfl⟩)
      obtain ⟨U2, hU⟩ : ∃ U, U = (((W2.alloc (.cells #[.int .i64 2] 3)).alloc (.cells #[.func (.func 51) #[] #[], .func (.func 52) #[] #[]] 64)).alloc (.cells #[.func (.func 51) #[] #[], .func (.func 52) #[] #[]] 64)).alloc (.cells #[.slice A l.length c] 22) := ⟨_, rfl⟩
      have hbu : Below W2.heap.size W2 U2 := by rw [hU]; (repeat (first | with_reducible exact Below.refl _ _ | (with_reducible refine Below.setCell ?_ (by first | (simp; done) | (simp; omega) | omega) _) | (with_reducible refine Below.alloc ?_ (by first | (simp; done) | (simp; omega) | omega) _) | (with_reducible refine Below.drew ?_)))
      have hsu : U2.heap.size = W2.heap.size + 4 := by rw [hU]; simp
      have hs := HS.out.grow hbu
      have h6 : HasC U2 (W2.heap.size) (.cells #[.int .i64 2] 3) := (by (rw [hU]; (first | unfold HasC | unfold LagB | unfold Boxed); (repeat (refine (Below.heap_alloc _ _ _ (by simp only [World.size_alloc]; omega)).trans ?_)); exact alloc_at2 (by simp only [World.size_alloc])))
      have h7 : HasC U2 (W2.heap.size + 1) (.cells #[.func (.func 51) #[] #[], .func (.func 52) #[] #[]] 64) := (by (rw [hU]; (first | unfold HasC | unfold LagB | unfold Boxed); (repeat (refine (Below.heap_alloc _ _ _ (by simp only [World.size_alloc]; omega)).trans ?_)); exact alloc_at2 (by simp only [World.size_alloc])))
      have hg : LagB U2 (W2.heap.size + 1 + 1) (.func (.func 51) #[] #[]) (.func (.func 52) #[] #[]) := (by (rw [hU]; (first | unfold HasC | unfold LagB | unfold Boxed); (repeat (refine (Below.heap_alloc _ _ _ (by simp only [World.size_alloc]; omega)).trans ?_)); exact alloc_at2 (by simp only [World.size_alloc])))
      have hl : Boxed U2 (W2.heap.size + 1 + 1 + 1) 22 (.slice A l.length c) := (by (rw [hU]; (first | unfold HasC | unfold LagB | unfold Boxed); (repeat (refine (Below.heap_alloc _ _ _ (by simp only [World.size_alloc]; omega)).trans ?_)); exact alloc_at2 (by simp only [World.size_alloc])))
      have hz6 : w.heap.size + 7 ≤ W2.heap.size := by have := HS.out.lg.lt; omega
      have hzg : w.heap.size + 7 ≤ W2.heap.size + 1 + 1 := by omega
      rw [← hU]
      clear hU
      have hzu := hs.below.size
      have HU := Lib.hid hs.below
      have H0 := Lib.hid (And.intro hs (And.intro h6 (And.intro h7 (show DefS ([D1, D0] : List Nat) U2 from HDEF.out.grow hbu))))
      have HDL := Lib.hid (show ∀ D, D ∈ ([D1, D0] : List Nat) → D < U2.heap.size from fun D h_ => Nat.lt_of_lt_of_le (Array.getElem?_eq_some_iff.1 (HDEF.out D h_)).1 hbu.size)
      have HDN := Lib.hid (show ∀ D, D ∈ ([D1, D0] : List Nat) → D ≠ w.heap.size + 3 from HDNE.out)
      clear hs h6 h7 hbu
      refine wpIn_cap (fun T ds hT hds => ?_)
      refine rangeX h1 (gf := 54) (lb := #[.pointer (some ⟨W2.heap.size + 1 + 1 + 1, 0, none⟩), .pointer (some ⟨W2.heap.size + 1 + 1, 0, none⟩)]) (by rw [← hT]; rfl) (enters_of Try.func54 (by kernel_rfl) rfl)
        (open2_seq (n - 1) (W2.heap.size + 1 + 1 + 1) (W2.heap.size + 1 + 1) (by omega) HL.out (.func (.func 52) #[] #[]) (fun B => B = w.heap.size + 3) U2 HU.out (by omega) (by omega) hl hg)
        ?hA (fun h k => h.trans k) ?hKb (Below.refl _ _) (fun _ => rfl)
        (fun pre W => OfS w A l.length c fin (ofV 0 l fin) (ofV 1 l fin) (accV 2 l fin 0 pre) 0 W ∧ HasC W (W2.heap.size) (.cells #[.int .i64 2] 3) ∧ HasC W (W2.heap.size + 1) (.cells #[.func (.func 51) #[] #[], .func (.func 52) #[] #[]] 64) ∧ DefS ([D1, D0] : List Nat) W)
        (fun _ _ _ => False) ?oI (fun _ _ _ _ _ hs _ _ => hs) ?iA (fun _ _ _ _ hs _ => hs) (fun _ _ _ => trivial) H0.out
        (fun pre x a' W => a' = { tmps := (((T.setIfInBounds 28 (.int .i64 x.1)).setIfInBounds 29 (.int .i64 x.2)).setIfInBounds 8 (.int .i64 x.1)).setIfInBounds 9 (.int .i64 x.2), defers := [] } ∧ OfS w A l.length c fin (ofV 0 l fin) (ofV 1 l fin) (accV 2 l fin 0 pre) 0 W ∧ HasC W (W2.heap.size) (.cells #[.int .i64 2] 3) ∧ HasC W (W2.heap.size + 1) (.cells #[.func (.func 51) #[] #[], .func (.func 52) #[] #[]] 64) ∧ DefS ([D1, D0] : List Nat) W)
        ?oAx ?assign ?body ?done ?stop
      case hA =>
        intro W W' k o ho hk hko _
        exact (ho.block k (Array.getElem?_eq_some_iff.1 hko).1).trans hko
      case hKb =>
        intro W k ob ob' hk h hc
        exact KpO.putObj ob' (by omega) h hc
      case oI =>
        rintro s W W' row ⟨h1, h2, h3, h4⟩ hg hr
        exact ⟨OfS.own hzu s W W' row h1 hg hr, (HasC.own _ _ rfl).from _ s W W' row h2 hg hr, (HasC.own _ _ rfl).from _ s W W' row h3 hg hr, DefS.own HDL.out s W W' row h4 hg hr⟩
      case iA =>
        rintro pre W W' ⟨h1, h2, h3, h4⟩ hb
        exact ⟨h1.grow hb, (hb.block _ h2.lt).trans h2, (hb.block _ h3.lt).trans h3, h4.grow hb⟩
      case oAx =>
        rintro pre x a' s W W' row ⟨h0, h1, h2, h3, h4⟩ hg hr
        exact ⟨h0, OfS.own hzu s W W' row h1 hg hr, (HasC.own _ _ rfl).from _ s W W' row h2 hg hr, (HasC.own _ _ rfl).from _ s W W' row h3 hg hr, DefS.own HDL.out s W W' row h4 hg hr⟩
      case assign =>
        rintro ll pre x W K hi hg hK
        have HK := Lib.hid hK
        have HI := Lib.hid hi
        clear hK hi
        subst hT hds
        dsimp only [encO]
        gi_wp2
        refine HK.out _ _ (KeepsFrom.refl _ _) (KpO.refl _) ?_
        refine ⟨?_, HI.out⟩
        first | rfl | (simp only [List.setIfInBounds_toArray, List.set_cons_zero, List.set_cons_succ]; done) | (simp only [List.setIfInBounds_toArray, List.set_cons_zero, List.set_cons_succ]; rfl)
      case stop =>
        rintro D c pre W _ _ h _
        exact h.elim
      case body =>
        rintro ll pre x a' W hl2 ⟨rfl, hS, h6, h7, h8⟩ ⟨i, hi, hpre, hbk, hx1⟩
        subst hT hds
        obtain ⟨ati, who⟩ := x
        simp only at hx1 hbk
        subst hx1
        simp only [List.setIfInBounds_toArray, List.set_cons_zero, List.set_cons_succ]
        obtain ⟨b, o, hA, hb, g0, _⟩ := kEnt_at HL.out hi
        subst hA
        have hbn := HX.out l[ati] (List.getElem_mem hi)
        have hgd : (l.getD ati default).at_ = l[ati].at_ := by simp [hi]
        have htl := fun (A' : Option Addr) (hA' : ati + 1 < l.length → A' = some ⟨b, o + (ati + 1) * 13, none⟩) (W' : World) (hb' : Below w.heap.size w W') (h0 : Boxed W' (w.heap.size + 4) 5 (.int .u8 21)) (h3 : Boxed W' (w.heap.size + 5) 5 (.int .u8 22)) => till_K 2 (w.heap.size + 4) (w.heap.size + 5) (by omega) (n := l.length - (ati + 1)) (by simp) ((R_drop HL.out (k := ati + 1) (by omega) hA').keep hb') (fbV 2) h0 h3 l[ati].at_ who fin (fun x hx => by have := HX.out x (List.mem_of_mem_drop hx); omega) (by omega)
        simp only [fbV, feV] at htl
        have HTL2 := Lib.hid htl
        have HGD := Lib.hid hgd
        have hII : Lx.II w.heap.size w (((((((((Lx.St.nil.upd w.heap.size (.cells #[.int .i64 fin] 2 (0, 0))).upd (w.heap.size + 1) (.cells #[.slice (some ⟨b, o, none⟩) l.length c] 22 (0, 0))).upd (w.heap.size + 3) (.cells #[.int .i64 (ofV 0 l fin), .int .i64 (ofV 1 l fin), .int .i64 (accV 2 l fin 0 pre), .int .i64 0] 58 (0, 0))).upd (w.heap.size + 4) (.cells #[.int .u8 21] 5 (0, 0))).upd (w.heap.size + 5) (.cells #[.int .u8 22] 5 (0, 0))).upd (W2.heap.size) (.cells #[.int .i64 2] 3 (0, 0))).upd (W2.heap.size + 1) (.cells #[.func (.func 51) #[] #[], .func (.func 52) #[] #[]] 64 (0, 0)))).add (OnlyW (w.heap.size + 3) W)) W := II.only ((((((((Lx.II.nil hS.below).put (Nat.le_refl _) hS.e2).put (Nat.le_add_right _ _) hS.e3).put (Nat.le_add_right _ _) hS.e5).put (Nat.le_add_right _ _) hS.m0).put (Nat.le_add_right _ _) hS.m3).put (by omega) h6).put (by omega) h7) _
        have HIN2 := Lib.hid hII
        have HS2 := Lib.hid hS
        have H62 := Lib.hid h6
        have H72 := Lib.hid h7
        have H82 := Lib.hid h8
        clear htl hgd hII hS h6 h7 h8 hpre hbk hbn
        have e0 : (0 : Int) ≤ (ati : Int) := by omega
        have e1 : (ati : Int) < (l.length : Int) := by omega
        have we : IntKind.i64.wrap ((ati : Int) + 1) = (ati : Int) + 1 := IntWalk.i64_in _ (by omega)
        have e2 : (0 : Int) ≤ (ati : Int) + 1 := by omega
        have e3 : (ati : Int) + 1 ≤ (l.length : Int) := by omega
        gi_wp2
        refine regionRx ll _ (by kernel_rfl) (by kernel_rfl) (by rintro ⟨_, _, h⟩; exact h) (by kernel_rfl) HIN2.out.1 HIN2.out.2 (by simp only [List.size_toArray, List.length_cons, List.length_nil, Nat.reduceAdd]; rfl) (fun O Z hO hZ => ?_)
        have HO := Lib.hid hO
        clear hO
        apply Lx.kr HO 0; (case hx => exact ⟨rfl, rfl, rfl⟩); (case hk => decide +kernel); (case hv => intro w_ hw_; have P_ := hw_.holds (W2.heap.size) _ (by (repeat (first | exact Lx.ua _ _ _ | rw [Lx.un _ _ (by omega)] | rw [Lx.am]))); have y0 := Lx.cellAt P_ 0 rfl; clear P_; (go_simp <;> first | with_reducible rfl | exact ⟨rfl, rfl⟩)); simp only [Act.put, Lx.p1, Lx.p2, Lx.p3]
        apply Lx.kr HO 1; (case hx => exact ⟨rfl, rfl, rfl⟩); (case hk => decide +kernel); (case hv => intro w_ hw_; have P_ := hw_.holds (W2.heap.size) _ (by (repeat (first | exact Lx.ua _ _ _ | rw [Lx.un _ _ (by omega)] | rw [Lx.am]))); have y0 := Lx.cellAt P_ 0 rfl; clear P_; (go_simp <;> first | with_reducible rfl | exact ⟨rfl, rfl⟩)); simp only [Act.put, Lx.p1, Lx.p2, Lx.p3]
        apply Lx.kp HO 2; (case hx => exact ⟨rfl, rfl, rfl⟩); (case hk => decide +kernel); (case hv => intro w_ hw_; (go_simp <;> first | with_reducible rfl | exact ⟨rfl, rfl⟩)); simp only [Act.put, Lx.p1, Lx.p2, Lx.p3]
        apply Lx.kr HO 3; (case hx => exact ⟨rfl, rfl, rfl⟩); (case hk => decide +kernel); (case hv => intro w_ hw_; have P_ := hw_.holds (w.heap.size + 3) _ (by (repeat (first | exact Lx.ua _ _ _ | rw [Lx.un _ _ (by omega)] | rw [Lx.am]))); obtain ⟨y0, y1, y2, y3⟩ := Lx.cells4 P_; clear P_; (go_simp <;> first | with_reducible rfl | exact ⟨rfl, rfl⟩)); simp only [Act.put, Lx.p1, Lx.p2, Lx.p3]
        apply Lx.kr HO 4; (case hx => exact ⟨rfl, rfl, rfl⟩); (case hk => decide +kernel); (case hv => intro w_ hw_; have P_ := hw_.holds (W2.heap.size + 1) _ (by (repeat (first | exact Lx.ua _ _ _ | rw [Lx.un _ _ (by omega)] | rw [Lx.am]))); obtain ⟨y0, y1⟩ := Lx.cells2 P_; clear P_; (go_simp <;> first | with_reducible rfl | exact ⟨rfl, rfl⟩)); simp only [Act.put, Lx.p1, Lx.p2, Lx.p3]
        apply Lx.kr HO 5; (case hx => exact ⟨rfl, rfl, rfl⟩); (case hk => decide +kernel); (case hv => intro w_ hw_; have P_ := hw_.holds (w.heap.size + 1) _ (by (repeat (first | exact Lx.ua _ _ _ | rw [Lx.un _ _ (by omega)] | rw [Lx.am]))); have y0 := Lx.cellAt P_ 0 rfl; clear P_; (go_simp <;> first | with_reducible rfl | exact ⟨rfl, rfl⟩)); simp only [Act.put, Lx.p1, Lx.p2, Lx.p3]
        apply Lx.kp HO 6; (case hx => exact ⟨rfl, rfl, rfl⟩); (case hk => decide +kernel); (case hv => intro w_ hw_; (go_simp <;> first | with_reducible rfl | exact ⟨rfl, rfl⟩)); simp only [Act.put, Lx.p1, Lx.p2, Lx.p3]
        apply Lx.kp HO 7; (case hx => exact ⟨rfl, rfl, rfl⟩); (case hk => decide +kernel); (case hv => intro w_ hw_; (go_simp <;> first | with_reducible rfl | exact ⟨rfl, rfl⟩)); simp only [Act.put, Lx.p1, Lx.p2, Lx.p3]
        apply Lx.kp HO 8; (case hx => exact ⟨rfl, rfl, rfl⟩); (case hk => decide +kernel); (case hv => intro w_ hw_; (go_simp <;> first | with_reducible rfl | exact ⟨rfl, rfl⟩)); simp only [Act.put, Lx.p1, Lx.p2, Lx.p3]
        apply Lx.kr HO 9; (case hx => exact ⟨rfl, rfl, rfl⟩); (case hk => decide +kernel); (case hv => intro w_ hw_; have y0 := Below.at hw_.below g0 hb; have y1 := Nat.lt_of_lt_of_le hb hw_.below.size; (go_simp <;> first | with_reducible rfl | exact ⟨rfl, rfl⟩)); simp only [Act.put, Lx.p1, Lx.p2, Lx.p3]
        apply Lx.kp HO 10; (case hx => exact ⟨rfl, rfl, rfl⟩); (case hk => decide +kernel); (case hv => intro w_ hw_; (go_simp <;> first | with_reducible rfl | exact ⟨rfl, rfl⟩)); simp only [Act.put, Lx.p1, Lx.p2, Lx.p3]
        apply Lx.kr HO 11; (case hx => exact ⟨rfl, rfl, rfl⟩); (case hk => decide +kernel); (case hv => intro w_ hw_; have P_ := hw_.holds (w.heap.size + 1) _ (by (repeat (first | exact Lx.ua _ _ _ | rw [Lx.un _ _ (by omega)] | rw [Lx.am]))); have y0 := Lx.cellAt P_ 0 rfl; clear P_; (go_simp <;> first | with_reducible rfl | exact ⟨rfl, rfl⟩)); simp only [Act.put, Lx.p1, Lx.p2, Lx.p3]
        apply Lx.kp HO 12; (case hx => exact ⟨rfl, rfl, rfl⟩); (case hk => decide +kernel); (case hv => intro w_ hw_; (go_simp <;> first | with_reducible rfl | exact ⟨rfl, rfl⟩)); simp only [Act.put, Lx.p1, Lx.p2, Lx.p3]
        apply Lx.kp HO 13; (case hx => exact ⟨rfl, rfl, rfl⟩); (case hk => decide +kernel); (case hv => intro w_ hw_; (go_simp <;> first | with_reducible rfl | exact ⟨rfl, rfl⟩)); simp only [Act.put, Lx.p1, Lx.p2, Lx.p3]
        apply Lx.kp HO 14; (case hx => exact ⟨rfl, rfl, rfl⟩); (case hk => decide +kernel); (case hv => intro w_ hw_; (go_simp <;> first | with_reducible rfl | exact ⟨rfl, rfl⟩)); simp only [Act.put, Lx.p1, Lx.p2, Lx.p3]
        apply Lx.kr HO 15; (case hx => exact ⟨rfl, rfl, rfl⟩); (case hk => decide +kernel); (case hv => intro w_ hw_; have P_ := hw_.holds (w.heap.size) _ (by (repeat (first | exact Lx.ua _ _ _ | rw [Lx.un _ _ (by omega)] | rw [Lx.am]))); have y0 := Lx.cellAt P_ 0 rfl; clear P_; (go_simp <;> first | with_reducible rfl | exact ⟨rfl, rfl⟩)); simp only [Act.put, Lx.p1, Lx.p2, Lx.p3]
        apply Lx.kc HO 16; (case hx => exact ⟨rfl, rfl, rfl⟩); (case hk => decide +kernel); (case hrun => intro w_; (go_simp <;> first | with_reducible rfl | exact ⟨rfl, rfl⟩)); (case hc => intro w_ hw_; exact HTL2.out _ (fun h_ => if_neg (by omega)) _ hw_.below (by (have P_ := hw_.holds (w.heap.size + 4) _ (by (repeat (first | exact Lx.ua _ _ _ | rw [Lx.un _ _ (by omega)] | rw [Lx.am]))); exact P_)) (by (have P_ := hw_.holds (w.heap.size + 5) _ (by (repeat (first | exact Lx.ua _ _ _ | rw [Lx.un _ _ (by omega)] | rw [Lx.am]))); exact P_))); simp only [Act.put, Lx.p1, Lx.p2, Lx.p3]
        apply Lx.kr HO 17; (case hx => exact ⟨rfl, rfl, rfl⟩); (case hk => decide +kernel); (case hv => intro w_ hw_; skip; (go_simp <;> first | with_reducible rfl | exact ⟨rfl, rfl⟩)); simp only [Act.put, Lx.p1, Lx.p2, Lx.p3]
        apply Lx.kp HO 18; (case hx => exact ⟨rfl, rfl, rfl⟩); (case hk => decide +kernel); (case hv => intro w_ hw_; (go_simp <;> first | with_reducible rfl | exact ⟨rfl, rfl⟩)); simp only [Act.put, Lx.p1, Lx.p2, Lx.p3]
        (apply Lx.ks HO 19 (g := w.heap.size + 3)); (case hx => exact ⟨rfl, rfl, rfl⟩); (case hk => decide +kernel); (case hG => exact fun _ _ h_ ha_ => ⟨⟨trivial, h_.1.2.at_ ha_⟩, trivial⟩); (case hg => (repeat (first | exact Lx.ua _ _ _ | rw [Lx.un _ _ (by omega)] | rw [Lx.am]))); (case hrun => (intro w_ hw_ hb_; (obtain ⟨d0, d1, d2, d3⟩ := Lx.cells4 hb_); (obtain ⟨f0, f1, f2, f3⟩ := Lx.froz4 hb_); (have l_ := (Array.getElem?_eq_some_iff.1 hb_).1); refine ⟨?_, ?_, ?_, ?_⟩; rotate_left; (next => (go_simp <;> first | with_reducible rfl | rfl)); (next => (repeat (first | (with_reducible exact Lx.OnlyAt.refl _ _) | (with_reducible refine Lx.OnlyAt.set ?_ _ _)))); (next => exact setA2 hb_))); simp only [Act.put, Lx.p1, Lx.p2, Lx.p3]
        refine Lx.kd HO (by kernel_rfl) (fun hiv2 => hZ _ _ (fun Z2 hw2 => ?_))
        have ho := hw2.more.1.2
        have h5 := hw2.holds (w.heap.size + 3) _ (by (repeat (first | exact Lx.ua _ _ _ | rw [Lx.un _ _ (by omega)] | rw [Lx.am])))
        have hnew : (if accV 2 l fin 0 pre < tillV 2 (l.drop (ati + 1)) l[ati].at_ who fin then tillV 2 (l.drop (ati + 1)) l[ati].at_ who fin else accV 2 l fin 0 pre) = accV 2 l fin 0 (pre ++ [(ati, who)]) := by
          rw [accV_snoc]
          simp only [HGD.out]
          generalize accV 2 l fin 0 pre = m1
          generalize tillV 2 (l.drop (ati + 1)) l[ati].at_ who fin = m2
          rw [Int.max_def]
          split <;> split <;> omega
        rw [hnew] at h5
        exact ⟨ho.keeps (by omega), ho.kp (Nat.le_add_right _ _) HS2.out.below.size, HS2.out.put ho h5, ho.has H62.out (by omega), ho.has H72.out (by omega), H82.out.only ho HDN.out⟩
      case done =>
        rintro D2 xs W3 hD rfl ⟨hs, _, _, hdf⟩ hDef
        subst hT hds
        have HDEF := Lib.hid (show DefS ([D2, D1, D0] : List Nat) W3 from fun D h_ => by
          rcases List.mem_cons.1 h_ with rfl | h_
          · exact hDef
          · exact hdf D h_)
        have HDNE := Lib.hid (show ∀ D, D ∈ ([D2, D1, D0] : List Nat) → D ≠ w.heap.size + 3 from fun D h_ => by
          rcases List.mem_cons.1 h_ with rfl | h_
          · omega
          · exact HDN.out D h_)
        have HLT2 := Lib.hid (show D1 < D2 from Nat.lt_of_lt_of_le (HDL.out D1 (by simp)) hD)
        have HS := Lib.hid (show OfS w A l.length c fin (ofV 0 l fin) (ofV 1 l fin) (ofV 2 l fin) 0 W3 from hs)
        clear hs hdf hDef hD HDN HDL H0 HU hg hl hz6 hzg hsu hzu
        gi_wp2
        have c0 := Lx.cellAt HS.out.lg 6 rfl
        have c1 := Lx.cellAt HS.out.lg 7 rfl
        have c3 := Lx.cellAt HS.out.e3 0 rfl
        have l3 := HS.out.e3.lt
        have lg := HS.out.lg.lt
        have l2 := HS.out.e2.lt
        have c2 := Lx.cellAt HS.out.e2 0 rfl
        simp only [fbV, feV] at c0 c1
        rw [roundsIn_succ]
        gi_wp2_with ((first | refine ⟨trivial, fun _ => by omega, ?_⟩ | refine ⟨trivial, ?_⟩); (with_reducible refine (HLO.out _ _ _ _ _ _).mono ?_); rintro e w2 ⟨rfl, rfl⟩)
        obtain ⟨U3, hU⟩ : ∃ U, U = (((W3.alloc (.cells #[.int .i64 3] 3)).alloc (.cells #[.func (.func 53) #[] #[], .func (.func 65) #[] #[.pointer (some ⟨w.heap.size + 5, 0, none⟩)]] 64)).alloc (.cells #[.func (.func 53) #[] #[], .func (.func 65) #[] #[.pointer (some ⟨w.heap.size + 5, 0, none⟩)]] 64)).alloc (.cells #[.slice A l.length c] 22) := ⟨_, rfl⟩
        have hbu : Below W3.heap.size W3 U3 := by rw [hU]; (repeat (first | with_reducible exact Below.refl _ _ | (with_reducible refine Below.setCell ?_ (by first | (simp; done) | (simp; omega) | omega) _) | (with_reducible refine Below.alloc ?_ (by first | (simp; done) | (simp; omega) | omega) _) | (with_reducible refine Below.drew ?_)))
        have hsu : U3.heap.size = W3.heap.size + 4 := by rw [hU]; simp
        have hs := HS.out.grow hbu
        have h6 : HasC U3 (W3.heap.size) (.cells #[.int .i64 3] 3) := (by (rw [hU]; (first | unfold HasC | unfold LagB | unfold Boxed); (repeat (refine (Below.heap_alloc _ _ _ (by simp only [World.size_alloc]; omega)).trans ?_)); exact alloc_at2 (by simp only [World.size_alloc])))
        have h7 : HasC U3 (W3.heap.size + 1) (.cells #[.func (.func 53) #[] #[], .func (.func 65) #[] #[.pointer (some ⟨w.heap.size + 5, 0, none⟩)]] 64) := (by (rw [hU]; (first | unfold HasC | unfold LagB | unfold Boxed); (repeat (refine (Below.heap_alloc _ _ _ (by simp only [World.size_alloc]; omega)).trans ?_)); exact alloc_at2 (by simp only [World.size_alloc])))
        have hg : LagB U3 (W3.heap.size + 1 + 1) (.func (.func 53) #[] #[]) (.func (.func 65) #[] #[.pointer (some ⟨w.heap.size + 5, 0, none⟩)]) := (by (rw [hU]; (first | unfold HasC | unfold LagB | unfold Boxed); (repeat (refine (Below.heap_alloc _ _ _ (by simp only [World.size_alloc]; omega)).trans ?_)); exact alloc_at2 (by simp only [World.size_alloc])))
        have hl : Boxed U3 (W3.heap.size + 1 + 1 + 1) 22 (.slice A l.length c) := (by (rw [hU]; (first | unfold HasC | unfold LagB | unfold Boxed); (repeat (refine (Below.heap_alloc _ _ _ (by simp only [World.size_alloc]; omega)).trans ?_)); exact alloc_at2 (by simp only [World.size_alloc])))
        have hz6 : w.heap.size + 7 ≤ W3.heap.size := by have := HS.out.lg.lt; omega
        have hzg : w.heap.size + 7 ≤ W3.heap.size + 1 + 1 := by omega
        rw [← hU]
        clear hU
        have hzu := hs.below.size
        have HU := Lib.hid hs.below
        have H0 := Lib.hid (And.intro hs (And.intro h6 (And.intro h7 (show DefS ([D2, D1, D0] : List Nat) U3 from HDEF.out.grow hbu))))
        have HDL := Lib.hid (show ∀ D, D ∈ ([D2, D1, D0] : List Nat) → D < U3.heap.size from fun D h_ => Nat.lt_of_lt_of_le (Array.getElem?_eq_some_iff.1 (HDEF.out D h_)).1 hbu.size)
        have HDN := Lib.hid (show ∀ D, D ∈ ([D2, D1, D0] : List Nat) → D ≠ w.heap.size + 3 from HDNE.out)
        clear hs h6 h7 hbu
        refine wpIn_cap (fun T ds hT hds => ?_)
        refine rangeX h1 (gf := 54) (lb := #[.pointer (some ⟨W3.heap.size + 1 + 1 + 1, 0, none⟩), .pointer (some ⟨W3.heap.size + 1 + 1, 0, none⟩)]) (by rw [← hT]; rfl) (enters_of Try.func54 (by kernel_rfl) rfl)
          (open3_seq (n - 1) (W3.heap.size + 1 + 1 + 1) (W3.heap.size + 1 + 1) (by omega) HL.out (.func (.func 65) #[] #[.pointer (some ⟨w.heap.size + 5, 0, none⟩)]) (fun B => B = w.heap.size + 3) U3 HU.out (by omega) (by omega) hl hg)
          ?hA (fun h k => h.trans k) ?hKb (Below.refl _ _) (fun _ => rfl)
          (fun pre W => OfS w A l.length c fin (ofV 0 l fin) (ofV 1 l fin) (ofV 2 l fin) (accV 3 l fin 0 pre) W ∧ HasC W (W3.heap.size) (.cells #[.int .i64 3] 3) ∧ HasC W (W3.heap.size + 1) (.cells #[.func (.func 53) #[] #[], .func (.func 65) #[] #[.pointer (some ⟨w.heap.size + 5, 0, none⟩)]] 64) ∧ DefS ([D2, D1, D0] : List Nat) W)
          (fun _ _ _ => False) ?oI (fun _ _ _ _ _ hs _ _ => hs) ?iA (fun _ _ _ _ hs _ => hs) (fun _ _ _ => trivial) H0.out
          (fun pre x a' W => a' = { tmps := (((T.setIfInBounds 28 (.int .i64 x.1)).setIfInBounds 29 (.int .i64 x.2)).setIfInBounds 8 (.int .i64 x.1)).setIfInBounds 9 (.int .i64 x.2), defers := [] } ∧ OfS w A l.length c fin (ofV 0 l fin) (ofV 1 l fin) (ofV 2 l fin) (accV 3 l fin 0 pre) W ∧ HasC W (W3.heap.size) (.cells #[.int .i64 3] 3) ∧ HasC W (W3.heap.size + 1) (.cells #[.func (.func 53) #[] #[], .func (.func 65) #[] #[.pointer (some ⟨w.heap.size + 5, 0, none⟩)]] 64) ∧ DefS ([D2, D1, D0] : List Nat) W)
          ?oAx ?assign ?body ?done ?stop
        case hA =>
          intro W W' k o ho hk hko _
          exact (ho.block k (Array.getElem?_eq_some_iff.1 hko).1).trans hko
        case hKb =>
          intro W k ob ob' hk h hc
          exact KpO.putObj ob' (by omega) h hc
        case oI =>
          rintro s W W' row ⟨h1, h2, h3, h4⟩ hg hr
          exact ⟨OfS.own hzu s W W' row h1 hg hr, (HasC.own _ _ rfl).from _ s W W' row h2 hg hr, (HasC.own _ _ rfl).from _ s W W' row h3 hg hr, DefS.own HDL.out s W W' row h4 hg hr⟩
        case iA =>
          rintro pre W W' ⟨h1, h2, h3, h4⟩ hb
          exact ⟨h1.grow hb, (hb.block _ h2.lt).trans h2, (hb.block _ h3.lt).trans h3, h4.grow hb⟩
        case oAx =>
          rintro pre x a' s W W' row ⟨h0, h1, h2, h3, h4⟩ hg hr
          exact ⟨h0, OfS.own hzu s W W' row h1 hg hr, (HasC.own _ _ rfl).from _ s W W' row h2 hg hr, (HasC.own _ _ rfl).from _ s W W' row h3 hg hr, DefS.own HDL.out s W W' row h4 hg hr⟩
        case assign =>
          rintro ll pre x W K hi hg hK
          have HK := Lib.hid hK
          have HI := Lib.hid hi
          clear hK hi
          subst hT hds
          dsimp only [encO]
          gi_wp2
          refine HK.out _ _ (KeepsFrom.refl _ _) (KpO.refl _) ?_
          refine ⟨?_, HI.out⟩
          first | rfl | (simp only [List.setIfInBounds_toArray, List.set_cons_zero, List.set_cons_succ]; done) | (simp only [List.setIfInBounds_toArray, List.set_cons_zero, List.set_cons_succ]; rfl)
        case stop =>
          rintro D c pre W _ _ h _
          exact h.elim
        case body =>
          rintro ll pre x a' W hl2 ⟨rfl, hS, h6, h7, h8⟩ ⟨i, hi, hpre, hbk, hx1⟩
          subst hT hds
          obtain ⟨ati, who⟩ := x
          simp only at hx1 hbk
          subst hx1
          simp only [List.setIfInBounds_toArray, List.set_cons_zero, List.set_cons_succ]
          obtain ⟨b, o, hA, hb, g0, _⟩ := kEnt_at HL.out hi
          subst hA
          have hbn := HX.out l[ati] (List.getElem_mem hi)
          have hgd : (l.getD ati default).at_ = l[ati].at_ := by simp [hi]
          have htl := fun (A' : Option Addr) (hA' : ati + 1 < l.length → A' = some ⟨b, o + (ati + 1) * 13, none⟩) (W' : World) (hb' : Below w.heap.size w W') (h0 : Boxed W' (w.heap.size + 4) 5 (.int .u8 21)) (h3 : Boxed W' (w.heap.size + 5) 5 (.int .u8 22)) => till_K 3 (w.heap.size + 4) (w.heap.size + 5) (by omega) (n := l.length - (ati + 1)) (by simp) ((R_drop HL.out (k := ati + 1) (by omega) hA').keep hb') (fbV 3) h0 h3 l[ati].at_ who fin (fun x hx => by have := HX.out x (List.mem_of_mem_drop hx); omega) (by omega)
          simp only [fbV, feV] at htl
          have HTL2 := Lib.hid htl
          have HGD := Lib.hid hgd
          have hII : Lx.II w.heap.size w (((((((((Lx.St.nil.upd w.heap.size (.cells #[.int .i64 fin] 2 (0, 0))).upd (w.heap.size + 1) (.cells #[.slice (some ⟨b, o, none⟩) l.length c] 22 (0, 0))).upd (w.heap.size + 3) (.cells #[.int .i64 (ofV 0 l fin), .int .i64 (ofV 1 l fin), .int .i64 (ofV 2 l fin), .int .i64 (accV 3 l fin 0 pre)] 58 (0, 0))).upd (w.heap.size + 4) (.cells #[.int .u8 21] 5 (0, 0))).upd (w.heap.size + 5) (.cells #[.int .u8 22] 5 (0, 0))).upd (W3.heap.size) (.cells #[.int .i64 3] 3 (0, 0))).upd (W3.heap.size + 1) (.cells #[.func (.func 53) #[] #[], .func (.func 65) #[] #[.pointer (some ⟨w.heap.size + 5, 0, none⟩)]] 64 (0, 0)))).add (OnlyW (w.heap.size + 3) W)) W := II.only ((((((((Lx.II.nil hS.below).put (Nat.le_refl _) hS.e2).put (Nat.le_add_right _ _) hS.e3).put (Nat.le_add_right _ _) hS.e5).put (Nat.le_add_right _ _) hS.m0).put (Nat.le_add_right _ _) hS.m3).put (by omega) h6).put (by omega) h7) _
          have HIN2 := Lib.hid hII
          have HS2 := Lib.hid hS
          have H62 := Lib.hid h6
          have H72 := Lib.hid h7
          have H82 := Lib.hid h8
          clear htl hgd hII hS h6 h7 h8 hpre hbk hbn
          have e0 : (0 : Int) ≤ (ati : Int) := by omega
          have e1 : (ati : Int) < (l.length : Int) := by omega
          have we : IntKind.i64.wrap ((ati : Int) + 1) = (ati : Int) + 1 := IntWalk.i64_in _ (by omega)
          have e2 : (0 : Int) ≤ (ati : Int) + 1 := by omega
          have e3 : (ati : Int) + 1 ≤ (l.length : Int) := by omega
          gi_wp2
          refine regionRx ll _ (by kernel_rfl) (by kernel_rfl) (by rintro ⟨_, _, h⟩; exact h) (by kernel_rfl) HIN2.out.1 HIN2.out.2 (by simp only [List.size_toArray, List.length_cons, List.length_nil, Nat.reduceAdd]; rfl) (fun O Z hO hZ => ?_)
          have HO := Lib.hid hO
          clear hO
          apply Lx.kr HO 0; (case hx => exact ⟨rfl, rfl, rfl⟩); (case hk => decide +kernel); (case hv => intro w_ hw_; have P_ := hw_.holds (W3.heap.size) _ (by (repeat (first | exact Lx.ua _ _ _ | rw [Lx.un _ _ (by omega)] | rw [Lx.am]))); have y0 := Lx.cellAt P_ 0 rfl; clear P_; (go_simp <;> first | with_reducible rfl | exact ⟨rfl, rfl⟩)); simp only [Act.put, Lx.p1, Lx.p2, Lx.p3]
          apply Lx.kr HO 1; (case hx => exact ⟨rfl, rfl, rfl⟩); (case hk => decide +kernel); (case hv => intro w_ hw_; have P_ := hw_.holds (W3.heap.size) _ (by (repeat (first | exact Lx.ua _ _ _ | rw [Lx.un _ _ (by omega)] | rw [Lx.am]))); have y0 := Lx.cellAt P_ 0 rfl; clear P_; (go_simp <;> first | with_reducible rfl | exact ⟨rfl, rfl⟩)); simp only [Act.put, Lx.p1, Lx.p2, Lx.p3]
          apply Lx.kp HO 2; (case hx => exact ⟨rfl, rfl, rfl⟩); (case hk => decide +kernel); (case hv => intro w_ hw_; (go_simp <;> first | with_reducible rfl | exact ⟨rfl, rfl⟩)); simp only [Act.put, Lx.p1, Lx.p2, Lx.p3]
          apply Lx.kr HO 3; (case hx => exact ⟨rfl, rfl, rfl⟩); (case hk => decide +kernel); (case hv => intro w_ hw_; have P_ := hw_.holds (w.heap.size + 3) _ (by (repeat (first | exact Lx.ua _ _ _ | rw [Lx.un _ _ (by omega)] | rw [Lx.am]))); obtain ⟨y0, y1, y2, y3⟩ := Lx.cells4 P_; clear P_; (go_simp <;> first | with_reducible rfl | exact ⟨rfl, rfl⟩)); simp only [Act.put, Lx.p1, Lx.p2, Lx.p3]
          apply Lx.kr HO 4; (case hx => exact ⟨rfl, rfl, rfl⟩); (case hk => decide +kernel); (case hv => intro w_ hw_; have P_ := hw_.holds (W3.heap.size + 1) _ (by (repeat (first | exact Lx.ua _ _ _ | rw [Lx.un _ _ (by omega)] | rw [Lx.am]))); obtain ⟨y0, y1⟩ := Lx.cells2 P_; clear P_; (go_simp <;> first | with_reducible rfl | exact ⟨rfl, rfl⟩)); simp only [Act.put, Lx.p1, Lx.p2, Lx.p3]
          apply Lx.kr HO 5; (case hx => exact ⟨rfl, rfl, rfl⟩); (case hk => decide +kernel); (case hv => intro w_ hw_; have P_ := hw_.holds (w.heap.size + 1) _ (by (repeat (first | exact Lx.ua _ _ _ | rw [Lx.un _ _ (by omega)] | rw [Lx.am]))); have y0 := Lx.cellAt P_ 0 rfl; clear P_; (go_simp <;> first | with_reducible rfl | exact ⟨rfl, rfl⟩)); simp only [Act.put, Lx.p1, Lx.p2, Lx.p3]
          apply Lx.kp HO 6; (case hx => exact ⟨rfl, rfl, rfl⟩); (case hk => decide +kernel); (case hv => intro w_ hw_; (go_simp <;> first | with_reducible rfl | exact ⟨rfl, rfl⟩)); simp only [Act.put, Lx.p1, Lx.p2, Lx.p3]
          apply Lx.kp HO 7; (case hx => exact ⟨rfl, rfl, rfl⟩); (case hk => decide +kernel); (case hv => intro w_ hw_; (go_simp <;> first | with_reducible rfl | exact ⟨rfl, rfl⟩)); simp only [Act.put, Lx.p1, Lx.p2, Lx.p3]
          apply Lx.kp HO 8; (case hx => exact ⟨rfl, rfl, rfl⟩); (case hk => decide +kernel); (case hv => intro w_ hw_; (go_simp <;> first | with_reducible rfl | exact ⟨rfl, rfl⟩)); simp only [Act.put, Lx.p1, Lx.p2, Lx.p3]
          apply Lx.kr HO 9; (case hx => exact ⟨rfl, rfl, rfl⟩); (case hk => decide +kernel); (case hv => intro w_ hw_; have y0 := Below.at hw_.below g0 hb; have y1 := Nat.lt_of_lt_of_le hb hw_.below.size; (go_simp <;> first | with_reducible rfl | exact ⟨rfl, rfl⟩)); simp only [Act.put, Lx.p1, Lx.p2, Lx.p3]
          apply Lx.kp HO 10; (case hx => exact ⟨rfl, rfl, rfl⟩); (case hk => decide +kernel); (case hv => intro w_ hw_; (go_simp <;> first | with_reducible rfl | exact ⟨rfl, rfl⟩)); simp only [Act.put, Lx.p1, Lx.p2, Lx.p3]
          apply Lx.kr HO 11; (case hx => exact ⟨rfl, rfl, rfl⟩); (case hk => decide +kernel); (case hv => intro w_ hw_; have P_ := hw_.holds (w.heap.size + 1) _ (by (repeat (first | exact Lx.ua _ _ _ | rw [Lx.un _ _ (by omega)] | rw [Lx.am]))); have y0 := Lx.cellAt P_ 0 rfl; clear P_; (go_simp <;> first | with_reducible rfl | exact ⟨rfl, rfl⟩)); simp only [Act.put, Lx.p1, Lx.p2, Lx.p3]
          apply Lx.kp HO 12; (case hx => exact ⟨rfl, rfl, rfl⟩); (case hk => decide +kernel); (case hv => intro w_ hw_; (go_simp <;> first | with_reducible rfl | exact ⟨rfl, rfl⟩)); simp only [Act.put, Lx.p1, Lx.p2, Lx.p3]
          apply Lx.kp HO 13; (case hx => exact ⟨rfl, rfl, rfl⟩); (case hk => decide +kernel); (case hv => intro w_ hw_; (go_simp <;> first | with_reducible rfl | exact ⟨rfl, rfl⟩)); simp only [Act.put, Lx.p1, Lx.p2, Lx.p3]
          apply Lx.kp HO 14; (case hx => exact ⟨rfl, rfl, rfl⟩); (case hk => decide +kernel); (case hv => intro w_ hw_; (go_simp <;> first | with_reducible rfl | exact ⟨rfl, rfl⟩)); simp only [Act.put, Lx.p1, Lx.p2, Lx.p3]
          apply Lx.kr HO 15; (case hx => exact ⟨rfl, rfl, rfl⟩); (case hk => decide +kernel); (case hv => intro w_ hw_; have P_ := hw_.holds (w.heap.size) _ (by (repeat (first | exact Lx.ua _ _ _ | rw [Lx.un _ _ (by omega)] | rw [Lx.am]))); have y0 := Lx.cellAt P_ 0 rfl; clear P_; (go_simp <;> first | with_reducible rfl | exact ⟨rfl, rfl⟩)); simp only [Act.put, Lx.p1, Lx.p2, Lx.p3]
          apply Lx.kc HO 16; (case hx => exact ⟨rfl, rfl, rfl⟩); (case hk => decide +kernel); (case hrun => intro w_; (go_simp <;> first | with_reducible rfl | exact ⟨rfl, rfl⟩)); (case hc => intro w_ hw_; exact HTL2.out _ (fun h_ => if_neg (by omega)) _ hw_.below (by (have P_ := hw_.holds (w.heap.size + 4) _ (by (repeat (first | exact Lx.ua _ _ _ | rw [Lx.un _ _ (by omega)] | rw [Lx.am]))); exact P_)) (by (have P_ := hw_.holds (w.heap.size + 5) _ (by (repeat (first | exact Lx.ua _ _ _ | rw [Lx.un _ _ (by omega)] | rw [Lx.am]))); exact P_))); simp only [Act.put, Lx.p1, Lx.p2, Lx.p3]
          apply Lx.kr HO 17; (case hx => exact ⟨rfl, rfl, rfl⟩); (case hk => decide +kernel); (case hv => intro w_ hw_; skip; (go_simp <;> first | with_reducible rfl | exact ⟨rfl, rfl⟩)); simp only [Act.put, Lx.p1, Lx.p2, Lx.p3]
          apply Lx.kp HO 18; (case hx => exact ⟨rfl, rfl, rfl⟩); (case hk => decide +kernel); (case hv => intro w_ hw_; (go_simp <;> first | with_reducible rfl | exact ⟨rfl, rfl⟩)); simp only [Act.put, Lx.p1, Lx.p2, Lx.p3]
          (apply Lx.ks HO 19 (g := w.heap.size + 3)); (case hx => exact ⟨rfl, rfl, rfl⟩); (case hk => decide +kernel); (case hG => exact fun _ _ h_ ha_ => ⟨⟨trivial, h_.1.2.at_ ha_⟩, trivial⟩); (case hg => (repeat (first | exact Lx.ua _ _ _ | rw [Lx.un _ _ (by omega)] | rw [Lx.am]))); (case hrun => (intro w_ hw_ hb_; (obtain ⟨d0, d1, d2, d3⟩ := Lx.cells4 hb_); (obtain ⟨f0, f1, f2, f3⟩ := Lx.froz4 hb_); (have l_ := (Array.getElem?_eq_some_iff.1 hb_).1); refine ⟨?_, ?_, ?_, ?_⟩; rotate_left; (next => (go_simp <;> first | with_reducible rfl | rfl)); (next => (repeat (first | (with_reducible exact Lx.OnlyAt.refl _ _) | (with_reducible refine Lx.OnlyAt.set ?_ _ _)))); (next => exact setA3 hb_))); simp only [Act.put, Lx.p1, Lx.p2, Lx.p3]
          refine Lx.kd HO (by kernel_rfl) (fun hiv2 => hZ _ _ (fun Z2 hw2 => ?_))
          have ho := hw2.more.1.2
          have h5 := hw2.holds (w.heap.size + 3) _ (by (repeat (first | exact Lx.ua _ _ _ | rw [Lx.un _ _ (by omega)] | rw [Lx.am])))
          have hnew : (if accV 3 l fin 0 pre < tillV 3 (l.drop (ati + 1)) l[ati].at_ who fin then tillV 3 (l.drop (ati + 1)) l[ati].at_ who fin else accV 3 l fin 0 pre) = accV 3 l fin 0 (pre ++ [(ati, who)]) := by
            rw [accV_snoc]
            simp only [HGD.out]
            generalize accV 3 l fin 0 pre = m1
            generalize tillV 3 (l.drop (ati + 1)) l[ati].at_ who fin = m2
            rw [Int.max_def]
            split <;> split <;> omega
          rw [hnew] at h5
          exact ⟨ho.keeps (by omega), ho.kp (Nat.le_add_right _ _) HS2.out.below.size, HS2.out.put ho h5, ho.has H62.out (by omega), ho.has H72.out (by omega), H82.out.only ho HDN.out⟩
        case done =>
          rintro D3 xs W4 hD rfl ⟨hs, _, _, hdf⟩ hDef
          subst hT hds
          have HDEF := Lib.hid (show DefS ([D3, D2, D1, D0] : List Nat) W4 from fun D h_ => by
            rcases List.mem_cons.1 h_ with rfl | h_
            · exact hDef
            · exact hdf D h_)
          have HDNE := Lib.hid (show ∀ D, D ∈ ([D3, D2, D1, D0] : List Nat) → D ≠ w.heap.size + 3 from fun D h_ => by
            rcases List.mem_cons.1 h_ with rfl | h_
            · omega
            · exact HDN.out D h_)
          have HLT3 := Lib.hid (show D2 < D3 from Nat.lt_of_lt_of_le (HDL.out D2 (by simp)) hD)
          have HS := Lib.hid (show OfS w A l.length c fin (ofV 0 l fin) (ofV 1 l fin) (ofV 2 l fin) (ofV 3 l fin) W4 from hs)
          clear hs hdf hDef hD HDN HDL H0 HU hg hl hz6 hzg hsu hzu
          gi_wp2
          rw [roundsIn_succ]
          have a0 := Lx.cellAt HS.out.e5 0 rfl
          have a1 := Lx.cellAt HS.out.e5 1 rfl
          have a2 := Lx.cellAt HS.out.e5 2 rfl
          have a3 := Lx.cellAt HS.out.e5 3 rfl
          have la := HS.out.e5.lt
          have q0 := Lx.cellAt HS.out.e4 0 rfl
          have q1 := Lx.cellAt HS.out.e4 1 rfl
          have q2 := Lx.cellAt HS.out.e4 2 rfl
          have q3 := Lx.cellAt HS.out.e4 3 rfl
          have r0 := Lx.frozAt HS.out.e4 0
          have r1 := Lx.frozAt HS.out.e4 1
          have r2 := Lx.frozAt HS.out.e4 2
          have r3 := Lx.frozAt HS.out.e4 3
          have lq := HS.out.e4.lt
          gi_wp2
          have hE := Lx.sets4 (B := w.heap.size + 1 + 1) (v0 := .int .i64 (ofV 0 l fin)) (v1 := .int .i64 (ofV 1 l fin)) (v2 := .int .i64 (ofV 2 l fin)) (v3 := .int .i64 (ofV 3 l fin)) HS.out.e4
          have hbF : Below w.heap.size w ((((W4.setCell ⟨w.heap.size + 1 + 1, 0, none⟩ (.int .i64 (ofV 0 l fin))).setCell ⟨w.heap.size + 1 + 1, 1, none⟩ (.int .i64 (ofV 1 l fin))).setCell ⟨w.heap.size + 1 + 1, 2, none⟩ (.int .i64 (ofV 2 l fin))).setCell ⟨w.heap.size + 1 + 1, 3, none⟩ (.int .i64 (ofV 3 l fin))) := (((HS.out.below.setCell (p := ⟨w.heap.size + 1 + 1, 0, none⟩) (by simp; omega) _).setCell (p := ⟨w.heap.size + 1 + 1, 1, none⟩) (by simp; omega) _).setCell (p := ⟨w.heap.size + 1 + 1, 2, none⟩) (by simp; omega) _).setCell (p := ⟨w.heap.size + 1 + 1, 3, none⟩) (by simp; omega) _
          have h01 := HLT1.out
          have h12 := HLT2.out
          have h23 := HLT3.out
          have h00 := HLT0.out
          have hD : ∀ D, D ∈ ([D3, D2, D1, D0] : List Nat) → ((((W4.setCell ⟨w.heap.size + 1 + 1, 0, none⟩ (.int .i64 (ofV 0 l fin))).setCell ⟨w.heap.size + 1 + 1, 1, none⟩ (.int .i64 (ofV 1 l fin))).setCell ⟨w.heap.size + 1 + 1, 2, none⟩ (.int .i64 (ofV 2 l fin))).setCell ⟨w.heap.size + 1 + 1, 3, none⟩ (.int .i64 (ofV 3 l fin))).heap[D]? = some (.deferred (some [])) := fun D h_ => by
            have h7 : w.heap.size + 7 ≤ D := by
              simp only [List.mem_cons, List.not_mem_nil, or_false] at h_
              omega
            have hne : D ≠ w.heap.size + 1 + 1 := by omega
            exact (Below.heap_setCell _ _ _ _ hne).trans ((Below.heap_setCell _ _ _ _ hne).trans ((Below.heap_setCell _ _ _ _ hne).trans ((Below.heap_setCell _ _ _ _ hne).trans (HDEF.out D h_))))
          generalize ((((W4.setCell ⟨w.heap.size + 1 + 1, 0, none⟩ (.int .i64 (ofV 0 l fin))).setCell ⟨w.heap.size + 1 + 1, 1, none⟩ (.int .i64 (ofV 1 l fin))).setCell ⟨w.heap.size + 1 + 1, 2, none⟩ (.int .i64 (ofV 2 l fin))).setCell ⟨w.heap.size + 1 + 1, 3, none⟩ (.int .i64 (ofV 3 l fin))) = WF at *
          have d3 := hD D3 (by simp)
          have d2 : (WF.putObj D3 (.deferred none)).heap[D2]? = _ := (World.putObj_heap_other (by omega)).trans (hD D2 (by simp))
          have d1 : ((WF.putObj D3 (.deferred none)).putObj D2 (.deferred none)).heap[D1]? = _ := (World.putObj_heap_other (by omega)).trans ((World.putObj_heap_other (by omega)).trans (hD D1 (by simp)))
          have d0 : (((WF.putObj D3 (.deferred none)).putObj D2 (.deferred none)).putObj D1 (.deferred none)).heap[D0]? = _ := (World.putObj_heap_other (by omega)).trans ((World.putObj_heap_other (by omega)).trans ((World.putObj_heap_other (by omega)).trans (hD D0 (by simp))))
          have hF : ((((WF.putObj D3 (.deferred none)).putObj D2 (.deferred none)).putObj D1 (.deferred none)).putObj D0 (.deferred none)).heap[w.heap.size + 1 + 1]? = _ := (World.putObj_heap_other (by omega)).trans ((World.putObj_heap_other (by omega)).trans ((World.putObj_heap_other (by omega)).trans ((World.putObj_heap_other (by omega)).trans hE)))
          obtain ⟨z0, z1, z2, z3⟩ := Lx.cells4 hF
          have pb : ∀ (X : World) (D : Nat), w.heap.size ≤ D → Below w.heap.size w X → Below w.heap.size w (X.putObj D (.deferred none)) := fun X D h_ hb => hb.trans ⟨rfl, rfl, rfl, by simp, fun i hi => World.putObj_heap_other (by omega)⟩
          refine ⟨by simp, .inl ⟨_, _, rfl, run_takeDeferred d3, ⟨by simp, .inl ⟨_, _, rfl, run_takeDeferred d2, ⟨by simp, .inl ⟨_, _, rfl, run_takeDeferred d1, ⟨by simp, .inl ⟨_, _, rfl, run_takeDeferred d0, ?_⟩⟩⟩⟩⟩⟩⟩⟩
          refine ⟨.agg #[.int .i64 (ofV 0 l fin), .int .i64 (ofV 1 l fin), .int .i64 (ofV 2 l fin), .int .i64 (ofV 3 l fin)], ?_, rfl, pb _ _ (by omega) (pb _ _ (by omega) (pb _ _ (by omega) (pb _ _ (by omega) hbF)))⟩
          simp [results, Try.f7, go_sem, z0, z1, z2, z3]
theorem of_any {w : World} {A : Option Addr} {c : Nat} {l : List EntV} (h : kEnt.R w (.slice A l.length c) l) (fin : Int) (hx : ∀ x ∈ l, 0 ≤ x.at_ ∧ x.at_ ≤ 1152921504606846976) (hf : 0 ≤ fin ∧ fin ≤ 2305843009213693952) :
    Calls Try.prog 7 #[.int .i64 fin, .slice A l.length c] w fun e w' => e = .returned (.agg #[.int .i64 (ofV 0 l fin), .int .i64 (ofV 1 l fin), .int .i64 (ofV 2 l fin), .int .i64 (ofV 3 l fin)]) ∧ Below w.heap.size w w' :=
  callsIn_wide.1 (of_in 4 (by omega) h fin hx hf)
end Go.Proofs.Ytljfloopjgpaeab
