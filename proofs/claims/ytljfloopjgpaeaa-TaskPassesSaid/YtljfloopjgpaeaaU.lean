/- frame.Run. -/
import Derived.Test.YtljfloopjgpaeaaT
import Derived.BigRegionIn
namespace Go.Proofs.Ytljfloopjgpaeaa
set_option linter.unusedVariables false
set_option linter.unusedSimpArgs false
open Go.RowKit Go.Shelf
attribute [local go_sem] Oper.semAt_some
set_option maxRecDepth 100000

/-- What frame.Run tells, of at most so many more steps, behind k. -/
def runK (P : ProgV) (f : FrameV) : Nat → Nat → FrameV × Int × Int
  | fuel, k => if errN P f k = 8 then (nthF P f k, k, 0) else if errN P f k ≠ 0 then (FrameV.zero, 0, errN P f k) else match fuel with
    | 0 => (FrameV.zero, 0, 5)
    | fuel + 1 => runK P f fuel (k + 1)
def runF (P : ProgV) (f : FrameV) (most : Int) : FrameV × Int × Int :=
  if atB P f.code f.pc && (decide (0 ≤ most) && decide (most ≤ 65536)) then runK P f most.toNat 0 else (FrameV.zero, 0, 2)
theorem runK_to {P : ProgV} {f : FrameV} : ∀ {k : Nat} {most : Nat}, okTo P f k → k ≤ most → runK P f most 0 = runK P f (most - k) k
  | 0, _, _, _ => rfl
  | k + 1, most, h, hk => by
    rw [runK_to (k := k) (fun i hi => h i (by omega)) (by omega)]
    obtain ⟨m, hm⟩ : ∃ m, most - k = m + 1 := ⟨most - k - 1, by omega⟩
    have he := h k (by omega)
    rw [hm, runK, if_neg (by rw [he]; decide), if_neg (by rw [he]; decide)]
    congr 1
    omega
theorem runK_ends {P : ProgV} {f : FrameV} {k most : Nat} (h : okTo P f k) (hk : k ≤ most) (he : errN P f k = 8) : runK P f most 0 = (nthF P f k, (k : Int), 0) := by
  rw [runK_to h hk]
  unfold runK
  rw [if_pos he]
theorem runK_err {P : ProgV} {f : FrameV} {k most : Nat} (h : okTo P f k) (hk : k ≤ most) (he : errN P f k ≠ 8) (he2 : errN P f k ≠ 0) : runK P f most 0 = (FrameV.zero, 0, errN P f k) := by
  rw [runK_to h hk]
  unfold runK
  rw [if_neg he, if_pos he2]
theorem runK_long {P : ProgV} {f : FrameV} {most : Nat} (h : okTo P f most) (he : errN P f most = 0) : runK P f most 0 = (FrameV.zero, 0, 5) := by
  rw [runK_to h (Nat.le_refl _), Nat.sub_self]
  unfold runK
  rw [if_neg (by rw [he]; decide), if_neg (by rw [he]; decide)]

/-- The block of one whole number. -/
def OneI (W : World) (B : Nat) (t : Nat) (x : Int) : Prop := W.heap[B]? = some (.cells #[.int .i64 x] t (0, 0))

theorem OneI.lt {W : World} {B t : Nat} {x : Int} (h : OneI W B t x) : B < W.heap.size := (Array.getElem?_eq_some_iff.1 h).1
theorem OneI.keep {W W' : World} {B t n : Nat} {x : Int} (h : OneI W B t x) (hb : Below n W W') (hB : B < n) : OneI W' B t x := (hb.block B hB).trans h
theorem OneI.only {W W' : World} {B t n : Nat} {x : Int} (h : OneI W B t x) (hb : Only n W W') (hB : B ≠ n) : OneI W' B t x := (hb.block B h.lt hB).trans h
theorem OneI.cell {W : World} {B t : Nat} {x : Int} (h : OneI W B t x) : W.cell? ⟨B, 0, none⟩ = some (.int .i64 x) := by simp [World.cell?, show W.heap[B]? = _ from h]
theorem OneI.free {W : World} {B t : Nat} {x : Int} (h : OneI W B t x) : W.frozen? ⟨B, 0, none⟩ = false := by simp [World.frozen?, show W.heap[B]? = _ from h]
/-- The results' cells of Run, ahead of and between the rounds (g, k, e: what they hold). -/
structure RunS (m : Nat) (most : Int) (W0 : World) (g : FrameV) (k e : Int) (W : World) : Prop where
  b5 : OneI W (m + 1 + 1) 3 most
  b6 : FrB W (m + 1 + 1 + 1) g
  b7 : OneI W (m + 1 + 1 + 1 + 1) 3 k
  b8 : OneI W (m + 1 + 1 + 1 + 1 + 1) 28 e
  below : Below m W0 W
theorem RunS.keep {m B : Nat} {most : Int} {W0 W W' : World} {g : FrameV} {k e : Int} (h : RunS m most W0 g k e W) (hb : Below B W W') (hB : m + 6 ≤ B) : RunS m most W0 g k e W' :=
  ⟨h.b5.keep hb (by omega), h.b6.keep hb (by omega), h.b7.keep hb (by omega), h.b8.keep hb (by omega), h.below.trans (hb.mono (by omega))⟩
theorem RunS.only {m B : Nat} {most : Int} {W0 W W' : World} {g : FrameV} {k e : Int} (h : RunS m most W0 g k e W) (hb : Only B W W') (hB : m + 6 ≤ B) (hm : m ≤ W.heap.size) : RunS m most W0 g k e W' :=
  ⟨h.b5.only hb (by omega), h.b6.only hb (by omega), h.b7.only hb (by omega), h.b8.only hb (by omega), h.below.trans (hb.below (by omega) hm)⟩
theorem OneI.own {β : Type} (B t : Nat) (x : Int) : Own (fun (_ : β) W => OneI W B t x) := fun _ W W' row hs hg hr => by
  refine (hg.block B (Array.getElem?_eq_some_iff.1 hs).1 ?_).trans hs
  intro e
  obtain ⟨o, ho, hc⟩ := hr B e.symm
  rw [show W.heap[B]? = _ from hs] at ho
  cases ho
  cases hc
theorem FrB.own {β : Type} (B : Nat) (g : FrameV) : Own (fun (_ : β) W => FrB W B g) := fun _ W W' row hs hg hr => by
  refine (hg.block B (Array.getElem?_eq_some_iff.1 hs).1 ?_).trans hs
  intro e
  obtain ⟨o, ho, hc⟩ := hr B e.symm
  rw [show W.heap[B]? = _ from hs] at ho
  cases ho
  cases hc
theorem RunS.own {β : Type} {m B : Nat} {most : Int} {W0 : World} (hm : m ≤ W0.heap.size) (hB : m ≤ B) {g : FrameV} {k e : Int} : OwnFrom B (fun (_ : β) W => RunS m most W0 g k e W) := fun s W W' row hs hg hr =>
  ⟨(OneI.own _ _ _).from B s W W' row hs.b5 hg hr, (FrB.own _ _).from B s W W' row hs.b6 hg hr, (OneI.own _ _ _).from B s W W' row hs.b7 hg hr, (OneI.own _ _ _).from B s W W' row hs.b8 hg hr, ownFrom_below hm hB s W W' row hs.below hg hr⟩

theorem OneI.set {W : World} {B t : Nat} {x : Int} (h : OneI W B t x) (y : Int) : OneI (W.setCell ⟨B, 0, none⟩ (.int .i64 y)) B t y := by
  unfold OneI at *
  simp [World.setCell, Array.getElem?_modify, h]
theorem KpO.of_only {base B : Nat} {Own : Nat → Prop} {W W' : World} (h : Only B W W') (hB : base ≤ B) (hb : base ≤ W.heap.size) (ho : Own B) : KpO base Own W W' :=
  ⟨h.below hB hb, fun k o hk _ hn => (h.block k (Array.getElem?_eq_some_iff.1 hk).1 (fun e => hn (e ▸ ho))).trans hk⟩
theorem KeepsFrom.of_only {D B : Nat} {W W' : World} (h : Only B W W') (hD : B < D) : KeepsFrom D W W' :=
  ⟨h.size, fun k o hk ho _ => (h.block k (Array.getElem?_eq_some_iff.1 ho).1 (by omega)).trans ho⟩
theorem RunS.set6 {m : Nat} {most : Int} {W0 W W' : World} {g : FrameV} {k e : Int} (h : RunS m most W0 g k e W) (ho : Only (m + 1 + 1 + 1) W W') {g' : FrameV} (hg : FrB W' (m + 1 + 1 + 1) g') (hm : m ≤ W0.heap.size) : RunS m most W0 g' k e W' :=
  ⟨h.b5.only ho (by omega), hg, h.b7.only ho (by omega), h.b8.only ho (by omega), h.below.trans (ho.below (by omega) (Nat.le_trans hm h.below.size))⟩
theorem RunS.set7 {m : Nat} {most : Int} {W0 W W' : World} {g : FrameV} {k e : Int} (h : RunS m most W0 g k e W) (ho : Only (m + 1 + 1 + 1 + 1) W W') {k' : Int} (hg : OneI W' (m + 1 + 1 + 1 + 1) 3 k') (hm : m ≤ W0.heap.size) : RunS m most W0 g k' e W' :=
  ⟨h.b5.only ho (by omega), h.b6.only ho (by omega), hg, h.b8.only ho (by omega), h.below.trans (ho.below (by omega) (Nat.le_trans hm h.below.size))⟩
theorem RunS.set8 {m : Nat} {most : Int} {W0 W W' : World} {g : FrameV} {k e : Int} (h : RunS m most W0 g k e W) (ho : Only (m + 1 + 1 + 1 + 1 + 1) W W') {e' : Int} (hg : OneI W' (m + 1 + 1 + 1 + 1 + 1) 28 e') (hm : m ≤ W0.heap.size) : RunS m most W0 g k e' W' :=
  ⟨h.b5.only ho (by omega), h.b6.only ho (by omega), h.b7.only ho (by omega), hg, h.below.trans (ho.below (by omega) (Nat.le_trans hm h.below.size))⟩
/-- What three stores come to. -/
structure Moved (m : Nat) (D : Nat) (W W' : World) : Prop where
  keep : KeepsFrom D W W'
  kp : KpO m (fun k => m + 1 < k ∧ k < m + 6) W W'
theorem Moved.refl (m D : Nat) (W : World) : Moved m D W W := ⟨KeepsFrom.refl _ _, KpO.refl _⟩
theorem Moved.only {m D B : Nat} {W W' W2 : World} (h : Moved m D W W') (ho : Only B W' W2) (hm : m + 1 < B ∧ B < m + 6) (hD : B < D) (hW : m ≤ W.heap.size) : Moved m D W W2 :=
  ⟨h.keep.trans (KeepsFrom.of_only ho hD), h.kp.trans (KpO.of_only ho (by omega) (Nat.le_trans hW h.keep.size) hm)⟩

theorem alloc_at {w : World} {o : Obj} {i : Nat} (h : i = w.heap.size) : (w.alloc o).heap[i]? = some o := by rw [h]; exact World.alloc_heap_new w o
/-- The three stores of results. -/
def st6 (m : Nat) (W : World) (g : FrameV) : World := ((((((((((W.setCell ⟨m + 1 + 1 + 1, 0, none⟩ (.int .i64 g.code)).setCell ⟨m + 1 + 1 + 1, 1, none⟩ (.int .i64 g.pc)).setCell ⟨m + 1 + 1 + 1, 2, none⟩ (.int .i64 (rg g.r 0))).setCell ⟨m + 1 + 1 + 1, 3, none⟩ (.int .i64 (rg g.r 1))).setCell ⟨m + 1 + 1 + 1, 4, none⟩ (.int .i64 (rg g.r 2))).setCell ⟨m + 1 + 1 + 1, 5, none⟩ (.int .i64 (rg g.r 3))).setCell ⟨m + 1 + 1 + 1, 6, none⟩ (.int .i64 (rg g.r 4))).setCell ⟨m + 1 + 1 + 1, 7, none⟩ (.int .i64 (rg g.r 5))).setCell ⟨m + 1 + 1 + 1, 8, none⟩ (.int .i64 (rg g.r 6))).setCell ⟨m + 1 + 1 + 1, 9, none⟩ (.int .i64 (rg g.r 7)))
def st7 (m : Nat) (W : World) (g : FrameV) (k : Int) : World := (st6 m W g).setCell ⟨m + 1 + 1 + 1 + 1, 0, none⟩ (.int .i64 k)
def st8 (m : Nat) (W : World) (g : FrameV) (k e : Int) : World := (st7 m W g k).setCell ⟨m + 1 + 1 + 1 + 1 + 1, 0, none⟩ (.int .i64 e)
theorem st6_only (m : Nat) (W : World) (g : FrameV) : Only (m + 1 + 1 + 1) W (st6 m W g) := Only.setAll _ _ _
theorem st7_only (m : Nat) (W : World) (g : FrameV) (k : Int) : Only (m + 1 + 1 + 1 + 1) (st6 m W g) (st7 m W g k) := (Only.refl _ _).set 0 _
theorem st8_only (m : Nat) (W : World) (g : FrameV) (k e : Int) : Only (m + 1 + 1 + 1 + 1 + 1) (st7 m W g k) (st8 m W g k e) := (Only.refl _ _).set 0 _
theorem RunS.stored {m : Nat} {most : Int} {W0 W : World} {g : FrameV} {k e : Int} (h : RunS m most W0 g k e W) (hm : m ≤ W0.heap.size) (g' : FrameV) (k' e' : Int) : RunS m most W0 g' k' e' (st8 m W g' k' e') :=
  have s6 := h.set6 (st6_only m W g') (h.b6.setAll g') hm
  have s7 := s6.set7 (st7_only m W g' k') (s6.b7.set k') hm
  s7.set8 (st8_only m W g' k' e') (s7.b8.set e') hm
theorem Moved.stored {m D : Nat} {W : World} (hD : m + 6 ≤ D) (hW : m ≤ W.heap.size) (g : FrameV) (k e : Int) : Moved m D W (st8 m W g k e) :=
  (((Moved.refl m D W).only (st6_only m W g) (by omega) (by omega) hW).only (st7_only m W g k) (by omega) (by omega) hW).only (st8_only m W g k e) (by omega) (by omega) hW
theorem RunS.drew {m : Nat} {most : Int} {W0 W : World} {g : FrameV} {k e : Int} (h : RunS m most W0 g k e W) : RunS m most W0 g k e W.drew := ⟨h.b5, h.b6, h.b7, h.b8, h.below.drew⟩
theorem keepsFrom_drew {D : Nat} {W W' : World} (h : KeepsFrom D W W') : KeepsFrom D W W'.drew := ⟨h.size, h.same⟩

set_option maxHeartbeats 4000000 in
theorem run_in (n : Nat) (hn : 4 ≤ n) {c1 c2 c3 : Value} {P : ProgV} {w : World} (h : RProg w c1 c2 c3 P) (f : FrameV) (hf : f.wf) (most : Nat) (hm : most ≤ 65536) (hat : atB P f.code f.pc = true) :
    CallsIn Fence.wide n Try.prog 36 #[.agg #[c1, c2, c3], f.agg, .int .i64 most] w fun e w' => e = .returned (.tuple #[(runK P f most 0).1.agg, .int .i64 (runK P f most 0).2.1, .int .i64 (runK P f most 0).2.2]) ∧ Below w.heap.size w w' := by
  have h1 : 1 ≤ n := by omega
  obtain ⟨A1, n1, rfl, _, _, hl1⟩ := h.caps.val
  obtain ⟨A2, n2, rfl, _, _, hl2⟩ := h.codes.val
  obtain ⟨A3, n3, rfl, _, _, hl3⟩ := h.sites.val
  have HP := Lib.hid h
  have HF := Lib.hid hf
  clear h hf
  have hck := fun (W : World) (hW : RProg W (.slice A1 P.caps.length n1) (.slice A2 P.codes.length n2) (.slice A3 P.sites.length n3) P) => callsIn_wide (n := n - 1) |>.2 (fcheck_any hW f.code f.pc (rg f.r 0) (rg f.r 1) (rg f.r 2) (rg f.r 3) (rg f.r 4) (rg f.r 5) (rg f.r 6) (rg f.r 7))
  rw [hat] at hck
  have HCK := Lib.hid hck
  have hfr := fun (W : World) => callsIn_wide (n := n - 1) |>.2 (frames_any (.slice A1 P.caps.length n1) (.slice A2 P.codes.length n2) (.slice A3 P.sites.length n3) f W)
  simp only [FrameV.agg, FrameV.cells] at hfr
  have HFR := Lib.hid hfr
  clear hck hfr
  have hee : errOf true = 0 := rfl
  have hd1 : decide ((most : Int) < 0) = false := by simp
  have hd2 : decide ((most : Int) > 65536) = false := by simp; omega
  simp only [FrameV.agg, FrameV.cells]
  refine callsIn_of_wp_marks Try.func36 rfl trivial ?_ rfl
  simp only [Try.ntmps36, List.size_toArray, List.length_cons, List.length_nil, Nat.reduceAdd, Nat.reduceSub, Array.replicate_succ, Array.replicate_zero, List.push_toArray, List.append_toArray, List.nil_append, List.cons_append]
  gi_wp2
  refine wpIn_scopeX ?_
  gi_wp2_with (first | ((first | refine ⟨trivial, fun _ => by omega, ?_⟩ | refine ⟨trivial, ?_⟩); (with_reducible refine (HCK.out _ (HP.out.keep (by (repeat (first | with_reducible exact Below.refl _ _ | (with_reducible refine Below.setCell ?_ (by first | (simp; done) | (simp; omega) | omega) _) | (with_reducible refine Below.alloc ?_ (by first | (simp; done) | (simp; omega) | omega) _) | (with_reducible refine Below.drew ?_)))))).mono ?_); rintro e w2 ⟨rfl, hb2⟩; obtain ⟨hbc, hbf'⟩ := bcell hb2) | ((first | refine ⟨trivial, fun _ => by omega, ?_⟩ | refine ⟨trivial, ?_⟩); (with_reducible refine (HFR.out _).mono ?_); rintro e w' ⟨rfl, rfl⟩))
  refine wpIn_label ?_
  gi_wp2_with ((first | refine ⟨trivial, fun _ => by omega, ?_⟩ | refine ⟨trivial, ?_⟩); (with_reducible refine (HFR.out _).mono ?_); rintro e w' ⟨rfl, rfl⟩)
  obtain ⟨w3, hw3⟩ : ∃ w3, w3 = (w2.alloc (.cells #[.slice A1 P.caps.length n1, .slice A2 P.codes.length n2, .slice A3 P.sites.length n3] 44)).alloc (.cells f.cells 47) := ⟨_, rfl⟩
  have hP3 : w3.heap[w2.heap.size]? = some (.cells #[.slice A1 P.caps.length n1, .slice A2 P.codes.length n2, .slice A3 P.sites.length n3] 44 (0, 0)) := by rw [hw3]; exact (Below.heap_alloc _ _ _ (by simp)).trans (World.alloc_heap_new w2 _)
  have hF3 : FrB w3 (w2.heap.size + 1) f := by rw [hw3]; have := World.alloc_heap_new (w2.alloc (.cells #[.slice A1 P.caps.length n1, .slice A2 P.codes.length n2, .slice A3 P.sites.length n3] 44)) (.cells f.cells 47); rwa [World.size_alloc] at this
  have hs3 : w3.heap.size = w2.heap.size + 2 := by rw [hw3]; simp
  have hs2 := hb2.size
  simp only [World.size_alloc] at hs2
  have hm6 : w.heap.size + 6 ≤ w2.heap.size := hs2
  have hb3 : Below w.heap.size w w3 := by rw [hw3]; (have hszq := hb2.size; (try simp only [World.size_alloc] at hszq); (repeat (first | (with_reducible refine Below.setCell ?_ (by first | (simp; done) | (simp; omega) | omega) _) | (with_reducible refine Below.alloc ?_ (by first | (simp; done) | (simp; omega) | omega) _) | (with_reducible refine Below.drew ?_))); refine Below.trans ?_ (hb2.mono (by first | (simp; done) | (simp; omega) | omega)); (repeat (first | with_reducible exact Below.refl _ _ | (with_reducible refine Below.setCell ?_ (by first | (simp; done) | (simp; omega) | omega) _) | (with_reducible refine Below.alloc ?_ (by first | (simp; done) | (simp; omega) | omega) _) | (with_reducible refine Below.drew ?_))))
  have hS3 : RunS w.heap.size most w3 FrameV.zero 0 0 w3 := by
    have h23 : Below w2.heap.size w2 w3 := by rw [hw3]; (repeat (first | with_reducible exact Below.refl _ _ | (with_reducible refine Below.setCell ?_ (by first | (simp; done) | (simp; omega) | omega) _) | (with_reducible refine Below.alloc ?_ (by first | (simp; done) | (simp; omega) | omega) _) | (with_reducible refine Below.drew ?_)))
    have hh : ∀ i, i < w.heap.size + 6 → w3.heap[i]? = _ := fun i hi => (h23.block i (by omega)).trans (hb2.block i (by simp; omega))
    refine ⟨(hh _ (by omega)).trans ?_, (hh _ (by omega)).trans ?_, (hh _ (by omega)).trans ?_, (hh _ (by omega)).trans ?_, Below.refl _ _⟩
    all_goals (repeat (refine (Below.heap_alloc _ _ _ (by simp only [World.size_alloc]; omega)).trans ?_))
    all_goals exact alloc_at (by simp only [World.size_alloc])
  have hRP : ∀ W, Below w.heap.size w3 W → RProg W (.slice A1 P.caps.length n1) (.slice A2 P.codes.length n2) (.slice A3 P.sites.length n3) P := fun W h => HP.out.keep (hb3.trans h)
  have HS3 := Lib.hid hS3
  have HB3 := Lib.hid hb3
  have hw3' := hw3
  simp only [FrameV.cells] at hw3'
  rw [← hw3']
  clear hS3 hw3' hbc hbf'
  refine rangeX h1 (gf := 114) (lb := #[.pointer (some ⟨w2.heap.size, 0, none⟩), .pointer (some ⟨w2.heap.size + 1, 0, none⟩)]) rfl (enters_of Try.func114 (by kernel_rfl) rfl)
    (frames1_seq (n - 1) (most + 1) w.heap.size w2.heap.size (w2.heap.size + 1) (fun k => w.heap.size + 1 < k ∧ k < w.heap.size + 6) (by omega) HF.out w3 hb3.size (by omega) (by omega) (by omega) (by omega) (by intro k hk; omega) hRP hP3 hF3)
    (fun W W' k o ho hk hko _ => (ho.block k (Array.getElem?_eq_some_iff.1 hko).1 (by omega)).trans hko)
    (fun h k => h.trans k) (fun W k o o' hk h hc => KpO.putObj o' (by omega) h hc) (Below.refl _ _) (fun _ => rfl)
    (fun pre W => ∃ k g e, (pre = preF P f k ∧ okTo P f k ∧ k ≤ most) ∧ RunS w.heap.size most w3 g k e W)
    (fun c pre W => (c = .ret ∧ RunS w.heap.size most w3 (runK P f most 0).1 (runK P f most 0).2.1 (runK P f most 0).2.2 W) ∨ (c = .exit 0 ∧ (okTo P f most ∧ errN P f most = 0) ∧ ∃ g k e, RunS w.heap.size most w3 g k e W))
    ?oI ?oIx ?iA ?ixA ?bd ?h0
    (fun pre x a' W => ∃ k F e, (pre = preF P f k ∧ x = (F, e) ∧ F = nthF P f k ∧ e = errN P f k ∧ okTo P f k ∧ k ≤ most) ∧ a' = { tmps := #[.agg #[.slice A1 P.caps.length n1, .slice A2 P.codes.length n2, .slice A3 P.sites.length n3], .agg #[.int .i64 f.code, .int .i64 f.pc, .int .i64 (rg f.r 0), .int .i64 (rg f.r 1), .int .i64 (rg f.r 2), .int .i64 (rg f.r 3), .int .i64 (rg f.r 4), .int .i64 (rg f.r 5), .int .i64 (rg f.r 6), .int .i64 (rg f.r 7)], .int .i64 most, .pointer (some ⟨w.heap.size, 0, none⟩), .pointer (some ⟨w.heap.size + 1, 0, none⟩), .pointer (some ⟨w.heap.size + 1 + 1, 0, none⟩), .pointer (some ⟨w.heap.size + 1 + 1 + 1, 0, none⟩), .pointer (some ⟨w.heap.size + 1 + 1 + 1 + 1, 0, none⟩), .pointer (some ⟨w.heap.size + 1 + 1 + 1 + 1 + 1, 0, none⟩),
      .agg #[.slice A1 P.caps.length n1, .slice A2 P.codes.length n2, .slice A3 P.sites.length n3], .agg #[.int .i64 f.code, .int .i64 f.pc, .int .i64 (rg f.r 0), .int .i64 (rg f.r 1), .int .i64 (rg f.r 2), .int .i64 (rg f.r 3), .int .i64 (rg f.r 4), .int .i64 (rg f.r 5), .int .i64 (rg f.r 6), .int .i64 (rg f.r 7)], .int .i64 0, .bool false, .bool false, .int .i64 most, .bool false, .bool false, .bool false, .int .i64 most, .bool false, .bool false, undef,
      .agg #[.slice A1 P.caps.length n1, .slice A2 P.codes.length n2, .slice A3 P.sites.length n3], .agg #[.int .i64 f.code, .int .i64 f.pc, .int .i64 (rg f.r 0), .int .i64 (rg f.r 1), .int .i64 (rg f.r 2), .int .i64 (rg f.r 3), .int .i64 (rg f.r 4), .int .i64 (rg f.r 5), .int .i64 (rg f.r 6), .int .i64 (rg f.r 7)], .func (.func 114) #[] #[.pointer (some ⟨w2.heap.size, 0, none⟩), .pointer (some ⟨w2.heap.size + 1, 0, none⟩)],
      .agg #[.int .i64 F.code, .int .i64 F.pc, .int .i64 (rg F.r 0), .int .i64 (rg F.r 1), .int .i64 (rg F.r 2), .int .i64 (rg F.r 3), .int .i64 (rg F.r 4), .int .i64 (rg F.r 5), .int .i64 (rg F.r 6), .int .i64 (rg F.r 7)], .int .i64 e, undef, undef, undef, undef, undef, undef, undef, undef, undef, undef, undef, undef, undef, undef, undef], defers := [] } ∧ RunS w.heap.size most w3 F k e W)
    ?oA ?assign ?body ?done ?stop
  case oI => 
    rintro s W W' row ⟨k, g, e, h1, h2⟩ hg hr
    exact ⟨k, g, e, h1, RunS.own hb3.size (by omega) s W W' row h2 hg hr⟩
  case oIx =>
    rintro c s W W' row (⟨h1, h2⟩ | ⟨h1, h2, g, k, e, h3⟩) hg hr
    · exact .inl ⟨h1, RunS.own hb3.size (by omega) s W W' row h2 hg hr⟩
    · exact .inr ⟨h1, h2, g, k, e, RunS.own hb3.size (by omega) s W W' row h3 hg hr⟩
  case iA =>
    rintro pre W W' ⟨k, g, e, h1, h2⟩ ho
    exact ⟨k, g, e, h1, h2.only ho (by omega) (Nat.le_trans hb3.size h2.below.size)⟩
  case ixA =>
    rintro c pre W W' (⟨h1, h2⟩ | ⟨h1, h2, g, k, e, h3⟩) ho
    · exact .inl ⟨h1, h2.only ho (by omega) (Nat.le_trans hb3.size h2.below.size)⟩
    · exact .inr ⟨h1, h2, g, k, e, h3.only ho (by omega) (Nat.le_trans hb3.size h3.below.size)⟩
  case bd =>
    rintro pre W ⟨k, g, e, ⟨rfl, _, hk⟩, _⟩
    rw [preF_length]
    omega
  case h0 => exact ⟨0, FrameV.zero, 0, ⟨rfl, fun i hi => absurd hi (Nat.not_lt_zero _), Nat.zero_le _⟩, HS3.out⟩
  case oA =>
    rintro pre x a' s W W' row ⟨k, F, e, h1, h2, h3⟩ hg hr
    exact ⟨k, F, e, h1, h2, RunS.own hb3.size (by omega) s W W' row h3 hg hr⟩
  case assign =>
    rintro l pre x W K ⟨k, g, e, ⟨rfl, hok, hk⟩, hS⟩ ⟨k', hpre, rfl, hok'⟩ hK
    obtain rfl : k = k' := by have := congrArg List.length hpre; rwa [preF_length, preF_length] at this
    obtain ⟨F, hFk⟩ : ∃ F, F = nthF P f k := ⟨_, rfl⟩
    obtain ⟨e', he⟩ : ∃ e, e = errN P f k := ⟨_, rfl⟩
    rw [← hFk, ← he] at hK ⊢
    have l6 := hS.b6.lt
    have l8 := hS.b8.lt
    have c6 := hS.b6.cell
    have f6 := hS.b6.free
    have c8 := hS.b8.cell
    have f8 := hS.b8.free
    simp only [FrameV.cells] at c6
    have HK := Lib.hid hK
    have HS := Lib.hid hS
    have HFk := Lib.hid hFk
    have HE := Lib.hid he
    clear hK hS hFk he hpre
    dsimp only [frEnc, FrameV.agg, FrameV.cells]
    gi_wp2
    have o6 := Only.setAll (w.heap.size + 1 + 1 + 1) W F
    have s6 := HS.out.set6 o6 (HS.out.b6.setAll F) hb3.size
    have o8 := ((Only.refl (w.heap.size + 1 + 1 + 1 + 1 + 1) _).set 0 (.int .i64 e') : Only _ (((((((((((W.setCell ⟨w.heap.size + 1 + 1 + 1, 0, none⟩ (.int .i64 F.code)).setCell ⟨w.heap.size + 1 + 1 + 1, 1, none⟩ (.int .i64 F.pc)).setCell ⟨w.heap.size + 1 + 1 + 1, 2, none⟩ (.int .i64 (rg F.r 0))).setCell ⟨w.heap.size + 1 + 1 + 1, 3, none⟩ (.int .i64 (rg F.r 1))).setCell ⟨w.heap.size + 1 + 1 + 1, 4, none⟩ (.int .i64 (rg F.r 2))).setCell ⟨w.heap.size + 1 + 1 + 1, 5, none⟩ (.int .i64 (rg F.r 3))).setCell ⟨w.heap.size + 1 + 1 + 1, 6, none⟩ (.int .i64 (rg F.r 4))).setCell ⟨w.heap.size + 1 + 1 + 1, 7, none⟩ (.int .i64 (rg F.r 5))).setCell ⟨w.heap.size + 1 + 1 + 1, 8, none⟩ (.int .i64 (rg F.r 6))).setCell ⟨w.heap.size + 1 + 1 + 1, 9, none⟩ (.int .i64 (rg F.r 7)))) _)
    have s8 := s6.set8 o8 (s6.b8.set e') hb3.size
    have hmv := ((Moved.refl w.heap.size w3.heap.size W).only o6 (by omega) (by omega) (Nat.le_trans hb3.size HS.out.below.size)).only o8 (by omega) (by omega) (Nat.le_trans hb3.size HS.out.below.size)
    exact HK.out _ _ hmv.keep hmv.kp ⟨k, F, e', ⟨rfl, rfl, HFk.out, HE.out, hok, hk⟩, rfl, s8⟩
  case done =>
    rintro D xs W hD ⟨k, rfl, hok, hne⟩ ⟨k', g, e, ⟨hpre, hok', hk'⟩, hS⟩ hDef
    have : k' = k + 1 := by have := congrArg List.length hpre; rw [preF_length, preF_length] at this; exact this.symm
    exact absurd (hok' k (by omega)) hne
  case stop =>
    rintro D c pre W hD _ (⟨rfl, hS⟩ | ⟨rfl, ⟨hok, he0⟩, g, k, e, hS⟩) hDef
    · obtain ⟨r, hr⟩ : ∃ r, r = runK P f most 0 := ⟨_, rfl⟩
      rw [← hr] at hS
      have HSx := Lib.hid hS
      have HDf := Lib.hid hDef
      clear hS hDef
      gi_wp2
      refine noGoto_ret ?_
      refine ⟨by simp, .inl ⟨_, _, rfl, run_takeDeferred HDf.out, ?_⟩⟩
      have hS' := RunS.own hb3.size (B := w3.heap.size) (by omega) () _ _ (some D) HSx.out (grownBy_putObj' _ D (.deferred none)) (fun r e => by cases e; exact ⟨hD, _, HDf.out, rfl⟩)
      have c6 := hS'.b6.cell
      have c7 := hS'.b7.cell
      have c8 := hS'.b8.cell
      simp only [FrameV.cells] at c6
      refine ⟨.tuple #[r.1.agg, .int .i64 r.2.1, .int .i64 r.2.2], ?_, by rw [hr]; rfl, HB3.out.trans hS'.below⟩
      simp [results, Try.f36, go_sem, c6, c7, c8, FrameV.agg, FrameV.cells]
    · have hrun := runK_long hok he0
      have l6 := hS.b6.lt
      have l7 := hS.b7.lt
      have l8 := hS.b8.lt
      have c6 := hS.b6.cell
      have f6 := hS.b6.free
      have c7 := hS.b7.cell
      have f7 := hS.b7.free
      have c8 := hS.b8.cell
      have f8 := hS.b8.free
      simp only [FrameV.cells] at c6
      have HSx := Lib.hid hS
      have HDf := Lib.hid hDef
      have HR := Lib.hid hrun
      clear hS hDef hrun hok he0
      gi_wp2
      show Exit.noGoto _ .ret _ (st8 w.heap.size W FrameV.zero 0 5)
      have s8 := HSx.out.stored hb3.size FrameV.zero 0 5
      have hmv := Moved.stored (D := w3.heap.size) (by omega) (Nat.le_trans hb3.size HSx.out.below.size) FrameV.zero 0 5
      refine noGoto_ret ?_
      have hDf := hmv.keep.same _ _ hD HDf.out rfl
      refine ⟨by simp, .inl ⟨_, _, rfl, run_takeDeferred hDf, ?_⟩⟩
      have hS' := RunS.own hb3.size (B := w3.heap.size) (by omega) () _ _ (some D) s8 (grownBy_putObj' _ D (.deferred none)) (fun r e => by cases e; exact ⟨hD, _, hDf, rfl⟩)
      have c6 := hS'.b6.cell
      have c7 := hS'.b7.cell
      have c8 := hS'.b8.cell
      simp only [FrameV.cells] at c6
      refine ⟨.tuple #[FrameV.zero.agg, .int .i64 0, .int .i64 5], ?_, by rw [HR.out]; rfl, HB3.out.trans hS'.below⟩
      simp [results, Try.f36, go_sem, c6, c7, c8, FrameV.agg, FrameV.cells]
  case body =>
    rintro l pre x a' W hl ⟨k, F, e, ⟨rfl, rfl, hF, he, hok, hk⟩, rfl, hS⟩ _
    have l5 := hS.b5.lt
    have l6 := hS.b6.lt
    have l7 := hS.b7.lt
    have l8 := hS.b8.lt
    have c5 := hS.b5.cell
    have c6 := hS.b6.cell
    have f6 := hS.b6.free
    have c7 := hS.b7.cell
    have f7 := hS.b7.free
    have c8 := hS.b8.cell
    have f8 := hS.b8.free
    simp only [FrameV.cells] at c6
    have HSx := Lib.hid hS
    have HFk := Lib.hid hF
    have HE := Lib.hid he
    clear hS hF he
    have hWs : w.heap.size ≤ W.heap.size := Nat.le_trans hb3.size HSx.out.below.size
    by_cases h8 : e = 8
    · subst h8
      have hrun := runK_ends hok hk HE.out.symm
      have HR := Lib.hid hrun
      clear hrun
      gi_wp2
      gi_region
      all_goals gi_wp2
      all_goals exact ⟨keepsFrom_drew (Moved.stored (by omega) hWs F k 0).keep, .inl ⟨rfl, by rw [HR.out, ← HFk.out]; exact (HSx.out.stored hb3.size F k 0).drew⟩⟩
    by_cases h0 : e = 0
    · subst h0
      have hpre : preF P f (k + 1) = preF P f k ++ [(F, 0)] := by rw [preF_succ, ← HFk.out, ← HE.out]
      have hok1 : okTo P f (k + 1) := fun i hi => by
        rcases Nat.lt_succ_iff_lt_or_eq.1 hi with h | h
        · exact hok i h
        · rw [h]; exact HE.out.symm
      have HP1 := Lib.hid hpre
      have HO1 := Lib.hid hok1
      clear hpre hok1
      by_cases hkm : k = most
      · subst hkm
        gi_wp2
        exact ⟨KeepsFrom.refl _ _, .inr ⟨rfl, ⟨hok, HE.out.symm⟩, F, k, 0, HSx.out⟩⟩
      · have hd : ((k : Int) == (most : Int)) = false := by simp; omega
        have hlk : k + 1 ≤ most := by omega
        gi_wp2
        have o7 : Only (w.heap.size + 1 + 1 + 1 + 1) W (W.setCell ⟨w.heap.size + 1 + 1 + 1 + 1, 0, none⟩ (.int .i64 (k + 1))) := (Only.refl _ _).set 0 _
        have s7 := HSx.out.set7 o7 (HSx.out.b7.set (k + 1)) hb3.size
        have hmv := (Moved.refl w.heap.size w3.heap.size W).only o7 (by omega) (by omega) hWs
        exact ⟨hmv.keep, hmv.kp, k + 1, F, 0, ⟨HP1.out.symm, HO1.out, hlk⟩, by exact_mod_cast s7⟩
    · have hd8 : (e == 8) = false := by simp [h8]
      have hd0 : (e == 0) = false := by simp [h0]
      have hrun := runK_err hok hk (by rw [← HE.out]; exact h8) (by rw [← HE.out]; exact h0)
      rw [← HE.out] at hrun
      have HR := Lib.hid hrun
      clear hrun
      gi_wp2
      gi_region
      all_goals gi_wp2
      all_goals exact ⟨keepsFrom_drew (Moved.stored (by omega) hWs FrameV.zero 0 e).keep, .inl ⟨rfl, by rw [HR.out]; exact (HSx.out.stored hb3.size FrameV.zero 0 e).drew⟩⟩

theorem runS_start {w w2 : World} {c1 c2 c3 : Value} {f : FrameV} {most : Int} (hb2 : Below ((((((w.alloc (.cells #[c1, c2, c3] 44)).alloc (.cells f.cells 47)).alloc (.cells #[.int .i64 most] 3)).alloc (.cells FrameV.zero.cells 47)).alloc (.cells #[.int .i64 0] 3)).alloc (.cells #[.int .i64 0] 28)).heap.size ((((((w.alloc (.cells #[c1, c2, c3] 44)).alloc (.cells f.cells 47)).alloc (.cells #[.int .i64 most] 3)).alloc (.cells FrameV.zero.cells 47)).alloc (.cells #[.int .i64 0] 3)).alloc (.cells #[.int .i64 0] 28)) w2) : RunS w.heap.size most w2 FrameV.zero 0 0 w2 := by
  have hh : ∀ i, i < w.heap.size + 6 → w2.heap[i]? = ((((((w.alloc (.cells #[c1, c2, c3] 44)).alloc (.cells f.cells 47)).alloc (.cells #[.int .i64 most] 3)).alloc (.cells FrameV.zero.cells 47)).alloc (.cells #[.int .i64 0] 3)).alloc (.cells #[.int .i64 0] 28)).heap[i]? := fun i hi => hb2.block i (by simp; omega)
  refine ⟨(hh _ (by omega)).trans ?_, (hh _ (by omega)).trans ?_, (hh _ (by omega)).trans ?_, (hh _ (by omega)).trans ?_, Below.refl _ _⟩
  all_goals (repeat (refine (Below.heap_alloc _ _ _ (by simp only [World.size_alloc]; omega)).trans ?_))
  all_goals exact alloc_at (by simp only [World.size_alloc])
theorem runS_end {m : Nat} {most : Int} {W0 W : World} {g : FrameV} {k e : Int} (h : RunS m most W0 g k e W) : RunS m most W g k e W := ⟨h.b5, h.b6, h.b7, h.b8, Below.refl _ _⟩

set_option maxHeartbeats 4000000 in
theorem run_not {c1 c2 c3 : Value} {P : ProgV} {w : World} (h : RProg w c1 c2 c3 P) (f : FrameV) (most : Int) (hat : (atB P f.code f.pc && (decide (0 ≤ most) && decide (most ≤ 65536))) = false) :
    CallsIn Fence.wide 4 Try.prog 36 #[.agg #[c1, c2, c3], f.agg, .int .i64 most] w fun e w' => e = .returned (.tuple #[FrameV.zero.agg, .int .i64 0, .int .i64 2]) ∧ Below w.heap.size w w' := by
  obtain ⟨A1, n1, rfl, _, _, hl1⟩ := h.caps.val
  obtain ⟨A2, n2, rfl, _, _, hl2⟩ := h.codes.val
  obtain ⟨A3, n3, rfl, _, _, hl3⟩ := h.sites.val
  have HP := Lib.hid h
  clear h
  have hck := fun (W : World) (hW : RProg W (.slice A1 P.caps.length n1) (.slice A2 P.codes.length n2) (.slice A3 P.sites.length n3) P) => callsIn_wide (n := 4 - 1) |>.2 (fcheck_any hW f.code f.pc (rg f.r 0) (rg f.r 1) (rg f.r 2) (rg f.r 3) (rg f.r 4) (rg f.r 5) (rg f.r 6) (rg f.r 7))
  by_cases ha : atB P f.code f.pc = true
  · rw [ha] at hck hat
    have hee : errOf true = 0 := rfl
    have HCK := Lib.hid hck
    clear hck
    simp only [FrameV.agg, FrameV.cells]
    by_cases hneg : most < 0
    · have hd1 : decide (most < 0) = true := decide_eq_true hneg
      clear hat
      refine callsIn_of_wp Try.func36 rfl trivial ?_ rfl
      simp only [Try.ntmps36, List.size_toArray, List.length_cons, List.length_nil, Nat.reduceAdd, Nat.reduceSub, Array.replicate_succ, Array.replicate_zero, List.push_toArray, List.append_toArray, List.nil_append, List.cons_append]
      gi_wp2
      refine wpIn_scopeX ?_
      gi_wp2_with (first | ((first | refine ⟨trivial, fun _ => by omega, ?_⟩ | refine ⟨trivial, ?_⟩); (with_reducible refine (HCK.out _ (HP.out.keep (by (repeat (first | with_reducible exact Below.refl _ _ | (with_reducible refine Below.setCell ?_ (by first | (simp; done) | (simp; omega) | omega) _) | (with_reducible refine Below.alloc ?_ (by first | (simp; done) | (simp; omega) | omega) _) | (with_reducible refine Below.drew ?_)))))).mono ?_); rintro e w2 ⟨rfl, hb2⟩; obtain ⟨hbc, hbf'⟩ := bcell hb2))
      have s8 := (runS_start (c1 := .slice A1 P.caps.length n1) (c2 := .slice A2 P.codes.length n2) (c3 := .slice A3 P.sites.length n3) (f := f) (most := most) hb2).stored (by have := hb2.size; simp only [World.size_alloc] at this; omega) FrameV.zero 0 2
      have hbw : Below w.heap.size w w2 := by (have hszq := hb2.size; (try simp only [World.size_alloc] at hszq); (repeat (first | (with_reducible refine Below.setCell ?_ (by first | (simp; done) | (simp; omega) | omega) _) | (with_reducible refine Below.alloc ?_ (by first | (simp; done) | (simp; omega) | omega) _) | (with_reducible refine Below.drew ?_))); refine Below.trans ?_ (hb2.mono (by first | (simp; done) | (simp; omega) | omega)); (repeat (first | with_reducible exact Below.refl _ _ | (with_reducible refine Below.setCell ?_ (by first | (simp; done) | (simp; omega) | omega) _) | (with_reducible refine Below.alloc ?_ (by first | (simp; done) | (simp; omega) | omega) _) | (with_reducible refine Below.drew ?_))))
      have HB := Lib.hid (hbw.trans s8.below)
      show Exit.noGoto _ .ret _ (st8 w.heap.size w2 FrameV.zero 0 2)
      have c6 := s8.b6.cell
      have c7 := s8.b7.cell
      have c8 := s8.b8.cell
      simp only [FrameV.cells] at c6
      refine noGoto_ret ?_
      refine bodyPost_ret (v := .tuple #[FrameV.zero.agg, .int .i64 0, .int .i64 2]) ?_ rfl ⟨rfl, HB.out⟩
      simp [results, Try.f36, Try.results36, go_sem, c6, c7, c8, FrameV.agg, FrameV.cells]
    · have hbig : most > 65536 := by
        by_cases hb : most ≤ 65536
        · rw [decide_eq_true (show 0 ≤ most by omega), decide_eq_true hb] at hat
          cases hat
        · omega
      have hd1 : decide (most < 0) = false := decide_eq_false hneg
      have hd2 : decide (most > 65536) = true := decide_eq_true hbig
      clear hat
      refine callsIn_of_wp Try.func36 rfl trivial ?_ rfl
      simp only [Try.ntmps36, List.size_toArray, List.length_cons, List.length_nil, Nat.reduceAdd, Nat.reduceSub, Array.replicate_succ, Array.replicate_zero, List.push_toArray, List.append_toArray, List.nil_append, List.cons_append]
      gi_wp2
      refine wpIn_scopeX ?_
      gi_wp2_with (first | ((first | refine ⟨trivial, fun _ => by omega, ?_⟩ | refine ⟨trivial, ?_⟩); (with_reducible refine (HCK.out _ (HP.out.keep (by (repeat (first | with_reducible exact Below.refl _ _ | (with_reducible refine Below.setCell ?_ (by first | (simp; done) | (simp; omega) | omega) _) | (with_reducible refine Below.alloc ?_ (by first | (simp; done) | (simp; omega) | omega) _) | (with_reducible refine Below.drew ?_)))))).mono ?_); rintro e w2 ⟨rfl, hb2⟩; obtain ⟨hbc, hbf'⟩ := bcell hb2))
      have s8 := (runS_start (c1 := .slice A1 P.caps.length n1) (c2 := .slice A2 P.codes.length n2) (c3 := .slice A3 P.sites.length n3) (f := f) (most := most) hb2).stored (by have := hb2.size; simp only [World.size_alloc] at this; omega) FrameV.zero 0 2
      have hbw : Below w.heap.size w w2 := by (have hszq := hb2.size; (try simp only [World.size_alloc] at hszq); (repeat (first | (with_reducible refine Below.setCell ?_ (by first | (simp; done) | (simp; omega) | omega) _) | (with_reducible refine Below.alloc ?_ (by first | (simp; done) | (simp; omega) | omega) _) | (with_reducible refine Below.drew ?_))); refine Below.trans ?_ (hb2.mono (by first | (simp; done) | (simp; omega) | omega)); (repeat (first | with_reducible exact Below.refl _ _ | (with_reducible refine Below.setCell ?_ (by first | (simp; done) | (simp; omega) | omega) _) | (with_reducible refine Below.alloc ?_ (by first | (simp; done) | (simp; omega) | omega) _) | (with_reducible refine Below.drew ?_))))
      have HB := Lib.hid (hbw.trans s8.below)
      show Exit.noGoto _ .ret _ (st8 w.heap.size w2 FrameV.zero 0 2)
      have c6 := s8.b6.cell
      have c7 := s8.b7.cell
      have c8 := s8.b8.cell
      simp only [FrameV.cells] at c6
      refine noGoto_ret ?_
      refine bodyPost_ret (v := .tuple #[FrameV.zero.agg, .int .i64 0, .int .i64 2]) ?_ rfl ⟨rfl, HB.out⟩
      simp [results, Try.f36, Try.results36, go_sem, c6, c7, c8, FrameV.agg, FrameV.cells]
  · have ha' : atB P f.code f.pc = false := by simpa using ha
    rw [ha'] at hck
    have hee : errOf false = 2 := rfl
    have HCK := Lib.hid hck
    clear hck hat ha ha'
    simp only [FrameV.agg, FrameV.cells]
    refine callsIn_of_wp Try.func36 rfl trivial ?_ rfl
    simp only [Try.ntmps36, List.size_toArray, List.length_cons, List.length_nil, Nat.reduceAdd, Nat.reduceSub, Array.replicate_succ, Array.replicate_zero, List.push_toArray, List.append_toArray, List.nil_append, List.cons_append]
    gi_wp2
    refine wpIn_scopeX ?_
    gi_wp2_with (first | ((first | refine ⟨trivial, fun _ => by omega, ?_⟩ | refine ⟨trivial, ?_⟩); (with_reducible refine (HCK.out _ (HP.out.keep (by (repeat (first | with_reducible exact Below.refl _ _ | (with_reducible refine Below.setCell ?_ (by first | (simp; done) | (simp; omega) | omega) _) | (with_reducible refine Below.alloc ?_ (by first | (simp; done) | (simp; omega) | omega) _) | (with_reducible refine Below.drew ?_)))))).mono ?_); rintro e w2 ⟨rfl, hb2⟩; obtain ⟨hbc, hbf'⟩ := bcell hb2))
    have s8 := (runS_start (c1 := .slice A1 P.caps.length n1) (c2 := .slice A2 P.codes.length n2) (c3 := .slice A3 P.sites.length n3) (f := f) (most := most) hb2).stored (by have := hb2.size; simp only [World.size_alloc] at this; omega) FrameV.zero 0 2
    have hbw : Below w.heap.size w w2 := by (have hszq := hb2.size; (try simp only [World.size_alloc] at hszq); (repeat (first | (with_reducible refine Below.setCell ?_ (by first | (simp; done) | (simp; omega) | omega) _) | (with_reducible refine Below.alloc ?_ (by first | (simp; done) | (simp; omega) | omega) _) | (with_reducible refine Below.drew ?_))); refine Below.trans ?_ (hb2.mono (by first | (simp; done) | (simp; omega) | omega)); (repeat (first | with_reducible exact Below.refl _ _ | (with_reducible refine Below.setCell ?_ (by first | (simp; done) | (simp; omega) | omega) _) | (with_reducible refine Below.alloc ?_ (by first | (simp; done) | (simp; omega) | omega) _) | (with_reducible refine Below.drew ?_))))
    have HB := Lib.hid (hbw.trans s8.below)
    show Exit.noGoto _ .ret _ (st8 w.heap.size w2 FrameV.zero 0 2)
    have c6 := s8.b6.cell
    have c7 := s8.b7.cell
    have c8 := s8.b8.cell
    simp only [FrameV.cells] at c6
    refine noGoto_ret ?_
    refine bodyPost_ret (v := .tuple #[FrameV.zero.agg, .int .i64 0, .int .i64 2]) ?_ rfl ⟨rfl, HB.out⟩
    simp [results, Try.f36, Try.results36, go_sem, c6, c7, c8, FrameV.agg, FrameV.cells]

theorem run_any {c1 c2 c3 : Value} {P : ProgV} {w : World} (h : RProg w c1 c2 c3 P) (f : FrameV) (hf : f.wf) (most : Int) :
    Calls Try.prog 36 #[.agg #[c1, c2, c3], f.agg, .int .i64 most] w fun e w' => e = .returned (.tuple #[(runF P f most).1.agg, .int .i64 (runF P f most).2.1, .int .i64 (runF P f most).2.2]) ∧ Below w.heap.size w w' := by
  unfold runF
  by_cases hc : (atB P f.code f.pc && (decide (0 ≤ most) && decide (most ≤ 65536))) = true
  · rw [if_pos hc]
    simp only [Bool.and_eq_true, decide_eq_true_eq] at hc
    obtain ⟨ha, h0, h1⟩ := hc
    obtain ⟨m, rfl⟩ := Int.eq_ofNat_of_zero_le h0
    exact callsIn_wide.1 (run_in 4 (by omega) h f hf m (by omega) ha)
  · rw [if_neg hc]
    exact callsIn_wide.1 (run_not h f most (by simpa using hc))
end Go.Proofs.Ytljfloopjgpaeaa
