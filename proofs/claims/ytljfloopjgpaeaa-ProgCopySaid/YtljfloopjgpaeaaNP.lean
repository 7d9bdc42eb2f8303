/- tollbarlaw11.ProgCopy: a copy shares nothing with what it was made of. For every program; no condition. -/
import Derived.Test.YtljfloopjgpaeaaNM
import Derived.Test.YtljfloopjgpaeaaNN
import Derived.Test.YtljfloopjgpaeaaNL
namespace Go.Proofs.Ytljfloopjgpaeaa
set_option linter.unusedVariables false
set_option linter.unusedSimpArgs false
open Go.RowKit
attribute [local go_sem] Oper.semAt_some
set_option maxRecDepth 100000

def longR (P : ProgV) (v : Value) (φ : World → Prop) : Prop := ∃ b : Bool, v = .bool b ∧ (b = false → LongB P) ∧ φ = fun _ => True
theorem longR_ok (P : ProgV) : (∃ v φ, longR P v φ) ∧ ∀ v φ, longR P v φ → Lx.Stable φ :=
  ⟨⟨_, _, true, rfl, fun h => (by cases h), rfl⟩, by rintro _ _ ⟨_, rfl, _, rfl⟩; exact fun _ _ _ _ => trivial⟩
theorem longR_any {w : World} {c1 c2 c3 : Value} {P : ProgV} (h : RProg w c1 c2 c3 P) :
    Calls Try.prog 22 #[.agg #[c1, c2, c3]] w fun e w' => ∃ v φ, e = .returned v ∧ longR P v φ ∧ φ w' ∧ Below w.heap.size w w' :=
  (long_bounds h).mono fun _ _ ⟨⟨b, he, hb⟩, hl⟩ => ⟨_, _, he, ⟨b, rfl, hb, rfl⟩, trivial, hl⟩
theorem OnlyAt.eq44 {g : Nat} {cs : Array Value} {w w' : World} {z : Nat × Nat} (hb : w.heap[g]? = some (.cells cs 44 z)) (ho : Lx.OnlyAt g w w') : Keeps 44 w w' := Keeps.of_only hb ho
/-- What is told stays, whatever becomes of programs' boxes. -/
def KG (s : Lx.St) : Prop := ∀ w w', s.G w → Keeps 44 w w' → s.G w'
theorem KG.nil : KG Lx.St.nil := fun _ _ _ _ => trivial
theorem KG.upd {s : Lx.St} (h : KG s) (g : Nat) (o : Obj) : KG (s.upd g o) := h
theorem KG.addA {s : Lx.St} (h : KG s) (B : Nat) (x1 x2 x3 : Value) (P : ProgV) (k m : Nat) : KG (s.add fun w => OwnAt w B x1 x2 x3 P k m) := fun _ _ hg hk => ⟨h _ _ hg.1 hk, hg.2.keeps hk⟩
theorem KG.addB {s : Lx.St} (h : KG s) (B : Nat) (x1 x2 x3 y1 y2 y3 : Value) (P : ProgV) (k j : Nat) : KG (s.add fun w => ∃ m, B ≤ m ∧ OwnI w B m x1 x2 x3 P ∧ OwnAt w m y1 y2 y3 P k j) := fun _ _ hg hk => ⟨h _ _ hg.1 hk, by obtain ⟨m, h0, h1, h2⟩ := hg.2; exact ⟨m, h0, h1.keeps hk, h2.keeps hk⟩⟩
theorem own_form {w : World} {B e sz n : Nat} {v : Value} {xs : List Value} (h : w.ownsRow B e sz v n xs) : ∃ A c, v = .slice A n c := by
  rcases h.2 with ⟨rfl, rfl⟩ | ⟨g, cap, cur, rfl, _⟩
  · exact ⟨_, _, rfl⟩
  · exact ⟨_, _, rfl⟩
theorem cell_other {w : World} {g k i j : Nat} {u v : Value} (hne : g ≠ k) (h : w.cell? ⟨k, j, none⟩ = some v) : (w.setCell ⟨g, i, none⟩ u).cell? ⟨k, j, none⟩ = some v :=
  (World.cell?_setCell_other w _ _ u (fun e => hne (by injection e))).trans h
/-- The codes that are not struck yet. -/
def RestC (x : Value) (vs : List Value) (i : Nat) (wr : World) : Prop := ∀ g n c, x = .slice (some ⟨g, 0, none⟩) n c → ∀ j v, i ≤ j → vs[j]? = some v → wr.cell? ⟨g, j, none⟩ = some v
theorem RestC.start {w wr : World} {B e T n : Nat} {x : Value} {vs : List Value} (h : w.ownsRow B e 1 x n vs) (hk : Keeps T w wr) (he : e ≠ T) : RestC x vs 0 wr := by
  rintro g n' c rfl j v _ hj
  rcases h.2 with ⟨q, _⟩ | ⟨g', cap, cur, hv, _, hh, h1, h2, h3, h4⟩
  · cases q
  · injection hv with q1 _ _
    injection q1 with q1
    injection q1 with q1 _ _
    subst q1
    have := hk _ _ _ _ hh he
    simp only [World.cell?, this.trans hh]
    rw [← h4, List.getElem?_take] at hj
    rw [← Array.getElem?_toList]
    split at hj
    · exact hj
    · cases hj
theorem RestC.set {g' : Nat} {A : Nat} {n c : Nat} {vs : List Value} {i : Nat} {wr : World} (h : RestC (.slice (some ⟨A, 0, none⟩) n c) vs i wr) (hne : g' ≠ A) (k : Nat) (u : Value) : RestC (.slice (some ⟨A, 0, none⟩) n c) vs i (wr.setCell ⟨g', k, none⟩ u) := by
  intro g n' c' e j v hij hj
  have h1 := h g n' c' e j v hij hj
  injection e with q1 _ _
  injection q1 with q1
  injection q1 with q1 _ _
  subst q1
  exact cell_other hne h1
theorem RestC.next {A n c : Nat} {vs : List Value} {i : Nat} {wr : World} (h : RestC (.slice (some ⟨A, 0, none⟩) n c) vs i wr) (u : Value) : RestC (.slice (some ⟨A, 0, none⟩) n c) vs (i + 1) (wr.setCell ⟨A, i, none⟩ u) := by
  intro g n' c' e j v hij hj
  have h1 := h g n' c' e j v (by omega) hj
  injection e with q1 _ _
  injection q1 with q1
  injection q1 with q1 _ _
  subst q1
  exact (World.cell?_setCell_other wr _ _ u (fun e => by injection e with _ e2; omega)).trans h1
theorem site_cell {w : World} {B n g c i : Nat} {ds : List (Value × Bool)} {p : Value × Bool} (h : w.ownsRow B 66 2 (.slice (some ⟨g, 0, none⟩) n c) n (dsCells ds)) (hp : ds[i]? = some p) : w.cell? ⟨g, i * 2, none⟩ = some p.1 := by
  rcases h.2 with ⟨q, _⟩ | ⟨g', cap, cur, hv, _, hh, h1, h2, h3, h4⟩
  · cases q
  · injection hv with q1 _ _
    injection q1 with q1
    injection q1 with q1 _ _
    subst q1
    have hj := flatMap_put (f := fun p : Value × Bool => [p.1, .bool p.2]) (sz := 2) (fun _ => rfl) ds i 0 p p.1 hp rfl
    have hj' : (dsCells ds)[i * 2]? = some p.1 := hj
    simp only [World.cell?, hh]
    rw [← h4, List.getElem?_take] at hj'
    rw [← Array.getElem?_toList]
    split at hj'
    · exact hj'
    · cases hj'
theorem fixed_cell {B m : Nat} {w w' : World} (h : Wrote B m w w') {g : Nat} {cur : Array Value} {e : Nat} {z : Nat × Nat} (hg : w.heap[g]? = some (Obj.cells cur e z)) (he : e = 44 ∨ e = 66) {j : Nat} {v : Value} (hc : w.cell? ⟨g, j, none⟩ = some v) : w'.cell? ⟨g, j, none⟩ = some v := by
  have := h.fixed g cur e z hg he
  rw [← hc]
  simp only [World.cell?, this]
/-- Behind the copies: a is in blocks from B to m, b behind. -/
structure CopyW (W : World) (B m ga gb : Nat) (x1 x2 x3 y1 y2 y3 : Value) (P : ProgV) : Prop where
  le : B ≤ m
  a : OwnI W B m x1 x2 x3 P
  b : OwnAt W m y1 y2 y3 P P.codes.length P.sites.length
  boxA : W.heap[ga]? = some (.cells #[x1, x2, x3] 44 (0, 0))
  boxB : W.heap[gb]? = some (.cells #[y1, y2, y3] 44 (0, 0))
set_option maxHeartbeats 16000000 in
theorem progCopy_any {c1 c2 c3 : Value} {P : ProgV} {w : World} (h : RProg w c1 c2 c3 P) :
    Calls Try.prog 7 #[.agg #[c1, c2, c3]] w fun e w' => e = .returned (.bool true) ∧ Below w.heap.size w w' := by
  have HP0 := Lib.hid h
  have HAL := Lib.hid (fun W => alive11_any W)
  obtain ⟨A1, n1, rfl, _, _, hl1⟩ := h.caps.val
  obtain ⟨A2, n2, rfl, _, _, hl2⟩ := h.codes.val
  obtain ⟨A3, n3, rfl, _, _, hl3⟩ := h.sites.val
  clear h
  go_enter Try.func7, Try.ntmps7
  go_upto_region 1 with fail
  refine Lx.start1 (fun W1 hII => ?_)
  have HIN := Lib.hid hII
  clear hII
  go_upto_region 1 with fail
  refine Lx.regionS0 (by kernel_rfl) (by kernel_rfl) HIN.out.1 HIN.out.2 (by simp only [List.size_toArray, List.length_cons, List.length_nil, Nat.reduceAdd]; rfl) (fun O Z hO hZ => ?_); have HO := Lib.hid hO; clear hO
  first
    | (apply Lx.kr HO 0; (case hx => exact ⟨rfl, rfl, rfl⟩); (case hk => decide +kernel); (case hv => intro w_ hw_; have P_ := hw_.holds (w.heap.size) _ (by (repeat (first | exact Lx.ua _ _ _ | rw [Lx.un _ _ (by omega)] | rw [Lx.am]))); obtain ⟨c0, c1, c2⟩ := Lx.cells3 P_; clear P_; (go_simp <;> first | with_reducible rfl | exact ⟨rfl, rfl⟩)); simp only [Act.put, Lx.p1, Lx.p2, Lx.p3])
  first
    | (apply Lx.kR HO 1 (longR P); (case hx => exact ⟨rfl, rfl, rfl⟩); (case hk => decide +kernel); (case hrun => intro w_; (go_simp <;> first | with_reducible rfl | exact ⟨rfl, rfl⟩)); (case hne => exact longR_ok _); (case hc => intro w_ hw_; exact longR_any (HP0.out.keep hw_.below)))
  rintro _ _ ⟨b_, rfl, hlb_, rfl⟩
  have HLB := Lib.hid hlb_
  clear hlb_
  simp only [Act.put, Lx.p1, Lx.p2, Lx.p3]
  refine Lx.kd HO (by kernel_rfl) (fun hiv2 => hZ _ _ (fun W2 hw2 => ?_))
  clear hZ Z HO O
  have hin_ := Lib.hid (And.intro hw2 hiv2 : Lx.II _ _ _ _)
  clear hw2 hiv2
  replace HIN := Lib.hid (Lx.tk hin_.out (Lx.II.nil hin_.out.1.below) (w.heap.size) (by (repeat (first | exact Lx.ua _ _ _ | rw [Lx.un _ _ (by omega)] | rw [Lx.am]))))
  clear hin_
  cases b_
  case true =>
    go_upto_region 2 with fail
    refine Lx.regionS0 (by kernel_rfl) (by kernel_rfl) HIN.out.1 HIN.out.2 (by simp only [List.size_toArray, List.length_cons, List.length_nil, Nat.reduceAdd]; rfl) (fun O Z hO hZ => ?_); have HO := Lib.hid hO; clear hO
    first
      | (apply Lx.kc HO 0; (case hx => exact ⟨rfl, rfl, rfl⟩); (case hk => decide +kernel); (case hrun => intro w_; (go_simp <;> first | with_reducible rfl | exact ⟨rfl, rfl⟩)); (case hc => intro w_ hw_; exact HAL.out _); simp only [Act.put, Lx.p1, Lx.p2, Lx.p3])
    first
      | (apply Lx.kp HO 1; (case hx => exact ⟨rfl, rfl, rfl⟩); (case hk => decide +kernel); (case hv => intro w_ hw_; (go_simp <;> first | with_reducible rfl | exact ⟨rfl, rfl⟩)); simp only [Act.put, Lx.p1, Lx.p2, Lx.p3])
    refine Lx.kd HO (by kernel_rfl) (fun hiv2 => hZ _ _ (fun W3 hw2 => ?_))
    clear hZ Z HO O
    have hin_ := Lib.hid (And.intro hw2 hiv2 : Lx.II _ _ _ _)
    clear hw2 hiv2
    replace HIN := Lib.hid (Lx.tk hin_.out (Lx.II.nil hin_.out.1.below) (w.heap.size) (by (repeat (first | exact Lx.ua _ _ _ | rw [Lx.un _ _ (by omega)] | rw [Lx.am]))))
    clear hin_
    go_wp2
    refine Lx.ret_of (by simp [results, Try.results7, go_sem] <;> (repeat' (first | rfl | apply And.intro))) rfl ⟨rfl, HIN.out.1.below⟩
  have HSM := Lib.hid (HLB.out rfl).small
  clear HLB
  go_upto_region 3 with fail
  refine Lx.regionS (by kernel_rfl) (by kernel_rfl) HIN.out.1 HIN.out.2 (by simp only [List.size_toArray, List.length_cons, List.length_nil, Nat.reduceAdd]; rfl) (fun O Z hO hZ => ?_); have HO := Lib.hid hO; clear hO
  first
    | (apply Lx.kr HO 0; (case hx => exact ⟨rfl, rfl, rfl⟩); (case hk => decide +kernel); (case hv => intro w_ hw_; have P_ := hw_.holds (w.heap.size) _ (by (repeat (first | exact Lx.ua _ _ _ | rw [Lx.un _ _ (by omega)] | rw [Lx.am]))); obtain ⟨c0, c1, c2⟩ := Lx.cells3 P_; clear P_; (go_simp <;> first | with_reducible rfl | exact ⟨rfl, rfl⟩)); simp only [Act.put, Lx.p1, Lx.p2, Lx.p3])
  first
    | (apply Lx.kr HO 2; (case hx => exact ⟨rfl, rfl, rfl⟩); (case hk => decide +kernel); (case hv => intro w_ hw_; have P_ := hw_.holds (w.heap.size) _ (by (repeat (first | exact Lx.ua _ _ _ | rw [Lx.un _ _ (by omega)] | rw [Lx.am]))); obtain ⟨c0, c1, c2⟩ := Lx.cells3 P_; clear P_; (go_simp <;> first | with_reducible rfl | exact ⟨rfl, rfl⟩)); simp only [Act.put, Lx.p1, Lx.p2, Lx.p3])
  first
    | (apply Lx.kR HO 1 (cpA w.heap.size P); (case hx => exact ⟨rfl, rfl, rfl⟩); (case hk => decide +kernel); (case hrun => intro w_; (go_simp <;> first | with_reducible rfl | exact ⟨rfl, rfl⟩)); (case hne => exact cpA_ok _ _); (case hc => intro w_ hw_; (have P_ := hw_.holds (w.heap.size) _ (by (repeat (first | exact Lx.ua _ _ _ | rw [Lx.un _ _ (by omega)] | rw [Lx.am]))); have hsz_ := Nat.le_of_lt (Array.getElem?_eq_some_iff.1 P_).1; clear P_; exact cpA_any (HP0.out.keep hw_.below) HSM.out hsz_)))
  rintro _ _ ⟨_, _, _, rfl, ⟨X1, nx1, cx1, rfl⟩, ⟨X2, nx2, cx2, rfl⟩, ⟨X3, nx3, cx3, rfl⟩, rfl⟩
  simp only [Act.put, Lx.p1, Lx.p2, Lx.p3]
  first
    | (apply Lx.kR HO 3 (cpB w.heap.size (.slice X1 nx1 cx1) (.slice X2 nx2 cx2) (.slice X3 nx3 cx3) P); (case hx => exact ⟨rfl, rfl, rfl⟩); (case hk => decide +kernel); (case hrun => intro w_; (go_simp <;> first | with_reducible rfl | exact ⟨rfl, rfl⟩)); (case hne => exact cpB_ok _ _ _ _ _); (case hc => intro w_ hw_; (have P_ := hw_.holds (w.heap.size) _ (by (repeat (first | exact Lx.ua _ _ _ | rw [Lx.un _ _ (by omega)] | rw [Lx.am]))); have hsz_ := Nat.le_of_lt (Array.getElem?_eq_some_iff.1 P_).1; clear P_; (have m2_ : (OwnAt w_ w.heap.size (.slice X1 nx1 cx1) (.slice X2 nx2 cx2) (.slice X3 nx3 cx3) P P.codes.length P.sites.length) := (by (have m_ := hw_.more; (repeat (first | (with_reducible exact Lx.m0 m_) | (with_reducible replace m_ := Lx.mU m_) | (with_reducible replace m_ := Lx.mS m_)))))); exact cpB_any (HP0.out.keep hw_.below) HSM.out hsz_ m2_)))
  rintro _ _ ⟨_, _, _, rfl, ⟨Y1, ny1, cy1, rfl⟩, ⟨Y2, ny2, cy2, rfl⟩, ⟨Y3, ny3, cy3, rfl⟩, rfl⟩
  simp only [Act.put, Lx.p1, Lx.p2, Lx.p3]
  first
    | (apply Lx.ka HO 4; (case hx => exact ⟨rfl, rfl, rfl⟩); (case hk => decide +kernel); (case hrun => intro w_; (go_simp <;> first | with_reducible rfl | exact ⟨rfl, rfl⟩)); simp only [Act.put, Lx.p1, Lx.p2, Lx.p3])
  intro ga hg_ hfr
  (repeat (first | (rw [Lx.St.add_M] at hfr) | (replace hfr := Lx.St.fresh_upd hfr; have n_ := hfr.1; replace hfr := hfr.2))); clear hfr
  first
    | (apply Lx.ka HO 5; (case hx => exact ⟨rfl, rfl, rfl⟩); (case hk => decide +kernel); (case hrun => intro w_; (go_simp <;> first | with_reducible rfl | exact ⟨rfl, rfl⟩)); simp only [Act.put, Lx.p1, Lx.p2, Lx.p3])
  intro gb hg_ hfr
  (repeat (first | (rw [Lx.St.add_M] at hfr) | (replace hfr := Lx.St.fresh_upd hfr; have n_ := hfr.1; replace hfr := hfr.2))); clear hfr
  first
    | (apply Lx.ksG HO 6 (g := ga); (case hx => exact ⟨rfl, rfl, rfl⟩); (case hk => decide +kernel); (case hg => (repeat (first | exact Lx.ua _ _ _ | rw [Lx.un _ _ (by omega)] | rw [Lx.am]))); (case hG => intro w_ u_ hw_ hb_ ho_; refine (?_ : KG _) _ _ hw_.more (OnlyAt.eq44 hb_ ho_); repeat (first | exact KG.nil | (with_reducible apply KG.upd) | (with_reducible apply KG.addA) | (with_reducible apply KG.addB))); (case hrun => intro w_ hw_ hb_; obtain ⟨c0, c1, c2⟩ := Lx.cells3 hb_; obtain ⟨d0, d1, d2⟩ := Lx.froz3 hb_; refine ⟨?_, ?_, ?_, ?_⟩; rotate_left; (next => (go_simp <;> first | with_reducible rfl | rfl)); (next => (repeat (first | (with_reducible exact Lx.OnlyAt.refl _ _) | (with_reducible refine Lx.OnlyAt.set ?_ _ _)))); (next => with_reducible exact Lx.sets3 hb_)); simp only [Act.put, Lx.p1, Lx.p2, Lx.p3])
  first
    | (apply Lx.ksG HO 7 (g := gb); (case hx => exact ⟨rfl, rfl, rfl⟩); (case hk => decide +kernel); (case hg => (repeat (first | exact Lx.ua _ _ _ | rw [Lx.un _ _ (by omega)] | rw [Lx.am]))); (case hG => intro w_ u_ hw_ hb_ ho_; refine (?_ : KG _) _ _ hw_.more (OnlyAt.eq44 hb_ ho_); repeat (first | exact KG.nil | (with_reducible apply KG.upd) | (with_reducible apply KG.addA) | (with_reducible apply KG.addB))); (case hrun => intro w_ hw_ hb_; obtain ⟨c0, c1, c2⟩ := Lx.cells3 hb_; obtain ⟨d0, d1, d2⟩ := Lx.froz3 hb_; refine ⟨?_, ?_, ?_, ?_⟩; rotate_left; (next => (go_simp <;> first | with_reducible rfl | rfl)); (next => (repeat (first | (with_reducible exact Lx.OnlyAt.refl _ _) | (with_reducible refine Lx.OnlyAt.set ?_ _ _)))); (next => with_reducible exact Lx.sets3 hb_)); simp only [Act.put, Lx.p1, Lx.p2, Lx.p3])
  refine Lx.kd HO (by kernel_rfl) (fun hiv2 => hZ _ _ (fun Wc hw2 => ?_))
  clear hZ Z HO O
  have mB_ : ∃ m, w.heap.size ≤ m ∧ OwnI Wc w.heap.size m (.slice X1 nx1 cx1) (.slice X2 nx2 cx2) (.slice X3 nx3 cx3) P ∧ OwnAt Wc m (.slice Y1 ny1 cy1) (.slice Y2 ny2 cy2) (.slice Y3 ny3 cy3) P P.codes.length P.sites.length := (by have m_ := hw2.more; repeat (first | (with_reducible exact Lx.m0 m_) | (with_reducible replace m_ := Lx.mU m_) | (with_reducible replace m_ := Lx.mS m_)))
  obtain ⟨m, hm0, hmI, hmO⟩ := mB_
  have hcw : CopyW Wc w.heap.size m ga gb (.slice X1 nx1 cx1) (.slice X2 nx2 cx2) (.slice X3 nx3 cx3) (.slice Y1 ny1 cy1) (.slice Y2 ny2 cy2) (.slice Y3 ny3 cy3) P := ⟨hm0, hmI, hmO, hw2.holds ga _ (by (repeat (first | exact Lx.ua _ _ _ | rw [Lx.un _ _ (by omega)] | rw [Lx.am]))), hw2.holds gb _ (by (repeat (first | exact Lx.ua _ _ _ | rw [Lx.un _ _ (by omega)] | rw [Lx.am])))⟩
  have HPB := Lib.hid (hw2.holds (w.heap.size) _ (by (repeat (first | exact Lx.ua _ _ _ | rw [Lx.un _ _ (by omega)] | rw [Lx.am]))))
  have HB := Lib.hid hw2.below
  have HP := Lib.hid (HP0.out.keep hw2.below)
  have HRA := Lib.hid (hmI.at.prog HP0.out HSM.out)
  have HRB := Lib.hid (hmO.prog HP0.out HSM.out)
  have HCW := Lib.hid hcw
  clear hcw hm0 hmI hmO hw2 hiv2 HIN
  obtain rfl : nx1 = P.caps.length := by obtain ⟨_, _, e, _⟩ := HRA.out.caps.val; injection e
  obtain rfl : nx2 = P.codes.length := by obtain ⟨_, _, e, _⟩ := HRA.out.codes.val; injection e
  obtain rfl : nx3 = P.sites.length := by obtain ⟨_, _, e, _⟩ := HRA.out.sites.val; injection e
  obtain ⟨p0, p1, p2⟩ := Lx.cells3 HPB.out
  have hpl := (Array.getElem?_eq_some_iff.1 HPB.out).1
  obtain ⟨a0, a1, a2⟩ := Lx.cells3 HCW.out.boxA
  have hal := (Array.getElem?_eq_some_iff.1 HCW.out.boxA).1
  obtain ⟨b0, b1, b2⟩ := Lx.cells3 HCW.out.boxB
  have hbl := (Array.getElem?_eq_some_iff.1 HCW.out.boxB).1
  have HIN := Lib.hid (Lx.II.nil (Below.refl Wc.heap.size Wc))
  go_upto_region 4 with fail
  refine Lx.regionS0 (by kernel_rfl) (by kernel_rfl) HIN.out.1 HIN.out.2 (by simp only [List.size_toArray, List.length_cons, List.length_nil, Nat.reduceAdd]; rfl) (fun O Z hO hZ => ?_); have HO := Lib.hid hO; clear hO
  first
    | (apply Lx.kr HO 0; (case hx => exact ⟨rfl, rfl, rfl⟩); (case hk => decide +kernel); (case hv => intro w_ hw_; have z0_ := Below.at hw_.below a0 hal; have z1_ := Below.at hw_.below a1 hal; have z2_ := Below.at hw_.below a2 hal; (go_simp <;> first | with_reducible rfl | exact ⟨rfl, rfl⟩)); simp only [Act.put, Lx.p1, Lx.p2, Lx.p3])
  first
    | (apply Lx.kr HO 1; (case hx => exact ⟨rfl, rfl, rfl⟩); (case hk => decide +kernel); (case hv => intro w_ hw_; have z0_ := Below.at hw_.below p0 hpl; have z1_ := Below.at hw_.below p1 hpl; have z2_ := Below.at hw_.below p2 hpl; (go_simp <;> first | with_reducible rfl | exact ⟨rfl, rfl⟩)); simp only [Act.put, Lx.p1, Lx.p2, Lx.p3])
  first
    | (apply Lx.kc HO 2; (case hx => exact ⟨rfl, rfl, rfl⟩); (case hk => decide +kernel); (case hrun => intro w_; (go_simp <;> first | with_reducible rfl | exact ⟨rfl, rfl⟩)); (case hc => intro w_ hw_; with_reducible exact rSame_yes (HRA.out.keep hw_.below) (HP.out.keep hw_.below)); simp only [Act.put, Lx.p1, Lx.p2, Lx.p3])
  first
    | (apply Lx.kp HO 3; (case hx => exact ⟨rfl, rfl, rfl⟩); (case hk => decide +kernel); (case hv => intro w_ hw_; (go_simp <;> first | with_reducible rfl | exact ⟨rfl, rfl⟩)); simp only [Act.put, Lx.p1, Lx.p2, Lx.p3])
  first
    | (apply Lx.kp HO 4; (case hx => exact ⟨rfl, rfl, rfl⟩); (case hk => decide +kernel); (case hv => intro w_ hw_; (go_simp <;> first | with_reducible rfl | exact ⟨rfl, rfl⟩)); simp only [Act.put, Lx.p1, Lx.p2, Lx.p3])
  first
    | (apply Lx.kr HO 5; (case hx => exact ⟨rfl, rfl, rfl⟩); (case hk => decide +kernel); (case hv => intro w_ hw_; have z0_ := Below.at hw_.below b0 hbl; have z1_ := Below.at hw_.below b1 hbl; have z2_ := Below.at hw_.below b2 hbl; (go_simp <;> first | with_reducible rfl | exact ⟨rfl, rfl⟩)); simp only [Act.put, Lx.p1, Lx.p2, Lx.p3])
  first
    | (apply Lx.kr HO 6; (case hx => exact ⟨rfl, rfl, rfl⟩); (case hk => decide +kernel); (case hv => intro w_ hw_; have z0_ := Below.at hw_.below p0 hpl; have z1_ := Below.at hw_.below p1 hpl; have z2_ := Below.at hw_.below p2 hpl; (go_simp <;> first | with_reducible rfl | exact ⟨rfl, rfl⟩)); simp only [Act.put, Lx.p1, Lx.p2, Lx.p3])
  first
    | (apply Lx.kc HO 7; (case hx => exact ⟨rfl, rfl, rfl⟩); (case hk => decide +kernel); (case hrun => intro w_; (go_simp <;> first | with_reducible rfl | exact ⟨rfl, rfl⟩)); (case hc => intro w_ hw_; with_reducible exact rSame_yes (HRB.out.keep hw_.below) (HP.out.keep hw_.below)); simp only [Act.put, Lx.p1, Lx.p2, Lx.p3])
  first
    | (apply Lx.kp HO 8; (case hx => exact ⟨rfl, rfl, rfl⟩); (case hk => decide +kernel); (case hv => intro w_ hw_; (go_simp <;> first | with_reducible rfl | exact ⟨rfl, rfl⟩)); simp only [Act.put, Lx.p1, Lx.p2, Lx.p3])
  first
    | (apply Lx.kp HO 9; (case hx => exact ⟨rfl, rfl, rfl⟩); (case hk => decide +kernel); (case hv => intro w_ hw_; (go_simp <;> first | with_reducible rfl | exact ⟨rfl, rfl⟩)); simp only [Act.put, Lx.p1, Lx.p2, Lx.p3])
  refine Lx.kd HO (by kernel_rfl) (fun hiv2 => hZ _ _ (fun W4 hw2 => ?_))
  clear hZ Z HO O
  have hin_ := Lib.hid (And.intro hw2 hiv2 : Lx.II _ _ _ _)
  clear hw2 hiv2
  replace HIN := Lib.hid (Lx.II.nil hin_.out.1.below)
  clear hin_
  have hb5 := HIN.out.1.below
  clear HIN p0 p1 p2 a0 a1 a2 b0 b1 b2
  replace HPB := Lib.hid ((hb5.block _ hpl).trans HPB.out)
  replace HB := Lib.hid (HB.out.trans (hb5.mono HB.out.size))
  have hcw : CopyW W4 w.heap.size m ga gb (.slice X1 P.caps.length cx1) (.slice X2 P.codes.length cx2) (.slice X3 P.sites.length cx3) (.slice Y1 ny1 cy1) (.slice Y2 ny2 cy2) (.slice Y3 ny3 cy3) P := ⟨HCW.out.le, HCW.out.a.keeps (Keeps.of_below hb5), HCW.out.b.keeps (Keeps.of_below hb5), (hb5.block _ hal).trans HCW.out.boxA, (hb5.block _ hbl).trans HCW.out.boxB⟩
  replace HCW := Lib.hid hcw
  clear hcw hb5 hpl hal hbl HRA HRB HP
  obtain ⟨vs, ⟨hv2, hhi2⟩, hin2⟩ := HCW.out.a.codes
  obtain ⟨ds, ⟨hv3, hhi3⟩, hdl3, hin3⟩ := HCW.out.a.sites
  have HV2 := Lib.hid hv2
  have HH2 := Lib.hid hhi2
  have HI2 := Lib.hid hin2
  have HV3 := Lib.hid hv3
  have HD3 := Lib.hid hdl3
  have HI3 := Lib.hid hin3
  clear hv2 hhi2 hin2 hv3 hhi3 hdl3 hin3
  have HWR := Lib.hid (Wrote.refl w.heap.size m W4)
  have hA_ := (HWR.out.fixed _ _ _ _ HCW.out.boxA (.inl rfl)).trans HCW.out.boxA
  obtain ⟨a0, a1, a2⟩ := Lx.cells3 hA_
  have hal := (Array.getElem?_eq_some_iff.1 hA_).1
  clear hA_
  go_wp2
  clear a0 a1 a2 hal
  go_loopw [5] (fun i wr => ∃ k : Nat, k ≤ P.caps.length ∧ i = .int .i64 k ∧ Wrote w.heap.size m W4 wr ∧ Keeps 3 W4 wr) (fun i _ => P.caps.length - (intOf i).toNat)
  case atStart => exact ⟨0, Nat.zero_le _, rfl, HWR.out, fun _ _ _ _ _ _ => rfl⟩
  case round =>
    obtain ⟨k, hk, rfl, hwr, hke⟩ := hrel
    clear HWR
    have HWR := Lib.hid hwr
    have HKE := Lib.hid hke
    clear hwr hke
    have hA_ := (HWR.out.fixed _ _ _ _ HCW.out.boxA (.inl rfl)).trans HCW.out.boxA
    obtain ⟨a0, a1, a2⟩ := Lx.cells3 hA_
    have hal := (Array.getElem?_eq_some_iff.1 hA_).1
    clear hA_
    by_cases hlt : k < P.caps.length
    case pos =>
      obtain ⟨g, cap, cur, hv, hlo, hh, hgl, hcell, hfr⟩ := row_at HWR.out HCW.out.a.caps.1 (by omega)
      have hgm := HCW.out.a.caps.2 g (by rw [hv]; rfl)
      obtain ⟨rfl, rfl⟩ : X1 = some ⟨g, 0, none⟩ ∧ cx1 = cap := by simpa using hv
      clear hv
      obtain ⟨u, hu⟩ := hcell k (by omega)
      have hf_ := hfr k
      have HH := Lib.hid hh
      clear hcell hfr hh
      have hk0 : (0 : Int) ≤ (k : Int) := by omega
      have hk1 : (k : Int) < (P.caps.length : Int) := by omega
      go_wp2
      go_roundw
      case rel => exact ⟨k + 1, hlt, by go_num, HWR.out.set ⟨hlo, hgm⟩ HH.out ⟨by decide, by decide⟩ _ _, HKE.out.trans (by obtain ⟨c_, hc_, _⟩ := HWR.out.shape _ _ _ _ HH.out; exact Keeps.of_set hc_ _ _)⟩
      case measure => simp [intOf]; omega
    case neg =>
      obtain rfl : k = P.caps.length := by omega
      obtain ⟨wo, rfl⟩ : ∃ wo : World, wo = wr := ⟨_, rfl⟩
      have HRC := Lib.hid (RestC.start HV2.out HKE.out (by decide))
      go_wp2
      clear a0 a1 a2 hal
      go_loopw [6] (fun i wr => ∃ k : Nat, k ≤ P.codes.length ∧ i = .int .i64 k ∧ Wrote w.heap.size m W4 wr ∧ RestC (.slice X2 P.codes.length cx2) vs k wr) (fun i _ => P.codes.length - (intOf i).toNat)
      case atStart => exact ⟨0, Nat.zero_le _, rfl, HWR.out, HRC.out⟩
      case round =>
        obtain ⟨i, hi, rfl, hwr, hrc⟩ := hrel
        clear HWR HRC HKE
        have HWR := Lib.hid hwr
        have HRC := Lib.hid hrc
        clear hwr hrc
        have hA_ := (HWR.out.fixed _ _ _ _ HCW.out.boxA (.inl rfl)).trans HCW.out.boxA
        obtain ⟨a0, a1, a2⟩ := Lx.cells3 hA_
        have hal := (Array.getElem?_eq_some_iff.1 hA_).1
        clear hA_
        by_cases hlti : i < P.codes.length
        case pos =>
          obtain ⟨g, cap, cur, hv, hlo, hh, hgl, hcell, hfr⟩ := row_at HWR.out HV2.out (by omega)
          have hgm := HH2.out g (by rw [hv]; rfl)
          obtain ⟨rfl, rfl⟩ : X2 = some ⟨g, 0, none⟩ ∧ cx2 = cap := by simpa using hv
          clear hv hcell
          have hlv : i < vs.length := by have := HV2.out.1; omega
          have hgv : vs[i]? = some vs[i] := List.getElem?_eq_getElem hlv
          obtain ⟨l, hl⟩ : ∃ l, P.codes[i]? = some l := ⟨_, List.getElem?_eq_getElem hlti⟩
          have hrow := HI2.out i l _ hl hgv
          have hcv := HRC.out g _ _ rfl i _ (Nat.le_refl _) hgv
          have HRL := Lib.hid (show l.length ≤ 1000000 from HSM.out.code l (List.mem_of_getElem? hl))
          generalize vs[i] = v at *
          obtain ⟨V, vc, rfl⟩ := own_form hrow.1
          have HROW := Lib.hid hrow
          have HG := Lib.hid hh
          have hll := HRL.out
          clear hrow hh hl hgv hlv
          have hf_ := hfr i
          clear hfr
          have HF := Lib.hid hf_
          clear hf_
          have HCV := Lib.hid hcv
          have hi0 : (0 : Int) ≤ (i : Int) := by omega
          have hi1 : (i : Int) < (P.codes.length : Int) := by omega
          obtain ⟨wo, rfl⟩ : ∃ wo : World, wo = wr := ⟨_, rfl⟩
          go_wp2
          clear a0 a1 a2 hal hcv
          go_loopw [7] (fun j wr => ∃ k : Nat, k ≤ l.length ∧ j = .int .i64 k ∧ Wrote w.heap.size m W4 wr ∧ RestC (.slice (some ⟨g, 0, none⟩) P.codes.length cx2) vs i wr ∧ wr.cell? ⟨g, i, none⟩ = some (.slice V l.length vc)) (fun j _ => l.length - (intOf j).toNat)
          case atStart => exact ⟨0, Nat.zero_le _, rfl, HWR.out, HRC.out, HCV.out⟩
          case round =>
            obtain ⟨k, hk, rfl, hwr, hrc, hcv⟩ := hrel
            clear HWR HRC HCV
            have HWR := Lib.hid hwr
            have HRC := Lib.hid hrc
            have HCV := Lib.hid hcv
            clear hwr hrc
            have hgl2 : g < wr.heap.size := by have := HWR.out.size; have := (Array.getElem?_eq_some_iff.1 HG.out).1; omega
            have hA_ := (HWR.out.fixed _ _ _ _ HCW.out.boxA (.inl rfl)).trans HCW.out.boxA
            obtain ⟨a0, a1, a2⟩ := Lx.cells3 hA_
            have hal := (Array.getElem?_eq_some_iff.1 hA_).1
            clear hA_
            by_cases hltk : k < l.length
            case pos =>
              obtain ⟨gi, capi, curi, hv, hloi, hhi, hgli, hcell, hfr⟩ := row_at HWR.out HROW.out.1 (by omega)
              have hgmi := HROW.out.2 gi (by rw [hv]; rfl)
              obtain ⟨rfl, rfl⟩ : V = some ⟨gi, 0, none⟩ ∧ vc = capi := by simpa using hv
              clear hv
              obtain ⟨u0, hu0⟩ := hcell (k * 5) (by omega)
              obtain ⟨u1, hu1⟩ := hcell (k * 5 + 1) (by omega)
              obtain ⟨u2, hu2⟩ := hcell (k * 5 + 2) (by omega)
              obtain ⟨u3, hu3⟩ := hcell (k * 5 + 3) (by omega)
              obtain ⟨u4, hu4⟩ := hcell (k * 5 + 4) (by omega)
              have f0 := hfr (k * 5)
              have f1 := hfr (k * 5 + 1)
              have f2 := hfr (k * 5 + 2)
              have f3 := hfr (k * 5 + 3)
              have f4 := hfr (k * 5 + 4)
              clear hcell hfr
              have hne : gi ≠ g := by (rintro rfl; rw [HG.out] at hhi; injection hhi with q_; injection q_ with _ q2_; exact absurd q2_ (by decide))
              have HGI := Lib.hid hhi
              clear hhi
              have hk0 : (0 : Int) ≤ (k : Int) := by omega
              have hk1 : (k : Int) < (l.length : Int) := by omega
              go_wp2
              go_roundw
              case rel => exact ⟨k + 1, hltk, by go_num, ((((HWR.out.set ⟨hloi, hgmi⟩ HGI.out ⟨by decide, by decide⟩ _ _).set ⟨hloi, hgmi⟩ HGI.out ⟨by decide, by decide⟩ _ _).set ⟨hloi, hgmi⟩ HGI.out ⟨by decide, by decide⟩ _ _).set ⟨hloi, hgmi⟩ HGI.out ⟨by decide, by decide⟩ _ _).set ⟨hloi, hgmi⟩ HGI.out ⟨by decide, by decide⟩ _ _, ((((HRC.out.set hne _ _).set hne _ _).set hne _ _).set hne _ _).set hne _ _, cell_other hne (cell_other hne (cell_other hne (cell_other hne (cell_other hne HCV.out))))⟩
              case measure => simp [intOf]; omega
            case neg =>
              obtain rfl : k = l.length := by omega
              have hf_ : wr.frozen? ⟨g, i, none⟩ = false := by obtain ⟨c_, hc_, _⟩ := HWR.out.shape _ _ _ _ HG.out; simp [World.frozen?, hc_]
              go_wp2
              go_roundw
              case rel => exact ⟨i + 1, hlti, by go_num, HWR.out.set ⟨hlo, hgm⟩ HG.out ⟨by decide, by decide⟩ _ _, HRC.out.next _⟩
              case measure => simp [intOf]; omega
        case neg =>
          obtain rfl : i = P.codes.length := by omega
          obtain ⟨wo, rfl⟩ : ∃ wo : World, wo = wr := ⟨_, rfl⟩
          go_wp2
          clear a0 a1 a2 hal
          go_loopw [8] (fun i wr => ∃ k : Nat, k ≤ P.sites.length ∧ i = .int .i64 k ∧ Wrote w.heap.size m W4 wr) (fun i _ => P.sites.length - (intOf i).toNat)
          case atStart => exact ⟨0, Nat.zero_le _, rfl, HWR.out⟩
          case round =>
            obtain ⟨i, hi, rfl, hwr⟩ := hrel
            clear HWR HRC
            have HWR := Lib.hid hwr
            clear hwr
            have hA_ := (HWR.out.fixed _ _ _ _ HCW.out.boxA (.inl rfl)).trans HCW.out.boxA
            obtain ⟨a0, a1, a2⟩ := Lx.cells3 hA_
            have hal := (Array.getElem?_eq_some_iff.1 hA_).1
            clear hA_
            by_cases hlti : i < P.sites.length
            case pos =>
              obtain ⟨g, cap, cur, hv, hlo, hh, hgl, hcell, hfr⟩ := row_at HWR.out HV3.out (by omega)
              obtain ⟨rfl, rfl⟩ : X3 = some ⟨g, 0, none⟩ ∧ cx3 = cap := by simpa using hv
              clear hv hcell hfr
              obtain ⟨s, hs⟩ : ∃ s, P.sites[i]? = some s := ⟨_, List.getElem?_eq_getElem hlti⟩
              have hld : i < ds.length := by have := HD3.out; omega
              have hgd : ds[i]? = some ds[i] := List.getElem?_eq_getElem hld
              have hrow := (HI3.out i s _ hs hgd).2
              have hcv : W4.cell? ⟨g, i * 2, none⟩ = some (ds[i]).1 := site_cell HV3.out hgd
              have HRL := Lib.hid (show s.cases.length ≤ 1000000 from HSM.out.site s (List.mem_of_getElem? hs))
              generalize (ds[i]).1 = v at *
              obtain ⟨V, vc, rfl⟩ := own_form hrow.1
              have HROW := Lib.hid hrow
              have HG := Lib.hid hh
              have HCV := Lib.hid hcv
              have hll := HRL.out
              clear hrow hh hs hgd hld hcv
              have hcvw := fixed_cell HWR.out HG.out (.inr rfl) HCV.out
              have hi0 : (0 : Int) ≤ (i : Int) := by omega
              have hi1 : (i : Int) < (P.sites.length : Int) := by omega
              obtain ⟨wo, rfl⟩ : ∃ wo : World, wo = wr := ⟨_, rfl⟩
              go_wp2
              clear a0 a1 a2 hal hcvw
              go_loopw [9] (fun j wr => ∃ k : Nat, k ≤ s.cases.length ∧ j = .int .i64 k ∧ Wrote w.heap.size m W4 wr) (fun j _ => s.cases.length - (intOf j).toNat)
              case atStart => exact ⟨0, Nat.zero_le _, rfl, HWR.out⟩
              case round =>
                obtain ⟨k, hk, rfl, hwr⟩ := hrel
                clear HWR
                have HWR := Lib.hid hwr
                clear hwr
                have hcvw := fixed_cell HWR.out HG.out (.inr rfl) HCV.out
                have hgl2 : g < wr.heap.size := by have := HWR.out.size; have := (Array.getElem?_eq_some_iff.1 HG.out).1; omega
                have hA_ := (HWR.out.fixed _ _ _ _ HCW.out.boxA (.inl rfl)).trans HCW.out.boxA
                obtain ⟨a0, a1, a2⟩ := Lx.cells3 hA_
                have hal := (Array.getElem?_eq_some_iff.1 hA_).1
                clear hA_
                by_cases hltk : k < s.cases.length
                case pos =>
                  obtain ⟨gi, capi, curi, hv, hloi, hhi, hgli, hcell, hfr⟩ := row_at HWR.out HROW.out.1 (by omega)
                  have hgmi := HROW.out.2 gi (by rw [hv]; rfl)
                  obtain ⟨rfl, rfl⟩ : V = some ⟨gi, 0, none⟩ ∧ vc = capi := by simpa using hv
                  clear hv
                  obtain ⟨u0, hu0⟩ := hcell (k * 4) (by omega)
                  obtain ⟨u1, hu1⟩ := hcell (k * 4 + 1) (by omega)
                  obtain ⟨u2, hu2⟩ := hcell (k * 4 + 2) (by omega)
                  obtain ⟨u3, hu3⟩ := hcell (k * 4 + 3) (by omega)
                  have f0 := hfr (k * 4)
                  have f1 := hfr (k * 4 + 1)
                  have f2 := hfr (k * 4 + 2)
                  have f3 := hfr (k * 4 + 3)
                  clear hcell hfr
                  have HGI := Lib.hid hhi
                  clear hhi
                  have hk0 : (0 : Int) ≤ (k : Int) := by omega
                  have hk1 : (k : Int) < (s.cases.length : Int) := by omega
                  go_wp2
                  go_roundw
                  case rel => exact ⟨k + 1, hltk, by go_num, (((HWR.out.set ⟨hloi, hgmi⟩ HGI.out ⟨by decide, by decide⟩ _ _).set ⟨hloi, hgmi⟩ HGI.out ⟨by decide, by decide⟩ _ _).set ⟨hloi, hgmi⟩ HGI.out ⟨by decide, by decide⟩ _ _).set ⟨hloi, hgmi⟩ HGI.out ⟨by decide, by decide⟩ _ _⟩
                  case measure => simp [intOf]; omega
                case neg =>
                  obtain rfl : k = s.cases.length := by omega
                  go_wp2
                  go_roundw
                  case rel => exact ⟨i + 1, hlti, by go_num, HWR.out⟩
                  case measure => simp [intOf]; omega
            case neg =>
              obtain rfl : i = P.sites.length := by omega
              have hbf := HWR.out.below
              have HPF := Lib.hid (HP0.out.keep (HB.out.trans hbf))
              have HRB := Lib.hid ((HWR.out.keep HCW.out.b).prog HP0.out HSM.out)
              have HBF := Lib.hid (HB.out.trans hbf)
              clear hbf
              have hB_ := (HWR.out.fixed _ _ _ _ HCW.out.boxB (.inl rfl)).trans HCW.out.boxB
              have hP_ := (HWR.out.fixed _ _ _ _ HPB.out (.inl rfl)).trans HPB.out
              go_upto_region 25 with fail
              clear a0 a1 a2 hal
              obtain ⟨b0, b1, b2⟩ := Lx.cells3 hB_
              have hbl := (Array.getElem?_eq_some_iff.1 hB_).1
              obtain ⟨p0, p1, p2⟩ := Lx.cells3 hP_
              have hpl := (Array.getElem?_eq_some_iff.1 hP_).1
              clear hB_ hP_
              have HIN := Lib.hid (Lx.II.nil (Below.refl wr.heap.size wr))
              refine Lx.regionS0 (by kernel_rfl) (by kernel_rfl) HIN.out.1 HIN.out.2 (by simp only [List.size_toArray, List.length_cons, List.length_nil, Nat.reduceAdd]; rfl) (fun O Z hO hZ => ?_); have HO := Lib.hid hO; clear hO
              first
                | (apply Lx.kr HO 0; (case hx => exact ⟨rfl, rfl, rfl⟩); (case hk => decide +kernel); (case hv => intro w_ hw_; have z0_ := Below.at hw_.below b0 hbl; have z1_ := Below.at hw_.below b1 hbl; have z2_ := Below.at hw_.below b2 hbl; (go_simp <;> first | with_reducible rfl | exact ⟨rfl, rfl⟩)); simp only [Act.put, Lx.p1, Lx.p2, Lx.p3])
              first
                | (apply Lx.kr HO 1; (case hx => exact ⟨rfl, rfl, rfl⟩); (case hk => decide +kernel); (case hv => intro w_ hw_; have z0_ := Below.at hw_.below p0 hpl; have z1_ := Below.at hw_.below p1 hpl; have z2_ := Below.at hw_.below p2 hpl; (go_simp <;> first | with_reducible rfl | exact ⟨rfl, rfl⟩)); simp only [Act.put, Lx.p1, Lx.p2, Lx.p3])
              first
                | (apply Lx.kc HO 2; (case hx => exact ⟨rfl, rfl, rfl⟩); (case hk => decide +kernel); (case hrun => intro w_; (go_simp <;> first | with_reducible rfl | exact ⟨rfl, rfl⟩)); (case hc => intro w_ hw_; with_reducible exact rSame_yes (HRB.out.keep hw_.below) (HPF.out.keep hw_.below)); simp only [Act.put, Lx.p1, Lx.p2, Lx.p3])
              first
                | (apply Lx.kp HO 3; (case hx => exact ⟨rfl, rfl, rfl⟩); (case hk => decide +kernel); (case hv => intro w_ hw_; (go_simp <;> first | with_reducible rfl | exact ⟨rfl, rfl⟩)); simp only [Act.put, Lx.p1, Lx.p2, Lx.p3])
              first
                | (apply Lx.kc HO 4; (case hx => exact ⟨rfl, rfl, rfl⟩); (case hk => decide +kernel); (case hrun => intro w_; (go_simp <;> first | with_reducible rfl | exact ⟨rfl, rfl⟩)); (case hc => intro w_ hw_; exact HAL.out _); simp only [Act.put, Lx.p1, Lx.p2, Lx.p3])
              first
                | (apply Lx.kp HO 5; (case hx => exact ⟨rfl, rfl, rfl⟩); (case hk => decide +kernel); (case hv => intro w_ hw_; (go_simp <;> first | with_reducible rfl | exact ⟨rfl, rfl⟩)); simp only [Act.put, Lx.p1, Lx.p2, Lx.p3])
              first
                | (apply Lx.kp HO 6; (case hx => exact ⟨rfl, rfl, rfl⟩); (case hk => decide +kernel); (case hv => intro w_ hw_; (go_simp <;> first | with_reducible rfl | exact ⟨rfl, rfl⟩)); simp only [Act.put, Lx.p1, Lx.p2, Lx.p3])
              refine Lx.kd HO (by kernel_rfl) (fun hiv2 => hZ _ _ (fun W5 hw2 => ?_))
              clear hZ Z HO O
              have hin_ := Lib.hid (And.intro hw2 hiv2 : Lx.II _ _ _ _)
              clear hw2 hiv2
              replace HIN := Lib.hid (Lx.II.nil hin_.out.1.below)
              clear hin_
              clear b0 b1 b2 p0 p1 p2
              go_wp2
              go_ret
              exact ⟨rfl, HBF.out.trans (HIN.out.1.below.mono HBF.out.size)⟩
end Go.Proofs.Ytljfloopjgpaeaa
