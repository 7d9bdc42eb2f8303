/- task.Add. -/
import Derived.Test.YtljfloopjgpaeaaSI
namespace Go.Proofs.Ytljfloopjgpaeaa
set_option linter.unusedVariables false
set_option linter.unusedSimpArgs false
open Go.RowKit Go.Shelf
attribute [local go_sem] Oper.semAt_some
set_option maxRecDepth 100000
/-- How many cases a site has. -/
def cn (P : ProgV) (i : Nat) : Nat := ((P.sites[i]?).map fun s => s.cases.length).getD 0
/-- No table's block, and no row of tasks. -/
def NotT : Obj → Prop
  | .cells _ t _ => t ≠ 152 ∧ t ≠ 153
  | _ => True
def KeepT (W W' : World) : Prop := ∀ (k : Nat) (o : Obj), W.heap[k]? = some o → NotT o → W'.heap[k]? = some o
theorem KeepT.trans {A B C : World} (h : KeepT A B) (k : KeepT B C) : KeepT A C := fun i o hi ho => k i o (h i o hi ho) ho
theorem KeepT.of_below {W W' : World} (h : Below W.heap.size W W') : KeepT W W' := fun k _ hk _ => (h.block k (Array.getElem?_eq_some_iff.1 hk).1).trans hk
theorem KeepT.of_grown {W W' : World} {B n : Nat} {v : Value} {xs : List Value} (ho : W.ownsRow B 153 1 v n xs) (hg : W.grownBy W' v.ownBlock) : KeepT W W' := fun k o hk hn => by
  refine (hg.block k (Array.getElem?_eq_some_iff.1 hk).1 ?_).trans hk
  intro e
  rcases ho.2 with ⟨rfl, _⟩ | ⟨g, cap, cur, rfl, _, hh, _⟩
  · cases e
  · injection e with e
    subst e
    rw [show W.heap[(⟨k, 0, none⟩ : Addr).block]? = _ from hk] at hh
    injection hh with hh
    subst hh
    exact hn.2 rfl
theorem KeepT.set {W : World} {T : Nat} {x1 x2 x3 v : Value} (h : TabAt W T x1 x2 x3 v) (i : Nat) (u : Value) : KeepT W (W.setCell ⟨T, i, none⟩ u) := fun k o hk hn => by
  refine (Below.heap_setCell _ _ _ _ ?_).trans hk
  rintro rfl
  rw [show W.heap[k]? = _ from h] at hk
  cases hk
  exact hn.1 rfl
/-- A task, as it was made: its orders, by sites. -/
structure TaskB (W : World) (X : Nat) (used : Int) (sl : Value) (M : Nat) (ob : Nat → Nat) (a : Nat → Nat → Int) (P : ProgV) (m B : Nat) : Prop where
  one : OneAt W X used sl M
  map : MapAt W M (fun i => if i < m then some (.pointer (some ⟨ob i, 0, none⟩)) else none)
  ord : ∀ i, i < m → OrdB W (ob i) (a i) (cn P i)
  oge : ∀ i, i < m → B ≤ ob i
  ge : B ≤ X ∧ B ≤ M
theorem TaskB.keep {W W' : World} {X : Nat} {used : Int} {sl : Value} {M : Nat} {ob : Nat → Nat} {a : Nat → Nat → Int} {P : ProgV} {m B : Nat} (h : TaskB W X used sl M ob a P m B) (hk : KeepT W W') : TaskB W' X used sl M ob a P m B := by
  obtain ⟨es, n, h1, h2⟩ := h.map
  exact ⟨hk _ _ h.one ⟨by decide, by decide⟩, ⟨es, n, hk _ _ h1 trivial, h2⟩, fun i hi => ⟨hk _ _ (h.ord i hi).here ⟨by decide, by decide⟩⟩, h.oge, h.ge⟩
theorem MapAt.put {W : World} {M : Nat} {d : Nat → Option Value} (h : MapAt W M d) {i : Nat} (hi : i < 32) (hd : d i = none) (v : Value) :
    ∃ o, (Instr.mapUpdate 156 (.map (some M)) (.int .i64 i) v).run Try.prog W = .ok () (W.putObj M o) ∧ MapAt (W.putObj M o) M (updF d i (some v)) := by
  obtain ⟨es, n, h1, h2⟩ := h
  refine ⟨_, run_mapPut (P := Try.prog) Try.underlying156 Try.underlying3 h1 i v (h2.findNone .i64 (fun j hj e => (show i = j by omega) ▸ hd)), _, _, World.putObj_heap_same (Array.getElem?_eq_some_iff.1 h1).1, h2.put hi hd v n⟩
theorem TaskB.next {W W2 : World} {X M k : Nat} {ob : Nat → Nat} {P : ProgV} {B b : Nat} {o : Obj} (h : TaskB W X 0 (.slice none 0 0) M ob (fun i => riseF (cn P i)) P k B) (hb : Below W.heap.size W W2) (hB : B ≤ W.heap.size) (hob : OrdB W2 b (riseF (cn P k)) (cn P k)) (hge : W.heap.size ≤ b)
    (hm : MapAt (W2.putObj M o) M (updF (fun i => if i < k then some (.pointer (some ⟨ob i, 0, none⟩)) else none) k (some (.pointer (some ⟨b, 0, none⟩))))) :
    TaskB (W2.putObj M o) X 0 (.slice none 0 0) M (updF ob k b) (fun i => riseF (cn P i)) P (k + 1) B := by
  have hM := h.map.lt
  have hk := KeepT.of_below hb
  have h2 := h.keep hk
  have ne : ∀ {c : Nat} {a : Nat → Int} {n : Nat}, OrdB W2 c a n → c ≠ M := fun ho e => by
    subst e
    obtain ⟨es, n, q, _⟩ := h2.map
    rw [ho.here] at q
    cases q
  have nX : X ≠ M := fun e => by
    subst e
    obtain ⟨es, n, q, _⟩ := h2.map
    rw [show W2.heap[X]? = _ from h2.one] at q
    cases q
  refine ⟨(World.putObj_heap_other nX).trans h2.one, ?_, fun i hi => ?_, fun i hi => ?_, h.ge⟩
  · obtain ⟨es, n, q1, q2⟩ := hm
    refine ⟨es, n, q1, q2.congr fun i _ => ?_⟩
    by_cases e : i = k
    · subst e; simp [updF]
    · by_cases e2 : i < k
      · simp [updF, e, e2, show i < k + 1 by omega]
      · simp [updF, e, e2, show ¬ i < k + 1 by omega]
  · by_cases e : i = k
    · subst e
      simp only [updF, if_true]
      exact ⟨(World.putObj_heap_other (ne hob)).trans hob.here⟩
    · simp only [updF, e, if_false]
      have := h2.ord i (by omega)
      exact ⟨(World.putObj_heap_other (ne this)).trans this.here⟩
  · by_cases e : i = k
    · subst e; simp only [updF, if_true]; omega
    · simp only [updF, e, if_false]; exact h.oge i (by omega)
theorem TabAt.grown {W W' : World} {T B n : Nat} {x1 x2 x3 s v : Value} {xs : List Value} (h : TabAt W T x1 x2 x3 s) (ho : W.ownsRow B 153 1 v n xs) (hg : W.grownBy W' v.ownBlock) : TabAt W' T x1 x2 x3 s := by
  refine (hg.block T h.lt ?_).trans h
  intro e
  rcases ho.2 with ⟨rfl, _⟩ | ⟨g, cap, cur, rfl, _, hh, _⟩
  · cases e
  · injection e with e
    subst e
    rw [show W.heap[(⟨T, 0, none⟩ : Addr).block]? = _ from h] at hh
    injection hh with hh
    cases hh
theorem TabAt.set {W : World} {T : Nat} {x1 x2 x3 s : Value} (h : TabAt W T x1 x2 x3 s) (u : Value) : TabAt (W.setCell ⟨T, 3, none⟩ u) T x1 x2 x3 u := by
  unfold TabAt at *
  simp [World.setCell, Array.getElem?_modify, h]
theorem cn_at {P : ProgV} {i : Nat} (h : i < P.sites.length) : cn P i = P.sites[i].cases.length := by simp [cn, List.getElem?_eq_getElem h]
theorem info_ones : (Try.prog.info? 153).map (fun i => (i.zero, i.size, i.bytes)) = some (some (.pointer none), 1, 8) := by kernel_rfl
set_option maxHeartbeats 4000000 in
theorem tAdd_at {wp w : World} {x1 x2 x3 : Value} {P : ProgV} (hp : RProg wp x1 x2 x3 P) (hat : atB P 0 0 = true) (hsl : P.sites.length ≤ 12) (hcn : ∀ i, i < P.sites.length → 1 ≤ cn P i ∧ cn P i ≤ 6) (hb : Below wp.heap.size wp w) {v : Value} {xs : List Value} (hT : TabAt w wp.heap.size x1 x2 x3 v) (ho : w.ownsRow wp.heap.size 153 1 v xs.length xs) (hn : xs.length < 32) :
    Calls Try.prog 45 #[.pointer (some ⟨wp.heap.size, 0, none⟩), .agg #[.int .i64 0, .int .i64 0, .int .i64 0, .int .i64 0, .int .i64 0, .int .i64 0, .int .i64 0, .int .i64 0, .int .i64 0, .int .i64 0]] w fun e w' => e = .returned (.tuple #[.int .i64 xs.length, .int .i64 0]) ∧ Below wp.heap.size wp w' ∧ KeepT w w' ∧ ∃ v' X M ob, TabAt w' wp.heap.size x1 x2 x3 v' ∧ w'.ownsRow wp.heap.size 153 1 v' (xs.length + 1) (xs ++ [.pointer (some ⟨X, 0, none⟩)]) ∧ TaskB w' X 0 (.slice none 0 0) M ob (fun i => riseF (cn P i)) P P.sites.length w.heap.size := by
  obtain ⟨A1, n1, rfl, _, _, hl1⟩ := hp.caps.val
  obtain ⟨A2, n2, rfl, _, _, hl2⟩ := hp.codes.val
  obtain ⟨A3, n3, rfl, _, _, hl3⟩ := hp.sites.val
  have hTl := hT.lt
  have HP := Lib.hid hp
  have HT := Lib.hid hT
  have HOW := Lib.hid ho
  have HCN := Lib.hid hcn
  have HB := Lib.hid hb
  obtain ⟨A4, k4, c4, hv⟩ := own_val ho
  have hk4 : k4 = xs.length := by
    rcases ho.2 with ⟨h1, h2⟩ | ⟨g, cap, cur, h1, _⟩
    · rw [hv] at h1; injection h1 with _ h3 _; omega
    · rw [hv] at h1; injection h1 with _ h3 _
  subst hk4 hv
  have t0 : w.cell? ⟨wp.heap.size, 0, none⟩ = some (.slice A1 P.caps.length n1) := Ly.cellAt hT 0 rfl
  have t1 : w.cell? ⟨wp.heap.size, 1, none⟩ = some (.slice A2 P.codes.length n2) := Ly.cellAt hT 1 rfl
  have t2 : w.cell? ⟨wp.heap.size, 2, none⟩ = some (.slice A3 P.sites.length n3) := Ly.cellAt hT 2 rfl
  have t3 : w.cell? ⟨wp.heap.size, 3, none⟩ = some (.slice A4 xs.length c4) := Ly.cellAt hT 3 rfl
  have hfc := fun (W : World) (h : RProg W (.slice A1 P.caps.length n1) (.slice A2 P.codes.length n2) (.slice A3 P.sites.length n3) P) => fcheck_any h 0 0 0 0 0 0 0 0 0 0
  rw [hat] at hfc
  have hee : errOf true = 0 := rfl
  rw [hee] at hfc
  have HFC := Lib.hid hfc
  have hmm : ∀ (w : World), (Instr.makeMap 156 none).run Try.prog w = .ok (.map (some w.heap.size)) (w.alloc (.map (entsI .i64 []) 0)) := fun w => run_makeMap_plain w _
  have d32 : decide ((xs.length : Int) ≥ 32) = false := by simp; omega
  clear hp hT ho hcn hb hfc hat
  go_enter Try.func45, Try.ntmps45
  go_upto_region 3 with fail
  go_region_law (go_simp; go_at_call 38; (with_reducible refine (HFC.out _ ((HP.out.keep HB.out).keep (by (repeat (first | with_reducible exact Below.refl _ _ | (with_reducible refine Below.setCell ?_ (by first | (simp; done) | (simp; omega) | omega) _) | (with_reducible refine Below.alloc ?_ (by first | (simp; done) | (simp; omega) | omega) _) | (with_reducible refine Below.drew ?_)))))).mono ?_); rintro e w1 ⟨rfl, hb1⟩)
  all_goals
    have hbw : Below w.heap.size w w1 := by (have hszq := hb1.size; (try simp only [World.size_alloc] at hszq); (repeat (first | (with_reducible refine Below.setCell ?_ (by first | (simp; done) | (simp; omega) | omega) _) | (with_reducible refine Below.alloc ?_ (by first | (simp; done) | (simp; omega) | omega) _) | (with_reducible refine Below.drew ?_))); refine Below.trans ?_ (hb1.mono (by first | (simp; done) | (simp; omega) | omega)); (repeat (first | with_reducible exact Below.refl _ _ | (with_reducible refine Below.setCell ?_ (by first | (simp; done) | (simp; omega) | omega) _) | (with_reducible refine Below.alloc ?_ (by first | (simp; done) | (simp; omega) | omega) _) | (with_reducible refine Below.drew ?_))))
    have hs1 := hbw.size
    have l1 := Nat.lt_of_lt_of_le hTl hs1
    have u2 : w1.cell? ⟨wp.heap.size, 2, none⟩ = some (.slice A3 P.sites.length n3) := Below.at hbw t2 hTl
    have u3 : w1.cell? ⟨wp.heap.size, 3, none⟩ = some (.slice A4 xs.length c4) := Below.at hbw t3 hTl
    have f0 : w1.cell? ⟨w.heap.size, 0, none⟩ = some (.int .i64 0) := Below.at hb1 (Ly.cellAt (World.alloc_heap_new w _) 0 rfl) (by simp)
    have f1 : w1.cell? ⟨w.heap.size, 1, none⟩ = some (.int .i64 0) := Below.at hb1 (Ly.cellAt (World.alloc_heap_new w _) 1 rfl) (by simp)
    have f2 : w1.cell? ⟨w.heap.size, 2, none⟩ = some (.int .i64 0) := Below.at hb1 (Ly.cellAt (World.alloc_heap_new w _) 2 rfl) (by simp)
    have f3 : w1.cell? ⟨w.heap.size, 3, none⟩ = some (.int .i64 0) := Below.at hb1 (Ly.cellAt (World.alloc_heap_new w _) 3 rfl) (by simp)
    have f4 : w1.cell? ⟨w.heap.size, 4, none⟩ = some (.int .i64 0) := Below.at hb1 (Ly.cellAt (World.alloc_heap_new w _) 4 rfl) (by simp)
    have f5 : w1.cell? ⟨w.heap.size, 5, none⟩ = some (.int .i64 0) := Below.at hb1 (Ly.cellAt (World.alloc_heap_new w _) 5 rfl) (by simp)
    have f6 : w1.cell? ⟨w.heap.size, 6, none⟩ = some (.int .i64 0) := Below.at hb1 (Ly.cellAt (World.alloc_heap_new w _) 6 rfl) (by simp)
    have f7 : w1.cell? ⟨w.heap.size, 7, none⟩ = some (.int .i64 0) := Below.at hb1 (Ly.cellAt (World.alloc_heap_new w _) 7 rfl) (by simp)
    have f8 : w1.cell? ⟨w.heap.size, 8, none⟩ = some (.int .i64 0) := Below.at hb1 (Ly.cellAt (World.alloc_heap_new w _) 8 rfl) (by simp)
    have f9 : w1.cell? ⟨w.heap.size, 9, none⟩ = some (.int .i64 0) := Below.at hb1 (Ly.cellAt (World.alloc_heap_new w _) 9 rfl) (by simp)
    have l0 : w.heap.size < w1.heap.size := by have := hb1.size; simp at this; omega
    have HBW := Lib.hid hbw
    clear hb1 hbw t0 t1 t2 t3
    go_wp2
    have hone : OneAt ((w1.alloc (.map (entsI .i64 []) 0)).alloc (.cells #[.int .u8 1, .int .i64 0, .int .i64 0, .int .i64 0, .int .i64 0, .int .i64 0, .int .i64 0, .int .i64 0, .int .i64 0, .int .i64 0, .int .i64 0, .int .i64 0, .slice none 0 0, .map (some w1.heap.size)] 158)) (w1.heap.size + 1) 0 (.slice none 0 0) w1.heap.size := by
      have := World.alloc_heap_new (w1.alloc (.map (entsI .i64 []) 0)) (.cells #[.int .u8 1, .int .i64 0, .int .i64 0, .int .i64 0, .int .i64 0, .int .i64 0, .int .i64 0, .int .i64 0, .int .i64 0, .int .i64 0, .int .i64 0, .int .i64 0, .slice none 0 0, .map (some w1.heap.size)] 158)
      rw [World.size_alloc] at this
      exact this
    have hmap : MapAt ((w1.alloc (.map (entsI .i64 []) 0)).alloc (.cells #[.int .u8 1, .int .i64 0, .int .i64 0, .int .i64 0, .int .i64 0, .int .i64 0, .int .i64 0, .int .i64 0, .int .i64 0, .int .i64 0, .int .i64 0, .int .i64 0, .slice none 0 0, .map (some w1.heap.size)] 158)) w1.heap.size (fun i => if i < 0 then some (.pointer (some ⟨(fun _ => 0 : Nat → Nat) i, 0, none⟩)) else none) :=
      ⟨[], 0, (Below.heap_alloc _ _ _ (by simp)).trans (World.alloc_heap_new w1 _), Dict.nil.congr fun i _ => by simp⟩
    have hst : TaskB _ _ 0 (.slice none 0 0) w1.heap.size (fun _ => 0) (fun i => riseF (cn P i)) P 0 w.heap.size := ⟨hone, hmap, fun i hi => absurd hi (Nat.not_lt_zero _), fun i hi => absurd hi (Nat.not_lt_zero _), by omega, by omega⟩
    have hbl0 : Below w.heap.size w ((w1.alloc (.map (entsI .i64 []) 0)).alloc (.cells #[.int .u8 1, .int .i64 0, .int .i64 0, .int .i64 0, .int .i64 0, .int .i64 0, .int .i64 0, .int .i64 0, .int .i64 0, .int .i64 0, .int .i64 0, .int .i64 0, .slice none 0 0, .map (some w1.heap.size)] 158)) := by (have hszq := HBW.out.size; (try simp only [World.size_alloc] at hszq); (repeat (first | (with_reducible refine Below.setCell ?_ (by first | (simp; done) | (simp; omega) | omega) _) | (with_reducible refine Below.alloc ?_ (by first | (simp; done) | (simp; omega) | omega) _) | (with_reducible refine Below.drew ?_))); refine Below.trans ?_ (HBW.out.mono (by first | (simp; done) | (simp; omega) | omega)); (repeat (first | with_reducible exact Below.refl _ _ | (with_reducible refine Below.setCell ?_ (by first | (simp; done) | (simp; omega) | omega) _) | (with_reducible refine Below.alloc ?_ (by first | (simp; done) | (simp; omega) | omega) _) | (with_reducible refine Below.drew ?_))))
    have HST := Lib.hid hst
    have HBL := Lib.hid hbl0
    clear hone hmap hst hbl0 f0 f1 f2 f3 f4 f5 f6 f7 f8 f9
    go_loopw [40] (fun i wr => ∃ k : Nat, k ≤ P.sites.length ∧ i = .int .i64 k ∧ ∃ ob, TaskB wr (w1.heap.size + 1) 0 (.slice none 0 0) w1.heap.size ob (fun i => riseF (cn P i)) P k w.heap.size ∧ Below w.heap.size w wr) (fun i _ => P.sites.length - (intOf i).toNat)
    case atStart => exact ⟨0, Nat.zero_le _, rfl, _, HST.out, HBL.out⟩
    case round =>
      obtain ⟨k, hk, rfl, ob, hst, hbl⟩ := hrel
      clear HST HBL
      have HST := Lib.hid hst
      have HBL := Lib.hid hbl
      have hXl := hst.one.lt
      have hMl := hst.map.lt
      clear hst hbl
      by_cases hlt : k < P.sites.length
      · obtain ⟨b, o, A5, n5, rfl, hbw, g0, g1, _, _, _, hl5⟩ := kSite_at HP.out.sites hlt
        have hck := HCN.out k hlt
        obtain ⟨L, hL⟩ : ∃ L, L = P.sites[k].cases.length := ⟨_, rfl⟩
        rw [cn_at hlt] at hck
        rw [← hL] at g0 hck
        have hcL : cn P k = L := by rw [cn_at hlt, hL]
        have HCL := Lib.hid hcL
        have hwb : Below wp.heap.size wp wr := HB.out.trans (HBL.out.mono HB.out.size)
        have g0 := Below.at hwb g0 hbw
        have g1 := Below.at hwb g1 hbw
        have hbr : b < wr.heap.size := Nat.lt_of_lt_of_le hbw hwb.size
        have hwr : IntKind.i64.wrap ((k : Int) + 1) = (k : Int) + 1 := IntWalk.i64_in _ (by omega)
        have d1 : decide ((k : Int) < (P.sites.length : Int)) = true := by simp; omega
        have hz := HBL.out.size
        clear hL hcL hwb
        go_wp2_with (go_at_call 91; (with_reducible refine (oNew_any L hck.1 hck.2 _).mono ?_); rintro e w3 ⟨rfl, ho3, hb3⟩; obtain ⟨o4, hrun, hm4⟩ := (((HST.out.keep (KeepT.of_below ((Below.refl _ wr).alloc (Nat.le_refl _) _))).keep (KeepT.of_below hb3)).map).put (i := k) (by omega) (by simp) (.pointer (some ⟨wr.heap.size + 1, 0, none⟩)); have hon3 := ((HST.out.keep (KeepT.of_below ((Below.refl _ wr).alloc (Nat.le_refl _) _))).keep (KeepT.of_below hb3)).one; have x13 := hon3.c13; have hX3 := hon3.lt; have HO3 := Lib.hid ho3; have HB3 := Lib.hid hb3; have HM4 := Lib.hid hm4; clear ho3 hb3 hm4 hon3)
        go_roundw
        case rel =>
          have hb4 : Below wr.heap.size wr w3 := Below.trans ((Below.refl _ wr).alloc (Nat.le_refl _) _) (HB3.out.mono (by simp))
          refine ⟨k + 1, hlt, by go_num, updF ob k (wr.heap.size + 1), HST.out.next hb4 hz ?_ (by omega) HM4.out, ?_⟩
          · have h := HO3.out
            rw [World.size_alloc] at h
            rw [HCL.out]
            exact h
          · exact (HBL.out.trans (hb4.mono hz)).trans ⟨rfl, rfl, rfl, by simp, fun i hi => World.putObj_heap_other (by omega)⟩
        case measure => simp [intOf]; omega
      · obtain rfl : k = P.sites.length := by omega
        have d1 : decide ((P.sites.length : Int) < (P.sites.length : Int)) = false := by simp
        have u3 : wr.cell? ⟨wp.heap.size, 3, none⟩ = some (.slice A4 xs.length c4) := Below.at HBL.out (HT.out.c3) hTl
        have hz := HBL.out.size
        have lr : wp.heap.size < wr.heap.size := by omega
        obtain ⟨i0, hi, hz0, hz1, hz2⟩ := info_parts info_ones
        have HI0 := Lib.hid hi
        have HZ0 := Lib.hid hz0
        have HZ1 := Lib.hid hz1
        have HZ2 := Lib.hid hz2
        clear hi hz0 hz1 hz2
        have hown := (own_keeps HOW.out (Keeps.of_below (T := 44) HBL.out) (by decide)).alloc (.cells #[.pointer (some ⟨w1.heap.size + 1, 0, none⟩)] 153)
        have HTr := Lib.hid ((HT.out.keep HBL.out hTl).keep ((Below.refl _ wr).alloc (Nat.le_refl _) (.cells #[.pointer (some ⟨w1.heap.size + 1, 0, none⟩)] 153)) lr)
        have w1' : IntKind.i64.wrap ((xs.length : Int) + 1 - 1) = (xs.length : Int) := (IntWalk.i64_in _ (by omega)).trans (by omega)
        have HROW := Lib.hid hown
        clear hown
        go_wp2_with (at_builtin; refine wpList_append_own _ rfl _ _ 150 rfl wp.heap.size 153 i0 (.pointer none) 1 8 Try.underlying150 HI0.out HZ0.out HZ1.out HZ2.out rfl (by decide) _ _ _ rfl HROW.out ⟨wr.heap.size, 0, none⟩ 1 1 [.pointer (some ⟨w1.heap.size + 1, 0, none⟩)] rfl rfl (cell_one_new _ _ _) (by simp [Value.oneCell']) (by unfold maxLen; omega) (by omega) (by simp; omega) ?_; intro v' w3 hown' hgrow _; obtain ⟨g', cap', rfl⟩ := ownsRow_succ hown'; have hT3 := HTr.out.grown HROW.out hgrow; have T3 := hT3.c3; have F3 : w3.frozen? ⟨wp.heap.size, 3, none⟩ = false := Ly.frozAt hT3 3; have L3 := hT3.lt; have HW3 := Lib.hid hown'; have HG3 := Lib.hid hgrow; have HT3 := Lib.hid hT3; clear hown' hgrow hT3)
        have hgr : (wr.alloc (.cells #[.pointer (some ⟨w1.heap.size + 1, 0, none⟩)] 153)).grownBy w3 (Value.slice A4 xs.length c4).ownBlock := HG3.out
        have hx : Below wp.heap.size wp (wr.alloc (.cells #[.pointer (some ⟨w1.heap.size + 1, 0, none⟩)] 153)) := (HB.out.trans (HBL.out.mono HB.out.size)).alloc (by omega) _
        have k1 : KeepT w wr := KeepT.of_below HBL.out
        have k2 : KeepT wr (wr.alloc (.cells #[.pointer (some ⟨w1.heap.size + 1, 0, none⟩)] 153)) := KeepT.of_below ((Below.refl _ wr).alloc (Nat.le_refl _) _)
        have k3 := KeepT.of_grown HROW.out hgr
        have k4 := KeepT.set HT3.out 3 (.slice (some ⟨g', 0, none⟩) (xs.length + 1) cap')
        refine Ly.ret_of (by simp [results, Try.results45, go_sem] <;> (repeat' (first | rfl | apply And.intro))) rfl ⟨rfl, ?_, ((k1.trans k2).trans k3).trans k4, _, _, _, _, HT3.out.set _, own_keeps HW3.out (Keeps.of_set HT3.out 3 _) (by decide), ((HST.out.keep k2).keep k3).keep k4⟩
        exact (Below.grown hx hgr (by simp; omega) fun k hk => (HROW.out.lt k hk).1).setCell (p := ⟨wp.heap.size, 3, none⟩) (Nat.le_refl _) _
end Go.Proofs.Ytljfloopjgpaeaa
