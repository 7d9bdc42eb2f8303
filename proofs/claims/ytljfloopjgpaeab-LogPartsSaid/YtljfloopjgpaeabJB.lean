/- tollbar/log: which entries are meant (those), and the closures that mean them. -/
import Derived.Test.YtljfloopjgpaeabJA
import Derived.Test.YtljfloopjgpaeabJL
namespace Go.Proofs.Ytljfloopjgpaeab
set_option linter.unusedVariables false
set_option linter.unusedSimpArgs false
open Go.RowKit Go.Shelf
attribute [local go_sem] Oper.semAt_some run_store_fn
set_option maxRecDepth 100000
theorem backL_all (l : List EntV) : (backL l 0).map Prod.snd = l.reverse := by
  unfold backL
  rw [List.drop_zero, List.map_map, List.map_reverse]
  congr 1
  refine List.ext_getElem (by simp) fun i h1 h2 => ?_
  simp [List.getD_eq_getElem?_getD, h2]
def pickL (m : EntV → Bool) (pre : List (Nat × EntV)) : List EntV := (pre.map Prod.snd).filter m
theorem pickL_hit {m : EntV → Bool} (pre : List (Nat × EntV)) {x : Nat × EntV} (h : m x.2 = true) : pickL m (pre ++ [x]) = pickL m pre ++ [x.2] := by simp [pickL, h]
theorem pickL_miss {m : EntV → Bool} (pre : List (Nat × EntV)) {x : Nat × EntV} (h : m x.2 = false) : pickL m (pre ++ [x]) = pickL m pre := by simp [pickL, h]
theorem pickL_all (m : EntV → Bool) (l : List EntV) : pickL m (backL l 0) = (l.filter m).reverse := by rw [pickL, backL_all, List.filter_reverse]
theorem backL_len (l : List EntV) (k : Nat) : (backL l k).length ≤ l.length := by simp [backL]
theorem info_Ent : (Try.prog.info? 30).map (fun i => (i.zero, i.size, i.bytes)) = some (some (.agg #[.int .i64 0, .int .u8 0, .int .i64 0, .int .i64 0, .int .i64 0, .int .i64 0, .int .i64 0, .int .i64 0, .int .i64 0, .int .i64 0, .bool false, .int .i64 0, .int .u64 0]), 13, 104) := by kernel_rfl
theorem own_below {w w' : World} {B e sz n : Nat} {v : Value} {xs : List Value} (ho : w.ownsRow B e sz v n xs) (hb : Below w.heap.size w w') : w'.ownsRow B e sz v n xs := own_keeps (T := e + 1) ho (Keeps.of_below hb) (by omega)
theorem cells_at {W : World} {D : Nat} {x : EntV} (h : W.heap[D]? = some (.cells x.cells.toArray 30 (0, 0))) : ∀ j u, x.cells[j]? = some u → W.cell? ((⟨D, 0, none⟩ : Addr).add j) = some u := fun j u hu => by
  rw [Addr.add_lit, Nat.zero_add]
  simp only [World.cell?, h]
  rw [← Array.getElem?_toList]
  exact hu
theorem entR_at {w w' : World} {v : Value} {l : List EntV} (h : kEnt.R w v l) (hk : ∀ k, v.ownBlock = some k → w'.heap[k]? = w.heap[k]?) (hs : w.heap.size ≤ w'.heap.size) : kEnt.R w' v l := by
  obtain ⟨A, c, rfl, h1, h2, h3, h4⟩ := h
  refine ⟨A, c, rfl, h1, h2, h3, fun h0 => ?_⟩
  obtain ⟨b, o, rfl, hb, hx⟩ := h4 h0
  refine ⟨b, o, rfl, Nat.lt_of_lt_of_le hb hs, fun i x hi => ?_⟩
  obtain ⟨cs, hc, hu⟩ := hx i x hi
  refine ⟨cs, hc, fun j u hj => ?_⟩
  have := hu j u hj
  simp only [World.cell?, hk b rfl] at this ⊢
  exact this
/-- What holds between the rounds. -/
def TI (m : EntV → Bool) (O : Nat) (w1 : World) (pre : List (Nat × EntV)) (W : World) : Prop :=
  (∃ v, Boxed W O 22 v ∧ W.ownsRow O 30 13 v (pickL m pre).length ((pickL m pre).flatMap EntV.cells) ∧ True) ∧ Below O w1 W
theorem TI.own {m : EntV → Bool} {O : Nat} {w1 : World} (h1 : O ≤ w1.heap.size) {b : Nat} (hb : O ≤ b) : OwnFrom b (TI m O w1) :=
  OwnFrom.and (Own.from (holdsRow_own O O 22 30 13 (fun pre => (pickL m pre).length) (fun pre => (pickL m pre).flatMap EntV.cells) (fun _ _ => True)) _) (ownFrom_below h1 hb)

set_option maxHeartbeats 8000000 in
theorem those_in (n : Nat) (hn : 3 ≤ n) {w : World} {p g : Nat} {env : Array Value} {v0 : Value} {l : List EntV} {m : EntV → Bool} (h : LogAt w p v0 l) (hs : l.length ≤ 100000) (eg : ∀ args w, (callFunc g args).run Try.prog w = .ok (.enter g args) w)
    (hm : ∀ x W, Below w.heap.size w W → Calls Try.prog g (#[x.agg] ++ env) W fun e W' => e = .returned (.bool (m x)) ∧ Below W.heap.size W W') :
    CallsIn Fence.wide n Try.prog 33 #[.pointer (some ⟨p, 0, none⟩), .func (.func g) #[] env] w fun e w' => (∃ v, e = .returned v ∧ kEnt.R w' v (l.filter m)) ∧ Below w.heap.size w w' := by
  have h1 : 1 ≤ n := by omega
  obtain ⟨i0, hi, hz0, hz1, hz2⟩ := info_parts info_Ent
  have H := Lib.hid h
  simp only [EntV.agg] at hm
  have HM := Lib.hid hm
  clear h hm
  refine callsIn_of_wp_marks Try.func33 rfl trivial ?_ rfl
  simp only [Try.ntmps33, List.size_toArray, List.length_cons, List.length_nil, Nat.reduceAdd, Nat.reduceSub, Array.replicate_succ, Array.replicate_zero, List.push_toArray, List.append_toArray, List.nil_append, List.cons_append]
  gi_wp2
  obtain ⟨w1, hw1⟩ : ∃ w1, w1 = w.alloc (.cells #[.func (.func g) #[] env] 79) := ⟨_, rfl⟩
  have hs1 : w1.heap.size = w.heap.size + 1 := by rw [hw1]; simp
  have hB1 : Below w.heap.size w w1 := by rw [hw1]; exact (Below.refl _ w).alloc (Nat.le_refl _) _
  have kF : w1.cell? ⟨w.heap.size, 0, none⟩ = some (.func (.func g) #[] env) := by rw [hw1]; simp [go_sem]
  rw [← hw1]
  obtain ⟨w2, hw2⟩ : ∃ w2, w2 = w1.alloc (.cells #[.slice none 0 0] 22) := ⟨_, rfl⟩
  have bO : Boxed w2 (w.heap.size + 1) 22 (.slice none 0 0) := by rw [hw2, ← hs1]; exact Boxed.new w1 _ _
  have hB2 : Below (w.heap.size + 1) w1 w2 := by rw [hw2]; exact (Below.refl _ w1).alloc (by omega) _
  have hs2 : w2.heap.size = w.heap.size + 2 := by rw [hw2]; simp [hs1]
  rw [← hw2]
  have hB12 : Below w.heap.size w w2 := hB1.trans (hB2.mono (by omega))
  have KF := Lib.hid kF
  have HB1 := Lib.hid hB1
  clear hw1 hw2 kF
  have hO : ∀ {b : Nat}, w.heap.size + 1 ≤ b → OwnFrom b (TI m (w.heap.size + 1) w1) := fun hb => TI.own (by omega) hb
  refine rangeXb h1 (gf := 55) (bd := #[.pointer (some ⟨p, 0, none⟩)]) (lb := #[]) rfl (enters_of Try.func55 (by kernel_rfl) rfl)
    (back_seq (n - 1) p (by omega) w w2 H.out hB12)
    (fun W W' k o ho hk hko _ => ho ▸ hko) belowK_t ?kb (Below.refl _ _) (fun _ => rfl)
    (TI m (w.heap.size + 1) w1) (fun _ _ _ => False) (hO (by omega)) (fun _ _ _ _ _ hs _ _ => hs)
    (fun pre W W' hi hA => hA ▸ hi) (fun _ _ _ _ hs _ => hs) (fun _ _ _ => trivial) ⟨⟨_, bO, World.ownsRow_nil _ _ _ _, trivial⟩, hB2⟩
    (fun pre x a' W => ∃ D, a' = { tmps := #[.pointer (some ⟨p, 0, none⟩), .func (.func g) #[] env, undef, .pointer (some ⟨w.heap.size, 0, none⟩), .pointer (some ⟨w.heap.size + 1, 0, none⟩), undef, .pointer (some ⟨D, 0, none⟩), .pointer (some ⟨p, 0, none⟩), .func (.func 55) #[.pointer (some ⟨p, 0, none⟩)] #[], .int .i64 x.1, x.2.agg, undef, undef, undef, undef, undef, undef, undef, undef, undef, undef], defers := [] } ∧ W.heap[D]? = some (.cells x.2.cells.toArray 30 (0, 0)) ∧ w.heap.size + 1 < D ∧ TI m (w.heap.size + 1) w1 pre W)
    ?oA ?assign ?body ?done ?stop
  case kb =>
    intro W k ob ob' hk _ _
    exact ⟨rfl, rfl, rfl, by simp, fun i hi => World.putObj_heap_other (by omega)⟩
  case oA =>
    rintro pre x a' s W W' row ⟨D, h1, h2, h3, h4⟩ hg hr
    refine ⟨D, h1, ?_, h3, hO (by omega) pre W W' row h4 hg hr⟩
    refine (hg.block D (Array.getElem?_eq_some_iff.1 h2).1 ?_).trans h2
    intro e
    obtain ⟨_, o, ho, hc⟩ := hr D e.symm
    rw [h2] at ho
    cases ho
    cases hc
  case assign =>
    intro l' pre x W K hi hg hK
    have hs := hi.2.size
    dsimp only [bkEnc, EntV.agg] at hK ⊢
    have HI := Lib.hid hi
    have HK := Lib.hid hK
    clear hi hK
    have hlt : w.heap.size + 1 < W.heap.size := by obtain ⟨⟨v, hv, _⟩, _⟩ := HI.out; exact hv.lt
    gi_wp2
    refine HK.out _ _ ?_ ?_ ⟨W.heap.size, rfl, World.alloc_heap_new W _, hlt, ?_⟩
    · exact (KeepsOthers.alloc W _).from _
    · exact (Below.refl _ W).alloc (by omega) _
    · exact (hO (b := w.heap.size + 1) (by omega)).alloc _ HI.out
  case body =>
    rintro lp pre ⟨i, y⟩ a' W hl ⟨D, rfl, hD, hD2, hi'⟩ ⟨k, hk, hpre, hx⟩
    obtain ⟨⟨v, hv, hrow, _⟩, hbl⟩ := hi'
    have hlen : (pickL m pre).length ≤ 99999 := by
      have h1 : (pickL m pre).length ≤ pre.length := by unfold pickL; exact Nat.le_trans (List.length_filter_le _ _) (by simp)
      have h2 : pre.length ≤ l.length - 1 := by rw [hpre]; simp [backL]; omega
      omega
    have kf : W.cell? ⟨w.heap.size, 0, none⟩ = some (.func (.func g) #[] env) := Below.at hbl KF.out (by omega)
    have hWb : Below w.heap.size w W := HB1.out.trans (hbl.mono (by omega))
    have hc := hv.cell
    have hf := hv.frozen
    have hlO := hv.lt
    have hlD : D < W.heap.size := (Array.getElem?_eq_some_iff.1 hD).1
    simp only at hD
    have c0 : W.cell? ⟨D, 0, none⟩ = some (.int .i64 y.at_) := Ly.cellAt hD 0 rfl
    have c1 : W.cell? ⟨D, 1, none⟩ = some (.int .u8 y.kind) := Ly.cellAt hD 1 rfl
    have c2 : W.cell? ⟨D, 2, none⟩ = some (.int .i64 y.worker) := Ly.cellAt hD 2 rfl
    have c3 : W.cell? ⟨D, 3, none⟩ = some (.int .i64 y.task) := Ly.cellAt hD 3 rfl
    have c4 : W.cell? ⟨D, 4, none⟩ = some (.int .i64 y.peer) := Ly.cellAt hD 4 rfl
    have c5 : W.cell? ⟨D, 5, none⟩ = some (.int .i64 y.ch) := Ly.cellAt hD 5 rfl
    have c6 : W.cell? ⟨D, 6, none⟩ = some (.int .i64 y.cs) := Ly.cellAt hD 6 rfl
    have c7 : W.cell? ⟨D, 7, none⟩ = some (.int .i64 y.pc) := Ly.cellAt hD 7 rfl
    have c8 : W.cell? ⟨D, 8, none⟩ = some (.int .i64 y.val) := Ly.cellAt hD 8 rfl
    have c9 : W.cell? ⟨D, 9, none⟩ = some (.int .i64 y.val2) := Ly.cellAt hD 9 rfl
    have c10 : W.cell? ⟨D, 10, none⟩ = some (.bool y.ok) := Ly.cellAt hD 10 rfl
    have c11 : W.cell? ⟨D, 11, none⟩ = some (.int .i64 y.code) := Ly.cellAt hD 11 rfl
    have c12 : W.cell? ⟨D, 12, none⟩ = some (.int .u64 y.set) := Ly.cellAt hD 12 rfl
    have HD := Lib.hid hD
    have HV := Lib.hid hv
    have HR := Lib.hid hrow
    have HLEN := Lib.hid hlen
    have HWb := Lib.hid hWb
    have HBL := Lib.hid hbl
    have hmy := fun W hb => HM.out y W hb
    clear hD hv hrow hlen hWb hbl hpre hx hk
    dsimp only [EntV.agg]
    cases hmx : m y
    · rw [hmx] at hmy
      have HMY := Lib.hid hmy
      have HMX := Lib.hid hmx
      clear hmy hmx
      gi_wp2_with ((first | refine ⟨trivial, fun _ => by omega, ?_⟩ | refine ⟨trivial, ?_⟩); (with_reducible refine (CallsIn.inRound lp (wideE (HMY.out _ HWb.out) _)).mono ?_); rintro e w' ⟨rfl, hb'⟩; (have hv' : Boxed w' (w.heap.size + 1) 22 v := (hb'.block _ HV.out.lt).trans HV.out); (have hrow' := own_below HR.out hb'); (have hD' := (hb'.block _ (Array.getElem?_eq_some_iff.1 HD.out).1).trans HD.out); (have HV' := Lib.hid hv'); (have HR' := Lib.hid hrow'); (have hc := hv'.cell); (have hf := hv'.frozen); (have hlD := (Array.getElem?_eq_some_iff.1 hD').1); (have hlO := hv'.lt); clear c0 c1 c2 c3 c4 c5 c6 c7 c8 c9 c10 c11 c12; (have c0 : w'.cell? ⟨D, 0, none⟩ = some (.int .i64 y.at_) := Ly.cellAt hD' 0 rfl); (have c1 : w'.cell? ⟨D, 1, none⟩ = some (.int .u8 y.kind) := Ly.cellAt hD' 1 rfl); (have c2 : w'.cell? ⟨D, 2, none⟩ = some (.int .i64 y.worker) := Ly.cellAt hD' 2 rfl); (have c3 : w'.cell? ⟨D, 3, none⟩ = some (.int .i64 y.task) := Ly.cellAt hD' 3 rfl); (have c4 : w'.cell? ⟨D, 4, none⟩ = some (.int .i64 y.peer) := Ly.cellAt hD' 4 rfl); (have c5 : w'.cell? ⟨D, 5, none⟩ = some (.int .i64 y.ch) := Ly.cellAt hD' 5 rfl); (have c6 : w'.cell? ⟨D, 6, none⟩ = some (.int .i64 y.cs) := Ly.cellAt hD' 6 rfl); (have c7 : w'.cell? ⟨D, 7, none⟩ = some (.int .i64 y.pc) := Ly.cellAt hD' 7 rfl); (have c8 : w'.cell? ⟨D, 8, none⟩ = some (.int .i64 y.val) := Ly.cellAt hD' 8 rfl); (have c9 : w'.cell? ⟨D, 9, none⟩ = some (.int .i64 y.val2) := Ly.cellAt hD' 9 rfl); (have c10 : w'.cell? ⟨D, 10, none⟩ = some (.bool y.ok) := Ly.cellAt hD' 10 rfl); (have c11 : w'.cell? ⟨D, 11, none⟩ = some (.int .i64 y.code) := Ly.cellAt hD' 11 rfl); (have c12 : w'.cell? ⟨D, 12, none⟩ = some (.int .u64 y.set) := Ly.cellAt hD' 12 rfl); (have HB' := Lib.hid hb'); clear hb' hv' hrow' hD')
      exact ⟨(KeepsOthers.of_below HB'.out).from _, HB'.out.mono (by have := HBL.out.size; omega), ⟨v, HV'.out, by rw [pickL_miss pre (x := (i, y)) HMX.out]; exact HR'.out, trivial⟩, HBL.out.trans (HB'.out.mono (by have := HBL.out.size; omega))⟩
    · rw [hmx] at hmy
      have HMY := Lib.hid hmy
      have HMX := Lib.hid hmx
      clear hmy hmx
      gi_wp2_with (first | ((first | refine ⟨trivial, fun _ => by omega, ?_⟩ | refine ⟨trivial, ?_⟩); (with_reducible refine (CallsIn.inRound lp (wideE (HMY.out _ HWb.out) _)).mono ?_); rintro e w' ⟨rfl, hb'⟩; (have hv' : Boxed w' (w.heap.size + 1) 22 v := (hb'.block _ HV.out.lt).trans HV.out); (have hrow' := own_below HR.out hb'); (have hD' := (hb'.block _ (Array.getElem?_eq_some_iff.1 HD.out).1).trans HD.out); (have HV' := Lib.hid hv'); (have HR' := Lib.hid hrow'); (have hc := hv'.cell); (have hf := hv'.frozen); (have hlD := (Array.getElem?_eq_some_iff.1 hD').1); (have hlO := hv'.lt); clear c0 c1 c2 c3 c4 c5 c6 c7 c8 c9 c10 c11 c12; (have c0 : w'.cell? ⟨D, 0, none⟩ = some (.int .i64 y.at_) := Ly.cellAt hD' 0 rfl); (have c1 : w'.cell? ⟨D, 1, none⟩ = some (.int .u8 y.kind) := Ly.cellAt hD' 1 rfl); (have c2 : w'.cell? ⟨D, 2, none⟩ = some (.int .i64 y.worker) := Ly.cellAt hD' 2 rfl); (have c3 : w'.cell? ⟨D, 3, none⟩ = some (.int .i64 y.task) := Ly.cellAt hD' 3 rfl); (have c4 : w'.cell? ⟨D, 4, none⟩ = some (.int .i64 y.peer) := Ly.cellAt hD' 4 rfl); (have c5 : w'.cell? ⟨D, 5, none⟩ = some (.int .i64 y.ch) := Ly.cellAt hD' 5 rfl); (have c6 : w'.cell? ⟨D, 6, none⟩ = some (.int .i64 y.cs) := Ly.cellAt hD' 6 rfl); (have c7 : w'.cell? ⟨D, 7, none⟩ = some (.int .i64 y.pc) := Ly.cellAt hD' 7 rfl); (have c8 : w'.cell? ⟨D, 8, none⟩ = some (.int .i64 y.val) := Ly.cellAt hD' 8 rfl); (have c9 : w'.cell? ⟨D, 9, none⟩ = some (.int .i64 y.val2) := Ly.cellAt hD' 9 rfl); (have c10 : w'.cell? ⟨D, 10, none⟩ = some (.bool y.ok) := Ly.cellAt hD' 10 rfl); (have c11 : w'.cell? ⟨D, 11, none⟩ = some (.int .i64 y.code) := Ly.cellAt hD' 11 rfl); (have c12 : w'.cell? ⟨D, 12, none⟩ = some (.int .u64 y.set) := Ly.cellAt hD' 12 rfl); (have HB' := Lib.hid hb'); clear hb' hv' hrow' hD') | (gi_at_builtin; refine wpListIn_append_own _ rfl _ _ 22 rfl (w.heap.size + 1) 30 i0 _ 13 104 Try.underlying22 hi hz0 hz1 hz2 rfl (by decide) _ _ _ rfl (HR'.out.alloc _) ⟨w'.heap.size, 0, none⟩ 1 1 y.cells rfl rfl (cells_at (World.alloc_heap_new _ _)) (cells_one y) (by unfold maxLen; have := HLEN.out; omega) (by have := HLEN.out; omega) (by have := HB'.out.size; simp; omega) ?_; intro v' w3 hown' hgrow _; obtain ⟨g', cap', rfl⟩ := ownsRow_succ hown'; obtain ⟨hv1, hv2, hr2, hk2, hb2⟩ := HV'.out.appended (by decide) HR'.out (by have := HB'.out.size; omega) (Nat.le_refl _) hown' hgrow; have hc1 := hv1.cell; have hf1 := hv1.frozen))
      exact ⟨((KeepsOthers.of_below HB'.out).trans hk2).from _, (HB'.out.mono (by have := HBL.out.size; omega)).trans (hb2.mono (by omega)), ⟨_, hv2, by rw [pickL_hit pre (x := (i, y)) HMX.out]; simpa [List.flatMap_append] using hr2, trivial⟩, HBL.out.trans ((HB'.out.mono (by have := HBL.out.size; omega)).trans hb2)⟩
  case done =>
    rintro D ys W hD rfl ⟨⟨v, hv, hrow, _⟩, hB⟩ hK
    have hc := hv.cell
    have hf := hv.frozen
    have hlO := hv.lt
    rw [pickL_all] at hrow
    obtain ⟨L, hL⟩ : ∃ L, L = ((l.filter m).reverse).length := ⟨_, rfl⟩
    have hlen : (l.filter m).reverse.length ≤ 140737488351232 := by
      rw [List.length_reverse]
      exact Nat.le_trans (List.length_filter_le _ _) (by omega)
    have hrev := revEnt_any hrow hlen
    rw [List.reverse_reverse] at hrev
    have hnr := hv.not_row (by decide) hrow
    obtain ⟨a, c, hval⟩ : ∃ a c, v = .slice a ((l.filter m).reverse).length c := by
      rcases hrow.2 with ⟨hv, h0⟩ | ⟨g, cap, _, hv, _⟩
      · rw [h0]; exact ⟨_, _, hv⟩
      · exact ⟨_, _, hv⟩
    have hown : ∀ k o, v.ownBlock = some k → W.heap[k]? = some o → ∃ cs e, o = .cells cs e (0, 0) := by
      intro k o hk ho
      rcases hrow.2 with ⟨rfl, _⟩ | ⟨g, cap, cur, rfl, _, hgb, _⟩
      · simp [Value.ownBlock] at hk
      · simp only [Value.ownBlock, Option.some.injEq] at hk
        subst hk
        rw [hgb] at ho
        cases ho
        exact ⟨_, _, rfl⟩
    have HRV := Lib.hid hrev
    have HNR := Lib.hid hnr
    have HOW := Lib.hid hown
    have HV := Lib.hid hv
    have HB := Lib.hid hB
    have HK := Lib.hid hK
    clear hrev hnr hown hrow hv hB hK hlen
    rw [← hL] at hval
    clear hL
    subst hval
    gi_wp2_with ((first | refine ⟨trivial, fun _ => by omega, ?_⟩ | refine ⟨trivial, ?_⟩); (with_reducible refine (wideE HRV.out _).mono ?_); rintro e w' ⟨rfl, hR, hz, hbk, hbb⟩; (have hv' : Boxed w' (w.heap.size + 1) 22 _ := (hbk _ (fun e => HNR.out e.symm)).trans HV.out); (have hK' : w'.heap[D]? = some (.deferred (some [])) := (hbk D (fun e => by obtain ⟨_, _, h⟩ := HOW.out D _ e HK.out; cases h)).trans HK.out); (have hc := hv'.cell); (have hf := hv'.frozen); (have hlO := hv'.lt); (have HR := Lib.hid hR); (have HV' := Lib.hid hv'); (have HK' := Lib.hid hK'); (have HBB := Lib.hid hbb); clear hR hz hbk hbb hv' hK')
    have hK2 := (KeepsOthers.setCell w' ⟨w.heap.size + 1, 0, none⟩ (.slice a L c)).same D _ HK'.out rfl
    refine ⟨by simp, .inl ⟨_, _, rfl, run_takeDeferred hK2, ?_⟩⟩
    have hv2 := HV'.out.set (.slice a L c)
    have hc5 := cell_kept hv2.cell (grownBy_putObj' _ D (.deferred none)) (fun r e => by cases e; exact ⟨_, hK2, rfl⟩)
    have hbA : Below w.heap.size w w' := HB1.out.trans ((HB.out.trans HBB.out).mono (by omega))
    refine ⟨.slice a L c, ?_, ⟨_, rfl, ?_⟩, (hbA.setCell (p := ⟨w.heap.size + 1, 0, none⟩) (by simp) _).trans (belowK_b (w := w) (Nat.le_refl _) _ D _ _ (by omega) hK2 rfl rfl)⟩
    · simp [results, Try.f33, go_sem, hc5]
    · refine entR_at HR.out (fun k hk => ?_) (by simp [World.putObj, World.setCell])
      have n1 : w.heap.size + 1 ≠ k := fun e => HNR.out (by rw [e]; exact hk.symm)
      have n2 : D ≠ k := fun e => by
        obtain ⟨_, _, h⟩ := HOW.out D _ (by rw [e]; exact hk) HK.out
        cases h
      rw [World.putObj_heap_other n2.symm]
      simp [World.setCell, Array.getElem?_modify, n1]
  case stop =>
    rintro D c pre W _ _ h _
    exact h.elim
end Go.Proofs.Ytljfloopjgpaeab
