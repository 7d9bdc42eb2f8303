/- frame.frames, frame.Run. -/
import Derived.Shelf.Abstract
import Derived.Shelf.RegionOpen
import Derived.OwnWalkIn
import Derived.TacticsInMore
import Derived.LoopNIn
import Derived.LoopIn
import Derived.Test.YtljfloopjgpaeaaR
import Derived.Test.YtljfloopjgpaeaaL
namespace Go.Proofs.Ytljfloopjgpaeaa
set_option linter.unusedVariables false
set_option linter.unusedSimpArgs false
open Go.RowKit Go.Shelf
attribute [local go_sem] Oper.semAt_some
set_option maxRecDepth 100000

theorem actF_wf {x : InsV} {f : FrameV} (h : f.wf) : (actF x f).wf := by
  unfold actF FrameV.wf at *
  repeat' split
  all_goals simp [h]
theorem stepF_wf {P : ProgV} {f : FrameV} (h : f.wf) : (stepF P f).1.wf := by
  unfold stepF
  repeat' split
  · exact actF_wf h
  all_goals rfl
/-- What a frame comes to by k steps. -/
def nthF (P : ProgV) (f : FrameV) : Nat → FrameV
  | 0 => f
  | k + 1 => (stepF P (nthF P f k)).1
theorem nthF_wf {P : ProgV} {f : FrameV} (h : f.wf) : ∀ k, (nthF P f k).wf
  | 0 => h
  | k + 1 => stepF_wf (nthF_wf h k)
def errN (P : ProgV) (f : FrameV) (k : Nat) : Int := (stepF P (nthF P f k)).2
/-- What is told in the first k rounds. -/
def preF (P : ProgV) (f : FrameV) (k : Nat) : List (FrameV × Int) := (List.range k).map fun i => (nthF P f i, errN P f i)
theorem preF_succ (P : ProgV) (f : FrameV) (k : Nat) : preF P f (k + 1) = preF P f k ++ [(nthF P f k, errN P f k)] := by simp [preF, List.range_succ]
theorem preF_length (P : ProgV) (f : FrameV) (k : Nat) : (preF P f k).length = k := by simp [preF]
/-- The first k steps can be done. -/
def okTo (P : ProgV) (f : FrameV) (k : Nat) : Prop := ∀ i, i < k → errN P f i = 0
abbrev frEnc (x : FrameV × Int) : Array Value := #[x.1.agg, .int .i64 x.2]

theorem FrB.setAll {w : World} {B : Nat} {f : FrameV} (h : FrB w B f) (g : FrameV) : FrB ((((((((((w.setCell ⟨B, 0, none⟩ (.int .i64 g.code)).setCell ⟨B, 1, none⟩ (.int .i64 g.pc)).setCell ⟨B, 2, none⟩ (.int .i64 (rg g.r 0))).setCell ⟨B, 3, none⟩ (.int .i64 (rg g.r 1))).setCell ⟨B, 4, none⟩ (.int .i64 (rg g.r 2))).setCell ⟨B, 5, none⟩ (.int .i64 (rg g.r 3))).setCell ⟨B, 6, none⟩ (.int .i64 (rg g.r 4))).setCell ⟨B, 7, none⟩ (.int .i64 (rg g.r 5))).setCell ⟨B, 8, none⟩ (.int .i64 (rg g.r 6))).setCell ⟨B, 9, none⟩ (.int .i64 (rg g.r 7))) B g := by
  unfold FrB at *
  simp [World.setCell, Array.getElem?_modify, h, FrameV.cells]
theorem Only.setAll (B : Nat) (w : World) (g : FrameV) : Only B w ((((((((((w.setCell ⟨B, 0, none⟩ (.int .i64 g.code)).setCell ⟨B, 1, none⟩ (.int .i64 g.pc)).setCell ⟨B, 2, none⟩ (.int .i64 (rg g.r 0))).setCell ⟨B, 3, none⟩ (.int .i64 (rg g.r 1))).setCell ⟨B, 4, none⟩ (.int .i64 (rg g.r 2))).setCell ⟨B, 5, none⟩ (.int .i64 (rg g.r 3))).setCell ⟨B, 6, none⟩ (.int .i64 (rg g.r 4))).setCell ⟨B, 7, none⟩ (.int .i64 (rg g.r 5))).setCell ⟨B, 8, none⟩ (.int .i64 (rg g.r 6))).setCell ⟨B, 9, none⟩ (.int .i64 (rg g.r 7))) :=
  ((((((((((Only.refl B w).set 0 _).set 1 _).set 2 _).set 3 _).set 4 _).set 5 _).set 6 _).set 7 _).set 8 _).set 9 _

set_option maxHeartbeats 4000000 in
theorem frames1_seq (n N base Bp Bf : Nat) (Own : Nat → Prop) (hn1 : 1 ≤ n) {c1 c2 c3 : Value} {P : ProgV} {f : FrameV} (hf : f.wf) (w : World) (hb : base ≤ w.heap.size) (hpf : Bp ≠ Bf) (hbf : base ≤ Bf) (hop : ¬ Own Bp) (hof : ¬ Own Bf) (hO : ∀ k, Own k → k < w.heap.size)
    (hR : ∀ W, Below base w W → RProg W c1 c2 c3 P) (hP : w.heap[Bp]? = some (.cells #[c1, c2, c3] 44 (0, 0))) (hF : FrB w Bf f) :
    SeqX n Try.prog 114 #[.pointer (some ⟨Bp, 0, none⟩), .pointer (some ⟨Bf, 0, none⟩)] frEnc (Only Bf) (KpO base Own)
      (fun xs => ∃ k, xs = preF P f (k + 1) ∧ okTo P f k ∧ errN P f k ≠ 0) (fun pre => ∃ k, pre = preF P f (k + 1) ∧ okTo P f k)
      (fun pre x => ∃ k, pre = preF P f k ∧ x = (nthF P f k, errN P f k) ∧ okTo P f k) (fun pre => pre.length < N) w := fun l J Jx W hW hJA hJxA hBd hY h0 => by
  have HP0 : W.heap[Bp]? = some (.cells #[c1, c2, c3] 44 (0, 0)) := (hW.block _ (Array.getElem?_eq_some_iff.1 hP).1).trans hP
  have HF0 : FrB W Bf f := hF.keep hW hF.lt
  have hRW : ∀ W', Below base W W' → RProg W' c1 c2 c3 P := fun W' h => hR W' ((hW.mono hb).trans h)
  have hbW : base ≤ W.heap.size := Nat.le_trans hb hW.size
  have hwW := hW.size
  clear hR hP hF hW
  obtain ⟨A1, n1, rfl, _, _, hl1⟩ := (hRW W (Below.refl _ _)).caps.val
  obtain ⟨A2, n2, rfl, _, _, hl2⟩ := (hRW W (Below.refl _ _)).codes.val
  obtain ⟨A3, n3, rfl, _, _, hl3⟩ := (hRW W (Below.refl _ _)).sites.val
  refine callsIn_of_wp Try.func114 rfl trivial ?_ rfl
  simp only [Try.ntmps114, List.size_toArray, List.length_cons, List.length_nil, Nat.reduceAdd, Nat.reduceSub, Array.replicate_succ, Array.replicate_zero, List.push_toArray, List.append_toArray, List.nil_append, List.cons_append]
  have HJA := Lib.hid hJA
  have HJxA := Lib.hid hJxA
  have HBd := Lib.hid hBd
  have HY := Lib.hid hY
  have HR := Lib.hid hRW
  have HFw := Lib.hid hf
  clear hJA hJxA hBd hY hRW hf
  gi_wp2
  obtain ⟨inv, hinv⟩ : ∃ inv : Nat → World → Prop, inv = fun k wr => okTo P f k ∧ J (preF P f k) wr ∧ FrB wr Bf (nthF P f k) ∧ wr.heap[Bp]? = some (.cells #[.slice A1 P.caps.length n1, .slice A2 P.codes.length n2, .slice A3 P.sites.length n3] 44 (0, 0)) ∧ Below base W wr := ⟨_, rfl⟩
  have HI := Lib.hid hinv
  have hinv0 : inv 0 W := by rw [hinv]; exact ⟨fun i hi => absurd hi (Nat.not_lt_zero _), h0, HF0, HP0, Below.refl _ _⟩
  have HI0 := Lib.hid hinv0
  clear hinv hinv0 h0 HF0 HP0
  gi_loopw [5] (fun _ wr => ∃ k, inv k wr) (fun _ wr => muX inv N wr)
  case atStart => exact ⟨0, HI0.out⟩
  case round =>
    obtain ⟨k, hk, hmu⟩ := muX_pick (N := N) hrel
    rw [HI.out] at hk
    obtain ⟨hok, hj, hfr, hp, hbl⟩ := hk
    obtain ⟨F, hFk⟩ : ∃ F, F = nthF P f k := ⟨_, rfl⟩
    obtain ⟨G, hG⟩ : ∃ G, G = (stepF P F).1 := ⟨_, rfl⟩
    obtain ⟨e, he⟩ : ∃ e, e = (stepF P F).2 := ⟨_, rfl⟩
    rw [← hFk] at hfr
    have hFw : F.wf := by rw [hFk]; exact nthF_wf HFw.out k
    have hstep := fun (W : World) (h : RProg W (.slice A1 P.caps.length n1) (.slice A2 P.codes.length n2) (.slice A3 P.sites.length n3) P) => callsIn_wide (n := n - 1) |>.2 (step_any h F hFw)
    rw [← hG, ← he] at hstep
    simp only [FrameV.agg, FrameV.cells] at hstep
    have HST := Lib.hid hstep
    have hgd : ∃ k', preF P f k = preF P f k' ∧ (F, e) = (nthF P f k', errN P f k') ∧ okTo P f k' := ⟨k, rfl, by rw [hFk, he, hFk]; rfl, hok⟩
    have HGd := Lib.hid hgd
    have HJ := Lib.hid hj
    have HBL := Lib.hid hbl
    have HFr := Lib.hid hfr
    have HPb := Lib.hid hp
    have HOK := Lib.hid hok
    have fc := hfr.cell
    have ff := hfr.free
    simp only [FrameV.cells] at fc
    have pc : ∀ i, wr.cell? ⟨Bp, i, none⟩ = (#[.slice A1 P.caps.length n1, .slice A2 P.codes.length n2, .slice A3 P.sites.length n3] : Array Value)[i]? := fun i => by simp [World.cell?, hp]
    have hszr := hbl.size
    have hlf := hfr.lt
    have hlp : Bp < wr.heap.size := (Array.getElem?_eq_some_iff.1 hp).1
    have HG := Lib.hid hG
    have HE := Lib.hid he
    have HFk := Lib.hid hFk
    have HMU := Lib.hid hmu
    clear hstep hgd hj hbl hfr hp hok hG he hFk hmu hrel hFw
    by_cases he0 : e = 0
    · subst he0
      gi_wp2_with ((first | refine ⟨trivial, fun _ => by omega, ?_⟩ | refine ⟨trivial, ?_⟩); (with_reducible refine (HST.out _ (HR.out _ HBL.out)).mono ?_); rintro e1 w2 ⟨rfl, hb2⟩; obtain ⟨hbc, hbf'⟩ := bcell hb2; have hlf2 : Bf < w2.heap.size := Nat.lt_of_lt_of_le hlf hb2.size; have hJ3 := HJA.out _ _ (w2.alloc (.cells #[.int .i64 G.code, .int .i64 G.pc, .int .i64 (rg G.r 0), .int .i64 (rg G.r 1), .int .i64 (rg G.r 2), .int .i64 (rg G.r 3), .int .i64 (rg G.r 4), .int .i64 (rg G.r 5), .int .i64 (rg G.r 6), .int .i64 (rg G.r 7)] 47)) HJ.out (((Only.refl Bf wr).of_below hb2).alloc _); obtain ⟨fn, tmps, assign, body, hy, hRd⟩ := HY.out (preF P f k) (F, 0) _ hJ3 HGd.out; dsimp only [frEnc, FrameV.agg, FrameV.cells] at hy)
      refine hRd.mono ?_
      have hG3 : FrB (w2.alloc (.cells #[.int .i64 G.code, .int .i64 G.pc, .int .i64 (rg G.r 0), .int .i64 (rg G.r 1), .int .i64 (rg G.r 2), .int .i64 (rg G.r 3), .int .i64 (rg G.r 4), .int .i64 (rg G.r 5), .int .i64 (rg G.r 6), .int .i64 (rg G.r 7)] 47)) w2.heap.size G := World.alloc_heap_new w2 _
      have hF3 : FrB (w2.alloc (.cells #[.int .i64 G.code, .int .i64 G.pc, .int .i64 (rg G.r 0), .int .i64 (rg G.r 1), .int .i64 (rg G.r 2), .int .i64 (rg G.r 3), .int .i64 (rg G.r 4), .int .i64 (rg G.r 5), .int .i64 (rg G.r 6), .int .i64 (rg G.r 7)] 47)) Bf F := (HFr.out.keep hb2 hlf).alloc _
      have hP3 := (Below.heap_alloc w2 (.cells #[.int .i64 G.code, .int .i64 G.pc, .int .i64 (rg G.r 0), .int .i64 (rg G.r 1), .int .i64 (rg G.r 2), .int .i64 (rg G.r 3), .int .i64 (rg G.r 4), .int .i64 (rg G.r 5), .int .i64 (rg G.r 6), .int .i64 (rg G.r 7)] 47) Bp (Nat.lt_of_lt_of_le hlp hb2.size)).trans ((hb2.block _ hlp).trans HPb.out)
      have hs2 := hb2.size
      have hOw : ¬ Own w2.heap.size := fun h => by have := hO _ h; omega
      clear hy hRd hbc hbf' fc ff pc hJ3
      rintro e2 W4 (⟨rfl, hJ4, hk4⟩ | ⟨rfl, hJx4⟩)
      · have hG4 : FrB W4 w2.heap.size G := hk4.cells _ _ hG3 rfl hOw
        have hF4 : FrB W4 Bf F := hk4.cells _ _ hF3 rfl hof
        have hP4 := hk4.cells _ _ hP3 rfl hop
        have gc := hG4.cell
        have fc := hF4.cell
        have ff := hF4.free
        simp only [FrameV.cells] at gc fc
        have hl4 := hF4.lt
        have HG4 := Lib.hid hG4
        have HF4 := Lib.hid hF4
        have HP4 := Lib.hid hP4
        have HJ4 := Lib.hid hJ4
        have HK4 := Lib.hid hk4
        clear hG4 hF4 hP4 hJ4 hk4 hG3 hF3 hP3
        have hok1 : okTo P f (k + 1) := fun i hi => by
          rcases Nat.lt_succ_iff_lt_or_eq.1 hi with h | h
          · exact HOK.out i h
          · rw [h]; exact (show errN P f k = 0 from by rw [errN, ← HFk.out, ← HE.out])
        have key : ∀ W5, Only Bf W4 W5 → FrB W5 Bf G → (∃ k, inv k W5) ∧ muX inv N W5 < muX inv N wr := fun W5 ho hg => by
          have hi : inv (k + 1) W5 := by
            rw [HI.out]
            refine ⟨hok1, HJA.out _ _ _ (by rw [(show preF P f (k + 1) = preF P f k ++ [(F, 0)] from by rw [preF_succ, (show errN P f k = 0 from by rw [errN, ← HFk.out, ← HE.out]), ← HFk.out])]; exact HJ4.out) ho, ?_, (ho.block _ (Array.getElem?_eq_some_iff.1 HP4.out).1 hpf).trans HP4.out, ?_⟩
            · rw [nthF, ← HFk.out, ← HG.out]; exact hg
            · exact (HBL.out.trans ((hb2.mono (by omega)).trans ((((Below.refl base w2).alloc (by omega) _).trans HK4.out.below)))).trans (ho.below hbf (by have := HK4.out.below.size; simp only [World.size_alloc] at this; omega))
          have hkN : k < N := by have := HBd.out _ _ HJ.out; rwa [preF_length] at this
          exact ⟨⟨k + 1, hi⟩, Nat.lt_of_le_of_lt (muX_le hi) (by rw [HMU.out]; omega)⟩
        have KEY := Lib.hid key
        clear key hok1
        gi_wp2
        exact KEY.out _ (Only.setAll Bf W4 G) (HF4.out.setAll G)
      · gi_wp2
        refine bodyPost_ret (results_none rfl _ _ _) rfl ?_
        exact ⟨⟨_, rfl⟩, .inr ⟨_, ⟨k, (show preF P f (k + 1) = preF P f k ++ [(F, 0)] from by rw [preF_succ, (show errN P f k = 0 from by rw [errN, ← HFk.out, ← HE.out]), ← HFk.out]).symm, HOK.out⟩, hJx4⟩⟩
    · have hd0 : (e != 0) = true := by simp [he0]
      have HE0 := Lib.hid he0
      clear he0
      gi_wp2_with ((first | refine ⟨trivial, fun _ => by omega, ?_⟩ | refine ⟨trivial, ?_⟩); (with_reducible refine (HST.out _ (HR.out _ HBL.out)).mono ?_); rintro e1 w2 ⟨rfl, hb2⟩; obtain ⟨hbc, hbf'⟩ := bcell hb2; have hlf2 : Bf < w2.heap.size := Nat.lt_of_lt_of_le hlf hb2.size; have hJ3 := HJA.out _ _ (w2.alloc (.cells #[.int .i64 G.code, .int .i64 G.pc, .int .i64 (rg G.r 0), .int .i64 (rg G.r 1), .int .i64 (rg G.r 2), .int .i64 (rg G.r 3), .int .i64 (rg G.r 4), .int .i64 (rg G.r 5), .int .i64 (rg G.r 6), .int .i64 (rg G.r 7)] 47)) HJ.out (((Only.refl Bf wr).of_below hb2).alloc _); obtain ⟨fn, tmps, assign, body, hy, hRd⟩ := HY.out (preF P f k) (F, e) _ hJ3 HGd.out; dsimp only [frEnc, FrameV.agg, FrameV.cells] at hy)
      refine hRd.mono ?_
      clear hy hRd hbc hbf' fc ff pc hJ3
      rintro e2 W4 (⟨rfl, hJ4, hk4⟩ | ⟨rfl, hJx4⟩)
      · gi_wp2
        refine bodyPost_ret (results_none rfl _ _ _) rfl ?_
        exact ⟨⟨_, rfl⟩, .inl ⟨_, ⟨k, (show preF P f (k + 1) = preF P f k ++ [(F, e)] from by rw [preF_succ, (show errN P f k = e from by rw [errN, ← HFk.out, ← HE.out]), ← HFk.out]).symm, HOK.out, by rw [(show errN P f k = e from by rw [errN, ← HFk.out, ← HE.out])]; exact HE0.out⟩, hJ4⟩⟩
      · gi_wp2
        refine bodyPost_ret (results_none rfl _ _ _) rfl ?_
        exact ⟨⟨_, rfl⟩, .inr ⟨_, ⟨k, (show preF P f (k + 1) = preF P f k ++ [(F, e)] from by rw [preF_succ, (show errN P f k = e from by rw [errN, ← HFk.out, ← HE.out]), ← HFk.out]).symm, HOK.out⟩, hJx4⟩⟩
end Go.Proofs.Ytljfloopjgpaeaa
