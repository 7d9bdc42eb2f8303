/- entry.tell: its walk. -/
import Derived.Deep.Cut
import Derived.Deep.DeepCutAuto
import Derived.Deep.CutBlock
import Derived.Sort.CutIn
import Derived.RangeFuncNested
import Derived.RangeFuncBound
import Derived.RangeFuncCalls
import Derived.RangeFuncLeaves
import Derived.LoopNIn
import Derived.LoopIn
import Derived.Test.YtljfloopjgpaeabDoorVG
import Derived.Test.YtljfloopjgpaeabDoorLX
namespace Go.Proofs.YtljfloopjgpaeabDoor
set_option linter.unusedVariables false
set_option linter.unusedSimpArgs false
open Go.RowKit Go.Shelf
attribute [local go_sem] Oper.semAt_some run_store_fn
set_option maxRecDepth 100000
theorem ask1_yes {W : World} {r : Nat} {k : Int} {word : ByteArray} {u : Value} {has : List ByteArray} (h : FormK W r k word u has) : (Instr.lookup 98 (.map (some r)) (.int .u8 k) false).run Tryd.prog W = .ok (.agg #[.string word, u]) W := by
  obtain ⟨n, es, i, h1, h2, _⟩ := h
  rw [run_mapAsk1 Tryd.underlying98 Tryd.underlying5 zero_eform h1 k, h2]
  rfl
theorem field_form (a : ByteArray) (u : Value) (w : World) : (Instr.field 96 (.agg #[.string a, u]) 1).run Tryd.prog w = .ok u w := by rfl
theorem mem_eFields (y : EFd) : y ∈ eFields := by
  obtain ⟨q, hq⟩ := y
  have hq' := hq
  simp only [eFields0, List.mem_cons, List.mem_nil_iff, or_false] at hq'
  rcases hq' with rfl | rfl | rfl | rfl | rfl | rfl
  · exact .head _
  · exact .tail _ (.head _)
  · exact .tail _ (.tail _ (.head _))
  · exact .tail _ (.tail _ (.tail _ (.head _)))
  · exact .tail _ (.tail _ (.tail _ (.tail _ (.head _))))
  · exact .tail _ (.tail _ (.tail _ (.tail _ (.tail _ (.head _)))))
/-- Marks of loops that have ended. -/
def DefS (Ds : List Nat) (W : World) : Prop := ∀ D, D ∈ Ds → W.heap[D]? = some (.deferred (some []))
def marksOf (Ds : List Nat) : List Deferred := Ds.map fun D => { target := .collected D, args := #[] }
theorem leaves_all {F : Fence} {n : Nat} {P : Program} {fn : Func} {tmps : Array Value} {R : Ending → World → Prop} {B : Nat} (Φ : World → Prop) (hΦ : ∀ W D, B ≤ D → W.heap[D]? = some (.deferred (some [])) → Φ W → Φ (W.putObj D (.deferred none)))
    (hres : ∀ W', Φ W' → LeavesIn F n P fn tmps R [] .returning W') : ∀ (Ds : List Nat) (W : World), DefS Ds W → Ds.Nodup → (∀ D ∈ Ds, B ≤ D) → Φ W → LeavesInM F n P fn tmps R (marksOf Ds) .returning W
  | [], W, _, _, _, h => hres W h
  | D :: Ds, W, hd, hn, hb, h => by
    have h1 := hd D (List.mem_cons_self ..)
    obtain ⟨n1, n2⟩ := List.nodup_cons.1 hn
    refine ⟨by simp, .inl ⟨_, _, rfl, run_takeDeferred h1, ?_⟩⟩
    refine leaves_all Φ hΦ hres Ds _ (fun E hE => ?_) n2 (fun E hE => hb E (List.mem_cons_of_mem _ hE)) (hΦ W D (hb D (List.mem_cons_self ..)) h1 h)
    exact (World.putObj_heap_other (fun e => n1 (by first | (rw [← e]; exact hE) | (rw [e]; exact hE) | (subst e; exact hE)))).trans (hd E (List.mem_cons_of_mem _ hE))
theorem wp_loop_K {P : Program} {c : Code} {Q : Exit → Act → World → Prop} {a : Act} {w : World} (I : Act → World → Prop) (μ : Act → World → Nat) (h₀ : I a w)
    (round : ∀ a w, I a w → ∀ K : Act → World → Prop, (∀ a' w', I a' w' → μ a' w' < μ a w → K a' w') → c.wp P (Exit.then K Q) a w) : (Code.loop c).wp P Q a w :=
  wp_loop I μ h₀ fun a w h => round a w h _ (fun _ _ h1 h2 => ⟨h1, h2⟩)
set_option maxHeartbeats 8000000 in
theorem tell_in (n : Nat) (hn : 3 ≤ n) {w : World} {B : Nat} {Mod : Nat → Obj → Prop} {S : List Ev → World → Prop} {ok : Ev → Prop} {gs gw gp : Nat} {vs vw vp : Array Value} (x : EntV) (p : ByteArray × List ByteArray) (hk : hasOf x.kind = some p) (hS : Sink Mod B S ok gs gw gp vs vw vp) (hF : Free Mod) (hset : 0 ≤ x.set) (h0 : S [] w) (hB : B ≤ w.heap.size) (hok : ∀ ev ∈ evAll x p.2, ok ev) :
    CallsIn Fence.wide n Tryd.prog 41 #[x.agg, .func (.func gs) #[] vs, .func (.func gw) #[] vw, .func (.func gp) #[] vp] w fun e w' => e = .returned (.tuple #[]) ∧ S (evAll x p.2) w' ∧ KeepsM Mod w w' ∧ Below B w w' := by
  have h1 : 1 ≤ n := by omega
  obtain ⟨xa, xk, x2, x3, x4, x5, x6, x7, x8, x9, x10, x11, x12⟩ := x
  simp only at hset
  obtain ⟨X, hX⟩ : ∃ X : EntV, X = ⟨xa, xk, x2, x3, x4, x5, x6, x7, x8, x9, x10, x11, x12⟩ := ⟨_, rfl⟩
  rw [← hX] at hok ⊢
  have HX := Lib.hid hX
  have HS := Lib.hid hS
  have HF := Lib.hid hF
  have H0 := Lib.hid h0
  have HB := Lib.hid hB
  have HOK := Lib.hid hok
  rw [show X.agg = EntV.agg ⟨xa, xk, x2, x3, x4, x5, x6, x7, x8, x9, x10, x11, x12⟩ by rw [hX]]
  clear hX hS hF h0 hB hok
  simp only [EntV.agg] at hk ⊢
  refine callsIn_of_wp_marks Tryd.func41 rfl trivial ?_ rfl
  simp only [Tryd.ntmps41, List.size_toArray, List.length_cons, List.length_nil, Nat.reduceAdd, Nat.reduceSub, Array.replicate_succ, Array.replicate_zero, List.push_toArray, List.append_toArray, List.nil_append, List.cons_append]
  refine wpIn_wide.2 ?_
  go_upto_region 1 with fail
  refine Lx.start2 (fun W1 hII => ?_)
  have HIN := Lib.hid hII
  clear hII
  refine Lx.regionS (by kernel_rfl) (by kernel_rfl) HIN.out.1 HIN.out.2 (by simp only [List.size_toArray, List.length_cons, List.length_nil, Nat.reduceAdd]; rfl) (fun O Z hO hZ => ?_); have HO := Lib.hid hO; clear hO
  first
    | (apply Lx.kp HO 1; (case hx => exact ⟨rfl, rfl, rfl⟩); (case hk => decide +kernel); (case hv => intro w_ hw_; (go_simp <;> first | with_reducible rfl | exact ⟨rfl, rfl⟩)); simp only [Act.put, Lx.p1, Lx.p2, Lx.p3])
  first
    | (apply Lx.kr HO 2; (case hx => exact ⟨rfl, rfl, rfl⟩); (case hk => decide +kernel); (case hv => intro w_ hw_; have P_ := hw_.holds (w.heap.size) _ (by (repeat (first | exact Lx.ua _ _ _ | rw [Lx.un _ _ (by omega)] | rw [Lx.am]))); have c1 : w_.cell? ⟨w.heap.size, 1, none⟩ = some (.int .u8 xk) := Ly.cellAt P_ 1 rfl; clear P_; (go_simp <;> first | with_reducible rfl | exact ⟨rfl, rfl⟩)); simp only [Act.put, Lx.p1, Lx.p2, Lx.p3])
  first
    | (apply Lx.kR HO 0 (relK xk p); (case hx => exact ⟨rfl, rfl, rfl⟩); (case hk => decide +kernel); (case hrun => intro w_; (go_simp <;> first | with_reducible rfl | exact ⟨rfl, rfl⟩)); (case hne => exact relK_ok _ _); (case hc => intro w_ hw_; exact forms_yes hk w_))
  rintro _ _ ⟨r, A, c, rfl, rfl⟩
  simp only [Act.put, Lx.p1, Lx.p2, Lx.p3]
  first
    | (apply Lx.kr HO 3; (case hx => exact ⟨rfl, rfl, rfl⟩); (case hk => decide +kernel); (case hv => intro w_ hw_; have q_ := ask1_yes (Lx.m0 hw_.more); (go_simp <;> first | with_reducible rfl | exact ⟨rfl, rfl⟩)); simp only [Act.put, Lx.p1, Lx.p2, Lx.p3])
  first
    | (apply Lx.kp HO 4; (case hx => exact ⟨rfl, rfl, rfl⟩); (case hk => decide +kernel); (case hv => intro w_ hw_; have q_ := field_form p.1 (.slice A p.2.length c) w_; (go_simp <;> first | with_reducible rfl | exact ⟨rfl, rfl⟩)); simp only [Act.put, Lx.p1, Lx.p2, Lx.p3])
  first
    | (apply Lx.kr HO 5; (case hx => exact ⟨rfl, rfl, rfl⟩); (case hk => decide +kernel); (case hv => intro w_ hw_; skip; (go_simp <;> first | with_reducible rfl | exact ⟨rfl, rfl⟩)); simp only [Act.put, Lx.p1, Lx.p2, Lx.p3])
  first
    | (apply Lx.kp HO 6; (case hx => exact ⟨rfl, rfl, rfl⟩); (case hk => decide +kernel); (case hv => intro w_ hw_; (go_simp <;> first | with_reducible rfl | exact ⟨rfl, rfl⟩)); simp only [Act.put, Lx.p1, Lx.p2, Lx.p3])
  refine Lx.kd HO (by kernel_rfl) (fun hiv2 => hZ _ _ (fun W2 hw2 => ?_))
  clear hZ Z HO O
  have hB2 := hw2.below
  have hE := hw2.holds (w.heap.size) _ (by (repeat (first | exact Lx.ua _ _ _ | rw [Lx.un _ _ (by omega)] | rw [Lx.am])))
  have hG := hw2.holds (w.heap.size + 1) _ (by (repeat (first | exact Lx.ua _ _ _ | rw [Lx.un _ _ (by omega)] | rw [Lx.am])))
  have hFm := Lx.m0 hw2.more
  have hHas := (show Ef.Has W2 (.slice A p.2.length c) p.2 from by obtain ⟨_, _, _, _, _, h⟩ := hFm; exact h)
  clear hw2 hiv2 HIN hFm
  have h00 := HS.out.keep _ _ _ H0.out (CellsKept.of_below hB2)
  have hK0 : KeepsM Mod w W2 := KeepsM.of_below hB2
  have hBB : Below B w W2 := hB2.mono HB.out
  have HE := Lib.hid hE
  have HG := Lib.hid hG
  have HHAS := Lib.hid hHas
  have HB2 := Lib.hid hB2
  have hlE : w.heap.size < W2.heap.size := (Array.getElem?_eq_some_iff.1 hE).1
  have hlG : w.heap.size + 1 < W2.heap.size := (Array.getElem?_eq_some_iff.1 hG).1
  have hl50 : p.2.length ≤ 50 := hHas.1
  clear hE hG hHas hB2
  go_wp2
  refine wp_loop_K (fun a wr => ∃ (k : Nat) (Ds : List Nat) (u9 u10 u11 u19 u20 u21 u22 u23 u24 u25 u26 u27 u28 u29 u30 u31 u32 u33 u34 u35 u36 u37 u38 u39 u40 u41 u42 u43 u44 u45 u46 u47 u48 u49 u50 u51 u52 u53 u54 u55 u56 u57 u58 u59 u60 u61 u62 u63 u64 u65 u66 u67 : Value), a = { tmps := #[.agg #[.int .i64 xa, .int .u8 xk, .int .i64 x2, .int .i64 x3, .int .i64 x4, .int .i64 x5, .int .i64 x6, .int .i64 x7, .int .i64 x8, .int .i64 x9, .bool x10, .int .i64 x11, .int .u64 x12], .func (.func gs) #[] vs, .func (.func gw) #[] vw, .func (.func gp) #[] vp, .pointer (some ⟨w.heap.size, 0, none⟩), .pointer (some ⟨w.heap.size + 1, 0, none⟩), undef, undef, undef, u9, u10, u11, .map (some r), .pointer (some ⟨w.heap.size, 1, none⟩), .int .u8 xk, .agg #[.string p.1, .slice A p.2.length c], .slice A p.2.length c, .int .i64 p.2.length, .int .i64 k, u19, u20, u21, u22, u23, u24, u25, u26, u27, u28, u29, u30, u31, u32, u33, u34, u35, u36, u37, u38, u39, u40, u41, u42, u43, u44, u45, u46, u47, u48, u49, u50, u51, u52, u53, u54, u55, u56, u57, u58, u59, u60, u61, u62, u63, u64, u65, u66, u67], defers := marksOf Ds } ∧ k ≤ p.2.length ∧ S (evAll X (p.2.take k)) wr ∧ KeepsM Mod W2 wr ∧ Below B w wr ∧ DefS Ds wr ∧ Ds.Nodup ∧ (∀ D ∈ Ds, w.heap.size ≤ D)) (fun a _ => p.2.length - (intOf (a.tmps.getD 18 undef)).toNat) ?atStart ?round
  case atStart =>
    refine ⟨0, [], ?_⟩
    (repeat apply Exists.intro)
    exact ⟨rfl, Nat.zero_le _, h00, KeepsM.refl _ _, hBB, by simp [DefS], List.nodup_nil, by simp⟩
  case round =>
    rintro a wr ⟨k, Ds, u9, u10, u11, u19, u20, u21, u22, u23, u24, u25, u26, u27, u28, u29, u30, u31, u32, u33, u34, u35, u36, u37, u38, u39, u40, u41, u42, u43, u44, u45, u46, u47, u48, u49, u50, u51, u52, u53, u54, u55, u56, u57, u58, u59, u60, u61, u62, u63, u64, u65, u66, u67, rfl, hk2, hs, hkm, hbb, hds, hnd, hge⟩ K0 hK0
    have HK0 := Lib.hid hK0
    have HDS := Lib.hid hds
    have HND := Lib.hid hnd
    have HGE := Lib.hid hge
    have HSS := Lib.hid hs
    have HKM := Lib.hid hkm
    have HBB := Lib.hid hbb
    clear hK0 hds hnd hge
    by_cases hlt : k < p.2.length
    · obtain ⟨_, b, o, c2, hsl, hc1, hc2, cs, z, hcell, hget⟩ := HHAS.out
      obtain ⟨rfl, rfl⟩ : A = some ⟨b, o, none⟩ ∧ c = c2 := by simpa using hsl
      have hall := (has_names hk).2.1 _ (List.getElem_mem hlt)
      have hcell' := hkm.2 _ _ hcell (HF.out.str _ _ _ _ _ (hget k p.2[k] (List.getElem?_eq_getElem hlt)) hall)
      have hbl : b < wr.heap.size := (Array.getElem?_eq_some_iff.1 hcell').1
      obtain ⟨s, hsx⟩ : ∃ s, s = p.2[k] := ⟨_, rfl⟩
      have hsA : s ∈ all11 := by rw [hsx]; exact hall
      have HSN11 := Lib.hid hsA
      have hln : (evAll X (p.2.take k)).length ≤ 350 := by
        have h1 := evAll_len X (p.2.take k)
        have h2 : (p.2.take k).length ≤ 50 := Nat.le_trans (List.length_take_le ..) (by omega)
        omega
      have HLN := Lib.hid hln
      clear hln
      clear hall hsA
      have g0 : wr.cell? ⟨b, o + k, none⟩ = some (.string s) := by
        have h3 := hget k p.2[k] (List.getElem?_eq_getElem hlt)
        rw [hsx]
        simp only [World.cell?, hcell', h3]
        rfl
      have hi1 : (k : Int) < (p.2.length : Int) := by omega
      have hi0 : (0 : Int) ≤ (k : Int) := by omega
      have hwr : IntKind.i64.wrap ((k : Int) + 1) = (k : Int) + 1 := IntWalk.i64_in _ (by omega)
      have htake : evAll X (p.2.take (k + 1)) = evAll X (p.2.take k) ++ evOf X s := by rw [List.take_succ_eq_append_getElem hlt, evAll_snoc, hsx]
      have hokS : ∀ ev ∈ evOf X s, ok ev := fun ev hev => HOK.out ev (by
        unfold evAll
        exact List.mem_flatMap.2 ⟨s, by rw [hsx]; exact List.getElem_mem hlt, hev⟩)
      have HT := Lib.hid htake
      have HOS := Lib.hid hokS
      clear hs hkm hbb hcell hget hcell' hsl htake hokS hsx hc1 hc2
      have e_val : (s.toList == [118, 97, 108]) = decide (s = s_val) := by rw [← eqS, ByteArray.toList_eq s_val]
      have e_val2 : (s.toList == [118, 97, 108, 50]) = decide (s = s_val2) := by rw [← eqS, ByteArray.toList_eq s_val2]
      have e_ok : (s.toList == [111, 107]) = decide (s = s_ok) := by rw [← eqS, ByteArray.toList_eq s_ok]
      have e_code : (s.toList == [99, 111, 100, 101]) = decide (s = s_code) := by rw [← eqS, ByteArray.toList_eq s_code]
      have e_set : (s.toList == [115, 101, 116]) = decide (s = s_set) := by rw [← eqS, ByteArray.toList_eq s_set]
      go_upto_block 2 with fail
      obtain ⟨wa, hwa⟩ : ∃ wa, wa = wr.alloc (.cells #[.string s] 9) := ⟨_, rfl⟩
      have hD : wa.heap[wr.heap.size]? = some (.cells #[.string s] 9 (0, 0)) := by rw [hwa]; exact World.alloc_heap_new wr _
      have hba : Below wr.heap.size wr wa := by rw [hwa]; exact (Below.refl _ wr).alloc (Nat.le_refl _) _
      rw [← hwa]
      have HRA := Lib.hid (KeepsM.of_below (Mod := Mod) hba)
      have hSa := HS.out.keep _ _ _ HSS.out (CellsKept.of_below hba)
      have hKa : KeepsM Mod W2 wa := HKM.out.trans (KeepsM.of_below hba)
      have hBa : Below B w wa := HBB.out.trans (hba.mono (Nat.le_trans HB.out HBB.out.size))
      have hEa := hKa.2 _ _ HE.out (HF.out.ent _ _ _)
      have HSA := Lib.hid hSa
      have HKA := Lib.hid hKa
      have HBA := Lib.hid hBa
      have HD := Lib.hid hD
      have hsw : ∀ ev ∈ evSw X s, ok ev := fun ev hev => HOS.out ev (List.mem_append.2 (.inl hev))
      have HSW := Lib.hid hsw
      have c8 : wa.cell? ⟨w.heap.size, 8, none⟩ = some (.int .i64 x8) := Ly.cellAt hEa 8 rfl
      have c9 : wa.cell? ⟨w.heap.size, 9, none⟩ = some (.int .i64 x9) := Ly.cellAt hEa 9 rfl
      have c10 : wa.cell? ⟨w.heap.size, 10, none⟩ = some (.bool x10) := Ly.cellAt hEa 10 rfl
      have c11 : wa.cell? ⟨w.heap.size, 11, none⟩ = some (.int .i64 x11) := Ly.cellAt hEa 11 rfl
      have c12 : wa.cell? ⟨w.heap.size, 12, none⟩ = some (.int .u64 x12) := Ly.cellAt hEa 12 rfl
      have hlEa : w.heap.size < wa.heap.size := (Array.getElem?_eq_some_iff.1 hEa).1
      clear hwa hD hba hSa hKa hBa hEa hsw g0 hbl
      go_cut [] from 23 to 67 (fun wx => S (evAll X (p.2.take k) ++ evSw X s) wx ∧ KeepsM Mod wa wx ∧ Below B w wx)
      case first =>
        have hSz : B ≤ wa.heap.size := Nat.le_trans HB.out HBA.out.size
        by_cases dval : s = s_val
        · have hev : evSw X s = [.wide x8] := by unfold evSw; rw [if_pos dval, HX.out]
          have hcall := HS.out.wide _ wa x8 HSA.out (HSW.out _ (by rw [hev]; simp)) (by have := HLN.out; omega) hSz
          rw [← hev] at hcall
          have hew := HS.out.ew
          have HC := Lib.hid hcall
          rw [decide_eq_true dval] at e_val
          clear hcall hev hSz dval
          go_wp2_with (first
            | ((with_reducible refine (eflag_any _ _).mono ?_); rintro e w' ⟨rfl, rfl⟩)
            | ((with_reducible refine HC.out.mono ?_); rintro e w' ⟨rfl, hs', hk', hb'⟩; (have HS' := Lib.hid hs'); (have HK' := Lib.hid hk'); (have HB' := Lib.hid hb'); clear hs' hk' hb'))
          go_meet
          exact ⟨HS'.out, HK'.out, HBA.out.trans HB'.out⟩
        rw [decide_eq_false dval] at e_val
        by_cases dval2 : s = s_val2
        · have hev : evSw X s = [.wide x9] := by unfold evSw; rw [if_neg dval, if_pos dval2, HX.out]
          have hcall := HS.out.wide _ wa x9 HSA.out (HSW.out _ (by rw [hev]; simp)) (by have := HLN.out; omega) hSz
          rw [← hev] at hcall
          have hew := HS.out.ew
          have HC := Lib.hid hcall
          rw [decide_eq_true dval2] at e_val2
          clear hcall hev hSz dval dval2
          go_wp2_with (first
            | ((with_reducible refine (eflag_any _ _).mono ?_); rintro e w' ⟨rfl, rfl⟩)
            | ((with_reducible refine HC.out.mono ?_); rintro e w' ⟨rfl, hs', hk', hb'⟩; (have HS' := Lib.hid hs'); (have HK' := Lib.hid hk'); (have HB' := Lib.hid hb'); clear hs' hk' hb'))
          go_meet
          exact ⟨HS'.out, HK'.out, HBA.out.trans HB'.out⟩
        rw [decide_eq_false dval2] at e_val2
        by_cases dok : s = s_ok
        · obtain ⟨z, hz⟩ : ∃ z : Nat, z = (if x10 then 1 else 0) := ⟨_, rfl⟩
          have hfl : ∀ W, Calls Tryd.prog 89 #[.bool x10] W fun e w' => e = .returned (.int .u64 (z : Int)) ∧ W = w' := fun W => by rw [show (z : Int) = (if x10 then 1 else 0) by rw [hz]; cases x10 <;> rfl]; exact eflag_any x10 W
          have HFL := Lib.hid hfl
          have hev : evSw X s = [.plain z] := by unfold evSw; rw [if_neg dval, if_neg dval2, if_pos dok, HX.out, hz]
          have hcall := HS.out.plain _ wa z HSA.out (HSW.out _ (by rw [hev]; simp)) (by have := HLN.out; omega) hSz
          rw [← hev] at hcall
          have hew := HS.out.ep
          have HC := Lib.hid hcall
          rw [decide_eq_true dok] at e_ok
          clear hcall hev hSz hz hfl dval dval2 dok
          go_wp2_with (first
            | ((with_reducible refine (HFL.out _).mono ?_); rintro e w' ⟨rfl, rfl⟩)
            | ((with_reducible refine HC.out.mono ?_); rintro e w' ⟨rfl, hs', hk', hb'⟩; (have HS' := Lib.hid hs'); (have HK' := Lib.hid hk'); (have HB' := Lib.hid hb'); clear hs' hk' hb'))
          go_meet
          exact ⟨HS'.out, HK'.out, HBA.out.trans HB'.out⟩
        rw [decide_eq_false dok] at e_ok
        by_cases dcode : s = s_code
        · have hev : evSw X s = [.plain (IntKind.u64.wrap x11).toNat] := by unfold evSw; rw [if_neg dval, if_neg dval2, if_neg dok, if_pos dcode, HX.out]
          have hcall := HS.out.plain _ wa (IntKind.u64.wrap x11).toNat HSA.out (HSW.out _ (by rw [hev]; simp)) (by have := HLN.out; omega) hSz
          rw [← hev] at hcall
          have hew := HS.out.ep
          have hn2 : (((IntKind.u64.wrap x11).toNat : Nat) : Int) = IntKind.u64.wrap x11 := by rw [IntKind.wrap_u64]; omega
          rw [hn2] at hcall
          clear hn2
          have HC := Lib.hid hcall
          rw [decide_eq_true dcode] at e_code
          clear hcall hev hSz dval dval2 dok dcode
          go_wp2_with (first
            | ((with_reducible refine (eflag_any _ _).mono ?_); rintro e w' ⟨rfl, rfl⟩)
            | ((with_reducible refine HC.out.mono ?_); rintro e w' ⟨rfl, hs', hk', hb'⟩; (have HS' := Lib.hid hs'); (have HK' := Lib.hid hk'); (have HB' := Lib.hid hb'); clear hs' hk' hb'))
          go_meet
          exact ⟨HS'.out, HK'.out, HBA.out.trans HB'.out⟩
        rw [decide_eq_false dcode] at e_code
        by_cases dset : s = s_set
        · have hev : evSw X s = [.plain x12.toNat] := by unfold evSw; rw [if_neg dval, if_neg dval2, if_neg dok, if_neg dcode, if_pos dset, HX.out]
          have hcall := HS.out.plain _ wa x12.toNat HSA.out (HSW.out _ (by rw [hev]; simp)) (by have := HLN.out; omega) hSz
          rw [← hev] at hcall
          have hew := HS.out.ep
          have hn2 : ((x12.toNat : Nat) : Int) = x12 := Int.toNat_of_nonneg hset
          rw [hn2] at hcall
          clear hn2
          have HC := Lib.hid hcall
          rw [decide_eq_true dset] at e_set
          clear hcall hev hSz dval dval2 dok dcode dset
          go_wp2_with (first
            | ((with_reducible refine (eflag_any _ _).mono ?_); rintro e w' ⟨rfl, rfl⟩)
            | ((with_reducible refine HC.out.mono ?_); rintro e w' ⟨rfl, hs', hk', hb'⟩; (have HS' := Lib.hid hs'); (have HK' := Lib.hid hk'); (have HB' := Lib.hid hb'); clear hs' hk' hb'))
          go_meet
          exact ⟨HS'.out, HK'.out, HBA.out.trans HB'.out⟩
        rw [decide_eq_false dset] at e_set
        have hev : evSw X s = [] := by unfold evSw; rw [if_neg dval, if_neg dval2, if_neg dok, if_neg dcode, if_neg dset]
        have hS0 : S (evAll X (p.2.take k) ++ evSw X s) wa := by rw [hev, List.append_nil]; exact HSA.out
        have HS0 := Lib.hid hS0
        clear hev hS0 hSz dval dval2 dok dcode dset
        go_wp2
        go_meet
        exact ⟨HS0.out, KeepsM.refl _ _, HBA.out⟩
      case rest =>
        obtain ⟨hs, hkm, hbb⟩ := hcut
        have HS1 := Lib.hid hs
        have HK1 := Lib.hid hkm
        have HB1 := Lib.hid hbb
        clear hs hkm hbb e_val e_val2 e_ok e_code e_set c8 c9 c10 c11 c12
        go_wp2_with ((with_reducible refine (efields_any _ _).mono ?_); rintro e w' ⟨rfl, rfl⟩)
        obtain ⟨wd, hwd⟩ : ∃ wd, wd = wc.alloc (.cells #[.pointer (some ⟨w.heap.size, 0, none⟩)] 105) := ⟨_, rfl⟩
        have hP : wd.heap[wc.heap.size]? = some (.cells #[.pointer (some ⟨w.heap.size, 0, none⟩)] 105 (0, 0)) := by rw [hwd]; exact World.alloc_heap_new wc _
        have hbd : Below wc.heap.size wc wd := by rw [hwd]; exact (Below.refl _ wc).alloc (Nat.le_refl _) _
        have hsd : wd.heap.size = wc.heap.size + 1 := by rw [hwd]; simp
        rw [← hwd]
        have hSd := HS.out.keep _ _ _ HS1.out (CellsKept.of_below hbd)
        have hKad : KeepsM Mod wa wd := HK1.out.trans (KeepsM.of_below hbd)
        have hBd : Below B w wd := HB1.out.trans (hbd.mono (Nat.le_trans HB.out HB1.out.size))
        have hK2d : KeepsM Mod W2 wd := HKA.out.trans hKad
        have hEd := hK2d.2 _ _ HE.out (HF.out.ent _ _ _)
        have hGd := hK2d.2 _ _ HG.out (HF.out.fn _ _ _)
        have hDd := hKad.2 _ _ HD.out (HF.out.str _ _ _ 0 s rfl HSN11.out)
        have hDSa : DefS Ds wa := fun D hD => HRA.out.2 _ _ (HDS.out D hD) (HF.out.oth _ _ rfl)
        have hDSd : DefS Ds wd := fun D hD => hKad.2 _ _ (hDSa D hD) (HF.out.oth _ _ rfl)
        have HP := Lib.hid hP
        have HSD := Lib.hid hSd
        have HBD := Lib.hid hBd
        have HKD := Lib.hid hK2d
        have HED := Lib.hid hEd
        have HGD := Lib.hid hGd
        have HDD := Lib.hid hDd
        have HDSD := Lib.hid hDSd
        have HSZ := Lib.hid hsd
        clear hwd hP hbd hSd hKad hBd hK2d hEd hGd hDd hDSa hDSd
        refine (wpIn_wide (n := n)).1 ?_
        refine wpIn_rangeFunc_ownF rfl h1 (gf := 110) (lb := #[.pointer (some ⟨wc.heap.size, 0, none⟩)]) rfl trivial (enters_of Tryd.func110 (by kernel_rfl) rfl)
          (efields1_stopsM (n - 1) (by omega) wc.heap.size w.heap.size wd (fun W W' => ∀ q, W.cell? ⟨wc.heap.size, 0, none⟩ = some (.pointer q) → W'.cell? ⟨wc.heap.size, 0, none⟩ = some (.pointer q)) (fun _ _ q h hc => h q hc) (by omega) (Ly.cellAt HP.out 0 rfl)) (fun h1 h2 q hq => h2 q (h1 q hq)) ?kb (Below.refl _ _) (fun _ => rfl)
          (fun pre W => S ((evAll X (p.2.take k) ++ evSw X s) ++ evFd X s pre) W ∧ KeepsM Mod wd W ∧ Below B w W)
          (fun _ _ _ => False)
          (OwnFrom.and ?ownS (OwnFrom.and (KeepsM.ownFrom (Nat.le_refl _)) (ownFrom_below HB.out (Nat.le_trans HB.out HBD.out.size))))
          (fun _ _ _ _ _ hs _ _ => hs)
          ⟨by rw [show evFd X s [] = [] from rfl, List.append_nil]; exact HSD.out, KeepsM.refl _ _, HBD.out⟩
          (fun y => { tmps := #[.agg #[.int .i64 xa, .int .u8 xk, .int .i64 x2, .int .i64 x3, .int .i64 x4, .int .i64 x5, .int .i64 x6, .int .i64 x7, .int .i64 x8, .int .i64 x9, .bool x10, .int .i64 x11, .int .u64 x12], .func (.func gs) #[] vs, .func (.func gw) #[] vw, .func (.func gp) #[] vp, .pointer (some ⟨w.heap.size, 0, none⟩), .pointer (some ⟨w.heap.size + 1, 0, none⟩), undef, undef, undef, .pointer (some ⟨wr.heap.size, 0, none⟩), .string y.1.1, .pointer (some ⟨w.heap.size, y.1.2, none⟩), .map (some r), .pointer (some ⟨w.heap.size, 1, none⟩), .int .u8 xk, .agg #[.string p.1, .slice (some ⟨b, o, none⟩) p.2.length c], .slice (some ⟨b, o, none⟩) p.2.length c, .int .i64 p.2.length, .int .i64 k, .bool true, .pointer (some ⟨b, o + k, none⟩), .string s, .string s, u23, u24, u25, u26, u27, u28, u29, u30, u31, u32, u33, u34, u35, u36, u37, u38, u39, u40, u41, u42, u43, u44, u45, u46, u47, u48, u49, u50, u51, u52, u53, u54, .func (.func 110) #[] #[.pointer (some ⟨wc.heap.size, 0, none⟩)], .string y.1.1, .pointer (some ⟨w.heap.size, y.1.2, none⟩), u58, u59, u60, u61, u62, u63, u64, u65, u66, u67], defers := [] })
          ?assign ?body ?done ?stop
        case kb =>
          intro W l o o' hl ho hc _ q hq
          exact cell_kept hq (grownBy_putObj' W l o') (fun r e => by cases e; exact ⟨o, ho, hc⟩)
        case ownS =>
          intro pre W W' row hs hg hr
          exact HS.out.keep _ _ _ hs (CellsKept.of_grown hg (fun r e => (hr r e).2))
        case assign =>
          intro l y W K hK
          gi_wp2
          exact hK
        case body =>
          rintro l pre y W ⟨hs, hkm, hbb⟩ hpl
          have hln6 : ((evAll X (p.2.take k) ++ evSw X s) ++ evFd X s pre).length ≤ 1000 := by
            have h1 := HLN.out
            have h2 := evSw_len X s
            have h3 := evFd_len X s pre
            rw [List.length_append, List.length_append]
            omega
          clear hpl
          have hE' := hkm.2 _ _ HED.out (HF.out.ent _ _ _)
          have hG' := hkm.2 _ _ HGD.out (HF.out.fn _ _ _)
          have hD' := hkm.2 _ _ HDD.out (HF.out.str _ _ _ 0 s rfl HSN11.out)
          have hP' := hkm.2 _ _ HP.out (HF.out.ptr _ _ _)
          have hsn := evFd_snoc X s pre y
          have hoy : y.1.1 = s → ok (.small y.1.1 (X.fld y.1.2)) := fun he => HOS.out _ (List.mem_append.2 (.inr (by
            unfold evFd
            exact List.mem_map.2 ⟨y, List.mem_filter.2 ⟨mem_eFields y, by simpa using he⟩, rfl⟩)))
          have gv : W.cell? ⟨w.heap.size, y.1.2, none⟩ = some (.int .i64 (X.fld y.1.2)) := by
            have hy := y.2
            rw [HX.out]
            simp only [eFields0, List.mem_cons, List.mem_nil_iff, or_false] at hy
            rcases hy with h | h | h | h | h | h <;> rw [h]
            · exact Ly.cellAt hE' 2 rfl
            · exact Ly.cellAt hE' 3 rfl
            · exact Ly.cellAt hE' 4 rfl
            · exact Ly.cellAt hE' 5 rfl
            · exact Ly.cellAt hE' 6 rfl
            · exact Ly.cellAt hE' 7 rfl
          have gn : W.cell? ⟨wr.heap.size, 0, none⟩ = some (.string s) := Ly.cellAt hD' 0 rfl
          have gg : W.cell? ⟨w.heap.size + 1, 0, none⟩ = some (.func (.func gs) #[] vs) := Ly.cellAt hG' 0 rfl
          have gz : w.heap.size < W.heap.size := (Array.getElem?_eq_some_iff.1 hE').1
          have gx : w.heap.size + 1 < W.heap.size := (Array.getElem?_eq_some_iff.1 hG').1
          have gd : wr.heap.size < W.heap.size := (Array.getElem?_eq_some_iff.1 hD').1
          obtain ⟨nm, hnm⟩ : ∃ nm, nm = y.1.1 := ⟨_, rfl⟩
          obtain ⟨j, hj⟩ : ∃ j, j = y.1.2 := ⟨_, rfl⟩
          rw [← hnm, ← hj] at hsn hoy
          rw [← hj] at gv
          rw [← hnm, ← hj]
          obtain ⟨v, hv⟩ : ∃ v, v = X.fld j := ⟨_, rfl⟩
          rw [← hv] at hsn hoy gv
          have HS2 := Lib.hid hs
          have HK2 := Lib.hid hkm
          have HB2 := Lib.hid hbb
          have HP2 := Lib.hid hP'
          have HSN := Lib.hid hsn
          clear hs hkm hbb hE' hG' hD' hP' hsn hnm hj hv
          by_cases hy : nm = s
          · have e1 : (nm.toList == s.toList) = true := by rw [hy]; simp
            have hcall := HS.out.small _ W.drew nm v (HS.out.keep _ _ _ HS2.out ⟨Nat.le_refl _, fun _ _ _ _ h => h⟩) (hoy hy) hln6 (Nat.le_trans HB.out HB2.out.size)
            rw [List.append_assoc, show evFd X s pre ++ [Ev.small nm v] = evFd X s (pre ++ [y]) by rw [HSN.out, if_pos hy]] at hcall
            have HC := Lib.hid hcall
            have hes := HS.out.es
            clear hcall hoy hy hln6
            gi_wp2
            refine region_round l (by kernel_rfl) (by kernel_rfl) (by rintro ⟨_, _, h⟩; exact h) ?_
            (try (change wpAny _ _ _ _ _ _ _ (World.drew _)))
            refine wpAny_take (i := 1) (v := ?_) rfl (by kernel_rfl) (by kernel_rfl) (by kernel_rfl) (fun _ _ _ h => h) (Or.inl ⟨by rfl, ?_⟩) ?_; rotate_left; (next => ((intro w_; go_simp) <;> (with_reducible rfl)))
            refine wpAny_take (i := 2) (v := ?_) rfl (by kernel_rfl) (by kernel_rfl) (by kernel_rfl) (fun _ _ _ h => h) (Or.inl ⟨by rfl, ?_⟩) ?_; rotate_left; (next => ((intro w_; go_simp) <;> (with_reducible rfl)))
            refine wpAny_take (i := 3) (v := ?_) rfl (by kernel_rfl) (by kernel_rfl) (by kernel_rfl) (fun _ _ _ h => h) (Or.inl ⟨by rfl, ?_⟩) ?_; rotate_left; (next => ((intro w_; go_simp) <;> (with_reducible rfl)))
            refine wpAny_ready (rs := [0, 4]) (by kernel_rfl) (by simp) ?_
            refine AllReady.cons rfl (fun K hK => ?_) (AllReady.cons rfl (fun K hK => ?_) AllReady.nil)
            · go_simp; (refine hK _ _ ?_; clear hK K)
              refine wpAny_ready (rs := [4]) (by kernel_rfl) (by simp) ?_
              refine AllReady.cons rfl (fun K hK => ?_) AllReady.nil
              go_simp; (refine hK _ _ ?_; clear hK K)
              refine wpAny_ready (rs := [5]) (by kernel_rfl) (by simp) ?_
              refine AllReady.cons rfl (fun K hK => ?_) AllReady.nil
              go_simp; (with_reducible refine HC.out.mono ?_); rintro e w' ⟨rfl, hs', hk', hb'⟩; (have HS' := Lib.hid hs'); (have HK' := Lib.hid hk'); (have HB' := Lib.hid hb'); clear hs' hk' hb'; (refine hK _ _ ?_; clear hK K)
              refine wpAny_done (by kernel_rfl) ?_ _
              gi_wp2
              exact ⟨⟨HK'.out.1, fun k o hk hc => HK'.out.2 k o hk (HF.out.oth _ _ hc)⟩, fun q hq => (by have h2_ : w'.heap[wc.heap.size]? = _ := HK'.out.2 _ _ HP2.out (HF.out.ptr _ _ _); have h3_ := Ly.cellAt HP2.out 0 rfl; rw [hq] at h3_; rw [h3_]; exact Ly.cellAt h2_ 0 rfl), HS'.out, HK2.out.trans HK'.out, HB2.out.drew.trans HB'.out⟩
            · go_simp; (refine hK _ _ ?_; clear hK K)
              refine wpAny_ready (rs := [0]) (by kernel_rfl) (by simp) ?_
              refine AllReady.cons rfl (fun K hK => ?_) AllReady.nil
              go_simp; (refine hK _ _ ?_; clear hK K)
              refine wpAny_ready (rs := [5]) (by kernel_rfl) (by simp) ?_
              refine AllReady.cons rfl (fun K hK => ?_) AllReady.nil
              go_simp; (with_reducible refine HC.out.mono ?_); rintro e w' ⟨rfl, hs', hk', hb'⟩; (have HS' := Lib.hid hs'); (have HK' := Lib.hid hk'); (have HB' := Lib.hid hb'); clear hs' hk' hb'; (refine hK _ _ ?_; clear hK K)
              refine wpAny_done (by kernel_rfl) ?_ _
              gi_wp2
              exact ⟨⟨HK'.out.1, fun k o hk hc => HK'.out.2 k o hk (HF.out.oth _ _ hc)⟩, fun q hq => (by have h2_ : w'.heap[wc.heap.size]? = _ := HK'.out.2 _ _ HP2.out (HF.out.ptr _ _ _); have h3_ := Ly.cellAt HP2.out 0 rfl; rw [hq] at h3_; rw [h3_]; exact Ly.cellAt h2_ 0 rfl), HS'.out, HK2.out.trans HK'.out, HB2.out.drew.trans HB'.out⟩
          · have e1 : (nm.toList == s.toList) = false := by rw [eqS]; simpa using hy
            have hfd : evFd X s (pre ++ [y]) = evFd X s pre := by rw [HSN.out, if_neg hy, List.append_nil]
            have HFD := Lib.hid hfd
            clear hfd hoy hy hln6
            gi_wp2
            exact ⟨KeepsOthers.refl _, fun _ h => h, by rw [HFD.out]; exact HS2.out, HK2.out, HB2.out⟩
        case done =>
          rintro D ys W hD rfl ⟨hs, hkm, hbb⟩ hK
          have hEf : evAll X (p.2.take k) ++ evSw X s ++ evFd X s eFields = evAll X (p.2.take (k + 1)) := by rw [HT.out, List.append_assoc]; rfl
          rw [hEf] at hs
          have HS2 := Lib.hid hs
          have HK2 := Lib.hid (HKD.out.trans hkm)
          have HKW := Lib.hid hkm
          have HB2 := Lib.hid hbb
          have HDW := Lib.hid hK
          clear hs hkm hbb hK hEf
          have hkd : (Deferred.mk (.collected D) #[]) :: marksOf Ds = marksOf (D :: Ds) := rfl
          rw [hkd]
          clear hkd
          gi_wp2
          go_wp2
          refine HK0.out _ _ ?_ ?_
          · refine ⟨k + 1, D :: Ds, ?_⟩
            rw [show ((k + 1 : Nat) : Int) = (k : Int) + 1 from rfl]
            (repeat apply Exists.intro)
            refine ⟨rfl, hlt, HS2.out, HK2.out, HB2.out, ?_, List.nodup_cons.2 ⟨fun hm => ?_, HND.out⟩, ?_⟩
            · intro E hE
              rcases List.mem_cons.1 hE with rfl | hE
              · exact HDW.out
              · exact HKW.out.2 _ _ (HDSD.out E hE) (HF.out.oth _ _ rfl)
            · have := (Array.getElem?_eq_some_iff.1 (HDSD.out D hm)).1
              omega
            · intro E hE
              rcases List.mem_cons.1 hE with rfl | hE
              · exact Nat.le_trans HBD.out.size hD
              · exact HGE.out E hE
          · show p.2.length - (intOf (.int .i64 ((k : Int) + 1))).toNat < p.2.length - (intOf (.int .i64 (k : Int))).toNat
            simp only [intOf]
            omega
        case stop =>
          intro D c pre W hD hsp hf
          exact hf.elim
    · obtain rfl : k = p.2.length := by omega
      have hx : ¬ ((p.2.length : Int) < (p.2.length : Int)) := by omega
      rw [List.take_length] at hs
      have HS2 := Lib.hid hs
      clear hs hkm hbb hlt hk2
      go_wp2
      refine leaves_all (B := w.heap.size) (fun W => S (evAll X p.2) W ∧ KeepsM Mod w W ∧ Below B w W) ?_ ?_ Ds wr HDS.out HND.out HGE.out ⟨HS2.out, hK0.trans HKM.out, HBB.out⟩
      · rintro W D hD hW ⟨q1, q2, q3⟩
        exact ⟨HS.out.keep _ _ _ q1 (CellsKept.of_grown (grownBy_putObj' W D _) (fun r e => by cases e; exact ⟨_, hW, rfl⟩)), ⟨by simp [World.putObj]; exact q2.1, fun k o hk hm => (World.putObj_heap_other (by have := (Array.getElem?_eq_some_iff.1 hk).1; omega)).trans (q2.2 k o hk hm)⟩, q3.trans ((belowK_b (w := w) (Nat.le_refl _) W D _ _ hD hW rfl rfl).mono HB.out)⟩
      · rintro W ⟨q1, q2, q3⟩
        exact ⟨.tuple #[], by simp [results, Tryd.f41, go_sem], rfl, q1, q2, q3⟩
end Go.Proofs.YtljfloopjgpaeabDoor
