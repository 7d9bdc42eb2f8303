/- frame.Step. -/
import Derived.Test.YtljfloopjgpaeaaK
import Derived.Deep.DeepCutAuto
namespace Go.Proofs.Ytljfloopjgpaeaa
set_option linter.unusedVariables false
set_option linter.unusedSimpArgs false
open Go.RowKit
set_option maxRecDepth 100000

def FrameV.zero : FrameV := ⟨0, 0, [0, 0, 0, 0, 0, 0, 0, 0]⟩
def regsB (x : InsV) : Bool := regB x.a && regB x.b
/-- frame.Step. -/
def stepF (P : ProgV) (f : FrameV) : FrameV × Int :=
  if atB P f.code f.pc && regsB (atX P f.code f.pc) then
    if localB (atX P f.code f.pc).op then (actF (atX P f.code f.pc) { f with pc := f.pc + 1 }, 0) else (FrameV.zero, 8)
  else (FrameV.zero, 2)
theorem atV_some {P : ProgV} {i j : Int} (h : atB P i j = true) : 0 ≤ i ∧ 0 ≤ j ∧ ∃ (hi : i.toNat < P.codes.length) (hj : j.toNat < P.codes[i.toNat].length), atX P i j = P.codes[i.toNat][j.toNat] := by
  unfold atB atV at h
  split at h
  · rename_i h0
    refine ⟨h0.1, h0.2, ?_⟩
    cases hl : P.codes[i.toNat]? with
    | none => rw [hl] at h; cases h
    | some l =>
      obtain ⟨hi, rfl⟩ := List.getElem?_eq_some_iff.1 hl
      cases hx : P.codes[i.toNat][j.toNat]? with
      | none => rw [hl] at h; simp [hx] at h
      | some x =>
        obtain ⟨hj, rfl⟩ := List.getElem?_eq_some_iff.1 hx
        exact ⟨hi, hj, by simp [atX, atV, h0, hi, hj]⟩
  · cases h

/-- The three blocks of frame.Step: the program, the frame, the result; and the instruction's. -/
structure StepW (w : World) (m g : Nat) (f : FrameV) (x : InsV) : Prop where
  fr : FrB w (m + 1) f
  out : FrB w (m + 2) FrameV.zero
  ins : InsBox w g x.op x.a x.b x.ch x.k
  far : m + 2 < g

theorem InsBox.only {W W' : World} {B n : Nat} {op a b ch k : Int} (h : InsBox W B op a b ch k) (hb : Only n W W') (hB : B ≠ n) : InsBox W' B op a b ch k := by
  have hc : ∀ o, W'.cell? ⟨B, o, none⟩ = W.cell? ⟨B, o, none⟩ := fun o => World.cell?_of_block (w := W) (a := ⟨B, o, none⟩) (hb.block B h.1 hB)
  obtain ⟨h0, h1, h2, h3, h4, h5⟩ := h
  exact ⟨Nat.lt_of_lt_of_le h0 hb.size, (hc _).trans h1, (hc _).trans h2, (hc _).trans h3, (hc _).trans h4, (hc _).trans h5⟩
def regI (k : Int) : Prop := 0 ≤ k ∧ k < 8
theorem regI_of {k : Int} (h : regB k = true) : regI k := by simpa [regB, regI] using h
theorem act1' {B : Nat} {op a b ch k : Int} {f : FrameV} (hf : f.wf) {w : World} (h : FrB w B f) (ha : regI a) (ho : op = 1) :
    Calls Try.prog 110 #[.pointer (some ⟨B, 0, none⟩), .agg #[.int .u8 op, .int .i64 a, .int .i64 b, .int .i64 ch, .int .i64 k]] w fun e w' => e = .returned (.tuple #[]) ∧ FrB w' B (actF ⟨op, a, b, ch, k⟩ f) ∧ Only B w w' := by
  obtain ⟨n, rfl⟩ := Int.eq_ofNat_of_zero_le ha.1
  have := act1_any B n op b ch k f hf w h (by have := ha.2; omega)
  simpa [actF, ho] using this
theorem act2' {B : Nat} {op a b ch k : Int} {f : FrameV} (hf : f.wf) {w : World} (h : FrB w B f) (ha : regI a) (hb : regI b) (ho : op = 2) :
    Calls Try.prog 111 #[.pointer (some ⟨B, 0, none⟩), .agg #[.int .u8 op, .int .i64 a, .int .i64 b, .int .i64 ch, .int .i64 k]] w fun e w' => e = .returned (.tuple #[]) ∧ FrB w' B (actF ⟨op, a, b, ch, k⟩ f) ∧ Only B w w' := by
  obtain ⟨n, rfl⟩ := Int.eq_ofNat_of_zero_le ha.1
  obtain ⟨m, rfl⟩ := Int.eq_ofNat_of_zero_le hb.1
  have := act2_any B n m op ch k f hf w h (by have := ha.2; omega) (by have := hb.2; omega)
  simpa [actF, ho] using this
theorem act3' {B : Nat} {op a b ch k : Int} {f : FrameV} {w : World} (h : FrB w B f) (ho : op = 3) :
    Calls Try.prog 112 #[.pointer (some ⟨B, 0, none⟩), .agg #[.int .u8 op, .int .i64 a, .int .i64 b, .int .i64 ch, .int .i64 k]] w fun e w' => e = .returned (.tuple #[]) ∧ FrB w' B (actF ⟨op, a, b, ch, k⟩ f) ∧ Only B w w' := by
  have := act3_any B op a b ch k f w h
  simpa [actF, ho] using this
theorem act4' {B : Nat} {op a b ch k : Int} {f : FrameV} {w : World} (h : FrB w B f) (ha : regI a) (ho : op = 4) :
    Calls Try.prog 113 #[.pointer (some ⟨B, 0, none⟩), .agg #[.int .u8 op, .int .i64 a, .int .i64 b, .int .i64 ch, .int .i64 k]] w fun e w' => e = .returned (.tuple #[]) ∧ FrB w' B (actF ⟨op, a, b, ch, k⟩ f) ∧ Only B w w' := by
  obtain ⟨n, rfl⟩ := Int.eq_ofNat_of_zero_le ha.1
  have := act4_any B n op b ch k f w h (by have := ha.2; omega)
  simpa [actF, ho] using this
theorem acts_ask {W : World} {r : Nat} (h : W.heap[r]? = some (.map (entsI .u8 actL) 4)) (op : Int) :
    (Instr.lookup 137 (.map (some r)) (.int .u8 op) false).run Try.prog W = .ok (((findI .u8 op actL 0).map (·.2)).getD (.agg #[.nilFunc])) W :=
  run_mapAsk1 Try.underlying137 Try.underlying5 Try.zeroValue136 h op

set_option maxHeartbeats 2000000 in
theorem step_any {c1 c2 c3 : Value} {P : ProgV} {w : World} (h : RProg w c1 c2 c3 P) (f : FrameV) (hf : f.wf) :
    Calls Try.prog 34 #[.agg #[c1, c2, c3], f.agg] w fun e w' => e = .returned (.tuple #[(stepF P f).1.agg, .int .i64 (stepF P f).2]) ∧ Below w.heap.size w w' := by
  obtain ⟨A1, n1, rfl, _, _, hl1⟩ := h.caps.val
  obtain ⟨A2, n2, rfl, _, _, hl2⟩ := h.codes.val
  obtain ⟨A3, n3, rfl, _, _, hl3⟩ := h.sites.val
  have HP := Lib.hid h
  have HF := Lib.hid hf
  clear h hf
  simp only [FrameV.agg, FrameV.cells]
  go_enter Try.func34, Try.ntmps34
  go_upto_region 1 with fail
  go_cut [6, 7] (fun t6 t7 wx => ∃ g, t6 = .pointer (some ⟨g, 0, none⟩) ∧ t7 = .bool (atB P f.code f.pc) ∧ StepW wx w.heap.size g f (atX P f.code f.pc) ∧ Below w.heap.size w wx)
  case first =>
    go_wp2_with ((with_reducible refine (fAt_any (HP.out.keep (by (repeat (first | with_reducible exact Below.refl _ _ | (with_reducible refine Below.setCell ?_ (by first | (simp; done) | (simp; omega) | omega) _) | (with_reducible refine Below.alloc ?_ (by first | (simp; done) | (simp; omega) | omega) _) | (with_reducible refine Below.drew ?_))))) _ _ _ _ _ _ _ _ _ _).mono ?_); rintro e w' ⟨rfl, hb'⟩; obtain ⟨hbc, hbf⟩ := bcell hb')
    go_meet
    have hsz := hb'.size
    simp only [World.size_alloc] at hsz
    refine ⟨_, rfl, rfl, ⟨?_, ?_, ?_, by omega⟩, ?_⟩
    · exact (FrB.keep (by unfold FrB; simp only [alloc_heap?, World.size_alloc]; simp [FrameV.cells]) hb' (by simp)).alloc _
    · exact (FrB.keep (by unfold FrB; simp only [alloc_heap?, World.size_alloc]; simp [FrameV.cells, FrameV.zero, rg]) hb' (by simp)).alloc _
    · simp [InsBox]
    · (have hszq := hb'.size; (try simp only [World.size_alloc] at hszq); (repeat (first | (with_reducible refine Below.setCell ?_ (by first | (simp; done) | (simp; omega) | omega) _) | (with_reducible refine Below.alloc ?_ (by first | (simp; done) | (simp; omega) | omega) _) | (with_reducible refine Below.drew ?_))); refine Below.trans ?_ (hb'.mono (by first | (simp; done) | (simp; omega) | omega)); (repeat (first | with_reducible exact Below.refl _ _ | (with_reducible refine Below.setCell ?_ (by first | (simp; done) | (simp; omega) | omega) _) | (with_reducible refine Below.alloc ?_ (by first | (simp; done) | (simp; omega) | omega) _) | (with_reducible refine Below.drew ?_))))
  case rest =>
    obtain ⟨g, rfl, rfl, hS, hB⟩ := hcut
    have HS := Lib.hid hS
    have HB := Lib.hid hB
    have hsz0 := hB.size
    have oc := hS.out.cell
    have of := hS.out.free
    have fc := hS.fr.cell
    have ff := hS.fr.free
    have hm2 := hS.out.lt
    have hm1 := hS.fr.lt
    obtain ⟨hz, b0, b1, b2, b3, b4⟩ := hS.ins
    simp only [FrameV.cells] at oc fc
    clear hS hB
    by_cases hat : atB P f.code f.pc = true
    · by_cases hra : regB (atX P f.code f.pc).a = true
      · by_cases hrb : regB (atX P f.code f.pc).b = true
        · by_cases hlo : localB (atX P f.code f.pc).op = true
          · have hlo0 := Lib.hid hlo
            have HRA0 := Lib.hid hra
            have HRB0 := Lib.hid hrb
            go_upto_region 6 with (first | ((with_reducible refine (reg_any (atX P f.code f.pc).a _).mono ?_); rw [hra]; rintro e w' ⟨rfl, rfl⟩) | ((with_reducible refine (reg_any (atX P f.code f.pc).b _).mono ?_); rw [hrb]; rintro e w' ⟨rfl, rfl⟩) | ((with_reducible refine (local_any _ _).mono ?_); rw [hlo]; rintro e w' ⟨rfl, rfl⟩))
            clear oc of b1 b2 b3 b4 hra hrb fc
            have HRA := Lib.hid hat
            have hpc : 0 ≤ f.pc ∧ f.pc < 140737488351232 := by
              obtain ⟨q1, q2, q3, q4, _⟩ := atV_some hat
              obtain ⟨_, _, _, _, _, _, _, _, _, _, hl⟩ := kInss_at HP.out.codes q3
              exact ⟨q2, by omega⟩
            obtain ⟨hp0, hp1⟩ := hpc
            have k1 : wc.cell? ⟨w.heap.size + 1, 1, none⟩ = some (.int .i64 f.pc) := HS.out.fr.cell 1
            go_cut [6] (fun t6 wx => t6 = .pointer (some ⟨g, 0, none⟩) ∧ FrB wx (w.heap.size + 1) { f with pc := f.pc + 1 } ∧ FrB wx (w.heap.size + 2) FrameV.zero ∧ InsBox wx g (atX P f.code f.pc).op (atX P f.code f.pc).a (atX P f.code f.pc).b (atX P f.code f.pc).ch (atX P f.code f.pc).k ∧ Below w.heap.size w wx)
            case first =>
              go_wp2
              go_meet
              have ho : Only (w.heap.size + 1) wc (wc.setCell ⟨w.heap.size + 1, 1, none⟩ (.int .i64 (f.pc + 1))) := (Only.refl _ _).set 1 _
              exact ⟨rfl, HS.out.fr.setPc _, HS.out.out.only ho (by omega), HS.out.ins.only ho (by have := HS.out.far; omega), HB.out.trans (ho.below (by omega) hsz0)⟩
            case rest =>
              obtain ⟨rfl, hfr, hout, hins, hB⟩ := hcut
              obtain ⟨x, hx⟩ : ∃ x, x = atX P f.code f.pc := ⟨_, rfl⟩
              rw [← hx] at hins hlo hlo0 HRA0 HRB0 HS
              have HX := Lib.hid hx
              clear hx
              obtain ⟨op, xa, xb, xc, xk⟩ := x
              try dsimp only at hins
              have HRa := Lib.hid (regI_of HRA0.out)
              have HRb := Lib.hid (regI_of HRB0.out)
              have hst : stepF P f = (actF ⟨op, xa, xb, xc, xk⟩ { f with pc := f.pc + 1 }, 0) := by
                have h1 := HRA.out; have h2 := HRA0.out; have h3 := HRB0.out; have h4 := hlo0.out
                simp only [stepF, ← HX.out, h1, regsB, h2, h3, h4, Bool.and_self, if_true]
              have HST := Lib.hid hst
              have HFR := Lib.hid hfr
              have HOUT := Lib.hid hout
              have HINS := Lib.hid hins
              have HB' := Lib.hid hB
              have hszc := hB.size
              have hms := hfr.lt
              have hgne : g ≠ w.heap.size + 1 := by have := HS.out.far; omega
              clear hst hfr hout hB HS HB hat hp0 hp1 hsz0 hm1 hm2 hz
              obtain ⟨hz, b0, b1, b2, b3, b4⟩ := hins
              try dsimp only at hz b0 b1 b2 b3 b4
              have hask : ∀ v, ((findI .u8 op actL 0).map (·.2)).getD (.agg #[.nilFunc]) = v → (Instr.lookup 137 (.map (some wc.heap.size)) (.int .u8 op) false).run Try.prog (wc.alloc (.map (entsI .u8 actL) 4)).drew = .ok v (wc.alloc (.map (entsI .u8 actL) 4)).drew :=
                fun v hv => by rw [acts_ask (W := (wc.alloc (.map (entsI .u8 actL) 4)).drew) (World.alloc_heap_new wc _), hv]
              have hcase : op = 1 ∨ op = 2 ∨ op = 3 ∨ op = 4 := by have := hlo; simp [localB] at this; omega
              have hf1 : ({ f with pc := f.pc + 1 } : FrameV).wf := HF.out
              have HF1 := Lib.hid hf1
              clear hlo hf1
              go_upto_region 7 with fail
              go_cut [6] (fun _ wx => FrB wx (w.heap.size + 1) (actF ⟨op, xa, xb, xc, xk⟩ { f with pc := f.pc + 1 }) ∧ Only (w.heap.size + 1) wc wx)
              case first =>
                rcases hcase with rfl | rfl | rfl | rfl
                · have hl := hask (.agg #[.func (.func 110) #[] #[]]) rfl
                  have hfd : ∀ (w : World), (Instr.field 136 (.agg #[.func (.func 110) #[] #[]]) 0).run Try.prog w = .ok (.func (.func 110) #[] #[]) w := fun _ => by rfl
                  clear hask
                  go_region_held3 (fun w' => w'.cell? ⟨g, 0, none⟩ = some (.int .u8 1) ∧ w'.cell? ⟨g, 1, none⟩ = some (.int .i64 xa) ∧ w'.cell? ⟨g, 2, none⟩ = some (.int .i64 xb) ∧ w'.cell? ⟨g, 3, none⟩ = some (.int .i64 xc) ∧ w'.cell? ⟨g, 4, none⟩ = some (.int .i64 xk)) (go_keep) (first | (go_at_call 79; (with_reducible refine (acts_any _).mono ?_); rintro e w' ⟨rfl, rfl⟩) | (go_at_call 110; (with_reducible refine (act1' HF1.out (B := w.heap.size + 1) ?_ HRa.out rfl).mono ?_); exact (HFR.out.alloc _).drew; rintro e w' ⟨rfl, hfr', hon'⟩; obtain ⟨_, s0, s1, s2, s3, s4⟩ := InsBox.only (InsBox.keep HINS.out (show Below wc.heap.size wc (wc.alloc (.map (entsI .u8 actL) 4)).drew from ((Below.refl _ _).alloc (Nat.le_refl _) _).drew)) hon' hgne))
                  all_goals
                    go_wp2
                    go_meet
                    exact ⟨hfr', (((Only.refl _ wc).alloc _).drew).trans hon'⟩
                · have hl := hask (.agg #[.func (.func 111) #[] #[]]) rfl
                  have hfd : ∀ (w : World), (Instr.field 136 (.agg #[.func (.func 111) #[] #[]]) 0).run Try.prog w = .ok (.func (.func 111) #[] #[]) w := fun _ => by rfl
                  clear hask
                  go_region_held3 (fun w' => w'.cell? ⟨g, 0, none⟩ = some (.int .u8 2) ∧ w'.cell? ⟨g, 1, none⟩ = some (.int .i64 xa) ∧ w'.cell? ⟨g, 2, none⟩ = some (.int .i64 xb) ∧ w'.cell? ⟨g, 3, none⟩ = some (.int .i64 xc) ∧ w'.cell? ⟨g, 4, none⟩ = some (.int .i64 xk)) (go_keep) (first | (go_at_call 79; (with_reducible refine (acts_any _).mono ?_); rintro e w' ⟨rfl, rfl⟩) | (go_at_call 111; (with_reducible refine (act2' HF1.out (B := w.heap.size + 1) ?_ HRa.out HRb.out rfl).mono ?_); exact (HFR.out.alloc _).drew; rintro e w' ⟨rfl, hfr', hon'⟩; obtain ⟨_, s0, s1, s2, s3, s4⟩ := InsBox.only (InsBox.keep HINS.out (show Below wc.heap.size wc (wc.alloc (.map (entsI .u8 actL) 4)).drew from ((Below.refl _ _).alloc (Nat.le_refl _) _).drew)) hon' hgne))
                  all_goals
                    go_wp2
                    go_meet
                    exact ⟨hfr', (((Only.refl _ wc).alloc _).drew).trans hon'⟩
                · have hl := hask (.agg #[.func (.func 112) #[] #[]]) rfl
                  have hfd : ∀ (w : World), (Instr.field 136 (.agg #[.func (.func 112) #[] #[]]) 0).run Try.prog w = .ok (.func (.func 112) #[] #[]) w := fun _ => by rfl
                  clear hask
                  go_region_held3 (fun w' => w'.cell? ⟨g, 0, none⟩ = some (.int .u8 3) ∧ w'.cell? ⟨g, 1, none⟩ = some (.int .i64 xa) ∧ w'.cell? ⟨g, 2, none⟩ = some (.int .i64 xb) ∧ w'.cell? ⟨g, 3, none⟩ = some (.int .i64 xc) ∧ w'.cell? ⟨g, 4, none⟩ = some (.int .i64 xk)) (go_keep) (first | (go_at_call 79; (with_reducible refine (acts_any _).mono ?_); rintro e w' ⟨rfl, rfl⟩) | (go_at_call 112; (with_reducible refine (act3' (B := w.heap.size + 1) (f := { f with pc := f.pc + 1 }) ?_ rfl).mono ?_); exact (HFR.out.alloc _).drew; rintro e w' ⟨rfl, hfr', hon'⟩; obtain ⟨_, s0, s1, s2, s3, s4⟩ := InsBox.only (InsBox.keep HINS.out (show Below wc.heap.size wc (wc.alloc (.map (entsI .u8 actL) 4)).drew from ((Below.refl _ _).alloc (Nat.le_refl _) _).drew)) hon' hgne))
                  all_goals
                    go_wp2
                    go_meet
                    exact ⟨hfr', (((Only.refl _ wc).alloc _).drew).trans hon'⟩
                · have hl := hask (.agg #[.func (.func 113) #[] #[]]) rfl
                  have hfd : ∀ (w : World), (Instr.field 136 (.agg #[.func (.func 113) #[] #[]]) 0).run Try.prog w = .ok (.func (.func 113) #[] #[]) w := fun _ => by rfl
                  clear hask
                  go_region_held3 (fun w' => w'.cell? ⟨g, 0, none⟩ = some (.int .u8 4) ∧ w'.cell? ⟨g, 1, none⟩ = some (.int .i64 xa) ∧ w'.cell? ⟨g, 2, none⟩ = some (.int .i64 xb) ∧ w'.cell? ⟨g, 3, none⟩ = some (.int .i64 xc) ∧ w'.cell? ⟨g, 4, none⟩ = some (.int .i64 xk)) (go_keep) (first | (go_at_call 79; (with_reducible refine (acts_any _).mono ?_); rintro e w' ⟨rfl, rfl⟩) | (go_at_call 113; (with_reducible refine (act4' (B := w.heap.size + 1) (f := { f with pc := f.pc + 1 }) ?_ HRa.out rfl).mono ?_); exact (HFR.out.alloc _).drew; rintro e w' ⟨rfl, hfr', hon'⟩; obtain ⟨_, s0, s1, s2, s3, s4⟩ := InsBox.only (InsBox.keep HINS.out (show Below wc.heap.size wc (wc.alloc (.map (entsI .u8 actL) 4)).drew from ((Below.refl _ _).alloc (Nat.le_refl _) _).drew)) hon' hgne))
                  all_goals
                    go_wp2
                    go_meet
                    exact ⟨hfr', (((Only.refl _ wc).alloc _).drew).trans hon'⟩
              case rest =>
                obtain ⟨hfr, hon⟩ := hcut
                have hout := HOUT.out.only hon (by omega)
                have oc := hout.cell
                have of := hout.free
                have fc := hfr.cell
                have ff := hfr.free
                have hm2 := hout.lt
                have hm1 := hfr.lt
                simp only [FrameV.cells] at oc fc
                have HON := Lib.hid hon
                have hszw := hon.size
                clear hon hfr hout hask hcase
                generalize actF ⟨op, xa, xb, xc, xk⟩ { f with pc := f.pc + 1 } = F at *
                go_wp2
                refine bodyPost_ret (v := .tuple #[F.agg, .int .i64 0]) (by simp [results, Try.results34, go_sem, oc, of, FrameV.agg, FrameV.cells]) rfl ⟨by rw [HST.out]; rfl, ?_⟩
                have HB2 := HB'.out.trans (HON.out.below (n := w.heap.size) (by omega) hszc)
                (have hszq := HB2.size; (try simp only [World.size_alloc] at hszq); (repeat (first | (with_reducible refine Below.setCell ?_ (by first | (simp; done) | (simp; omega) | omega) _) | (with_reducible refine Below.alloc ?_ (by first | (simp; done) | (simp; omega) | omega) _) | (with_reducible refine Below.drew ?_))); refine Below.trans ?_ (HB2.mono (by first | (simp; done) | (simp; omega) | omega)); (repeat (first | with_reducible exact Below.refl _ _ | (with_reducible refine Below.setCell ?_ (by first | (simp; done) | (simp; omega) | omega) _) | (with_reducible refine Below.alloc ?_ (by first | (simp; done) | (simp; omega) | omega) _) | (with_reducible refine Below.drew ?_))))
          · have hlo' := Bool.eq_false_iff.2 hlo
            clear hlo
            go_wp2_with (first | ((with_reducible refine (reg_any (atX P f.code f.pc).a _).mono ?_); rw [hra]; rintro e w' ⟨rfl, rfl⟩) | ((with_reducible refine (reg_any (atX P f.code f.pc).b _).mono ?_); rw [hrb]; rintro e w' ⟨rfl, rfl⟩) | ((with_reducible refine (local_any _ _).mono ?_); rw [hlo']; rintro e w' ⟨rfl, rfl⟩))
            have hst : stepF P f = (FrameV.zero, 8) := by simp [stepF, hat, regsB, hra, hrb, hlo']
            refine bodyPost_ret (v := .tuple #[FrameV.zero.agg, .int .i64 8]) (by simp [results, Try.results34, go_sem, oc, of, FrameV.agg, FrameV.cells, FrameV.zero, rg]) rfl ⟨by rw [hst]; rfl, ?_⟩
            (have hszq := HB.out.size; (try simp only [World.size_alloc] at hszq); (repeat (first | (with_reducible refine Below.setCell ?_ (by first | (simp; done) | (simp; omega) | omega) _) | (with_reducible refine Below.alloc ?_ (by first | (simp; done) | (simp; omega) | omega) _) | (with_reducible refine Below.drew ?_))); refine Below.trans ?_ (HB.out.mono (by first | (simp; done) | (simp; omega) | omega)); (repeat (first | with_reducible exact Below.refl _ _ | (with_reducible refine Below.setCell ?_ (by first | (simp; done) | (simp; omega) | omega) _) | (with_reducible refine Below.alloc ?_ (by first | (simp; done) | (simp; omega) | omega) _) | (with_reducible refine Below.drew ?_))))
        · have hrb' := Bool.eq_false_iff.2 hrb
          clear hrb
          go_wp2_with (first | ((with_reducible refine (reg_any (atX P f.code f.pc).a _).mono ?_); rw [hra]; rintro e w' ⟨rfl, rfl⟩) | ((with_reducible refine (reg_any (atX P f.code f.pc).b _).mono ?_); rw [hrb']; rintro e w' ⟨rfl, rfl⟩))
          have hst : stepF P f = (FrameV.zero, 2) := by simp [stepF, hat, regsB, hrb']
          refine bodyPost_ret (v := .tuple #[FrameV.zero.agg, .int .i64 2]) (by simp [results, Try.results34, go_sem, oc, of, FrameV.agg, FrameV.cells, FrameV.zero, rg]) rfl ⟨by rw [hst]; rfl, ?_⟩
          (have hszq := HB.out.size; (try simp only [World.size_alloc] at hszq); (repeat (first | (with_reducible refine Below.setCell ?_ (by first | (simp; done) | (simp; omega) | omega) _) | (with_reducible refine Below.alloc ?_ (by first | (simp; done) | (simp; omega) | omega) _) | (with_reducible refine Below.drew ?_))); refine Below.trans ?_ (HB.out.mono (by first | (simp; done) | (simp; omega) | omega)); (repeat (first | with_reducible exact Below.refl _ _ | (with_reducible refine Below.setCell ?_ (by first | (simp; done) | (simp; omega) | omega) _) | (with_reducible refine Below.alloc ?_ (by first | (simp; done) | (simp; omega) | omega) _) | (with_reducible refine Below.drew ?_))))
      · have hra' := Bool.eq_false_iff.2 hra
        clear hra
        go_wp2_with ((with_reducible refine (reg_any (atX P f.code f.pc).a _).mono ?_); rw [hra']; rintro e w' ⟨rfl, rfl⟩)
        have hst : stepF P f = (FrameV.zero, 2) := by simp [stepF, hat, regsB, hra']
        refine bodyPost_ret (v := .tuple #[FrameV.zero.agg, .int .i64 2]) (by simp [results, Try.results34, go_sem, oc, of, FrameV.agg, FrameV.cells, FrameV.zero, rg]) rfl ⟨by rw [hst]; rfl, ?_⟩
        (have hszq := HB.out.size; (try simp only [World.size_alloc] at hszq); (repeat (first | (with_reducible refine Below.setCell ?_ (by first | (simp; done) | (simp; omega) | omega) _) | (with_reducible refine Below.alloc ?_ (by first | (simp; done) | (simp; omega) | omega) _) | (with_reducible refine Below.drew ?_))); refine Below.trans ?_ (HB.out.mono (by first | (simp; done) | (simp; omega) | omega)); (repeat (first | with_reducible exact Below.refl _ _ | (with_reducible refine Below.setCell ?_ (by first | (simp; done) | (simp; omega) | omega) _) | (with_reducible refine Below.alloc ?_ (by first | (simp; done) | (simp; omega) | omega) _) | (with_reducible refine Below.drew ?_))))
    · have hat' := Bool.eq_false_iff.2 hat
      clear hat
      go_wp2
      have hst : stepF P f = (FrameV.zero, 2) := by simp [stepF, hat']
      refine bodyPost_ret (v := .tuple #[FrameV.zero.agg, .int .i64 2]) (by simp [results, Try.results34, go_sem, oc, of, FrameV.agg, FrameV.cells, FrameV.zero, rg]) rfl ⟨by rw [hst]; rfl, ?_⟩
      (have hszq := HB.out.size; (try simp only [World.size_alloc] at hszq); (repeat (first | (with_reducible refine Below.setCell ?_ (by first | (simp; done) | (simp; omega) | omega) _) | (with_reducible refine Below.alloc ?_ (by first | (simp; done) | (simp; omega) | omega) _) | (with_reducible refine Below.drew ?_))); refine Below.trans ?_ (HB.out.mono (by first | (simp; done) | (simp; omega) | omega)); (repeat (first | with_reducible exact Below.refl _ _ | (with_reducible refine Below.setCell ?_ (by first | (simp; done) | (simp; omega) | omega) _) | (with_reducible refine Below.alloc ?_ (by first | (simp; done) | (simp; omega) | omega) _) | (with_reducible refine Below.drew ?_))))
end Go.Proofs.Ytljfloopjgpaeaa
