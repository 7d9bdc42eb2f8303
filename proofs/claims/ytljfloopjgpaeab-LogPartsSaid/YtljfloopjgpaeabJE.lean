/- tollbar/log: Put. -/
import Derived.LoopTactic
import Derived.Test.YtljfloopjgpaeabJD
import Derived.Test.YtljfloopjgpaeabQW
namespace Go.Proofs.Ytljfloopjgpaeab
set_option linter.unusedVariables false
set_option linter.unusedSimpArgs false
open Go.RowKit Go.Shelf
attribute [local go_sem] Oper.semAt_some run_store_fn
set_option maxRecDepth 100000
/-- Worlds behind w0 of which these blocks are known. -/
def Lw (w0 : World) (M : Nat → Option Obj) (w : World) : Prop := Ly.II w0.heap.size w0 ⟨M, fun _ => True, fun _ => False⟩ w
theorem Lw.keep {w0 w w' : World} {M : Nat → Option Obj} (h : Lw w0 M w) (hb : Below w.heap.size w w') : Lw w0 M w' :=
  ⟨⟨h.1.below.trans (hb.mono h.1.below.size), fun k o hk => (hb.block k (Array.getElem?_eq_some_iff.1 (h.1.holds k o hk)).1).trans (h.1.holds k o hk), trivial⟩, h.2⟩
theorem Lw.none {w0 w : World} {M : Nat → Option Obj} (h : Lw w0 M w) {k : Nat} (hk : w.heap.size ≤ k) : M k = none := by
  cases hm : M k with
  | none => rfl
  | some o =>
    have := (Array.getElem?_eq_some_iff.1 (h.1.holds k o hm)).1
    omega
theorem In.logAt {w0 w : World} {M : Nat → Option Obj} {F : Nat → Prop} (h : Ly.In w0.heap.size w0 ⟨M, fun _ => True, F⟩ w) {p : Nat} {v : Value} {L : List EntV} (hp : M p = some (.cells #[v] 76 (0, 0))) (hr : Ly.RowAt M 30 13 v L.length (L.flatMap EntV.cells)) (hs : L.length ≤ 1000) : LogAt w p v L :=
  ⟨h.holds p _ hp, own_R (enc := EntV.cells) (sz := 13) (Q := fun _ => True) cells_len (hr.own h) (fun _ _ => trivial) (by omega)⟩
def PutTo (w0 : World) (M : Nat → Option Obj) (p : Nat) (v : Value) (L : List EntV) (w' : World) : Prop :=
  ∃ v' M', Lw w0 M' w' ∧ M' p = some (.cells #[v'] 76 (0, 0)) ∧ Ly.RowAt M' 30 13 v' L.length (L.flatMap EntV.cells) ∧ (∀ k, v'.ownBlock = some k → v.ownBlock = some k ∨ M k = none) ∧ (∀ k o, M k = some o → k ≠ p → v.ownBlock ≠ some k → M' k = some o)
set_option maxHeartbeats 8000000 in
theorem put_any {w0 w : World} {M : Nat → Option Obj} {p : Nat} {v : Value} {L : List EntV} (h : Lw w0 M w) (hp : M p = some (.cells #[v] 76 (0, 0))) (hr : Ly.RowAt M 30 13 v L.length (L.flatMap EntV.cells)) (hs : L.length ≤ 1000) (x : EntV) :
    Calls Try.prog 11 #[.pointer (some ⟨p, 0, none⟩), x.agg] w fun e w' => e = .returned (.int .i64 (Lg.putE L x)) ∧ PutTo w0 M p v (Lg.putL L x) w' := by
  obtain ⟨i0, hi, hz0, hz1, hz2⟩ := info_parts info_Ent
  have hME : M w.heap.size = Option.none := h.none (Nat.le_refl _)
  have hpE : p ≠ w.heap.size := fun e => by rw [e, hME] at hp; cases hp
  obtain ⟨W1, hW1⟩ : ∃ W1, W1 = w.alloc (.cells x.cells.toArray 30) := ⟨_, rfl⟩
  obtain ⟨M1, hM1⟩ : ∃ M1, M1 = ((⟨M, fun _ => True, fun _ => False⟩ : Ly.St).upd w.heap.size (.cells x.cells.toArray 30)).M := ⟨_, rfl⟩
  have h1 : Lw w0 M1 W1 := by
    rw [hM1, hW1]
    exact Ly.II.alloc h rfl (.cells x.cells.toArray 30) rfl
  have hE1 : M1 w.heap.size = some (.cells x.cells.toArray 30) := by rw [hM1]; exact Ly.St.upd_at _ _ _
  have hp1 : M1 p = some (.cells #[v] 76 (0, 0)) := by rw [hM1, Ly.St.upd_ne _ _ hpE]; exact hp
  have hr1 : Ly.RowAt M1 30 13 v L.length (L.flatMap EntV.cells) := by rw [hM1]; exact Ly.RowAt.upd (s := ⟨M, fun _ => True, fun _ => False⟩) hr hME _
  have hk1 : ∀ k o, M k = some o → M1 k = some o := fun k o hk => by
    rw [hM1, Ly.St.upd_ne _ _ (fun e => by rw [e, hME] at hk; cases hk)]
    exact hk
  have hno : ∀ W, Lw w0 M1 W → Lg.putE L x ≠ 0 → PutTo w0 M p v (Lg.putL L x) W := fun W hW hne => by
    have e : Lg.putL L x = L := by rw [Lg.putL, if_neg hne]
    rw [e]
    exact ⟨v, M1, hW, hp1, hr1, fun k hk => .inl hk, fun k o hk _ _ => hk1 k o hk⟩
  have hfresh : ∀ k, M1 k = Option.none → M k = Option.none := fun k hk => by
    cases hm : M k with
    | none => rfl
    | some o => rw [hk1 k o hm] at hk; cases hk
  have HNO := Lib.hid hno
  have HFR := Lib.hid hfresh
  have HK1 := Lib.hid hk1
  have HE1 := Lib.hid hE1
  have HP1 := Lib.hid hp1
  have HR1 := Lib.hid hr1
  have H1 := Lib.hid h1
  have HLOG := Lib.hid (fun (F : Nat → Prop) W (hW : Ly.In w0.heap.size w0 ⟨M1, fun _ => True, F⟩ W) => In.logAt hW hp1 hr1 hs)
  clear hno hfresh hk1 hE1 hp1 hr1 hM1 h1 hp hr h hME
  simp only [EntV.agg]
  go_enter Try.func11, Try.ntmps11
  go_upto_region 3 with fail
  rw [show w.alloc (.cells #[.int .i64 x.at_, .int .u8 x.kind, .int .i64 x.worker, .int .i64 x.task, .int .i64 x.peer, .int .i64 x.ch, .int .i64 x.cs, .int .i64 x.pc, .int .i64 x.val, .int .i64 x.val2, .bool x.ok, .int .i64 x.code, .int .u64 x.set] 30) = W1 from hW1.symm]
  clear hW1
  have hEW : W1.heap[w.heap.size]? = some (.cells x.cells.toArray 30) := H1.out.1.holds _ _ HE1.out
  have c0 : W1.cell? ⟨w.heap.size, 0, none⟩ = some (.int .i64 x.at_) := Ly.cellAt hEW 0 rfl
  have c1 : W1.cell? ⟨w.heap.size, 1, none⟩ = some (.int .u8 x.kind) := Ly.cellAt hEW 1 rfl
  have c2 : W1.cell? ⟨w.heap.size, 2, none⟩ = some (.int .i64 x.worker) := Ly.cellAt hEW 2 rfl
  have c3 : W1.cell? ⟨w.heap.size, 3, none⟩ = some (.int .i64 x.task) := Ly.cellAt hEW 3 rfl
  have c4 : W1.cell? ⟨w.heap.size, 4, none⟩ = some (.int .i64 x.peer) := Ly.cellAt hEW 4 rfl
  have c5 : W1.cell? ⟨w.heap.size, 5, none⟩ = some (.int .i64 x.ch) := Ly.cellAt hEW 5 rfl
  have c6 : W1.cell? ⟨w.heap.size, 6, none⟩ = some (.int .i64 x.cs) := Ly.cellAt hEW 6 rfl
  have c7 : W1.cell? ⟨w.heap.size, 7, none⟩ = some (.int .i64 x.pc) := Ly.cellAt hEW 7 rfl
  have c8 : W1.cell? ⟨w.heap.size, 8, none⟩ = some (.int .i64 x.val) := Ly.cellAt hEW 8 rfl
  have c9 : W1.cell? ⟨w.heap.size, 9, none⟩ = some (.int .i64 x.val2) := Ly.cellAt hEW 9 rfl
  have c10 : W1.cell? ⟨w.heap.size, 10, none⟩ = some (.bool x.ok) := Ly.cellAt hEW 10 rfl
  have c11 : W1.cell? ⟨w.heap.size, 11, none⟩ = some (.int .i64 x.code) := Ly.cellAt hEW 11 rfl
  have c12 : W1.cell? ⟨w.heap.size, 12, none⟩ = some (.int .u64 x.set) := Ly.cellAt hEW 12 rfl
  have hck := eCheck_any x
  simp only [EntV.agg] at hck
  clear hEW
  cases hx : entB x
  · have he : Lg.putE L x = 2 := by rw [Lg.putE, if_pos (.inl hx)]
    rw [hx] at hck
    have HCK := Lib.hid hck
    have HE := Lib.hid he
    clear hck hx he
    go_wp2_with ((with_reducible refine (HCK.out _).mono ?_); rintro e w' ⟨rfl, hb⟩; simp only [errOf])
    go_ret
    exact ⟨by rw [HE.out]; rfl, HNO.out _ (H1.out.keep hb) (by rw [HE.out]; decide)⟩
  · rw [hx] at hck
    have HCK := Lib.hid hck
    have HX := Lib.hid hx
    clear hck hx
    go_upto_region 4 with ((with_reducible refine (HCK.out _).mono ?_); rintro e w' ⟨rfl, hb⟩; simp only [errOf])
    clear c0 c1 c2 c3 c4 c5 c6 c7 c8 c9 c10 c11 c12
    have HIN := Lib.hid (show Ly.II w0.heap.size w0 ⟨M1, fun _ => True, fun k => k = w.heap.size⟩ w' from ⟨⟨(H1.out.keep hb).1.below, (H1.out.keep hb).1.holds, trivial⟩, ⟨H1.out.2.stable, H1.out.2.dom, H1.out.2.fin⟩⟩)
    clear hb
    refine Ly.regionS (by kernel_rfl) (by kernel_rfl) HIN.out.1 HIN.out.2 (by simp only [List.size_toArray, List.length_cons, List.length_nil, Nat.reduceAdd]; rfl) (fun O Z hO hZ => ?_); have HO := Lib.hid hO; clear hO
    first
      | (apply Ly.kp HO 0; (case hx => exact ⟨rfl, rfl, rfl⟩); (case hk => decide +kernel); (case hv => intro w_ hw_; (go_simp <;> first | with_reducible rfl | exact ⟨rfl, rfl⟩)); simp only [Act.put, Ly.p1, Ly.p2, Ly.p3])
    first
      | (apply Ly.kf HO 1; (case hx => exact ⟨rfl, rfl, rfl⟩); (case hk => decide +kernel); (case hv => intro w_ hw_ hF_; have c_ : w_.cell? ⟨w.heap.size, 0, none⟩ = some (.int .i64 x.at_) := Ly.cellAt (hF_ _ _ rfl HE1.out) 0 rfl; (go_simp <;> first | with_reducible rfl | exact ⟨rfl, rfl⟩)); simp only [Act.put, Ly.p1, Ly.p2, Ly.p3])
    first
      | (apply Ly.kp HO 2; (case hx => exact ⟨rfl, rfl, rfl⟩); (case hk => decide +kernel); (case hv => intro w_ hw_; (go_simp <;> first | with_reducible rfl | exact ⟨rfl, rfl⟩)); simp only [Act.put, Ly.p1, Ly.p2, Ly.p3])
    first
      | (apply Ly.kc HO 3; (case hx => exact ⟨rfl, rfl, rfl⟩); (case hk => decide +kernel); (case hrun => intro w_; (go_simp <;> first | with_reducible rfl | exact ⟨rfl, rfl⟩)); (case hc => intro w_ hw_; exact end_any (HLOG.out _ w_ hw_)); simp only [Act.put, Ly.p1, Ly.p2, Ly.p3])
    first
      | (apply Ly.kp HO 4; (case hx => exact ⟨rfl, rfl, rfl⟩); (case hk => decide +kernel); (case hv => intro w_ hw_; (go_simp <;> first | with_reducible rfl | exact ⟨rfl, rfl⟩)); simp only [Act.put, Ly.p1, Ly.p2, Ly.p3])
    first
      | (apply Ly.kp HO 5; (case hx => exact ⟨rfl, rfl, rfl⟩); (case hk => decide +kernel); (case hv => intro w_ hw_; (go_simp <;> first | with_reducible rfl | exact ⟨rfl, rfl⟩)); simp only [Act.put, Ly.p1, Ly.p2, Ly.p3])
    refine Ly.kd HO (by kernel_rfl) (fun hiv2 => hZ _ _ (fun W2 hw2 => ?_))
    clear hZ Z HO O HIN
    have HL2 := Lib.hid (⟨⟨hw2.of_add.below, hw2.of_add.holds, trivial⟩, H1.out.2⟩ : Lw w0 M1 W2)
    clear hw2 hiv2
    by_cases ht : x.at_ < Lg.endB L
    · have d1 : decide (x.at_ < Lg.endB L) = true := decide_eq_true ht
      have he : Lg.putE L x = 2 := by rw [Lg.putE, if_pos (.inr ht)]
      have HE := Lib.hid he
      rw [d1]
      clear ht he d1
      go_wp2
      go_ret
      exact ⟨by rw [HE.out]; rfl, HNO.out _ HL2.out (by rw [HE.out]; decide)⟩
    · have d1 : decide (x.at_ < Lg.endB L) = false := decide_eq_false ht
      have hnn : ¬ (entB x = false ∨ x.at_ < Lg.endB L) := fun h => h.elim (fun h => by rw [HX.out] at h; cases h) ht
      have hen := fun F W hW => ended_any (HLOG.out F W hW)
      cases hb : Lg.endedB L
      · have he : Lg.putE L x = 0 := by rw [Lg.putE, if_neg hnn, hb]; rfl
        rw [hb] at hen
        have HEN := Lib.hid hen
        have HE := Lib.hid he
        rw [d1]
        clear hen hb hnn ht he d1
        go_upto_region 8 with ((with_reducible refine (HEN.out _ _ HL2.out.1).mono ?_); rintro e w' ⟨rfl, hb⟩)
        have HIN := Lib.hid (Lw.keep HL2.out hb)
        clear hb
        have HI := Lib.hid hi
        have HZ0 := Lib.hid hz0
        have HZ1 := Lib.hid hz1
        have HZ2 := Lib.hid hz2
        clear hi hz0 hz1 hz2
        refine Ly.regionS (by kernel_rfl) (by kernel_rfl) HIN.out.1 HIN.out.2 (by simp only [List.size_toArray, List.length_cons, List.length_nil, Nat.reduceAdd]; rfl) (fun O Z hO hZ => ?_); have HO := Lib.hid hO; clear hO
        first
          | (apply Ly.kp HO 0; (case hx => exact ⟨rfl, rfl, rfl⟩); (case hk => decide +kernel); (case hv => intro w_ hw_; (go_simp <;> first | with_reducible rfl | exact ⟨rfl, rfl⟩)); simp only [Act.put, Ly.p1, Ly.p2, Ly.p3])
        first
          | (apply Ly.kp HO 1; (case hx => exact ⟨rfl, rfl, rfl⟩); (case hk => decide +kernel); (case hv => intro w_ hw_; (go_simp <;> first | with_reducible rfl | exact ⟨rfl, rfl⟩)); simp only [Act.put, Ly.p1, Ly.p2, Ly.p3])
        first
          | (apply Ly.kp HO 2; (case hx => exact ⟨rfl, rfl, rfl⟩); (case hk => decide +kernel); (case hv => intro w_ hw_; (go_simp <;> first | with_reducible rfl | exact ⟨rfl, rfl⟩)); simp only [Act.put, Ly.p1, Ly.p2, Ly.p3])
        first
          | (apply Ly.kp HO 3; (case hx => exact ⟨rfl, rfl, rfl⟩); (case hk => decide +kernel); (case hv => intro w_ hw_; (go_simp <;> first | with_reducible rfl | exact ⟨rfl, rfl⟩)); simp only [Act.put, Ly.p1, Ly.p2, Ly.p3])
        first
          | (apply Ly.kr HO 4; (case hx => exact ⟨rfl, rfl, rfl⟩); (case hk => decide +kernel); (case hv => intro w_ hw_; have c_ : w_.cell? ⟨p, 0, none⟩ = some v := Ly.cellAt (hw_.holds _ _ HP1.out) 0 rfl; (go_simp <;> first | with_reducible rfl | exact ⟨rfl, rfl⟩)); simp only [Act.put, Ly.p1, Ly.p2, Ly.p3])
        first
          | (apply Ly.kr HO 5; (case hx => exact ⟨rfl, rfl, rfl⟩); (case hk => decide +kernel); (case hv => intro w_ hw_; have P_ := hw_.holds w.heap.size _ HE1.out; have c0 : w_.cell? ⟨w.heap.size, 0, none⟩ = some (.int .i64 x.at_) := Ly.cellAt P_ 0 rfl; have c1 : w_.cell? ⟨w.heap.size, 1, none⟩ = some (.int .u8 x.kind) := Ly.cellAt P_ 1 rfl; have c2 : w_.cell? ⟨w.heap.size, 2, none⟩ = some (.int .i64 x.worker) := Ly.cellAt P_ 2 rfl; have c3 : w_.cell? ⟨w.heap.size, 3, none⟩ = some (.int .i64 x.task) := Ly.cellAt P_ 3 rfl; have c4 : w_.cell? ⟨w.heap.size, 4, none⟩ = some (.int .i64 x.peer) := Ly.cellAt P_ 4 rfl; have c5 : w_.cell? ⟨w.heap.size, 5, none⟩ = some (.int .i64 x.ch) := Ly.cellAt P_ 5 rfl; have c6 : w_.cell? ⟨w.heap.size, 6, none⟩ = some (.int .i64 x.cs) := Ly.cellAt P_ 6 rfl; have c7 : w_.cell? ⟨w.heap.size, 7, none⟩ = some (.int .i64 x.pc) := Ly.cellAt P_ 7 rfl; have c8 : w_.cell? ⟨w.heap.size, 8, none⟩ = some (.int .i64 x.val) := Ly.cellAt P_ 8 rfl; have c9 : w_.cell? ⟨w.heap.size, 9, none⟩ = some (.int .i64 x.val2) := Ly.cellAt P_ 9 rfl; have c10 : w_.cell? ⟨w.heap.size, 10, none⟩ = some (.bool x.ok) := Ly.cellAt P_ 10 rfl; have c11 : w_.cell? ⟨w.heap.size, 11, none⟩ = some (.int .i64 x.code) := Ly.cellAt P_ 11 rfl; have c12 : w_.cell? ⟨w.heap.size, 12, none⟩ = some (.int .u64 x.set) := Ly.cellAt P_ 12 rfl; clear P_; (go_simp <;> first | with_reducible rfl | exact ⟨rfl, rfl⟩)); simp only [Act.put, Ly.p1, Ly.p2, Ly.p3])
        first
          | (apply Ly.kn HO 6 (mk := fun n => .slice (some ⟨n, 0, none⟩) 1 1); (case hx => exact ⟨rfl, rfl, rfl⟩); (case hk => decide +kernel); (case hrun => intro w_; (go_simp <;> first | with_reducible rfl | exact ⟨rfl, rfl⟩)); simp only [Act.put, Ly.p1, Ly.p2, Ly.p3])
        intro gb hg_ hfr
        have hf_gb := hfr
        clear hfr
        first
          | (refine Ly.kapp2 HO 7 ?hk (Operand.tmp 24) (Operand.tmp 26) 22 ⟨rfl, rfl, rfl⟩ 30 i0 _ 13 104 Try.underlying22 HI.out HZ0.out HZ1.out HZ2.out rfl (by decide) v L.length (L.flatMap EntV.cells) rfl (Ly.RowAt.upd HR1.out hf_gb _) (fun _ _ h_ => h_) (.slice (some ⟨gb, 0, none⟩) 1 1) 1 x.cells rfl (fun w_ hw_ => .inr ⟨_, _, rfl, cells_at (hw_.holds gb _ (Ly.ua _ _ _))⟩) rfl (cells_one x) (by unfold maxLen; omega) (by omega) (fun _ _ h_ _ => h_) ?_; (case hk => decide +kernel))
        intro va Ma hrowa hob hMa
        have hM1p : (⟨M1, fun _ => True, fun _ => False⟩ : Ly.St).M p = some (.cells #[v] 76 (0, 0)) := HP1.out
        have n1 : p ≠ gb := fun e => by rw [e] at hM1p; rw [show (⟨M1, fun _ => True, fun _ => False⟩ : Ly.St).M gb = Option.none from hf_gb] at hM1p; cases hM1p
        have n2 : v.ownBlock ≠ some p := fun e => by
          rcases HR1.out.2 with ⟨h, _⟩ | ⟨g, cap, cur, h, hm, _⟩
          · rw [h] at e; simp [Value.ownBlock] at e
          · rw [h] at e
            simp only [Value.ownBlock, Option.some.injEq] at e
            rw [e, HP1.out] at hm
            injection hm with hm
            injection hm with _ hm
            cases hm
        have hpa : Ma p = some (.cells #[v] 76 (0, 0)) := hMa p _ (by rw [Ly.St.upd_ne _ _ n1]; exact HP1.out) n2
        have n3 : va.ownBlock ≠ some p := fun e => by
          rcases hrowa.2 with ⟨h, _⟩ | ⟨g, cap, cur, h, hm, _⟩
          · rw [h] at e; simp [Value.ownBlock] at e
          · rw [h] at e
            simp only [Value.ownBlock, Option.some.injEq] at e
            rw [e, hpa] at hm
            injection hm with hm
            injection hm with _ hm
            cases hm
        have hob2 : ∀ k, va.ownBlock = some k → v.ownBlock = some k ∨ M k = Option.none := fun k hk => (hob k hk).imp_right fun h => HFR.out k (by
          by_cases e : k = gb
          · rw [e]; exact hf_gb
          · rw [Ly.St.upd_ne _ _ e] at h; exact h)
        have hMa2 : ∀ k o, M k = some o → k ≠ p → v.ownBlock ≠ some k → Ma k = some o := fun k o hk _ hn => hMa k o (by
          have h2 := HK1.out k o hk
          rw [Ly.St.upd_ne _ _ (fun e => by rw [e] at h2; rw [show M1 gb = Option.none from hf_gb] at h2; cases h2)]
          exact h2) hn
        obtain ⟨Aa_, na_, ca_, rfl⟩ := hrowa.val
        have HRA := Lib.hid hrowa
        have HPA := Lib.hid hpa
        have N3 := Lib.hid n3
        have HOB := Lib.hid hob2
        have HMA := Lib.hid hMa2
        clear hrowa hpa n3 hob hMa hob2 hMa2 hM1p n1 n2
        simp only [Act.put, Ly.p1, Ly.p2, Ly.p3]
        first
          | (apply Ly.kp HO 8; (case hx => exact ⟨rfl, rfl, rfl⟩); (case hk => decide +kernel); (case hv => intro w_ hw_; (go_simp <;> first | with_reducible rfl | exact ⟨rfl, rfl⟩)); simp only [Act.put, Ly.p1, Ly.p2, Ly.p3])
        first
          | (apply Ly.kp HO 9; (case hx => exact ⟨rfl, rfl, rfl⟩); (case hk => decide +kernel); (case hv => intro w_ hw_; (go_simp <;> first | with_reducible rfl | exact ⟨rfl, rfl⟩)); simp only [Act.put, Ly.p1, Ly.p2, Ly.p3])
        apply Ly.ks HO 10 (g := p)
        (case hx => exact ⟨rfl, rfl, rfl⟩); (case hk => decide +kernel)
        case hF => exact fun h_ => h_
        case hG => exact fun _ _ h_ _ => h_
        case hg => exact HPA.out
        case hrun =>
          intro w_ hw_ hb_
          have c0 : w_.cell? ⟨p, 0, none⟩ = some v := Ly.cellAt hb_ 0 rfl
          have d0 := (Ly.froz2 hb_).1
          refine ⟨?_, ?_, ?_, ?_⟩
          rotate_left
          next => (go_simp <;> first | with_reducible rfl | rfl)
          next => (repeat (first | (with_reducible exact Ly.OnlyAt.refl _ _) | (with_reducible refine Ly.OnlyAt.set ?_ _ _)))
          next => (simp [World.setCell, Array.getElem?_modify, hb_] <;> rfl)
        simp only [Act.put, Ly.p1, Ly.p2, Ly.p3]
        refine Ly.kd HO (by kernel_rfl) (fun hiv2 => hZ _ _ (fun W3 hw2 => ?_))
        clear hZ Z HO O HIN
        have HL3 := Lib.hid (And.intro hw2 hiv2)
        clear hw2 hiv2
        go_wp2
        go_ret
        refine ⟨by rw [HE.out]; rfl, ?_⟩
        rw [Lg.putL, if_pos HE.out]
        refine ⟨_, _, ⟨⟨HL3.out.1.below, HL3.out.1.holds, trivial⟩, ⟨fun _ _ _ _ => trivial, HL3.out.2.dom, HL3.out.2.fin⟩⟩, Ly.ua _ _ _, ?_, HOB.out, fun k o hk h1 h2 => ?_⟩
        · refine Ly.RowAt.again (s := ⟨Ma, fun _ => True, fun _ => False⟩) ?_ N3.out _
          have := HRA.out
          simpa [List.flatMap_append] using this
        · show (if k = p then _ else Ma k) = _
          rw [if_neg h1]
          exact HMA.out k o hk h1 h2
      · have he : Lg.putE L x = 6 := by rw [Lg.putE, if_neg hnn, hb]; rfl
        rw [hb] at hen
        have HEN := Lib.hid hen
        have HE := Lib.hid he
        rw [d1]
        clear hen hb hnn ht he d1
        go_wp2_with ((with_reducible refine (HEN.out _ _ HL2.out.1).mono ?_); rintro e w' ⟨rfl, hb⟩)
        go_ret
        exact ⟨by rw [HE.out]; rfl, HNO.out _ (Lw.keep HL2.out hb) (by rw [HE.out]; decide)⟩
end Go.Proofs.Ytljfloopjgpaeab
