/- entry.Line. -/
import Derived.Test.YtljfloopjgpaeabDoorVS
namespace Go.Proofs.YtljfloopjgpaeabDoor
set_option linter.unusedVariables false
set_option linter.unusedSimpArgs false
open Go.RowKit Go.Shelf
attribute [local go_sem] Oper.semAt_some run_store_fn
set_option maxRecDepth 100000
theorem dec_head (u : Nat) : ∃ c t, Lib.decDigits u = c :: t ∧ 48 ≤ c.toNat ∧ c.toNat < 58 := by
  induction u using Nat.strongRecOn with
  | ind u ih =>
    unfold Lib.decDigits
    by_cases h : u < 10
    · rw [dif_pos h]
      exact ⟨_, [], rfl, by rw [UInt8.toNat_ofNat']; omega, by rw [UInt8.toNat_ofNat']; omega⟩
    · rw [dif_neg h]
      obtain ⟨c, t, e, h1, h2⟩ := ih (u / 10) (by omega)
      exact ⟨c, t ++ [UInt8.ofNat (48 + u % 10)], by rw [e]; rfl, h1, h2⟩
def wordL (k : Int) : List UInt8 := (wordOf k).data.toList
theorem wordL_eq (k : Int) : wordOf k = ⟨(wordL k).toArray⟩ := rfl
theorem words_len : ∀ j, j < 58 → (match Ef.rowOf j with | none => true | some x => decide (x.word.data.toList.length ≤ 8)) = true := by decide +kernel
theorem wordL_len (k : Int) : (wordL k).length ≤ 8 := by
  unfold wordL wordOf
  cases h : hasOf k with
  | none => simp
  | some p =>
    obtain ⟨j, x, h1, rfl, rfl⟩ := row_has h
    have := words_len j (Ef.row_lt h1)
    rw [h1] at this
    simpa using this
/-- An entry's line. -/
def lineX (x : EntV) : List UInt8 := (Lib.itoa x.at_ ++ 32 :: wordL x.kind) ++ lineB (evAll x (namesX x))
def lineV (x : EntV) : Value := if entB x = true then .tuple #[.string ⟨(lineX x).toArray⟩, .int .i64 0] else .tuple #[.string ⟨#[]⟩, .int .i64 2]
theorem evAll_okLn {x : EntV} (h : okE x) {p : ByteArray × List ByteArray} (hk : hasOf x.kind = some p) : ∀ ev ∈ evAll x p.2, okLn x ev := by
  intro ev hev
  have h1 := evAll_ok h (has_names hk).2.1 ev hev
  cases ev with
  | small s v =>
    have : shiftB s ≤ 1 := by unfold shiftB; split <;> omega
    obtain ⟨h2, h3⟩ := h1
    exact ⟨by omega, by omega⟩
  | wide v => exact h1
  | plain n =>
    refine ⟨h1, fun h25 => ?_⟩
    rw [h25] at hk
    have hp : p = (w_poll, [s_worker, s_task, s_set]) := by
      have : hasOf 25 = some (w_poll, [s_worker, s_task, s_set]) := by kernel_rfl
      rw [this] at hk
      exact (Option.some.inj hk).symm
    subst hp
    have e : evAll x [s_worker, s_task, s_set] = [.small s_worker x.worker, .small s_task x.task, .plain x.set.toNat] := by kernel_rfl
    rw [e] at hev
    simp only [List.mem_cons, List.mem_nil_iff, or_false] at hev
    rcases hev with h | h | h
    · cases h
    · cases h
    · injection h with h
      have := h ▸ h1
      have hs := h.symm
      obtain ⟨_, _, _, _, _, _, _, _, _, _, _, h10⟩ := ‹okE x›
      omega
theorem str3 (a b : List UInt8) : ((⟨a.toArray⟩ : ByteArray) ++ (⟨#[32]⟩ : ByteArray)) ++ (⟨b.toArray⟩ : ByteArray) = ⟨(a ++ 32 :: b).toArray⟩ := by
  have e : (⟨#[32]⟩ : ByteArray) = ⟨[32].toArray⟩ := rfl
  rw [e, str_app, str_app]
  simp
set_option maxHeartbeats 4000000 in
theorem eLine_any (x : EntV) (hr : rgE x) (w : World) (htab : Tab10 w) : Calls Tryd.prog 11 #[x.agg] w fun e w' => e = .returned (lineV x) ∧ Below w.heap.size w w' := by
  have hmf : ∀ (fn : Fn) (first cap : Array Value) (w : World), (Instr.makeFunc fn first cap).run Tryd.prog w = .ok (.func fn first cap) w := fun _ _ _ _ => rfl
  have hchk := fun W => eCheck_any x W
  simp only [EntV.agg] at hchk
  have HR := Lib.hid hr
  have HTAB := Lib.hid htab
  unfold lineV
  cases hen : entB x with
  | false =>
    rw [hen] at hchk
    have e2 : errOf false = 2 := rfl
    rw [e2] at hchk
    rw [if_neg (by decide)]
    have HCHK := Lib.hid hchk
    clear hchk hen e2 hr htab
    simp only [EntV.agg]
    go_enter Tryd.func11, Tryd.ntmps11
    go_upto_region 1 with fail
    obtain ⟨w1, hw1⟩ : ∃ w1, w1 = w.alloc (.cells #[.int .i64 x.at_, .int .u8 x.kind, .int .i64 x.worker, .int .i64 x.task, .int .i64 x.peer, .int .i64 x.ch, .int .i64 x.cs, .int .i64 x.pc, .int .i64 x.val, .int .i64 x.val2, .bool x.ok, .int .i64 x.code, .int .u64 x.set] 26) := ⟨_, rfl⟩
    have hE : w1.heap[w.heap.size]? = some (.cells #[.int .i64 x.at_, .int .u8 x.kind, .int .i64 x.worker, .int .i64 x.task, .int .i64 x.peer, .int .i64 x.ch, .int .i64 x.cs, .int .i64 x.pc, .int .i64 x.val, .int .i64 x.val2, .bool x.ok, .int .i64 x.code, .int .u64 x.set] 26 (0, 0)) := by rw [hw1]; exact World.alloc_heap_new w _
    have hb1 : Below w.heap.size w w1 := by rw [hw1]; exact (Below.refl _ w).alloc (Nat.le_refl _) _
    rw [← hw1]
    have c0 : w1.cell? ⟨w.heap.size, 0, none⟩ = some (.int .i64 x.at_) := Ly.cellAt hE 0 rfl
    have c1 : w1.cell? ⟨w.heap.size, 1, none⟩ = some (.int .u8 x.kind) := Ly.cellAt hE 1 rfl
    have c2 : w1.cell? ⟨w.heap.size, 2, none⟩ = some (.int .i64 x.worker) := Ly.cellAt hE 2 rfl
    have c3 : w1.cell? ⟨w.heap.size, 3, none⟩ = some (.int .i64 x.task) := Ly.cellAt hE 3 rfl
    have c4 : w1.cell? ⟨w.heap.size, 4, none⟩ = some (.int .i64 x.peer) := Ly.cellAt hE 4 rfl
    have c5 : w1.cell? ⟨w.heap.size, 5, none⟩ = some (.int .i64 x.ch) := Ly.cellAt hE 5 rfl
    have c6 : w1.cell? ⟨w.heap.size, 6, none⟩ = some (.int .i64 x.cs) := Ly.cellAt hE 6 rfl
    have c7 : w1.cell? ⟨w.heap.size, 7, none⟩ = some (.int .i64 x.pc) := Ly.cellAt hE 7 rfl
    have c8 : w1.cell? ⟨w.heap.size, 8, none⟩ = some (.int .i64 x.val) := Ly.cellAt hE 8 rfl
    have c9 : w1.cell? ⟨w.heap.size, 9, none⟩ = some (.int .i64 x.val2) := Ly.cellAt hE 9 rfl
    have c10 : w1.cell? ⟨w.heap.size, 10, none⟩ = some (.bool x.ok) := Ly.cellAt hE 10 rfl
    have c11 : w1.cell? ⟨w.heap.size, 11, none⟩ = some (.int .i64 x.code) := Ly.cellAt hE 11 rfl
    have c12 : w1.cell? ⟨w.heap.size, 12, none⟩ = some (.int .u64 x.set) := Ly.cellAt hE 12 rfl
    have hl1 : w.heap.size < w1.heap.size := (Array.getElem?_eq_some_iff.1 hE).1
    have HE := Lib.hid hE
    have HB1 := Lib.hid hb1
    clear hw1 hE hb1
    go_wp2_with ((with_reducible refine (HCHK.out _).mono ?_); rintro e w2 ⟨rfl, hb2⟩; (have HB2 := Lib.hid hb2); clear hb2)
    refine bodyPost_ret (results_tmp2 rfl _ _ _) rfl ?_
    exact ⟨rfl, HB1.out.trans (HB2.out.mono HB1.out.size)⟩
  | true =>
    rw [hen] at hchk
    have e2 : errOf true = 0 := rfl
    rw [e2] at hchk
    rw [if_pos rfl]
    have hok := okE_of hen hr
    obtain ⟨p, hk, _⟩ := entB_facts hen
    have hnx : namesX x = p.2 := by unfold namesX; rw [hk]
    have HCHK := Lib.hid hchk
    have HOK := Lib.hid hok
    have HK := Lib.hid hk
    have HNX := Lib.hid hnx
    obtain ⟨lx, hlx⟩ : ∃ lx, lx = lineX x := ⟨_, rfl⟩
    rw [← hlx]
    have HLX := Lib.hid hlx
    clear hchk hen e2 hr htab hok hk hnx hlx
    simp only [EntV.agg]
    go_enter Tryd.func11, Tryd.ntmps11
    go_upto_region 1 with fail
    obtain ⟨w1, hw1⟩ : ∃ w1, w1 = w.alloc (.cells #[.int .i64 x.at_, .int .u8 x.kind, .int .i64 x.worker, .int .i64 x.task, .int .i64 x.peer, .int .i64 x.ch, .int .i64 x.cs, .int .i64 x.pc, .int .i64 x.val, .int .i64 x.val2, .bool x.ok, .int .i64 x.code, .int .u64 x.set] 26) := ⟨_, rfl⟩
    have hE : w1.heap[w.heap.size]? = some (.cells #[.int .i64 x.at_, .int .u8 x.kind, .int .i64 x.worker, .int .i64 x.task, .int .i64 x.peer, .int .i64 x.ch, .int .i64 x.cs, .int .i64 x.pc, .int .i64 x.val, .int .i64 x.val2, .bool x.ok, .int .i64 x.code, .int .u64 x.set] 26 (0, 0)) := by rw [hw1]; exact World.alloc_heap_new w _
    have hb1 : Below w.heap.size w w1 := by rw [hw1]; exact (Below.refl _ w).alloc (Nat.le_refl _) _
    rw [← hw1]
    have c0 : w1.cell? ⟨w.heap.size, 0, none⟩ = some (.int .i64 x.at_) := Ly.cellAt hE 0 rfl
    have c1 : w1.cell? ⟨w.heap.size, 1, none⟩ = some (.int .u8 x.kind) := Ly.cellAt hE 1 rfl
    have c2 : w1.cell? ⟨w.heap.size, 2, none⟩ = some (.int .i64 x.worker) := Ly.cellAt hE 2 rfl
    have c3 : w1.cell? ⟨w.heap.size, 3, none⟩ = some (.int .i64 x.task) := Ly.cellAt hE 3 rfl
    have c4 : w1.cell? ⟨w.heap.size, 4, none⟩ = some (.int .i64 x.peer) := Ly.cellAt hE 4 rfl
    have c5 : w1.cell? ⟨w.heap.size, 5, none⟩ = some (.int .i64 x.ch) := Ly.cellAt hE 5 rfl
    have c6 : w1.cell? ⟨w.heap.size, 6, none⟩ = some (.int .i64 x.cs) := Ly.cellAt hE 6 rfl
    have c7 : w1.cell? ⟨w.heap.size, 7, none⟩ = some (.int .i64 x.pc) := Ly.cellAt hE 7 rfl
    have c8 : w1.cell? ⟨w.heap.size, 8, none⟩ = some (.int .i64 x.val) := Ly.cellAt hE 8 rfl
    have c9 : w1.cell? ⟨w.heap.size, 9, none⟩ = some (.int .i64 x.val2) := Ly.cellAt hE 9 rfl
    have c10 : w1.cell? ⟨w.heap.size, 10, none⟩ = some (.bool x.ok) := Ly.cellAt hE 10 rfl
    have c11 : w1.cell? ⟨w.heap.size, 11, none⟩ = some (.int .i64 x.code) := Ly.cellAt hE 11 rfl
    have c12 : w1.cell? ⟨w.heap.size, 12, none⟩ = some (.int .u64 x.set) := Ly.cellAt hE 12 rfl
    have hl1 : w.heap.size < w1.heap.size := (Array.getElem?_eq_some_iff.1 hE).1
    have HE := Lib.hid hE
    have HB1 := Lib.hid hb1
    clear hw1 hE hb1
    go_upto_region 4 with ((with_reducible refine (HCHK.out _).mono ?_); rintro e w2 ⟨rfl, hb2⟩; (have HB2 := Lib.hid hb2); clear hb2)
    have hE2 : w2.heap[w.heap.size]? = some (.cells #[.int .i64 x.at_, .int .u8 x.kind, .int .i64 x.worker, .int .i64 x.task, .int .i64 x.peer, .int .i64 x.ch, .int .i64 x.cs, .int .i64 x.pc, .int .i64 x.val, .int .i64 x.val2, .bool x.ok, .int .i64 x.code, .int .u64 x.set] 26 (0, 0)) := (HB2.out.block _ hl1).trans HE.out
    have hBB2 : Below w.heap.size w w2 := HB1.out.trans (HB2.out.mono HB1.out.size)
    have hl2 : w.heap.size < w2.heap.size := (Array.getElem?_eq_some_iff.1 hE2).1
    have hfm := fun W (hW : Below w2.heap.size w2 W) => fmtI_any x.at_ (by have := HOK.out.at_; omega) HOK.out.at_.2 W (Tab10.keep HTAB.out (hBB2.trans (hW.mono (by omega))))
    have hwd := fun W => eWord_any x.kind W
    have hno1 : ¬ 9223372036854775807 < (Lib.itoa x.at_).length + 1 := by have := itoa_len (v := x.at_) (by have := HOK.out.at_; omega) HOK.out.at_.2; omega
    have hno2 : ¬ 9223372036854775807 < (Lib.itoa x.at_).length + 1 + (wordL x.kind).length := by have := itoa_len (v := x.at_) (by have := HOK.out.at_; omega) HOK.out.at_.2; have := wordL_len x.kind; omega
    have hs3 := str3 (Lib.itoa x.at_) (wordL x.kind)
    rw [← wordL_eq] at hs3
    have hno3 : ¬ 9223372036854775807 < (Lib.itoa x.at_).length + 1 + (wordOf x.kind).size := hno2
    have HE2 := Lib.hid hE2
    have HBB2 := Lib.hid hBB2
    have HFM := Lib.hid hfm
    have HWD := Lib.hid hwd
    have HS3 := Lib.hid hs3
    clear c0 c1 c2 c3 c4 c5 c6 c7 c8 c9 c10 c11 c12 hl1 hfm hwd hno2 hs3 hE2 hBB2
    have HIN := Lib.hid (Lx.II.nil (Below.refl w2.heap.size w2))
    refine Lx.regionS (by kernel_rfl) (by kernel_rfl) HIN.out.1 HIN.out.2 (by simp only [List.size_toArray, List.length_cons, List.length_nil, Nat.reduceAdd]; rfl) (fun O Z hO hZ => ?_); have HO := Lib.hid hO; clear hO
    first
      | (apply Lx.kp HO 0; (case hx => exact ⟨rfl, rfl, rfl⟩); (case hk => decide +kernel); (case hv => intro w_ hw_; (go_simp <;> first | with_reducible rfl | exact ⟨rfl, rfl⟩)); simp only [Act.put, Lx.p1, Lx.p2, Lx.p3])
    first
      | (apply Lx.kr HO 1; (case hx => exact ⟨rfl, rfl, rfl⟩); (case hk => decide +kernel); (case hv => intro w_ hw_; have c0 : w_.cell? ⟨w.heap.size, 0, none⟩ = some (.int .i64 x.at_) := Ly.cellAt ((hw_.below.block _ hl2).trans HE2.out) 0 rfl; (go_simp <;> first | with_reducible rfl | exact ⟨rfl, rfl⟩)); simp only [Act.put, Lx.p1, Lx.p2, Lx.p3])
    first
      | (apply Lx.kp HO 4; (case hx => exact ⟨rfl, rfl, rfl⟩); (case hk => decide +kernel); (case hv => intro w_ hw_; (go_simp <;> first | with_reducible rfl | exact ⟨rfl, rfl⟩)); simp only [Act.put, Lx.p1, Lx.p2, Lx.p3])
    first
      | (apply Lx.kr HO 5; (case hx => exact ⟨rfl, rfl, rfl⟩); (case hk => decide +kernel); (case hv => intro w_ hw_; have c1 : w_.cell? ⟨w.heap.size, 1, none⟩ = some (.int .u8 x.kind) := Ly.cellAt ((hw_.below.block _ hl2).trans HE2.out) 1 rfl; (go_simp <;> first | with_reducible rfl | exact ⟨rfl, rfl⟩)); simp only [Act.put, Lx.p1, Lx.p2, Lx.p3])
    first
      | (apply Lx.kc HO 2; (case hx => exact ⟨rfl, rfl, rfl⟩); (case hk => decide +kernel); (case hrun => intro w_; (go_simp <;> first | with_reducible rfl | exact ⟨rfl, rfl⟩)); (case hc => intro w_ hw_; exact HFM.out _ hw_.below); simp only [Act.put, Lx.p1, Lx.p2, Lx.p3])
    first
      | (apply Lx.kp HO 3; (case hx => exact ⟨rfl, rfl, rfl⟩); (case hk => decide +kernel); (case hv => intro w_ hw_; (go_simp <;> first | with_reducible rfl | exact ⟨rfl, rfl⟩)); simp only [Act.put, Lx.p1, Lx.p2, Lx.p3])
    first
      | (apply Lx.kc HO 6; (case hx => exact ⟨rfl, rfl, rfl⟩); (case hk => decide +kernel); (case hrun => intro w_; (go_simp <;> first | with_reducible rfl | exact ⟨rfl, rfl⟩)); (case hc => intro w_ hw_; exact HWD.out _); simp only [Act.put, Lx.p1, Lx.p2, Lx.p3])
    first
      | (apply Lx.kp HO 7; (case hx => exact ⟨rfl, rfl, rfl⟩); (case hk => decide +kernel); (case hv => intro w_ hw_; (go_simp <;> first | with_reducible rfl | exact ⟨rfl, rfl⟩)); simp only [Act.put, Lx.p1, Lx.p2, Lx.p3])
    first
      | (apply Lx.ka HO 8; (case hx => exact ⟨rfl, rfl, rfl⟩); (case hk => decide +kernel); (case hrun => intro w_; (go_simp <;> first | with_reducible rfl | exact ⟨rfl, rfl⟩)); simp only [Act.put, Lx.p1, Lx.p2, Lx.p3])
    intro g hg_ hfr
    (repeat (first | (rw [Lx.St.add_M] at hfr) | (replace hfr := Lx.St.fresh_upd hfr; have n_ := hfr.1; replace hfr := hfr.2))); clear hfr
    first
      | (apply Lx.ks HO 9 (g := g); (case hx => exact ⟨rfl, rfl, rfl⟩); (case hk => decide +kernel); (case hG => exact fun _ _ h_ _ => h_); (case hg => (repeat (first | exact Lx.ua _ _ _ | rw [Lx.un _ _ (by omega)] | rw [Lx.am]))); (case hrun => intro w_ hw_ hb_; have c0 : w_.cell? ⟨g, 0, none⟩ = some (.string ⟨#[]⟩) := Ly.cellAt hb_ 0 rfl; have d0 := Lib.frozen_of_heap hb_ 0; refine ⟨?_, ?_, ?_, ?_⟩; rotate_left; (next => (go_simp <;> first | with_reducible rfl | rfl)); (next => (repeat (first | (with_reducible exact Lx.OnlyAt.refl _ _) | (with_reducible refine Lx.OnlyAt.set ?_ _ _)))); (next => (first | with_reducible exact Lx.sets10 hb_ | with_reducible exact Lx.sets5 hb_ | with_reducible exact Lx.sets3 hb_ | with_reducible exact Lx.sets2 hb_ | with_reducible exact Lx.sets4 hb_ | (simp [World.setCell, Array.getElem?_modify, hb_] <;> rfl)))); simp only [Act.put, Lx.p1, Lx.p2, Lx.p3])
    refine Lx.kd HO (by kernel_rfl) (fun hiv2 => hZ _ _ (fun W3 hw2 => ?_))
    clear hZ Z HO O
    have hB3 := hw2.below
    have hG := hw2.holds g _ (by (repeat (first | exact Lx.ua _ _ _ | rw [Lx.un _ _ (by omega)] | rw [Lx.am])))
    rw [HS3.out] at hG
    have hE3 : W3.heap[w.heap.size]? = some (.cells #[.int .i64 x.at_, .int .u8 x.kind, .int .i64 x.worker, .int .i64 x.task, .int .i64 x.peer, .int .i64 x.ch, .int .i64 x.cs, .int .i64 x.pc, .int .i64 x.val, .int .i64 x.val2, .bool x.ok, .int .i64 x.code, .int .u64 x.set] 26 (0, 0)) := (hB3.block _ hl2).trans HE2.out
    have hg3 : g < W3.heap.size := (Array.getElem?_eq_some_iff.1 hG).1
    have hl3 : w.heap.size < W3.heap.size := (Array.getElem?_eq_some_iff.1 hE3).1
    have HB3 := Lib.hid hB3
    have HG := Lib.hid hG
    have HE3 := Lib.hid hE3
    clear hw2 hiv2 HIN hB3 hG hE3
    go_upto_region 6 with fail
    obtain ⟨W4, hW4⟩ : ∃ W4, W4 = W3.alloc (.cells #[.func (.func 40) #[] #[.pointer (some ⟨g, 0, none⟩)]] 64) := ⟨_, rfl⟩
    have hQ : W4.heap[W3.heap.size]? = some (.cells #[.func (.func 40) #[] #[.pointer (some ⟨g, 0, none⟩)]] 64 (0, 0)) := by rw [hW4]; exact World.alloc_heap_new W3 _
    have hb4 : Below W3.heap.size W3 W4 := by rw [hW4]; exact (Below.refl _ W3).alloc (Nat.le_refl _) _
    rw [← hW4]
    have hE4 : W4.heap[w.heap.size]? = some (.cells #[.int .i64 x.at_, .int .u8 x.kind, .int .i64 x.worker, .int .i64 x.task, .int .i64 x.peer, .int .i64 x.ch, .int .i64 x.cs, .int .i64 x.pc, .int .i64 x.val, .int .i64 x.val2, .bool x.ok, .int .i64 x.code, .int .u64 x.set] 26 (0, 0)) := (hb4.block _ hl3).trans HE3.out
    have hG4 := (hb4.block _ hg3).trans HG.out
    have hBB4 : Below w.heap.size w W4 := (HBB2.out.trans (HB3.out.mono (by omega))).trans (hb4.mono (by omega))
    have hll : (Lib.itoa x.at_ ++ 32 :: wordL x.kind).length ≤ 100 := by
      have := itoa_len (v := x.at_) (by have := HOK.out.at_; omega) HOK.out.at_.2
      have := wordL_len x.kind
      simp only [List.length_append, List.length_cons]
      omega
    have hst : LnS x w.heap.size g W3.heap.size (Lib.itoa x.at_ ++ 32 :: wordL x.kind) [] W4 := ⟨hE4, by rw [show lineB [] = [] from rfl, List.append_nil]; exact hG4, hQ, Tab10.keep HTAB.out hBB4, by rw [show lineB [] = [] from rfl, List.append_nil]; exact Nat.le_trans hll (Nat.le_add_right _ _)⟩
    have hhd : ∃ c t, Lib.itoa x.at_ ++ 32 :: wordL x.kind = c :: t ∧ c.toNat < 58 := by
      obtain ⟨c, t, e, _, h2⟩ := dec_head x.at_.toNat
      refine ⟨c, t ++ 32 :: wordL x.kind, ?_, h2⟩
      unfold Lib.itoa
      rw [if_neg (by have := HOK.out.at_; omega), e]
      rfl
    have htell := callsIn_wide.1 (tell_in 3 (Nat.le_refl _) x p HK.out (sinkLn x w.heap.size g W3.heap.size w2.heap.size _ hhd hg_) (ModLn.free g) HOK.out.set.1 hst (by have := HB3.out.size; have := hb4.size; omega) (evAll_okLn HOK.out HK.out))
    simp only [EntV.agg] at htell
    have HTELL := Lib.hid htell
    have HB4 := Lib.hid hBB4
    have d0 : W4.cell? ⟨w.heap.size, 0, none⟩ = some (.int .i64 x.at_) := Ly.cellAt hE4 0 rfl
    have d1 : W4.cell? ⟨w.heap.size, 1, none⟩ = some (.int .u8 x.kind) := Ly.cellAt hE4 1 rfl
    have d2 : W4.cell? ⟨w.heap.size, 2, none⟩ = some (.int .i64 x.worker) := Ly.cellAt hE4 2 rfl
    have d3 : W4.cell? ⟨w.heap.size, 3, none⟩ = some (.int .i64 x.task) := Ly.cellAt hE4 3 rfl
    have d4 : W4.cell? ⟨w.heap.size, 4, none⟩ = some (.int .i64 x.peer) := Ly.cellAt hE4 4 rfl
    have d5 : W4.cell? ⟨w.heap.size, 5, none⟩ = some (.int .i64 x.ch) := Ly.cellAt hE4 5 rfl
    have d6 : W4.cell? ⟨w.heap.size, 6, none⟩ = some (.int .i64 x.cs) := Ly.cellAt hE4 6 rfl
    have d7 : W4.cell? ⟨w.heap.size, 7, none⟩ = some (.int .i64 x.pc) := Ly.cellAt hE4 7 rfl
    have d8 : W4.cell? ⟨w.heap.size, 8, none⟩ = some (.int .i64 x.val) := Ly.cellAt hE4 8 rfl
    have d9 : W4.cell? ⟨w.heap.size, 9, none⟩ = some (.int .i64 x.val2) := Ly.cellAt hE4 9 rfl
    have d10 : W4.cell? ⟨w.heap.size, 10, none⟩ = some (.bool x.ok) := Ly.cellAt hE4 10 rfl
    have d11 : W4.cell? ⟨w.heap.size, 11, none⟩ = some (.int .i64 x.code) := Ly.cellAt hE4 11 rfl
    have d12 : W4.cell? ⟨w.heap.size, 12, none⟩ = some (.int .u64 x.set) := Ly.cellAt hE4 12 rfl
    have hl4 : w.heap.size < W4.heap.size := (Array.getElem?_eq_some_iff.1 hE4).1
    clear hW4 hQ hb4 hE4 hG4 hBB4 hll hst hhd htell hl3 hg3
    go_upto_region 7 with ((with_reducible refine HTELL.out.mono ?_); rintro e W5 ⟨rfl, hs5, hk5, hb5⟩; (have HS5 := Lib.hid hs5); (have HB5 := Lib.hid hb5); clear hs5 hk5 hb5)
    have e0 : W5.cell? ⟨g, 0, none⟩ = some (.string ⟨(Lib.itoa x.at_ ++ 32 :: wordL x.kind ++ lineB (evAll x p.2)).toArray⟩) := Ly.cellAt HS5.out.str 0 rfl
    have g5 : g < W5.heap.size := (Array.getElem?_eq_some_iff.1 HS5.out.str).1
    have hfin : lx = Lib.itoa x.at_ ++ 32 :: wordL x.kind ++ lineB (evAll x p.2) := by rw [HLX.out, lineX, HNX.out]
    rw [← hfin] at e0
    clear d0 d1 d2 d3 d4 d5 d6 d7 d8 d9 d10 d11 d12 hfin
    go_wp2
    refine bodyPost_ret (results_tmp2 rfl _ _ _) rfl ?_
    exact ⟨rfl, HB4.out.trans (HB5.out.mono (by omega))⟩
end Go.Proofs.YtljfloopjgpaeabDoor
