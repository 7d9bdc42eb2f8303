/- entry's reader: num, wide, flag. -/
import Derived.Test.YtljfloopjgpaeabDoorVI
namespace Go.Proofs.YtljfloopjgpaeabDoor
set_option linter.unusedVariables false
set_option linter.unusedSimpArgs false
open Go.RowKit Go.Shelf
attribute [local go_sem] Oper.semAt_some
set_option maxRecDepth 100000
/-- Nothing but block p is changed. -/
structure OnlyP (p : Nat) (w w' : World) : Prop where
  os : w'.os = w.os
  tape : w'.tape = w.tape
  output : w'.output = w.output
  size : w.heap.size ≤ w'.heap.size
  block : ∀ k, k < w.heap.size → k ≠ p → w'.heap[k]? = w.heap[k]?
theorem OnlyP.refl (p : Nat) (w : World) : OnlyP p w w := ⟨rfl, rfl, rfl, Nat.le_refl _, fun _ _ _ => rfl⟩
theorem OnlyP.trans {p : Nat} {a b c : World} (h : OnlyP p a b) (k : OnlyP p b c) : OnlyP p a c := ⟨k.os.trans h.os, k.tape.trans h.tape, k.output.trans h.output, Nat.le_trans h.size k.size, fun i hi hne => (k.block i (Nat.lt_of_lt_of_le hi h.size) hne).trans (h.block i hi hne)⟩
theorem OnlyP.of_below {p : Nat} {w w' : World} (h : Below w.heap.size w w') : OnlyP p w w' := ⟨h.os, h.tape, h.output, h.size, fun k hk _ => h.block k hk⟩
theorem OnlyP.set {p : Nat} {a w : World} (h : OnlyP p a w) (i : Nat) (v : Value) : OnlyP p a (w.setCell ⟨p, i, none⟩ v) := ⟨h.os, h.tape, h.output, by simp; exact h.size, fun k hk hne => (Below.heap_setCell _ _ _ _ hne).trans (h.block k hk hne)⟩
theorem OnlyP.below {p B : Nat} {w w' : World} (h : OnlyP p w w') (hp : B ≤ p) (hB : B ≤ w.heap.size) : Below B w w' := ⟨h.os, h.tape, h.output, h.size, fun k hk => h.block k (Nat.lt_of_lt_of_le hk hB) (by omega)⟩
/-- The reader's block. -/
def RdAt (p : Nat) (r : Rd) (w : World) : Prop := w.heap[p]? = some (.cells #[.string ⟨r.l.toArray⟩, .bool r.bad] 89 (0, 0))
theorem RdAt.keep {p : Nat} {r : Rd} {w w' : World} (h : RdAt p r w) (hb : Below w.heap.size w w') : RdAt p r w' := (hb.block _ (Array.getElem?_eq_some_iff.1 h).1).trans h
theorem setC1 {w : World} {p : Nat} {a b v : Value} {T : Nat} {z : Nat × Nat} (h : w.heap[p]? = some (.cells #[a, b] T z)) : (w.setCell ⟨p, 1, none⟩ v).heap[p]? = some (.cells #[a, v] T z) := by
  simp [World.setCell, Array.getElem?_modify, h]
theorem setC0 {w : World} {p : Nat} {a b v : Value} {T : Nat} {z : Nat × Nat} (h : w.heap[p]? = some (.cells #[a, b] T z)) : (w.setCell ⟨p, 0, none⟩ v).heap[p]? = some (.cells #[v, b] T z) := by
  simp [World.setCell, Array.getElem?_modify, h]
theorem getG_err : ∀ (l : List UInt8) (k v : Nat) {e : Int}, getG k v l = .error e → e = 6 ∨ e = 7
  | [], k, v, e, h => by
    rw [getG] at h
    cases h
    exact .inl rfl
  | b :: t, k, v, e, h => by
    rw [getG] at h
    split at h
    · cases h
      exact .inl rfl
    split at h
    · cases h
      exact .inr rfl
    split at h
    · exact getG_err t _ _ h
    split at h
    · cases h
      exact .inr rfl
    · cases h
theorem Below.at_block {w w' : World} {p : Nat} {o : Obj} (h : Below w.heap.size w w') (hp : w.heap[p]? = some o) (hlt : p < w.heap.size) : w'.heap[p]? = some o := (h.block p hlt).trans hp
set_option maxHeartbeats 2000000 in
theorem rdNum_any {p : Nat} {r : Rd} {w : World} (h : RdAt p r w) (hl : r.l.length ≤ 1000000000) (most : Nat) :
    Calls Tryd.prog 103 #[.pointer (some ⟨p, 0, none⟩), .int .u64 most] w fun e w' => e = .returned (.int .u64 (r.num most).1) ∧ RdAt p (r.num most).2 w' ∧ OnlyP p w w' := by
  obtain ⟨l, bad⟩ := r
  have hw : w.heap[p]? = some (.cells #[.string ⟨l.toArray⟩, .bool bad] 89 (0, 0)) := h
  have HP := Lib.hid (Array.getElem?_eq_some_iff.1 hw).1
  have c0 : w.cell? ⟨p, 0, none⟩ = some (.string ⟨l.toArray⟩) := Ly.cellAt hw 0 rfl
  have c1 : w.cell? ⟨p, 1, none⟩ = some (.bool bad) := Ly.cellAt hw 1 rfl
  have HC0 := Lib.hid c0
  have HC1 := Lib.hid c1
  have HW := Lib.hid hw
  have hget : ∀ W, Calls Tryd.prog 137 #[.string ⟨l.toArray⟩] W fun e w' => e = .returned (getV l) ∧ Below W.heap.size W w' := fun W => get_any ⟨l.toArray⟩ (by show l.toArray.size ≤ _; simp; simp at hl; omega) W
  clear h hl c1 hw
  cases hg : getG 0 0 l with
  | error e =>
    have he := getG_err l 0 0 hg
    have hv : getV l = .tuple #[.int .u64 0, .string ⟨#[]⟩, .int .i64 e] := by unfold getV; rw [hg]
    have hr : Rd.num ⟨l, bad⟩ most = (0, ⟨l, true⟩) := by unfold Rd.num; rw [hg]
    rw [hr]
    rw [hv] at hget
    have HGET := Lib.hid hget
    have he0 : (e != 0) = true := by rcases he with rfl | rfl <;> rfl
    have hlt := HP.out
    clear hget hv hr hg he
    cases bad
    · go_enter Tryd.func103, Tryd.ntmps103
      go_wp2_with ((first | ((with_reducible refine (HGET.out _).mono ?_); rintro e w1 ⟨rfl, hb1⟩; (have g0 := Below.at hb1 HC0.out HP.out); (have g1 := Below.at hb1 HC1.out HP.out); (have q1 := Below.at_block hb1 HW.out HP.out); (have f0 := Lib.frozen_of_heap q1 0); (have f1 := Lib.frozen_of_heap q1 1); (have hp1 := Nat.lt_of_lt_of_le HP.out hb1.size); (have HB1 := Lib.hid hb1); (have Q1 := Lib.hid q1); clear hb1 q1)))
      go_ret
      exact ⟨rfl, setC1 Q1.out, (OnlyP.of_below HB1.out).set 1 _⟩
    · go_enter Tryd.func103, Tryd.ntmps103
      go_wp2_with ((first | ((with_reducible refine (HGET.out _).mono ?_); rintro e w1 ⟨rfl, hb1⟩; (have g0 := Below.at hb1 HC0.out HP.out); (have g1 := Below.at hb1 HC1.out HP.out); (have q1 := Below.at_block hb1 HW.out HP.out); (have f0 := Lib.frozen_of_heap q1 0); (have f1 := Lib.frozen_of_heap q1 1); (have hp1 := Nat.lt_of_lt_of_le HP.out hb1.size); (have HB1 := Lib.hid hb1); (have Q1 := Lib.hid q1); clear hb1 q1)))
      go_ret
      exact ⟨rfl, setC1 Q1.out, (OnlyP.of_below HB1.out).set 1 _⟩
  | ok q =>
    obtain ⟨v, t⟩ := q
    have hv : getV l = .tuple #[.int .u64 v, .string ⟨t.toArray⟩, .int .i64 0] := by unfold getV; rw [hg]
    rw [hv] at hget
    have HGET := Lib.hid hget
    have hlt := HP.out
    clear hget hv
    cases bad
    · by_cases hm : v > most
      · have hr : Rd.num ⟨l, false⟩ most = (0, ⟨l, true⟩) := by unfold Rd.num; rw [hg]; exact if_pos (.inr hm)
        have d1 : decide (most < v) = true := decide_eq_true hm
        rw [hr]
        clear hr hg hm
        go_enter Tryd.func103, Tryd.ntmps103
        go_wp2_with ((first | ((with_reducible refine (HGET.out _).mono ?_); rintro e w1 ⟨rfl, hb1⟩; (have g0 := Below.at hb1 HC0.out HP.out); (have g1 := Below.at hb1 HC1.out HP.out); (have q1 := Below.at_block hb1 HW.out HP.out); (have f0 := Lib.frozen_of_heap q1 0); (have f1 := Lib.frozen_of_heap q1 1); (have hp1 := Nat.lt_of_lt_of_le HP.out hb1.size); (have HB1 := Lib.hid hb1); (have Q1 := Lib.hid q1); clear hb1 q1)))
        go_ret
        exact ⟨rfl, setC1 Q1.out, (OnlyP.of_below HB1.out).set 1 _⟩
      · have hr : Rd.num ⟨l, false⟩ most = (v, ⟨t, false⟩) := by unfold Rd.num; rw [hg]; exact if_neg (by rintro (h | h); exact Bool.noConfusion h; exact hm h)
        have d1 : decide (most < v) = false := decide_eq_false hm
        rw [hr]
        clear hr hg hm
        go_enter Tryd.func103, Tryd.ntmps103
        go_wp2_with ((first | ((with_reducible refine (HGET.out _).mono ?_); rintro e w1 ⟨rfl, hb1⟩; (have g0 := Below.at hb1 HC0.out HP.out); (have g1 := Below.at hb1 HC1.out HP.out); (have q1 := Below.at_block hb1 HW.out HP.out); (have f0 := Lib.frozen_of_heap q1 0); (have f1 := Lib.frozen_of_heap q1 1); (have hp1 := Nat.lt_of_lt_of_le HP.out hb1.size); (have HB1 := Lib.hid hb1); (have Q1 := Lib.hid q1); clear hb1 q1)))
        go_ret
        exact ⟨rfl, setC0 (setC1 Q1.out), ((OnlyP.of_below HB1.out).set 1 _).set 0 _⟩
    · have hr : Rd.num ⟨l, true⟩ most = (0, ⟨l, true⟩) := by unfold Rd.num; rw [hg]; exact if_pos (.inl rfl)
      rw [hr]
      clear hr hg
      go_enter Tryd.func103, Tryd.ntmps103
      go_wp2_with ((first | ((with_reducible refine (HGET.out _).mono ?_); rintro e w1 ⟨rfl, hb1⟩; (have g0 := Below.at hb1 HC0.out HP.out); (have g1 := Below.at hb1 HC1.out HP.out); (have q1 := Below.at_block hb1 HW.out HP.out); (have f0 := Lib.frozen_of_heap q1 0); (have f1 := Lib.frozen_of_heap q1 1); (have hp1 := Nat.lt_of_lt_of_le HP.out hb1.size); (have HB1 := Lib.hid hb1); (have Q1 := Lib.hid q1); clear hb1 q1)))
      go_ret
      exact ⟨rfl, setC1 Q1.out, (OnlyP.of_below HB1.out).set 1 _⟩
set_option maxHeartbeats 2000000 in
theorem rdWide_any {p : Nat} {r : Rd} {w : World} (h : RdAt p r w) (hl : r.l.length ≤ 1000000000) :
    Calls Tryd.prog 104 #[.pointer (some ⟨p, 0, none⟩)] w fun e w' => e = .returned (.int .i64 r.wide.1) ∧ RdAt p r.wide.2 w' ∧ OnlyP p w w' := by
  obtain ⟨l, bad⟩ := r
  have hw : w.heap[p]? = some (.cells #[.string ⟨l.toArray⟩, .bool bad] 89 (0, 0)) := h
  have HP := Lib.hid (Array.getElem?_eq_some_iff.1 hw).1
  have c0 : w.cell? ⟨p, 0, none⟩ = some (.string ⟨l.toArray⟩) := Ly.cellAt hw 0 rfl
  have c1 : w.cell? ⟨p, 1, none⟩ = some (.bool bad) := Ly.cellAt hw 1 rfl
  have HC0 := Lib.hid c0
  have HC1 := Lib.hid c1
  have HW := Lib.hid hw
  have hget := fun W => getInt_any ⟨l.toArray⟩ (by show l.toArray.size ≤ _; simp; simp at hl; omega) W
  have hdl : (⟨l.toArray⟩ : ByteArray).data.toList = l := rfl
  rw [hdl] at hget
  clear h hl c1 hw hdl
  cases hg : getG 0 0 l with
  | error e =>
    have he := getG_err l 0 0 hg
    have hr : Rd.wide ⟨l, bad⟩ = (0, ⟨l, true⟩) := by unfold Rd.wide; rw [hg]
    rw [hr]
    rw [hg] at hget
    have HGET := Lib.hid hget
    have he0 : (e != 0) = true := by rcases he with rfl | rfl <;> rfl
    have hlt := HP.out
    clear hget hr hg he
    cases bad
    · go_enter Tryd.func104, Tryd.ntmps104
      go_wp2_with ((first | ((with_reducible refine (HGET.out _).mono ?_); rintro e w1 ⟨rfl, hb1⟩; (have g0 := Below.at hb1 HC0.out HP.out); (have g1 := Below.at hb1 HC1.out HP.out); (have q1 := Below.at_block hb1 HW.out HP.out); (have f0 := Lib.frozen_of_heap q1 0); (have f1 := Lib.frozen_of_heap q1 1); (have hp1 := Nat.lt_of_lt_of_le HP.out hb1.size); (have HB1 := Lib.hid hb1); (have Q1 := Lib.hid q1); clear hb1 q1)))
      go_ret
      exact ⟨rfl, setC1 Q1.out, (OnlyP.of_below HB1.out).set 1 _⟩
    · go_enter Tryd.func104, Tryd.ntmps104
      go_wp2_with ((first | ((with_reducible refine (HGET.out _).mono ?_); rintro e w1 ⟨rfl, hb1⟩; (have g0 := Below.at hb1 HC0.out HP.out); (have g1 := Below.at hb1 HC1.out HP.out); (have q1 := Below.at_block hb1 HW.out HP.out); (have f0 := Lib.frozen_of_heap q1 0); (have f1 := Lib.frozen_of_heap q1 1); (have hp1 := Nat.lt_of_lt_of_le HP.out hb1.size); (have HB1 := Lib.hid hb1); (have Q1 := Lib.hid q1); clear hb1 q1)))
      go_ret
      exact ⟨rfl, setC1 Q1.out, (OnlyP.of_below HB1.out).set 1 _⟩
  | ok q =>
    obtain ⟨v, t⟩ := q
    rw [hg] at hget
    have HGET := Lib.hid hget
    have hlt := HP.out
    clear hget
    cases bad
    · have hr : Rd.wide ⟨l, false⟩ = (zag v, ⟨t, false⟩) := by unfold Rd.wide; rw [hg]; rfl
      rw [hr]
      clear hr hg
      go_enter Tryd.func104, Tryd.ntmps104
      go_wp2_with ((first | ((with_reducible refine (HGET.out _).mono ?_); rintro e w1 ⟨rfl, hb1⟩; (have g0 := Below.at hb1 HC0.out HP.out); (have g1 := Below.at hb1 HC1.out HP.out); (have q1 := Below.at_block hb1 HW.out HP.out); (have f0 := Lib.frozen_of_heap q1 0); (have f1 := Lib.frozen_of_heap q1 1); (have hp1 := Nat.lt_of_lt_of_le HP.out hb1.size); (have HB1 := Lib.hid hb1); (have Q1 := Lib.hid q1); clear hb1 q1)))
      go_ret
      exact ⟨rfl, setC0 (setC1 Q1.out), ((OnlyP.of_below HB1.out).set 1 _).set 0 _⟩
    · have hr : Rd.wide ⟨l, true⟩ = (0, ⟨l, true⟩) := by unfold Rd.wide; rw [hg]; rfl
      rw [hr]
      clear hr hg
      go_enter Tryd.func104, Tryd.ntmps104
      go_wp2_with ((first | ((with_reducible refine (HGET.out _).mono ?_); rintro e w1 ⟨rfl, hb1⟩; (have g0 := Below.at hb1 HC0.out HP.out); (have g1 := Below.at hb1 HC1.out HP.out); (have q1 := Below.at_block hb1 HW.out HP.out); (have f0 := Lib.frozen_of_heap q1 0); (have f1 := Lib.frozen_of_heap q1 1); (have hp1 := Nat.lt_of_lt_of_le HP.out hb1.size); (have HB1 := Lib.hid hb1); (have Q1 := Lib.hid q1); clear hb1 q1)))
      go_ret
      exact ⟨rfl, setC1 Q1.out, (OnlyP.of_below HB1.out).set 1 _⟩
theorem Rd.num_len (r : Rd) (most : Nat) : (r.num most).2.l.length ≤ r.l.length := by
  obtain ⟨⟨v, r'⟩, h⟩ : ∃ q, q = r.num most := ⟨_, rfl⟩
  rw [← h]
  by_cases hb : r'.bad = false
  · obtain ⟨_, h2, _⟩ := num_get2 h.symm hb
    show r'.l.length ≤ _
    rw [h2, List.length_append]
    omega
  · unfold Rd.num at h
    split at h
    · cases h
      exact Nat.le_refl _
    · split at h
      · cases h
        exact Nat.le_refl _
      · cases h
        exact absurd rfl hb
theorem Rd.wide_len (r : Rd) : r.wide.2.l.length ≤ r.l.length := by
  obtain ⟨⟨v, r'⟩, h⟩ : ∃ q, q = r.wide := ⟨_, rfl⟩
  rw [← h]
  by_cases hb : r'.bad = false
  · obtain ⟨_, h2, _⟩ := wide_get2 h.symm hb
    show r'.l.length ≤ _
    rw [h2, List.length_append]
    omega
  · unfold Rd.wide at h
    split at h
    · cases h
      exact Nat.le_refl _
    · split at h
      · cases h
        exact Nat.le_refl _
      · cases h
        exact absurd rfl hb
set_option maxHeartbeats 2000000 in
theorem rdFlag_any {p : Nat} {r : Rd} {w : World} (h : RdAt p r w) (hl : r.l.length ≤ 1000000000) :
    Calls Tryd.prog 105 #[.pointer (some ⟨p, 0, none⟩)] w fun e w' => e = .returned (.bool r.flag.1) ∧ RdAt p r.flag.2 w' ∧ OnlyP p w w' := by
  have HP := Lib.hid (Array.getElem?_eq_some_iff.1 h).1
  have hn : Calls Tryd.prog 103 #[.pointer (some ⟨p, 0, none⟩), .int .u64 1000] w fun e w' => e = .returned (.int .u64 (r.num 1000).1) ∧ RdAt p (r.num 1000).2 w' ∧ OnlyP p w w' := rdNum_any h hl 1000
  unfold Rd.flag
  obtain ⟨⟨v, r'⟩, hv⟩ : ∃ q, q = r.num 1000 := ⟨_, rfl⟩
  rw [← hv] at hn ⊢
  have HN := Lib.hid hn
  clear hn hv
  obtain ⟨l, bad⟩ := r'
  have hlt := HP.out
  by_cases h1 : v > 1
  · have d1 : decide ((v : Int) > 1) = true := decide_eq_true (by omega)
    have d2 : ((v : Int) == 1) = false := by rw [beq_eq_false_iff_ne]; omega
    have d3 : decide (v > 1) = true := decide_eq_true h1
    have d4 : (v == 1) = false := by rw [beq_eq_false_iff_ne]; omega
    simp only [d3, d4, Bool.or_true]
    clear h1 d3 d4
    cases bad
    · go_enter Tryd.func105, Tryd.ntmps105
      go_wp2_with ((first | ((with_reducible refine HN.out.mono ?_); rintro e w1 ⟨rfl, hq1, ho1⟩; (have g0 := Ly.cellAt hq1 0 rfl); (have g1 := Ly.cellAt hq1 1 rfl); (have f0 := Lib.frozen_of_heap hq1 0); (have f1 := Lib.frozen_of_heap hq1 1); (have hp1 := Nat.lt_of_lt_of_le HP.out ho1.size); (have HO1 := Lib.hid ho1); (have Q1 := Lib.hid hq1); clear hq1 ho1)))
      go_ret
      exact ⟨rfl, setC1 Q1.out, HO1.out.set 1 _⟩
    · go_enter Tryd.func105, Tryd.ntmps105
      go_wp2_with ((first | ((with_reducible refine HN.out.mono ?_); rintro e w1 ⟨rfl, hq1, ho1⟩; (have g0 := Ly.cellAt hq1 0 rfl); (have g1 := Ly.cellAt hq1 1 rfl); (have f0 := Lib.frozen_of_heap hq1 0); (have f1 := Lib.frozen_of_heap hq1 1); (have hp1 := Nat.lt_of_lt_of_le HP.out ho1.size); (have HO1 := Lib.hid ho1); (have Q1 := Lib.hid hq1); clear hq1 ho1)))
      go_ret
      exact ⟨rfl, setC1 Q1.out, HO1.out.set 1 _⟩
  · have d1 : decide ((v : Int) > 1) = false := decide_eq_false (by omega)
    have d2 : ((v : Int) == 1) = (v == 1) := by
      by_cases h : v = 1
      · subst h; rfl
      · rw [beq_eq_false_iff_ne.2 h, beq_eq_false_iff_ne]
        omega
    have d3 : decide (v > 1) = false := decide_eq_false h1
    simp only [d3, Bool.or_false]
    clear h1 d3
    cases bad
    · go_enter Tryd.func105, Tryd.ntmps105
      go_wp2_with ((first | ((with_reducible refine HN.out.mono ?_); rintro e w1 ⟨rfl, hq1, ho1⟩; (have g0 := Ly.cellAt hq1 0 rfl); (have g1 := Ly.cellAt hq1 1 rfl); (have f0 := Lib.frozen_of_heap hq1 0); (have f1 := Lib.frozen_of_heap hq1 1); (have hp1 := Nat.lt_of_lt_of_le HP.out ho1.size); (have HO1 := Lib.hid ho1); (have Q1 := Lib.hid hq1); clear hq1 ho1)))
      go_ret
      exact ⟨rfl, setC1 Q1.out, HO1.out.set 1 _⟩
    · go_enter Tryd.func105, Tryd.ntmps105
      go_wp2_with ((first | ((with_reducible refine HN.out.mono ?_); rintro e w1 ⟨rfl, hq1, ho1⟩; (have g0 := Ly.cellAt hq1 0 rfl); (have g1 := Ly.cellAt hq1 1 rfl); (have f0 := Lib.frozen_of_heap hq1 0); (have f1 := Lib.frozen_of_heap hq1 1); (have hp1 := Nat.lt_of_lt_of_le HP.out ho1.size); (have HO1 := Lib.hid ho1); (have Q1 := Lib.hid hq1); clear hq1 ho1)))
      go_ret
      exact ⟨rfl, setC1 Q1.out, HO1.out.set 1 _⟩
end Go.Proofs.YtljfloopjgpaeabDoor
