/- tollbarlaw24.TaskPasses: between two times that a case is taken it is passed over at most as often as its site has other cases. For every program, site, case, and sets; no condition. -/
import Derived.Test.YtljfloopjgpaeaaSM
import Derived.Test.YtljfloopjgpaeaaSN
import Derived.Test.YtljfloopjgpaeaaNM
import Derived.Test.YtljfloopjgpaeaaP
import Derived.Test.YtljfloopjgpaeaaNI
namespace Go.Proofs.Ytljfloopjgpaeaa
set_option linter.unusedVariables false
set_option linter.unusedSimpArgs false
open Go.RowKit Go.Shelf
attribute [local go_sem] Oper.semAt_some
set_option maxRecDepth 100000
def kSet : Kn Int := Kn.flat 1 (fun x => [.int .u64 x]) (fun _ => True)
theorem kSet_at {w : World} {A : Option Addr} {n c : Nat} {l : List Int} (h : kSet.R w (.slice A n c) l) {i : Nat} (hi : i < l.length) :
    ∃ b o, A = some ⟨b, o, none⟩ ∧ b < w.heap.size ∧ w.cell? ⟨b, o + i, none⟩ = some (.int .u64 l[i]) := by
  obtain ⟨b, o, cs, hA, hb, ⟨rfl, _⟩, hc⟩ := Kn.R.at1 rfl h hi
  exact ⟨b, o, hA, hb, hc _ rfl⟩
theorem PickR.det {a : Nat → Int} {m : Nat} {s c c' : Int} {is is' : Bool} (h : PickR a m s c is) (h' : PickR a m s c' is') : c' = c ∧ is' = is := by
  rcases h with ⟨rfl, j, h1, rfl, h3, h4⟩ | ⟨rfl, rfl, h1⟩ <;> rcases h' with ⟨rfl, j', g1, rfl, g3, g4⟩ | ⟨rfl, rfl, g1⟩
  · have : j = j' := by
      rcases Nat.lt_trichotomy j j' with h | h | h
      · rw [g4 j h] at h3; cases h3
      · exact h
      · rw [h4 j' h] at g3; cases g3
    subst this
    exact ⟨rfl, rfl⟩
  · rw [g1 j h1] at h3; cases h3
  · rw [h1 j' g1] at g3; cases g3
  · exact ⟨rfl, rfl⟩
theorem pick_ex (a : Nat → Int) (s : Int) : ∀ m, ∃ c is, PickR a m s c is := fun m => by
  have key : ∀ m, (∃ j, j < m ∧ hasB s (a j) = true ∧ ∀ i, i < j → hasB s (a i) = false) ∨ (∀ i, i < m → hasB s (a i) = false) := by
    intro m
    induction m with
    | zero => exact .inr fun i hi => absurd hi (Nat.not_lt_zero _)
    | succ m ih =>
      rcases ih with ⟨j, h1, h2, h3⟩ | h
      · exact .inl ⟨j, by omega, h2, h3⟩
      · cases hb : hasB s (a m)
        · refine .inr fun i hi => ?_
          by_cases e : i = m
          · subst e; exact hb
          · exact h i (by omega)
        · exact .inl ⟨m, by omega, hb, h⟩
  rcases key m with ⟨j, h1, h2, h3⟩ | h
  · exact ⟨a j, true, .inl ⟨rfl, j, h1, rfl, h2, h3⟩⟩
  · exact ⟨0, false, .inr ⟨rfl, rfl, h⟩⟩
/-- A table of one task. -/
structure Sng (T : Nat) (W : World) (x1 x2 x3 : Value) (A cap : Nat) (cur : Array Value) (X M b : Nat) (d : Nat → Option Value) (a : Nat → Int) (n : Nat) : Prop where
  tab : TabAt W T x1 x2 x3 (.slice (some ⟨A, 0, none⟩) 1 cap)
  row : W.heap[A]? = some (.cells cur 153 (0, 0))
  r0 : cur[0]? = some (ptrO X)
  k0 : OneAt W X 0 (.slice none 0 0) M
  m0 : MapAt W M d
  o0 : OrdB W b a n
section
variable {T : Nat} {W : World} {x1 x2 x3 : Value} {A cap : Nat} {cur : Array Value} {X M b : Nat} {d : Nat → Option Value} {a : Nat → Int} {n : Nat} (h : Sng T W x1 x2 x3 A cap cur X M b d a n)
include h
theorem Sng.below {W' : World} (hb : Below W.heap.size W W') : Sng T W' x1 x2 x3 A cap cur X M b d a n :=
  ⟨h.tab.keep hb h.tab.lt, (hb.block A (Array.getElem?_eq_some_iff.1 h.row).1).trans h.row, h.r0, h.k0.keep hb h.k0.lt, h.m0.keep hb h.m0.lt, h.o0.keep hb h.o0.lt⟩
theorem Sng.one0 : TabOne W T x1 x2 x3 A 1 cap 0 X 0 (.slice none 0 0) M d := ⟨h.tab, by omega, by omega, Ly.cellAt h.row 0 h.r0, h.k0, h.m0⟩
theorem Sng.took {W' : World} (ho : Only b W W') {a' : Nat → Int} (hn : OrdB W' b a' n) : Sng T W' x1 x2 x3 A cap cur X M b d a' n :=
  have ty : ∀ (cs : Array Value) (t : Nat) (z : Nat × Nat), t ≠ 179 → ∀ k, W.heap[k]? = some (Obj.cells cs t z) → W'.heap[k]? = some (Obj.cells cs t z) := fun cs t z ht k hk => ho.obj hk (obj_ne hk h.o0.here (fun e => by injection e with _ e2 _; exact ht e2))
  ⟨ty _ 152 _ (by decide) _ h.tab, ty _ 153 _ (by decide) _ h.row, h.r0, ty _ 158 _ (by decide) _ h.k0, mapOnly h.m0 ho h.o0.here (fun _ _ e => by cases e), hn⟩
theorem Sng.pick (hn : n ≤ 6) {s : Nat} (hs : s < 32) (hd : d s = some (.pointer (some ⟨b, 0, none⟩))) (r : Int) {c : Int} {is : Bool} (hp : PickR a n r c is) : Calls Try.prog 46 #[.pointer (some ⟨T, 0, none⟩), .int .i64 0, .int .i64 s, .int .u64 r] W fun e w' => e = .returned (.tuple #[.int .i64 c, .bool is]) ∧ Below W.heap.size W w' :=
  Calls.mono (tPick_at h.one0 hs hd h.o0 hn r) fun e w' ⟨⟨c', is', h1, h2⟩, h3⟩ => by
    obtain ⟨rfl, rfl⟩ := hp.det h1
    exact ⟨h2, h3⟩
theorem Sng.take (hn : n ≤ 6) {s : Nat} (hs : s < 32) (hd : d s = some (.pointer (some ⟨b, 0, none⟩))) {p : Nat → Nat} (hp : Perm a n p) {c : Nat} (hc : c < n) : Calls Try.prog 48 #[.pointer (some ⟨T, 0, none⟩), .int .i64 0, .int .i64 s, .int .i64 c] W fun e w' => e = .returned (.int .i64 0) ∧ OrdB w' b (tookF a n (p c) c) n ∧ Only b W w' :=
  tTook_at h.one0 hs hd h.o0 hn c (p c) (hp.lt c hc) (by
    have := hp.idx hn (hp.lt c hc)
    rwa [hp.eq c hc] at this)
end
theorem first_at {P : ProgV} (hs : saneP P = true) : atB P 0 0 = true := by
  obtain ⟨_, _, hc, _⟩ := sane_parts hs
  have h1 := (codes_len hc).1
  have h2 := (code_ok hc (List.getElem_mem (show 0 < P.codes.length by omega))).1.1
  exact atB_iff.2 ⟨by omega, by omega, _, List.getElem?_eq_getElem (show (0 : Int).toNat < P.codes.length by simp; omega), by simp; omega⟩
theorem add_zero {P : ProgV} {wp w : World} {x1 x2 x3 : Value} (hp : RProg wp x1 x2 x3 P) (hs : saneP P = true) (h12 : P.sites.length ≤ 12) (hcn : ∀ i, i < P.sites.length → 1 ≤ cn P i ∧ cn P i ≤ 6) (hb : Below wp.heap.size wp w) (hT : TabAt w wp.heap.size x1 x2 x3 (.slice none 0 0)) :
    Calls Try.prog 45 #[.pointer (some ⟨wp.heap.size, 0, none⟩), .agg #[.int .i64 0, .int .i64 0, .int .i64 0, .int .i64 0, .int .i64 0, .int .i64 0, .int .i64 0, .int .i64 0, .int .i64 0, .int .i64 0]] w fun e w' => e = .returned (.tuple #[.int .i64 0, .int .i64 0]) ∧ Below wp.heap.size wp w' ∧ KeepT w w' ∧ ∃ v' X M ob, TabAt w' wp.heap.size x1 x2 x3 v' ∧ w'.ownsRow wp.heap.size 153 1 v' 1 [.pointer (some ⟨X, 0, none⟩)] ∧ TaskB w' X 0 (.slice none 0 0) M ob (fun i => riseF (cn P i)) P P.sites.length w.heap.size :=
  tAdd_at hp (first_at hs) h12 hcn hb hT (xs := []) (World.ownsRow_nil _ _ _ _) (by simp)
theorem own_block1 {w : World} {B e : Nat} {v : Value} {x : Value} (h : w.ownsRow B e 1 v 1 [x]) : ∃ A cap cur, v = .slice (some ⟨A, 0, none⟩) 1 cap ∧ w.heap[A]? = some (.cells cur e (0, 0)) ∧ cur[0]? = some x := by
  rcases h.2 with ⟨_, q⟩ | ⟨g, cap, cur, rfl, _, hh, _, _, _, h4⟩
  · cases q
  · refine ⟨g, cap, cur, rfl, hh, ?_⟩
    have : (cur.toList.take 1)[0]? = some x := by rw [h4]; rfl
    rw [List.getElem?_take] at this
    simpa using this
theorem site_bounds {P : ProgV} (hs : saneP P = true) : P.sites.length ≤ 12 ∧ ∀ i, i < P.sites.length → 1 ≤ cn P i ∧ cn P i ≤ 6 := by
  obtain ⟨_, h2, _, _⟩ := sane_parts hs
  obtain ⟨h3, h4⟩ := (sitesW_iff P).1 h2
  refine ⟨h3, fun i hi => ?_⟩
  have := h4 _ (List.getElem_mem hi)
  rw [cn_at hi]
  simp only [siteB, Bool.and_eq_true, decide_eq_true_eq] at this
  omega
set_option maxHeartbeats 8000000 in
theorem taskPasses_any {c1 c2 c3 v : Value} {P : ProgV} {w : World} {l : List Int} (h : RProg w c1 c2 c3 P) (hr : kSet.R w v l) (site which : Int) (hsi : 0 ≤ site ∧ site ≤ 255) (hwi : 0 ≤ which ∧ which ≤ 255) :
    Calls Try.prog 12 #[.agg #[c1, c2, c3], .int .u8 site, .int .u8 which, v] w fun e w' => e = .returned (.bool true) ∧ Below w.heap.size w w' := by
  obtain ⟨A1, n1, rfl, _, _, hl1⟩ := h.caps.val
  obtain ⟨A2, n2, rfl, _, _, hl2⟩ := h.codes.val
  obtain ⟨A3, n3, rfl, _, _, hl3⟩ := h.sites.val
  obtain ⟨A4, n4, rfl, _, _, hl4⟩ := hr.val
  have HP := Lib.hid h
  have HL := Lib.hid hr
  clear h hr
  go_enter Try.func12, Try.ntmps12
  by_cases hlen : l.length ≤ 200
  · have d200 : decide ((l.length : Int) > 200) = false := by simp; omega
    go_upto_region 3 with (first | (go_at_call 22; (with_reducible refine (long_bounds (HP.out.keep (by (repeat (first | with_reducible exact Below.refl _ _ | (with_reducible refine Below.setCell ?_ (by first | (simp; done) | (simp; omega) | omega) _) | (with_reducible refine Below.alloc ?_ (by first | (simp; done) | (simp; omega) | omega) _) | (with_reducible refine Below.drew ?_)))))).mono ?_); rintro e w1 ⟨⟨b, rfl, hb⟩, hb1⟩; have q0 : w1.cell? ⟨w.heap.size, 0, none⟩ = some (.slice A1 P.caps.length n1) := Below.at hb1 (by simp) (by simp); have q1 : w1.cell? ⟨w.heap.size, 1, none⟩ = some (.slice A2 P.codes.length n2) := Below.at hb1 (by simp) (by simp); have q2 : w1.cell? ⟨w.heap.size, 2, none⟩ = some (.slice A3 P.sites.length n3) := Below.at hb1 (by simp) (by simp); have hlt1 : w.heap.size < w1.heap.size := (by have := hb1.size; simp at this; omega); have HB1 := Lib.hid (show Below w.heap.size w w1 by (have hszq := hb1.size; (try simp only [World.size_alloc] at hszq); (repeat (first | (with_reducible refine Below.setCell ?_ (by first | (simp; done) | (simp; omega) | omega) _) | (with_reducible refine Below.alloc ?_ (by first | (simp; done) | (simp; omega) | omega) _) | (with_reducible refine Below.drew ?_))); refine Below.trans ?_ (hb1.mono (by first | (simp; done) | (simp; omega) | omega)); (repeat (first | with_reducible exact Below.refl _ _ | (with_reducible refine Below.setCell ?_ (by first | (simp; done) | (simp; omega) | omega) _) | (with_reducible refine Below.alloc ?_ (by first | (simp; done) | (simp; omega) | omega) _) | (with_reducible refine Below.drew ?_))))); have HBX := Lib.hid ((hb1.block w.heap.size (by simp)).trans (World.alloc_heap_new w _)); have HLB := Lib.hid hb; clear hb1 hb; cases b) | (go_at_call 43; (with_reducible refine (alive24_any _).mono ?_); rintro e wz ⟨rfl, hbz⟩))
    rotate_left
    · go_ret
      exact ⟨rfl, HB1.out.trans (hbz.mono HB1.out.size)⟩
    have HLO := Lib.hid (HLB.out (by first | rfl | trivial))
    have HSM := Lib.hid (HLB.out (by first | rfl | trivial)).small
    clear HLB
    cases hs : saneP P with
    | false =>
      go_wp2_with (first | (go_at_call 44; (with_reducible refine (tNew_bad (HP.out.keep HB1.out) hs).mono ?_); rintro e w2 ⟨rfl, hb2⟩; have HB2 := Lib.hid (HB1.out.trans (hb2.mono HB1.out.size)); clear hb2) | (go_at_call 43; (with_reducible refine (alive24_any _).mono ?_); rintro e wz ⟨rfl, hbz⟩))
      go_ret
      exact ⟨rfl, HB2.out.trans (hbz.mono HB2.out.size)⟩
    | true =>
      go_upto_region 4 with (go_at_call 44; (with_reducible refine (tNew_ok (HP.out.keep HB1.out) hs HSM.out).mono ?_); rintro e w2 ⟨wp, x1, x2, x3, rfl, hbp, hp, hb2, hT⟩; have hbw : Below w1.heap.size w1 w2 := hbp.trans (hb2.mono hbp.size); replace HBX := Lib.hid ((hbw.block _ hlt1).trans HBX.out); replace q0 : w2.cell? ⟨w.heap.size, 0, none⟩ = some (.slice A1 P.caps.length n1) := Below.at hbw q0 hlt1; replace q1 : w2.cell? ⟨w.heap.size, 1, none⟩ = some (.slice A2 P.codes.length n2) := Below.at hbw q1 hlt1; replace q2 : w2.cell? ⟨w.heap.size, 2, none⟩ = some (.slice A3 P.sites.length n3) := Below.at hbw q2 hlt1; replace hlt1 : w.heap.size < w2.heap.size := Nat.lt_of_lt_of_le hlt1 hbw.size; have HWP := Lib.hid (HB1.out.trans (hbp.mono HB1.out.size)); have HB2 := Lib.hid hb2; have HPW := Lib.hid hp; have HT := Lib.hid hT; clear hbp hp hb2 hT hbw)
      have hwpz := Nat.le_trans HWP.out.size HB2.out.size
      by_cases hns : P.sites.length = 0
      · have d0 : decide ((P.sites.length : Int) = 0) = true := by simp [hns]
        have d1 : ((P.sites.length : Int) == 0) = true := by simp [hns]
        go_wp2_with (go_at_call 43; (with_reducible refine (alive24_any _).mono ?_); rintro e wz ⟨rfl, hbz⟩)
        go_ret
        exact ⟨rfl, (HWP.out.trans (HB2.out.mono HWP.out.size)).trans (hbz.mono hwpz)⟩
      · have d1 : ((P.sites.length : Int) == 0) = false := beq_eq_false_iff_ne.2 (by omega)
        have hsb := site_bounds hs
        have HSB := Lib.hid hsb
        have hws : IntKind.i64.wrap site = site := IntWalk.i64_in _ (by omega)
        have hww : IntKind.i64.wrap which = which := IntWalk.i64_in _ (by omega)
        go_upto_region 7 with (go_at_call 45; (with_reducible refine (add_zero HPW.out hs HSB.out.1 HSB.out.2 HB2.out HT.out).mono ?_); rintro e w3 ⟨rfl, hb3, hk3, v3, X, M, ob, hT3, ho3, hx3⟩; have HB3 := Lib.hid hb3; have HT3 := Lib.hid hT3; have HO3 := Lib.hid ho3; have HX3 := Lib.hid hx3; replace q2 : w3.cell? ⟨w.heap.size, 2, none⟩ = some (.slice A3 P.sites.length n3) := Ly.cellAt (hk3 _ _ HBX.out ⟨by decide, by decide⟩) 2 rfl; clear hb3 hk3 hT3 ho3 hx3)
        go_upto_region 8 with fail
        obtain ⟨sn, hsn⟩ : ∃ sn : Nat, site % (P.sites.length : Int) = (sn : Int) := ⟨(site % (P.sites.length : Int)).toNat, by rw [Int.toNat_of_nonneg (Int.emod_nonneg _ (by omega))]⟩
        have hslt : sn < P.sites.length := by
          have := Int.emod_lt_of_pos site (show (0 : Int) < (P.sites.length : Int) by omega)
          omega
        rw [hsn]
        obtain ⟨A, cap, cur, rfl, hA, hr0⟩ := own_block1 HO3.out
        obtain ⟨b5, o5, A5, n5, rfl, hb5, g0, _, _, _, _, hl5⟩ := kSite_at HP.out.sites hslt
        have hcn := HSB.out.2 sn hslt
        have hord := HX3.out.ord sn hslt
        rw [cn_at hslt] at hcn hord
        obtain ⟨n, hn⟩ : ∃ n, n = P.sites[sn].cases.length := ⟨_, rfl⟩
        rw [← hn] at g0 hcn hord
        have hW3 : Below w.heap.size w w3 := HWP.out.trans (HB3.out.mono HWP.out.size)
        have g0 := Below.at hW3 g0 hb5
        have hb5' := Nat.lt_of_lt_of_le hb5 hW3.size
        have hlt3 : w.heap.size < w3.heap.size := Nat.lt_of_lt_of_le hlt1 (by have := HX3.out.one.lt; have := HX3.out.ge.1; omega)
        obtain ⟨k, hk⟩ : ∃ k : Nat, which % (n : Int) = (k : Int) := ⟨(which % (n : Int)).toNat, by rw [Int.toNat_of_nonneg (Int.emod_nonneg _ (by omega))]⟩
        have hkn : k < n := by
          have := Int.emod_lt_of_pos which (show (0 : Int) < (n : Int) by omega)
          omega
        have hge := HX3.out.oge sn hslt
        have hdd : (fun i => if i < P.sites.length then some (.pointer (some ⟨ob i, 0, none⟩)) else none : Nat → Option Value) sn = some (.pointer (some ⟨ob sn, 0, none⟩)) := by simp [hslt]
        have hms := HX3.out.map
        generalize (fun i => if i < P.sites.length then some (.pointer (some ⟨ob i, 0, none⟩)) else none : Nat → Option Value) = d at hdd hms
        have HSG := Lib.hid (show Sng wp.heap.size w3 x1 x2 x3 A cap cur X M (ob sn) d (riseF n) n from ⟨HT3.out, hA, hr0, HX3.out.one, hms, hord⟩)
        have HW := Lib.hid hW3
        have hsz : w.heap.size ≤ ob sn := Nat.le_trans hwpz hge
        have HDD := Lib.hid hdd
        have s12 : sn < 12 := Nat.lt_of_lt_of_le hslt HSB.out.1
        have dn0 : ((n : Int) == 0) = false := beq_eq_false_iff_ne.2 (by omega)
        have e0 : (0 : Int) ≤ (sn : Int) := by omega
        have e1 : (sn : Int) < (P.sites.length : Int) := by omega
        clear hA hr0 hord hW3 hge hdd hms HX3 HT3 HO3 HB3 HT HB2 HWP HPW HBX q0 q1
        clear hn hl5
        go_upto_region 12 with fail
        rw [hk]
        clear hk hsn g0 q2
        go_upto_region 14 with fail
        go_loopw [16, 17] (fun pm iv wr => ∃ m i : Nat, i ≤ l.length ∧ pm = .int .i64 m ∧ iv = .int .i64 i ∧ ∃ a p, Perm a n p ∧ Pass p n k m ∧ Sng wp.heap.size wr x1 x2 x3 A cap cur X M (ob sn) d a n ∧ Below w.heap.size w wr) (fun _ iv _ => l.length - (intOf iv).toNat)
        case atStart => exact ⟨0, 0, Nat.zero_le _, rfl, rfl, _, _, Perm.rise n, by simp [Pass]; omega, HSG.out, HW.out⟩
        case round =>
          obtain ⟨m, i, hi, rfl, rfl, a, p, hpe, hpa, hsg, hbl⟩ := hrel
          clear HSG HW
          have HSG := Lib.hid hsg
          have HW := Lib.hid hbl
          have HPE := Lib.hid hpe
          have HPA := Lib.hid hpa
          have hpn : m ≤ n - 1 := by unfold Pass at hpa; omega
          clear hsg hbl hpe hpa
          by_cases hlt : i < l.length
          · obtain ⟨b6, o6, rfl, hb6, g6⟩ := kSet_at HL.out hlt
            obtain ⟨x, hx⟩ : ∃ x, x = l[i] := ⟨_, rfl⟩
            rw [← hx] at g6
            have g6 := Below.at HW.out g6 hb6
            have hb6' := Nat.lt_of_lt_of_le hb6 HW.out.size
            clear hx
            have i0 : (0 : Int) ≤ (i : Int) := by omega
            have i1 : (i : Int) < (l.length : Int) := by omega
            have hwi : IntKind.i64.wrap ((i : Int) + 1) = (i : Int) + 1 := IntWalk.i64_in _ (by omega)
            obtain ⟨c, is, hpk⟩ := pick_ex a x n
            have HPK := Lib.hid hpk
            clear hpk
            cases is with
            | false =>
              have hnone := HPE.out.none HPK.out
              obtain rfl : c = 0 := by rcases HPK.out with ⟨h, _⟩ | ⟨_, h, _⟩; cases h; exact h
              have HNO := Lib.hid hnone
              clear hnone
              go_wp2_with (go_at_call 46; (with_reducible refine (HSG.out.pick hcn.2 (by omega) HDD.out x HPK.out).mono ?_); rintro e w5 ⟨rfl, hb5⟩; have g65 := Below.at hb5 g6 hb6'; have hb65 := Nat.lt_of_lt_of_le hb6' hb5.size; have HW5 := Lib.hid (HW.out.trans (hb5.mono HW.out.size)); have HS5 := Lib.hid (HSG.out.below hb5); clear hb5)
              clear g6 hb6'
              go_loopw [20] (fun jv wr2 => ∃ j : Nat, j ≤ n ∧ jv = .int .i64 j ∧ wr2 = w5) (fun jv _ => n - (intOf jv).toNat)
              case atStart => exact ⟨0, Nat.zero_le _, rfl, rfl⟩
              case round =>
                obtain ⟨j, hj, rfl, rfl⟩ := hrel
                have hwj : IntKind.i64.wrap ((j : Int) + 1) = (j : Int) + 1 := IntWalk.i64_in _ (by omega)
                by_cases hjn : j < n
                · have hno := HNO.out j hjn
                  have j1 : decide ((j : Int) < (n : Int)) = true := by simp; omega
                  go_wp2_with (go_at_call 47; (with_reducible refine (has_any _ _ _).mono ?_); rintro e w6 ⟨rfl, rfl⟩)
                  go_roundw
                  case rel => exact ⟨j + 1, hjn, by go_num, by first | rfl | trivial⟩
                  case measure => simp [intOf]; omega
                · obtain rfl : j = n := by omega
                  have j1 : decide ((j : Int) < (j : Int)) = false := by simp
                  go_wp2
                  go_roundw
                  case rel => exact ⟨m, i + 1, hlt, rfl, by go_num, a, p, HPE.out, HPA.out, HS5.out, HW5.out⟩
                  case measure => simp [intOf]; omega
            | true =>
              obtain ⟨cN, hcN, rfl, hcb, hcle⟩ := HPE.out.pick HPK.out
              have w1n : IntKind.i64.wrap ((n : Int) - 1) = (n : Int) - 1 := IntWalk.i64_in _ (by omega)
              have w1m : IntKind.i64.wrap ((m : Int) + 1) = (m : Int) + 1 := IntWalk.i64_in _ (by omega)
              have dm0 : decide ((0 : Int) > (n : Int) - 1) = false := by simp; omega
              have dm1 : decide ((m : Int) > (n : Int) - 1) = false := by simp; omega
              have HLE := Lib.hid hcle
              clear hcle
              by_cases hck : cN = k
              · subst hck
                have HNX := Lib.hid (Pass.self (p := p) (n := n) (j := p cN) (k := cN))
                go_wp2_with (first | (go_at_call 46; (with_reducible refine (HSG.out.pick hcn.2 (by omega) HDD.out x HPK.out).mono ?_); rintro e w5 ⟨rfl, hb5⟩; have g65 := Below.at hb5 g6 hb6'; have hb65 := Nat.lt_of_lt_of_le hb6' hb5.size; have HW5 := Lib.hid (HW.out.trans (hb5.mono HW.out.size)); have HS5 := Lib.hid (HSG.out.below hb5); clear hb5) | (go_at_call 47; (with_reducible refine (has_any _ _ _).mono ?_); rintro e w6 ⟨rfl, rfl⟩) | (go_at_call 48; (with_reducible refine (HS5.out.take hcn.2 (by omega) HDD.out HPE.out hcN).mono ?_); rintro e w7 ⟨rfl, ho7, hb7⟩; have g67 : w7.cell? ⟨b6, o6 + i, none⟩ = some (.int .u64 x) := Below.at (hb7.below hsz HW5.out.size) g65 hb6; have hb67 := Nat.lt_of_lt_of_le hb65 hb7.size; have HW7 := Lib.hid (HW5.out.trans (hb7.below hsz HW5.out.size)); have HS7 := Lib.hid (HS5.out.took hb7 ho7); clear hb7 ho7))
                go_roundw
                case rel => exact ⟨0, i + 1, hlt, rfl, by go_num, _, _, HPE.out.took (HPE.out.lt _ hcN) hcN rfl, HNX.out, HS7.out, HW7.out⟩
                case measure => simp [intOf]; omega
              · have dck : ((cN : Int) == (k : Int)) = false := beq_eq_false_iff_ne.2 (by omega)
                cases hkb : hasB x (k : Int) with
                | false =>
                  have HNX := Lib.hid (HPA.out.other (j := p cN) (c := cN) (fun e => hck e.symm))
                  go_wp2_with (first | (go_at_call 46; (with_reducible refine (HSG.out.pick hcn.2 (by omega) HDD.out x HPK.out).mono ?_); rintro e w5 ⟨rfl, hb5⟩; have g65 := Below.at hb5 g6 hb6'; have hb65 := Nat.lt_of_lt_of_le hb6' hb5.size; have HW5 := Lib.hid (HW.out.trans (hb5.mono HW.out.size)); have HS5 := Lib.hid (HSG.out.below hb5); clear hb5) | (go_at_call 47; (with_reducible refine (has_any _ _ _).mono ?_); rintro e w6 ⟨rfl, rfl⟩) | (go_at_call 48; (with_reducible refine (HS5.out.take hcn.2 (by omega) HDD.out HPE.out hcN).mono ?_); rintro e w7 ⟨rfl, ho7, hb7⟩; have g67 : w7.cell? ⟨b6, o6 + i, none⟩ = some (.int .u64 x) := Below.at (hb7.below hsz HW5.out.size) g65 hb6; have hb67 := Nat.lt_of_lt_of_le hb65 hb7.size; have HW7 := Lib.hid (HW5.out.trans (hb7.below hsz HW5.out.size)); have HS7 := Lib.hid (HS5.out.took hb7 ho7); clear hb7 ho7))
                  go_roundw
                  case rel => exact ⟨m, i + 1, hlt, rfl, by go_num, _, _, HPE.out.took (HPE.out.lt _ hcN) hcN rfl, HNX.out, HS7.out, HW7.out⟩
                  case measure => simp [intOf]; omega
                | true =>
                  have hnx := HPA.out.over (c := cN) (fun e => hck e.symm) (HLE.out k hkn hkb) (HPE.out.ne hcN hkn (fun e => hck e.symm))
                  have hmn : m + 1 ≤ n - 1 := by unfold Pass at hnx; omega
                  have dm2 : decide ((m : Int) + 1 > (n : Int) - 1) = false := by simp; omega
                  have HNX := Lib.hid hnx
                  clear hnx
                  go_wp2_with (first | (go_at_call 46; (with_reducible refine (HSG.out.pick hcn.2 (by omega) HDD.out x HPK.out).mono ?_); rintro e w5 ⟨rfl, hb5⟩; have g65 := Below.at hb5 g6 hb6'; have hb65 := Nat.lt_of_lt_of_le hb6' hb5.size; have HW5 := Lib.hid (HW.out.trans (hb5.mono HW.out.size)); have HS5 := Lib.hid (HSG.out.below hb5); clear hb5) | (go_at_call 47; (with_reducible refine (has_any _ _ _).mono ?_); rintro e w6 ⟨rfl, rfl⟩) | (go_at_call 48; (with_reducible refine (HS5.out.take hcn.2 (by omega) HDD.out HPE.out hcN).mono ?_); rintro e w7 ⟨rfl, ho7, hb7⟩; have g67 : w7.cell? ⟨b6, o6 + i, none⟩ = some (.int .u64 x) := Below.at (hb7.below hsz HW5.out.size) g65 hb6; have hb67 := Nat.lt_of_lt_of_le hb65 hb7.size; have HW7 := Lib.hid (HW5.out.trans (hb7.below hsz HW5.out.size)); have HS7 := Lib.hid (HS5.out.took hb7 ho7); clear hb7 ho7))
                  go_roundw
                  case rel => exact ⟨m + 1, i + 1, hlt, by go_num, by go_num, _, _, HPE.out.took (HPE.out.lt _ hcN) hcN rfl, HNX.out, HS7.out, HW7.out⟩
                  case measure => simp [intOf]; omega
          · obtain rfl : i = l.length := by omega
            have i1 : decide ((l.length : Int) < (l.length : Int)) = false := by simp
            go_wp2_with (go_at_call 43; (with_reducible refine (alive24_any _).mono ?_); rintro e wz ⟨rfl, hbz⟩)
            go_ret
            exact ⟨rfl, HW.out.trans (hbz.mono HW.out.size)⟩
  · have d200 : decide ((l.length : Int) > 200) = true := by simp; omega
    go_wp2_with (first | (go_at_call 22; (with_reducible refine (long_bounds (HP.out.keep (by (repeat (first | with_reducible exact Below.refl _ _ | (with_reducible refine Below.setCell ?_ (by first | (simp; done) | (simp; omega) | omega) _) | (with_reducible refine Below.alloc ?_ (by first | (simp; done) | (simp; omega) | omega) _) | (with_reducible refine Below.drew ?_)))))).mono ?_); rintro e w1 ⟨⟨b, rfl, hb⟩, hb1⟩; have HB1 := Lib.hid (show Below w.heap.size w w1 by (have hszq := hb1.size; (try simp only [World.size_alloc] at hszq); (repeat (first | (with_reducible refine Below.setCell ?_ (by first | (simp; done) | (simp; omega) | omega) _) | (with_reducible refine Below.alloc ?_ (by first | (simp; done) | (simp; omega) | omega) _) | (with_reducible refine Below.drew ?_))); refine Below.trans ?_ (hb1.mono (by first | (simp; done) | (simp; omega) | omega)); (repeat (first | with_reducible exact Below.refl _ _ | (with_reducible refine Below.setCell ?_ (by first | (simp; done) | (simp; omega) | omega) _) | (with_reducible refine Below.alloc ?_ (by first | (simp; done) | (simp; omega) | omega) _) | (with_reducible refine Below.drew ?_))))); clear hb1 hb; cases b) | (go_at_call 43; (with_reducible refine (alive24_any _).mono ?_); rintro e wz ⟨rfl, hbz⟩))
    all_goals go_ret
    all_goals exact ⟨rfl, HB1.out.trans (hbz.mono HB1.out.size)⟩
end Go.Proofs.Ytljfloopjgpaeaa
