/- tollbar/log: what is told of a log: List, Commits, Between, Of, Kind. -/
import Derived.LoopTactic
import Derived.Test.YtljfloopjgpaeabJB
namespace Go.Proofs.Ytljfloopjgpaeab
set_option linter.unusedVariables false
set_option linter.unusedSimpArgs false
open Go.RowKit Go.Shelf
attribute [local go_sem] Oper.semAt_some run_store_fn
set_option maxRecDepth 100000
theorem those_any {w : World} {p g : Nat} {env : Array Value} {v0 : Value} {l : List EntV} {m : EntV → Bool} (h : LogAt w p v0 l) (hs : l.length ≤ 100000) (eg : ∀ args w, (callFunc g args).run Try.prog w = .ok (.enter g args) w)
    (hm : ∀ x W, Below w.heap.size w W → Calls Try.prog g (#[x.agg] ++ env) W fun e W' => e = .returned (.bool (m x)) ∧ Below W.heap.size W W') :
    Calls Try.prog 33 #[.pointer (some ⟨p, 0, none⟩), .func (.func g) #[] env] w fun e w' => (∃ v, e = .returned v ∧ kEnt.R w' v (l.filter m)) ∧ Below w.heap.size w w' :=
  callsIn_wide.1 (those_in 3 (by omega) h hs eg hm)
theorem commit_any (k : Int) (w : World) : Calls Try.prog 14 #[.int .u8 k] w fun e w' => e = .returned (.bool (decide (1 ≤ k) && decide (k ≤ 11))) ∧ w = w' := by
  go_enter Try.func14, Try.ntmps14
  by_cases h1 : 1 ≤ k
  · have d1 : decide (k ≥ 1) = true := decide_eq_true h1
    rw [decide_eq_true h1, Bool.true_and]
    clear h1
    go_wp2
    go_ret
    exact ⟨rfl, rfl⟩
  · have d1 : decide (k ≥ 1) = false := decide_eq_false h1
    rw [decide_eq_false h1, Bool.false_and]
    clear h1
    go_wp2
    go_ret
    exact ⟨rfl, rfl⟩
theorem list1_any (x : EntV) (w : World) : Calls Try.prog 34 #[x.agg] w fun e w' => e = .returned (.bool true) ∧ Below w.heap.size w w' := by
  simp only [EntV.agg]
  go_enter Try.func34, Try.ntmps34
  go_wp2
  go_ret
  exact ⟨rfl, by (repeat (first | with_reducible exact Below.refl _ _ | (with_reducible refine Below.setCell ?_ (by first | (simp; done) | (simp; omega) | omega) _) | (with_reducible refine Below.alloc ?_ (by first | (simp; done) | (simp; omega) | omega) _) | (with_reducible refine Below.drew ?_)))⟩
theorem commits1_any (x : EntV) (w : World) : Calls Try.prog 35 #[x.agg] w fun e w' => e = .returned (.bool (Lg.comB x)) ∧ Below w.heap.size w w' := by
  simp only [EntV.agg, Lg.comB]
  go_enter Try.func35, Try.ntmps35
  go_wp2_with ((with_reducible refine (commit_any _ _).mono ?_); rintro e w' ⟨rfl, rfl⟩)
  go_ret
  exact ⟨rfl, by (repeat (first | with_reducible exact Below.refl _ _ | (with_reducible refine Below.setCell ?_ (by first | (simp; done) | (simp; omega) | omega) _) | (with_reducible refine Below.alloc ?_ (by first | (simp; done) | (simp; omega) | omega) _) | (with_reducible refine Below.drew ?_)))⟩
theorem between1_any (x : EntV) {a b : Int} {A B : Nat} (w : World) (ha : w.cell? ⟨A, 0, none⟩ = some (.int .i64 a)) (hA : A < w.heap.size) (hb : w.cell? ⟨B, 0, none⟩ = some (.int .i64 b)) (hB : B < w.heap.size) :
    Calls Try.prog 41 #[x.agg, .pointer (some ⟨A, 0, none⟩), .pointer (some ⟨B, 0, none⟩)] w fun e w' => e = .returned (.bool (Lg.btwB a b x)) ∧ Below w.heap.size w w' := by
  simp only [EntV.agg, Lg.btwB]
  go_enter Try.func41, Try.ntmps41
  by_cases h1 : x.at_ ≥ a
  · have d1 : decide (x.at_ ≥ a) = true := decide_eq_true h1
    rw [d1, Bool.true_and]
    clear h1
    go_wp2
    go_ret
    exact ⟨rfl, by (repeat (first | with_reducible exact Below.refl _ _ | (with_reducible refine Below.setCell ?_ (by first | (simp; done) | (simp; omega) | omega) _) | (with_reducible refine Below.alloc ?_ (by first | (simp; done) | (simp; omega) | omega) _) | (with_reducible refine Below.drew ?_)))⟩
  · have d1 : decide (x.at_ ≥ a) = false := decide_eq_false h1
    rw [d1, Bool.false_and]
    clear h1
    go_wp2
    go_ret
    exact ⟨rfl, by (repeat (first | with_reducible exact Below.refl _ _ | (with_reducible refine Below.setCell ?_ (by first | (simp; done) | (simp; omega) | omega) _) | (with_reducible refine Below.alloc ?_ (by first | (simp; done) | (simp; omega) | omega) _) | (with_reducible refine Below.drew ?_)))⟩
theorem names_any (k : Int) (w : World) : Calls Try.prog 43 #[.int .u8 k] w fun e w' => e = .returned (.tuple #[.bool (Lg.n1 k), .bool (Lg.n2 k)]) ∧ w = w' := by
  go_enter Try.func43, Try.ntmps43
  by_cases h3 : k = 3
  · subst h3; go_wp2; (refine bodyPost_ret (results_tmp2 rfl _ _ _) rfl ?_); exact ⟨rfl, rfl⟩
  by_cases h4 : k = 4
  · subst h4; go_wp2; (refine bodyPost_ret (results_tmp2 rfl _ _ _) rfl ?_); exact ⟨rfl, rfl⟩
  by_cases h6 : k = 6
  · subst h6; go_wp2; (refine bodyPost_ret (results_tmp2 rfl _ _ _) rfl ?_); exact ⟨rfl, rfl⟩
  by_cases h9 : k = 9
  · subst h9; go_wp2; (refine bodyPost_ret (results_tmp2 rfl _ _ _) rfl ?_); exact ⟨rfl, rfl⟩
  by_cases h11 : k = 11
  · subst h11; go_wp2; (refine bodyPost_ret (results_tmp2 rfl _ _ _) rfl ?_); exact ⟨rfl, rfl⟩
  by_cases h26 : k = 26
  · subst h26; go_wp2; (refine bodyPost_ret (results_tmp2 rfl _ _ _) rfl ?_); exact ⟨rfl, rfl⟩
  have e1 : Lg.n1 k = true := by simp [Lg.n1, h26]
  have e2 : Lg.n2 k = false := by simp [Lg.n2, h3, h4, h6, h9, h11]
  rw [e1, e2]
  have d3 : (k == 3) = false := by simp [h3]
  have d4 : (k == 4) = false := by simp [h4]
  have d6 : (k == 6) = false := by simp [h6]
  have d9 : (k == 9) = false := by simp [h9]
  have d11 : (k == 11) = false := by simp [h11]
  have d26 : (k == 26) = false := by simp [h26]
  clear e1 e2 h3 h4 h6 h9 h11 h26
  go_wp2
  refine bodyPost_ret (results_tmp2 rfl _ _ _) rfl ?_
  exact ⟨rfl, rfl⟩
theorem of1_any (x : EntV) {t : Int} {A : Nat} (w : World) (ha : w.cell? ⟨A, 0, none⟩ = some (.int .i64 t)) (hA : A < w.heap.size) :
    Calls Try.prog 42 #[x.agg, .pointer (some ⟨A, 0, none⟩)] w fun e w' => e = .returned (.bool (Lg.ofB t x)) ∧ Below w.heap.size w w' := by
  simp only [EntV.agg, Lg.ofB]
  go_enter Try.func42, Try.ntmps42
  have hn := names_any x.kind
  obtain ⟨b1, hb1⟩ : ∃ b, b = Lg.n1 x.kind := ⟨_, rfl⟩
  obtain ⟨b2, hb2⟩ : ∃ b, b = Lg.n2 x.kind := ⟨_, rfl⟩
  rw [← hb1, ← hb2] at hn ⊢
  have HN := Lib.hid hn
  clear hb1 hb2 hn
  obtain ⟨c1, hc1⟩ : ∃ c, c = (x.task == t) := ⟨_, rfl⟩
  rw [← hc1]
  have HC1 := Lib.hid hc1.symm
  clear hc1
  cases b1 <;> cases b2 <;> simp only [Bool.true_and, Bool.false_and, Bool.or_false, Bool.false_or]
  · go_wp2_with ((with_reducible refine (HN.out _).mono ?_); rintro e w' ⟨rfl, rfl⟩)
    go_ret
    exact ⟨rfl, by (repeat (first | with_reducible exact Below.refl _ _ | (with_reducible refine Below.setCell ?_ (by first | (simp; done) | (simp; omega) | omega) _) | (with_reducible refine Below.alloc ?_ (by first | (simp; done) | (simp; omega) | omega) _) | (with_reducible refine Below.drew ?_)))⟩
  · go_wp2_with ((with_reducible refine (HN.out _).mono ?_); rintro e w' ⟨rfl, rfl⟩)
    go_ret
    exact ⟨rfl, by (repeat (first | with_reducible exact Below.refl _ _ | (with_reducible refine Below.setCell ?_ (by first | (simp; done) | (simp; omega) | omega) _) | (with_reducible refine Below.alloc ?_ (by first | (simp; done) | (simp; omega) | omega) _) | (with_reducible refine Below.drew ?_)))⟩
  · have hc := HC1.out
    cases c1
    · go_wp2_with ((with_reducible refine (HN.out _).mono ?_); rintro e w' ⟨rfl, rfl⟩)
      go_ret
      exact ⟨rfl, by (repeat (first | with_reducible exact Below.refl _ _ | (with_reducible refine Below.setCell ?_ (by first | (simp; done) | (simp; omega) | omega) _) | (with_reducible refine Below.alloc ?_ (by first | (simp; done) | (simp; omega) | omega) _) | (with_reducible refine Below.drew ?_)))⟩
    · go_wp2_with ((with_reducible refine (HN.out _).mono ?_); rintro e w' ⟨rfl, rfl⟩)
      go_ret
      exact ⟨rfl, by (repeat (first | with_reducible exact Below.refl _ _ | (with_reducible refine Below.setCell ?_ (by first | (simp; done) | (simp; omega) | omega) _) | (with_reducible refine Below.alloc ?_ (by first | (simp; done) | (simp; omega) | omega) _) | (with_reducible refine Below.drew ?_)))⟩
  · have hc := HC1.out
    cases c1
    · go_wp2_with ((with_reducible refine (HN.out _).mono ?_); rintro e w' ⟨rfl, rfl⟩)
      go_ret
      exact ⟨rfl, by (repeat (first | with_reducible exact Below.refl _ _ | (with_reducible refine Below.setCell ?_ (by first | (simp; done) | (simp; omega) | omega) _) | (with_reducible refine Below.alloc ?_ (by first | (simp; done) | (simp; omega) | omega) _) | (with_reducible refine Below.drew ?_)))⟩
    · go_wp2_with ((with_reducible refine (HN.out _).mono ?_); rintro e w' ⟨rfl, rfl⟩)
      go_ret
      exact ⟨rfl, by (repeat (first | with_reducible exact Below.refl _ _ | (with_reducible refine Below.setCell ?_ (by first | (simp; done) | (simp; omega) | omega) _) | (with_reducible refine Below.alloc ?_ (by first | (simp; done) | (simp; omega) | omega) _) | (with_reducible refine Below.drew ?_)))⟩
def kByt : Kn Int := Kn.flat 1 (fun k => [.int .u8 k]) (fun _ => True)
theorem kByt_at {w : World} {A : Option Addr} {n c : Nat} {l : List Int} (h : kByt.R w (.slice A n c) l) {i : Nat} (hi : i < l.length) :
    ∃ b o, A = some ⟨b, o, none⟩ ∧ b < w.heap.size ∧ w.cell? ⟨b, o + i, none⟩ = some (.int .u8 l[i]) := by
  obtain ⟨b, o, cs, hA, hb, ⟨rfl, hp⟩, hc⟩ := Kn.R.at1 rfl h hi
  exact ⟨b, o, hA, hb, hc _ rfl⟩
def hasK (l : List Int) (s : Int) : Bool := l.any fun x => decide (x = s)
theorem hasK_iff {l : List Int} {s : Int} : hasK l s = true ↔ s ∈ l := by
  unfold hasK
  rw [List.any_eq_true]
  constructor
  · rintro ⟨x, hx, h⟩
    rw [← of_decide_eq_true h]; exact hx
  · exact fun h => ⟨s, h, decide_eq_true rfl⟩
def NotK (l : List Int) (s : Int) (k : Nat) : Prop := ∀ i (h : i < l.length), i < k → l[i] ≠ s
def IdxK (l : List Int) (s : Int) (e : Ending) : Prop := ∃ z : Int, e = .returned (.int .i64 z) ∧ decide (z ≥ 0) = hasK l s
set_option maxHeartbeats 2000000 in
theorem indexU8_any {w : World} {v : Value} {l : List Int} (h : kByt.R w v l) (s : Int) : Calls Try.prog 59 #[v, .int .u8 s] w fun e w' => IdxK l s e ∧ Below w.heap.size w w' := by
  obtain ⟨A, c, rfl, _, _, hl⟩ := h.val
  have HL := Lib.hid h
  clear h
  go_enter Try.func59, Try.ntmps59
  go_wp2
  go_loopw [8] (fun i wr => ∃ k : Nat, k ≤ l.length ∧ i = .int .i64 k ∧ NotK l s k ∧ Below w.heap.size w wr) (fun i _ => l.length - (intOf i).toNat)
  case atStart => exact ⟨0, Nat.zero_le _, rfl, fun i _ hi => absurd hi (Nat.not_lt_zero _), Below.refl _ _⟩
  case round =>
    obtain ⟨k, hk, rfl, hm, hb⟩ := hrel
    have HM := Lib.hid hm
    have HB := Lib.hid hb
    clear hm hb
    by_cases hlt : k < l.length
    · obtain ⟨b, o, rfl, hbl, g0⟩ := kByt_at HL.out hlt
      have g0 := Below.at HB.out g0 hbl
      have hbr := Nat.lt_of_lt_of_le hbl HB.out.size
      have e0 : (0 : Int) ≤ (k : Int) := by omega
      have e1 : (k : Int) < (l.length : Int) := by omega
      have hwr : IntKind.i64.wrap ((k : Int) + 1) = (k : Int) + 1 := IntWalk.i64_in _ (by omega)
      obtain ⟨x, hx⟩ : ∃ x, x = l[k] := ⟨_, rfl⟩
      rw [← hx] at g0
      by_cases c1 : s = x
      · have hin : s ∈ l := by rw [c1, hx]; exact List.getElem_mem hlt
        have HX := Lib.hid hin
        have d1 : (s == x) = true := by simp [c1]
        clear hx c1 hin
        go_wp2
        go_ret
        exact ⟨⟨_, rfl, by rw [hasK_iff.2 HX.out]; exact decide_eq_true e0⟩, by (have hszq := HB.out.size; (try simp only [World.size_alloc] at hszq); (repeat (first | (with_reducible refine Below.setCell ?_ (by first | (simp; done) | (simp; omega) | omega) _) | (with_reducible refine Below.alloc ?_ (by first | (simp; done) | (simp; omega) | omega) _) | (with_reducible refine Below.drew ?_))); refine Below.trans ?_ (HB.out.mono (by first | (simp; done) | (simp; omega) | omega)); (repeat (first | with_reducible exact Below.refl _ _ | (with_reducible refine Below.setCell ?_ (by first | (simp; done) | (simp; omega) | omega) _) | (with_reducible refine Below.alloc ?_ (by first | (simp; done) | (simp; omega) | omega) _) | (with_reducible refine Below.drew ?_))))⟩
      · have hn : NotK l s (k + 1) := fun i hi hik => by
          by_cases e : i = k
          · subst e; rw [← hx]; exact fun e => c1 e.symm
          · exact HM.out i hi (by omega)
        have HN := Lib.hid hn
        have d1 : (s == x) = false := by simp [c1]
        clear hx hn c1
        go_wp2
        go_roundw
        all_goals first | exact ⟨k + 1, hlt, by go_num, HN.out, by (have hszq := HB.out.size; (try simp only [World.size_alloc] at hszq); (repeat (first | (with_reducible refine Below.setCell ?_ (by first | (simp; done) | (simp; omega) | omega) _) | (with_reducible refine Below.alloc ?_ (by first | (simp; done) | (simp; omega) | omega) _) | (with_reducible refine Below.drew ?_))); refine Below.trans ?_ (HB.out.mono (by first | (simp; done) | (simp; omega) | omega)); (repeat (first | with_reducible exact Below.refl _ _ | (with_reducible refine Below.setCell ?_ (by first | (simp; done) | (simp; omega) | omega) _) | (with_reducible refine Below.alloc ?_ (by first | (simp; done) | (simp; omega) | omega) _) | (with_reducible refine Below.drew ?_))))⟩ | (simp [intOf]; omega)
    · have hkl : k = l.length := by omega
      have hno : ¬ s ∈ l := fun hin => by
        obtain ⟨i, hi, he⟩ := List.getElem_of_mem hin
        exact HM.out i hi (by omega) he
      have HX := Lib.hid hno
      clear hno
      subst hkl
      go_wp2
      go_ret
      exact ⟨⟨_, rfl, by rw [Bool.eq_false_iff.2 (fun h => HX.out (hasK_iff.1 h))]; rfl⟩, by (have hszq := HB.out.size; (try simp only [World.size_alloc] at hszq); (repeat (first | (with_reducible refine Below.setCell ?_ (by first | (simp; done) | (simp; omega) | omega) _) | (with_reducible refine Below.alloc ?_ (by first | (simp; done) | (simp; omega) | omega) _) | (with_reducible refine Below.drew ?_))); refine Below.trans ?_ (HB.out.mono (by first | (simp; done) | (simp; omega) | omega)); (repeat (first | with_reducible exact Below.refl _ _ | (with_reducible refine Below.setCell ?_ (by first | (simp; done) | (simp; omega) | omega) _) | (with_reducible refine Below.alloc ?_ (by first | (simp; done) | (simp; omega) | omega) _) | (with_reducible refine Below.drew ?_))))⟩
theorem containsU8_any {w : World} {v : Value} {l : List Int} (h : kByt.R w v l) (s : Int) : Calls Try.prog 45 #[v, .int .u8 s] w fun e w' => e = .returned (.bool (hasK l s)) ∧ Below w.heap.size w w' := by
  have hi := fun W hb => indexU8_any (w := W) (h.keep hb) s
  have HI := Lib.hid hi
  clear hi h
  go_enter Try.func45, Try.ntmps45
  go_wp2_with ((with_reducible refine (HI.out _ (by (repeat (first | with_reducible exact Below.refl _ _ | (with_reducible refine Below.setCell ?_ (by first | (simp; done) | (simp; omega) | omega) _) | (with_reducible refine Below.alloc ?_ (by first | (simp; done) | (simp; omega) | omega) _) | (with_reducible refine Below.drew ?_))))).mono ?_); rintro e w' ⟨⟨z, rfl, hz⟩, hb⟩)
  go_ret
  exact ⟨rfl, hb⟩
theorem kind1_any (x : EntV) {v : Value} {l : List Int} {A : Nat} (w : World) (h : kByt.R w v l) (ha : w.cell? ⟨A, 0, none⟩ = some v) (hA : A < w.heap.size) :
    Calls Try.prog 44 #[x.agg, .pointer (some ⟨A, 0, none⟩)] w fun e w' => e = .returned (.bool (hasK l x.kind)) ∧ Below w.heap.size w w' := by
  obtain ⟨A', c, rfl, _, _, _⟩ := h.val
  have hc := fun W hb => containsU8_any (w := W) (h.keep hb) x.kind
  have HC := Lib.hid hc
  clear hc h
  simp only [EntV.agg]
  go_enter Try.func44, Try.ntmps44
  go_wp2_with ((with_reducible refine (HC.out _ (by (repeat (first | with_reducible exact Below.refl _ _ | (with_reducible refine Below.setCell ?_ (by first | (simp; done) | (simp; omega) | omega) _) | (with_reducible refine Below.alloc ?_ (by first | (simp; done) | (simp; omega) | omega) _) | (with_reducible refine Below.drew ?_))))).mono ?_); rintro e w' ⟨rfl, hb⟩)
  go_ret
  exact ⟨rfl, by (have hszq := hb.size; (try simp only [World.size_alloc] at hszq); (repeat (first | (with_reducible refine Below.setCell ?_ (by first | (simp; done) | (simp; omega) | omega) _) | (with_reducible refine Below.alloc ?_ (by first | (simp; done) | (simp; omega) | omega) _) | (with_reducible refine Below.drew ?_))); refine Below.trans ?_ (hb.mono (by first | (simp; done) | (simp; omega) | omega)); (repeat (first | with_reducible exact Below.refl _ _ | (with_reducible refine Below.setCell ?_ (by first | (simp; done) | (simp; omega) | omega) _) | (with_reducible refine Below.alloc ?_ (by first | (simp; done) | (simp; omega) | omega) _) | (with_reducible refine Below.drew ?_))))⟩
theorem logList_any {w : World} {p : Nat} {v0 : Value} {l : List EntV} (h : LogAt w p v0 l) (hs : l.length ≤ 100000) :
    Calls Try.prog 12 #[.pointer (some ⟨p, 0, none⟩)] w fun e w' => (∃ v, e = .returned v ∧ kEnt.R w' v (l.filter (fun _ => true))) ∧ Below w.heap.size w w' := by
  have hT := those_any (g := 34) (env := #[]) (m := fun _ => true) h hs (enters_of Try.func34 (by kernel_rfl) rfl) (fun x W hb => by simpa using list1_any x W)
  have HT := Lib.hid hT
  clear hT h
  go_enter Try.func12, Try.ntmps12
  go_wp2_with ((with_reducible refine HT.out.mono ?_); rintro e w' ⟨⟨v, rfl, hR⟩, hb⟩)
  go_ret
  exact ⟨⟨v, rfl, hR⟩, by (have hszq := hb.size; (try simp only [World.size_alloc] at hszq); (repeat (first | (with_reducible refine Below.setCell ?_ (by first | (simp; done) | (simp; omega) | omega) _) | (with_reducible refine Below.alloc ?_ (by first | (simp; done) | (simp; omega) | omega) _) | (with_reducible refine Below.drew ?_))); refine Below.trans ?_ (hb.mono (by first | (simp; done) | (simp; omega) | omega)); (repeat (first | with_reducible exact Below.refl _ _ | (with_reducible refine Below.setCell ?_ (by first | (simp; done) | (simp; omega) | omega) _) | (with_reducible refine Below.alloc ?_ (by first | (simp; done) | (simp; omega) | omega) _) | (with_reducible refine Below.drew ?_))))⟩
theorem logCommits_any {w : World} {p : Nat} {v0 : Value} {l : List EntV} (h : LogAt w p v0 l) (hs : l.length ≤ 100000) :
    Calls Try.prog 13 #[.pointer (some ⟨p, 0, none⟩)] w fun e w' => (∃ v, e = .returned v ∧ kEnt.R w' v (l.filter (Lg.comB))) ∧ Below w.heap.size w w' := by
  have hT := those_any (g := 35) (env := #[]) (m := Lg.comB) h hs (enters_of Try.func35 (by kernel_rfl) rfl) (fun x W hb => by simpa using commits1_any x W)
  have HT := Lib.hid hT
  clear hT h
  go_enter Try.func13, Try.ntmps13
  go_wp2_with ((with_reducible refine HT.out.mono ?_); rintro e w' ⟨⟨v, rfl, hR⟩, hb⟩)
  go_ret
  exact ⟨⟨v, rfl, hR⟩, by (have hszq := hb.size; (try simp only [World.size_alloc] at hszq); (repeat (first | (with_reducible refine Below.setCell ?_ (by first | (simp; done) | (simp; omega) | omega) _) | (with_reducible refine Below.alloc ?_ (by first | (simp; done) | (simp; omega) | omega) _) | (with_reducible refine Below.drew ?_))); refine Below.trans ?_ (hb.mono (by first | (simp; done) | (simp; omega) | omega)); (repeat (first | with_reducible exact Below.refl _ _ | (with_reducible refine Below.setCell ?_ (by first | (simp; done) | (simp; omega) | omega) _) | (with_reducible refine Below.alloc ?_ (by first | (simp; done) | (simp; omega) | omega) _) | (with_reducible refine Below.drew ?_))))⟩
theorem logBetween_any {w : World} {p : Nat} {v0 : Value} {l : List EntV} (h : LogAt w p v0 l) (hs : l.length ≤ 100000) (a b : Int) :
    Calls Try.prog 16 #[.pointer (some ⟨p, 0, none⟩), .int .i64 a, .int .i64 b] w fun e w' => (∃ v, e = .returned v ∧ kEnt.R w' v (l.filter (Lg.btwB a b))) ∧ Below w.heap.size w w' := by
  have hb2 : Below w.heap.size w ((w.alloc (.cells #[.int .i64 a] 2)).alloc (.cells #[.int .i64 b] 2)) := by (repeat (first | with_reducible exact Below.refl _ _ | (with_reducible refine Below.setCell ?_ (by first | (simp; done) | (simp; omega) | omega) _) | (with_reducible refine Below.alloc ?_ (by first | (simp; done) | (simp; omega) | omega) _) | (with_reducible refine Below.drew ?_)))
  have hT := those_any (g := 41) (env := #[.pointer (some ⟨w.heap.size, 0, none⟩), .pointer (some ⟨w.heap.size + 1, 0, none⟩)]) (m := Lg.btwB a b) (h.keep hb2) hs (enters_of Try.func41 (by kernel_rfl) rfl) (fun x W hb => by
    have c0 := Below.at (b := w.heap.size) (o := 0) (v := .int .i64 a) hb (by simp [go_sem]) (by simp <;> omega)
    have c1 := Below.at (b := w.heap.size + 1) (o := 0) (v := .int .i64 b) hb (by simp [go_sem]) (by simp <;> omega)
    have hz := hb.size
    simp only [World.size_alloc] at hz
    simpa using between1_any x W c0 (by omega) c1 (by omega))
  have HT := Lib.hid hT
  clear hT h
  go_enter Try.func16, Try.ntmps16
  go_wp2_with ((with_reducible refine HT.out.mono ?_); rintro e w' ⟨⟨v, rfl, hR⟩, hb⟩)
  go_ret
  exact ⟨⟨v, rfl, hR⟩, by (have hszq := hb.size; (try simp only [World.size_alloc] at hszq); (repeat (first | (with_reducible refine Below.setCell ?_ (by first | (simp; done) | (simp; omega) | omega) _) | (with_reducible refine Below.alloc ?_ (by first | (simp; done) | (simp; omega) | omega) _) | (with_reducible refine Below.drew ?_))); refine Below.trans ?_ (hb.mono (by first | (simp; done) | (simp; omega) | omega)); (repeat (first | with_reducible exact Below.refl _ _ | (with_reducible refine Below.setCell ?_ (by first | (simp; done) | (simp; omega) | omega) _) | (with_reducible refine Below.alloc ?_ (by first | (simp; done) | (simp; omega) | omega) _) | (with_reducible refine Below.drew ?_))))⟩
theorem logOf_any {w : World} {p : Nat} {v0 : Value} {l : List EntV} (h : LogAt w p v0 l) (hs : l.length ≤ 100000) (t : Int) :
    Calls Try.prog 19 #[.pointer (some ⟨p, 0, none⟩), .int .i64 t] w fun e w' => (∃ v, e = .returned v ∧ kEnt.R w' v (l.filter (Lg.ofB t))) ∧ Below w.heap.size w w' := by
  have hb2 : Below w.heap.size w (w.alloc (.cells #[.int .i64 t] 3)) := by (repeat (first | with_reducible exact Below.refl _ _ | (with_reducible refine Below.setCell ?_ (by first | (simp; done) | (simp; omega) | omega) _) | (with_reducible refine Below.alloc ?_ (by first | (simp; done) | (simp; omega) | omega) _) | (with_reducible refine Below.drew ?_)))
  have hT := those_any (g := 42) (env := #[.pointer (some ⟨w.heap.size, 0, none⟩)]) (m := Lg.ofB t) (h.keep hb2) hs (enters_of Try.func42 (by kernel_rfl) rfl) (fun x W hb => by
    have c0 := Below.at (b := w.heap.size) (o := 0) (v := .int .i64 t) hb (by simp [go_sem]) (by simp <;> omega)
    have hz := hb.size
    simp only [World.size_alloc] at hz
    simpa using of1_any x W c0 (by omega))
  have HT := Lib.hid hT
  clear hT h
  go_enter Try.func19, Try.ntmps19
  go_wp2_with ((with_reducible refine HT.out.mono ?_); rintro e w' ⟨⟨v, rfl, hR⟩, hb⟩)
  go_ret
  exact ⟨⟨v, rfl, hR⟩, by (have hszq := hb.size; (try simp only [World.size_alloc] at hszq); (repeat (first | (with_reducible refine Below.setCell ?_ (by first | (simp; done) | (simp; omega) | omega) _) | (with_reducible refine Below.alloc ?_ (by first | (simp; done) | (simp; omega) | omega) _) | (with_reducible refine Below.drew ?_))); refine Below.trans ?_ (hb.mono (by first | (simp; done) | (simp; omega) | omega)); (repeat (first | with_reducible exact Below.refl _ _ | (with_reducible refine Below.setCell ?_ (by first | (simp; done) | (simp; omega) | omega) _) | (with_reducible refine Below.alloc ?_ (by first | (simp; done) | (simp; omega) | omega) _) | (with_reducible refine Below.drew ?_))))⟩
theorem logKind_any {w : World} {p : Nat} {v0 : Value} {l : List EntV} (h : LogAt w p v0 l) (hs : l.length ≤ 100000) {A : Option Addr} {n c : Nat} {ks : List Int} (hk : kByt.R w (.slice A n c) ks) :
    Calls Try.prog 20 #[.pointer (some ⟨p, 0, none⟩), .slice A n c] w fun e w' => (∃ v, e = .returned v ∧ kEnt.R w' v (l.filter (fun x => hasK ks x.kind))) ∧ Below w.heap.size w w' := by
  have hb2 : Below w.heap.size w (w.alloc (.cells #[.slice A n c] 97)) := by (repeat (first | with_reducible exact Below.refl _ _ | (with_reducible refine Below.setCell ?_ (by first | (simp; done) | (simp; omega) | omega) _) | (with_reducible refine Below.alloc ?_ (by first | (simp; done) | (simp; omega) | omega) _) | (with_reducible refine Below.drew ?_)))
  have hT := those_any (g := 44) (env := #[.pointer (some ⟨w.heap.size, 0, none⟩)]) (m := fun x => hasK ks x.kind) (h.keep hb2) hs (enters_of Try.func44 (by kernel_rfl) rfl) (fun x W hb => by
    have c0 := Below.at (b := w.heap.size) (o := 0) (v := .slice A n c) hb (by simp [go_sem]) (by simp <;> omega)
    have hz := hb.size
    have hk' := (hk.keep hb2).keep hb
    simp only [World.size_alloc] at hz
    simpa using kind1_any x W hk' c0 (by omega))
  clear hk
  have HT := Lib.hid hT
  clear hT h
  go_enter Try.func20, Try.ntmps20
  go_wp2_with ((with_reducible refine HT.out.mono ?_); rintro e w' ⟨⟨v, rfl, hR⟩, hb⟩)
  go_ret
  exact ⟨⟨v, rfl, hR⟩, by (have hszq := hb.size; (try simp only [World.size_alloc] at hszq); (repeat (first | (with_reducible refine Below.setCell ?_ (by first | (simp; done) | (simp; omega) | omega) _) | (with_reducible refine Below.alloc ?_ (by first | (simp; done) | (simp; omega) | omega) _) | (with_reducible refine Below.drew ?_))); refine Below.trans ?_ (hb.mono (by first | (simp; done) | (simp; omega) | omega)); (repeat (first | with_reducible exact Below.refl _ _ | (with_reducible refine Below.setCell ?_ (by first | (simp; done) | (simp; omega) | omega) _) | (with_reducible refine Below.alloc ?_ (by first | (simp; done) | (simp; omega) | omega) _) | (with_reducible refine Below.drew ?_))))⟩
end Go.Proofs.Ytljfloopjgpaeab
