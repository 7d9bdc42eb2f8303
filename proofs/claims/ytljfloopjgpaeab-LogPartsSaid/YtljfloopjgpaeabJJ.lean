/- tollbarlaw15.LogParts: its walk. -/
import Derived.LoopTactic
import Derived.Test.YtljfloopjgpaeabJF
import Derived.Test.YtljfloopjgpaeabJI
namespace Go.Proofs.Ytljfloopjgpaeab
set_option linter.unusedVariables false
set_option linter.unusedSimpArgs false
open Go.RowKit Go.Shelf
attribute [local go_sem] Oper.semAt_some run_store_fn
set_option maxRecDepth 100000
theorem RowAt.own_some {M : Nat → Option Obj} {E sz n : Nat} {v : Value} {xs : List Value} (h : Ly.RowAt M E sz v n xs) {k : Nat} (hk : v.ownBlock = some k) : M k ≠ none := fun e => by
  rcases h.2 with ⟨h1, _⟩ | ⟨g, cap, cur, h1, hm, _⟩
  · rw [h1] at hk; simp [Value.ownBlock] at hk
  · rw [h1] at hk
    simp only [Value.ownBlock, Option.some.injEq] at hk
    rw [← hk, hm] at e
    cases e
theorem RowAt.other {M M' : Nat → Option Obj} {E sz n : Nat} {v : Value} {xs : List Value} (h : Ly.RowAt M E sz v n xs) (hs : ∀ k o, M k = some o → v.ownBlock = some k → M' k = some o) : Ly.RowAt M' E sz v n xs := by
  refine ⟨h.1, ?_⟩
  rcases h.2 with h1 | ⟨g, cap, cur, rfl, hm, rest⟩
  · exact .inl h1
  · exact .inr ⟨g, cap, cur, rfl, hs g _ hm rfl, rest⟩
theorem RowAt.own_ne {M : Nat → Option Obj} {n : Nat} {v : Value} {xs : List Value} (h : Ly.RowAt M 30 13 v n xs) {q : Nat} {x : Value} (hq : M q = some (.cells #[x] 76 (0, 0))) : v.ownBlock ≠ some q := fun e => by
  rcases h.2 with ⟨h1, _⟩ | ⟨g, cap, cur, h1, hm, _⟩
  · rw [h1] at e; simp [Value.ownBlock] at e
  · rw [h1] at e
    simp only [Value.ownBlock, Option.some.injEq] at e
    rw [e, hq] at hm
    injection hm with hm
    injection hm with _ hm
    cases hm
/-- The log, and the row that goes along with it. -/
structure Both (w0 : World) (P : Nat) (L : List EntV) (vi : Value) (wr : World) : Prop where
  ex : ∃ v M, Lw w0 M wr ∧ LogIn M P v L ∧ Ly.RowAt M 30 13 vi L.length (L.flatMap EntV.cells) ∧ ∀ j, v.ownBlock = some j → vi.ownBlock ≠ some j
theorem Both.put_no {w0 : World} {P : Nat} {L : List EntV} {vi v : Value} {M : Nat → Option Obj} {w' : World} (hi : Ly.RowAt M 30 13 vi L.length (L.flatMap EntV.cells)) (hlog : LogIn M P v L) (hne : ∀ j, v.ownBlock = some j → vi.ownBlock ≠ some j) (h : PutTo w0 M P v L w') : Both w0 P L vi w' := by
  obtain ⟨v', M', h1, h2, h3, h4, h5⟩ := h
  refine ⟨v', M', h1, ⟨h2, h3⟩, RowAt.other hi (fun k o hk hv => h5 k o hk (fun e => RowAt.own_ne hi hlog.1 (by rw [← e]; exact hv)) (fun e => hne k e hv)), fun j hj e => ?_⟩
  rcases h4 j hj with h | h
  · exact hne j h e
  · exact RowAt.own_some hi e h
theorem Both.put_yes {w0 : World} {P : Nat} {L : List EntV} {x : EntV} {vi vi' v v' : Value} {M M' : Nat → Option Obj} {w1 w2 w' : World} (hi : Ly.RowAt M 30 13 vi L.length (L.flatMap EntV.cells)) (hlog : LogIn M P v L) (hne : ∀ j, v.ownBlock = some j → vi.ownBlock ≠ some j)
    (h1 : Lw w0 M' w1) (h2 : LogIn M' P v' (L ++ [x])) (h4 : ∀ k, v'.ownBlock = some k → v.ownBlock = some k ∨ M k = none) (h5 : ∀ k o, M k = some o → k ≠ P → v.ownBlock ≠ some k → M' k = some o)
    (hb : Below w1.heap.size w1 w2) (ho : w'.ownsRow 0 30 13 vi' (L.length + 1) (L.flatMap EntV.cells ++ x.cells)) (hg : w2.grownBy w' vi.ownBlock) (hob : vi'.ownBlock = vi.ownBlock ∨ vi'.ownBlock = some w2.heap.size) : Both w0 P (L ++ [x]) vi' w' := by
  have hi' : Ly.RowAt M' 30 13 vi L.length (L.flatMap EntV.cells) := RowAt.other hi (fun k o hk hv => h5 k o hk (fun e => RowAt.own_ne hi hlog.1 (by rw [← e]; exact hv)) (fun e => hne k e hv))
  have hne' : ∀ j, v'.ownBlock = some j → vi.ownBlock ≠ some j := fun j hj e => by
    rcases h4 j hj with h | h
    · exact hne j h e
    · exact RowAt.own_some hi e h
  obtain ⟨M2, k1, k2, k3, k4⟩ := Lw.append (h1.keep hb) hi' ho hg hob
  have hl : (L ++ [x]).flatMap EntV.cells = L.flatMap EntV.cells ++ x.cells := by simp
  refine ⟨v', M2, k1, ⟨k4 P _ h2.1 (RowAt.own_ne hi' h2.1), h2.2.1, ?_⟩, by rw [hl, List.length_append]; exact k2, fun j hj e => ?_⟩
  · rcases h2.2.2 with h | ⟨g, cap, cur, rfl, hm, rest⟩
    · exact .inl h
    · exact .inr ⟨g, cap, cur, rfl, k4 g _ hm (hne' g rfl), rest⟩
  · rcases k3 j e with h | h
    · exact hne' j hj h
    · exact h2.own_some hj h
theorem entB_at {x : EntV} (h : entB x = true) : 0 ≤ x.at_ := by
  unfold entB at h
  split at h
  · cases h
  · simp only [Bool.and_eq_true, decide_eq_true_eq] at h
    exact h.1
theorem filt_add (f : EntV → Bool) : ∀ L : List EntV, (L.filter f).length + (L.filter fun x => !f x).length = L.length
  | [] => rfl
  | x :: L => by
    have ih := filt_add f L
    rw [List.filter_cons, List.filter_cons]
    cases h : f x <;> simp <;> omega
set_option maxHeartbeats 16000000 in
theorem logParts_any {w : World} {v0 : Value} {l : List EntV} (h : kEnt.R w v0 l) (hwf : ∀ x ∈ l, x.at_ ≤ 9223372036854775807) (pick task kind : Int) (hpick : pick ≤ 9223372036854775807) :
    Calls Try.prog 4 #[v0, .int .i64 pick, .int .i64 task, .int .u8 kind] w fun e w' => e = .returned (.bool true) ∧ Below w.heap.size w w' := by
  obtain ⟨A, c, rfl, _, _, hl⟩ := h.val
  obtain ⟨i0, hi, hz0, hz1, hz2⟩ := info_parts info_Ent
  have H := Lib.hid h
  have HWF := Lib.hid hwf
  have HPK := Lib.hid hpick
  have HI := Lib.hid hi
  have HZ0 := Lib.hid hz0
  have HZ1 := Lib.hid hz1
  have HZ2 := Lib.hid hz2
  clear h hwf hpick hi hz0 hz1 hz2
  go_enter Try.func4, Try.ntmps4
  by_cases h200 : l.length > 200
  · have d1 : decide ((l.length : Int) > 200) = true := decide_eq_true (by omega)
    clear h200
    go_wp2_with ((with_reducible refine (alive15_any _).mono ?_); rintro e w' ⟨rfl, hb⟩)
    go_ret
    exact ⟨rfl, hb⟩
  have d1 : decide ((l.length : Int) > 200) = false := decide_eq_false (by omega)
  have h200' : l.length ≤ 200 := by omega
  clear h200
  go_upto_region 7 with ((with_reducible refine (logNew_any _).mono ?_); rintro e w' ⟨rfl, hw'⟩)
  rw [← hw']
  obtain ⟨P, hP⟩ : ∃ P, P = w.heap.size := ⟨_, rfl⟩
  have hL0 : Lw w (fun k => if k = P then some (.cells #[.slice none 0 0] 76 (0, 0)) else none) w' := by
    rw [hP, hw']
    exact Lw.put ((Lw.start (w := w)).keep ((Below.refl _ w).alloc (Nat.le_refl _) _)) (Nat.le_refl _) (World.alloc_heap_new w _)
  have hb0 : Both w P (Lg.logOf l 0) (.slice none 0 0) w' := ⟨_, _, hL0, ⟨if_pos rfl, Ly.RowAt.nil _ _ _⟩, Ly.RowAt.nil _ _ _, fun j hj => by simp [Value.ownBlock] at hj⟩
  have HB0 := Lib.hid hb0
  rw [← hP]
  have HP := Lib.hid hP
  clear hL0 hb0 hw' d1 hP
  go_wp2
  go_loopw [10, 11] (fun x i wr => ∃ (k : Nat) (vi : Value), k ≤ l.length ∧ i = .int .i64 k ∧ vi = x ∧ Both w P (Lg.logOf l k) vi wr) (fun _ i _ => l.length - (intOf i).toNat)
  case atStart => exact ⟨0, _, Nat.zero_le _, rfl, rfl, HB0.out⟩
  case round =>
    obtain ⟨k, vi, hk, rfl, rfl, ⟨v, M, hw, hlog, hrow, hne⟩⟩ := hrel
    have HW := Lib.hid hw
    have HG := Lib.hid hlog
    have HR := Lib.hid hrow
    have HN := Lib.hid hne
    by_cases hlt : k < l.length
    · obtain ⟨b, o, rfl, hb, g0, g1, g2, g3, g4, g5, g6, g7, g8, g9, g10, g11, g12⟩ := kEnt_at (H.out.keep hw.1.below) hlt
      have hi1 : (k : Int) < (l.length : Int) := by omega
      have hi0' : (0 : Int) ≤ (k : Int) := by omega
      have hwr : IntKind.i64.wrap ((k : Int) + 1) = (k : Int) + 1 := IntWalk.i64_in _ (by omega)
      have hput := fun W (hW : Lw w M W) => put_any hW hlog.1 hlog.2 (Nat.le_trans (Lg.logOf_len l k) (by omega)) l[k]
      have hLL : (Lg.logOf l k).length ≤ 200 := Nat.le_trans (Lg.logOf_len l k) (by omega)
      simp only [EntV.agg] at hput
      have HLL := Lib.hid hLL
      clear hw hlog hrow hne hLL
      by_cases hz : Lg.putE (Lg.logOf l k) l[k] = 0
      · rw [hz] at hput
        have hsc : Lg.logOf l (k + 1) = Lg.logOf l k ++ [l[k]] := by rw [Lg.logOf_succ hlt, Lg.putL, if_pos hz]
        have hpl : Lg.putL (Lg.logOf l k) l[k] = Lg.logOf l k ++ [l[k]] := by rw [Lg.putL, if_pos hz]
        rw [hpl] at hput
        have HPUT := Lib.hid hput
        have HSC := Lib.hid hsc
        clear hput hsc hpl hz
        go_wp2_with (first
          | ((with_reducible refine (HPUT.out _ HW.out).mono ?_); rintro e w2 ⟨rfl, v2, M2, hw2, hp2, hr2, ho2, hs2⟩; (have hi2 : Ly.RowAt M2 30 13 vi (Lg.logOf l k).length ((Lg.logOf l k).flatMap EntV.cells) := RowAt.other HR.out (fun k o hk hv => hs2 k o hk (fun e => RowAt.own_ne HR.out HG.out.1 (by rw [← e]; exact hv)) (fun e => HN.out k e hv))); (have HROW := Lib.hid (fun o => Ly.RowAt.own (s := ⟨M2, fun _ => True, fun _ => False⟩) hi2 (hw2.keep ((Below.refl _ _).alloc (Nat.le_refl _) o)).1)); obtain ⟨b2, o2, he, hb2, q0, q1, q2, q3, q4, q5, q6, q7, q8, q9, q10, q11, q12⟩ := kEnt_at (H.out.keep hw2.1.below) hlt; obtain ⟨rfl, rfl⟩ : b = b2 ∧ o = o2 := (by simpa using he); (have HW2 := Lib.hid hw2); (have HP2 := Lib.hid hp2); (have HR2 := Lib.hid hr2); (have HO2 := Lib.hid ho2); (have HS2 := Lib.hid hs2); clear hw2 hp2 hr2 ho2 hs2 hi2 he)
          | (at_builtin; apply wpList_append_own_at (t := 22) (base := 0) (e := 30) (i := i0) (size := 13) (bytes := 104) (v := vi) (n := (Lg.logOf l k).length) (xs := (Lg.logOf l k).flatMap EntV.cells) (ad := ⟨w2.heap.size, 0, none⟩) (m := 1) (c := 1) (news := l[k].cells); (case hgd => rfl); (case ho => rfl); (case ht => exact Try.underlying22); (case hi => exact HI.out); (case hz => exact HZ0.out); (case hsize => exact HZ1.out); (case hby => exact HZ2.out); (case hzs => rfl); (case hsz => decide); (case hs => rfl); (case hown => exact HROW.out _); (case hx => rfl); (case hl => rfl); (case hnews => exact cells_at (World.alloc_heap_new _ _)); (case h1 => exact cells_one _); (case h63 => unfold maxLen; have := HLL.out; omega); (case hbytes => have := HLL.out; omega); (case hbase => exact Nat.zero_le _); intro v' w3 hown' hgrow _ hob; (have HOWN := Lib.hid hown'); (have HGR := Lib.hid hgrow); (have HOB := Lib.hid hob); clear hown' hgrow hob))
        go_roundw
        case rel =>
          refine ⟨k + 1, _, hlt, by go_num, rfl, ?_⟩
          rw [HSC.out]
          exact Both.put_yes HR.out HG.out HN.out HW2.out ⟨HP2.out, HR2.out⟩ HO2.out HS2.out ((Below.refl _ _).alloc (Nat.le_refl _) _) HOWN.out HGR.out HOB.out
        case measure => simp [intOf]; omega
      · have hsc : Lg.logOf l (k + 1) = Lg.logOf l k := by rw [Lg.logOf_succ hlt, Lg.putL, if_neg hz]
        have hpl : Lg.putL (Lg.logOf l k) l[k] = Lg.logOf l k := by rw [Lg.putL, if_neg hz]
        have hne0 : (Lg.putE (Lg.logOf l k) l[k] == 0) = false := by rw [beq_eq_false_iff_ne]; exact hz
        rw [hpl] at hput
        have HPUT := Lib.hid hput
        have HSC := Lib.hid hsc
        clear hput hsc hpl hz
        go_wp2_with ((with_reducible refine (HPUT.out _ HW.out).mono ?_); rintro e w2 ⟨rfl, hpt⟩; (have HPT := Lib.hid hpt); clear hpt)
        go_roundw
        case rel =>
          refine ⟨k + 1, _, hlt, by go_num, rfl, ?_⟩
          rw [HSC.out]
          exact Both.put_no HR.out HG.out HN.out HPT.out
        case measure => simp [intOf]; omega
    · obtain rfl : k = l.length := by omega
      have hR := HR.out
      obtain ⟨Ai, ni, ci, rfl⟩ := hR.val
      clear hw hlog hrow hne hR
      obtain ⟨L, hL⟩ : ∃ L, L = Lg.logOf l l.length := ⟨_, rfl⟩
      have hgood : Lg.Good L := by rw [hL]; exact Lg.good_log l _
      have hsub : ∀ x ∈ L, x ∈ l := by rw [hL]; exact Lg.logOf_sub l _
      have hLlen : L.length ≤ 200 := by rw [hL]; exact Nat.le_trans (Lg.logOf_len l _) h200'
      have HG := Lib.hid (show LogIn M P v L by rw [hL]; exact HG.out)
      have hRi : kEnt.R wr (.slice Ai ni ci) L := by
        rw [hL]
        exact own_R (enc := EntV.cells) (sz := 13) (Q := fun _ => True) cells_len (HR.out.own HW.out.1) (fun _ _ => trivial) (by rw [← hL]; omega)
      have HRI := Lib.hid hRi
      have HGOOD := Lib.hid hgood
      have HLEN := Lib.hid hLlen
      have HSUB := Lib.hid hsub
      have hlist := fun W (hW : Lw w M W) => logList_any (HG.out.at hW (by have := HLEN.out; omega)) (by have := HLEN.out; omega)
      have hcomm := fun W (hW : Lw w M W) => logCommits_any (HG.out.at hW (by have := HLEN.out; omega)) (by have := HLEN.out; omega)
      rw [show L.filter (fun _ => true) = L from List.filter_eq_self.2 (fun _ _ => rfl)] at hlist
      have HLI := Lib.hid hlist
      have HCO := Lib.hid hcomm
      clear hgood hsub hLlen hRi hlist hcomm hL
      go_upto_region 15 with (first
        | ((with_reducible refine (HLI.out _ HW.out).mono ?_); rintro e w1 ⟨⟨va, rfl, hRa⟩, hb⟩; obtain ⟨Aa, ca, rfl⟩ := len_R hRa rfl; (have HRA := Lib.hid hRa); (have HW1 := Lib.hid (HW.out.keep hb)); (have HB1 := Lib.hid hb); clear hRa hb)
        | ((with_reducible refine (HCO.out _ HW1.out).mono ?_); rintro e w2 ⟨⟨vc, rfl, hRc⟩, hb⟩; obtain ⟨Ac, cc, rfl⟩ := len_R hRc rfl; (have HRC := Lib.hid hRc); (have HW2 := Lib.hid (HW1.out.keep hb)); (have HB2 := Lib.hid hb); clear hRc hb))
      have HAL := Lib.hid (fun W (hW : Below w2.heap.size w2 W) => (HRA.out.keep HB2.out).keep hW)
      go_wp2
      go_loopw [14, 15] (fun m i wr => ∃ k : Nat, k ≤ L.length ∧ i = .int .i64 k ∧ m = .int .i64 (Lg.part (fun x => !Lg.comB x) L k) ∧ Below w2.heap.size w2 wr) (fun _ i _ => L.length - (intOf i).toNat)
      case atStart => exact ⟨0, Nat.zero_le _, rfl, rfl, Below.refl _ _⟩
      case round =>
        obtain ⟨k, hk, rfl, rfl, hbl⟩ := hrel
        have HBL := Lib.hid hbl
        have hL2 := HLEN.out
        by_cases hlt : k < L.length
        · obtain ⟨b, o, he, hb, g0, g1, g2, g3, g4, g5, g6, g7, g8, g9, g10, g11, g12⟩ := kEnt_at (HAL.out _ hbl) hlt
          obtain rfl : Aa = _ := he
          have hx1 : (k : Int) < (L.length : Int) := by omega
          have hx0 : (0 : Int) ≤ (k : Int) := by omega
          have hwr : IntKind.i64.wrap ((k : Int) + 1) = (k : Int) + 1 := IntWalk.i64_in _ (by omega)
          have hp := Lg.part_succ (fun x => !Lg.comB x) hlt
          have hpl : Lg.part (fun x => !Lg.comB x) L k ≤ L.length := Nat.le_trans (Lg.part_le _ _ _) (List.length_filter_le _ _)
          have hws : IntKind.i64.wrap ((Lg.part (fun x => !Lg.comB x) L k : Int) + 1) = (Lg.part (fun x => !Lg.comB x) L k : Int) + 1 := IntWalk.i64_in _ (by omega)
          have hcm := fun W => commit_any L[k].kind W
          have hcq : Lg.comB L[k] = (decide (1 ≤ L[k].kind) && decide (L[k].kind ≤ 11)) := rfl
          rw [← hcq] at hcm
          have hck := fun W => eCheck_any L[k] W
          rw [HGOOD.out.may _ (List.getElem_mem hlt)] at hck
          simp only [EntV.agg, errOf] at hck
          have HCK := Lib.hid hck
          have HP := Lib.hid hp
          clear hcq hck hp hpl hbl
          cases hcb : Lg.comB L[k]
          · rw [hcb] at hcm HP
            have HCM := Lib.hid hcm
            clear hcm hcb
            go_upto_region 20 with ((with_reducible refine (HCM.out _).mono ?_); rintro e w' ⟨rfl, rfl⟩)
            rcases Nat.eq_zero_or_pos k with hk0 | hk0
            · have d0 : decide ((k : Int) > 0) = false := decide_eq_false (by omega)
              have d0n : decide (0 < k) = false := decide_eq_false (by omega)
              have d0i : decide ((0 : Int) < (k : Int)) = false := decide_eq_false (by omega)
              clear hk0
              have HIN := Lib.hid (Ly.II.nil (B := wr.heap.size) (w0 := wr) (Below.refl _ _))
              refine Ly.regionS (by kernel_rfl) (by kernel_rfl) HIN.out.1 HIN.out.2 (by simp only [List.size_toArray, List.length_cons, List.length_nil, Nat.reduceAdd]; rfl) (fun O Z hO hZ => ?_); have HO := Lib.hid hO; clear hO
              first
                | (apply Ly.kp HO 0; (case hx => exact ⟨rfl, rfl, rfl⟩); (case hk => decide +kernel); (case hv => intro w_ hw_; (go_simp <;> first | with_reducible rfl | exact ⟨rfl, rfl⟩)); simp only [Act.put, Ly.p1, Ly.p2, Ly.p3])
              first
                | (apply Ly.kp HO 1; (case hx => exact ⟨rfl, rfl, rfl⟩); (case hk => decide +kernel); (case hv => intro w_ hw_; (go_simp <;> first | with_reducible rfl | exact ⟨rfl, rfl⟩)); simp only [Act.put, Ly.p1, Ly.p2, Ly.p3])
              first
                | (apply Ly.kp HO 2; (case hx => exact ⟨rfl, rfl, rfl⟩); (case hk => decide +kernel); (case hv => intro w_ hw_; (go_simp <;> first | with_reducible rfl | exact ⟨rfl, rfl⟩)); simp only [Act.put, Ly.p1, Ly.p2, Ly.p3])
              first
                | (apply Ly.kk HO 3; (case hx => exact ⟨rfl, rfl⟩); (case hk => decide +kernel); simp only [Act.put, Ly.p1, Ly.p2, Ly.p3])
              first
                | (apply Ly.kk HO 4; (case hx => exact ⟨rfl, rfl⟩); (case hk => decide +kernel); simp only [Act.put, Ly.p1, Ly.p2, Ly.p3])
              first
                | (apply Ly.kk HO 5; (case hx => exact ⟨rfl, rfl⟩); (case hk => decide +kernel); simp only [Act.put, Ly.p1, Ly.p2, Ly.p3])
              first
                | (apply Ly.kk HO 6; (case hx => exact ⟨rfl, rfl⟩); (case hk => decide +kernel); simp only [Act.put, Ly.p1, Ly.p2, Ly.p3])
              first
                | (apply Ly.kk HO 7; (case hx => exact ⟨rfl, rfl⟩); (case hk => decide +kernel); simp only [Act.put, Ly.p1, Ly.p2, Ly.p3])
              first
                | (apply Ly.kk HO 8; (case hx => exact ⟨rfl, rfl⟩); (case hk => decide +kernel); simp only [Act.put, Ly.p1, Ly.p2, Ly.p3])
              first
                | (apply Ly.kk HO 9; (case hx => exact ⟨rfl, rfl⟩); (case hk => decide +kernel); simp only [Act.put, Ly.p1, Ly.p2, Ly.p3])
              first
                | (apply Ly.kk HO 10; (case hx => exact ⟨rfl, rfl⟩); (case hk => decide +kernel); simp only [Act.put, Ly.p1, Ly.p2, Ly.p3])
              first
                | (apply Ly.kk HO 11; (case hx => exact ⟨rfl, rfl⟩); (case hk => decide +kernel); simp only [Act.put, Ly.p1, Ly.p2, Ly.p3])
              first
                | (apply Ly.kk HO 12; (case hx => exact ⟨rfl, rfl⟩); (case hk => decide +kernel); simp only [Act.put, Ly.p1, Ly.p2, Ly.p3])
              first
                | (apply Ly.kk HO 13; (case hx => exact ⟨rfl, rfl⟩); (case hk => decide +kernel); simp only [Act.put, Ly.p1, Ly.p2, Ly.p3])
              first
                | (apply Ly.kk HO 14; (case hx => exact ⟨rfl, rfl⟩); (case hk => decide +kernel); simp only [Act.put, Ly.p1, Ly.p2, Ly.p3])
              first
                | (apply Ly.kp HO 15; (case hx => exact ⟨rfl, rfl, rfl⟩); (case hk => decide +kernel); (case hv => intro w_ hw_; (go_simp <;> first | with_reducible rfl | exact ⟨rfl, rfl⟩)); simp only [Act.put, Ly.p1, Ly.p2, Ly.p3])
              first
                | (apply Ly.kp HO 16; (case hx => exact ⟨rfl, rfl, rfl⟩); (case hk => decide +kernel); (case hv => intro w_ hw_; (go_simp <;> first | with_reducible rfl | exact ⟨rfl, rfl⟩)); simp only [Act.put, Ly.p1, Ly.p2, Ly.p3])
              first
                | (apply Ly.kp HO 17; (case hx => exact ⟨rfl, rfl, rfl⟩); (case hk => decide +kernel); (case hv => intro w_ hw_; (go_simp <;> first | with_reducible rfl | exact ⟨rfl, rfl⟩)); simp only [Act.put, Ly.p1, Ly.p2, Ly.p3])
              first
                | (apply Ly.kp HO 18; (case hx => exact ⟨rfl, rfl, rfl⟩); (case hk => decide +kernel); (case hv => intro w_ hw_; (go_simp <;> first | with_reducible rfl | exact ⟨rfl, rfl⟩)); simp only [Act.put, Ly.p1, Ly.p2, Ly.p3])
              first
                | (apply Ly.kp HO 19; (case hx => exact ⟨rfl, rfl, rfl⟩); (case hk => decide +kernel); (case hv => intro w_ hw_; (go_simp <;> first | with_reducible rfl | exact ⟨rfl, rfl⟩)); simp only [Act.put, Ly.p1, Ly.p2, Ly.p3])
              first
                | (apply Ly.kf HO 20; (case hx => exact ⟨rfl, rfl, rfl⟩); (case hk => decide +kernel); (case hv => intro w_ hw_ hF_; obtain ⟨b_, o_, he_, hb_, c0, c1, c2, c3, c4, c5, c6, c7, c8, c9, c10, c11, c12⟩ := kEnt_at ((HAL.out _ HBL.out).keep hw_) hlt; cases he_; (go_simp <;> first | with_reducible rfl | exact ⟨rfl, rfl⟩)); simp only [Act.put, Ly.p1, Ly.p2, Ly.p3])
              first
                | (apply Ly.kc HO 21; (case hx => exact ⟨rfl, rfl, rfl⟩); (case hk => decide +kernel); (case hrun => intro w_; (go_simp <;> first | with_reducible rfl | exact ⟨rfl, rfl⟩)); (case hc => intro w_ hw_; exact HCK.out w_); simp only [Act.put, Ly.p1, Ly.p2, Ly.p3])
              first
                | (apply Ly.kp HO 22; (case hx => exact ⟨rfl, rfl, rfl⟩); (case hk => decide +kernel); (case hv => intro w_ hw_; (go_simp <;> first | with_reducible rfl | exact ⟨rfl, rfl⟩)); simp only [Act.put, Ly.p1, Ly.p2, Ly.p3])
              first
                | (apply Ly.kp HO 23; (case hx => exact ⟨rfl, rfl, rfl⟩); (case hk => decide +kernel); (case hv => intro w_ hw_; (go_simp <;> first | with_reducible rfl | exact ⟨rfl, rfl⟩)); simp only [Act.put, Ly.p1, Ly.p2, Ly.p3])
              refine Ly.kd HO (by kernel_rfl) (fun hiv2 => hZ _ _ (fun W3 hw2 => ?_))
              clear hZ Z HO O
              have HB3 := Lib.hid hw2.below
              clear hw2 hiv2 HIN
              go_wp2
              go_roundw
              case rel => exact ⟨_, hlt, by go_num, by rw [HP.out]; go_num, HBL.out.trans (HB3.out.mono HBL.out.size)⟩
              case measure => simp [intOf]; omega
            · have d0 : decide ((k : Int) > 0) = true := decide_eq_true (by omega)
              have d0n : decide (0 < k) = true := decide_eq_true (by omega)
              have d0i : decide ((0 : Int) < (k : Int)) = true := decide_eq_true (by omega)
              have hk1 : IntKind.i64.wrap ((k : Int) - 1) = ((k - 1 : Nat) : Int) := by rw [IntWalk.i64_in _ (by omega)]; omega
              have hy1 : ((k - 1 : Nat) : Int) < (L.length : Int) := by omega
              have hy0 : (0 : Int) ≤ ((k - 1 : Nat) : Int) := by omega
              have hord : decide (L[k].at_ < (L[k - 1]'(by omega)).at_) = false := by
                have h5 := HGOOD.out.ord (k - 1) (by omega)
                refine decide_eq_false ?_
                have e : k - 1 + 1 = k := by omega
                have e2 : L[k - 1 + 1]'(by omega) = L[k] := by congr 1
                rw [e2] at h5
                omega
              have HIN := Lib.hid (Ly.II.nil (B := wr.heap.size) (w0 := wr) (Below.refl _ _))
              refine Ly.regionS (by kernel_rfl) (by kernel_rfl) HIN.out.1 HIN.out.2 (by simp only [List.size_toArray, List.length_cons, List.length_nil, Nat.reduceAdd]; rfl) (fun O Z hO hZ => ?_); have HO := Lib.hid hO; clear hO
              first
                | (apply Ly.kp HO 0; (case hx => exact ⟨rfl, rfl, rfl⟩); (case hk => decide +kernel); (case hv => intro w_ hw_; (go_simp <;> first | with_reducible rfl | exact ⟨rfl, rfl⟩)); simp only [Act.put, Ly.p1, Ly.p2, Ly.p3])
              first
                | (apply Ly.kp HO 1; (case hx => exact ⟨rfl, rfl, rfl⟩); (case hk => decide +kernel); (case hv => intro w_ hw_; (go_simp <;> first | with_reducible rfl | exact ⟨rfl, rfl⟩)); simp only [Act.put, Ly.p1, Ly.p2, Ly.p3])
              first
                | (apply Ly.kp HO 2; (case hx => exact ⟨rfl, rfl, rfl⟩); (case hk => decide +kernel); (case hv => intro w_ hw_; (go_simp <;> first | with_reducible rfl | exact ⟨rfl, rfl⟩)); simp only [Act.put, Ly.p1, Ly.p2, Ly.p3])
              first
                | (apply Ly.kp HO 3; (case hx => exact ⟨rfl, rfl, rfl⟩); (case hk => decide +kernel); (case hv => intro w_ hw_; (go_simp <;> first | with_reducible rfl | exact ⟨rfl, rfl⟩)); simp only [Act.put, Ly.p1, Ly.p2, Ly.p3])
              first
                | (apply Ly.kp HO 4; (case hx => exact ⟨rfl, rfl, rfl⟩); (case hk => decide +kernel); (case hv => intro w_ hw_; (go_simp <;> first | with_reducible rfl | exact ⟨rfl, rfl⟩)); simp only [Act.put, Ly.p1, Ly.p2, Ly.p3])
              first
                | (apply Ly.kp HO 5; (case hx => exact ⟨rfl, rfl, rfl⟩); (case hk => decide +kernel); (case hv => intro w_ hw_; (go_simp <;> first | with_reducible rfl | exact ⟨rfl, rfl⟩)); simp only [Act.put, Ly.p1, Ly.p2, Ly.p3])
              first
                | (apply Ly.kp HO 6; (case hx => exact ⟨rfl, rfl, rfl⟩); (case hk => decide +kernel); (case hv => intro w_ hw_; (go_simp <;> first | with_reducible rfl | exact ⟨rfl, rfl⟩)); simp only [Act.put, Ly.p1, Ly.p2, Ly.p3])
              first
                | (apply Ly.kf HO 7; (case hx => exact ⟨rfl, rfl, rfl⟩); (case hk => decide +kernel); (case hv => intro w_ hw_ hF_; obtain ⟨b_, o_, he_, hb_, c0, _⟩ := kEnt_at ((HAL.out _ HBL.out).keep hw_) hlt; cases he_; (go_simp <;> first | with_reducible rfl | exact ⟨rfl, rfl⟩)); simp only [Act.put, Ly.p1, Ly.p2, Ly.p3])
              first
                | (apply Ly.kp HO 8; (case hx => exact ⟨rfl, rfl, rfl⟩); (case hk => decide +kernel); (case hv => intro w_ hw_; (go_simp <;> first | with_reducible rfl | exact ⟨rfl, rfl⟩)); simp only [Act.put, Ly.p1, Ly.p2, Ly.p3])
              first
                | (apply Ly.kp HO 9; (case hx => exact ⟨rfl, rfl, rfl⟩); (case hk => decide +kernel); (case hv => intro w_ hw_; (go_simp <;> first | with_reducible rfl | exact ⟨rfl, rfl⟩)); simp only [Act.put, Ly.p1, Ly.p2, Ly.p3])
              first
                | (apply Ly.kp HO 10; (case hx => exact ⟨rfl, rfl, rfl⟩); (case hk => decide +kernel); (case hv => intro w_ hw_; (go_simp <;> first | with_reducible rfl | exact ⟨rfl, rfl⟩)); simp only [Act.put, Ly.p1, Ly.p2, Ly.p3])
              first
                | (apply Ly.kp HO 11; (case hx => exact ⟨rfl, rfl, rfl⟩); (case hk => decide +kernel); (case hv => intro w_ hw_; (go_simp <;> first | with_reducible rfl | exact ⟨rfl, rfl⟩)); simp only [Act.put, Ly.p1, Ly.p2, Ly.p3])
              first
                | (apply Ly.kp HO 12; (case hx => exact ⟨rfl, rfl, rfl⟩); (case hk => decide +kernel); (case hv => intro w_ hw_; (go_simp <;> first | with_reducible rfl | exact ⟨rfl, rfl⟩)); simp only [Act.put, Ly.p1, Ly.p2, Ly.p3])
              first
                | (apply Ly.kf HO 13; (case hx => exact ⟨rfl, rfl, rfl⟩); (case hk => decide +kernel); (case hv => intro w_ hw_ hF_; obtain ⟨b_, o_, he_, hb_, c0, _⟩ := kEnt_at ((HAL.out _ HBL.out).keep hw_) (show k - 1 < L.length by omega); cases he_; (go_simp <;> first | with_reducible rfl | exact ⟨rfl, rfl⟩)); simp only [Act.put, Ly.p1, Ly.p2, Ly.p3])
              first
                | (apply Ly.kp HO 14; (case hx => exact ⟨rfl, rfl, rfl⟩); (case hk => decide +kernel); (case hv => intro w_ hw_; (go_simp <;> first | with_reducible rfl | exact ⟨rfl, rfl⟩)); simp only [Act.put, Ly.p1, Ly.p2, Ly.p3])
              first
                | (apply Ly.kp HO 15; (case hx => exact ⟨rfl, rfl, rfl⟩); (case hk => decide +kernel); (case hv => intro w_ hw_; (go_simp <;> first | with_reducible rfl | exact ⟨rfl, rfl⟩)); simp only [Act.put, Ly.p1, Ly.p2, Ly.p3])
              first
                | (apply Ly.kp HO 16; (case hx => exact ⟨rfl, rfl, rfl⟩); (case hk => decide +kernel); (case hv => intro w_ hw_; (go_simp <;> first | with_reducible rfl | exact ⟨rfl, rfl⟩)); simp only [Act.put, Ly.p1, Ly.p2, Ly.p3])
              first
                | (apply Ly.kp HO 17; (case hx => exact ⟨rfl, rfl, rfl⟩); (case hk => decide +kernel); (case hv => intro w_ hw_; (go_simp <;> first | with_reducible rfl | exact ⟨rfl, rfl⟩)); simp only [Act.put, Ly.p1, Ly.p2, Ly.p3])
              first
                | (apply Ly.kp HO 18; (case hx => exact ⟨rfl, rfl, rfl⟩); (case hk => decide +kernel); (case hv => intro w_ hw_; (go_simp <;> first | with_reducible rfl | exact ⟨rfl, rfl⟩)); simp only [Act.put, Ly.p1, Ly.p2, Ly.p3])
              first
                | (apply Ly.kp HO 19; (case hx => exact ⟨rfl, rfl, rfl⟩); (case hk => decide +kernel); (case hv => intro w_ hw_; (go_simp <;> first | with_reducible rfl | exact ⟨rfl, rfl⟩)); simp only [Act.put, Ly.p1, Ly.p2, Ly.p3])
              first
                | (apply Ly.kf HO 20; (case hx => exact ⟨rfl, rfl, rfl⟩); (case hk => decide +kernel); (case hv => intro w_ hw_ hF_; obtain ⟨b_, o_, he_, hb_, c0, c1, c2, c3, c4, c5, c6, c7, c8, c9, c10, c11, c12⟩ := kEnt_at ((HAL.out _ HBL.out).keep hw_) hlt; cases he_; (go_simp <;> first | with_reducible rfl | exact ⟨rfl, rfl⟩)); simp only [Act.put, Ly.p1, Ly.p2, Ly.p3])
              first
                | (apply Ly.kc HO 21; (case hx => exact ⟨rfl, rfl, rfl⟩); (case hk => decide +kernel); (case hrun => intro w_; (go_simp <;> first | with_reducible rfl | exact ⟨rfl, rfl⟩)); (case hc => intro w_ hw_; exact HCK.out w_); simp only [Act.put, Ly.p1, Ly.p2, Ly.p3])
              first
                | (apply Ly.kp HO 22; (case hx => exact ⟨rfl, rfl, rfl⟩); (case hk => decide +kernel); (case hv => intro w_ hw_; (go_simp <;> first | with_reducible rfl | exact ⟨rfl, rfl⟩)); simp only [Act.put, Ly.p1, Ly.p2, Ly.p3])
              first
                | (apply Ly.kp HO 23; (case hx => exact ⟨rfl, rfl, rfl⟩); (case hk => decide +kernel); (case hv => intro w_ hw_; (go_simp <;> first | with_reducible rfl | exact ⟨rfl, rfl⟩)); simp only [Act.put, Ly.p1, Ly.p2, Ly.p3])
              refine Ly.kd HO (by kernel_rfl) (fun hiv2 => hZ _ _ (fun W3 hw2 => ?_))
              clear hZ Z HO O
              have HB3 := Lib.hid hw2.below
              clear hw2 hiv2 HIN
              go_wp2
              go_roundw
              case rel => exact ⟨_, hlt, by go_num, by rw [HP.out]; go_num, HBL.out.trans (HB3.out.mono HBL.out.size)⟩
              case measure => simp [intOf]; omega
          · rw [hcb] at hcm HP
            have HCM := Lib.hid hcm
            clear hcm hcb
            go_upto_region 20 with ((with_reducible refine (HCM.out _).mono ?_); rintro e w' ⟨rfl, rfl⟩)
            rcases Nat.eq_zero_or_pos k with hk0 | hk0
            · have d0 : decide ((k : Int) > 0) = false := decide_eq_false (by omega)
              have d0n : decide (0 < k) = false := decide_eq_false (by omega)
              have d0i : decide ((0 : Int) < (k : Int)) = false := decide_eq_false (by omega)
              clear hk0
              have HIN := Lib.hid (Ly.II.nil (B := wr.heap.size) (w0 := wr) (Below.refl _ _))
              refine Ly.regionS (by kernel_rfl) (by kernel_rfl) HIN.out.1 HIN.out.2 (by simp only [List.size_toArray, List.length_cons, List.length_nil, Nat.reduceAdd]; rfl) (fun O Z hO hZ => ?_); have HO := Lib.hid hO; clear hO
              first
                | (apply Ly.kp HO 0; (case hx => exact ⟨rfl, rfl, rfl⟩); (case hk => decide +kernel); (case hv => intro w_ hw_; (go_simp <;> first | with_reducible rfl | exact ⟨rfl, rfl⟩)); simp only [Act.put, Ly.p1, Ly.p2, Ly.p3])
              first
                | (apply Ly.kp HO 1; (case hx => exact ⟨rfl, rfl, rfl⟩); (case hk => decide +kernel); (case hv => intro w_ hw_; (go_simp <;> first | with_reducible rfl | exact ⟨rfl, rfl⟩)); simp only [Act.put, Ly.p1, Ly.p2, Ly.p3])
              first
                | (apply Ly.kp HO 2; (case hx => exact ⟨rfl, rfl, rfl⟩); (case hk => decide +kernel); (case hv => intro w_ hw_; (go_simp <;> first | with_reducible rfl | exact ⟨rfl, rfl⟩)); simp only [Act.put, Ly.p1, Ly.p2, Ly.p3])
              first
                | (apply Ly.kk HO 3; (case hx => exact ⟨rfl, rfl⟩); (case hk => decide +kernel); simp only [Act.put, Ly.p1, Ly.p2, Ly.p3])
              first
                | (apply Ly.kk HO 4; (case hx => exact ⟨rfl, rfl⟩); (case hk => decide +kernel); simp only [Act.put, Ly.p1, Ly.p2, Ly.p3])
              first
                | (apply Ly.kk HO 5; (case hx => exact ⟨rfl, rfl⟩); (case hk => decide +kernel); simp only [Act.put, Ly.p1, Ly.p2, Ly.p3])
              first
                | (apply Ly.kk HO 6; (case hx => exact ⟨rfl, rfl⟩); (case hk => decide +kernel); simp only [Act.put, Ly.p1, Ly.p2, Ly.p3])
              first
                | (apply Ly.kk HO 7; (case hx => exact ⟨rfl, rfl⟩); (case hk => decide +kernel); simp only [Act.put, Ly.p1, Ly.p2, Ly.p3])
              first
                | (apply Ly.kk HO 8; (case hx => exact ⟨rfl, rfl⟩); (case hk => decide +kernel); simp only [Act.put, Ly.p1, Ly.p2, Ly.p3])
              first
                | (apply Ly.kk HO 9; (case hx => exact ⟨rfl, rfl⟩); (case hk => decide +kernel); simp only [Act.put, Ly.p1, Ly.p2, Ly.p3])
              first
                | (apply Ly.kk HO 10; (case hx => exact ⟨rfl, rfl⟩); (case hk => decide +kernel); simp only [Act.put, Ly.p1, Ly.p2, Ly.p3])
              first
                | (apply Ly.kk HO 11; (case hx => exact ⟨rfl, rfl⟩); (case hk => decide +kernel); simp only [Act.put, Ly.p1, Ly.p2, Ly.p3])
              first
                | (apply Ly.kk HO 12; (case hx => exact ⟨rfl, rfl⟩); (case hk => decide +kernel); simp only [Act.put, Ly.p1, Ly.p2, Ly.p3])
              first
                | (apply Ly.kk HO 13; (case hx => exact ⟨rfl, rfl⟩); (case hk => decide +kernel); simp only [Act.put, Ly.p1, Ly.p2, Ly.p3])
              first
                | (apply Ly.kk HO 14; (case hx => exact ⟨rfl, rfl⟩); (case hk => decide +kernel); simp only [Act.put, Ly.p1, Ly.p2, Ly.p3])
              first
                | (apply Ly.kp HO 15; (case hx => exact ⟨rfl, rfl, rfl⟩); (case hk => decide +kernel); (case hv => intro w_ hw_; (go_simp <;> first | with_reducible rfl | exact ⟨rfl, rfl⟩)); simp only [Act.put, Ly.p1, Ly.p2, Ly.p3])
              first
                | (apply Ly.kp HO 16; (case hx => exact ⟨rfl, rfl, rfl⟩); (case hk => decide +kernel); (case hv => intro w_ hw_; (go_simp <;> first | with_reducible rfl | exact ⟨rfl, rfl⟩)); simp only [Act.put, Ly.p1, Ly.p2, Ly.p3])
              first
                | (apply Ly.kp HO 17; (case hx => exact ⟨rfl, rfl, rfl⟩); (case hk => decide +kernel); (case hv => intro w_ hw_; (go_simp <;> first | with_reducible rfl | exact ⟨rfl, rfl⟩)); simp only [Act.put, Ly.p1, Ly.p2, Ly.p3])
              first
                | (apply Ly.kp HO 18; (case hx => exact ⟨rfl, rfl, rfl⟩); (case hk => decide +kernel); (case hv => intro w_ hw_; (go_simp <;> first | with_reducible rfl | exact ⟨rfl, rfl⟩)); simp only [Act.put, Ly.p1, Ly.p2, Ly.p3])
              first
                | (apply Ly.kp HO 19; (case hx => exact ⟨rfl, rfl, rfl⟩); (case hk => decide +kernel); (case hv => intro w_ hw_; (go_simp <;> first | with_reducible rfl | exact ⟨rfl, rfl⟩)); simp only [Act.put, Ly.p1, Ly.p2, Ly.p3])
              first
                | (apply Ly.kf HO 20; (case hx => exact ⟨rfl, rfl, rfl⟩); (case hk => decide +kernel); (case hv => intro w_ hw_ hF_; obtain ⟨b_, o_, he_, hb_, c0, c1, c2, c3, c4, c5, c6, c7, c8, c9, c10, c11, c12⟩ := kEnt_at ((HAL.out _ HBL.out).keep hw_) hlt; cases he_; (go_simp <;> first | with_reducible rfl | exact ⟨rfl, rfl⟩)); simp only [Act.put, Ly.p1, Ly.p2, Ly.p3])
              first
                | (apply Ly.kc HO 21; (case hx => exact ⟨rfl, rfl, rfl⟩); (case hk => decide +kernel); (case hrun => intro w_; (go_simp <;> first | with_reducible rfl | exact ⟨rfl, rfl⟩)); (case hc => intro w_ hw_; exact HCK.out w_); simp only [Act.put, Ly.p1, Ly.p2, Ly.p3])
              first
                | (apply Ly.kp HO 22; (case hx => exact ⟨rfl, rfl, rfl⟩); (case hk => decide +kernel); (case hv => intro w_ hw_; (go_simp <;> first | with_reducible rfl | exact ⟨rfl, rfl⟩)); simp only [Act.put, Ly.p1, Ly.p2, Ly.p3])
              first
                | (apply Ly.kp HO 23; (case hx => exact ⟨rfl, rfl, rfl⟩); (case hk => decide +kernel); (case hv => intro w_ hw_; (go_simp <;> first | with_reducible rfl | exact ⟨rfl, rfl⟩)); simp only [Act.put, Ly.p1, Ly.p2, Ly.p3])
              refine Ly.kd HO (by kernel_rfl) (fun hiv2 => hZ _ _ (fun W3 hw2 => ?_))
              clear hZ Z HO O
              have HB3 := Lib.hid hw2.below
              clear hw2 hiv2 HIN
              go_wp2
              go_roundw
              case rel => exact ⟨_, hlt, by go_num, by rw [HP.out]; rfl, HBL.out.trans (HB3.out.mono HBL.out.size)⟩
              case measure => simp [intOf]; omega
            · have d0 : decide ((k : Int) > 0) = true := decide_eq_true (by omega)
              have d0n : decide (0 < k) = true := decide_eq_true (by omega)
              have d0i : decide ((0 : Int) < (k : Int)) = true := decide_eq_true (by omega)
              have hk1 : IntKind.i64.wrap ((k : Int) - 1) = ((k - 1 : Nat) : Int) := by rw [IntWalk.i64_in _ (by omega)]; omega
              have hy1 : ((k - 1 : Nat) : Int) < (L.length : Int) := by omega
              have hy0 : (0 : Int) ≤ ((k - 1 : Nat) : Int) := by omega
              have hord : decide (L[k].at_ < (L[k - 1]'(by omega)).at_) = false := by
                have h5 := HGOOD.out.ord (k - 1) (by omega)
                refine decide_eq_false ?_
                have e : k - 1 + 1 = k := by omega
                have e2 : L[k - 1 + 1]'(by omega) = L[k] := by congr 1
                rw [e2] at h5
                omega
              have HIN := Lib.hid (Ly.II.nil (B := wr.heap.size) (w0 := wr) (Below.refl _ _))
              refine Ly.regionS (by kernel_rfl) (by kernel_rfl) HIN.out.1 HIN.out.2 (by simp only [List.size_toArray, List.length_cons, List.length_nil, Nat.reduceAdd]; rfl) (fun O Z hO hZ => ?_); have HO := Lib.hid hO; clear hO
              first
                | (apply Ly.kp HO 0; (case hx => exact ⟨rfl, rfl, rfl⟩); (case hk => decide +kernel); (case hv => intro w_ hw_; (go_simp <;> first | with_reducible rfl | exact ⟨rfl, rfl⟩)); simp only [Act.put, Ly.p1, Ly.p2, Ly.p3])
              first
                | (apply Ly.kp HO 1; (case hx => exact ⟨rfl, rfl, rfl⟩); (case hk => decide +kernel); (case hv => intro w_ hw_; (go_simp <;> first | with_reducible rfl | exact ⟨rfl, rfl⟩)); simp only [Act.put, Ly.p1, Ly.p2, Ly.p3])
              first
                | (apply Ly.kp HO 2; (case hx => exact ⟨rfl, rfl, rfl⟩); (case hk => decide +kernel); (case hv => intro w_ hw_; (go_simp <;> first | with_reducible rfl | exact ⟨rfl, rfl⟩)); simp only [Act.put, Ly.p1, Ly.p2, Ly.p3])
              first
                | (apply Ly.kp HO 3; (case hx => exact ⟨rfl, rfl, rfl⟩); (case hk => decide +kernel); (case hv => intro w_ hw_; (go_simp <;> first | with_reducible rfl | exact ⟨rfl, rfl⟩)); simp only [Act.put, Ly.p1, Ly.p2, Ly.p3])
              first
                | (apply Ly.kp HO 4; (case hx => exact ⟨rfl, rfl, rfl⟩); (case hk => decide +kernel); (case hv => intro w_ hw_; (go_simp <;> first | with_reducible rfl | exact ⟨rfl, rfl⟩)); simp only [Act.put, Ly.p1, Ly.p2, Ly.p3])
              first
                | (apply Ly.kp HO 5; (case hx => exact ⟨rfl, rfl, rfl⟩); (case hk => decide +kernel); (case hv => intro w_ hw_; (go_simp <;> first | with_reducible rfl | exact ⟨rfl, rfl⟩)); simp only [Act.put, Ly.p1, Ly.p2, Ly.p3])
              first
                | (apply Ly.kp HO 6; (case hx => exact ⟨rfl, rfl, rfl⟩); (case hk => decide +kernel); (case hv => intro w_ hw_; (go_simp <;> first | with_reducible rfl | exact ⟨rfl, rfl⟩)); simp only [Act.put, Ly.p1, Ly.p2, Ly.p3])
              first
                | (apply Ly.kf HO 7; (case hx => exact ⟨rfl, rfl, rfl⟩); (case hk => decide +kernel); (case hv => intro w_ hw_ hF_; obtain ⟨b_, o_, he_, hb_, c0, _⟩ := kEnt_at ((HAL.out _ HBL.out).keep hw_) hlt; cases he_; (go_simp <;> first | with_reducible rfl | exact ⟨rfl, rfl⟩)); simp only [Act.put, Ly.p1, Ly.p2, Ly.p3])
              first
                | (apply Ly.kp HO 8; (case hx => exact ⟨rfl, rfl, rfl⟩); (case hk => decide +kernel); (case hv => intro w_ hw_; (go_simp <;> first | with_reducible rfl | exact ⟨rfl, rfl⟩)); simp only [Act.put, Ly.p1, Ly.p2, Ly.p3])
              first
                | (apply Ly.kp HO 9; (case hx => exact ⟨rfl, rfl, rfl⟩); (case hk => decide +kernel); (case hv => intro w_ hw_; (go_simp <;> first | with_reducible rfl | exact ⟨rfl, rfl⟩)); simp only [Act.put, Ly.p1, Ly.p2, Ly.p3])
              first
                | (apply Ly.kp HO 10; (case hx => exact ⟨rfl, rfl, rfl⟩); (case hk => decide +kernel); (case hv => intro w_ hw_; (go_simp <;> first | with_reducible rfl | exact ⟨rfl, rfl⟩)); simp only [Act.put, Ly.p1, Ly.p2, Ly.p3])
              first
                | (apply Ly.kp HO 11; (case hx => exact ⟨rfl, rfl, rfl⟩); (case hk => decide +kernel); (case hv => intro w_ hw_; (go_simp <;> first | with_reducible rfl | exact ⟨rfl, rfl⟩)); simp only [Act.put, Ly.p1, Ly.p2, Ly.p3])
              first
                | (apply Ly.kp HO 12; (case hx => exact ⟨rfl, rfl, rfl⟩); (case hk => decide +kernel); (case hv => intro w_ hw_; (go_simp <;> first | with_reducible rfl | exact ⟨rfl, rfl⟩)); simp only [Act.put, Ly.p1, Ly.p2, Ly.p3])
              first
                | (apply Ly.kf HO 13; (case hx => exact ⟨rfl, rfl, rfl⟩); (case hk => decide +kernel); (case hv => intro w_ hw_ hF_; obtain ⟨b_, o_, he_, hb_, c0, _⟩ := kEnt_at ((HAL.out _ HBL.out).keep hw_) (show k - 1 < L.length by omega); cases he_; (go_simp <;> first | with_reducible rfl | exact ⟨rfl, rfl⟩)); simp only [Act.put, Ly.p1, Ly.p2, Ly.p3])
              first
                | (apply Ly.kp HO 14; (case hx => exact ⟨rfl, rfl, rfl⟩); (case hk => decide +kernel); (case hv => intro w_ hw_; (go_simp <;> first | with_reducible rfl | exact ⟨rfl, rfl⟩)); simp only [Act.put, Ly.p1, Ly.p2, Ly.p3])
              first
                | (apply Ly.kp HO 15; (case hx => exact ⟨rfl, rfl, rfl⟩); (case hk => decide +kernel); (case hv => intro w_ hw_; (go_simp <;> first | with_reducible rfl | exact ⟨rfl, rfl⟩)); simp only [Act.put, Ly.p1, Ly.p2, Ly.p3])
              first
                | (apply Ly.kp HO 16; (case hx => exact ⟨rfl, rfl, rfl⟩); (case hk => decide +kernel); (case hv => intro w_ hw_; (go_simp <;> first | with_reducible rfl | exact ⟨rfl, rfl⟩)); simp only [Act.put, Ly.p1, Ly.p2, Ly.p3])
              first
                | (apply Ly.kp HO 17; (case hx => exact ⟨rfl, rfl, rfl⟩); (case hk => decide +kernel); (case hv => intro w_ hw_; (go_simp <;> first | with_reducible rfl | exact ⟨rfl, rfl⟩)); simp only [Act.put, Ly.p1, Ly.p2, Ly.p3])
              first
                | (apply Ly.kp HO 18; (case hx => exact ⟨rfl, rfl, rfl⟩); (case hk => decide +kernel); (case hv => intro w_ hw_; (go_simp <;> first | with_reducible rfl | exact ⟨rfl, rfl⟩)); simp only [Act.put, Ly.p1, Ly.p2, Ly.p3])
              first
                | (apply Ly.kp HO 19; (case hx => exact ⟨rfl, rfl, rfl⟩); (case hk => decide +kernel); (case hv => intro w_ hw_; (go_simp <;> first | with_reducible rfl | exact ⟨rfl, rfl⟩)); simp only [Act.put, Ly.p1, Ly.p2, Ly.p3])
              first
                | (apply Ly.kf HO 20; (case hx => exact ⟨rfl, rfl, rfl⟩); (case hk => decide +kernel); (case hv => intro w_ hw_ hF_; obtain ⟨b_, o_, he_, hb_, c0, c1, c2, c3, c4, c5, c6, c7, c8, c9, c10, c11, c12⟩ := kEnt_at ((HAL.out _ HBL.out).keep hw_) hlt; cases he_; (go_simp <;> first | with_reducible rfl | exact ⟨rfl, rfl⟩)); simp only [Act.put, Ly.p1, Ly.p2, Ly.p3])
              first
                | (apply Ly.kc HO 21; (case hx => exact ⟨rfl, rfl, rfl⟩); (case hk => decide +kernel); (case hrun => intro w_; (go_simp <;> first | with_reducible rfl | exact ⟨rfl, rfl⟩)); (case hc => intro w_ hw_; exact HCK.out w_); simp only [Act.put, Ly.p1, Ly.p2, Ly.p3])
              first
                | (apply Ly.kp HO 22; (case hx => exact ⟨rfl, rfl, rfl⟩); (case hk => decide +kernel); (case hv => intro w_ hw_; (go_simp <;> first | with_reducible rfl | exact ⟨rfl, rfl⟩)); simp only [Act.put, Ly.p1, Ly.p2, Ly.p3])
              first
                | (apply Ly.kp HO 23; (case hx => exact ⟨rfl, rfl, rfl⟩); (case hk => decide +kernel); (case hv => intro w_ hw_; (go_simp <;> first | with_reducible rfl | exact ⟨rfl, rfl⟩)); simp only [Act.put, Ly.p1, Ly.p2, Ly.p3])
              refine Ly.kd HO (by kernel_rfl) (fun hiv2 => hZ _ _ (fun W3 hw2 => ?_))
              clear hZ Z HO O
              have HB3 := Lib.hid hw2.below
              clear hw2 hiv2 HIN
              go_wp2
              go_roundw
              case rel => exact ⟨_, hlt, by go_num, by rw [HP.out]; rfl, HBL.out.trans (HB3.out.mono HBL.out.size)⟩
              case measure => simp [intOf]; omega
        · obtain rfl : k = L.length := by omega
          have hpa : Lg.part (fun x => !Lg.comB x) L L.length = (L.filter fun x => !Lg.comB x).length := Lg.part_all _ _
          rw [hpa]
          clear hpa hbl
          have HWc := Lib.hid (HW2.out.keep HBL.out)
          have RALL := Lib.hid (fun W (hW : Below wr.heap.size wr W) => (HAL.out _ HBL.out).keep hW)
          have RIN := Lib.hid (fun W (hW : Below wr.heap.size wr W) => (((HRI.out.keep HB1.out).keep HB2.out).keep HBL.out).keep hW)
          have RCM := Lib.hid (fun W (hW : Below wr.heap.size wr W) => (HRC.out.keep HBL.out).keep hW)
          have hbt := fun W (hW : Lw w M W) a b => logBetween_any (HG.out.at hW (by have := HLEN.out; omega)) (by have := HLEN.out; omega) a b
          have HBT := Lib.hid hbt
          have HBc := Lib.hid (Below.refl wr.heap.size wr)
          clear hbt
          go_upto_region 23 with ((with_reducible refine (HBT.out _ HWc.out _ _).mono ?_); rintro e w4 ⟨⟨v4, rfl, hR4⟩, hb4⟩; obtain ⟨A4, c4, rfl⟩ := len_R hR4 rfl; (have HWc := Lib.hid (HWc.out.keep hb4)); (have HBc := Lib.hid (HBc.out.trans (hb4.mono HBc.out.size))); clear hR4 hb4)
          have hof := fun W (hW : Lw w M W) => logOf_any (HG.out.at hW (by have := HLEN.out; omega)) (by have := HLEN.out; omega) task
          have hkd := fun A c W (hW : Lw w M W) (hk : kByt.R W (.slice A 1 c) [kind]) => logKind_any (HG.out.at hW (by have := HLEN.out; omega)) (by have := HLEN.out; omega) hk
          have HOF := Lib.hid hof
          have HKD := Lib.hid hkd
          have h3p := Lg.three_parts pick HPK.out L (fun x hx => ⟨entB_at (HGOOD.out.may x hx), HWF.out x (HSUB.out x hx)⟩)
          have h2p := filt_add Lg.comB L
          obtain ⟨na, hna⟩ : ∃ n, n = (L.filter (Lg.btwB 0 pick)).length := ⟨_, rfl⟩
          obtain ⟨nb, hnb⟩ : ∃ n, n = (L.filter (Lg.btwB (max pick 0) 9223372036854775807)).length := ⟨_, rfl⟩
          obtain ⟨nt, hnt⟩ : ∃ n, n = (L.filter Lg.topB).length := ⟨_, rfl⟩
          obtain ⟨nc, hnc⟩ : ∃ n, n = (L.filter Lg.comB).length := ⟨_, rfl⟩
          obtain ⟨nm, hnm⟩ : ∃ n, n = (L.filter fun x => !Lg.comB x).length := ⟨_, rfl⟩
          rw [← hna, ← hnb, ← hnt] at h3p
          rw [← hnc, ← hnm] at h2p
          have hs1 : IntKind.i64.wrap ((nc : Int) + (nm : Int)) = (L.length : Int) := by rw [IntWalk.i64_in _ (by omega)]; omega
          have hs2 : IntKind.i64.wrap ((na : Int) + (nb : Int)) = (na : Int) + (nb : Int) := IntWalk.i64_in _ (by omega)
          have hs3 : IntKind.i64.wrap ((na : Int) + (nb : Int) + (nt : Int)) = (L.length : Int) := by rw [IntWalk.i64_in _ (by omega)]; omega
          have hlast := fun W h => last15_any (w := W) (RALL.out W h)
          have hins := fun W h => inside_yes (w := W) Lg.comB (RCM.out W h) (RALL.out W h)
          rw [← hnt] at hlast
          rw [← hnc] at hins
          have HLAST := Lib.hid hlast
          have HINS := Lib.hid hins
          rw [← hna, ← hnb, ← hnc, ← hnm]
          clear hof hkd h3p h2p hna hnb hnt hnc hnm hlast hins
          go_wp2_with (first
            | ((with_reducible refine (same14_yes (RALL.out _ HBc.out) (RIN.out _ HBc.out)).mono ?_); rintro e w5 ⟨rfl, hb_⟩; (have HWc := Lib.hid (HWc.out.keep hb_)); (have HBc := Lib.hid (HBc.out.trans (hb_.mono HBc.out.size))); clear hb_)
            | ((with_reducible refine (HINS.out _ HBc.out).mono ?_); rintro e w6 ⟨rfl, hb_⟩; (have HWc := Lib.hid (HWc.out.keep hb_)); (have HBc := Lib.hid (HBc.out.trans (hb_.mono HBc.out.size))); clear hb_)
            | ((with_reducible refine (HOF.out _ HWc.out).mono ?_); rintro e w7 ⟨⟨v7, rfl, hR7⟩, hb_⟩; obtain ⟨A7, c7, rfl⟩ := len_R hR7 rfl; (have R7 := Lib.hid hR7); clear hR7; (have HWc := Lib.hid (HWc.out.keep hb_)); (have HBc := Lib.hid (HBc.out.trans (hb_.mono HBc.out.size))); clear hb_)
            | ((with_reducible refine (inside_yes (Lg.ofB task) R7.out (RALL.out _ HBc.out)).mono ?_); rintro e w8 ⟨rfl, hb_⟩; (have HWc := Lib.hid (HWc.out.keep hb_)); (have HBc := Lib.hid (HBc.out.trans (hb_.mono HBc.out.size))); clear hb_)
            | ((with_reducible refine (HKD.out _ _ _ (HWc.out.keep (by (repeat (first | with_reducible exact Below.refl _ _ | (with_reducible refine Below.setCell ?_ (by first | (simp; done) | (simp; omega) | omega) _) | (with_reducible refine Below.alloc ?_ (by first | (simp; done) | (simp; omega) | omega) _) | (with_reducible refine Below.drew ?_))))) (kByt_one kind)).mono ?_); rintro e w9 ⟨⟨v9, rfl, hR9⟩, hb9⟩; obtain ⟨A9, c9, rfl⟩ := len_R hR9 rfl; (have R9 := Lib.hid hR9); (have hb_ := ((Below.refl _ _).alloc (Nat.le_refl _) _).trans (hb9.mono (by simp))); clear hR9 hb9; (have HWc := Lib.hid (HWc.out.keep hb_)); (have HBc := Lib.hid (HBc.out.trans (hb_.mono HBc.out.size))); clear hb_)
            | ((with_reducible refine (inside_yes (fun x => hasK [kind] x.kind) R9.out (RALL.out _ HBc.out)).mono ?_); rintro e wa ⟨rfl, hb_⟩; (have HWc := Lib.hid (HWc.out.keep hb_)); (have HBc := Lib.hid (HBc.out.trans (hb_.mono HBc.out.size))); clear hb_)
            | ((with_reducible refine (HLAST.out _ HBc.out).mono ?_); rintro e wb ⟨rfl, hb_⟩; (have HWc := Lib.hid (HWc.out.keep hb_)); (have HBc := Lib.hid (HBc.out.trans (hb_.mono HBc.out.size))); clear hb_)
            | ((with_reducible refine (alive15_any _).mono ?_); rintro e wd ⟨rfl, hb_⟩; (have HWc := Lib.hid (HWc.out.keep hb_)); (have HBc := Lib.hid (HBc.out.trans (hb_.mono HBc.out.size))); clear hb_))
          go_ret
          exact ⟨rfl, HWc.out.1.below⟩
end Go.Proofs.Ytljfloopjgpaeab
