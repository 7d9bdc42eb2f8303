/- tollbarlaw11.ProgGrows: a program that may be may be with a channel, a site, or a code more, as long as there are not too many. For every program and number; no condition. -/
import Derived.Test.YtljfloopjgpaeaaNG
import Derived.Test.YtljfloopjgpaeaaNI
import Derived.Test.YtljfloopjgpaeaaQV
import Derived.IntWalk
namespace Go.Proofs.Ytljfloopjgpaeaa
set_option linter.unusedVariables false
set_option linter.unusedSimpArgs false
open Go.RowKit
attribute [local go_sem] Oper.semAt_some
set_option maxRecDepth 100000

theorem copyS_any {w : World} {c1 c2 c3 : Value} {P : ProgV} (h : RProg w c1 c2 c3 P) (hs : Small P) :
    Calls Try.prog 26 #[.agg #[c1, c2, c3]] w fun e w' => ∃ A1 n1 m1 A2 n2 m2 A3 n3 m3, e = .returned (.agg #[.slice A1 n1 m1, .slice A2 n2 m2, .slice A3 n3 m3]) ∧ RProg w' (.slice A1 n1 m1) (.slice A2 n2 m2) (.slice A3 n3 m3) P ∧ Below w.heap.size w w' :=
  (copy_any h hs.caps hs.codes hs.sites hs.code hs.site).mono fun _ _ ⟨_, _, _, he, ho, hb⟩ => by
    have hr := ho.prog h hs
    obtain ⟨A1, n1, rfl, _⟩ := hr.caps.val
    obtain ⟨A2, n2, rfl, _⟩ := hr.codes.val
    obtain ⟨A3, n3, rfl, _⟩ := hr.sites.val
    exact ⟨_, _, _, _, _, _, _, _, _, he, hr, hb⟩
theorem sane_small {P : ProgV} (hs : saneP P = true) : Small P := by
  obtain ⟨⟨h1, _⟩, ⟨h3, h4⟩, ⟨h5, h6⟩, _⟩ := (sane_iff P).1 hs
  refine ⟨by omega, by omega, by omega, fun l hl => by have := (h6 l hl).1; omega, fun s hs => ?_⟩
  have := h4 s hs
  simp only [siteB, Bool.and_eq_true, decide_eq_true_eq] at this
  omega
/-- A program that was made: where it lies. -/
def GrowI (W : World) (g : Nat) (a b c : Value) (Q : ProgV) (wx : World) : Prop := Below W.heap.size W wx ∧ wx.heap[g]? = some (.cells #[a, b, c] 44 (0, 0)) ∧ RProg wx a b c Q
theorem kd_int : ∀ (w : World) (x : Int) (cs : List Value), kInt.K w x cs → cs.length = kInt.sz ∧ ∀ u ∈ cs, u.oneCell' = true := by
  rintro w x _ ⟨rfl, _⟩; exact ⟨rfl, by simp [Value.oneCell']⟩
theorem kd_code : ∀ (w : World) (x : List InsV) (cs : List Value), kIns.slice.K w x cs → cs.length = kIns.slice.sz ∧ ∀ u ∈ cs, u.oneCell' = true := by
  rintro w x _ ⟨v, rfl, h⟩
  obtain ⟨A, c, rfl, _⟩ := h.val
  exact ⟨rfl, by simp [Value.oneCell']⟩
theorem kd_site : ∀ (w : World) (x : SiteV) (cs : List Value), kSite.K w x cs → cs.length = kSite.sz ∧ ∀ u ∈ cs, u.oneCell' = true := by
  rintro w x _ ⟨v, rfl, h⟩
  obtain ⟨A, c, rfl, _⟩ := h.val
  exact ⟨rfl, by simp [Value.oneCell']⟩
theorem R_lt {α : Type} {d : Kn α} {w : World} {A : Option Addr} {n c : Nat} {l : List α} (h : d.R w (.slice A n c) l) : ∀ ad m k, Value.slice A n c = .slice (some ad) m k → 0 < l.length → ad.block < w.heap.size := fun ad m k e h0 => by
  obtain ⟨A', c', hv, _, _, _, hh⟩ := h
  obtain ⟨b, o, rfl, hb, _⟩ := hh h0
  injection hv with h1 _ _
  injection e with h2 _ _
  subst h1
  injection h2 with h2
  subst h2
  exact hb
theorem case_R {W : World} {g : Nat} (h : W.heap[g]? = some (.cells #[.bool false, .int .i64 (-1), .int .i64 0, .int .i64 0] 63 (0, 0))) : kCase.R W (.slice (some ⟨g, 0, none⟩) 1 1) newSite.cases :=
  flat_block (f := CaseV.cells) (Q := CaseV.wf) (l := newSite.cases) (fun _ => rfl) h rfl (by (intro x hx; obtain rfl : x = ⟨false, -1, 0, 0⟩ := (by simpa [newSite] using hx); unfold CaseV.wf I64; decide)) (by decide) (by decide) (by decide)
set_option maxHeartbeats 4000000 in
theorem progGrows_false {c1 c2 c3 : Value} {P : ProgV} {w : World} (h : RProg w c1 c2 c3 P) (most : Int) (hs : saneP P = false) :
    Calls Try.prog 6 #[.agg #[c1, c2, c3], .int .u8 most] w fun e w' => e = .returned (.bool true) ∧ Below w.heap.size w w' := by
  have HP0 := Lib.hid h
  have HAL := Lib.hid (fun W => alive11_any W)
  have HLO := Lib.hid (fun (W : World) (h : RProg W c1 c2 c3 P) => long_any h)
  have hck := fun (W : World) (h : RProg W c1 c2 c3 P) => check_any c1 c2 c3 P W h
  simp only [tripV] at hck
  have hs0 := hs
  unfold saneP at hs0
  obtain ⟨x1, x2, x3, hx⟩ : ∃ a b d, checkW P = (a, b, d) := ⟨_, _, _, rfl⟩
  rw [hx] at hs0 hck
  simp only at hs0 hck
  clear hx
  have HCK := Lib.hid hck
  clear hck
  have hd : (x3 != 0) = true := by simpa using hs0
  clear h hs hs0
  go_enter Try.func6, Try.ntmps6
  go_upto_region 1 with fail
  refine Ly.start1 (fun W1 hII => ?_)
  have HIN := Lib.hid hII
  clear hII
  go_upto_region 1 with fail
  refine Ly.regionS0 (by kernel_rfl) (by kernel_rfl) HIN.out.1 HIN.out.2 (by simp only [List.size_toArray, List.length_cons, List.length_nil, Nat.reduceAdd]; rfl) (fun O Z hO hZ => ?_); have HO := Lib.hid hO; clear hO
  first
    | (apply Ly.kr HO 0; (case hx => exact ⟨rfl, rfl, rfl⟩); (case hk => decide +kernel); (case hv => intro w_ hw_; have P_ := hw_.holds (w.heap.size) _ (by (repeat (first | exact Ly.ua _ _ _ | rw [Ly.un _ _ (by omega)] | rw [Ly.am] | rw [Ly.fz]))); obtain ⟨c0, c1, c2⟩ := Ly.cells3 P_; clear P_; (go_simp <;> first | with_reducible rfl | exact ⟨rfl, rfl⟩)); simp only [Act.put, Ly.p1, Ly.p2, Ly.p3])
  first
    | (apply Ly.kb HO 1; (case hx => exact ⟨rfl, rfl, rfl⟩); (case hk => decide +kernel); (case hrun => intro w_; (go_simp <;> first | with_reducible rfl | exact ⟨rfl, rfl⟩)); (case hc => intro w_ hw_; exact HLO.out _ (HP0.out.keep hw_.below)); intro b_; simp only [Act.put, Ly.p1, Ly.p2, Ly.p3])
  refine Ly.kd HO (by kernel_rfl) (fun hiv2 => hZ _ _ (fun W2 hw2 => ?_))
  clear hZ Z HO O
  have hin_ := Lib.hid (And.intro hw2 hiv2 : Ly.II _ _ _ _)
  clear hw2 hiv2
  replace HIN := Lib.hid (Ly.tk hin_.out (Ly.II.nil hin_.out.1.below) (w.heap.size) (by (repeat (first | exact Ly.ua _ _ _ | rw [Ly.un _ _ (by omega)] | rw [Ly.am] | rw [Ly.fz]))))
  clear hin_
  cases b_
  case true =>
    go_upto_region 2 with fail
    refine Ly.regionS0 (by kernel_rfl) (by kernel_rfl) HIN.out.1 HIN.out.2 (by simp only [List.size_toArray, List.length_cons, List.length_nil, Nat.reduceAdd]; rfl) (fun O Z hO hZ => ?_); have HO := Lib.hid hO; clear hO
    first
      | (apply Ly.kc HO 0; (case hx => exact ⟨rfl, rfl, rfl⟩); (case hk => decide +kernel); (case hrun => intro w_; (go_simp <;> first | with_reducible rfl | exact ⟨rfl, rfl⟩)); (case hc => intro w_ hw_; exact HAL.out _); simp only [Act.put, Ly.p1, Ly.p2, Ly.p3])
    first
      | (apply Ly.kp HO 1; (case hx => exact ⟨rfl, rfl, rfl⟩); (case hk => decide +kernel); (case hv => intro w_ hw_; (go_simp <;> first | with_reducible rfl | exact ⟨rfl, rfl⟩)); simp only [Act.put, Ly.p1, Ly.p2, Ly.p3])
    refine Ly.kd HO (by kernel_rfl) (fun hiv2 => hZ _ _ (fun W3 hw2 => ?_))
    clear hZ Z HO O
    have hin_ := Lib.hid (And.intro hw2 hiv2 : Ly.II _ _ _ _)
    clear hw2 hiv2
    replace HIN := Lib.hid (Ly.tk hin_.out (Ly.II.nil hin_.out.1.below) (w.heap.size) (by (repeat (first | exact Ly.ua _ _ _ | rw [Ly.un _ _ (by omega)] | rw [Ly.am] | rw [Ly.fz]))))
    clear hin_
    go_wp2
    refine Ly.ret_of (by simp [results, Try.results6, go_sem] <;> (repeat' (first | rfl | apply And.intro))) rfl ⟨rfl, HIN.out.1.below⟩
  go_upto_region 3 with fail
  refine Ly.regionS0 (by kernel_rfl) (by kernel_rfl) HIN.out.1 HIN.out.2 (by simp only [List.size_toArray, List.length_cons, List.length_nil, Nat.reduceAdd]; rfl) (fun O Z hO hZ => ?_); have HO := Lib.hid hO; clear hO
  first
    | (apply Ly.kr HO 0; (case hx => exact ⟨rfl, rfl, rfl⟩); (case hk => decide +kernel); (case hv => intro w_ hw_; have P_ := hw_.holds (w.heap.size) _ (by (repeat (first | exact Ly.ua _ _ _ | rw [Ly.un _ _ (by omega)] | rw [Ly.am] | rw [Ly.fz]))); obtain ⟨c0, c1, c2⟩ := Ly.cells3 P_; clear P_; (go_simp <;> first | with_reducible rfl | exact ⟨rfl, rfl⟩)); simp only [Act.put, Ly.p1, Ly.p2, Ly.p3])
  first
    | (apply Ly.kc HO 1; (case hx => exact ⟨rfl, rfl, rfl⟩); (case hk => decide +kernel); (case hrun => intro w_; (go_simp <;> first | with_reducible rfl | exact ⟨rfl, rfl⟩)); (case hc => intro w_ hw_; with_reducible exact HCK.out _ (HP0.out.keep hw_.below)); simp only [Act.put, Ly.p1, Ly.p2, Ly.p3])
  first
    | (apply Ly.kp HO 2; (case hx => exact ⟨rfl, rfl, rfl⟩); (case hk => decide +kernel); (case hv => intro w_ hw_; (go_simp <;> first | with_reducible rfl | exact ⟨rfl, rfl⟩)); simp only [Act.put, Ly.p1, Ly.p2, Ly.p3])
  first
    | (apply Ly.kp HO 3; (case hx => exact ⟨rfl, rfl, rfl⟩); (case hk => decide +kernel); (case hv => intro w_ hw_; (go_simp <;> first | with_reducible rfl | exact ⟨rfl, rfl⟩)); simp only [Act.put, Ly.p1, Ly.p2, Ly.p3])
  first
    | (apply Ly.kp HO 4; (case hx => exact ⟨rfl, rfl, rfl⟩); (case hk => decide +kernel); (case hv => intro w_ hw_; (go_simp <;> first | with_reducible rfl | exact ⟨rfl, rfl⟩)); simp only [Act.put, Ly.p1, Ly.p2, Ly.p3])
  first
    | (apply Ly.kp HO 5; (case hx => exact ⟨rfl, rfl, rfl⟩); (case hk => decide +kernel); (case hv => intro w_ hw_; (go_simp <;> first | with_reducible rfl | exact ⟨rfl, rfl⟩)); simp only [Act.put, Ly.p1, Ly.p2, Ly.p3])
  first
    | (apply Ly.kp HO 6; (case hx => exact ⟨rfl, rfl, rfl⟩); (case hk => decide +kernel); (case hv => intro w_ hw_; (go_simp <;> first | with_reducible rfl | exact ⟨rfl, rfl⟩)); simp only [Act.put, Ly.p1, Ly.p2, Ly.p3])
  first
    | (apply Ly.kp HO 7; (case hx => exact ⟨rfl, rfl, rfl⟩); (case hk => decide +kernel); (case hv => intro w_ hw_; (go_simp <;> first | with_reducible rfl | exact ⟨rfl, rfl⟩)); simp only [Act.put, Ly.p1, Ly.p2, Ly.p3])
  first
    | (apply Ly.kp HO 8; (case hx => exact ⟨rfl, rfl, rfl⟩); (case hk => decide +kernel); (case hv => intro w_ hw_; (go_simp <;> first | with_reducible rfl | exact ⟨rfl, rfl⟩)); simp only [Act.put, Ly.p1, Ly.p2, Ly.p3])
  refine Ly.kd HO (by kernel_rfl) (fun hiv2 => hZ _ _ (fun W3 hw2 => ?_))
  clear hZ Z HO O
  have hin_ := Lib.hid (And.intro hw2 hiv2 : Ly.II _ _ _ _)
  clear hw2 hiv2
  replace HIN := Lib.hid (Ly.tk hin_.out (Ly.II.nil hin_.out.1.below) (w.heap.size) (by (repeat (first | exact Ly.ua _ _ _ | rw [Ly.un _ _ (by omega)] | rw [Ly.am] | rw [Ly.fz]))))
  clear hin_
  go_upto_region 4 with fail
  refine Ly.regionS0 (by kernel_rfl) (by kernel_rfl) HIN.out.1 HIN.out.2 (by simp only [List.size_toArray, List.length_cons, List.length_nil, Nat.reduceAdd]; rfl) (fun O Z hO hZ => ?_); have HO := Lib.hid hO; clear hO
  first
    | (apply Ly.kp HO 0; (case hx => exact ⟨rfl, rfl, rfl⟩); (case hk => decide +kernel); (case hv => intro w_ hw_; (go_simp <;> first | with_reducible rfl | exact ⟨rfl, rfl⟩)); simp only [Act.put, Ly.p1, Ly.p2, Ly.p3])
  first
    | (apply Ly.kp HO 1; (case hx => exact ⟨rfl, rfl, rfl⟩); (case hk => decide +kernel); (case hv => intro w_ hw_; (go_simp <;> first | with_reducible rfl | exact ⟨rfl, rfl⟩)); simp only [Act.put, Ly.p1, Ly.p2, Ly.p3])
  refine Ly.kd HO (by kernel_rfl) (fun hiv2 => hZ _ _ (fun W4 hw2 => ?_))
  clear hZ Z HO O
  have hin_ := Lib.hid (And.intro hw2 hiv2 : Ly.II _ _ _ _)
  clear hw2 hiv2
  replace HIN := Lib.hid (Ly.tk hin_.out (Ly.II.nil hin_.out.1.below) (w.heap.size) (by (repeat (first | exact Ly.ua _ _ _ | rw [Ly.un _ _ (by omega)] | rw [Ly.am] | rw [Ly.fz]))))
  clear hin_
  go_upto_region 5 with fail
  refine Ly.regionS0 (by kernel_rfl) (by kernel_rfl) HIN.out.1 HIN.out.2 (by simp only [List.size_toArray, List.length_cons, List.length_nil, Nat.reduceAdd]; rfl) (fun O Z hO hZ => ?_); have HO := Lib.hid hO; clear hO
  first
    | (apply Ly.kc HO 0; (case hx => exact ⟨rfl, rfl, rfl⟩); (case hk => decide +kernel); (case hrun => intro w_; (go_simp <;> first | with_reducible rfl | exact ⟨rfl, rfl⟩)); (case hc => intro w_ hw_; exact HAL.out _); simp only [Act.put, Ly.p1, Ly.p2, Ly.p3])
  first
    | (apply Ly.kp HO 1; (case hx => exact ⟨rfl, rfl, rfl⟩); (case hk => decide +kernel); (case hv => intro w_ hw_; (go_simp <;> first | with_reducible rfl | exact ⟨rfl, rfl⟩)); simp only [Act.put, Ly.p1, Ly.p2, Ly.p3])
  refine Ly.kd HO (by kernel_rfl) (fun hiv2 => hZ _ _ (fun W5 hw2 => ?_))
  clear hZ Z HO O
  have hin_ := Lib.hid (And.intro hw2 hiv2 : Ly.II _ _ _ _)
  clear hw2 hiv2
  replace HIN := Lib.hid (Ly.tk hin_.out (Ly.II.nil hin_.out.1.below) (w.heap.size) (by (repeat (first | exact Ly.ua _ _ _ | rw [Ly.un _ _ (by omega)] | rw [Ly.am] | rw [Ly.fz]))))
  clear hin_
  go_wp2
  refine Ly.ret_of (by simp [results, Try.results6, go_sem] <;> (repeat' (first | rfl | apply And.intro))) rfl ⟨rfl, HIN.out.1.below⟩
set_option maxHeartbeats 16000000 in
theorem progGrows_true {c1 c2 c3 : Value} {P : ProgV} {w : World} (h : RProg w c1 c2 c3 P) (most : Int) (hm : 0 ≤ most ∧ most ≤ 255) (hs : saneP P = true) :
    Calls Try.prog 6 #[.agg #[c1, c2, c3], .int .u8 most] w fun e w' => e = .returned (.bool true) ∧ Below w.heap.size w w' := by
  have HP0 := Lib.hid h
  have HAL := Lib.hid (fun W => alive11_any W)
  have HLO := Lib.hid (fun (W : World) (h : RProg W c1 c2 c3 P) => long_any h)
  have hck := fun (W : World) (h : RProg W c1 c2 c3 P) => check_any c1 c2 c3 P W h
  simp only [tripV] at hck
  have hs0 := hs
  unfold saneP at hs0
  obtain ⟨x1, x2, x3, hx⟩ : ∃ a b d, checkW P = (a, b, d) := ⟨_, _, _, rfl⟩
  rw [hx] at hs0 hck
  simp only at hs0 hck
  clear hx
  have HCK := Lib.hid hck
  clear hck
  obtain rfl : x3 = 0 := by simpa using hs0
  obtain ⟨A1, n1, rfl, _, _, hl1⟩ := h.caps.val
  obtain ⟨A2, n2, rfl, _, _, hl2⟩ := h.codes.val
  obtain ⟨A3, n3, rfl, _, _, hl3⟩ := h.sites.val
  have HS := Lib.hid hs
  have HSM := Lib.hid (sane_small hs)
  clear h hs hs0
  go_enter Try.func6, Try.ntmps6
  go_upto_region 1 with fail
  refine Ly.start1 (fun W1 hII => ?_)
  have HIN := Lib.hid hII
  clear hII
  go_upto_region 1 with fail
  refine Ly.regionS0 (by kernel_rfl) (by kernel_rfl) HIN.out.1 HIN.out.2 (by simp only [List.size_toArray, List.length_cons, List.length_nil, Nat.reduceAdd]; rfl) (fun O Z hO hZ => ?_); have HO := Lib.hid hO; clear hO
  first
    | (apply Ly.kr HO 0; (case hx => exact ⟨rfl, rfl, rfl⟩); (case hk => decide +kernel); (case hv => intro w_ hw_; have P_ := hw_.holds (w.heap.size) _ (by (repeat (first | exact Ly.ua _ _ _ | rw [Ly.un _ _ (by omega)] | rw [Ly.am] | rw [Ly.fz]))); obtain ⟨c0, c1, c2⟩ := Ly.cells3 P_; clear P_; (go_simp <;> first | with_reducible rfl | exact ⟨rfl, rfl⟩)); simp only [Act.put, Ly.p1, Ly.p2, Ly.p3])
  first
    | (apply Ly.kb HO 1; (case hx => exact ⟨rfl, rfl, rfl⟩); (case hk => decide +kernel); (case hrun => intro w_; (go_simp <;> first | with_reducible rfl | exact ⟨rfl, rfl⟩)); (case hc => intro w_ hw_; exact HLO.out _ (HP0.out.keep hw_.below)); intro b_; simp only [Act.put, Ly.p1, Ly.p2, Ly.p3])
  refine Ly.kd HO (by kernel_rfl) (fun hiv2 => hZ _ _ (fun W2 hw2 => ?_))
  clear hZ Z HO O
  have hin_ := Lib.hid (And.intro hw2 hiv2 : Ly.II _ _ _ _)
  clear hw2 hiv2
  replace HIN := Lib.hid (Ly.tk hin_.out (Ly.II.nil hin_.out.1.below) (w.heap.size) (by (repeat (first | exact Ly.ua _ _ _ | rw [Ly.un _ _ (by omega)] | rw [Ly.am] | rw [Ly.fz]))))
  clear hin_
  cases b_
  case true =>
    go_upto_region 2 with fail
    refine Ly.regionS0 (by kernel_rfl) (by kernel_rfl) HIN.out.1 HIN.out.2 (by simp only [List.size_toArray, List.length_cons, List.length_nil, Nat.reduceAdd]; rfl) (fun O Z hO hZ => ?_); have HO := Lib.hid hO; clear hO
    first
      | (apply Ly.kc HO 0; (case hx => exact ⟨rfl, rfl, rfl⟩); (case hk => decide +kernel); (case hrun => intro w_; (go_simp <;> first | with_reducible rfl | exact ⟨rfl, rfl⟩)); (case hc => intro w_ hw_; exact HAL.out _); simp only [Act.put, Ly.p1, Ly.p2, Ly.p3])
    first
      | (apply Ly.kp HO 1; (case hx => exact ⟨rfl, rfl, rfl⟩); (case hk => decide +kernel); (case hv => intro w_ hw_; (go_simp <;> first | with_reducible rfl | exact ⟨rfl, rfl⟩)); simp only [Act.put, Ly.p1, Ly.p2, Ly.p3])
    refine Ly.kd HO (by kernel_rfl) (fun hiv2 => hZ _ _ (fun W3 hw2 => ?_))
    clear hZ Z HO O
    have hin_ := Lib.hid (And.intro hw2 hiv2 : Ly.II _ _ _ _)
    clear hw2 hiv2
    replace HIN := Lib.hid (Ly.tk hin_.out (Ly.II.nil hin_.out.1.below) (w.heap.size) (by (repeat (first | exact Ly.ua _ _ _ | rw [Ly.un _ _ (by omega)] | rw [Ly.am] | rw [Ly.fz]))))
    clear hin_
    go_wp2
    refine Ly.ret_of (by simp [results, Try.results6, go_sem] <;> (repeat' (first | rfl | apply And.intro))) rfl ⟨rfl, HIN.out.1.below⟩
  go_upto_region 3 with fail
  refine Ly.regionS0 (by kernel_rfl) (by kernel_rfl) HIN.out.1 HIN.out.2 (by simp only [List.size_toArray, List.length_cons, List.length_nil, Nat.reduceAdd]; rfl) (fun O Z hO hZ => ?_); have HO := Lib.hid hO; clear hO
  first
    | (apply Ly.kr HO 0; (case hx => exact ⟨rfl, rfl, rfl⟩); (case hk => decide +kernel); (case hv => intro w_ hw_; have P_ := hw_.holds (w.heap.size) _ (by (repeat (first | exact Ly.ua _ _ _ | rw [Ly.un _ _ (by omega)] | rw [Ly.am] | rw [Ly.fz]))); obtain ⟨c0, c1, c2⟩ := Ly.cells3 P_; clear P_; (go_simp <;> first | with_reducible rfl | exact ⟨rfl, rfl⟩)); simp only [Act.put, Ly.p1, Ly.p2, Ly.p3])
  first
    | (apply Ly.kc HO 1; (case hx => exact ⟨rfl, rfl, rfl⟩); (case hk => decide +kernel); (case hrun => intro w_; (go_simp <;> first | with_reducible rfl | exact ⟨rfl, rfl⟩)); (case hc => intro w_ hw_; with_reducible exact HCK.out _ (HP0.out.keep hw_.below)); simp only [Act.put, Ly.p1, Ly.p2, Ly.p3])
  first
    | (apply Ly.kp HO 2; (case hx => exact ⟨rfl, rfl, rfl⟩); (case hk => decide +kernel); (case hv => intro w_ hw_; (go_simp <;> first | with_reducible rfl | exact ⟨rfl, rfl⟩)); simp only [Act.put, Ly.p1, Ly.p2, Ly.p3])
  first
    | (apply Ly.kp HO 3; (case hx => exact ⟨rfl, rfl, rfl⟩); (case hk => decide +kernel); (case hv => intro w_ hw_; (go_simp <;> first | with_reducible rfl | exact ⟨rfl, rfl⟩)); simp only [Act.put, Ly.p1, Ly.p2, Ly.p3])
  first
    | (apply Ly.kp HO 4; (case hx => exact ⟨rfl, rfl, rfl⟩); (case hk => decide +kernel); (case hv => intro w_ hw_; (go_simp <;> first | with_reducible rfl | exact ⟨rfl, rfl⟩)); simp only [Act.put, Ly.p1, Ly.p2, Ly.p3])
  first
    | (apply Ly.kp HO 5; (case hx => exact ⟨rfl, rfl, rfl⟩); (case hk => decide +kernel); (case hv => intro w_ hw_; (go_simp <;> first | with_reducible rfl | exact ⟨rfl, rfl⟩)); simp only [Act.put, Ly.p1, Ly.p2, Ly.p3])
  first
    | (apply Ly.kp HO 6; (case hx => exact ⟨rfl, rfl, rfl⟩); (case hk => decide +kernel); (case hv => intro w_ hw_; (go_simp <;> first | with_reducible rfl | exact ⟨rfl, rfl⟩)); simp only [Act.put, Ly.p1, Ly.p2, Ly.p3])
  first
    | (apply Ly.kp HO 7; (case hx => exact ⟨rfl, rfl, rfl⟩); (case hk => decide +kernel); (case hv => intro w_ hw_; (go_simp <;> first | with_reducible rfl | exact ⟨rfl, rfl⟩)); simp only [Act.put, Ly.p1, Ly.p2, Ly.p3])
  first
    | (apply Ly.kp HO 8; (case hx => exact ⟨rfl, rfl, rfl⟩); (case hk => decide +kernel); (case hv => intro w_ hw_; (go_simp <;> first | with_reducible rfl | exact ⟨rfl, rfl⟩)); simp only [Act.put, Ly.p1, Ly.p2, Ly.p3])
  refine Ly.kd HO (by kernel_rfl) (fun hiv2 => hZ _ _ (fun W3 hw2 => ?_))
  clear hZ Z HO O
  have hin_ := Lib.hid (And.intro hw2 hiv2 : Ly.II _ _ _ _)
  clear hw2 hiv2
  replace HIN := Lib.hid (Ly.tk hin_.out (Ly.II.nil hin_.out.1.below) (w.heap.size) (by (repeat (first | exact Ly.ua _ _ _ | rw [Ly.un _ _ (by omega)] | rw [Ly.am] | rw [Ly.fz]))))
  clear hin_
  go_upto_region 4 with fail
  refine Ly.regionS0 (by kernel_rfl) (by kernel_rfl) HIN.out.1 HIN.out.2 (by simp only [List.size_toArray, List.length_cons, List.length_nil, Nat.reduceAdd]; rfl) (fun O Z hO hZ => ?_); have HO := Lib.hid hO; clear hO
  first
    | (apply Ly.kp HO 0; (case hx => exact ⟨rfl, rfl, rfl⟩); (case hk => decide +kernel); (case hv => intro w_ hw_; (go_simp <;> first | with_reducible rfl | exact ⟨rfl, rfl⟩)); simp only [Act.put, Ly.p1, Ly.p2, Ly.p3])
  first
    | (apply Ly.kp HO 1; (case hx => exact ⟨rfl, rfl, rfl⟩); (case hk => decide +kernel); (case hv => intro w_ hw_; (go_simp <;> first | with_reducible rfl | exact ⟨rfl, rfl⟩)); simp only [Act.put, Ly.p1, Ly.p2, Ly.p3])
  refine Ly.kd HO (by kernel_rfl) (fun hiv2 => hZ _ _ (fun W4 hw2 => ?_))
  clear hZ Z HO O
  have hin_ := Lib.hid (And.intro hw2 hiv2 : Ly.II _ _ _ _)
  clear hw2 hiv2
  replace HIN := Lib.hid (Ly.tk hin_.out (Ly.II.nil hin_.out.1.below) (w.heap.size) (by (repeat (first | exact Ly.ua _ _ _ | rw [Ly.un _ _ (by omega)] | rw [Ly.am] | rw [Ly.fz]))))
  clear hin_
  clear HCK HLO
  have P_ := HIN.out.1.holds (w.heap.size) _ (by (repeat (first | exact Ly.ua _ _ _ | rw [Ly.un _ _ (by omega)] | rw [Ly.am] | rw [Ly.fz])))
  have HP4 := Lib.hid (HP0.out.keep HIN.out.1.below)
  have HB4 := Lib.hid HIN.out.1.below
  have HPB4 := Lib.hid P_
  obtain ⟨p0, p1, p2⟩ := Ly.cells3 P_
  have hpl : w.heap.size < W4.heap.size := (Array.getElem?_eq_some_iff.1 P_).1
  clear P_ HIN HP0
  go_upto_region 9 with (first | (go_at_call 26; (with_reducible refine (copyS_any HP4.out HSM.out).mono ?_); rintro e w5 ⟨A4, n4, m4, A5, n5, m5, A6, n6, m6, rfl, hq5, hb5⟩; have HQ5 := Lib.hid hq5; clear hq5; have e50 := Lib.cell?_alloc_some (.cells #[.slice A4 n4 m4, .slice A5 n5 m5, .slice A6 n6 m6] 44) (Below.at hb5 p0 hpl); have e51 := Lib.cell?_alloc_some (.cells #[.slice A4 n4 m4, .slice A5 n5 m5, .slice A6 n6 m6] 44) (Below.at hb5 p1 hpl); have e52 := Lib.cell?_alloc_some (.cells #[.slice A4 n4 m4, .slice A5 n5 m5, .slice A6 n6 m6] 44) (Below.at hb5 p2 hpl)) | (go_at_call 27; (with_reducible refine (same_yes rfl (HP4.out.keep (by (have hszq := hb5.size; (try simp only [World.size_alloc] at hszq); (repeat (first | (with_reducible refine Below.setCell ?_ (by first | (simp; done) | (simp; omega) | omega) _) | (with_reducible refine Below.alloc ?_ (by first | (simp; done) | (simp; omega) | omega) _) | (with_reducible refine Below.drew ?_))); refine Below.trans ?_ (hb5.mono (by first | (simp; done) | (simp; omega) | omega)); (repeat (first | with_reducible exact Below.refl _ _ | (with_reducible refine Below.setCell ?_ (by first | (simp; done) | (simp; omega) | omega) _) | (with_reducible refine Below.alloc ?_ (by first | (simp; done) | (simp; omega) | omega) _) | (with_reducible refine Below.drew ?_)))))) (HQ5.out.keep (by (repeat (first | with_reducible exact Below.refl _ _ | (with_reducible refine Below.setCell ?_ (by first | (simp; done) | (simp; omega) | omega) _) | (with_reducible refine Below.alloc ?_ (by first | (simp; done) | (simp; omega) | omega) _) | (with_reducible refine Below.drew ?_)))))).mono ?_); rintro e w6 ⟨rfl, hb6⟩))
  have hb9 : Below W4.heap.size W4 w6 := Below.trans (by (have hszq := hb5.size; (try simp only [World.size_alloc] at hszq); (repeat (first | (with_reducible refine Below.setCell ?_ (by first | (simp; done) | (simp; omega) | omega) _) | (with_reducible refine Below.alloc ?_ (by first | (simp; done) | (simp; omega) | omega) _) | (with_reducible refine Below.drew ?_))); refine Below.trans ?_ (hb5.mono (by first | (simp; done) | (simp; omega) | omega)); (repeat (first | with_reducible exact Below.refl _ _ | (with_reducible refine Below.setCell ?_ (by first | (simp; done) | (simp; omega) | omega) _) | (with_reducible refine Below.alloc ?_ (by first | (simp; done) | (simp; omega) | omega) _) | (with_reducible refine Below.drew ?_))))) (hb6.mono (by have := hb5.size; simp; omega))
  have HPB := Lib.hid ((hb9.block _ hpl).trans HPB4.out)
  have HP := Lib.hid (HP4.out.keep hb9)
  have HB := Lib.hid (HB4.out.trans (hb9.mono HB4.out.size))
  clear hb9 hb6 hb5 e50 e51 e52 HQ5 HP4 HB4 HPB4 p0 p1 p2 hpl
  have hmm : 0 ≤ most.tmod 9 ∧ most.tmod 9 ≤ 8 := ⟨Int.tmod_nonneg _ hm.1, by have := Int.tmod_lt_of_pos most (show (0 : Int) < 9 by decide); omega⟩
  have HMM := Lib.hid hmm
  clear hmm
  have hwm : IntKind.i64.wrap most = most := IntWalk.i64_in _ (by omega)
  obtain ⟨j0, hj0, hy0, hy1, hy2⟩ := info_parts info_Int
  have HJ0 := Lib.hid hj0
  have HY0 := Lib.hid hy0
  have HY1 := Lib.hid hy1
  have HY2 := Lib.hid hy2
  clear hj0 hy0 hy1 hy2
  obtain ⟨css, hcss⟩ := R_src kd_int HP.out.caps
  have HSRC := Lib.hid hcss
  have HLT := Lib.hid (R_lt HP.out.caps)
  have HLS := Lib.hid (HSM.out.caps)
  clear hcss
  obtain ⟨p0, p1, p2⟩ := Ly.cells3 HPB.out
  have hpl : w.heap.size < w6.heap.size := (Array.getElem?_eq_some_iff.1 HPB.out).1
  go_cut [9] (fun t wx => ∃ g y, t = .pointer (some ⟨g, 0, none⟩) ∧ GrowI w6 g y (.slice A2 P.codes.length n2) (.slice A3 P.sites.length n3) (moreCap P (most.tmod 9)) wx)
  case first =>
    have HIN := Lib.hid (Ly.II.nil (Below.refl w6.heap.size w6))
    refine Ly.regionS (by kernel_rfl) (by kernel_rfl) HIN.out.1 HIN.out.2 (by simp only [List.size_toArray, List.length_cons, List.length_nil, Nat.reduceAdd]; rfl) (fun O Z hO hZ => ?_); have HO := Lib.hid hO; clear hO
    first
      | (apply Ly.kp HO 0; (case hx => exact ⟨rfl, rfl, rfl⟩); (case hk => decide +kernel); (case hv => intro w_ hw_; (go_simp <;> first | with_reducible rfl | exact ⟨rfl, rfl⟩)); simp only [Act.put, Ly.p1, Ly.p2, Ly.p3])
    first
      | (apply Ly.kf HO 1; (case hx => exact ⟨rfl, rfl, rfl⟩); (case hk => decide +kernel); (case hv => intro w_ hw_ hF_; have c_ := Below.at hw_ p0 hpl; (go_simp <;> first | with_reducible rfl | exact ⟨rfl, rfl⟩)); simp only [Act.put, Ly.p1, Ly.p2, Ly.p3])
    first
      | (apply Ly.kp HO 3; (case hx => exact ⟨rfl, rfl, rfl⟩); (case hk => decide +kernel); (case hv => intro w_ hw_; (go_simp <;> first | with_reducible rfl | exact ⟨rfl, rfl⟩)); simp only [Act.put, Ly.p1, Ly.p2, Ly.p3])
    first
      | (apply Ly.kp HO 4; (case hx => exact ⟨rfl, rfl, rfl⟩); (case hk => decide +kernel); (case hv => intro w_ hw_; (go_simp <;> first | with_reducible rfl | exact ⟨rfl, rfl⟩)); simp only [Act.put, Ly.p1, Ly.p2, Ly.p3])
    first
      | (apply Ly.kp HO 5; (case hx => exact ⟨rfl, rfl, rfl⟩); (case hk => decide +kernel); (case hv => intro w_ hw_; (go_simp <;> first | with_reducible rfl | exact ⟨rfl, rfl⟩)); simp only [Act.put, Ly.p1, Ly.p2, Ly.p3])
    first
      | (apply Ly.kp HO 8; (case hx => exact ⟨rfl, rfl, rfl⟩); (case hk => decide +kernel); (case hv => intro w_ hw_; (go_simp <;> first | with_reducible rfl | exact ⟨rfl, rfl⟩)); simp only [Act.put, Ly.p1, Ly.p2, Ly.p3])
    first
      | (apply Ly.kf HO 9; (case hx => exact ⟨rfl, rfl, rfl⟩); (case hk => decide +kernel); (case hv => intro w_ hw_ hF_; have c_ := Below.at hw_ p1 hpl; (go_simp <;> first | with_reducible rfl | exact ⟨rfl, rfl⟩)); simp only [Act.put, Ly.p1, Ly.p2, Ly.p3])
    first
      | (apply Ly.kp HO 10; (case hx => exact ⟨rfl, rfl, rfl⟩); (case hk => decide +kernel); (case hv => intro w_ hw_; (go_simp <;> first | with_reducible rfl | exact ⟨rfl, rfl⟩)); simp only [Act.put, Ly.p1, Ly.p2, Ly.p3])
    first
      | (apply Ly.kf HO 11; (case hx => exact ⟨rfl, rfl, rfl⟩); (case hk => decide +kernel); (case hv => intro w_ hw_ hF_; have c_ := Below.at hw_ p2 hpl; (go_simp <;> first | with_reducible rfl | exact ⟨rfl, rfl⟩)); simp only [Act.put, Ly.p1, Ly.p2, Ly.p3])
    first
      | (refine Ly.kapp HO 2 ?hk (Operand.const (Value.slice none 0 0)) (Operand.tmp 40) 38 ⟨rfl, rfl, rfl⟩ 3 j0 (.int .i64 0) 1 8 Try.underlying38 HJ0.out HY0.out HY1.out HY2.out rfl (by decide) (.slice none 0 0) (0) ([]) rfl (Ly.RowAt.nil _ _ _) (fun _ _ h_ => h_) (.slice A1 P.caps.length n1) (P.caps.length) (css.flatten) rfl (fun w_ hw_ => (HSRC.out.below HLT.out hw_.below).src) (flatten_len css HSRC.out.szs |>.trans (by rw [HSRC.out.len]; rfl)) (by intro u hu; obtain ⟨cs, hc, hu⟩ := List.mem_flatten.1 hu; exact HSRC.out.one cs hc u hu) (by have := HLS.out; unfold maxLen; omega) (by have := HLS.out; omega) (fun _ _ h_ _ => h_) ?_; (case hk => decide +kernel))
    intro va Ma hrowa hMa
    obtain ⟨Aa_, na_, ca_, rfl⟩ := hrowa.val
    have HRa := Lib.hid hrowa
    clear hrowa
    simp only [Act.put, Ly.p1, Ly.p2, Ly.p3]
    first
      | (apply Ly.kn HO 6 (mk := fun n => .slice (some ⟨n, 0, none⟩) 1 1); (case hx => exact ⟨rfl, rfl, rfl⟩); (case hk => decide +kernel); (case hrun => intro w_; (go_simp <;> first | with_reducible rfl | exact ⟨rfl, rfl⟩)); simp only [Act.put, Ly.p1, Ly.p2, Ly.p3])
    intro gb hg_ hfr
    have hf_gb := hfr
    clear hfr
    first
      | (refine Ly.kapp HO 7 ?hk (Operand.tmp 41) (Operand.tmp 45) 38 ⟨rfl, rfl, rfl⟩ 3 j0 (.int .i64 0) 1 8 Try.underlying38 HJ0.out HY0.out HY1.out HY2.out rfl (by decide) (.slice Aa_ na_ ca_) (0 + P.caps.length) ([] ++ css.flatten) rfl (Ly.RowAt.upd HRa.out hf_gb _) (fun _ _ h_ => h_) (.slice (some ⟨gb, 0, none⟩) 1 1) (1) ([.int .i64 (most.tmod 9)]) rfl (fun w_ hw_ => .inr ⟨_, _, rfl, World.news_of_block (cs := #[.int .i64 (most.tmod 9)]) (hw_.holds gb _ (Ly.ua _ _ _))⟩) (rfl) (by simp [Value.oneCell']) (by have := HLS.out; unfold maxLen; omega) (by have := HLS.out; omega) (fun _ _ h_ _ => h_) ?_; (case hk => decide +kernel))
    intro vb Mb hrowb hMb
    obtain ⟨Ab_, nb_, cb_, rfl⟩ := hrowb.val
    have HRb := Lib.hid hrowb
    clear hrowb
    simp only [Act.put, Ly.p1, Ly.p2, Ly.p3]
    first
      | (apply Ly.kp HO 12; (case hx => exact ⟨rfl, rfl, rfl⟩); (case hk => decide +kernel); (case hv => intro w_ hw_; (go_simp <;> first | with_reducible rfl | exact ⟨rfl, rfl⟩)); simp only [Act.put, Ly.p1, Ly.p2, Ly.p3])
    first
      | (apply Ly.ka HO 13; (case hx => exact ⟨rfl, rfl, rfl⟩); (case hk => decide +kernel); (case hrun => intro w_; (go_simp <;> first | with_reducible rfl | exact ⟨rfl, rfl⟩)); simp only [Act.put, Ly.p1, Ly.p2, Ly.p3])
    intro gz hg_ hfr
    have hf_gz := hfr
    clear hfr
    first
      | (apply Ly.ks HO 14 (g := gz); (case hx => exact ⟨rfl, rfl, rfl⟩); (case hk => decide +kernel); (case hF => exact fun h_ => h_); (case hG => exact fun _ _ h_ _ => h_); (case hg => (repeat (first | exact Ly.ua _ _ _ | rw [Ly.un _ _ (by omega)] | rw [Ly.am] | rw [Ly.fz]))); (case hrun => intro w_ hw_ hb_; obtain ⟨c0, c1, c2⟩ := Ly.cells3 hb_; obtain ⟨d0, d1, d2⟩ := Ly.froz3 hb_; refine ⟨?_, ?_, ?_, ?_⟩; rotate_left; (next => (go_simp <;> first | with_reducible rfl | rfl)); (next => (repeat (first | (with_reducible exact Ly.OnlyAt.refl _ _) | (with_reducible refine Ly.OnlyAt.set ?_ _ _)))); (next => (simp [World.setCell, Array.getElem?_modify, hb_] <;> rfl))); simp only [Act.put, Ly.p1, Ly.p2, Ly.p3])
    refine Ly.kd HO (by kernel_rfl) (fun hiv2 => hZ _ _ (fun Wz hw2 => ?_))
    clear hZ Z HO O
    have hrow := (Ly.RowAt.own (((HRb.out.upd hf_gz _).again (Ly.RowAt.ne HRb.out hf_gz) _)) hw2)
    have hss := HSRC.out.below HLT.out hw2.below
    have hB_ := hw2.below
    have hG_ := hw2.holds gz _ (Ly.ua _ _ _)
    have Hrow := Lib.hid hrow
    have Hss := Lib.hid hss
    have HB_ := Lib.hid hB_
    have HG_ := Lib.hid hG_
    clear hrow hss hB_ hG_ hw2 hiv2 HIN p0 p1 p2
    try clear hwm
    go_wp2
    go_meet
    exact ⟨gz, .slice Ab_ nb_ cb_, rfl, HB_.out, HG_.out, append_R (d := kInt) (css := css) (x := (most.tmod 9)) (cs := [.int .i64 (most.tmod 9)]) (by (have e_ : [] ++ css.flatten ++ [.int .i64 (most.tmod 9)] = css.flatten ++ [.int .i64 (most.tmod 9)] := (by simp); have n_ : 0 + P.caps.length + 1 = P.caps.length + 1 := (by omega); have hrow := Hrow.out; rw [e_, n_] at hrow; exact hrow)) Hss.out.len Hss.out.szs Hss.out.says (⟨rfl, by have := HMM.out; unfold I64; omega⟩) rfl (by have := HLS.out; omega), HP.out.codes.keep HB_.out, HP.out.sites.keep HB_.out⟩
  case rest =>
    clear HSRC HLT HLS css HJ0 HY0 HY1 HY2 j0 p0 p1 p2 hpl
    obtain ⟨ga, ya, rfl, hgr⟩ := hcut
    obtain ⟨hb_, hh_, hr_⟩ := hgr
    replace HPB := Lib.hid ((hb_.block _ (Array.getElem?_eq_some_iff.1 HPB.out).1).trans HPB.out)
    replace HP := Lib.hid (HP.out.keep hb_)
    replace HB := Lib.hid (HB.out.trans (hb_.mono HB.out.size))
    have HaB := Lib.hid hh_
    have HaP := Lib.hid hr_
    clear hb_ hh_ hr_
    obtain ⟨wA, rfl⟩ : ∃ wA : World, wA = wc := ⟨_, rfl⟩
    clear hwm
    obtain ⟨j0, hj0, hy0, hy1, hy2⟩ := info_parts info_Site
    have HJ0 := Lib.hid hj0
    have HY0 := Lib.hid hy0
    have HY1 := Lib.hid hy1
    have HY2 := Lib.hid hy2
    clear hj0 hy0 hy1 hy2
    obtain ⟨css, hcss⟩ := R_src kd_site HP.out.sites
    have HSRC := Lib.hid hcss
    have HLT := Lib.hid (R_lt HP.out.sites)
    have HLS := Lib.hid (HSM.out.sites)
    clear hcss
    go_upto_region 10 with fail
    obtain ⟨p0, p1, p2⟩ := Ly.cells3 HPB.out
    have hpl : w.heap.size < wA.heap.size := (Array.getElem?_eq_some_iff.1 HPB.out).1
    go_cut [10] (fun t wx => ∃ g y, t = .pointer (some ⟨g, 0, none⟩) ∧ GrowI wA g (.slice A1 P.caps.length n1) (.slice A2 P.codes.length n2) y (moreSite P) wx)
    case first =>
      have HIN := Lib.hid (Ly.II.nil (Below.refl wA.heap.size wA))
      refine Ly.regionS (by kernel_rfl) (by kernel_rfl) HIN.out.1 HIN.out.2 (by simp only [List.size_toArray, List.length_cons, List.length_nil, Nat.reduceAdd]; rfl) (fun O Z hO hZ => ?_); have HO := Lib.hid hO; clear hO
      first
        | (apply Ly.kp HO 0; (case hx => exact ⟨rfl, rfl, rfl⟩); (case hk => decide +kernel); (case hv => intro w_ hw_; (go_simp <;> first | with_reducible rfl | exact ⟨rfl, rfl⟩)); simp only [Act.put, Ly.p1, Ly.p2, Ly.p3])
      first
        | (apply Ly.kf HO 1; (case hx => exact ⟨rfl, rfl, rfl⟩); (case hk => decide +kernel); (case hv => intro w_ hw_ hF_; have c_ := Below.at hw_ p0 hpl; (go_simp <;> first | with_reducible rfl | exact ⟨rfl, rfl⟩)); simp only [Act.put, Ly.p1, Ly.p2, Ly.p3])
      first
        | (apply Ly.kp HO 2; (case hx => exact ⟨rfl, rfl, rfl⟩); (case hk => decide +kernel); (case hv => intro w_ hw_; (go_simp <;> first | with_reducible rfl | exact ⟨rfl, rfl⟩)); simp only [Act.put, Ly.p1, Ly.p2, Ly.p3])
      first
        | (apply Ly.kf HO 3; (case hx => exact ⟨rfl, rfl, rfl⟩); (case hk => decide +kernel); (case hv => intro w_ hw_ hF_; have c_ := Below.at hw_ p1 hpl; (go_simp <;> first | with_reducible rfl | exact ⟨rfl, rfl⟩)); simp only [Act.put, Ly.p1, Ly.p2, Ly.p3])
      first
        | (apply Ly.kp HO 4; (case hx => exact ⟨rfl, rfl, rfl⟩); (case hk => decide +kernel); (case hv => intro w_ hw_; (go_simp <;> first | with_reducible rfl | exact ⟨rfl, rfl⟩)); simp only [Act.put, Ly.p1, Ly.p2, Ly.p3])
      first
        | (apply Ly.kf HO 5; (case hx => exact ⟨rfl, rfl, rfl⟩); (case hk => decide +kernel); (case hv => intro w_ hw_ hF_; have c_ := Below.at hw_ p2 hpl; (go_simp <;> first | with_reducible rfl | exact ⟨rfl, rfl⟩)); simp only [Act.put, Ly.p1, Ly.p2, Ly.p3])
      first
        | (refine Ly.kapp HO 6 ?hk (Operand.const (Value.slice none 0 0)) (Operand.tmp 57) 42 ⟨rfl, rfl, rfl⟩ 66 j0 (.agg #[.slice none 0 0, .bool false]) 2 32 Try.underlying42 HJ0.out HY0.out HY1.out HY2.out rfl (by decide) (.slice none 0 0) (0) ([]) rfl (Ly.RowAt.nil _ _ _) (fun _ _ h_ => h_) (.slice A3 P.sites.length n3) (P.sites.length) (css.flatten) rfl (fun w_ hw_ => (HSRC.out.below HLT.out hw_.below).src) (flatten_len css HSRC.out.szs |>.trans (by rw [HSRC.out.len]; rfl)) (by intro u hu; obtain ⟨cs, hc, hu⟩ := List.mem_flatten.1 hu; exact HSRC.out.one cs hc u hu) (by have := HLS.out; unfold maxLen; omega) (by have := HLS.out; omega) (fun _ _ h_ _ => h_) ?_; (case hk => decide +kernel))
      intro va Ma hrowa hMa
      obtain ⟨Aa_, na_, ca_, rfl⟩ := hrowa.val
      have HRa := Lib.hid hrowa
      clear hrowa
      simp only [Act.put, Ly.p1, Ly.p2, Ly.p3]
      first
        | (apply Ly.kp HO 7; (case hx => exact ⟨rfl, rfl, rfl⟩); (case hk => decide +kernel); (case hv => intro w_ hw_; (go_simp <;> first | with_reducible rfl | exact ⟨rfl, rfl⟩)); simp only [Act.put, Ly.p1, Ly.p2, Ly.p3])
      first
        | (apply Ly.kn HO 8 (mk := fun n => .slice (some ⟨n, 0, none⟩) 1 1); (case hx => exact ⟨rfl, rfl, rfl⟩); (case hk => decide +kernel); (case hrun => intro w_; (go_simp <;> first | with_reducible rfl | exact ⟨rfl, rfl⟩)); simp only [Act.put, Ly.p1, Ly.p2, Ly.p3])
      intro gc hg_ hfr
      have hf_gc := hfr
      clear hfr
      first
        | (apply Ly.kp HO 9; (case hx => exact ⟨rfl, rfl, rfl⟩); (case hk => decide +kernel); (case hv => intro w_ hw_; (go_simp <;> first | with_reducible rfl | exact ⟨rfl, rfl⟩)); simp only [Act.put, Ly.p1, Ly.p2, Ly.p3])
      first
        | (apply Ly.kn HO 10 (mk := fun n => .slice (some ⟨n, 0, none⟩) 1 1); (case hx => exact ⟨rfl, rfl, rfl⟩); (case hk => decide +kernel); (case hrun => intro w_; (go_simp <;> first | with_reducible rfl | exact ⟨rfl, rfl⟩)); simp only [Act.put, Ly.p1, Ly.p2, Ly.p3])
      intro gs hg_ hfr
      have hf_gs := hfr
      clear hfr
      first
        | (refine Ly.kapp HO 11 ?hk (Operand.tmp 58) (Operand.tmp 62) 42 ⟨rfl, rfl, rfl⟩ 66 j0 (.agg #[.slice none 0 0, .bool false]) 2 32 Try.underlying42 HJ0.out HY0.out HY1.out HY2.out rfl (by decide) (.slice Aa_ na_ ca_) (0 + P.sites.length) ([] ++ css.flatten) rfl (Ly.RowAt.upd (Ly.RowAt.upd HRa.out hf_gc _) hf_gs _) (fun _ _ h_ => h_) (.slice (some ⟨gs, 0, none⟩) 1 1) (1) ([.slice (some ⟨gc, 0, none⟩) 1 1, .bool false]) rfl (fun w_ hw_ => .inr ⟨_, _, rfl, World.news_of_block (cs := #[.slice (some ⟨gc, 0, none⟩) 1 1, .bool false]) (hw_.holds gs _ (Ly.ua _ _ _))⟩) (rfl) (by simp [Value.oneCell']) (by have := HLS.out; unfold maxLen; omega) (by have := HLS.out; omega) (fun _ _ h_ _ => h_) ?_; (case hk => decide +kernel))
      intro vb Mb hrowb hMb
      obtain ⟨Ab_, nb_, cb_, rfl⟩ := hrowb.val
      have HRb := Lib.hid hrowb
      clear hrowb
      simp only [Act.put, Ly.p1, Ly.p2, Ly.p3]
      first
        | (apply Ly.kp HO 12; (case hx => exact ⟨rfl, rfl, rfl⟩); (case hk => decide +kernel); (case hv => intro w_ hw_; (go_simp <;> first | with_reducible rfl | exact ⟨rfl, rfl⟩)); simp only [Act.put, Ly.p1, Ly.p2, Ly.p3])
      first
        | (apply Ly.ka HO 13; (case hx => exact ⟨rfl, rfl, rfl⟩); (case hk => decide +kernel); (case hrun => intro w_; (go_simp <;> first | with_reducible rfl | exact ⟨rfl, rfl⟩)); simp only [Act.put, Ly.p1, Ly.p2, Ly.p3])
      intro gz hg_ hfr
      have hf_gz := hfr
      clear hfr
      first
        | (apply Ly.ks HO 14 (g := gz); (case hx => exact ⟨rfl, rfl, rfl⟩); (case hk => decide +kernel); (case hF => exact fun h_ => h_); (case hG => exact fun _ _ h_ _ => h_); (case hg => (repeat (first | exact Ly.ua _ _ _ | rw [Ly.un _ _ (by omega)] | rw [Ly.am] | rw [Ly.fz]))); (case hrun => intro w_ hw_ hb_; obtain ⟨c0, c1, c2⟩ := Ly.cells3 hb_; obtain ⟨d0, d1, d2⟩ := Ly.froz3 hb_; refine ⟨?_, ?_, ?_, ?_⟩; rotate_left; (next => (go_simp <;> first | with_reducible rfl | rfl)); (next => (repeat (first | (with_reducible exact Ly.OnlyAt.refl _ _) | (with_reducible refine Ly.OnlyAt.set ?_ _ _)))); (next => (simp [World.setCell, Array.getElem?_modify, hb_] <;> rfl))); simp only [Act.put, Ly.p1, Ly.p2, Ly.p3])
      refine Ly.kd HO (by kernel_rfl) (fun hiv2 => hZ _ _ (fun Wz hw2 => ?_))
      clear hZ Z HO O
      have hrow := (Ly.RowAt.own (((HRb.out.upd hf_gz _).again (Ly.RowAt.ne HRb.out hf_gz) _)) hw2)
      have hss := HSRC.out.below HLT.out hw2.below
      have hgc := hMb gc _ (by rw [Ly.un _ _ (Ne.symm (Ly.St.fresh_upd hf_gs).1)]; exact Ly.ua _ _ _) (Ly.RowAt.ne HRa.out hf_gc)
      have hne : gc ≠ gz := by (rintro rfl; rw [show Mb gc = none from hf_gz] at hgc; cases hgc)
      have hx_ := hw2.holds gc _ (by rw [Ly.un _ _ hne, Ly.un _ _ hne]; exact hgc)
      have HX_ := Lib.hid hx_
      clear hgc hne hx_
      have hB_ := hw2.below
      have hG_ := hw2.holds gz _ (Ly.ua _ _ _)
      have Hrow := Lib.hid hrow
      have Hss := Lib.hid hss
      have HB_ := Lib.hid hB_
      have HG_ := Lib.hid hG_
      clear hrow hss hB_ hG_ hw2 hiv2 HIN p0 p1 p2
      try clear hwm
      go_wp2
      go_meet
      exact ⟨gz, .slice Ab_ nb_ cb_, rfl, HB_.out, HG_.out, HP.out.caps.keep HB_.out, HP.out.codes.keep HB_.out, append_R (d := kSite) (css := css) (x := newSite) (cs := [.slice (some ⟨gc, 0, none⟩) 1 1, .bool false]) (by (have e_ : [] ++ css.flatten ++ [.slice (some ⟨gc, 0, none⟩) 1 1, .bool false] = css.flatten ++ [.slice (some ⟨gc, 0, none⟩) 1 1, .bool false] := (by simp); have n_ : 0 + P.sites.length + 1 = P.sites.length + 1 := (by omega); have hrow := Hrow.out; rw [e_, n_] at hrow; exact hrow)) Hss.out.len Hss.out.szs Hss.out.says (⟨_, rfl, case_R HX_.out⟩) rfl (by have := HLS.out; omega)⟩
    case rest =>
      clear HSRC HLT HLS css HJ0 HY0 HY1 HY2 j0 p0 p1 p2 hpl
      obtain ⟨gb, yb, rfl, hgr⟩ := hcut
      obtain ⟨hb_, hh_, hr_⟩ := hgr
      replace HPB := Lib.hid ((hb_.block _ (Array.getElem?_eq_some_iff.1 HPB.out).1).trans HPB.out)
      replace HP := Lib.hid (HP.out.keep hb_)
      replace HB := Lib.hid (HB.out.trans (hb_.mono HB.out.size))
      replace HaB := Lib.hid ((hb_.block _ (Array.getElem?_eq_some_iff.1 HaB.out).1).trans HaB.out)
      replace HaP := Lib.hid (HaP.out.keep hb_)
      have HbB := Lib.hid hh_
      have HbP := Lib.hid hr_
      clear hb_ hh_ hr_
      obtain ⟨wB, rfl⟩ : ∃ wB : World, wB = wc := ⟨_, rfl⟩
      obtain ⟨j0, hj0, hy0, hy1, hy2⟩ := info_parts info_inss
      have HJ0 := Lib.hid hj0
      have HY0 := Lib.hid hy0
      have HY1 := Lib.hid hy1
      have HY2 := Lib.hid hy2
      clear hj0 hy0 hy1 hy2
      obtain ⟨css, hcss⟩ := R_src kd_code HP.out.codes
      have HSRC := Lib.hid hcss
      have HLT := Lib.hid (R_lt HP.out.codes)
      have HLS := Lib.hid (HSM.out.codes)
      clear hcss
      go_upto_region 11 with fail
      obtain ⟨p0, p1, p2⟩ := Ly.cells3 HPB.out
      have hpl : w.heap.size < wB.heap.size := (Array.getElem?_eq_some_iff.1 HPB.out).1
      go_cut [11] (fun t wx => ∃ g y, t = .pointer (some ⟨g, 0, none⟩) ∧ GrowI wB g (.slice A1 P.caps.length n1) y (.slice A3 P.sites.length n3) (moreCode P) wx)
      case first =>
        have HIN := Lib.hid (Ly.II.nil (Below.refl wB.heap.size wB))
        refine Ly.regionS (by kernel_rfl) (by kernel_rfl) HIN.out.1 HIN.out.2 (by simp only [List.size_toArray, List.length_cons, List.length_nil, Nat.reduceAdd]; rfl) (fun O Z hO hZ => ?_); have HO := Lib.hid hO; clear hO
        first
          | (apply Ly.kp HO 0; (case hx => exact ⟨rfl, rfl, rfl⟩); (case hk => decide +kernel); (case hv => intro w_ hw_; (go_simp <;> first | with_reducible rfl | exact ⟨rfl, rfl⟩)); simp only [Act.put, Ly.p1, Ly.p2, Ly.p3])
        first
          | (apply Ly.kf HO 1; (case hx => exact ⟨rfl, rfl, rfl⟩); (case hk => decide +kernel); (case hv => intro w_ hw_ hF_; have c_ := Below.at hw_ p0 hpl; (go_simp <;> first | with_reducible rfl | exact ⟨rfl, rfl⟩)); simp only [Act.put, Ly.p1, Ly.p2, Ly.p3])
        first
          | (apply Ly.kp HO 2; (case hx => exact ⟨rfl, rfl, rfl⟩); (case hk => decide +kernel); (case hv => intro w_ hw_; (go_simp <;> first | with_reducible rfl | exact ⟨rfl, rfl⟩)); simp only [Act.put, Ly.p1, Ly.p2, Ly.p3])
        first
          | (apply Ly.kf HO 3; (case hx => exact ⟨rfl, rfl, rfl⟩); (case hk => decide +kernel); (case hv => intro w_ hw_ hF_; have c_ := Below.at hw_ p1 hpl; (go_simp <;> first | with_reducible rfl | exact ⟨rfl, rfl⟩)); simp only [Act.put, Ly.p1, Ly.p2, Ly.p3])
        first
          | (apply Ly.kp HO 5; (case hx => exact ⟨rfl, rfl, rfl⟩); (case hk => decide +kernel); (case hv => intro w_ hw_; (go_simp <;> first | with_reducible rfl | exact ⟨rfl, rfl⟩)); simp only [Act.put, Ly.p1, Ly.p2, Ly.p3])
        first
          | (apply Ly.kp HO 9; (case hx => exact ⟨rfl, rfl, rfl⟩); (case hk => decide +kernel); (case hv => intro w_ hw_; (go_simp <;> first | with_reducible rfl | exact ⟨rfl, rfl⟩)); simp only [Act.put, Ly.p1, Ly.p2, Ly.p3])
        first
          | (apply Ly.kf HO 10; (case hx => exact ⟨rfl, rfl, rfl⟩); (case hk => decide +kernel); (case hv => intro w_ hw_ hF_; have c_ := Below.at hw_ p2 hpl; (go_simp <;> first | with_reducible rfl | exact ⟨rfl, rfl⟩)); simp only [Act.put, Ly.p1, Ly.p2, Ly.p3])
        first
          | (refine Ly.kapp HO 4 ?hk (Operand.const (Value.slice none 0 0)) (Operand.tmp 68) 41 ⟨rfl, rfl, rfl⟩ 54 j0 (.slice none 0 0) 1 24 Try.underlying41 HJ0.out HY0.out HY1.out HY2.out rfl (by decide) (.slice none 0 0) (0) ([]) rfl (Ly.RowAt.nil _ _ _) (fun _ _ h_ => h_) (.slice A2 P.codes.length n2) (P.codes.length) (css.flatten) rfl (fun w_ hw_ => (HSRC.out.below HLT.out hw_.below).src) (flatten_len css HSRC.out.szs |>.trans (by rw [HSRC.out.len]; rfl)) (by intro u hu; obtain ⟨cs, hc, hu⟩ := List.mem_flatten.1 hu; exact HSRC.out.one cs hc u hu) (by have := HLS.out; unfold maxLen; omega) (by have := HLS.out; omega) (fun _ _ h_ _ => h_) ?_; (case hk => decide +kernel))
        intro va Ma hrowa hMa
        obtain ⟨Aa_, na_, ca_, rfl⟩ := hrowa.val
        have HRa := Lib.hid hrowa
        clear hrowa
        simp only [Act.put, Ly.p1, Ly.p2, Ly.p3]
        first
          | (apply Ly.kn HO 6 (mk := fun n => .slice (some ⟨n, 0, none⟩) 1 1); (case hx => exact ⟨rfl, rfl, rfl⟩); (case hk => decide +kernel); (case hrun => intro w_; (go_simp <;> first | with_reducible rfl | exact ⟨rfl, rfl⟩)); simp only [Act.put, Ly.p1, Ly.p2, Ly.p3])
        intro gi hg_ hfr
        have hf_gi := hfr
        clear hfr
        first
          | (apply Ly.kn HO 7 (mk := fun n => .slice (some ⟨n, 0, none⟩) 1 1); (case hx => exact ⟨rfl, rfl, rfl⟩); (case hk => decide +kernel); (case hrun => intro w_; (go_simp <;> first | with_reducible rfl | exact ⟨rfl, rfl⟩)); simp only [Act.put, Ly.p1, Ly.p2, Ly.p3])
        intro gl hg_ hfr
        have hf_gl := hfr
        clear hfr
        first
          | (refine Ly.kapp HO 8 ?hk (Operand.tmp 69) (Operand.tmp 72) 41 ⟨rfl, rfl, rfl⟩ 54 j0 (.slice none 0 0) 1 24 Try.underlying41 HJ0.out HY0.out HY1.out HY2.out rfl (by decide) (.slice Aa_ na_ ca_) (0 + P.codes.length) ([] ++ css.flatten) rfl (Ly.RowAt.upd (Ly.RowAt.upd HRa.out hf_gi _) hf_gl _) (fun _ _ h_ => h_) (.slice (some ⟨gl, 0, none⟩) 1 1) (1) ([.slice (some ⟨gi, 0, none⟩) 1 1]) rfl (fun w_ hw_ => .inr ⟨_, _, rfl, World.news_of_block (cs := #[.slice (some ⟨gi, 0, none⟩) 1 1]) (hw_.holds gl _ (Ly.ua _ _ _))⟩) (rfl) (by simp [Value.oneCell']) (by have := HLS.out; unfold maxLen; omega) (by have := HLS.out; omega) (fun _ _ h_ _ => h_) ?_; (case hk => decide +kernel))
        intro vb Mb hrowb hMb
        obtain ⟨Ab_, nb_, cb_, rfl⟩ := hrowb.val
        have HRb := Lib.hid hrowb
        clear hrowb
        simp only [Act.put, Ly.p1, Ly.p2, Ly.p3]
        first
          | (apply Ly.kp HO 11; (case hx => exact ⟨rfl, rfl, rfl⟩); (case hk => decide +kernel); (case hv => intro w_ hw_; (go_simp <;> first | with_reducible rfl | exact ⟨rfl, rfl⟩)); simp only [Act.put, Ly.p1, Ly.p2, Ly.p3])
        first
          | (apply Ly.ka HO 12; (case hx => exact ⟨rfl, rfl, rfl⟩); (case hk => decide +kernel); (case hrun => intro w_; (go_simp <;> first | with_reducible rfl | exact ⟨rfl, rfl⟩)); simp only [Act.put, Ly.p1, Ly.p2, Ly.p3])
        intro gz hg_ hfr
        have hf_gz := hfr
        clear hfr
        first
          | (apply Ly.ks HO 13 (g := gz); (case hx => exact ⟨rfl, rfl, rfl⟩); (case hk => decide +kernel); (case hF => exact fun h_ => h_); (case hG => exact fun _ _ h_ _ => h_); (case hg => (repeat (first | exact Ly.ua _ _ _ | rw [Ly.un _ _ (by omega)] | rw [Ly.am] | rw [Ly.fz]))); (case hrun => intro w_ hw_ hb_; obtain ⟨c0, c1, c2⟩ := Ly.cells3 hb_; obtain ⟨d0, d1, d2⟩ := Ly.froz3 hb_; refine ⟨?_, ?_, ?_, ?_⟩; rotate_left; (next => (go_simp <;> first | with_reducible rfl | rfl)); (next => (repeat (first | (with_reducible exact Ly.OnlyAt.refl _ _) | (with_reducible refine Ly.OnlyAt.set ?_ _ _)))); (next => (simp [World.setCell, Array.getElem?_modify, hb_] <;> rfl))); simp only [Act.put, Ly.p1, Ly.p2, Ly.p3])
        refine Ly.kd HO (by kernel_rfl) (fun hiv2 => hZ _ _ (fun Wz hw2 => ?_))
        clear hZ Z HO O
        have hrow := (Ly.RowAt.own (((HRb.out.upd hf_gz _).again (Ly.RowAt.ne HRb.out hf_gz) _)) hw2)
        have hss := HSRC.out.below HLT.out hw2.below
        have hgc := hMb gi _ (by rw [Ly.un _ _ (Ne.symm (Ly.St.fresh_upd hf_gl).1)]; exact Ly.ua _ _ _) (Ly.RowAt.ne HRa.out hf_gi)
        have hne : gi ≠ gz := by (rintro rfl; rw [show Mb gi = none from hf_gz] at hgc; cases hgc)
        have hx_ := hw2.holds gi _ (by rw [Ly.un _ _ hne, Ly.un _ _ hne]; exact hgc)
        have HX_ := Lib.hid hx_
        clear hgc hne hx_
        have hB_ := hw2.below
        have hG_ := hw2.holds gz _ (Ly.ua _ _ _)
        have Hrow := Lib.hid hrow
        have Hss := Lib.hid hss
        have HB_ := Lib.hid hB_
        have HG_ := Lib.hid hG_
        clear hrow hss hB_ hG_ hw2 hiv2 HIN p0 p1 p2
        try clear hwm
        go_wp2
        go_meet
        exact ⟨gz, .slice Ab_ nb_ cb_, rfl, HB_.out, HG_.out, HP.out.caps.keep HB_.out, append_R (d := kIns.slice) (css := css) (x := [⟨10, 0, 0, 0, 0⟩]) (cs := [.slice (some ⟨gi, 0, none⟩) 1 1]) (by (have e_ : [] ++ css.flatten ++ [.slice (some ⟨gi, 0, none⟩) 1 1] = css.flatten ++ [.slice (some ⟨gi, 0, none⟩) 1 1] := (by simp); have n_ : 0 + P.codes.length + 1 = P.codes.length + 1 := (by omega); have hrow := Hrow.out; rw [e_, n_] at hrow; exact hrow)) Hss.out.len Hss.out.szs Hss.out.says (⟨_, rfl, ins1 (x := ⟨10, 0, 0, 0, 0⟩) HX_.out (by unfold InsV.wf U8 I64; decide)⟩) rfl (by have := HLS.out; omega), HP.out.sites.keep HB_.out⟩
      case rest =>
        clear HSRC HLT HLS css HJ0 HY0 HY1 HY2 j0 p0 p1 p2 hpl
        obtain ⟨gc, yc, rfl, hgr⟩ := hcut
        obtain ⟨hb_, hh_, hr_⟩ := hgr
        replace HPB := Lib.hid ((hb_.block _ (Array.getElem?_eq_some_iff.1 HPB.out).1).trans HPB.out)
        replace HP := Lib.hid (HP.out.keep hb_)
        replace HB := Lib.hid (HB.out.trans (hb_.mono HB.out.size))
        replace HaB := Lib.hid ((hb_.block _ (Array.getElem?_eq_some_iff.1 HaB.out).1).trans HaB.out)
        replace HaP := Lib.hid (HaP.out.keep hb_)
        replace HbB := Lib.hid ((hb_.block _ (Array.getElem?_eq_some_iff.1 HbB.out).1).trans HbB.out)
        replace HbP := Lib.hid (HbP.out.keep hb_)
        have HcB := Lib.hid hh_
        have HcP := Lib.hid hr_
        clear hb_ hh_ hr_
        obtain ⟨wC, rfl⟩ : ∃ wC : World, wC = wc := ⟨_, rfl⟩
        have hsa := sane_cap HS.out HMM.out.1 HMM.out.2
        unfold saneP at hsa
        have hka := fun (W : World) (h : RProg W ya (.slice A2 P.codes.length n2) (.slice A3 P.sites.length n3) (moreCap P (most.tmod 9))) => check_any _ _ _ _ W h
        simp only [tripV] at hka
        obtain ⟨ua1, ua2, ua3, hua⟩ : ∃ a b d, checkW (moreCap P (most.tmod 9)) = (a, b, d) := ⟨_, _, _, rfl⟩
        rw [hua] at hsa hka
        simp only at hsa hka
        clear hua
        have HCa := Lib.hid hka
        have HSa := Lib.hid hsa
        clear hka hsa
        obtain ⟨qa0, qa1, qa2⟩ := Ly.cells3 HaB.out
        have hla : ga < wC.heap.size := (Array.getElem?_eq_some_iff.1 HaB.out).1
        have hsb := sane_site HS.out
        unfold saneP at hsb
        have hkb := fun (W : World) (h : RProg W (.slice A1 P.caps.length n1) (.slice A2 P.codes.length n2) yb (moreSite P)) => check_any _ _ _ _ W h
        simp only [tripV] at hkb
        obtain ⟨ub1, ub2, ub3, hub⟩ : ∃ a b d, checkW (moreSite P) = (a, b, d) := ⟨_, _, _, rfl⟩
        rw [hub] at hsb hkb
        simp only at hsb hkb
        clear hub
        have HCb := Lib.hid hkb
        have HSb := Lib.hid hsb
        clear hkb hsb
        obtain ⟨qb0, qb1, qb2⟩ := Ly.cells3 HbB.out
        have hlb : gb < wC.heap.size := (Array.getElem?_eq_some_iff.1 HbB.out).1
        have hsc := sane_code HS.out
        unfold saneP at hsc
        have hkc := fun (W : World) (h : RProg W (.slice A1 P.caps.length n1) yc (.slice A3 P.sites.length n3) (moreCode P)) => check_any _ _ _ _ W h
        simp only [tripV] at hkc
        obtain ⟨uc1, uc2, uc3, huc⟩ : ∃ a b d, checkW (moreCode P) = (a, b, d) := ⟨_, _, _, rfl⟩
        rw [huc] at hsc hkc
        simp only at hsc hkc
        clear huc
        have HCc := Lib.hid hkc
        have HSc := Lib.hid hsc
        clear hkc hsc
        obtain ⟨qc0, qc1, qc2⟩ := Ly.cells3 HcB.out
        have hlc : gc < wC.heap.size := (Array.getElem?_eq_some_iff.1 HcB.out).1
        obtain ⟨p0, p1, p2⟩ := Ly.cells3 HPB.out
        have hpl : w.heap.size < wC.heap.size := (Array.getElem?_eq_some_iff.1 HPB.out).1
        have HIN := Lib.hid (Ly.II.nil (Below.refl wC.heap.size wC))
        go_upto_region 12 with fail
        refine Ly.regionS0 (by kernel_rfl) (by kernel_rfl) HIN.out.1 HIN.out.2 (by simp only [List.size_toArray, List.length_cons, List.length_nil, Nat.reduceAdd]; rfl) (fun O Z hO hZ => ?_); have HO := Lib.hid hO; clear hO
        first
          | (apply Ly.kf HO 0; (case hx => exact ⟨rfl, rfl, rfl⟩); (case hk => decide +kernel); (case hv => intro w_ hw_ hF_; have c0_ := Below.at hw_ qa0 hla; have c1_ := Below.at hw_ qa1 hla; have c2_ := Below.at hw_ qa2 hla; (go_simp <;> first | with_reducible rfl | exact ⟨rfl, rfl⟩)); simp only [Act.put, Ly.p1, Ly.p2, Ly.p3])
        first
          | (apply Ly.kc HO 1; (case hx => exact ⟨rfl, rfl, rfl⟩); (case hk => decide +kernel); (case hrun => intro w_; (go_simp <;> first | with_reducible rfl | exact ⟨rfl, rfl⟩)); (case hc => intro w_ hw_; with_reducible exact HCa.out _ (HaP.out.keep hw_.below)); simp only [Act.put, Ly.p1, Ly.p2, Ly.p3])
        first
          | (apply Ly.kp HO 2; (case hx => exact ⟨rfl, rfl, rfl⟩); (case hk => decide +kernel); (case hv => intro w_ hw_; (go_simp <;> first | with_reducible rfl | exact ⟨rfl, rfl⟩)); simp only [Act.put, Ly.p1, Ly.p2, Ly.p3])
        first
          | (apply Ly.kp HO 3; (case hx => exact ⟨rfl, rfl, rfl⟩); (case hk => decide +kernel); (case hv => intro w_ hw_; (go_simp <;> first | with_reducible rfl | exact ⟨rfl, rfl⟩)); simp only [Act.put, Ly.p1, Ly.p2, Ly.p3])
        first
          | (apply Ly.kp HO 4; (case hx => exact ⟨rfl, rfl, rfl⟩); (case hk => decide +kernel); (case hv => intro w_ hw_; (go_simp <;> first | with_reducible rfl | exact ⟨rfl, rfl⟩)); simp only [Act.put, Ly.p1, Ly.p2, Ly.p3])
        first
          | (apply Ly.kp HO 5; (case hx => exact ⟨rfl, rfl, rfl⟩); (case hk => decide +kernel); (case hv => intro w_ hw_; (go_simp <;> first | with_reducible rfl | exact ⟨rfl, rfl⟩)); simp only [Act.put, Ly.p1, Ly.p2, Ly.p3])
        first
          | (apply Ly.kp HO 6; (case hx => exact ⟨rfl, rfl, rfl⟩); (case hk => decide +kernel); (case hv => intro w_ hw_; (go_simp <;> first | with_reducible rfl | exact ⟨rfl, rfl⟩)); simp only [Act.put, Ly.p1, Ly.p2, Ly.p3])
        first
          | (apply Ly.kp HO 7; (case hx => exact ⟨rfl, rfl, rfl⟩); (case hk => decide +kernel); (case hv => intro w_ hw_; (go_simp <;> first | with_reducible rfl | exact ⟨rfl, rfl⟩)); simp only [Act.put, Ly.p1, Ly.p2, Ly.p3])
        first
          | (apply Ly.kp HO 8; (case hx => exact ⟨rfl, rfl, rfl⟩); (case hk => decide +kernel); (case hv => intro w_ hw_; (go_simp <;> first | with_reducible rfl | exact ⟨rfl, rfl⟩)); simp only [Act.put, Ly.p1, Ly.p2, Ly.p3])
        refine Ly.kd HO (by kernel_rfl) (fun hiv2 => hZ _ _ (fun W8 hw2 => ?_))
        clear hZ Z HO O
        have hin_ := Lib.hid (And.intro hw2 hiv2 : Ly.II _ _ _ _)
        clear hw2 hiv2
        replace HIN := Lib.hid (Ly.II.nil hin_.out.1.below)
        clear hin_
        go_upto_region 13 with fail
        refine Ly.regionS0 (by kernel_rfl) (by kernel_rfl) HIN.out.1 HIN.out.2 (by simp only [List.size_toArray, List.length_cons, List.length_nil, Nat.reduceAdd]; rfl) (fun O Z hO hZ => ?_); have HO := Lib.hid hO; clear hO
        first
          | (apply Ly.kf HO 0; (case hx => exact ⟨rfl, rfl, rfl⟩); (case hk => decide +kernel); (case hv => intro w_ hw_ hF_; have c0_ := Below.at hw_ qb0 hlb; have c1_ := Below.at hw_ qb1 hlb; have c2_ := Below.at hw_ qb2 hlb; (go_simp <;> first | with_reducible rfl | exact ⟨rfl, rfl⟩)); simp only [Act.put, Ly.p1, Ly.p2, Ly.p3])
        first
          | (apply Ly.kc HO 1; (case hx => exact ⟨rfl, rfl, rfl⟩); (case hk => decide +kernel); (case hrun => intro w_; (go_simp <;> first | with_reducible rfl | exact ⟨rfl, rfl⟩)); (case hc => intro w_ hw_; with_reducible exact HCb.out _ (HbP.out.keep hw_.below)); simp only [Act.put, Ly.p1, Ly.p2, Ly.p3])
        first
          | (apply Ly.kp HO 2; (case hx => exact ⟨rfl, rfl, rfl⟩); (case hk => decide +kernel); (case hv => intro w_ hw_; (go_simp <;> first | with_reducible rfl | exact ⟨rfl, rfl⟩)); simp only [Act.put, Ly.p1, Ly.p2, Ly.p3])
        first
          | (apply Ly.kp HO 3; (case hx => exact ⟨rfl, rfl, rfl⟩); (case hk => decide +kernel); (case hv => intro w_ hw_; (go_simp <;> first | with_reducible rfl | exact ⟨rfl, rfl⟩)); simp only [Act.put, Ly.p1, Ly.p2, Ly.p3])
        first
          | (apply Ly.kp HO 4; (case hx => exact ⟨rfl, rfl, rfl⟩); (case hk => decide +kernel); (case hv => intro w_ hw_; (go_simp <;> first | with_reducible rfl | exact ⟨rfl, rfl⟩)); simp only [Act.put, Ly.p1, Ly.p2, Ly.p3])
        first
          | (apply Ly.kp HO 5; (case hx => exact ⟨rfl, rfl, rfl⟩); (case hk => decide +kernel); (case hv => intro w_ hw_; (go_simp <;> first | with_reducible rfl | exact ⟨rfl, rfl⟩)); simp only [Act.put, Ly.p1, Ly.p2, Ly.p3])
        first
          | (apply Ly.kp HO 6; (case hx => exact ⟨rfl, rfl, rfl⟩); (case hk => decide +kernel); (case hv => intro w_ hw_; (go_simp <;> first | with_reducible rfl | exact ⟨rfl, rfl⟩)); simp only [Act.put, Ly.p1, Ly.p2, Ly.p3])
        first
          | (apply Ly.kp HO 7; (case hx => exact ⟨rfl, rfl, rfl⟩); (case hk => decide +kernel); (case hv => intro w_ hw_; (go_simp <;> first | with_reducible rfl | exact ⟨rfl, rfl⟩)); simp only [Act.put, Ly.p1, Ly.p2, Ly.p3])
        first
          | (apply Ly.kp HO 8; (case hx => exact ⟨rfl, rfl, rfl⟩); (case hk => decide +kernel); (case hv => intro w_ hw_; (go_simp <;> first | with_reducible rfl | exact ⟨rfl, rfl⟩)); simp only [Act.put, Ly.p1, Ly.p2, Ly.p3])
        refine Ly.kd HO (by kernel_rfl) (fun hiv2 => hZ _ _ (fun W9 hw2 => ?_))
        clear hZ Z HO O
        have hin_ := Lib.hid (And.intro hw2 hiv2 : Ly.II _ _ _ _)
        clear hw2 hiv2
        replace HIN := Lib.hid (Ly.II.nil hin_.out.1.below)
        clear hin_
        go_upto_region 14 with fail
        refine Ly.regionS0 (by kernel_rfl) (by kernel_rfl) HIN.out.1 HIN.out.2 (by simp only [List.size_toArray, List.length_cons, List.length_nil, Nat.reduceAdd]; rfl) (fun O Z hO hZ => ?_); have HO := Lib.hid hO; clear hO
        first
          | (apply Ly.kf HO 0; (case hx => exact ⟨rfl, rfl, rfl⟩); (case hk => decide +kernel); (case hv => intro w_ hw_ hF_; have c0_ := Below.at hw_ qc0 hlc; have c1_ := Below.at hw_ qc1 hlc; have c2_ := Below.at hw_ qc2 hlc; (go_simp <;> first | with_reducible rfl | exact ⟨rfl, rfl⟩)); simp only [Act.put, Ly.p1, Ly.p2, Ly.p3])
        first
          | (apply Ly.kc HO 1; (case hx => exact ⟨rfl, rfl, rfl⟩); (case hk => decide +kernel); (case hrun => intro w_; (go_simp <;> first | with_reducible rfl | exact ⟨rfl, rfl⟩)); (case hc => intro w_ hw_; with_reducible exact HCc.out _ (HcP.out.keep hw_.below)); simp only [Act.put, Ly.p1, Ly.p2, Ly.p3])
        first
          | (apply Ly.kp HO 2; (case hx => exact ⟨rfl, rfl, rfl⟩); (case hk => decide +kernel); (case hv => intro w_ hw_; (go_simp <;> first | with_reducible rfl | exact ⟨rfl, rfl⟩)); simp only [Act.put, Ly.p1, Ly.p2, Ly.p3])
        first
          | (apply Ly.kp HO 3; (case hx => exact ⟨rfl, rfl, rfl⟩); (case hk => decide +kernel); (case hv => intro w_ hw_; (go_simp <;> first | with_reducible rfl | exact ⟨rfl, rfl⟩)); simp only [Act.put, Ly.p1, Ly.p2, Ly.p3])
        first
          | (apply Ly.kp HO 4; (case hx => exact ⟨rfl, rfl, rfl⟩); (case hk => decide +kernel); (case hv => intro w_ hw_; (go_simp <;> first | with_reducible rfl | exact ⟨rfl, rfl⟩)); simp only [Act.put, Ly.p1, Ly.p2, Ly.p3])
        first
          | (apply Ly.kp HO 5; (case hx => exact ⟨rfl, rfl, rfl⟩); (case hk => decide +kernel); (case hv => intro w_ hw_; (go_simp <;> first | with_reducible rfl | exact ⟨rfl, rfl⟩)); simp only [Act.put, Ly.p1, Ly.p2, Ly.p3])
        first
          | (apply Ly.kp HO 6; (case hx => exact ⟨rfl, rfl, rfl⟩); (case hk => decide +kernel); (case hv => intro w_ hw_; (go_simp <;> first | with_reducible rfl | exact ⟨rfl, rfl⟩)); simp only [Act.put, Ly.p1, Ly.p2, Ly.p3])
        first
          | (apply Ly.kp HO 7; (case hx => exact ⟨rfl, rfl, rfl⟩); (case hk => decide +kernel); (case hv => intro w_ hw_; (go_simp <;> first | with_reducible rfl | exact ⟨rfl, rfl⟩)); simp only [Act.put, Ly.p1, Ly.p2, Ly.p3])
        first
          | (apply Ly.kp HO 8; (case hx => exact ⟨rfl, rfl, rfl⟩); (case hk => decide +kernel); (case hv => intro w_ hw_; (go_simp <;> first | with_reducible rfl | exact ⟨rfl, rfl⟩)); simp only [Act.put, Ly.p1, Ly.p2, Ly.p3])
        refine Ly.kd HO (by kernel_rfl) (fun hiv2 => hZ _ _ (fun W10 hw2 => ?_))
        clear hZ Z HO O
        have hin_ := Lib.hid (And.intro hw2 hiv2 : Ly.II _ _ _ _)
        clear hw2 hiv2
        replace HIN := Lib.hid (Ly.II.nil hin_.out.1.below)
        clear hin_
        obtain ⟨ba, hsa, hta⟩ : ∃ b, (ua3 == 0) = b ∧ decide ((P.caps.length : Int) < 6) = b := ⟨_, rfl, by rw [HSa.out]; simp only [decide_eq_decide]; omega⟩
        obtain ⟨bb, hsb, htb⟩ : ∃ b, (ub3 == 0) = b ∧ decide ((P.sites.length : Int) < 12) = b := ⟨_, rfl, by rw [HSb.out]; simp only [decide_eq_decide]; omega⟩
        obtain ⟨bc, hsc, htc⟩ : ∃ b, (uc3 == 0) = b ∧ decide ((P.codes.length : Int) < 8) = b := ⟨_, rfl, by rw [HSc.out]; simp only [decide_eq_decide]; omega⟩
        go_upto_region 15 with fail
        refine Ly.regionS0 (by kernel_rfl) (by kernel_rfl) HIN.out.1 HIN.out.2 (by simp only [List.size_toArray, List.length_cons, List.length_nil, Nat.reduceAdd]; rfl) (fun O Z hO hZ => ?_); have HO := Lib.hid hO; clear hO
        first
          | (apply Ly.kp HO 0; (case hx => exact ⟨rfl, rfl, rfl⟩); (case hk => decide +kernel); (case hv => intro w_ hw_; (go_simp <;> first | with_reducible rfl | exact ⟨rfl, rfl⟩)); simp only [Act.put, Ly.p1, Ly.p2, Ly.p3])
        first
          | (apply Ly.kp HO 1; (case hx => exact ⟨rfl, rfl, rfl⟩); (case hk => decide +kernel); (case hv => intro w_ hw_; (go_simp <;> first | with_reducible rfl | exact ⟨rfl, rfl⟩)); simp only [Act.put, Ly.p1, Ly.p2, Ly.p3])
        first
          | (apply Ly.kp HO 2; (case hx => exact ⟨rfl, rfl, rfl⟩); (case hk => decide +kernel); (case hv => intro w_ hw_; (go_simp <;> first | with_reducible rfl | exact ⟨rfl, rfl⟩)); simp only [Act.put, Ly.p1, Ly.p2, Ly.p3])
        first
          | (apply Ly.kf HO 3; (case hx => exact ⟨rfl, rfl, rfl⟩); (case hk => decide +kernel); (case hv => intro w_ hw_ hF_; have c0_ := Below.at hw_ p0 hpl; have c1_ := Below.at hw_ p1 hpl; have c2_ := Below.at hw_ p2 hpl; (go_simp <;> first | with_reducible rfl | exact ⟨rfl, rfl⟩)); simp only [Act.put, Ly.p1, Ly.p2, Ly.p3])
        first
          | (apply Ly.kr HO 4; (case hx => exact ⟨rfl, rfl, rfl⟩); (case hk => decide +kernel); (case hv => intro w_ hw_; skip; (go_simp <;> first | with_reducible rfl | exact ⟨rfl, rfl⟩)); simp only [Act.put, Ly.p1, Ly.p2, Ly.p3])
        first
          | (apply Ly.kp HO 5; (case hx => exact ⟨rfl, rfl, rfl⟩); (case hk => decide +kernel); (case hv => intro w_ hw_; (go_simp <;> first | with_reducible rfl | exact ⟨rfl, rfl⟩)); simp only [Act.put, Ly.p1, Ly.p2, Ly.p3])
        first
          | (apply Ly.kp HO 6; (case hx => exact ⟨rfl, rfl, rfl⟩); (case hk => decide +kernel); (case hv => intro w_ hw_; (go_simp <;> first | with_reducible rfl | exact ⟨rfl, rfl⟩)); simp only [Act.put, Ly.p1, Ly.p2, Ly.p3])
        first
          | (apply Ly.kp HO 7; (case hx => exact ⟨rfl, rfl, rfl⟩); (case hk => decide +kernel); (case hv => intro w_ hw_; (go_simp <;> first | with_reducible rfl | exact ⟨rfl, rfl⟩)); simp only [Act.put, Ly.p1, Ly.p2, Ly.p3])
        first
          | (apply Ly.kp HO 8; (case hx => exact ⟨rfl, rfl, rfl⟩); (case hk => decide +kernel); (case hv => intro w_ hw_; (go_simp <;> first | with_reducible rfl | exact ⟨rfl, rfl⟩)); simp only [Act.put, Ly.p1, Ly.p2, Ly.p3])
        first
          | (apply Ly.kp HO 9; (case hx => exact ⟨rfl, rfl, rfl⟩); (case hk => decide +kernel); (case hv => intro w_ hw_; (go_simp <;> first | with_reducible rfl | exact ⟨rfl, rfl⟩)); simp only [Act.put, Ly.p1, Ly.p2, Ly.p3])
        first
          | (apply Ly.kp HO 10; (case hx => exact ⟨rfl, rfl, rfl⟩); (case hk => decide +kernel); (case hv => intro w_ hw_; (go_simp <;> first | with_reducible rfl | exact ⟨rfl, rfl⟩)); simp only [Act.put, Ly.p1, Ly.p2, Ly.p3])
        first
          | (apply Ly.kf HO 11; (case hx => exact ⟨rfl, rfl, rfl⟩); (case hk => decide +kernel); (case hv => intro w_ hw_ hF_; have c0_ := Below.at hw_ p0 hpl; have c1_ := Below.at hw_ p1 hpl; have c2_ := Below.at hw_ p2 hpl; (go_simp <;> first | with_reducible rfl | exact ⟨rfl, rfl⟩)); simp only [Act.put, Ly.p1, Ly.p2, Ly.p3])
        first
          | (apply Ly.kr HO 12; (case hx => exact ⟨rfl, rfl, rfl⟩); (case hk => decide +kernel); (case hv => intro w_ hw_; skip; (go_simp <;> first | with_reducible rfl | exact ⟨rfl, rfl⟩)); simp only [Act.put, Ly.p1, Ly.p2, Ly.p3])
        first
          | (apply Ly.kp HO 13; (case hx => exact ⟨rfl, rfl, rfl⟩); (case hk => decide +kernel); (case hv => intro w_ hw_; (go_simp <;> first | with_reducible rfl | exact ⟨rfl, rfl⟩)); simp only [Act.put, Ly.p1, Ly.p2, Ly.p3])
        first
          | (apply Ly.kp HO 14; (case hx => exact ⟨rfl, rfl, rfl⟩); (case hk => decide +kernel); (case hv => intro w_ hw_; (go_simp <;> first | with_reducible rfl | exact ⟨rfl, rfl⟩)); simp only [Act.put, Ly.p1, Ly.p2, Ly.p3])
        first
          | (apply Ly.kp HO 15; (case hx => exact ⟨rfl, rfl, rfl⟩); (case hk => decide +kernel); (case hv => intro w_ hw_; (go_simp <;> first | with_reducible rfl | exact ⟨rfl, rfl⟩)); simp only [Act.put, Ly.p1, Ly.p2, Ly.p3])
        first
          | (apply Ly.kp HO 16; (case hx => exact ⟨rfl, rfl, rfl⟩); (case hk => decide +kernel); (case hv => intro w_ hw_; (go_simp <;> first | with_reducible rfl | exact ⟨rfl, rfl⟩)); simp only [Act.put, Ly.p1, Ly.p2, Ly.p3])
        first
          | (apply Ly.kp HO 17; (case hx => exact ⟨rfl, rfl, rfl⟩); (case hk => decide +kernel); (case hv => intro w_ hw_; (go_simp <;> first | with_reducible rfl | exact ⟨rfl, rfl⟩)); simp only [Act.put, Ly.p1, Ly.p2, Ly.p3])
        first
          | (apply Ly.kp HO 18; (case hx => exact ⟨rfl, rfl, rfl⟩); (case hk => decide +kernel); (case hv => intro w_ hw_; (go_simp <;> first | with_reducible rfl | exact ⟨rfl, rfl⟩)); simp only [Act.put, Ly.p1, Ly.p2, Ly.p3])
        first
          | (apply Ly.kp HO 19; (case hx => exact ⟨rfl, rfl, rfl⟩); (case hk => decide +kernel); (case hv => intro w_ hw_; (go_simp <;> first | with_reducible rfl | exact ⟨rfl, rfl⟩)); simp only [Act.put, Ly.p1, Ly.p2, Ly.p3])
        first
          | (apply Ly.kf HO 20; (case hx => exact ⟨rfl, rfl, rfl⟩); (case hk => decide +kernel); (case hv => intro w_ hw_ hF_; have c0_ := Below.at hw_ p0 hpl; have c1_ := Below.at hw_ p1 hpl; have c2_ := Below.at hw_ p2 hpl; (go_simp <;> first | with_reducible rfl | exact ⟨rfl, rfl⟩)); simp only [Act.put, Ly.p1, Ly.p2, Ly.p3])
        first
          | (apply Ly.kr HO 21; (case hx => exact ⟨rfl, rfl, rfl⟩); (case hk => decide +kernel); (case hv => intro w_ hw_; skip; (go_simp <;> first | with_reducible rfl | exact ⟨rfl, rfl⟩)); simp only [Act.put, Ly.p1, Ly.p2, Ly.p3])
        first
          | (apply Ly.kp HO 22; (case hx => exact ⟨rfl, rfl, rfl⟩); (case hk => decide +kernel); (case hv => intro w_ hw_; (go_simp <;> first | with_reducible rfl | exact ⟨rfl, rfl⟩)); simp only [Act.put, Ly.p1, Ly.p2, Ly.p3])
        first
          | (apply Ly.kp HO 23; (case hx => exact ⟨rfl, rfl, rfl⟩); (case hk => decide +kernel); (case hv => intro w_ hw_; (go_simp <;> first | with_reducible rfl | exact ⟨rfl, rfl⟩)); simp only [Act.put, Ly.p1, Ly.p2, Ly.p3])
        first
          | (apply Ly.kp HO 24; (case hx => exact ⟨rfl, rfl, rfl⟩); (case hk => decide +kernel); (case hv => intro w_ hw_; (go_simp <;> first | with_reducible rfl | exact ⟨rfl, rfl⟩)); simp only [Act.put, Ly.p1, Ly.p2, Ly.p3])
        first
          | (apply Ly.kp HO 25; (case hx => exact ⟨rfl, rfl, rfl⟩); (case hk => decide +kernel); (case hv => intro w_ hw_; (go_simp <;> first | with_reducible rfl | exact ⟨rfl, rfl⟩)); simp only [Act.put, Ly.p1, Ly.p2, Ly.p3])
        first
          | (apply Ly.kf HO 26; (case hx => exact ⟨rfl, rfl, rfl⟩); (case hk => decide +kernel); (case hv => intro w_ hw_ hF_; have c0_ := Below.at hw_ qa0 hla; have c1_ := Below.at hw_ qa1 hla; have c2_ := Below.at hw_ qa2 hla; (go_simp <;> first | with_reducible rfl | exact ⟨rfl, rfl⟩)); simp only [Act.put, Ly.p1, Ly.p2, Ly.p3])
        first
          | (apply Ly.kf HO 27; (case hx => exact ⟨rfl, rfl, rfl⟩); (case hk => decide +kernel); (case hv => intro w_ hw_ hF_; have c0_ := Below.at hw_ p0 hpl; have c1_ := Below.at hw_ p1 hpl; have c2_ := Below.at hw_ p2 hpl; (go_simp <;> first | with_reducible rfl | exact ⟨rfl, rfl⟩)); simp only [Act.put, Ly.p1, Ly.p2, Ly.p3])
        first
          | (apply Ly.kc HO 28; (case hx => exact ⟨rfl, rfl, rfl⟩); (case hk => decide +kernel); (case hrun => intro w_; (go_simp <;> first | with_reducible rfl | exact ⟨rfl, rfl⟩)); (case hc => intro w_ hw_; with_reducible exact same_no (cap_ne P _) (HaP.out.keep hw_.below) (HP.out.keep hw_.below)); simp only [Act.put, Ly.p1, Ly.p2, Ly.p3])
        first
          | (apply Ly.kp HO 29; (case hx => exact ⟨rfl, rfl, rfl⟩); (case hk => decide +kernel); (case hv => intro w_ hw_; (go_simp <;> first | with_reducible rfl | exact ⟨rfl, rfl⟩)); simp only [Act.put, Ly.p1, Ly.p2, Ly.p3])
        first
          | (apply Ly.kp HO 30; (case hx => exact ⟨rfl, rfl, rfl⟩); (case hk => decide +kernel); (case hv => intro w_ hw_; (go_simp <;> first | with_reducible rfl | exact ⟨rfl, rfl⟩)); simp only [Act.put, Ly.p1, Ly.p2, Ly.p3])
        first
          | (apply Ly.kp HO 31; (case hx => exact ⟨rfl, rfl, rfl⟩); (case hk => decide +kernel); (case hv => intro w_ hw_; (go_simp <;> first | with_reducible rfl | exact ⟨rfl, rfl⟩)); simp only [Act.put, Ly.p1, Ly.p2, Ly.p3])
        first
          | (apply Ly.kf HO 32; (case hx => exact ⟨rfl, rfl, rfl⟩); (case hk => decide +kernel); (case hv => intro w_ hw_ hF_; have c0_ := Below.at hw_ qb0 hlb; have c1_ := Below.at hw_ qb1 hlb; have c2_ := Below.at hw_ qb2 hlb; (go_simp <;> first | with_reducible rfl | exact ⟨rfl, rfl⟩)); simp only [Act.put, Ly.p1, Ly.p2, Ly.p3])
        first
          | (apply Ly.kf HO 33; (case hx => exact ⟨rfl, rfl, rfl⟩); (case hk => decide +kernel); (case hv => intro w_ hw_ hF_; have c0_ := Below.at hw_ p0 hpl; have c1_ := Below.at hw_ p1 hpl; have c2_ := Below.at hw_ p2 hpl; (go_simp <;> first | with_reducible rfl | exact ⟨rfl, rfl⟩)); simp only [Act.put, Ly.p1, Ly.p2, Ly.p3])
        first
          | (apply Ly.kc HO 34; (case hx => exact ⟨rfl, rfl, rfl⟩); (case hk => decide +kernel); (case hrun => intro w_; (go_simp <;> first | with_reducible rfl | exact ⟨rfl, rfl⟩)); (case hc => intro w_ hw_; with_reducible exact same_no (site_ne P) (HbP.out.keep hw_.below) (HP.out.keep hw_.below)); simp only [Act.put, Ly.p1, Ly.p2, Ly.p3])
        first
          | (apply Ly.kp HO 35; (case hx => exact ⟨rfl, rfl, rfl⟩); (case hk => decide +kernel); (case hv => intro w_ hw_; (go_simp <;> first | with_reducible rfl | exact ⟨rfl, rfl⟩)); simp only [Act.put, Ly.p1, Ly.p2, Ly.p3])
        first
          | (apply Ly.kp HO 36; (case hx => exact ⟨rfl, rfl, rfl⟩); (case hk => decide +kernel); (case hv => intro w_ hw_; (go_simp <;> first | with_reducible rfl | exact ⟨rfl, rfl⟩)); simp only [Act.put, Ly.p1, Ly.p2, Ly.p3])
        first
          | (apply Ly.kp HO 37; (case hx => exact ⟨rfl, rfl, rfl⟩); (case hk => decide +kernel); (case hv => intro w_ hw_; (go_simp <;> first | with_reducible rfl | exact ⟨rfl, rfl⟩)); simp only [Act.put, Ly.p1, Ly.p2, Ly.p3])
        first
          | (apply Ly.kf HO 38; (case hx => exact ⟨rfl, rfl, rfl⟩); (case hk => decide +kernel); (case hv => intro w_ hw_ hF_; have c0_ := Below.at hw_ qc0 hlc; have c1_ := Below.at hw_ qc1 hlc; have c2_ := Below.at hw_ qc2 hlc; (go_simp <;> first | with_reducible rfl | exact ⟨rfl, rfl⟩)); simp only [Act.put, Ly.p1, Ly.p2, Ly.p3])
        first
          | (apply Ly.kf HO 39; (case hx => exact ⟨rfl, rfl, rfl⟩); (case hk => decide +kernel); (case hv => intro w_ hw_ hF_; have c0_ := Below.at hw_ p0 hpl; have c1_ := Below.at hw_ p1 hpl; have c2_ := Below.at hw_ p2 hpl; (go_simp <;> first | with_reducible rfl | exact ⟨rfl, rfl⟩)); simp only [Act.put, Ly.p1, Ly.p2, Ly.p3])
        first
          | (apply Ly.kc HO 40; (case hx => exact ⟨rfl, rfl, rfl⟩); (case hk => decide +kernel); (case hrun => intro w_; (go_simp <;> first | with_reducible rfl | exact ⟨rfl, rfl⟩)); (case hc => intro w_ hw_; with_reducible exact same_no (code_ne P) (HcP.out.keep hw_.below) (HP.out.keep hw_.below)); simp only [Act.put, Ly.p1, Ly.p2, Ly.p3])
        first
          | (apply Ly.kp HO 41; (case hx => exact ⟨rfl, rfl, rfl⟩); (case hk => decide +kernel); (case hv => intro w_ hw_; (go_simp <;> first | with_reducible rfl | exact ⟨rfl, rfl⟩)); simp only [Act.put, Ly.p1, Ly.p2, Ly.p3])
        first
          | (apply Ly.kp HO 42; (case hx => exact ⟨rfl, rfl, rfl⟩); (case hk => decide +kernel); (case hv => intro w_ hw_; (go_simp <;> first | with_reducible rfl | exact ⟨rfl, rfl⟩)); simp only [Act.put, Ly.p1, Ly.p2, Ly.p3])
        first
          | (apply Ly.kp HO 43; (case hx => exact ⟨rfl, rfl, rfl⟩); (case hk => decide +kernel); (case hv => intro w_ hw_; (go_simp <;> first | with_reducible rfl | exact ⟨rfl, rfl⟩)); simp only [Act.put, Ly.p1, Ly.p2, Ly.p3])
        first
          | (apply Ly.kc HO 44; (case hx => exact ⟨rfl, rfl, rfl⟩); (case hk => decide +kernel); (case hrun => intro w_; (go_simp <;> first | with_reducible rfl | exact ⟨rfl, rfl⟩)); (case hc => intro w_ hw_; exact HAL.out _); simp only [Act.put, Ly.p1, Ly.p2, Ly.p3])
        first
          | (apply Ly.kp HO 45; (case hx => exact ⟨rfl, rfl, rfl⟩); (case hk => decide +kernel); (case hv => intro w_ hw_; (go_simp <;> first | with_reducible rfl | exact ⟨rfl, rfl⟩)); simp only [Act.put, Ly.p1, Ly.p2, Ly.p3])
        first
          | (apply Ly.kp HO 46; (case hx => exact ⟨rfl, rfl, rfl⟩); (case hk => decide +kernel); (case hv => intro w_ hw_; (go_simp <;> first | with_reducible rfl | exact ⟨rfl, rfl⟩)); simp only [Act.put, Ly.p1, Ly.p2, Ly.p3])
        refine Ly.kd HO (by kernel_rfl) (fun hiv2 => hZ _ _ (fun W11 hw2 => ?_))
        clear hZ Z HO O
        have hin_ := Lib.hid (And.intro hw2 hiv2 : Ly.II _ _ _ _)
        clear hw2 hiv2
        replace HIN := Lib.hid (Ly.II.nil hin_.out.1.below)
        clear hin_
        clear hsa hsb hsc hta htb htc
        go_wp2
        go_ret
        exact ⟨rfl, HB.out.trans (HIN.out.1.below.mono HB.out.size)⟩
theorem progGrows_any {c1 c2 c3 : Value} {P : ProgV} {w : World} (h : RProg w c1 c2 c3 P) (most : Int) (hm : 0 ≤ most ∧ most ≤ 255) :
    Calls Try.prog 6 #[.agg #[c1, c2, c3], .int .u8 most] w fun e w' => e = .returned (.bool true) ∧ Below w.heap.size w w' := by
  cases hs : saneP P with
  | false => exact progGrows_false h most hs
  | true => exact progGrows_true h most hm hs
end Go.Proofs.Ytljfloopjgpaeaa
