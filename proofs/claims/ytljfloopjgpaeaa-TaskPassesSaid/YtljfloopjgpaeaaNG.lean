/- tollbarlaw11.alive. -/
import Derived.Test.YtljfloopjgpaeaaNF
import Derived.Test.YtljfloopjgpaeaaQD
namespace Go.Proofs.Ytljfloopjgpaeaa
set_option linter.unusedVariables false
set_option linter.unusedSimpArgs false
open Go.RowKit
attribute [local go_sem] Oper.semAt_some
set_option maxRecDepth 100000

theorem ins1 {W : World} {g : Nat} {x : InsV} (h : W.heap[g]? = some (.cells #[.int .u8 x.op, .int .i64 x.a, .int .i64 x.b, .int .i64 x.ch, .int .i64 x.k] 56 (0, 0))) (hx : x.wf) : kIns.R W (.slice (some ⟨g, 0, none⟩) 1 1) [x] :=
  flat_block (f := InsV.cells) (Q := InsV.wf) (l := [x]) (fun _ => rfl) h rfl (by simpa using hx) (by simp) (by decide) (by simp)
theorem ins2 {W : World} {g : Nat} {x y : InsV} (h : W.heap[g]? = some (.cells #[.int .u8 x.op, .int .i64 x.a, .int .i64 x.b, .int .i64 x.ch, .int .i64 x.k, .int .u8 y.op, .int .i64 y.a, .int .i64 y.b, .int .i64 y.ch, .int .i64 y.k] 56 (0, 0))) (hx : x.wf) (hy : y.wf) : kIns.R W (.slice (some ⟨g, 0, none⟩) 2 2) [x, y] :=
  flat_block (f := InsV.cells) (Q := InsV.wf) (l := [x, y]) (fun _ => rfl) h rfl (by simpa using ⟨hx, hy⟩) (by simp) (by decide) (by simp)
theorem codeR_ok (l : List InsV) : (∃ v φ, codeR l v φ) ∧ ∀ v φ, codeR l v φ → Lx.Stable φ :=
  ⟨⟨_, _, 0, rfl, rfl⟩, by rintro _ _ ⟨g, rfl, rfl⟩; exact fun w w' h hb => h.keep hb⟩
def copyR (P : ProgV) (v : Value) (φ : World → Prop) : Prop := ∃ c1 c2 c3, v = .agg #[c1, c2, c3] ∧ φ = fun w => RProg w c1 c2 c3 P
theorem copyR_ok (P : ProgV) : (∃ v φ, copyR P v φ) ∧ ∀ v φ, copyR P v φ → Lx.Stable φ :=
  ⟨⟨_, _, undef, undef, undef, rfl, rfl⟩, by rintro _ _ ⟨_, _, _, rfl, rfl⟩; exact fun w w' h hb => h.keep hb⟩
/-- Of no great size. -/
structure Small (P : ProgV) : Prop where
  caps : P.caps.length ≤ 1000000
  codes : P.codes.length ≤ 1000000
  sites : P.sites.length ≤ 1000000
  code : ∀ l ∈ P.codes, l.length ≤ 1000000
  site : ∀ s ∈ P.sites, s.cases.length ≤ 1000000
theorem slice_wf {α : Type} {d : Kn α} {w : World} {v : Value} {l : List (List α)} (h : d.slice.R w v l) : ∀ x ∈ l, ∃ v', d.R w v' x := fun x hx => by
  obtain ⟨A, c, rfl, _, _, _, hh⟩ := h
  obtain ⟨i, hi, rfl⟩ := List.getElem_of_mem hx
  obtain ⟨b, o, _, _, h3⟩ := hh (by omega)
  obtain ⟨cs, ⟨v', _, hq⟩, _⟩ := h3 i l[i] (List.getElem?_eq_getElem hi)
  exact ⟨v', hq⟩
theorem site_wf {w : World} {v : Value} {l : List SiteV} (h : kSite.R w v l) : ∀ x ∈ l, ∃ v', kCase.R w v' x.cases := fun x hx => by
  obtain ⟨A, c, rfl, _, _, _, hh⟩ := h
  obtain ⟨i, hi, rfl⟩ := List.getElem_of_mem hx
  obtain ⟨b, o, _, _, h3⟩ := hh (by omega)
  obtain ⟨cs, ⟨v', _, hq⟩, _⟩ := h3 i l[i] (List.getElem?_eq_getElem hi)
  exact ⟨v', hq⟩
theorem OwnAt.prog {w w0 : World} {B : Nat} {x1 x2 x3 c1 c2 c3 : Value} {P : ProgV} (h : OwnAt w B x1 x2 x3 P P.codes.length P.sites.length) (h0 : RProg w0 c1 c2 c3 P) (hs : Small P) : RProg w x1 x2 x3 P :=
  h.reads (R_wf h0.caps) (fun l hl => by obtain ⟨v, hv⟩ := slice_wf h0.codes l hl; exact R_wf hv) (fun s hs => by obtain ⟨v, hv⟩ := site_wf h0.sites s hs; exact R_wf hv) (by have := hs.caps; omega) (by have := hs.codes; omega) (by have := hs.sites; omega) (fun l hl => by have := hs.code l hl; omega) (fun s h => by have := hs.site s h; omega)
theorem copyR_any {w : World} {c1 c2 c3 : Value} {P : ProgV} (h : RProg w c1 c2 c3 P) (hs : Small P) :
    Calls Try.prog 26 #[.agg #[c1, c2, c3]] w fun e w' => ∃ v φ, e = .returned v ∧ copyR P v φ ∧ φ w' ∧ Below w.heap.size w w' :=
  (copy_any h hs.caps hs.codes hs.sites hs.code hs.site).mono fun _ _ ⟨_, _, _, he, ho, hb⟩ => ⟨_, _, he, ⟨_, _, _, rfl, rfl⟩, ho.prog h hs, hb⟩
theorem same_yes {w : World} {a1 a2 a3 b1 b2 b3 : Value} {P Q : ProgV} (e : P = Q) (h1 : RProg w a1 a2 a3 P) (h2 : RProg w b1 b2 b3 Q) :
    Calls Try.prog 27 #[.agg #[a1, a2, a3], .agg #[b1, b2, b3]] w fun e w' => e = .returned (.bool true) ∧ Below w.heap.size w w' := by
  have h := same_any h1 h2
  rwa [decide_eq_true e] at h
theorem same_no {w : World} {a1 a2 a3 b1 b2 b3 : Value} {P Q : ProgV} (e : P ≠ Q) (h1 : RProg w a1 a2 a3 P) (h2 : RProg w b1 b2 b3 Q) :
    Calls Try.prog 27 #[.agg #[a1, a2, a3], .agg #[b1, b2, b3]] w fun e w' => e = .returned (.bool false) ∧ Below w.heap.size w w' := by
  have h := same_any h1 h2
  rwa [decide_eq_false e] at h
theorem check_code {w : World} {g : Nat} {l : List InsV} {a b c : Int} (hc : checkW (codeProg l) = (a, b, c)) (h : RProg w (.slice none 0 0) (.slice (some ⟨g, 0, none⟩) 1 1) (.slice none 0 0) (codeProg l)) :
    Calls Try.prog 19 #[.agg #[.slice none 0 0, .slice (some ⟨g, 0, none⟩) 1 1, .slice none 0 0]] w fun e w' => e = .returned (.tuple #[.int .i64 a, .int .i64 b, .int .i64 c]) ∧ Below w.heap.size w w' := by
  have hh := check_any _ _ _ _ w h
  rw [hc] at hh
  exact hh
theorem at_code {w : World} {g : Nat} {x y : InsV} (h : RProg w (.slice none 0 0) (.slice (some ⟨g, 0, none⟩) 1 1) (.slice none 0 0) (codeProg [x, y])) :
    Calls Try.prog 24 #[.agg #[.slice none 0 0, .slice (some ⟨g, 0, none⟩) 1 1, .slice none 0 0], .int .i64 0, .int .i64 1] w fun e w' => e = .returned (.tuple #[.agg #[.int .u8 y.op, .int .i64 y.a, .int .i64 y.b, .int .i64 y.ch, .int .i64 y.k], .bool true]) ∧ Below w.heap.size w w' :=
  at_some _ _ _ _ (codeProg [x, y]) w h 0 1 (by simp [codeProg]) (by simp [codeProg])
theorem small1 {x : InsV} : Small (codeProg [x]) := ⟨by simp [codeProg], by simp [codeProg], by simp [codeProg], by simp [codeProg], by simp [codeProg]⟩
set_option maxHeartbeats 8000000 in
theorem alive11_any (w : World) : Calls Try.prog 23 #[] w fun e w' => e = .returned (.bool true) ∧ Below w.heap.size w w' := by
  go_enter Try.func23, Try.ntmps23
  go_upto_region 2 with fail
  refine Lx.start2 (fun W1 hII => ?_)
  have HIN := Lib.hid hII
  clear hII
  go_upto_region 2 with fail
  refine Lx.regionS0 (by kernel_rfl) (by kernel_rfl) HIN.out.1 HIN.out.2 (by simp only [List.size_toArray, List.length_cons, List.length_nil, Nat.reduceAdd]; rfl) (fun O Z hO hZ => ?_); have HO := Lib.hid hO; clear hO
  first
    | (apply Lx.kr HO 0; (case hx => exact ⟨rfl, rfl, rfl⟩); (case hk => decide +kernel); (case hv => intro w_ hw_; have P_ := hw_.holds (w.heap.size) _ (by (repeat (first | exact Lx.ua _ _ _ | rw [Lx.un _ _ (by omega)] | rw [Lx.am]))); obtain ⟨c0, c1, c2, c3, c4⟩ := Lx.cells5 P_; clear P_; (go_simp <;> first | with_reducible rfl | exact ⟨rfl, rfl⟩)); simp only [Act.put, Lx.p1, Lx.p2, Lx.p3])
  first
    | (apply Lx.kn HO 1 (mk := fun n => .slice (some ⟨n, 0, none⟩) 1 1); (case hx => exact ⟨rfl, rfl, rfl⟩); (case hk => decide +kernel); (case hrun => intro w_; (go_simp <;> first | with_reducible rfl | exact ⟨rfl, rfl⟩)); simp only [Act.put, Lx.p1, Lx.p2, Lx.p3])
  intro ga hg_ hfr
  (repeat (first | (rw [Lx.St.add_M] at hfr) | (replace hfr := Lx.St.fresh_upd hfr; have n_ := hfr.1; replace hfr := hfr.2))); clear hfr
  first
    | (apply Lx.kR HO 2 (codeR [⟨10, 0, 0, 0, 0⟩]); (case hx => exact ⟨rfl, rfl, rfl⟩); (case hk => decide +kernel); (case hrun => intro w_; (go_simp <;> first | with_reducible rfl | exact ⟨rfl, rfl⟩)); (case hne => exact codeR_ok _); (case hc => intro w_ hw_; exact code11_any (ins1 (W := w_) (g := ga) (x := ⟨10, 0, 0, 0, 0⟩) (hw_.holds (ga) _ (by (repeat (first | exact Lx.ua _ _ _ | rw [Lx.un _ _ (by omega)] | rw [Lx.am])))) (by unfold InsV.wf U8 I64; decide))))
  rintro _ _ ⟨gq, rfl, rfl⟩
  simp only [Act.put, Lx.p1, Lx.p2, Lx.p3]
  first
    | (apply Lx.kc HO 3; (case hx => exact ⟨rfl, rfl, rfl⟩); (case hk => decide +kernel); (case hrun => intro w_; (go_simp <;> first | with_reducible rfl | exact ⟨rfl, rfl⟩)); (case hc => intro w_ hw_; have m_ := Lx.m0 hw_.more; exact check_code (l := [⟨10, 0, 0, 0, 0⟩]) (a := 0) (b := 0) (c := 0) (by decide +kernel) m_); simp only [Act.put, Lx.p1, Lx.p2, Lx.p3])
  first
    | (apply Lx.kp HO 4; (case hx => exact ⟨rfl, rfl, rfl⟩); (case hk => decide +kernel); (case hv => intro w_ hw_; (go_simp <;> first | with_reducible rfl | exact ⟨rfl, rfl⟩)); simp only [Act.put, Lx.p1, Lx.p2, Lx.p3])
  first
    | (apply Lx.kp HO 5; (case hx => exact ⟨rfl, rfl, rfl⟩); (case hk => decide +kernel); (case hv => intro w_ hw_; (go_simp <;> first | with_reducible rfl | exact ⟨rfl, rfl⟩)); simp only [Act.put, Lx.p1, Lx.p2, Lx.p3])
  first
    | (apply Lx.kp HO 6; (case hx => exact ⟨rfl, rfl, rfl⟩); (case hk => decide +kernel); (case hv => intro w_ hw_; (go_simp <;> first | with_reducible rfl | exact ⟨rfl, rfl⟩)); simp only [Act.put, Lx.p1, Lx.p2, Lx.p3])
  first
    | (apply Lx.kp HO 7; (case hx => exact ⟨rfl, rfl, rfl⟩); (case hk => decide +kernel); (case hv => intro w_ hw_; (go_simp <;> first | with_reducible rfl | exact ⟨rfl, rfl⟩)); simp only [Act.put, Lx.p1, Lx.p2, Lx.p3])
  first
    | (apply Lx.kp HO 8; (case hx => exact ⟨rfl, rfl, rfl⟩); (case hk => decide +kernel); (case hv => intro w_ hw_; (go_simp <;> first | with_reducible rfl | exact ⟨rfl, rfl⟩)); simp only [Act.put, Lx.p1, Lx.p2, Lx.p3])
  first
    | (apply Lx.kp HO 9; (case hx => exact ⟨rfl, rfl, rfl⟩); (case hk => decide +kernel); (case hv => intro w_ hw_; (go_simp <;> first | with_reducible rfl | exact ⟨rfl, rfl⟩)); simp only [Act.put, Lx.p1, Lx.p2, Lx.p3])
  first
    | (apply Lx.kp HO 10; (case hx => exact ⟨rfl, rfl, rfl⟩); (case hk => decide +kernel); (case hv => intro w_ hw_; (go_simp <;> first | with_reducible rfl | exact ⟨rfl, rfl⟩)); simp only [Act.put, Lx.p1, Lx.p2, Lx.p3])
  refine Lx.kd HO (by kernel_rfl) (fun hiv2 => hZ _ _ (fun W2 hw2 => ?_))
  clear hZ Z HO O
  have hin_ := Lib.hid (And.intro hw2 hiv2 : Lx.II _ _ _ _)
  clear hw2 hiv2
  replace HIN := Lib.hid (Lx.tk hin_.out (Lx.tk hin_.out (Lx.II.nil hin_.out.1.below) (w.heap.size) (by (repeat (first | exact Lx.ua _ _ _ | rw [Lx.un _ _ (by omega)] | rw [Lx.am])))) (w.heap.size + 1) (by (repeat (first | exact Lx.ua _ _ _ | rw [Lx.un _ _ (by omega)] | rw [Lx.am]))))
  clear hin_
  go_upto_region 3 with fail
  refine Lx.regionS0 (by kernel_rfl) (by kernel_rfl) HIN.out.1 HIN.out.2 (by simp only [List.size_toArray, List.length_cons, List.length_nil, Nat.reduceAdd]; rfl) (fun O Z hO hZ => ?_); have HO := Lib.hid hO; clear hO
  first
    | (apply Lx.kr HO 0; (case hx => exact ⟨rfl, rfl, rfl⟩); (case hk => decide +kernel); (case hv => intro w_ hw_; have P_ := hw_.holds (w.heap.size + 1) _ (by (repeat (first | exact Lx.ua _ _ _ | rw [Lx.un _ _ (by omega)] | rw [Lx.am]))); obtain ⟨c0, c1, c2, c3, c4⟩ := Lx.cells5 P_; clear P_; (go_simp <;> first | with_reducible rfl | exact ⟨rfl, rfl⟩)); simp only [Act.put, Lx.p1, Lx.p2, Lx.p3])
  first
    | (apply Lx.kn HO 1 (mk := fun n => .slice (some ⟨n, 0, none⟩) 1 1); (case hx => exact ⟨rfl, rfl, rfl⟩); (case hk => decide +kernel); (case hrun => intro w_; (go_simp <;> first | with_reducible rfl | exact ⟨rfl, rfl⟩)); simp only [Act.put, Lx.p1, Lx.p2, Lx.p3])
  intro gb hg_ hfr
  (repeat (first | (rw [Lx.St.add_M] at hfr) | (replace hfr := Lx.St.fresh_upd hfr; have n_ := hfr.1; replace hfr := hfr.2))); clear hfr
  first
    | (apply Lx.kR HO 2 (codeR [⟨1, 0, 0, 0, 0⟩]); (case hx => exact ⟨rfl, rfl, rfl⟩); (case hk => decide +kernel); (case hrun => intro w_; (go_simp <;> first | with_reducible rfl | exact ⟨rfl, rfl⟩)); (case hne => exact codeR_ok _); (case hc => intro w_ hw_; exact code11_any (ins1 (W := w_) (g := gb) (x := ⟨1, 0, 0, 0, 0⟩) (hw_.holds (gb) _ (by (repeat (first | exact Lx.ua _ _ _ | rw [Lx.un _ _ (by omega)] | rw [Lx.am])))) (by unfold InsV.wf U8 I64; decide))))
  rintro _ _ ⟨gq, rfl, rfl⟩
  simp only [Act.put, Lx.p1, Lx.p2, Lx.p3]
  first
    | (apply Lx.kc HO 3; (case hx => exact ⟨rfl, rfl, rfl⟩); (case hk => decide +kernel); (case hrun => intro w_; (go_simp <;> first | with_reducible rfl | exact ⟨rfl, rfl⟩)); (case hc => intro w_ hw_; have m_ := Lx.m0 hw_.more; exact check_code (l := [⟨1, 0, 0, 0, 0⟩]) (a := 0) (b := 0) (c := 113) (by decide +kernel) m_); simp only [Act.put, Lx.p1, Lx.p2, Lx.p3])
  first
    | (apply Lx.kp HO 4; (case hx => exact ⟨rfl, rfl, rfl⟩); (case hk => decide +kernel); (case hv => intro w_ hw_; (go_simp <;> first | with_reducible rfl | exact ⟨rfl, rfl⟩)); simp only [Act.put, Lx.p1, Lx.p2, Lx.p3])
  first
    | (apply Lx.kp HO 5; (case hx => exact ⟨rfl, rfl, rfl⟩); (case hk => decide +kernel); (case hv => intro w_ hw_; (go_simp <;> first | with_reducible rfl | exact ⟨rfl, rfl⟩)); simp only [Act.put, Lx.p1, Lx.p2, Lx.p3])
  first
    | (apply Lx.kp HO 6; (case hx => exact ⟨rfl, rfl, rfl⟩); (case hk => decide +kernel); (case hv => intro w_ hw_; (go_simp <;> first | with_reducible rfl | exact ⟨rfl, rfl⟩)); simp only [Act.put, Lx.p1, Lx.p2, Lx.p3])
  first
    | (apply Lx.kp HO 7; (case hx => exact ⟨rfl, rfl, rfl⟩); (case hk => decide +kernel); (case hv => intro w_ hw_; (go_simp <;> first | with_reducible rfl | exact ⟨rfl, rfl⟩)); simp only [Act.put, Lx.p1, Lx.p2, Lx.p3])
  first
    | (apply Lx.kp HO 8; (case hx => exact ⟨rfl, rfl, rfl⟩); (case hk => decide +kernel); (case hv => intro w_ hw_; (go_simp <;> first | with_reducible rfl | exact ⟨rfl, rfl⟩)); simp only [Act.put, Lx.p1, Lx.p2, Lx.p3])
  first
    | (apply Lx.kp HO 9; (case hx => exact ⟨rfl, rfl, rfl⟩); (case hk => decide +kernel); (case hv => intro w_ hw_; (go_simp <;> first | with_reducible rfl | exact ⟨rfl, rfl⟩)); simp only [Act.put, Lx.p1, Lx.p2, Lx.p3])
  first
    | (apply Lx.kp HO 10; (case hx => exact ⟨rfl, rfl, rfl⟩); (case hk => decide +kernel); (case hv => intro w_ hw_; (go_simp <;> first | with_reducible rfl | exact ⟨rfl, rfl⟩)); simp only [Act.put, Lx.p1, Lx.p2, Lx.p3])
  refine Lx.kd HO (by kernel_rfl) (fun hiv2 => hZ _ _ (fun W3 hw2 => ?_))
  clear hZ Z HO O
  have hin_ := Lib.hid (And.intro hw2 hiv2 : Lx.II _ _ _ _)
  clear hw2 hiv2
  replace HIN := Lib.hid (Lx.tk hin_.out (Lx.tk hin_.out (Lx.II.nil hin_.out.1.below) (w.heap.size) (by (repeat (first | exact Lx.ua _ _ _ | rw [Lx.un _ _ (by omega)] | rw [Lx.am])))) (w.heap.size + 1) (by (repeat (first | exact Lx.ua _ _ _ | rw [Lx.un _ _ (by omega)] | rw [Lx.am]))))
  clear hin_
  go_upto_region 4 with fail
  refine Lx.regionS0 (by kernel_rfl) (by kernel_rfl) HIN.out.1 HIN.out.2 (by simp only [List.size_toArray, List.length_cons, List.length_nil, Nat.reduceAdd]; rfl) (fun O Z hO hZ => ?_); have HO := Lib.hid hO; clear hO
  first
    | (apply Lx.kR HO 0 (codeR []); (case hx => exact ⟨rfl, rfl, rfl⟩); (case hk => decide +kernel); (case hrun => intro w_; (go_simp <;> first | with_reducible rfl | exact ⟨rfl, rfl⟩)); (case hne => exact codeR_ok _); (case hc => intro w_ hw_; exact code11_any (nil_R _ _)))
  rintro _ _ ⟨gq, rfl, rfl⟩
  simp only [Act.put, Lx.p1, Lx.p2, Lx.p3]
  first
    | (apply Lx.kc HO 1; (case hx => exact ⟨rfl, rfl, rfl⟩); (case hk => decide +kernel); (case hrun => intro w_; (go_simp <;> first | with_reducible rfl | exact ⟨rfl, rfl⟩)); (case hc => intro w_ hw_; have m_ := Lx.m0 hw_.more; exact check_code (l := []) (a := 0) (b := 0) (c := 112) (by decide +kernel) m_); simp only [Act.put, Lx.p1, Lx.p2, Lx.p3])
  first
    | (apply Lx.kp HO 2; (case hx => exact ⟨rfl, rfl, rfl⟩); (case hk => decide +kernel); (case hv => intro w_ hw_; (go_simp <;> first | with_reducible rfl | exact ⟨rfl, rfl⟩)); simp only [Act.put, Lx.p1, Lx.p2, Lx.p3])
  first
    | (apply Lx.kp HO 3; (case hx => exact ⟨rfl, rfl, rfl⟩); (case hk => decide +kernel); (case hv => intro w_ hw_; (go_simp <;> first | with_reducible rfl | exact ⟨rfl, rfl⟩)); simp only [Act.put, Lx.p1, Lx.p2, Lx.p3])
  first
    | (apply Lx.kp HO 4; (case hx => exact ⟨rfl, rfl, rfl⟩); (case hk => decide +kernel); (case hv => intro w_ hw_; (go_simp <;> first | with_reducible rfl | exact ⟨rfl, rfl⟩)); simp only [Act.put, Lx.p1, Lx.p2, Lx.p3])
  first
    | (apply Lx.kp HO 5; (case hx => exact ⟨rfl, rfl, rfl⟩); (case hk => decide +kernel); (case hv => intro w_ hw_; (go_simp <;> first | with_reducible rfl | exact ⟨rfl, rfl⟩)); simp only [Act.put, Lx.p1, Lx.p2, Lx.p3])
  first
    | (apply Lx.kp HO 6; (case hx => exact ⟨rfl, rfl, rfl⟩); (case hk => decide +kernel); (case hv => intro w_ hw_; (go_simp <;> first | with_reducible rfl | exact ⟨rfl, rfl⟩)); simp only [Act.put, Lx.p1, Lx.p2, Lx.p3])
  first
    | (apply Lx.kp HO 7; (case hx => exact ⟨rfl, rfl, rfl⟩); (case hk => decide +kernel); (case hv => intro w_ hw_; (go_simp <;> first | with_reducible rfl | exact ⟨rfl, rfl⟩)); simp only [Act.put, Lx.p1, Lx.p2, Lx.p3])
  first
    | (apply Lx.kp HO 8; (case hx => exact ⟨rfl, rfl, rfl⟩); (case hk => decide +kernel); (case hv => intro w_ hw_; (go_simp <;> first | with_reducible rfl | exact ⟨rfl, rfl⟩)); simp only [Act.put, Lx.p1, Lx.p2, Lx.p3])
  refine Lx.kd HO (by kernel_rfl) (fun hiv2 => hZ _ _ (fun W4 hw2 => ?_))
  clear hZ Z HO O
  have hin_ := Lib.hid (And.intro hw2 hiv2 : Lx.II _ _ _ _)
  clear hw2 hiv2
  replace HIN := Lib.hid (Lx.tk hin_.out (Lx.tk hin_.out (Lx.II.nil hin_.out.1.below) (w.heap.size) (by (repeat (first | exact Lx.ua _ _ _ | rw [Lx.un _ _ (by omega)] | rw [Lx.am])))) (w.heap.size + 1) (by (repeat (first | exact Lx.ua _ _ _ | rw [Lx.un _ _ (by omega)] | rw [Lx.am]))))
  clear hin_
  go_upto_region 5 with fail
  refine Lx.regionS0 (by kernel_rfl) (by kernel_rfl) HIN.out.1 HIN.out.2 (by simp only [List.size_toArray, List.length_cons, List.length_nil, Nat.reduceAdd]; rfl) (fun O Z hO hZ => ?_); have HO := Lib.hid hO; clear hO
  first
    | (apply Lx.kp HO 0; (case hx => exact ⟨rfl, rfl, rfl⟩); (case hk => decide +kernel); (case hv => intro w_ hw_; (go_simp <;> first | with_reducible rfl | exact ⟨rfl, rfl⟩)); simp only [Act.put, Lx.p1, Lx.p2, Lx.p3])
  first
    | (apply Lx.kr HO 1; (case hx => exact ⟨rfl, rfl, rfl⟩); (case hk => decide +kernel); (case hv => intro w_ hw_; have P_ := hw_.holds (w.heap.size) _ (by (repeat (first | exact Lx.ua _ _ _ | rw [Lx.un _ _ (by omega)] | rw [Lx.am]))); obtain ⟨c0, c1, c2, c3, c4⟩ := Lx.cells5 P_; clear P_; (go_simp <;> first | with_reducible rfl | exact ⟨rfl, rfl⟩)); simp only [Act.put, Lx.p1, Lx.p2, Lx.p3])
  first
    | (apply Lx.kn HO 2 (mk := fun n => .slice (some ⟨n, 0, none⟩) 2 2); (case hx => exact ⟨rfl, rfl, rfl⟩); (case hk => decide +kernel); (case hrun => intro w_; (go_simp <;> first | with_reducible rfl | exact ⟨rfl, rfl⟩)); simp only [Act.put, Lx.p1, Lx.p2, Lx.p3])
  intro gc hg_ hfr
  (repeat (first | (rw [Lx.St.add_M] at hfr) | (replace hfr := Lx.St.fresh_upd hfr; have n_ := hfr.1; replace hfr := hfr.2))); clear hfr
  first
    | (apply Lx.kR HO 3 (codeR [⟨5, 0, 0, 0, 0⟩, ⟨10, 0, 0, 0, 0⟩]); (case hx => exact ⟨rfl, rfl, rfl⟩); (case hk => decide +kernel); (case hrun => intro w_; (go_simp <;> first | with_reducible rfl | exact ⟨rfl, rfl⟩)); (case hne => exact codeR_ok _); (case hc => intro w_ hw_; exact code11_any (ins2 (W := w_) (g := gc) (x := ⟨5, 0, 0, 0, 0⟩) (y := ⟨10, 0, 0, 0, 0⟩) (hw_.holds (gc) _ (by (repeat (first | exact Lx.ua _ _ _ | rw [Lx.un _ _ (by omega)] | rw [Lx.am])))) (by unfold InsV.wf U8 I64; decide) (by unfold InsV.wf U8 I64; decide))))
  rintro _ _ ⟨gq, rfl, rfl⟩
  simp only [Act.put, Lx.p1, Lx.p2, Lx.p3]
  first
    | (apply Lx.kc HO 4; (case hx => exact ⟨rfl, rfl, rfl⟩); (case hk => decide +kernel); (case hrun => intro w_; (go_simp <;> first | with_reducible rfl | exact ⟨rfl, rfl⟩)); (case hc => intro w_ hw_; have m_ := Lx.m0 hw_.more; exact check_code (l := [⟨5, 0, 0, 0, 0⟩, ⟨10, 0, 0, 0, 0⟩]) (a := 0) (b := 0) (c := 112) (by decide +kernel) m_); simp only [Act.put, Lx.p1, Lx.p2, Lx.p3])
  first
    | (apply Lx.kp HO 5; (case hx => exact ⟨rfl, rfl, rfl⟩); (case hk => decide +kernel); (case hv => intro w_ hw_; (go_simp <;> first | with_reducible rfl | exact ⟨rfl, rfl⟩)); simp only [Act.put, Lx.p1, Lx.p2, Lx.p3])
  first
    | (apply Lx.kp HO 6; (case hx => exact ⟨rfl, rfl, rfl⟩); (case hk => decide +kernel); (case hv => intro w_ hw_; (go_simp <;> first | with_reducible rfl | exact ⟨rfl, rfl⟩)); simp only [Act.put, Lx.p1, Lx.p2, Lx.p3])
  first
    | (apply Lx.kp HO 7; (case hx => exact ⟨rfl, rfl, rfl⟩); (case hk => decide +kernel); (case hv => intro w_ hw_; (go_simp <;> first | with_reducible rfl | exact ⟨rfl, rfl⟩)); simp only [Act.put, Lx.p1, Lx.p2, Lx.p3])
  first
    | (apply Lx.kp HO 8; (case hx => exact ⟨rfl, rfl, rfl⟩); (case hk => decide +kernel); (case hv => intro w_ hw_; (go_simp <;> first | with_reducible rfl | exact ⟨rfl, rfl⟩)); simp only [Act.put, Lx.p1, Lx.p2, Lx.p3])
  first
    | (apply Lx.kp HO 9; (case hx => exact ⟨rfl, rfl, rfl⟩); (case hk => decide +kernel); (case hv => intro w_ hw_; (go_simp <;> first | with_reducible rfl | exact ⟨rfl, rfl⟩)); simp only [Act.put, Lx.p1, Lx.p2, Lx.p3])
  first
    | (apply Lx.kp HO 10; (case hx => exact ⟨rfl, rfl, rfl⟩); (case hk => decide +kernel); (case hv => intro w_ hw_; (go_simp <;> first | with_reducible rfl | exact ⟨rfl, rfl⟩)); simp only [Act.put, Lx.p1, Lx.p2, Lx.p3])
  first
    | (apply Lx.kp HO 11; (case hx => exact ⟨rfl, rfl, rfl⟩); (case hk => decide +kernel); (case hv => intro w_ hw_; (go_simp <;> first | with_reducible rfl | exact ⟨rfl, rfl⟩)); simp only [Act.put, Lx.p1, Lx.p2, Lx.p3])
  refine Lx.kd HO (by kernel_rfl) (fun hiv2 => hZ _ _ (fun W5 hw2 => ?_))
  clear hZ Z HO O
  have hin_ := Lib.hid (And.intro hw2 hiv2 : Lx.II _ _ _ _)
  clear hw2 hiv2
  replace HIN := Lib.hid (Lx.tk hin_.out (Lx.tk hin_.out (Lx.II.nil hin_.out.1.below) (w.heap.size) (by (repeat (first | exact Lx.ua _ _ _ | rw [Lx.un _ _ (by omega)] | rw [Lx.am])))) (w.heap.size + 1) (by (repeat (first | exact Lx.ua _ _ _ | rw [Lx.un _ _ (by omega)] | rw [Lx.am]))))
  clear hin_
  have hA := HIN.out.1.holds (w.heap.size) _ (by (repeat (first | exact Lx.ua _ _ _ | rw [Lx.un _ _ (by omega)] | rw [Lx.am])))
  have hB := HIN.out.1.holds (w.heap.size + 1) _ (by (repeat (first | exact Lx.ua _ _ _ | rw [Lx.un _ _ (by omega)] | rw [Lx.am])))
  have hb0 := HIN.out.1.below
  obtain ⟨c0, c1, c2, c3, c4⟩ := Lx.cells5 hA
  obtain ⟨d0, d1, d2, d3, d4⟩ := Lx.cells5 hB
  have hd := ins2 (x := ⟨1, 0, 0, 0, 0⟩) (y := ⟨10, 0, 0, 0, 0⟩) (its_new W5 (.cells #[.int .u8 1, .int .i64 0, .int .i64 0, .int .i64 0, .int .i64 0, .int .u8 10, .int .i64 0, .int .i64 0, .int .i64 0, .int .i64 0] 56 (0, 0))) (by unfold InsV.wf U8 I64; decide) (by unfold InsV.wf U8 I64; decide)
  have HA := Lib.hid hA
  have HB := Lib.hid hB
  have HB0 := Lib.hid hb0
  have HD := Lib.hid hd
  clear hA hB hb0 hd HIN
  go_upto_region 7 with (first | (go_at_call 62; (with_reducible refine (code11_any HD.out).mono ?_); rintro e w6 ⟨v6, φ6, rfl, ⟨g6, rfl, rfl⟩, hφ6, hb6⟩; have HP6 := Lib.hid hφ6; clear hφ6) | (go_at_call 24; (with_reducible refine (at_code (x := ⟨1, 0, 0, 0, 0⟩) (y := ⟨10, 0, 0, 0, 0⟩) HP6.out).mono ?_); rintro e w7 ⟨rfl, hb7⟩))
  have hb8 : Below W5.heap.size W5 (w7.alloc (.cells #[.int .u8 10, .int .i64 0, .int .i64 0, .int .i64 0, .int .i64 0] 56 (0, 0))) := Below.alloc (Below.trans (by (have hszq := hb6.size; (try simp only [World.size_alloc] at hszq); (repeat (first | (with_reducible refine Below.setCell ?_ (by first | (simp; done) | (simp; omega) | omega) _) | (with_reducible refine Below.alloc ?_ (by first | (simp; done) | (simp; omega) | omega) _) | (with_reducible refine Below.drew ?_))); refine Below.trans ?_ (hb6.mono (by first | (simp; done) | (simp; omega) | omega)); (repeat (first | with_reducible exact Below.refl _ _ | (with_reducible refine Below.setCell ?_ (by first | (simp; done) | (simp; omega) | omega) _) | (with_reducible refine Below.alloc ?_ (by first | (simp; done) | (simp; omega) | omega) _) | (with_reducible refine Below.drew ?_))))) (hb7.mono (by have := hb6.size; simp at this; omega))) (by have := hb6.size; have := hb7.size; simp at *; omega) _
  have h15 := its_new w7 (.cells #[.int .u8 10, .int .i64 0, .int .i64 0, .int .i64 0, .int .i64 0] 56 (0, 0))
  have hw15 : w.heap.size + 1 < w7.heap.size := by have := (Array.getElem?_eq_some_iff.1 HB.out).1; have := hb6.size; have := hb7.size; simp at *; omega
  have hin := ((Lx.II.nil (HB0.out.trans (hb8.mono HB0.out.size))).put (Nat.le_refl _) ((hb8.block _ (Array.getElem?_eq_some_iff.1 HA.out).1).trans HA.out)).put (Nat.le_add_right _ 1) ((hb8.block _ (Array.getElem?_eq_some_iff.1 HB.out).1).trans HB.out) |>.put (by omega) h15
  clear hb8 h15 hb6 hb7 HP6 HD HA HB HB0 c0 c1 c2 c3 c4 d0 d1 d2 d3 d4
  have hsz : (w7.alloc (.cells #[.int .u8 10, .int .i64 0, .int .i64 0, .int .i64 0, .int .i64 0] 56)).heap.size = w7.heap.size + 1 := by simp
  clear hsz
  generalize w7.alloc (.cells #[.int .u8 10, .int .i64 0, .int .i64 0, .int .i64 0, .int .i64 0] 56) = W6 at *
  generalize w7.heap.size = g15 at *
  have HIN := Lib.hid hin
  clear hin
  have q5 := fun (d : Nat) => @eq_ins d
  go_upto_region 7 with fail
  refine Lx.regionS (by kernel_rfl) (by kernel_rfl) HIN.out.1 HIN.out.2 (by simp only [List.size_toArray, List.length_cons, List.length_nil, Nat.reduceAdd]; rfl) (fun O Z hO hZ => ?_); have HO := Lib.hid hO; clear hO
  first
    | (apply Lx.kp HO 0; (case hx => exact ⟨rfl, rfl, rfl⟩); (case hk => decide +kernel); (case hv => intro w_ hw_; (go_simp <;> first | with_reducible rfl | exact ⟨rfl, rfl⟩)); simp only [Act.put, Lx.p1, Lx.p2, Lx.p3])
  first
    | (apply Lx.kp HO 1; (case hx => exact ⟨rfl, rfl, rfl⟩); (case hk => decide +kernel); (case hv => intro w_ hw_; (go_simp <;> first | with_reducible rfl | exact ⟨rfl, rfl⟩)); simp only [Act.put, Lx.p1, Lx.p2, Lx.p3])
  first
    | (apply Lx.kp HO 2; (case hx => exact ⟨rfl, rfl, rfl⟩); (case hk => decide +kernel); (case hv => intro w_ hw_; (go_simp <;> first | with_reducible rfl | exact ⟨rfl, rfl⟩)); simp only [Act.put, Lx.p1, Lx.p2, Lx.p3])
  first
    | (apply Lx.kp HO 3; (case hx => exact ⟨rfl, rfl, rfl⟩); (case hk => decide +kernel); (case hv => intro w_ hw_; (go_simp <;> first | with_reducible rfl | exact ⟨rfl, rfl⟩)); simp only [Act.put, Lx.p1, Lx.p2, Lx.p3])
  first
    | (apply Lx.kp HO 4; (case hx => exact ⟨rfl, rfl, rfl⟩); (case hk => decide +kernel); (case hv => intro w_ hw_; (go_simp <;> first | with_reducible rfl | exact ⟨rfl, rfl⟩)); simp only [Act.put, Lx.p1, Lx.p2, Lx.p3])
  first
    | (apply Lx.kp HO 5; (case hx => exact ⟨rfl, rfl, rfl⟩); (case hk => decide +kernel); (case hv => intro w_ hw_; (go_simp <;> first | with_reducible rfl | exact ⟨rfl, rfl⟩)); simp only [Act.put, Lx.p1, Lx.p2, Lx.p3])
  first
    | (apply Lx.kp HO 6; (case hx => exact ⟨rfl, rfl, rfl⟩); (case hk => decide +kernel); (case hv => intro w_ hw_; (go_simp <;> first | with_reducible rfl | exact ⟨rfl, rfl⟩)); simp only [Act.put, Lx.p1, Lx.p2, Lx.p3])
  first
    | (apply Lx.kp HO 7; (case hx => exact ⟨rfl, rfl, rfl⟩); (case hk => decide +kernel); (case hv => intro w_ hw_; (go_simp <;> first | with_reducible rfl | exact ⟨rfl, rfl⟩)); simp only [Act.put, Lx.p1, Lx.p2, Lx.p3])
  first
    | (apply Lx.kp HO 8; (case hx => exact ⟨rfl, rfl, rfl⟩); (case hk => decide +kernel); (case hv => intro w_ hw_; (go_simp <;> first | with_reducible rfl | exact ⟨rfl, rfl⟩)); simp only [Act.put, Lx.p1, Lx.p2, Lx.p3])
  first
    | (apply Lx.kp HO 9; (case hx => exact ⟨rfl, rfl, rfl⟩); (case hk => decide +kernel); (case hv => intro w_ hw_; (go_simp <;> first | with_reducible rfl | exact ⟨rfl, rfl⟩)); simp only [Act.put, Lx.p1, Lx.p2, Lx.p3])
  first
    | (apply Lx.kp HO 10; (case hx => exact ⟨rfl, rfl, rfl⟩); (case hk => decide +kernel); (case hv => intro w_ hw_; (go_simp <;> first | with_reducible rfl | exact ⟨rfl, rfl⟩)); simp only [Act.put, Lx.p1, Lx.p2, Lx.p3])
  first
    | (apply Lx.kp HO 11; (case hx => exact ⟨rfl, rfl, rfl⟩); (case hk => decide +kernel); (case hv => intro w_ hw_; (go_simp <;> first | with_reducible rfl | exact ⟨rfl, rfl⟩)); simp only [Act.put, Lx.p1, Lx.p2, Lx.p3])
  first
    | (apply Lx.kp HO 12; (case hx => exact ⟨rfl, rfl, rfl⟩); (case hk => decide +kernel); (case hv => intro w_ hw_; (go_simp <;> first | with_reducible rfl | exact ⟨rfl, rfl⟩)); simp only [Act.put, Lx.p1, Lx.p2, Lx.p3])
  first
    | (apply Lx.kp HO 13; (case hx => exact ⟨rfl, rfl, rfl⟩); (case hk => decide +kernel); (case hv => intro w_ hw_; (go_simp <;> first | with_reducible rfl | exact ⟨rfl, rfl⟩)); simp only [Act.put, Lx.p1, Lx.p2, Lx.p3])
  first
    | (apply Lx.kp HO 14; (case hx => exact ⟨rfl, rfl, rfl⟩); (case hk => decide +kernel); (case hv => intro w_ hw_; (go_simp <;> first | with_reducible rfl | exact ⟨rfl, rfl⟩)); simp only [Act.put, Lx.p1, Lx.p2, Lx.p3])
  first
    | (apply Lx.kp HO 15; (case hx => exact ⟨rfl, rfl, rfl⟩); (case hk => decide +kernel); (case hv => intro w_ hw_; (go_simp <;> first | with_reducible rfl | exact ⟨rfl, rfl⟩)); simp only [Act.put, Lx.p1, Lx.p2, Lx.p3])
  first
    | (apply Lx.kp HO 16; (case hx => exact ⟨rfl, rfl, rfl⟩); (case hk => decide +kernel); (case hv => intro w_ hw_; (go_simp <;> first | with_reducible rfl | exact ⟨rfl, rfl⟩)); simp only [Act.put, Lx.p1, Lx.p2, Lx.p3])
  first
    | (apply Lx.kp HO 17; (case hx => exact ⟨rfl, rfl, rfl⟩); (case hk => decide +kernel); (case hv => intro w_ hw_; (go_simp <;> first | with_reducible rfl | exact ⟨rfl, rfl⟩)); simp only [Act.put, Lx.p1, Lx.p2, Lx.p3])
  first
    | (apply Lx.kp HO 18; (case hx => exact ⟨rfl, rfl, rfl⟩); (case hk => decide +kernel); (case hv => intro w_ hw_; (go_simp <;> first | with_reducible rfl | exact ⟨rfl, rfl⟩)); simp only [Act.put, Lx.p1, Lx.p2, Lx.p3])
  first
    | (apply Lx.kp HO 19; (case hx => exact ⟨rfl, rfl, rfl⟩); (case hk => decide +kernel); (case hv => intro w_ hw_; (go_simp <;> first | with_reducible rfl | exact ⟨rfl, rfl⟩)); simp only [Act.put, Lx.p1, Lx.p2, Lx.p3])
  first
    | (apply Lx.kp HO 20; (case hx => exact ⟨rfl, rfl, rfl⟩); (case hk => decide +kernel); (case hv => intro w_ hw_; (go_simp <;> first | with_reducible rfl | exact ⟨rfl, rfl⟩)); simp only [Act.put, Lx.p1, Lx.p2, Lx.p3])
  first
    | (apply Lx.kp HO 21; (case hx => exact ⟨rfl, rfl, rfl⟩); (case hk => decide +kernel); (case hv => intro w_ hw_; (go_simp <;> first | with_reducible rfl | exact ⟨rfl, rfl⟩)); simp only [Act.put, Lx.p1, Lx.p2, Lx.p3])
  first
    | (apply Lx.kp HO 22; (case hx => exact ⟨rfl, rfl, rfl⟩); (case hk => decide +kernel); (case hv => intro w_ hw_; (go_simp <;> first | with_reducible rfl | exact ⟨rfl, rfl⟩)); simp only [Act.put, Lx.p1, Lx.p2, Lx.p3])
  first
    | (apply Lx.kp HO 23; (case hx => exact ⟨rfl, rfl, rfl⟩); (case hk => decide +kernel); (case hv => intro w_ hw_; (go_simp <;> first | with_reducible rfl | exact ⟨rfl, rfl⟩)); simp only [Act.put, Lx.p1, Lx.p2, Lx.p3])
  first
    | (apply Lx.kp HO 24; (case hx => exact ⟨rfl, rfl, rfl⟩); (case hk => decide +kernel); (case hv => intro w_ hw_; (go_simp <;> first | with_reducible rfl | exact ⟨rfl, rfl⟩)); simp only [Act.put, Lx.p1, Lx.p2, Lx.p3])
  first
    | (apply Lx.kp HO 25; (case hx => exact ⟨rfl, rfl, rfl⟩); (case hk => decide +kernel); (case hv => intro w_ hw_; (go_simp <;> first | with_reducible rfl | exact ⟨rfl, rfl⟩)); simp only [Act.put, Lx.p1, Lx.p2, Lx.p3])
  first
    | (apply Lx.kp HO 26; (case hx => exact ⟨rfl, rfl, rfl⟩); (case hk => decide +kernel); (case hv => intro w_ hw_; (go_simp <;> first | with_reducible rfl | exact ⟨rfl, rfl⟩)); simp only [Act.put, Lx.p1, Lx.p2, Lx.p3])
  first
    | (apply Lx.kr HO 27; (case hx => exact ⟨rfl, rfl, rfl⟩); (case hk => decide +kernel); (case hv => intro w_ hw_; have P_ := hw_.holds (g15) _ (by (repeat (first | exact Lx.ua _ _ _ | rw [Lx.un _ _ (by omega)] | rw [Lx.am]))); obtain ⟨c0, c1, c2, c3, c4⟩ := Lx.cells5 P_; clear P_; (go_simp <;> first | with_reducible rfl | exact ⟨rfl, rfl⟩)); simp only [Act.put, Lx.p1, Lx.p2, Lx.p3])
  first
    | (apply Lx.kr HO 28; (case hx => exact ⟨rfl, rfl, rfl⟩); (case hk => decide +kernel); (case hv => intro w_ hw_; have P_ := hw_.holds (w.heap.size) _ (by (repeat (first | exact Lx.ua _ _ _ | rw [Lx.un _ _ (by omega)] | rw [Lx.am]))); obtain ⟨c0, c1, c2, c3, c4⟩ := Lx.cells5 P_; clear P_; (go_simp <;> first | with_reducible rfl | exact ⟨rfl, rfl⟩)); simp only [Act.put, Lx.p1, Lx.p2, Lx.p3])
  first
    | (apply Lx.kp HO 29; (case hx => exact ⟨rfl, rfl, rfl⟩); (case hk => decide +kernel); (case hv => intro w_ hw_; (go_simp <;> first | with_reducible rfl | exact ⟨rfl, rfl⟩)); simp only [Act.put, Lx.p1, Lx.p2, Lx.p3])
  first
    | (apply Lx.kp HO 30; (case hx => exact ⟨rfl, rfl, rfl⟩); (case hk => decide +kernel); (case hv => intro w_ hw_; (go_simp <;> first | with_reducible rfl | exact ⟨rfl, rfl⟩)); simp only [Act.put, Lx.p1, Lx.p2, Lx.p3])
  first
    | (apply Lx.kp HO 31; (case hx => exact ⟨rfl, rfl, rfl⟩); (case hk => decide +kernel); (case hv => intro w_ hw_; (go_simp <;> first | with_reducible rfl | exact ⟨rfl, rfl⟩)); simp only [Act.put, Lx.p1, Lx.p2, Lx.p3])
  first
    | (apply Lx.kp HO 32; (case hx => exact ⟨rfl, rfl, rfl⟩); (case hk => decide +kernel); (case hv => intro w_ hw_; (go_simp <;> first | with_reducible rfl | exact ⟨rfl, rfl⟩)); simp only [Act.put, Lx.p1, Lx.p2, Lx.p3])
  first
    | (apply Lx.kp HO 33; (case hx => exact ⟨rfl, rfl, rfl⟩); (case hk => decide +kernel); (case hv => intro w_ hw_; (go_simp <;> first | with_reducible rfl | exact ⟨rfl, rfl⟩)); simp only [Act.put, Lx.p1, Lx.p2, Lx.p3])
  first
    | (apply Lx.kp HO 34; (case hx => exact ⟨rfl, rfl, rfl⟩); (case hk => decide +kernel); (case hv => intro w_ hw_; (go_simp <;> first | with_reducible rfl | exact ⟨rfl, rfl⟩)); simp only [Act.put, Lx.p1, Lx.p2, Lx.p3])
  first
    | (apply Lx.kr HO 35; (case hx => exact ⟨rfl, rfl, rfl⟩); (case hk => decide +kernel); (case hv => intro w_ hw_; have P_ := hw_.holds (w.heap.size) _ (by (repeat (first | exact Lx.ua _ _ _ | rw [Lx.un _ _ (by omega)] | rw [Lx.am]))); obtain ⟨c0, c1, c2, c3, c4⟩ := Lx.cells5 P_; clear P_; (go_simp <;> first | with_reducible rfl | exact ⟨rfl, rfl⟩)); simp only [Act.put, Lx.p1, Lx.p2, Lx.p3])
  first
    | (apply Lx.kr HO 38; (case hx => exact ⟨rfl, rfl, rfl⟩); (case hk => decide +kernel); (case hv => intro w_ hw_; have P_ := hw_.holds (w.heap.size) _ (by (repeat (first | exact Lx.ua _ _ _ | rw [Lx.un _ _ (by omega)] | rw [Lx.am]))); obtain ⟨c0, c1, c2, c3, c4⟩ := Lx.cells5 P_; clear P_; (go_simp <;> first | with_reducible rfl | exact ⟨rfl, rfl⟩)); simp only [Act.put, Lx.p1, Lx.p2, Lx.p3])
  first
    | (apply Lx.kn HO 36 (mk := fun n => .slice (some ⟨n, 0, none⟩) 1 1); (case hx => exact ⟨rfl, rfl, rfl⟩); (case hk => decide +kernel); (case hrun => intro w_; (go_simp <;> first | with_reducible rfl | exact ⟨rfl, rfl⟩)); simp only [Act.put, Lx.p1, Lx.p2, Lx.p3])
  intro h36 hg_ hfr
  (repeat (first | (rw [Lx.St.add_M] at hfr) | (replace hfr := Lx.St.fresh_upd hfr; have n_ := hfr.1; replace hfr := hfr.2))); clear hfr
  first
    | (apply Lx.kR HO 37 (codeR [⟨10, 0, 0, 0, 0⟩]); (case hx => exact ⟨rfl, rfl, rfl⟩); (case hk => decide +kernel); (case hrun => intro w_; (go_simp <;> first | with_reducible rfl | exact ⟨rfl, rfl⟩)); (case hne => exact codeR_ok _); (case hc => intro w_ hw_; exact code11_any (ins1 (W := w_) (g := h36) (x := ⟨10, 0, 0, 0, 0⟩) (hw_.holds (h36) _ (by (repeat (first | exact Lx.ua _ _ _ | rw [Lx.un _ _ (by omega)] | rw [Lx.am])))) (by unfold InsV.wf U8 I64; decide))))
  rintro _ _ ⟨q37, rfl, rfl⟩
  simp only [Act.put, Lx.p1, Lx.p2, Lx.p3]
  first
    | (apply Lx.kn HO 39 (mk := fun n => .slice (some ⟨n, 0, none⟩) 1 1); (case hx => exact ⟨rfl, rfl, rfl⟩); (case hk => decide +kernel); (case hrun => intro w_; (go_simp <;> first | with_reducible rfl | exact ⟨rfl, rfl⟩)); simp only [Act.put, Lx.p1, Lx.p2, Lx.p3])
  intro h39 hg_ hfr
  (repeat (first | (rw [Lx.St.add_M] at hfr) | (replace hfr := Lx.St.fresh_upd hfr; have n_ := hfr.1; replace hfr := hfr.2))); clear hfr
  first
    | (apply Lx.kR HO 40 (codeR [⟨10, 0, 0, 0, 0⟩]); (case hx => exact ⟨rfl, rfl, rfl⟩); (case hk => decide +kernel); (case hrun => intro w_; (go_simp <;> first | with_reducible rfl | exact ⟨rfl, rfl⟩)); (case hne => exact codeR_ok _); (case hc => intro w_ hw_; exact code11_any (ins1 (W := w_) (g := h39) (x := ⟨10, 0, 0, 0, 0⟩) (hw_.holds (h39) _ (by (repeat (first | exact Lx.ua _ _ _ | rw [Lx.un _ _ (by omega)] | rw [Lx.am])))) (by unfold InsV.wf U8 I64; decide))))
  rintro _ _ ⟨q40, rfl, rfl⟩
  simp only [Act.put, Lx.p1, Lx.p2, Lx.p3]
  first
    | (apply Lx.kR HO 41 (copyR (codeProg [⟨10, 0, 0, 0, 0⟩])); (case hx => exact ⟨rfl, rfl, rfl⟩); (case hk => decide +kernel); (case hrun => intro w_; (go_simp <;> first | with_reducible rfl | exact ⟨rfl, rfl⟩)); (case hne => exact copyR_ok _); (case hc => intro w_ hw_; (have m_ := Lx.m0 hw_.more; exact copyR_any m_ small1)))
  rintro _ _ ⟨y1, y2, y3, rfl, rfl⟩
  simp only [Act.put, Lx.p1, Lx.p2, Lx.p3]
  first
    | (apply Lx.kc HO 42; (case hx => exact ⟨rfl, rfl, rfl⟩); (case hk => decide +kernel); (case hrun => intro w_; (go_simp <;> first | with_reducible rfl | exact ⟨rfl, rfl⟩)); (case hc => intro w_ hw_; have m1_ := Lx.m0 hw_.more; (have m2_ : (RProg w_ _ (.slice (some ⟨q37, 0, none⟩) 1 1) _ _) := (by (have m_ := hw_.more; (repeat (first | (with_reducible exact Lx.m0 m_) | (with_reducible replace m_ := Lx.mU m_) | (with_reducible replace m_ := Lx.mS m_)))))); exact same_yes rfl m2_ m1_); simp only [Act.put, Lx.p1, Lx.p2, Lx.p3])
  first
    | (apply Lx.kp HO 43; (case hx => exact ⟨rfl, rfl, rfl⟩); (case hk => decide +kernel); (case hv => intro w_ hw_; (go_simp <;> first | with_reducible rfl | exact ⟨rfl, rfl⟩)); simp only [Act.put, Lx.p1, Lx.p2, Lx.p3])
  first
    | (apply Lx.kp HO 44; (case hx => exact ⟨rfl, rfl, rfl⟩); (case hk => decide +kernel); (case hv => intro w_ hw_; (go_simp <;> first | with_reducible rfl | exact ⟨rfl, rfl⟩)); simp only [Act.put, Lx.p1, Lx.p2, Lx.p3])
  first
    | (apply Lx.kr HO 45; (case hx => exact ⟨rfl, rfl, rfl⟩); (case hk => decide +kernel); (case hv => intro w_ hw_; have P_ := hw_.holds (w.heap.size) _ (by (repeat (first | exact Lx.ua _ _ _ | rw [Lx.un _ _ (by omega)] | rw [Lx.am]))); obtain ⟨c0, c1, c2, c3, c4⟩ := Lx.cells5 P_; clear P_; (go_simp <;> first | with_reducible rfl | exact ⟨rfl, rfl⟩)); simp only [Act.put, Lx.p1, Lx.p2, Lx.p3])
  first
    | (apply Lx.kr HO 48; (case hx => exact ⟨rfl, rfl, rfl⟩); (case hk => decide +kernel); (case hv => intro w_ hw_; have P_ := hw_.holds (w.heap.size + 1) _ (by (repeat (first | exact Lx.ua _ _ _ | rw [Lx.un _ _ (by omega)] | rw [Lx.am]))); obtain ⟨c0, c1, c2, c3, c4⟩ := Lx.cells5 P_; clear P_; (go_simp <;> first | with_reducible rfl | exact ⟨rfl, rfl⟩)); simp only [Act.put, Lx.p1, Lx.p2, Lx.p3])
  first
    | (apply Lx.kn HO 46 (mk := fun n => .slice (some ⟨n, 0, none⟩) 1 1); (case hx => exact ⟨rfl, rfl, rfl⟩); (case hk => decide +kernel); (case hrun => intro w_; (go_simp <;> first | with_reducible rfl | exact ⟨rfl, rfl⟩)); simp only [Act.put, Lx.p1, Lx.p2, Lx.p3])
  intro h46 hg_ hfr
  (repeat (first | (rw [Lx.St.add_M] at hfr) | (replace hfr := Lx.St.fresh_upd hfr; have n_ := hfr.1; replace hfr := hfr.2))); clear hfr
  first
    | (apply Lx.kR HO 47 (codeR [⟨10, 0, 0, 0, 0⟩]); (case hx => exact ⟨rfl, rfl, rfl⟩); (case hk => decide +kernel); (case hrun => intro w_; (go_simp <;> first | with_reducible rfl | exact ⟨rfl, rfl⟩)); (case hne => exact codeR_ok _); (case hc => intro w_ hw_; exact code11_any (ins1 (W := w_) (g := h46) (x := ⟨10, 0, 0, 0, 0⟩) (hw_.holds (h46) _ (by (repeat (first | exact Lx.ua _ _ _ | rw [Lx.un _ _ (by omega)] | rw [Lx.am])))) (by unfold InsV.wf U8 I64; decide))))
  rintro _ _ ⟨q47, rfl, rfl⟩
  simp only [Act.put, Lx.p1, Lx.p2, Lx.p3]
  first
    | (apply Lx.kn HO 49 (mk := fun n => .slice (some ⟨n, 0, none⟩) 1 1); (case hx => exact ⟨rfl, rfl, rfl⟩); (case hk => decide +kernel); (case hrun => intro w_; (go_simp <;> first | with_reducible rfl | exact ⟨rfl, rfl⟩)); simp only [Act.put, Lx.p1, Lx.p2, Lx.p3])
  intro h49 hg_ hfr
  (repeat (first | (rw [Lx.St.add_M] at hfr) | (replace hfr := Lx.St.fresh_upd hfr; have n_ := hfr.1; replace hfr := hfr.2))); clear hfr
  first
    | (apply Lx.kR HO 50 (codeR [⟨1, 0, 0, 0, 0⟩]); (case hx => exact ⟨rfl, rfl, rfl⟩); (case hk => decide +kernel); (case hrun => intro w_; (go_simp <;> first | with_reducible rfl | exact ⟨rfl, rfl⟩)); (case hne => exact codeR_ok _); (case hc => intro w_ hw_; exact code11_any (ins1 (W := w_) (g := h49) (x := ⟨1, 0, 0, 0, 0⟩) (hw_.holds (h49) _ (by (repeat (first | exact Lx.ua _ _ _ | rw [Lx.un _ _ (by omega)] | rw [Lx.am])))) (by unfold InsV.wf U8 I64; decide))))
  rintro _ _ ⟨q50, rfl, rfl⟩
  simp only [Act.put, Lx.p1, Lx.p2, Lx.p3]
  first
    | (apply Lx.kc HO 51; (case hx => exact ⟨rfl, rfl, rfl⟩); (case hk => decide +kernel); (case hrun => intro w_; (go_simp <;> first | with_reducible rfl | exact ⟨rfl, rfl⟩)); (case hc => intro w_ hw_; have m1_ := Lx.m0 hw_.more; (have m2_ : (RProg w_ _ (.slice (some ⟨q47, 0, none⟩) 1 1) _ _) := (by (have m_ := hw_.more; (repeat (first | (with_reducible exact Lx.m0 m_) | (with_reducible replace m_ := Lx.mU m_) | (with_reducible replace m_ := Lx.mS m_)))))); exact same_no (by decide) m2_ m1_); simp only [Act.put, Lx.p1, Lx.p2, Lx.p3])
  first
    | (apply Lx.kp HO 52; (case hx => exact ⟨rfl, rfl, rfl⟩); (case hk => decide +kernel); (case hv => intro w_ hw_; (go_simp <;> first | with_reducible rfl | exact ⟨rfl, rfl⟩)); simp only [Act.put, Lx.p1, Lx.p2, Lx.p3])
  first
    | (apply Lx.kp HO 53; (case hx => exact ⟨rfl, rfl, rfl⟩); (case hk => decide +kernel); (case hv => intro w_ hw_; (go_simp <;> first | with_reducible rfl | exact ⟨rfl, rfl⟩)); simp only [Act.put, Lx.p1, Lx.p2, Lx.p3])
  first
    | (apply Lx.kp HO 54; (case hx => exact ⟨rfl, rfl, rfl⟩); (case hk => decide +kernel); (case hv => intro w_ hw_; (go_simp <;> first | with_reducible rfl | exact ⟨rfl, rfl⟩)); simp only [Act.put, Lx.p1, Lx.p2, Lx.p3])
  first
    | (apply Lx.kp HO 55; (case hx => exact ⟨rfl, rfl, rfl⟩); (case hk => decide +kernel); (case hv => intro w_ hw_; (go_simp <;> first | with_reducible rfl | exact ⟨rfl, rfl⟩)); simp only [Act.put, Lx.p1, Lx.p2, Lx.p3])
  first
    | (apply Lx.kn HO 56 (mk := fun n => .slice (some ⟨n, 0, none⟩) 1 1); (case hx => exact ⟨rfl, rfl, rfl⟩); (case hk => decide +kernel); (case hrun => intro w_; (go_simp <;> first | with_reducible rfl | exact ⟨rfl, rfl⟩)); simp only [Act.put, Lx.p1, Lx.p2, Lx.p3])
  intro h56 hg_ hfr
  (repeat (first | (rw [Lx.St.add_M] at hfr) | (replace hfr := Lx.St.fresh_upd hfr; have n_ := hfr.1; replace hfr := hfr.2))); clear hfr
  first
    | (apply Lx.kR HO 57 (codeR [⟨7, 0, 0, -1, 0⟩]); (case hx => exact ⟨rfl, rfl, rfl⟩); (case hk => decide +kernel); (case hrun => intro w_; (go_simp <;> first | with_reducible rfl | exact ⟨rfl, rfl⟩)); (case hne => exact codeR_ok _); (case hc => intro w_ hw_; exact code11_any (ins1 (W := w_) (g := h56) (x := ⟨7, 0, 0, -1, 0⟩) (hw_.holds (h56) _ (by (repeat (first | exact Lx.ua _ _ _ | rw [Lx.un _ _ (by omega)] | rw [Lx.am])))) (by unfold InsV.wf U8 I64; decide))))
  rintro _ _ ⟨q57, rfl, rfl⟩
  simp only [Act.put, Lx.p1, Lx.p2, Lx.p3]
  first
    | (apply Lx.kc HO 58; (case hx => exact ⟨rfl, rfl, rfl⟩); (case hk => decide +kernel); (case hrun => intro w_; (go_simp <;> first | with_reducible rfl | exact ⟨rfl, rfl⟩)); (case hc => intro w_ hw_; have m1_ := Lx.m0 hw_.more; exact uses7_any m1_); simp only [Act.put, Lx.p1, Lx.p2, Lx.p3])
  first
    | (apply Lx.kp HO 59; (case hx => exact ⟨rfl, rfl, rfl⟩); (case hk => decide +kernel); (case hv => intro w_ hw_; (go_simp <;> first | with_reducible rfl | exact ⟨rfl, rfl⟩)); simp only [Act.put, Lx.p1, Lx.p2, Lx.p3])
  first
    | (apply Lx.kp HO 60; (case hx => exact ⟨rfl, rfl, rfl⟩); (case hk => decide +kernel); (case hv => intro w_ hw_; (go_simp <;> first | with_reducible rfl | exact ⟨rfl, rfl⟩)); simp only [Act.put, Lx.p1, Lx.p2, Lx.p3])
  first
    | (apply Lx.kp HO 61; (case hx => exact ⟨rfl, rfl, rfl⟩); (case hk => decide +kernel); (case hv => intro w_ hw_; (go_simp <;> first | with_reducible rfl | exact ⟨rfl, rfl⟩)); simp only [Act.put, Lx.p1, Lx.p2, Lx.p3])
  refine Lx.kd HO (by kernel_rfl) (fun hiv2 => hZ _ _ (fun W6 hw2 => ?_))
  clear hZ Z HO O
  have hin_ := Lib.hid (And.intro hw2 hiv2 : Lx.II _ _ _ _)
  clear hw2 hiv2
  replace HIN := Lib.hid (Lx.II.nil hin_.out.1.below)
  clear hin_
  clear q5
  go_wp2
  go_ret
  exact ⟨rfl, HIN.out.1.below⟩
end Go.Proofs.Ytljfloopjgpaeaa
