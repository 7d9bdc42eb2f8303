/- prog.Copy: the walk. -/
import Derived.Test.YtljfloopjgpaeaaNE
import Derived.Deep.RegionHeld3
import Derived.Deep.RegionLaw
namespace Go.Proofs.Ytljfloopjgpaeaa
set_option linter.unusedVariables false
set_option linter.unusedSimpArgs false
open Go.RowKit
set_option maxRecDepth 100000

theorem info_inss : (Try.prog.info? 54).map (fun i => (i.zero, i.size, i.bytes)) = some (some (.slice none 0 0), 1, 24) := by kernel_rfl
theorem info_Site : (Try.prog.info? 66).map (fun i => (i.zero, i.size, i.bytes)) = some (some (.agg #[.slice none 0 0, .bool false]), 2, 32) := by kernel_rfl
/-- What stands at the head of a round. -/
def CopyI (w : World) (c1 c2 c3 : Value) (P : ProgV) (k m : Nat) (wr : World) : Prop :=
  wr.heap[w.heap.size]? = some (.cells #[c1, c2, c3] 44 (0, 0)) ∧ (∃ x1 x2 x3, wr.heap[w.heap.size + 1]? = some (.cells #[x1, x2, x3] 44 (0, 0)) ∧ OwnAt wr w.heap.size x1 x2 x3 P k m) ∧ Below w.heap.size w wr
theorem own_val {w : World} {B e sz n : Nat} {v : Value} {xs : List Value} (h : w.ownsRow B e sz v n xs) : ∃ A c d, v = .slice A c d := by
  rcases h.2 with ⟨rfl, _⟩ | ⟨g, cap, cur, rfl, _⟩
  · exact ⟨_, _, _, rfl⟩
  · exact ⟨_, _, _, rfl⟩
theorem set_block {w : World} {b : Nat} {cs : Array Value} {t : Nat} {z : Nat × Nat} (hb : w.heap[b]? = some (.cells cs t z)) (i : Nat) (v : Value) : (w.setCell ⟨b, i, none⟩ v).heap[b]? = some (.cells (cs.setIfInBounds i v) t z) := by
  simp [World.setCell, Array.getElem?_modify, hb]
theorem CopyI.start {w w1 : World} {c1 c2 c3 x1 : Value} {P : ProgV} (hb : Below ((w.alloc (.cells #[c1, c2, c3] 44)).alloc (.cells #[.slice none 0 0, .slice none 0 0, .slice none 0 0] 44)).heap.size ((w.alloc (.cells #[c1, c2, c3] 44)).alloc (.cells #[.slice none 0 0, .slice none 0 0, .slice none 0 0] 44)) w1)
    (ho : w1.ownsRow ((w.alloc (.cells #[c1, c2, c3] 44)).alloc (.cells #[.slice none 0 0, .slice none 0 0, .slice none 0 0] 44)).heap.size 3 1 x1 P.caps.length (P.caps.flatMap fun x : Int => [Value.int .i64 x])) : CopyI w c1 c2 c3 P 0 0 (w1.setCell ⟨w.heap.size + 1, 0, none⟩ x1) := by
  have hp := (hb.block w.heap.size (by simp; omega)).trans (its_old w (.cells #[c1, c2, c3] 44 (0, 0)) (.cells #[.slice none 0 0, .slice none 0 0, .slice none 0 0] 44 (0, 0)))
  have hq := (hb.block (w.heap.size + 1) (by simp)).trans (by rw [alloc_heap?, if_pos (by simp)])
  have hk := Keeps.of_set hq 0 x1
  refine ⟨(Below.heap_setCell _ _ _ _ (by show w.heap.size ≠ w.heap.size + 1; omega)).trans hp, ⟨x1, .slice none 0 0, .slice none 0 0, set_block hq 0 x1, ?_⟩, ?_⟩
  · exact ⟨own_keeps (own_base ho (by simp; omega)) hk (by decide), ⟨[], own_nil _ _ _ _, fun i l v _ h => by simp at h⟩, [], own_nil _ _ _ _, rfl, fun i s p _ h => by simp at h⟩
  · exact Below.setCell (Below.trans (by (repeat (first | with_reducible exact Below.refl _ _ | (with_reducible refine Below.setCell ?_ (by first | (simp; done) | (simp; omega) | omega) _) | (with_reducible refine Below.alloc ?_ (by first | (simp; done) | (simp; omega) | omega) _) | (with_reducible refine Below.drew ?_)))) (hb.mono (by simp; omega))) (by show w.heap.size ≤ w.heap.size + 1; omega) _
theorem CopyI.code {w wr w2 w3 : World} {c1 c2 c3 x1 x2 x3 y v : Value} {P : ProgV} {k m : Nat} (hq : CopyI w c1 c2 c3 P k m wr) (hx : wr.heap[w.heap.size + 1]? = some (.cells #[x1, x2, x3] 44 (0, 0))) (ho : OwnAt wr w.heap.size x1 x2 x3 P k m)
    {vs : List Value} {l : List InsV} (hv : wr.ownsRow w.heap.size 54 1 x2 k vs) (hvs : ∀ (i : Nat) (l : List InsV) (v : Value), P.codes[i]? = some l → vs[i]? = some v → wr.ownsRow w.heap.size 56 5 v l.length (l.flatMap InsV.cells)) (hlen : vs.length = k) (hl : P.codes[k]? = some l)
    (hb2 : Below wr.heap.size wr w2) (ho2 : w2.ownsRow wr.heap.size 56 5 v l.length (l.flatMap InsV.cells))
    (hown : w3.ownsRow w.heap.size 54 1 y (k + 1) (vs ++ [v])) (hgrow : (w2.alloc (.cells #[v] 54)).grownBy w3 (Value.ownBlock x2)) : CopyI w c1 c2 c3 P (k + 1) m (w3.setCell ⟨w.heap.size + 1, 1, none⟩ y) := by
  obtain ⟨hp, _, hB⟩ := hq
  have hbX : Below wr.heap.size wr (w2.alloc (.cells #[v] 54)) := hb2.alloc hb2.size _
  have hvX := own_keeps hv (Keeps.of_below (T := 44) hbX) (by decide)
  have hk3 := Keeps.of_grown hvX hgrow
  have hx3 := (hk3 _ _ _ _ ((hbX.block _ (Array.getElem?_eq_some_iff.1 hx).1).trans hx) (by decide)).trans ((hbX.block _ (Array.getElem?_eq_some_iff.1 hx).1).trans hx)
  have hp3 := (hk3 _ _ _ _ ((hbX.block _ (Array.getElem?_eq_some_iff.1 hp).1).trans hp) (by decide)).trans ((hbX.block _ (Array.getElem?_eq_some_iff.1 hp).1).trans hp)
  have ho3 := (ho.keeps (Keeps.of_below hbX)).code hk3 hlen (fun i l v a b => own_keeps (hvs i l v a b) (Keeps.of_below (T := 44) hbX) (by decide)) hl (own_keeps (own_keeps (own_base ho2 hB.size) (Keeps.of_below (T := 44) ((Below.refl _ w2).alloc (Nat.le_refl _) _)) (by decide)) hk3 (by decide)) hown
  refine ⟨(Below.heap_setCell _ _ _ _ (by show w.heap.size ≠ w.heap.size + 1; omega)).trans hp3, ⟨_, _, _, set_block hx3 1 y, ho3.keeps (Keeps.of_set hx3 1 y)⟩, ?_⟩
  refine Below.setCell (Below.grown (hB.trans (hbX.mono hB.size)) hgrow (Nat.le_trans hB.size hbX.size) fun k hk => (hv.lt k hk).1) (by show w.heap.size ≤ w.heap.size + 1; omega) _
theorem CopyI.site {w wr w2 w3 : World} {c1 c2 c3 x1 x2 x3 y v : Value} {P : ProgV} {k m : Nat} (hq : CopyI w c1 c2 c3 P k m wr) (hx : wr.heap[w.heap.size + 1]? = some (.cells #[x1, x2, x3] 44 (0, 0))) (ho : OwnAt wr w.heap.size x1 x2 x3 P k m)
    {ds : List (Value × Bool)} {s : SiteV} (hv : wr.ownsRow w.heap.size 66 2 x3 m (dsCells ds)) (hvs : ∀ (i : Nat) (s : SiteV) (p : Value × Bool), P.sites[i]? = some s → ds[i]? = some p → p.2 = s.dflt ∧ wr.ownsRow w.heap.size 63 4 p.1 s.cases.length (s.cases.flatMap CaseV.cells)) (hlen : ds.length = m) (hl : P.sites[m]? = some s)
    (hb2 : Below wr.heap.size wr w2) (ho2 : w2.ownsRow wr.heap.size 63 4 v s.cases.length (s.cases.flatMap CaseV.cells))
    (hown : w3.ownsRow w.heap.size 66 2 y (m + 1) (dsCells ds ++ [v, .bool s.dflt])) (hgrow : (w2.alloc (.cells #[v, .bool s.dflt] 66)).grownBy w3 (Value.ownBlock x3)) : CopyI w c1 c2 c3 P k (m + 1) (w3.setCell ⟨w.heap.size + 1, 2, none⟩ y) := by
  obtain ⟨hp, _, hB⟩ := hq
  have hbX : Below wr.heap.size wr (w2.alloc (.cells #[v, .bool s.dflt] 66)) := hb2.alloc hb2.size _
  have hvX := own_keeps hv (Keeps.of_below (T := 44) hbX) (by decide)
  have hk3 := Keeps.of_grown hvX hgrow
  have hx3 := (hk3 _ _ _ _ ((hbX.block _ (Array.getElem?_eq_some_iff.1 hx).1).trans hx) (by decide)).trans ((hbX.block _ (Array.getElem?_eq_some_iff.1 hx).1).trans hx)
  have hp3 := (hk3 _ _ _ _ ((hbX.block _ (Array.getElem?_eq_some_iff.1 hp).1).trans hp) (by decide)).trans ((hbX.block _ (Array.getElem?_eq_some_iff.1 hp).1).trans hp)
  have ho3 := (ho.keeps (Keeps.of_below hbX)).site hk3 hlen (fun i s p a b => ⟨(hvs i s p a b).1, own_keeps (hvs i s p a b).2 (Keeps.of_below (T := 44) hbX) (by decide)⟩) hl (own_keeps (own_keeps (own_base ho2 hB.size) (Keeps.of_below (T := 44) ((Below.refl _ w2).alloc (Nat.le_refl _) _)) (by decide)) hk3 (by decide)) hown
  refine ⟨(Below.heap_setCell _ _ _ _ (by show w.heap.size ≠ w.heap.size + 1; omega)).trans hp3, ⟨_, _, _, set_block hx3 2 y, ho3.keeps (Keeps.of_set hx3 2 y)⟩, ?_⟩
  refine Below.setCell (Below.grown (hB.trans (hbX.mono hB.size)) hgrow (Nat.le_trans hB.size hbX.size) fun k hk => (hv.lt k hk).1) (by show w.heap.size ≤ w.heap.size + 1; omega) _
theorem CopyI.below {w wr w2 : World} {c1 c2 c3 : Value} {P : ProgV} {k m : Nat} (h : CopyI w c1 c2 c3 P k m wr) (hb : Below wr.heap.size wr w2) : CopyI w c1 c2 c3 P k m w2 := by
  obtain ⟨hp, ⟨x1, x2, x3, hx, ho⟩, hB⟩ := h
  exact ⟨(hb.block _ (Array.getElem?_eq_some_iff.1 hp).1).trans hp, ⟨x1, x2, x3, (hb.block _ (Array.getElem?_eq_some_iff.1 hx).1).trans hx, ho.keeps (Keeps.of_below hb)⟩, hB.trans (hb.mono hB.size)⟩
set_option maxHeartbeats 16000000 in
theorem copy_any {w : World} {c1 c2 c3 : Value} {P : ProgV} (h : RProg w c1 c2 c3 P) (b1 : P.caps.length ≤ 1000000) (b2 : P.codes.length ≤ 1000000) (b3 : P.sites.length ≤ 1000000) (b4 : ∀ l ∈ P.codes, l.length ≤ 1000000) (b5 : ∀ s ∈ P.sites, s.cases.length ≤ 1000000) :
    Calls Try.prog 26 #[.agg #[c1, c2, c3]] w fun e w' => ∃ x1 x2 x3, e = .returned (.agg #[x1, x2, x3]) ∧ OwnAt w' w.heap.size x1 x2 x3 P P.codes.length P.sites.length ∧ Below w.heap.size w w' := by
  have hcl := fun (W : World) (h : RProg W c1 c2 c3 P) => clonedInt_any h.caps b1
  have HCL := Lib.hid hcl
  have HP := Lib.hid h
  have H4 := Lib.hid b4
  have H5 := Lib.hid b5
  obtain ⟨A1, n1, rfl, _, _, hl1⟩ := h.caps.val
  obtain ⟨A2, n2, rfl, _, _, hl2⟩ := h.codes.val
  obtain ⟨A3, n3, rfl, _, _, hl3⟩ := h.sites.val
  clear h hcl b4 b5
  go_enter Try.func26, Try.ntmps26
  go_upto_region 2 with (go_at_call 68; (with_reducible refine (HCL.out _ (HP.out.keep (by (repeat (first | with_reducible exact Below.refl _ _ | (with_reducible refine Below.setCell ?_ (by first | (simp; done) | (simp; omega) | omega) _) | (with_reducible refine Below.alloc ?_ (by first | (simp; done) | (simp; omega) | omega) _) | (with_reducible refine Below.drew ?_)))))).mono ?_); rintro e w1 ⟨x1, rfl, ho1, hb1⟩; obtain ⟨A4, n4, q4, rfl⟩ := own_val ho1; have e0 : w1.cell? ⟨w.heap.size + 1, 0, none⟩ = some (.slice none 0 0) := Below.at hb1 (by simp) (by simp); have e1 : w1.frozen? ⟨w.heap.size + 1, 0, none⟩ = false := (hb1.frozen (p := ⟨w.heap.size + 1, 0, none⟩) (by simp)).trans (by simp))
  have HI := Lib.hid (CopyI.start hb1 ho1)
  clear hb1 ho1 e0 e1 HCL
  generalize (w1.setCell ⟨w.heap.size + 1, 0, none⟩ (.slice A4 n4 q4)) = W1 at *
  obtain ⟨i0, hi0, hz0, hz1, hz2⟩ := info_parts info_inss
  have HI0 := Lib.hid hi0
  have HZ0 := Lib.hid hz0
  have HZ1 := Lib.hid hz1
  have HZ2 := Lib.hid hz2
  clear hi0 hz0 hz1 hz2
  obtain ⟨p0, p1, p2⟩ := Lx.cells3 HI.out.1
  have hlt0 : w.heap.size < W1.heap.size := (Array.getElem?_eq_some_iff.1 HI.out.1).1
  clear p0 p2
  go_wp2
  clear p1 hlt0
  go_loopw [14] (fun i wr => ∃ k : Nat, k ≤ P.codes.length ∧ i = .int .i64 k ∧ CopyI w (.slice A1 P.caps.length n1) (.slice A2 P.codes.length n2) (.slice A3 P.sites.length n3) P k 0 wr) (fun i _ => P.codes.length - (intOf i).toNat)
  case atStart => exact ⟨0, Nat.zero_le _, rfl, HI.out⟩
  case round =>
    obtain ⟨k, hk, rfl, hI⟩ := hrel
    have HQ := Lib.hid hI
    obtain ⟨hp, ⟨x1, x2, x3, hx, ho⟩, hbl⟩ := hI
    obtain ⟨vs, hv, hvs⟩ := ho.codes
    obtain ⟨A7, n7, q7, rfl⟩ := own_val hv
    have HO := Lib.hid ho
    have HV := Lib.hid hv
    have HVS := Lib.hid hvs
    have HX := Lib.hid hx
    have HB := Lib.hid hbl
    clear hp ho hv hvs hx hbl HI
    by_cases hlt : k < P.codes.length
    · obtain ⟨b, o, A5, n5, rfl, hb, g1, g2, _, _, hl5⟩ := kInss_at ((HP.out.keep HB.out).codes) hlt
      obtain ⟨l, hlk⟩ : ∃ l, l = P.codes[k] := ⟨_, rfl⟩
      rw [← hlk] at g1 g2 hl5
      have HL := Lib.hid (show P.codes[k]? = some l by rw [List.getElem?_eq_getElem hlt, hlk])
      have HS := Lib.hid (H4.out l (by rw [hlk]; exact List.getElem_mem hlt))
      have HG := Lib.hid g2
      have HCK := Lib.hid (fun (W : World) (h : kIns.R W (.slice A5 l.length n5) l) => clonedIns_any h HS.out)
      clear hlk g2
      have hxl : w.heap.size + 1 < wr.heap.size := (Array.getElem?_eq_some_iff.1 HX.out).1
      obtain ⟨y0, y1, y2⟩ := Lx.cells3 HX.out
      obtain ⟨f0, f1, f2⟩ := Lx.froz3 HX.out
      clear y0 y2 f0 f2
      go_upto_region 5 with fail
      go_region_law (first | (go_simp; go_at_call 69; (with_reducible refine (HCK.out _ (HG.out.keep (by (repeat (first | with_reducible exact Below.refl _ _ | (with_reducible refine Below.setCell ?_ (by first | (simp; done) | (simp; omega) | omega) _) | (with_reducible refine Below.alloc ?_ (by first | (simp; done) | (simp; omega) | omega) _) | (with_reducible refine Below.drew ?_)))))).mono ?_); rintro e w2 ⟨v', rfl, ho2, hb2⟩; obtain ⟨A6, n6, q6, rfl⟩ := own_val ho2; have e2 : w2.cell? ⟨w.heap.size + 1, 1, none⟩ = some (.slice A7 n7 q7) := Below.at hb2 y1 hxl; have e2b : (w2.alloc (.cells #[.slice A6 n6 q6] 54)).cell? ⟨w.heap.size + 1, 1, none⟩ = some (.slice A7 n7 q7) := Lib.cell?_alloc_some _ e2) | ((refine step_append_lies _ (by rfl) _ _ _ (by rfl) w.heap.size 54 i0 (.slice none 0 0) 1 24 Try.underlying41 HI0.out HZ0.out HZ1.out HZ2.out rfl (by omega) _ k vs (by rfl) ((own_keeps HV.out (Keeps.of_below (T := 44) (Below.trans (by (repeat (first | with_reducible exact Below.refl _ _ | (with_reducible refine Below.setCell ?_ (by first | (simp; done) | (simp; omega) | omega) _) | (with_reducible refine Below.alloc ?_ (by first | (simp; done) | (simp; omega) | omega) _) | (with_reducible refine Below.drew ?_)))) (hb2.mono (by simp)))) (by decide)).alloc _) ⟨w2.heap.size, 0, none⟩ 1 1 [.slice A6 n6 q6] (by rfl) (by rfl) (World.news_of_block (cs := #[.slice A6 n6 q6]) (t := 54) (fr := (0, 0)) (heap_alloc_new w2 _)) (by simp [Value.oneCell']) (by omega) (by unfold maxLen; omega) (by omega) (by have := HB.out.size; have := hb2.size; simp at this ⊢; omega) _ rfl ?_; intro gg cap w3 hown3 hgrow hat hlt3; have hk3 := Keeps.of_grown ((own_keeps HV.out (Keeps.of_below (T := 44) (Below.trans (by (repeat (first | with_reducible exact Below.refl _ _ | (with_reducible refine Below.setCell ?_ (by first | (simp; done) | (simp; omega) | omega) _) | (with_reducible refine Below.alloc ?_ (by first | (simp; done) | (simp; omega) | omega) _) | (with_reducible refine Below.drew ?_)))) (hb2.mono (by simp)))) (by decide)).alloc _) hgrow; have hx3 := (hk3 (w.heap.size + 1) _ _ _ ((Below.heap_alloc _ _ _ (by have := hb2.size; simp at this; omega)).trans ((hb2.block _ hxl).trans HX.out)) (by decide)).trans ((Below.heap_alloc _ _ _ (by have := hb2.size; simp at this; omega)).trans ((hb2.block _ hxl).trans HX.out)); have e3 := (Lx.cells3 hx3).2.1; have f3 := (Lx.froz3 hx3).2.1; have HX3 := Lib.hid hx3; have HK3 := Lib.hid hk3; clear hx3 hk3)))
      all_goals
        have hst := HQ.out.code HX.out HO.out HV.out HVS.out (by have := HV.out.1; omega) HL.out (Below.trans (by (repeat (first | with_reducible exact Below.refl _ _ | (with_reducible refine Below.setCell ?_ (by first | (simp; done) | (simp; omega) | omega) _) | (with_reducible refine Below.alloc ?_ (by first | (simp; done) | (simp; omega) | omega) _) | (with_reducible refine Below.drew ?_)))) (hb2.mono (by simp))) ho2 hown3 hgrow
        have HST := Lib.hid hst
        clear hst hown3 hgrow hat hlt3 e3 f3 e2 e2b y1 f1
        go_wp2
        go_roundw
        case rel => exact ⟨k + 1, hlt, by go_num, HST.out⟩
        case measure => simp [intOf]; omega
    · obtain rfl : k = P.codes.length := by omega
      clear HO HV HVS HX HB
      obtain ⟨j0, hj0, hy0, hy1, hy2⟩ := info_parts info_Site
      have HJ0 := Lib.hid hj0
      have HY0 := Lib.hid hy0
      have HY1 := Lib.hid hy1
      have HY2 := Lib.hid hy2
      clear hj0 hy0 hy1 hy2 HI0 HZ0 HZ1 HZ2 hlt hk
      have HI := Lib.hid HQ.out
      clear HQ
      obtain ⟨p0, p1, p2⟩ := Lx.cells3 HI.out.1
      have hlt0 : w.heap.size < wr.heap.size := (Array.getElem?_eq_some_iff.1 HI.out.1).1
      clear p0 p1
      obtain ⟨wo, rfl⟩ : ∃ wo : World, wo = wr := ⟨_, rfl⟩
      go_wp2
      clear p2 hlt0
      go_loopw [6, 29] (fun _ i wr => ∃ k : Nat, k ≤ P.sites.length ∧ i = .int .i64 k ∧ CopyI w (.slice A1 P.caps.length n1) (.slice A2 P.codes.length n2) (.slice A3 P.sites.length n3) P P.codes.length k wr) (fun _ i _ => P.sites.length - (intOf i).toNat)
      case atStart => exact ⟨0, Nat.zero_le _, rfl, HI.out⟩
      case round =>
        obtain ⟨k, hk, rfl, hI⟩ := hrel
        have HQ := Lib.hid hI
        clear hI HI
        by_cases hlt : k < P.sites.length
        · obtain ⟨b, o, A5, n5, rfl, hb, g0, g1, g2, _, _, hl5⟩ := kSite_at ((HP.out.keep HQ.out.2.2).sites) hlt
          obtain ⟨l, hlk⟩ : ∃ l, l = P.sites[k] := ⟨_, rfl⟩
          rw [← hlk] at g0 g1 g2 hl5
          have HL := Lib.hid (show P.sites[k]? = some l by rw [List.getElem?_eq_getElem hlt, hlk])
          have HS := Lib.hid (H5.out l (by rw [hlk]; exact List.getElem_mem hlt))
          have HG := Lib.hid g2
          have HCK := Lib.hid (fun (W : World) (h : kCase.R W (.slice A5 l.cases.length n5) l.cases) => clonedCase_any h HS.out)
          clear hlk g2
          go_upto_region 10 with fail
          have hq := HQ.out.below ((Below.refl _ wr).alloc (Nat.le_refl _) (.cells #[.slice A5 l.cases.length n5, .bool l.dflt] 66))
          have hs := its_new wr (.cells #[.slice A5 l.cases.length n5, .bool l.dflt] 66 (0, 0))
          replace HG := Lib.hid (HG.out.keep ((Below.refl _ wr).alloc (Nat.le_refl _) (.cells #[.slice A5 l.cases.length n5, .bool l.dflt] 66)))
          have hbn : wr.heap.size < (wr.alloc (.cells #[.slice A5 l.cases.length n5, .bool l.dflt] 66)).heap.size := by simp
          clear HQ g0 g1
          generalize wr.alloc (.cells #[.slice A5 l.cases.length n5, .bool l.dflt] 66) = wn at *
          generalize wr.heap.size = B2 at *
          have HQ := Lib.hid hq
          obtain ⟨hp, ⟨x1, x2, x3, hx, ho⟩, hbl⟩ := hq
          obtain ⟨ds, hv, hdl, hvs⟩ := ho.sites
          obtain ⟨A7, n7, q7, rfl⟩ := own_val hv
          obtain ⟨s0, s1⟩ := Lx.cells2 hs
          have HO := Lib.hid ho
          have HV := Lib.hid hv
          have HVS := Lib.hid hvs
          have HDL := Lib.hid hdl
          have HX := Lib.hid hx
          have HB := Lib.hid hbl
          clear hp ho hv hvs hdl hx hbl hs
          have hxl : w.heap.size + 1 < wn.heap.size := (Array.getElem?_eq_some_iff.1 HX.out).1
          obtain ⟨y0, y1, y2⟩ := Lx.cells3 HX.out
          clear y0 y1
          go_region_law (first | (go_simp; go_at_call 70; (with_reducible refine (HCK.out _ (HG.out.keep (by (repeat (first | with_reducible exact Below.refl _ _ | (with_reducible refine Below.setCell ?_ (by first | (simp; done) | (simp; omega) | omega) _) | (with_reducible refine Below.alloc ?_ (by first | (simp; done) | (simp; omega) | omega) _) | (with_reducible refine Below.drew ?_)))))).mono ?_); rintro e w2 ⟨v', rfl, ho2, hb2⟩; obtain ⟨A6, n6, q6, rfl⟩ := own_val ho2; have e2 : w2.cell? ⟨w.heap.size + 1, 2, none⟩ = some (.slice A7 n7 q7) := Below.at hb2 y2 hxl; have e2b : (w2.alloc (.cells #[.slice A6 n6 q6, .bool l.dflt] 66)).cell? ⟨w.heap.size + 1, 2, none⟩ = some (.slice A7 n7 q7) := Lib.cell?_alloc_some _ e2; have e2c : w2.cell? ⟨B2, 1, none⟩ = some (.bool l.dflt) := Below.at hb2 s1 hbn) | ((refine step_append_lies _ (by rfl) _ _ _ (by rfl) w.heap.size 66 j0 (.agg #[.slice none 0 0, .bool false]) 2 32 Try.underlying42 HJ0.out HY0.out HY1.out HY2.out rfl (by omega) _ k (dsCells ds) (by rfl) ((own_keeps HV.out (Keeps.of_below (T := 44) (Below.trans (by (repeat (first | with_reducible exact Below.refl _ _ | (with_reducible refine Below.setCell ?_ (by first | (simp; done) | (simp; omega) | omega) _) | (with_reducible refine Below.alloc ?_ (by first | (simp; done) | (simp; omega) | omega) _) | (with_reducible refine Below.drew ?_)))) (hb2.mono (by simp)))) (by decide)).alloc _) ⟨w2.heap.size, 0, none⟩ 1 1 [.slice A6 n6 q6, .bool l.dflt] (by rfl) (by rfl) (World.news_of_block (cs := #[.slice A6 n6 q6, .bool l.dflt]) (t := 66) (fr := (0, 0)) (heap_alloc_new w2 _)) (by simp [Value.oneCell']) (by omega) (by unfold maxLen; omega) (by omega) (by have := HB.out.size; have := hb2.size; simp at this ⊢; omega) _ rfl ?_; intro gg cap w3 hown3 hgrow hat hlt3; have hk3 := Keeps.of_grown ((own_keeps HV.out (Keeps.of_below (T := 44) (Below.trans (by (repeat (first | with_reducible exact Below.refl _ _ | (with_reducible refine Below.setCell ?_ (by first | (simp; done) | (simp; omega) | omega) _) | (with_reducible refine Below.alloc ?_ (by first | (simp; done) | (simp; omega) | omega) _) | (with_reducible refine Below.drew ?_)))) (hb2.mono (by simp)))) (by decide)).alloc _) hgrow; have hx3 := (hk3 (w.heap.size + 1) _ _ _ ((Below.heap_alloc _ _ _ (by have := hb2.size; simp at this; omega)).trans ((hb2.block _ hxl).trans HX.out)) (by decide)).trans ((Below.heap_alloc _ _ _ (by have := hb2.size; simp at this; omega)).trans ((hb2.block _ hxl).trans HX.out)); have e3 := (Lx.cells3 hx3).2.2; have f3 := (Lx.froz3 hx3).2.2; have HX3 := Lib.hid hx3; have HK3 := Lib.hid hk3; clear hx3 hk3)))
          all_goals
            have hst := HQ.out.site HX.out HO.out HV.out HVS.out HDL.out HL.out (Below.trans (by (repeat (first | with_reducible exact Below.refl _ _ | (with_reducible refine Below.setCell ?_ (by first | (simp; done) | (simp; omega) | omega) _) | (with_reducible refine Below.alloc ?_ (by first | (simp; done) | (simp; omega) | omega) _) | (with_reducible refine Below.drew ?_)))) (hb2.mono (by simp))) ho2 hown3 hgrow
            have HST := Lib.hid hst
            clear hst hown3 hgrow hat hlt3 e3 f3 e2 e2b e2c y2 s0 s1
            go_wp2
            go_roundw
            case rel => exact ⟨k + 1, hlt, by go_num, HST.out⟩
            case measure => simp [intOf]; omega
        · obtain rfl : k = P.sites.length := by omega
          clear hk hlt HJ0 HY0 HY1 HY2
          obtain ⟨hp, ⟨y1, y2, y3, hx, ho⟩, hB⟩ := HQ.out
          obtain ⟨B1, m1, r1, rfl⟩ := own_val ho.caps
          obtain ⟨B2, m2, r2, rfl⟩ := own_val ho.codes.choose_spec.1
          obtain ⟨B3, m3, r3, rfl⟩ := own_val ho.sites.choose_spec.1
          have hx1 := set_block hx 0 (.slice B1 m1 r1)
          have hx2 := set_block hx1 1 (.slice B2 m2 r2)
          have hx3 := set_block hx2 2 (.slice B3 m3 r3)
          have ho3 := ((ho.keeps (Keeps.of_set hx 0 (.slice B1 m1 r1))).keeps (Keeps.of_set hx1 1 (.slice B2 m2 r2))).keeps (Keeps.of_set hx2 2 (.slice B3 m3 r3))
          have hB3 := ((hB.setCell (p := ⟨w.heap.size + 1, 0, none⟩) (Nat.le_succ _) (.slice B1 m1 r1)).setCell (p := ⟨w.heap.size + 1, 1, none⟩) (Nat.le_succ _) (.slice B2 m2 r2)).setCell (p := ⟨w.heap.size + 1, 2, none⟩) (Nat.le_succ _) (.slice B3 m3 r3)
          obtain ⟨g0, g1, g2⟩ := Lx.cells3 hx
          obtain ⟨f0, f1, f2⟩ := Lx.froz3 hx
          obtain ⟨q0, q1, q2⟩ := Lx.cells3 (w := ((wr.setCell ⟨w.heap.size + 1, 0, none⟩ (.slice B1 m1 r1)).setCell ⟨w.heap.size + 1, 1, none⟩ (.slice B2 m2 r2)).setCell ⟨w.heap.size + 1, 2, none⟩ (.slice B3 m3 r3)) (v0 := .slice B1 m1 r1) (v1 := .slice B2 m2 r2) (v2 := .slice B3 m3 r3) hx3
          have HO := Lib.hid ho3
          have HB := Lib.hid hB3
          clear hp hx ho hB hx1 hx2 hx3 ho3 hB3
          go_wp2
          refine Lx.ret_of (by simp [results, Try.results26, go_sem, q0, q1, q2] <;> (repeat' (first | rfl | apply And.intro))) rfl ⟨_, _, _, rfl, HO.out, HB.out⟩
end Go.Proofs.Ytljfloopjgpaeaa
