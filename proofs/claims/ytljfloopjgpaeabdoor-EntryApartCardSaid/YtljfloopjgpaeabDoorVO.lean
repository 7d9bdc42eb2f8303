/- entry.Get. -/
import Derived.Test.YtljfloopjgpaeabDoorVN
import Derived.Test.YtljfloopjgpaeabDoorVM
import Derived.Test.YtljfloopjgpaeabDoorOW
import Derived.Maps.AppendAt
namespace Go.Proofs.YtljfloopjgpaeabDoor
set_option linter.unusedVariables false
set_option linter.unusedSimpArgs false
open Go.RowKit Go.Shelf
attribute [local go_sem] Oper.semAt_some
set_option maxRecDepth 100000
theorem cells_len (x : EntV) : x.cells.length = 13 := rfl
theorem cells_one (x : EntV) : ∀ v ∈ x.cells, v.oneCell' = true := by
  intro v hv
  simp only [EntV.cells, List.mem_cons, List.mem_nil_iff, or_false] at hv
  rcases hv with rfl | rfl | rfl | rfl | rfl | rfl | rfl | rfl | rfl | rfl | rfl | rfl | rfl <;> rfl
theorem info_Ent : (Tryd.prog.info? 26).map (fun i => (i.zero, i.size, i.bytes)) = some (some (.agg #[.int .i64 0, .int .u8 0, .int .i64 0, .int .i64 0, .int .i64 0, .int .i64 0, .int .i64 0, .int .i64 0, .int .i64 0, .int .i64 0, .bool false, .int .i64 0, .int .u64 0]), 13, 104) := by kernel_rfl
theorem cells_at {W : World} {D : Nat} {x : EntV} (h : W.heap[D]? = some (.cells x.cells.toArray 26 (0, 0))) : ∀ j u, x.cells[j]? = some u → W.cell? ((⟨D, 0, none⟩ : Addr).add j) = some u := fun j u hu => by
  rw [Addr.add_lit, Nat.zero_add]
  simp only [World.cell?, h]
  rw [← Array.getElem?_toList]
  exact hu
theorem own_below {w w' : World} {B e sz n : Nat} {v : Value} {xs : List Value} (ho : w.ownsRow B e sz v n xs) (hb : Below w.heap.size w w') : w'.ownsRow B e sz v n xs := own_keeps (T := e + 1) ho (Keeps.of_below hb) (by omega)
theorem OnlyP.keeps {p : Nat} {r : Rd} {w w' : World} (hp : RdAt p r w) (ho : OnlyP p w w') : Keeps 89 w w' := fun g cur e z hb he => by
  refine ho.block g (Array.getElem?_eq_some_iff.1 hb).1 ?_
  rintro rfl
  rw [hp] at hb
  injection hb with hb
  injection hb with _ h2
  exact he h2.symm
theorem bytesL_ge : ∀ xs : List EntV, xs.length ≤ (bytesL xs).length
  | [] => Nat.le_refl _
  | x :: xs => by
    have h1 := bytesL_ge xs
    have h2 := List.length_pos_iff.2 (bytesX_ne x)
    have e : bytesL (x :: xs) = bytesX x ++ bytesL xs := rfl
    rw [e, List.length_append, List.length_cons]
    omega
theorem bytesL_snoc (xs : List EntV) (x : EntV) : bytesL (xs ++ [x]) = bytesL xs ++ bytesX x := by simp [bytesL]
/-- What Get answers of bytes. -/
def GetTo (l : List UInt8) (e : Ending) (w' : World) : Prop := ∃ (xs : List EntV) (rest : List UInt8), l = bytesL xs ++ rest ∧ (∀ x ∈ xs, entB x = true ∧ rgE x) ∧
  ((rest = [] ∧ ∃ A c, e = .returned (.tuple #[.slice A xs.length c, .int .i64 0]) ∧ kEnt.R w' (.slice A xs.length c) xs) ∨ (rest ≠ [] ∧ ((rdOne ⟨rest, false⟩).2.bad = true ∨ entB (rdOne ⟨rest, false⟩).1 = false) ∧ e = .returned (.tuple #[.slice none 0 0, .int .i64 7])))
def strLen (w : World) (p : Nat) : Nat := match w.cell? ⟨p, 0, none⟩ with | some (.string t) => t.size | _ => 0
theorem strLen_rd {w : World} {p : Nat} {r : Rd} (h : RdAt p r w) : strLen w p = r.l.length := by
  unfold strLen
  rw [show w.cell? ⟨p, 0, none⟩ = some (.string ⟨r.l.toArray⟩) from Ly.cellAt h 0 rfl]
  show r.l.toArray.size = _
  simp
set_option maxHeartbeats 4000000 in
theorem eGet_any (l : List UInt8) (hl : l.length ≤ 1000000000) (w : World) : Calls Tryd.prog 15 #[.string ⟨l.toArray⟩] w fun e w' => GetTo l e w' ∧ Below w.heap.size w w' := by
  obtain ⟨i0, hi, hz0, hz1, hz2⟩ := info_parts info_Ent
  have HI := Lib.hid hi
  have HZ0 := Lib.hid hz0
  have HZ1 := Lib.hid hz1
  have HZ2 := Lib.hid hz2
  clear hi hz0 hz1 hz2
  go_enter Tryd.func15, Tryd.ntmps15
  go_upto_region 2 with fail
  obtain ⟨w1, hw1⟩ : ∃ w1, w1 = w.alloc (.cells #[.string ⟨l.toArray⟩, .bool false] 89) := ⟨_, rfl⟩
  have hR1 : RdAt w.heap.size ⟨l, false⟩ w1 := by rw [hw1]; exact World.alloc_heap_new w _
  have hb1 : Below w.heap.size w w1 := by rw [hw1]; exact (Below.refl _ w).alloc (Nat.le_refl _) _
  rw [← hw1]
  have HR1 := Lib.hid hR1
  have HB1 := Lib.hid hb1
  clear hw1 hR1 hb1
  go_loopw [2] (fun u wr => ∃ (xs : List EntV) (rest : List UInt8), l = bytesL xs ++ rest ∧ (∀ x ∈ xs, entB x = true ∧ rgE x) ∧ RdAt w.heap.size ⟨rest, false⟩ wr ∧ wr.ownsRow w.heap.size 26 13 u xs.length (xs.flatMap EntV.cells) ∧ Below w.heap.size w wr) (fun _ wr => strLen wr w.heap.size)
  case atStart => exact ⟨[], l, rfl, by simp, HR1.out, World.ownsRow_nil _ _ _ _, HB1.out⟩
  case round =>
    obtain ⟨xs, rest, hlr, hxs, hrd, hrow, hbl⟩ := hrel
    have g0 : wr.cell? ⟨w.heap.size, 0, none⟩ = some (.string ⟨rest.toArray⟩) := Ly.cellAt hrd 0 rfl
    have hlp := hrd.lt
    have hrl : rest.length ≤ 1000000000 := by
      have := congrArg List.length hlr
      rw [List.length_append] at this
      omega
    have hxl : xs.length ≤ 1000000000 := by
      have := congrArg List.length hlr
      rw [List.length_append] at this
      have := bytesL_ge xs
      omega
    have HLR := Lib.hid hlr
    have HXS := Lib.hid hxs
    have HRD := Lib.hid hrd
    have HROW := Lib.hid hrow
    have HBL := Lib.hid hbl
    have HXL := Lib.hid hxl
    clear hlr hxs hrd hrow hbl hxl
    by_cases hre : rest = []
    · subst hre
      clear hrl
      go_wp2
      refine bodyPost_ret (results_tmp2 rfl _ _ _) rfl ?_
      have ho := HROW.out
      have hR := own_R (Q := fun _ => True) cells_len ho (fun _ _ => trivial) (Nat.le_trans HXL.out (by decide))
      obtain ⟨A, c, rfl⟩ : ∃ A c, u2 = .slice A xs.length c := by
        obtain ⟨A, c, h, _⟩ := hR
        exact ⟨A, c, h⟩
      exact ⟨⟨xs, [], HLR.out, HXS.out, .inl ⟨rfl, A, c, rfl, hR⟩⟩, HBL.out⟩
    · have hem : rest.isEmpty = false := by cases rest <;> first | exact absurd rfl hre | rfl
      obtain ⟨⟨x, r2⟩, hx⟩ : ∃ z, z = rdOne ⟨rest, false⟩ := ⟨_, rfl⟩
      have hone : Calls Tryd.prog 53 #[.pointer (some ⟨w.heap.size, 0, none⟩)] wr fun e w' => e = .returned x.agg ∧ RdAt w.heap.size r2 w' ∧ OnlyP w.heap.size wr w' := by
        have := rdOne_any HRD.out hrl
        rw [← hx] at this
        exact this
      simp only [EntV.agg] at hone
      have HONE := Lib.hid hone
      have HX := Lib.hid hx
      have HRE := Lib.hid hre
      clear hone hx hrl hre
      go_upto_region 4 with ((with_reducible refine HONE.out.mono ?_); rintro e w2 ⟨rfl, hr2, ho2⟩; (have HR2 := Lib.hid hr2); (have HO2 := Lib.hid ho2); clear hr2 ho2)
      obtain ⟨wx, hwx⟩ : ∃ wx, wx = w2.alloc (.cells #[.int .i64 x.at_, .int .u8 x.kind, .int .i64 x.worker, .int .i64 x.task, .int .i64 x.peer, .int .i64 x.ch, .int .i64 x.cs, .int .i64 x.pc, .int .i64 x.val, .int .i64 x.val2, .bool x.ok, .int .i64 x.code, .int .u64 x.set] 26) := ⟨_, rfl⟩
      have hD : wx.heap[w2.heap.size]? = some (.cells #[.int .i64 x.at_, .int .u8 x.kind, .int .i64 x.worker, .int .i64 x.task, .int .i64 x.peer, .int .i64 x.ch, .int .i64 x.cs, .int .i64 x.pc, .int .i64 x.val, .int .i64 x.val2, .bool x.ok, .int .i64 x.code, .int .u64 x.set] 26 (0, 0)) := by rw [hwx]; exact World.alloc_heap_new w2 _
      have hbx : Below w2.heap.size w2 wx := by rw [hwx]; exact (Below.refl _ w2).alloc (Nat.le_refl _) _
      rw [← hwx]
      have hrx : RdAt w.heap.size r2 wx := HR2.out.keep hbx
      have hrowx : wx.ownsRow w.heap.size 26 13 u2 xs.length (xs.flatMap EntV.cells) := own_below (own_keeps HROW.out (OnlyP.keeps HRD.out HO2.out) (by decide)) hbx
      have hbb : Below w.heap.size w wx := (HBL.out.trans (HO2.out.below (Nat.le_refl _) HBL.out.size)).trans (hbx.mono (Nat.le_trans HBL.out.size HO2.out.size))
      have hszw : w.heap.size ≤ w2.heap.size := Nat.le_trans HBL.out.size HO2.out.size
      have c0 : wx.cell? ⟨w2.heap.size, 0, none⟩ = some (.int .i64 x.at_) := Ly.cellAt hD 0 rfl
      have c1 : wx.cell? ⟨w2.heap.size, 1, none⟩ = some (.int .u8 x.kind) := Ly.cellAt hD 1 rfl
      have c2 : wx.cell? ⟨w2.heap.size, 2, none⟩ = some (.int .i64 x.worker) := Ly.cellAt hD 2 rfl
      have c3 : wx.cell? ⟨w2.heap.size, 3, none⟩ = some (.int .i64 x.task) := Ly.cellAt hD 3 rfl
      have c4 : wx.cell? ⟨w2.heap.size, 4, none⟩ = some (.int .i64 x.peer) := Ly.cellAt hD 4 rfl
      have c5 : wx.cell? ⟨w2.heap.size, 5, none⟩ = some (.int .i64 x.ch) := Ly.cellAt hD 5 rfl
      have c6 : wx.cell? ⟨w2.heap.size, 6, none⟩ = some (.int .i64 x.cs) := Ly.cellAt hD 6 rfl
      have c7 : wx.cell? ⟨w2.heap.size, 7, none⟩ = some (.int .i64 x.pc) := Ly.cellAt hD 7 rfl
      have c8 : wx.cell? ⟨w2.heap.size, 8, none⟩ = some (.int .i64 x.val) := Ly.cellAt hD 8 rfl
      have c9 : wx.cell? ⟨w2.heap.size, 9, none⟩ = some (.int .i64 x.val2) := Ly.cellAt hD 9 rfl
      have c10 : wx.cell? ⟨w2.heap.size, 10, none⟩ = some (.bool x.ok) := Ly.cellAt hD 10 rfl
      have c11 : wx.cell? ⟨w2.heap.size, 11, none⟩ = some (.int .i64 x.code) := Ly.cellAt hD 11 rfl
      have c12 : wx.cell? ⟨w2.heap.size, 12, none⟩ = some (.int .u64 x.set) := Ly.cellAt hD 12 rfl
      have b1 : wx.cell? ⟨w.heap.size, 1, none⟩ = some (.bool r2.bad) := Ly.cellAt hrx 1 rfl
      have hlx : w.heap.size < wx.heap.size := hrx.lt
      have hld : w2.heap.size < wx.heap.size := (Array.getElem?_eq_some_iff.1 hD).1
      have HD := Lib.hid hD
      have HRX := Lib.hid hrx
      have HROWX := Lib.hid hrowx
      have HBB := Lib.hid hbb
      have HSZW := Lib.hid hszw
      clear hwx hD hbx hrx hrowx hbb g0 hem hlp hszw
      have hchk := fun W => eCheck_any x W
      simp only [EntV.agg] at hchk
      cases hb : r2.bad with
      | true =>
        rw [hb] at b1
        have HB := Lib.hid hb
        clear hchk hb
        go_wp2
        refine bodyPost_ret (results_tmp2 rfl _ _ _) rfl ?_
        exact ⟨⟨xs, rest, HLR.out, HXS.out, .inr ⟨HRE.out, .inl (by rw [← HX.out]; exact HB.out), rfl⟩⟩, HBB.out⟩
      | false =>
        rw [hb] at b1
        obtain ⟨hlaw, hrg⟩ := lawB HX.out.symm hb
        have HLAW := Lib.hid hlaw
        have HRG := Lib.hid hrg
        have HB := Lib.hid hb
        clear hlaw hrg hb
        cases hen : entB x with
        | false =>
          rw [hen] at hchk
          have e2 : errOf false = 2 := rfl
          rw [e2] at hchk
          have HCHK := Lib.hid hchk
          have HEN := Lib.hid hen
          clear hchk hen e2
          go_wp2_with ((with_reducible refine (HCHK.out _).mono ?_); rintro e w3 ⟨rfl, hb3⟩; (have HB3 := Lib.hid hb3); clear hb3)
          refine bodyPost_ret (results_tmp2 rfl _ _ _) rfl ?_
          exact ⟨⟨xs, rest, HLR.out, HXS.out, .inr ⟨HRE.out, .inr (by rw [← HX.out]; exact HEN.out), rfl⟩⟩, HBB.out.trans (HB3.out.mono HBB.out.size)⟩
        | true =>
          rw [hen] at hchk
          have e2 : errOf true = 0 := rfl
          rw [e2] at hchk
          have HCHK := Lib.hid hchk
          have HEN := Lib.hid hen
          clear hchk hen e2
          go_upto_region 6 with ((with_reducible refine (HCHK.out _).mono ?_); rintro e w3 ⟨rfl, hb3⟩; (have HB3 := Lib.hid hb3); clear hb3)
          have hD3 := (HB3.out.block _ hld).trans HD.out
          have hrow3 := own_below HROWX.out HB3.out
          have hrd3 := HRX.out.keep HB3.out
          have hl3 := HB3.out.size
          clear c0 c1 c2 c3 c4 c5 c6 c7 c8 c9 c10 c11 c12 b1
          have d0 : w3.cell? ⟨w2.heap.size, 0, none⟩ = some (.int .i64 x.at_) := Ly.cellAt hD3 0 rfl
          have d1 : w3.cell? ⟨w2.heap.size, 1, none⟩ = some (.int .u8 x.kind) := Ly.cellAt hD3 1 rfl
          have d2 : w3.cell? ⟨w2.heap.size, 2, none⟩ = some (.int .i64 x.worker) := Ly.cellAt hD3 2 rfl
          have d3 : w3.cell? ⟨w2.heap.size, 3, none⟩ = some (.int .i64 x.task) := Ly.cellAt hD3 3 rfl
          have d4 : w3.cell? ⟨w2.heap.size, 4, none⟩ = some (.int .i64 x.peer) := Ly.cellAt hD3 4 rfl
          have d5 : w3.cell? ⟨w2.heap.size, 5, none⟩ = some (.int .i64 x.ch) := Ly.cellAt hD3 5 rfl
          have d6 : w3.cell? ⟨w2.heap.size, 6, none⟩ = some (.int .i64 x.cs) := Ly.cellAt hD3 6 rfl
          have d7 : w3.cell? ⟨w2.heap.size, 7, none⟩ = some (.int .i64 x.pc) := Ly.cellAt hD3 7 rfl
          have d8 : w3.cell? ⟨w2.heap.size, 8, none⟩ = some (.int .i64 x.val) := Ly.cellAt hD3 8 rfl
          have d9 : w3.cell? ⟨w2.heap.size, 9, none⟩ = some (.int .i64 x.val2) := Ly.cellAt hD3 9 rfl
          have d10 : w3.cell? ⟨w2.heap.size, 10, none⟩ = some (.bool x.ok) := Ly.cellAt hD3 10 rfl
          have d11 : w3.cell? ⟨w2.heap.size, 11, none⟩ = some (.int .i64 x.code) := Ly.cellAt hD3 11 rfl
          have d12 : w3.cell? ⟨w2.heap.size, 12, none⟩ = some (.int .u64 x.set) := Ly.cellAt hD3 12 rfl
          have hld3 : w2.heap.size < w3.heap.size := (Array.getElem?_eq_some_iff.1 hD3).1
          have HROW3 := Lib.hid hrow3
          have HRD3 := Lib.hid hrd3
          have HBB3 := Lib.hid (HBB.out.trans (HB3.out.mono HBB.out.size))
          clear hD3 hrow3 hrd3 hlx hld hl3
          go_wp2_with (at_builtin; apply wpList_append_own_at (t := 27) (base := w.heap.size) (e := 26) (i := i0) (size := 13) (bytes := 104) (v := u2) (n := xs.length) (xs := xs.flatMap EntV.cells) (ad := ⟨w3.heap.size, 0, none⟩) (m := 1) (c := 1) (news := x.cells); (case hgd => rfl); (case ho => rfl); (case ht => exact Tryd.underlying27); (case hi => exact HI.out); (case hz => exact HZ0.out); (case hsize => exact HZ1.out); (case hby => exact HZ2.out); (case hzs => rfl); (case hsz => decide); (case hs => rfl); (case hown => exact own_below HROW3.out ((Below.refl _ _).alloc (Nat.le_refl _) _)); (case hx => rfl); (case hl => rfl); (case hnews => exact cells_at (World.alloc_heap_new _ _)); (case h1 => exact cells_one _); (case h63 => unfold maxLen; have := HXL.out; omega); (case hbytes => have := HXL.out; omega); (case hbase => have := HBB3.out.size; simp; omega); intro v' w4 hown' hgrow _ hob; (have HOWN := Lib.hid hown'); (have HGR := Lib.hid hgrow); clear hown' hgrow hob)
          have hq4 : w4.heap[w.heap.size]? = some (.cells #[.string ⟨r2.l.toArray⟩, .bool r2.bad] 89 (0, 0)) := by
            have h1 : (w3.alloc (.cells x.cells.toArray 26)).heap[w.heap.size]? = some (.cells #[.string ⟨r2.l.toArray⟩, .bool r2.bad] 89 (0, 0)) := HRD3.out.keep ((Below.refl _ _).alloc (Nat.le_refl _) _)
            exact (Keeps.of_grown (own_below HROW3.out ((Below.refl _ _).alloc (Nat.le_refl _) _)) HGR.out _ _ _ _ h1 (by decide)).trans h1
          rw [HB.out] at hq4
          have hr4 : RdAt w.heap.size ⟨r2.l, false⟩ w4 := hq4
          have HR4 := Lib.hid hr4
          clear hq4 hr4
          go_roundw
          case rel =>
            refine ⟨xs ++ [x], r2.l, by rw [HLR.out, HLAW.out, bytesL_snoc, List.append_assoc], fun y hy => ?_, HR4.out, ?_, ?_⟩
            · rcases List.mem_append.1 hy with hy | hy
              · exact HXS.out y hy
              · rw [List.mem_singleton.1 hy]
                exact ⟨HEN.out, HRG.out⟩
            · rw [List.length_append, List.flatMap_append, List.length_singleton, List.flatMap_cons, List.flatMap_nil, List.append_nil]
              exact HOWN.out
            · exact (HBB3.out.alloc HBB3.out.size _).grown HGR.out (by have := HBB3.out.size; simp; omega) (fun k hk => (HROW3.out.lt k hk).1)
          case measure =>
            rw [strLen_rd HR4.out, strLen_rd HRD.out, HLAW.out, List.length_append]
            have := List.length_pos_iff.2 (bytesX_ne x)
            show r2.l.length < _
            omega
end Go.Proofs.YtljfloopjgpaeabDoor
