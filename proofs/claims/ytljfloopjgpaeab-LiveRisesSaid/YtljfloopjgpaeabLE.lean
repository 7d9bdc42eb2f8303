/- live.open: the iterator over the lags of a kind. -/
import Derived.Test.YtljfloopjgpaeabLC
import Derived.Test.YtljfloopjgpaeabLX
namespace Go.Proofs.Ytljfloopjgpaeab
set_option linter.unusedVariables false
set_option linter.unusedSimpArgs false
open Go.RowKit Go.Shelf
attribute [local go_sem] Oper.semAt_some
set_option maxRecDepth 100000
/-- The lags of a kind that begin among the first n: where, and of whom. -/
def openL (k : Nat) (l : List EntV) (n : Nat) : List (Nat × Int) := (List.range n).filterMap fun i => (begB k l i).map fun who => (i, who)
theorem openL_hit (k : Nat) (l : List EntV) (i : Nat) {who : Int} (h : begB k l i = some who) : openL k l (i + 1) = openL k l i ++ [(i, who)] := by simp [openL, List.range_succ, h]
theorem openL_miss (k : Nat) (l : List EntV) (i : Nat) (h : begB k l i = none) : openL k l (i + 1) = openL k l i := by simp [openL, List.range_succ, h]
def encO (x : Nat × Int) : Array Value := #[.int .i64 x.1, .int .i64 x.2]
/-- Only new blocks, and draws. -/
def GrowA (W W' : World) : Prop := Below W.heap.size W W'
def LagB (W : World) (B : Nat) (fb fe : Value) : Prop := W.heap[B]? = some (.cells #[fb, fe] 64 (0, 0))
theorem LagB.lt {W : World} {B : Nat} {fb fe : Value} (h : LagB W B fb fe) : B < W.heap.size := (Array.getElem?_eq_some_iff.1 h).1
/-- What the iterator looks at. -/
structure OpnI (w00 : World) (bl bg : Nat) (A : Option Addr) (n c : Nat) (fb fe : Value) (W : World) : Prop where
  below : Below w00.heap.size w00 W
  bl : Boxed W bl 22 (.slice A n c)
  bg : LagB W bg fb fe
theorem OpnI.grow {w00 : World} {bl bg : Nat} {A : Option Addr} {n c : Nat} {fb fe : Value} {W W' : World} (h : OpnI w00 bl bg A n c fb fe W) (hb : Below W.heap.size W W') : OpnI w00 bl bg A n c fb fe W' :=
  ⟨h.below.trans (hb.mono h.below.size), (hb.block _ h.bl.lt).trans h.bl, (hb.block _ h.bg.lt).trans h.bg⟩
theorem OpnI.kept {w00 : World} {bl bg : Nat} {A : Option Addr} {n c : Nat} {fb fe : Value} {W W' : World} {Own : Nat → Prop} (h : OpnI w00 bl bg A n c fb fe W) (ol : ¬ Own bl) (og : ¬ Own bg) (hk : KpO w00.heap.size Own W W') : OpnI w00 bl bg A n c fb fe W' :=
  ⟨h.below.trans hk.below, hk.cells _ _ h.bl rfl ol, hk.cells _ _ h.bg rfl og⟩
set_option maxHeartbeats 4000000 in
theorem open0_seq (n bl bg : Nat) (hn1 : 1 ≤ n) {w00 : World} {A : Option Addr} {c : Nat} {l : List EntV} (hl : kEnt.R w00 (.slice A l.length c) l) (fe : Value) (Own : Nat → Prop) (w : World) (hb : Below w00.heap.size w00 w) (ol : ¬ Own bl) (og : ¬ Own bg) (h0l : Boxed w bl 22 (.slice A l.length c)) (h0g : LagB w bg (.func (.func 47) #[] #[]) fe) :
    SeqX n Try.prog 54 #[.pointer (some ⟨bl, 0, none⟩), .pointer (some ⟨bg, 0, none⟩)] encO GrowA (KpO w00.heap.size Own) (· = openL 0 l l.length) (fun _ => True) (fun pre x => ∃ i, i < l.length ∧ pre = openL 0 l i ∧ begB 0 l i = some x.2 ∧ x.1 = i) (fun _ => True) w := fun ll J Jx W hW hJA _ _ hY h0 => by
  obtain ⟨_, _, _, _, _, hl3⟩ := hl.val
  have hbW := hb.trans (hW.mono hb.size)
  have hWl : OpnI w00 bl bg A l.length c (.func (.func 47) #[] #[]) fe W := ⟨hbW, (hW.block _ h0l.lt).trans h0l, (hW.block _ h0g.lt).trans h0g⟩
  have hbeg := fun (W' : World) (hx : Below w00.heap.size w00 W') (i : Nat) (hi : i < l.length) => callsIn_wide (n := n - 1) |>.2 (readied_any (hl.keep hx) hi)
  have HBG := Lib.hid hbeg
  have HJA := Lib.hid hJA
  have HY := Lib.hid hY
  have HJ0 := Lib.hid h0
  have HI0 := Lib.hid hWl
  have hbl0 := hWl.bl.lt
  have cl0 := hWl.bl.cell
  clear hb h0l h0g hl hbW hWl hbeg hJA hY h0 hW
  refine callsIn_of_wp Try.func54 rfl trivial ?_ rfl
  simp only [Try.ntmps54, List.size_toArray, List.length_cons, List.length_nil, Nat.reduceAdd, Nat.reduceSub, Array.replicate_succ, Array.replicate_zero, List.push_toArray, List.append_toArray, List.nil_append, List.cons_append]
  gi_wp2
  clear hbl0 cl0
  gi_loopw [9] (fun iv wr => ∃ i : Nat, i ≤ l.length ∧ iv = .int .i64 i ∧ J (openL 0 l i) wr ∧ OpnI w00 bl bg A l.length c (.func (.func 47) #[] #[]) fe wr) (fun iv _ => l.length - (intOf iv).toNat)
  case atStart => exact ⟨0, Nat.zero_le _, rfl, HJ0.out, HI0.out⟩
  case round =>
    obtain ⟨i, hi, rfl, hj, hop⟩ := hrel
    by_cases hlt : i < l.length
    · have e0 : (0 : Int) ≤ (i : Int) := by omega
      have e2 : decide ((i : Int) < (l.length : Int)) = true := by simp; omega
      have hwr : IntKind.i64.wrap ((i : Int) + 1) = (i : Int) + 1 := IntWalk.i64_in _ (by omega)
      have hlbl := hop.bl.lt
      have hlbg := hop.bg.lt
      have cl := hop.bl.cell
      have cg : wr.cell? ⟨bg, 0, none⟩ = some (.func (.func 47) #[] #[]) := Ly.cellAt hop.bg 0 rfl
      have HOP := Lib.hid hop
      have HJ := Lib.hid hj
      clear hop hj
      cases hbk : begB 0 l i with
      | none =>
        have HBK := Lib.hid hbk
        gi_wp2_with ((first | refine ⟨trivial, fun _ => by omega, ?_⟩ | refine ⟨trivial, ?_⟩); (with_reducible refine (HBG.out _ HOP.out.below i hlt).mono ?_); rintro e w3 ⟨⟨who, is, rfl, h1, h2⟩, hb3⟩; obtain rfl : is = false := (by cases is; rfl; rw [HBK.out] at h1; cases h1 rfl); have HB3 := Lib.hid hb3; clear hb3 h1 h2)
        refine ⟨fun _ h => (by cases h), ?_⟩
        gi_wp2
        go_roundw
        case rel => exact ⟨i + 1, hlt, rfl, by rw [openL_miss 0 l i HBK.out]; exact HJA.out _ _ _ HJ.out HB3.out, HOP.out.grow HB3.out⟩
        case measure => simp [intOf]; omega
      | some who =>
        have HBK := Lib.hid hbk
        gi_wp2_with ((first | refine ⟨trivial, fun _ => by omega, ?_⟩ | refine ⟨trivial, ?_⟩); (with_reducible refine (HBG.out _ HOP.out.below i hlt).mono ?_); rintro e w3 ⟨⟨who', is, rfl, h1, h2⟩, hb3⟩; obtain rfl : is = true := (by cases is; (rw [HBK.out] at h2; cases h2 rfl); rfl); obtain rfl : who' = who := (by (have h3 := h1 rfl); rw [HBK.out] at h3; injection h3 with h3; exact h3.symm); have HB3 := Lib.hid hb3; clear hb3 h1 h2; obtain ⟨fn, tmps, assign, body, hy, hR⟩ := HY.out (openL 0 l i) (i, who') w3 (HJA.out _ _ _ HJ.out HB3.out) ⟨i, hlt, rfl, HBK.out, rfl⟩; dsimp only [encO] at hy)
        refine hR.mono ?_
        rintro e W3 (⟨rfl, hJ3, hk3⟩ | ⟨rfl, hJx3⟩)
        · gi_wp2
          go_roundw
          case rel => exact ⟨i + 1, hlt, rfl, by rw [openL_hit 0 l i HBK.out]; exact hJ3, (HOP.out.grow HB3.out).kept ol og hk3⟩
          case measure => simp [intOf]; omega
        · gi_wp2
          refine bodyPost_ret (results_none rfl _ _ _) rfl ?_
          exact ⟨⟨_, rfl⟩, .inr ⟨_, trivial, hJx3⟩⟩
    · obtain rfl : i = l.length := by omega
      have e2 : decide ((l.length : Int) < (l.length : Int)) = false := by simp
      gi_wp2
      go_end0
      exact ⟨⟨_, rfl⟩, .inl ⟨_, rfl, hj⟩⟩
set_option maxHeartbeats 4000000 in
theorem open1_seq (n bl bg : Nat) (hn1 : 1 ≤ n) {w00 : World} {A : Option Addr} {c : Nat} {l : List EntV} (hl : kEnt.R w00 (.slice A l.length c) l) (fe : Value) (Own : Nat → Prop) (w : World) (hb : Below w00.heap.size w00 w) (ol : ¬ Own bl) (og : ¬ Own bg) (h0l : Boxed w bl 22 (.slice A l.length c)) (h0g : LagB w bg (.func (.func 49) #[] #[]) fe) :
    SeqX n Try.prog 54 #[.pointer (some ⟨bl, 0, none⟩), .pointer (some ⟨bg, 0, none⟩)] encO GrowA (KpO w00.heap.size Own) (· = openL 1 l l.length) (fun _ => True) (fun pre x => ∃ i, i < l.length ∧ pre = openL 1 l i ∧ begB 1 l i = some x.2 ∧ x.1 = i) (fun _ => True) w := fun ll J Jx W hW hJA _ _ hY h0 => by
  obtain ⟨_, _, _, _, _, hl3⟩ := hl.val
  have hbW := hb.trans (hW.mono hb.size)
  have hWl : OpnI w00 bl bg A l.length c (.func (.func 49) #[] #[]) fe W := ⟨hbW, (hW.block _ h0l.lt).trans h0l, (hW.block _ h0g.lt).trans h0g⟩
  have hbeg := fun (W' : World) (hx : Below w00.heap.size w00 W') (i : Nat) (hi : i < l.length) => callsIn_wide (n := n - 1) |>.2 (worked_any (hl.keep hx) hi)
  have HBG := Lib.hid hbeg
  have HJA := Lib.hid hJA
  have HY := Lib.hid hY
  have HJ0 := Lib.hid h0
  have HI0 := Lib.hid hWl
  have hbl0 := hWl.bl.lt
  have cl0 := hWl.bl.cell
  clear hb h0l h0g hl hbW hWl hbeg hJA hY h0 hW
  refine callsIn_of_wp Try.func54 rfl trivial ?_ rfl
  simp only [Try.ntmps54, List.size_toArray, List.length_cons, List.length_nil, Nat.reduceAdd, Nat.reduceSub, Array.replicate_succ, Array.replicate_zero, List.push_toArray, List.append_toArray, List.nil_append, List.cons_append]
  gi_wp2
  clear hbl0 cl0
  gi_loopw [9] (fun iv wr => ∃ i : Nat, i ≤ l.length ∧ iv = .int .i64 i ∧ J (openL 1 l i) wr ∧ OpnI w00 bl bg A l.length c (.func (.func 49) #[] #[]) fe wr) (fun iv _ => l.length - (intOf iv).toNat)
  case atStart => exact ⟨0, Nat.zero_le _, rfl, HJ0.out, HI0.out⟩
  case round =>
    obtain ⟨i, hi, rfl, hj, hop⟩ := hrel
    by_cases hlt : i < l.length
    · have e0 : (0 : Int) ≤ (i : Int) := by omega
      have e2 : decide ((i : Int) < (l.length : Int)) = true := by simp; omega
      have hwr : IntKind.i64.wrap ((i : Int) + 1) = (i : Int) + 1 := IntWalk.i64_in _ (by omega)
      have hlbl := hop.bl.lt
      have hlbg := hop.bg.lt
      have cl := hop.bl.cell
      have cg : wr.cell? ⟨bg, 0, none⟩ = some (.func (.func 49) #[] #[]) := Ly.cellAt hop.bg 0 rfl
      have HOP := Lib.hid hop
      have HJ := Lib.hid hj
      clear hop hj
      cases hbk : begB 1 l i with
      | none =>
        have HBK := Lib.hid hbk
        gi_wp2_with ((first | refine ⟨trivial, fun _ => by omega, ?_⟩ | refine ⟨trivial, ?_⟩); (with_reducible refine (HBG.out _ HOP.out.below i hlt).mono ?_); rintro e w3 ⟨⟨who, is, rfl, h1, h2⟩, hb3⟩; obtain rfl : is = false := (by cases is; rfl; rw [HBK.out] at h1; cases h1 rfl); have HB3 := Lib.hid hb3; clear hb3 h1 h2)
        refine ⟨fun _ h => (by cases h), ?_⟩
        gi_wp2
        go_roundw
        case rel => exact ⟨i + 1, hlt, rfl, by rw [openL_miss 1 l i HBK.out]; exact HJA.out _ _ _ HJ.out HB3.out, HOP.out.grow HB3.out⟩
        case measure => simp [intOf]; omega
      | some who =>
        have HBK := Lib.hid hbk
        gi_wp2_with ((first | refine ⟨trivial, fun _ => by omega, ?_⟩ | refine ⟨trivial, ?_⟩); (with_reducible refine (HBG.out _ HOP.out.below i hlt).mono ?_); rintro e w3 ⟨⟨who', is, rfl, h1, h2⟩, hb3⟩; obtain rfl : is = true := (by cases is; (rw [HBK.out] at h2; cases h2 rfl); rfl); obtain rfl : who' = who := (by (have h3 := h1 rfl); rw [HBK.out] at h3; injection h3 with h3; exact h3.symm); have HB3 := Lib.hid hb3; clear hb3 h1 h2; obtain ⟨fn, tmps, assign, body, hy, hR⟩ := HY.out (openL 1 l i) (i, who') w3 (HJA.out _ _ _ HJ.out HB3.out) ⟨i, hlt, rfl, HBK.out, rfl⟩; dsimp only [encO] at hy)
        refine hR.mono ?_
        rintro e W3 (⟨rfl, hJ3, hk3⟩ | ⟨rfl, hJx3⟩)
        · gi_wp2
          go_roundw
          case rel => exact ⟨i + 1, hlt, rfl, by rw [openL_hit 1 l i HBK.out]; exact hJ3, (HOP.out.grow HB3.out).kept ol og hk3⟩
          case measure => simp [intOf]; omega
        · gi_wp2
          refine bodyPost_ret (results_none rfl _ _ _) rfl ?_
          exact ⟨⟨_, rfl⟩, .inr ⟨_, trivial, hJx3⟩⟩
    · obtain rfl : i = l.length := by omega
      have e2 : decide ((l.length : Int) < (l.length : Int)) = false := by simp
      gi_wp2
      go_end0
      exact ⟨⟨_, rfl⟩, .inl ⟨_, rfl, hj⟩⟩
set_option maxHeartbeats 4000000 in
theorem open2_seq (n bl bg : Nat) (hn1 : 1 ≤ n) {w00 : World} {A : Option Addr} {c : Nat} {l : List EntV} (hl : kEnt.R w00 (.slice A l.length c) l) (fe : Value) (Own : Nat → Prop) (w : World) (hb : Below w00.heap.size w00 w) (ol : ¬ Own bl) (og : ¬ Own bg) (h0l : Boxed w bl 22 (.slice A l.length c)) (h0g : LagB w bg (.func (.func 51) #[] #[]) fe) :
    SeqX n Try.prog 54 #[.pointer (some ⟨bl, 0, none⟩), .pointer (some ⟨bg, 0, none⟩)] encO GrowA (KpO w00.heap.size Own) (· = openL 2 l l.length) (fun _ => True) (fun pre x => ∃ i, i < l.length ∧ pre = openL 2 l i ∧ begB 2 l i = some x.2 ∧ x.1 = i) (fun _ => True) w := fun ll J Jx W hW hJA _ _ hY h0 => by
  obtain ⟨_, _, _, _, _, hl3⟩ := hl.val
  have hbW := hb.trans (hW.mono hb.size)
  have hWl : OpnI w00 bl bg A l.length c (.func (.func 51) #[] #[]) fe W := ⟨hbW, (hW.block _ h0l.lt).trans h0l, (hW.block _ h0g.lt).trans h0g⟩
  have hbeg := fun (W' : World) (hx : Below w00.heap.size w00 W') (i : Nat) (hi : i < l.length) => callsIn_wide (n := n - 1) |>.2 (left_any (hl.keep hx) hi)
  have HBG := Lib.hid hbeg
  have HJA := Lib.hid hJA
  have HY := Lib.hid hY
  have HJ0 := Lib.hid h0
  have HI0 := Lib.hid hWl
  have hbl0 := hWl.bl.lt
  have cl0 := hWl.bl.cell
  clear hb h0l h0g hl hbW hWl hbeg hJA hY h0 hW
  refine callsIn_of_wp Try.func54 rfl trivial ?_ rfl
  simp only [Try.ntmps54, List.size_toArray, List.length_cons, List.length_nil, Nat.reduceAdd, Nat.reduceSub, Array.replicate_succ, Array.replicate_zero, List.push_toArray, List.append_toArray, List.nil_append, List.cons_append]
  gi_wp2
  clear hbl0 cl0
  gi_loopw [9] (fun iv wr => ∃ i : Nat, i ≤ l.length ∧ iv = .int .i64 i ∧ J (openL 2 l i) wr ∧ OpnI w00 bl bg A l.length c (.func (.func 51) #[] #[]) fe wr) (fun iv _ => l.length - (intOf iv).toNat)
  case atStart => exact ⟨0, Nat.zero_le _, rfl, HJ0.out, HI0.out⟩
  case round =>
    obtain ⟨i, hi, rfl, hj, hop⟩ := hrel
    by_cases hlt : i < l.length
    · have e0 : (0 : Int) ≤ (i : Int) := by omega
      have e2 : decide ((i : Int) < (l.length : Int)) = true := by simp; omega
      have hwr : IntKind.i64.wrap ((i : Int) + 1) = (i : Int) + 1 := IntWalk.i64_in _ (by omega)
      have hlbl := hop.bl.lt
      have hlbg := hop.bg.lt
      have cl := hop.bl.cell
      have cg : wr.cell? ⟨bg, 0, none⟩ = some (.func (.func 51) #[] #[]) := Ly.cellAt hop.bg 0 rfl
      have HOP := Lib.hid hop
      have HJ := Lib.hid hj
      clear hop hj
      cases hbk : begB 2 l i with
      | none =>
        have HBK := Lib.hid hbk
        gi_wp2_with ((first | refine ⟨trivial, fun _ => by omega, ?_⟩ | refine ⟨trivial, ?_⟩); (with_reducible refine (HBG.out _ HOP.out.below i hlt).mono ?_); rintro e w3 ⟨⟨who, is, rfl, h1, h2⟩, hb3⟩; obtain rfl : is = false := (by cases is; rfl; rw [HBK.out] at h1; cases h1 rfl); have HB3 := Lib.hid hb3; clear hb3 h1 h2)
        refine ⟨fun _ h => (by cases h), ?_⟩
        gi_wp2
        go_roundw
        case rel => exact ⟨i + 1, hlt, rfl, by rw [openL_miss 2 l i HBK.out]; exact HJA.out _ _ _ HJ.out HB3.out, HOP.out.grow HB3.out⟩
        case measure => simp [intOf]; omega
      | some who =>
        have HBK := Lib.hid hbk
        gi_wp2_with ((first | refine ⟨trivial, fun _ => by omega, ?_⟩ | refine ⟨trivial, ?_⟩); (with_reducible refine (HBG.out _ HOP.out.below i hlt).mono ?_); rintro e w3 ⟨⟨who', is, rfl, h1, h2⟩, hb3⟩; obtain rfl : is = true := (by cases is; (rw [HBK.out] at h2; cases h2 rfl); rfl); obtain rfl : who' = who := (by (have h3 := h1 rfl); rw [HBK.out] at h3; injection h3 with h3; exact h3.symm); have HB3 := Lib.hid hb3; clear hb3 h1 h2; obtain ⟨fn, tmps, assign, body, hy, hR⟩ := HY.out (openL 2 l i) (i, who') w3 (HJA.out _ _ _ HJ.out HB3.out) ⟨i, hlt, rfl, HBK.out, rfl⟩; dsimp only [encO] at hy)
        refine hR.mono ?_
        rintro e W3 (⟨rfl, hJ3, hk3⟩ | ⟨rfl, hJx3⟩)
        · gi_wp2
          go_roundw
          case rel => exact ⟨i + 1, hlt, rfl, by rw [openL_hit 2 l i HBK.out]; exact hJ3, (HOP.out.grow HB3.out).kept ol og hk3⟩
          case measure => simp [intOf]; omega
        · gi_wp2
          refine bodyPost_ret (results_none rfl _ _ _) rfl ?_
          exact ⟨⟨_, rfl⟩, .inr ⟨_, trivial, hJx3⟩⟩
    · obtain rfl : i = l.length := by omega
      have e2 : decide ((l.length : Int) < (l.length : Int)) = false := by simp
      gi_wp2
      go_end0
      exact ⟨⟨_, rfl⟩, .inl ⟨_, rfl, hj⟩⟩
set_option maxHeartbeats 4000000 in
theorem open3_seq (n bl bg : Nat) (hn1 : 1 ≤ n) {w00 : World} {A : Option Addr} {c : Nat} {l : List EntV} (hl : kEnt.R w00 (.slice A l.length c) l) (fe : Value) (Own : Nat → Prop) (w : World) (hb : Below w00.heap.size w00 w) (ol : ¬ Own bl) (og : ¬ Own bg) (h0l : Boxed w bl 22 (.slice A l.length c)) (h0g : LagB w bg (.func (.func 53) #[] #[]) fe) :
    SeqX n Try.prog 54 #[.pointer (some ⟨bl, 0, none⟩), .pointer (some ⟨bg, 0, none⟩)] encO GrowA (KpO w00.heap.size Own) (· = openL 3 l l.length) (fun _ => True) (fun pre x => ∃ i, i < l.length ∧ pre = openL 3 l i ∧ begB 3 l i = some x.2 ∧ x.1 = i) (fun _ => True) w := fun ll J Jx W hW hJA _ _ hY h0 => by
  obtain ⟨_, _, _, _, _, hl3⟩ := hl.val
  have hbW := hb.trans (hW.mono hb.size)
  have hWl : OpnI w00 bl bg A l.length c (.func (.func 53) #[] #[]) fe W := ⟨hbW, (hW.block _ h0l.lt).trans h0l, (hW.block _ h0g.lt).trans h0g⟩
  have hbeg := fun (W' : World) (hx : Below w00.heap.size w00 W') (i : Nat) (hi : i < l.length) => callsIn_wide (n := n - 1) |>.2 (woken_any (hl.keep hx) hi)
  have HBG := Lib.hid hbeg
  have HJA := Lib.hid hJA
  have HY := Lib.hid hY
  have HJ0 := Lib.hid h0
  have HI0 := Lib.hid hWl
  have hbl0 := hWl.bl.lt
  have cl0 := hWl.bl.cell
  clear hb h0l h0g hl hbW hWl hbeg hJA hY h0 hW
  refine callsIn_of_wp Try.func54 rfl trivial ?_ rfl
  simp only [Try.ntmps54, List.size_toArray, List.length_cons, List.length_nil, Nat.reduceAdd, Nat.reduceSub, Array.replicate_succ, Array.replicate_zero, List.push_toArray, List.append_toArray, List.nil_append, List.cons_append]
  gi_wp2
  clear hbl0 cl0
  gi_loopw [9] (fun iv wr => ∃ i : Nat, i ≤ l.length ∧ iv = .int .i64 i ∧ J (openL 3 l i) wr ∧ OpnI w00 bl bg A l.length c (.func (.func 53) #[] #[]) fe wr) (fun iv _ => l.length - (intOf iv).toNat)
  case atStart => exact ⟨0, Nat.zero_le _, rfl, HJ0.out, HI0.out⟩
  case round =>
    obtain ⟨i, hi, rfl, hj, hop⟩ := hrel
    by_cases hlt : i < l.length
    · have e0 : (0 : Int) ≤ (i : Int) := by omega
      have e2 : decide ((i : Int) < (l.length : Int)) = true := by simp; omega
      have hwr : IntKind.i64.wrap ((i : Int) + 1) = (i : Int) + 1 := IntWalk.i64_in _ (by omega)
      have hlbl := hop.bl.lt
      have hlbg := hop.bg.lt
      have cl := hop.bl.cell
      have cg : wr.cell? ⟨bg, 0, none⟩ = some (.func (.func 53) #[] #[]) := Ly.cellAt hop.bg 0 rfl
      have HOP := Lib.hid hop
      have HJ := Lib.hid hj
      clear hop hj
      cases hbk : begB 3 l i with
      | none =>
        have HBK := Lib.hid hbk
        gi_wp2_with ((first | refine ⟨trivial, fun _ => by omega, ?_⟩ | refine ⟨trivial, ?_⟩); (with_reducible refine (HBG.out _ HOP.out.below i hlt).mono ?_); rintro e w3 ⟨⟨who, is, rfl, h1, h2⟩, hb3⟩; obtain rfl : is = false := (by cases is; rfl; rw [HBK.out] at h1; cases h1 rfl); have HB3 := Lib.hid hb3; clear hb3 h1 h2)
        refine ⟨fun _ h => (by cases h), ?_⟩
        gi_wp2
        go_roundw
        case rel => exact ⟨i + 1, hlt, rfl, by rw [openL_miss 3 l i HBK.out]; exact HJA.out _ _ _ HJ.out HB3.out, HOP.out.grow HB3.out⟩
        case measure => simp [intOf]; omega
      | some who =>
        have HBK := Lib.hid hbk
        gi_wp2_with ((first | refine ⟨trivial, fun _ => by omega, ?_⟩ | refine ⟨trivial, ?_⟩); (with_reducible refine (HBG.out _ HOP.out.below i hlt).mono ?_); rintro e w3 ⟨⟨who', is, rfl, h1, h2⟩, hb3⟩; obtain rfl : is = true := (by cases is; (rw [HBK.out] at h2; cases h2 rfl); rfl); obtain rfl : who' = who := (by (have h3 := h1 rfl); rw [HBK.out] at h3; injection h3 with h3; exact h3.symm); have HB3 := Lib.hid hb3; clear hb3 h1 h2; obtain ⟨fn, tmps, assign, body, hy, hR⟩ := HY.out (openL 3 l i) (i, who') w3 (HJA.out _ _ _ HJ.out HB3.out) ⟨i, hlt, rfl, HBK.out, rfl⟩; dsimp only [encO] at hy)
        refine hR.mono ?_
        rintro e W3 (⟨rfl, hJ3, hk3⟩ | ⟨rfl, hJx3⟩)
        · gi_wp2
          go_roundw
          case rel => exact ⟨i + 1, hlt, rfl, by rw [openL_hit 3 l i HBK.out]; exact hJ3, (HOP.out.grow HB3.out).kept ol og hk3⟩
          case measure => simp [intOf]; omega
        · gi_wp2
          refine bodyPost_ret (results_none rfl _ _ _) rfl ?_
          exact ⟨⟨_, rfl⟩, .inr ⟨_, trivial, hJx3⟩⟩
    · obtain rfl : i = l.length := by omega
      have e2 : decide ((l.length : Int) < (l.length : Int)) = false := by simp
      gi_wp2
      go_end0
      exact ⟨⟨_, rfl⟩, .inl ⟨_, rfl, hj⟩⟩
end Go.Proofs.Ytljfloopjgpaeab
