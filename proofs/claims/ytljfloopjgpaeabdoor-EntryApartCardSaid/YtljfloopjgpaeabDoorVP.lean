/- entry's bytes, in plain Lean: what is put is read as itself, and what is read is put as it stood. -/
import Derived.Test.YtljfloopjgpaeabDoorVG
namespace Go.Proofs.YtljfloopjgpaeabDoor
set_option linter.unusedVariables false
set_option linter.unusedSimpArgs false
open Go.RowKit
set_option maxRecDepth 100000
/-- The bytes of what is told. -/
def evB : Ev → List UInt8
  | .small s v => numL (v + shiftB s).toNat
  | .wide v => numL (zig v)
  | .plain n => numL n
def evsB (l : List Ev) : List UInt8 := l.flatMap evB
theorem evsB_app (a b : List Ev) : evsB (a ++ b) = evsB a ++ evsB b := by simp [evsB]
def namesX (x : EntV) : List ByteArray := match hasOf x.kind with | none => [] | some p => p.2
def bytesX (x : EntV) : List UInt8 := rowL [x.at_.toNat, x.kind.toNat] ++ evsB (evAll x (namesX x))
/-- Bytes that are read. -/
structure Rd where
  l : List UInt8
  bad : Bool
def Rd.num (r : Rd) (most : Nat) : Nat × Rd := match getG 0 0 r.l with
  | .error _ => (0, ⟨r.l, true⟩)
  | .ok (v, t) => if r.bad = true ∨ v > most then (0, ⟨r.l, true⟩) else (v, ⟨t, false⟩)
def Rd.wide (r : Rd) : Int × Rd := match getG 0 0 r.l with
  | .error _ => (0, ⟨r.l, true⟩)
  | .ok (v, t) => if r.bad = true then (0, ⟨r.l, true⟩) else (zag v, ⟨t, false⟩)
def Rd.flag (r : Rd) : Bool × Rd := ((r.num 1000).1 == 1, ⟨(r.num 1000).2.l, (r.num 1000).2.bad || decide ((r.num 1000).1 > 1)⟩)
def setF (x : EntV) (j : Nat) (v : Int) : EntV := if j = 2 then { x with worker := v } else if j = 3 then { x with task := v } else if j = 4 then { x with peer := v } else if j = 5 then { x with ch := v } else if j = 6 then { x with cs := v } else { x with pc := v }
def rdSw (y : EntV × Rd) (s : ByteArray) : EntV × Rd :=
  if s = s_val then ({ y.1 with val := y.2.wide.1 }, y.2.wide.2) else if s = s_val2 then ({ y.1 with val2 := y.2.wide.1 }, y.2.wide.2) else if s = s_ok then ({ y.1 with ok := y.2.flag.1 }, y.2.flag.2) else if s = s_code then ({ y.1 with code := ((y.2.num 1000).1 : Int) }, (y.2.num 1000).2) else if s = s_set then ({ y.1 with set := ((y.2.num 18446744073709551615).1 : Int) }, (y.2.num 18446744073709551615).2) else y
def rdFd (s : ByteArray) (y : EntV × Rd) (p : EFd) : EntV × Rd := if p.1.1 = s then (setF y.1 p.1.2 (((y.2.num 1000).1 : Int) - shiftB p.1.1), (y.2.num 1000).2) else y
def rdName (y : EntV × Rd) (s : ByteArray) : EntV × Rd := eFields.foldl (rdFd s) (rdSw y s)
def rdNames (y : EntV × Rd) (ns : List ByteArray) : EntV × Rd := ns.foldl rdName y
def ent0 (a k : Int) : EntV := ⟨a, k, 0, 0, 0, 0, 0, 0, 0, 0, false, 0, 0⟩
def rdOne (r : Rd) : EntV × Rd := rdNames (ent0 ((r.num 9223372036854775807).1 : Int) (((r.num 9223372036854775807).2.num 255).1 : Int), ((r.num 9223372036854775807).2.num 255).2) (match hasOf (((r.num 9223372036854775807).2.num 255).1 : Int) with | none => [] | some p => p.2)
theorem num_put {n most : Nat} (h : n ≤ most) (h64 : n < 18446744073709551616) (r : List UInt8) : Rd.num ⟨numL n ++ r, false⟩ most = (n, ⟨r, false⟩) := by
  unfold Rd.num
  rw [get_num n h64 r]
  show (if false = true ∨ n > most then _ else _) = _
  rw [if_neg (by rintro (h' | h') <;> first | exact absurd h' (by decide) | omega)]
theorem wide_put {v : Int} (h1 : -9223372036854775808 ≤ v) (h2 : v ≤ 9223372036854775807) (r : List UInt8) : Rd.wide ⟨numL (zig v) ++ r, false⟩ = (v, ⟨r, false⟩) := by
  have hlt : zig v < 18446744073709551616 := by unfold zig; split <;> omega
  unfold Rd.wide
  rw [get_num _ hlt r]
  show (if false = true then _ else (zag (zig v), (⟨r, false⟩ : Rd))) = _
  rw [if_neg (by decide), zig_zag]
theorem flag_put (b : Bool) (r : List UInt8) : Rd.flag ⟨numL (if b = true then 1 else 0) ++ r, false⟩ = (b, ⟨r, false⟩) := by
  unfold Rd.flag
  rw [num_put (by cases b <;> decide) (by cases b <;> decide)]
  cases b <;> rfl
/-- What is read well. -/
theorem num_get2 {r r' : Rd} {most v : Nat} (h : r.num most = (v, r')) (hb : r'.bad = false) : r.bad = false ∧ r.l = numL v ++ r'.l ∧ v ≤ most ∧ v < 18446744073709551616 := by
  unfold Rd.num at h
  cases hg : getG 0 0 r.l with
  | error e =>
    rw [hg] at h
    simp only at h
    cases h
    cases hb
  | ok q =>
    obtain ⟨n, t⟩ := q
    rw [hg] at h
    simp only at h
    by_cases hc : r.bad = true ∨ n > most
    · rw [if_pos hc] at h
      cases h
      cases hb
    · rw [if_neg hc] at h
      cases h
      obtain ⟨h1, h2⟩ := num_get hg
      refine ⟨?_, h1, by omega, h2⟩
      cases hq : r.bad
      · rfl
      · exact absurd (.inl hq) hc
theorem zag_in {n : Nat} (h : n < 18446744073709551616) : -9223372036854775808 ≤ zag n ∧ zag n ≤ 9223372036854775807 := by
  unfold zag
  split <;> omega
theorem wide_get2 {r r' : Rd} {v : Int} (h : r.wide = (v, r')) (hb : r'.bad = false) : r.bad = false ∧ r.l = numL (zig v) ++ r'.l ∧ -9223372036854775808 ≤ v ∧ v ≤ 9223372036854775807 := by
  unfold Rd.wide at h
  cases hg : getG 0 0 r.l with
  | error e =>
    rw [hg] at h
    simp only at h
    cases h
    cases hb
  | ok q =>
    obtain ⟨n, t⟩ := q
    rw [hg] at h
    simp only at h
    by_cases hc : r.bad = true
    · rw [if_pos hc] at h
      cases h
      cases hb
    · rw [if_neg hc] at h
      cases h
      obtain ⟨h1, h2⟩ := num_get hg
      obtain ⟨h3, h4⟩ := zag_in h2
      exact ⟨by simpa using hc, by rw [zag_zig]; exact h1, h3, h4⟩
theorem flag_get2 {r r' : Rd} {b : Bool} (h : r.flag = (b, r')) (hb : r'.bad = false) : r.bad = false ∧ r.l = numL (if b = true then 1 else 0) ++ r'.l := by
  unfold Rd.flag at h
  obtain ⟨⟨v, r1⟩, hv⟩ : ∃ p, p = r.num 1000 := ⟨_, rfl⟩
  rw [← hv] at h
  simp only at h
  injection h with h1 h2
  subst h1 h2
  simp only [Bool.or_eq_false_iff, decide_eq_false_iff_not] at hb
  obtain ⟨g1, g2, g3, g4⟩ := num_get2 hv.symm hb.1
  refine ⟨g1, ?_⟩
  have : v = 0 ∨ v = 1 := by omega
  rcases this with rfl | rfl
  · exact g2
  · exact g2
theorem rd_worker (y : EntV × Rd) : rdName y s_worker = ({ y.1 with worker := ((y.2.num 1000).1 : Int) - 0 }, (y.2.num 1000).2) := by kernel_rfl
theorem rd_task (y : EntV × Rd) : rdName y s_task = ({ y.1 with task := ((y.2.num 1000).1 : Int) - 0 }, (y.2.num 1000).2) := by kernel_rfl
theorem rd_peer (y : EntV × Rd) : rdName y s_peer = ({ y.1 with peer := ((y.2.num 1000).1 : Int) - 1 }, (y.2.num 1000).2) := by kernel_rfl
theorem rd_ch (y : EntV × Rd) : rdName y s_ch = ({ y.1 with ch := ((y.2.num 1000).1 : Int) - 0 }, (y.2.num 1000).2) := by kernel_rfl
theorem rd_case (y : EntV × Rd) : rdName y s_case = ({ y.1 with cs := ((y.2.num 1000).1 : Int) - 1 }, (y.2.num 1000).2) := by kernel_rfl
theorem rd_peercase (y : EntV × Rd) : rdName y s_peercase = ({ y.1 with pc := ((y.2.num 1000).1 : Int) - 1 }, (y.2.num 1000).2) := by kernel_rfl
theorem rd_val (y : EntV × Rd) : rdName y s_val = ({ y.1 with val := y.2.wide.1 }, y.2.wide.2) := by kernel_rfl
theorem rd_val2 (y : EntV × Rd) : rdName y s_val2 = ({ y.1 with val2 := y.2.wide.1 }, y.2.wide.2) := by kernel_rfl
theorem rd_ok (y : EntV × Rd) : rdName y s_ok = ({ y.1 with ok := y.2.flag.1 }, y.2.flag.2) := by kernel_rfl
theorem rd_code (y : EntV × Rd) : rdName y s_code = ({ y.1 with code := ((y.2.num 1000).1 : Int) }, (y.2.num 1000).2) := by kernel_rfl
theorem rd_set (y : EntV × Rd) : rdName y s_set = ({ y.1 with set := ((y.2.num 18446744073709551615).1 : Int) }, (y.2.num 18446744073709551615).2) := by kernel_rfl
theorem ev_worker (x : EntV) : evsB (evOf x s_worker) = numL (x.worker + 0).toNat ++ [] := by kernel_rfl
theorem ev_task (x : EntV) : evsB (evOf x s_task) = numL (x.task + 0).toNat ++ [] := by kernel_rfl
theorem ev_peer (x : EntV) : evsB (evOf x s_peer) = numL (x.peer + 1).toNat ++ [] := by kernel_rfl
theorem ev_ch (x : EntV) : evsB (evOf x s_ch) = numL (x.ch + 0).toNat ++ [] := by kernel_rfl
theorem ev_case (x : EntV) : evsB (evOf x s_case) = numL (x.cs + 1).toNat ++ [] := by kernel_rfl
theorem ev_peercase (x : EntV) : evsB (evOf x s_peercase) = numL (x.pc + 1).toNat ++ [] := by kernel_rfl
theorem ev_val (x : EntV) : evsB (evOf x s_val) = numL (zig x.val) ++ [] := by kernel_rfl
theorem ev_val2 (x : EntV) : evsB (evOf x s_val2) = numL (zig x.val2) ++ [] := by kernel_rfl
theorem ev_ok (x : EntV) : evsB (evOf x s_ok) = numL (if x.ok = true then 1 else 0) ++ [] := by kernel_rfl
theorem ev_code (x : EntV) : evsB (evOf x s_code) = numL (IntKind.u64.wrap x.code).toNat ++ [] := by kernel_rfl
theorem ev_set (x : EntV) : evsB (evOf x s_set) = numL x.set.toNat ++ [] := by kernel_rfl
theorem mem11 {s : ByteArray} (h : s ∈ all11) : s = s_worker ∨ s = s_task ∨ s = s_peer ∨ s = s_ch ∨ s = s_case ∨ s = s_peercase ∨ s = s_val ∨ s = s_val2 ∨ s = s_ok ∨ s = s_code ∨ s = s_set := by simpa [all11] using h
/-- One field of another entry put in. -/
def cpE (x y : EntV) (s : ByteArray) : EntV := ⟨y.at_, y.kind, if s = s_worker then x.worker else y.worker, if s = s_task then x.task else y.task, if s = s_peer then x.peer else y.peer, if s = s_ch then x.ch else y.ch, if s = s_case then x.cs else y.cs, if s = s_peercase then x.pc else y.pc, if s = s_val then x.val else y.val, if s = s_val2 then x.val2 else y.val2, if s = s_ok then x.ok else y.ok, if s = s_code then x.code else y.code, if s = s_set then x.set else y.set⟩
theorem cp_worker (x y : EntV) : cpE x y s_worker = { y with worker := x.worker } := by kernel_rfl
theorem cp_task (x y : EntV) : cpE x y s_task = { y with task := x.task } := by kernel_rfl
theorem cp_peer (x y : EntV) : cpE x y s_peer = { y with peer := x.peer } := by kernel_rfl
theorem cp_ch (x y : EntV) : cpE x y s_ch = { y with ch := x.ch } := by kernel_rfl
theorem cp_case (x y : EntV) : cpE x y s_case = { y with cs := x.cs } := by kernel_rfl
theorem cp_peercase (x y : EntV) : cpE x y s_peercase = { y with pc := x.pc } := by kernel_rfl
theorem cp_val (x y : EntV) : cpE x y s_val = { y with val := x.val } := by kernel_rfl
theorem cp_val2 (x y : EntV) : cpE x y s_val2 = { y with val2 := x.val2 } := by kernel_rfl
theorem cp_ok (x y : EntV) : cpE x y s_ok = { y with ok := x.ok } := by kernel_rfl
theorem cp_code (x y : EntV) : cpE x y s_code = { y with code := x.code } := by kernel_rfl
theorem cp_set (x y : EntV) : cpE x y s_set = { y with set := x.set } := by kernel_rfl
/-- The ranges of an entry that may be, and came in. -/
structure okE (x : EntV) : Prop where
  at_ : 0 ≤ x.at_ ∧ x.at_ ≤ 9223372036854775807
  kind : 0 ≤ x.kind ∧ x.kind ≤ 255
  worker : 0 ≤ x.worker ∧ x.worker ≤ 254
  task : 0 ≤ x.task ∧ x.task ≤ 31
  peer : -1 ≤ x.peer ∧ x.peer ≤ 31
  ch : 0 ≤ x.ch ∧ x.ch ≤ 5
  cs : -1 ≤ x.cs ∧ x.cs ≤ 7
  pc : -1 ≤ x.pc ∧ x.pc ≤ 7
  val : -9223372036854775808 ≤ x.val ∧ x.val ≤ 9223372036854775807
  val2 : -9223372036854775808 ≤ x.val2 ∧ x.val2 ≤ 9223372036854775807
  code : 0 ≤ x.code ∧ x.code ≤ 143
  set : 0 ≤ x.set ∧ x.set < 18446744073709551616
theorem lawA1 {x : EntV} (h : okE x) (y : EntV) (r : List UInt8) {s : ByteArray} (hs : s ∈ all11) : rdName (y, ⟨evsB (evOf x s) ++ r, false⟩) s = (cpE x y s, ⟨r, false⟩) := by
  obtain ⟨_, _, h0, h1, h2, h3, h4, h5, h6, h7, h9, h10⟩ := h
  rcases mem11 hs with rfl | rfl | rfl | rfl | rfl | rfl | rfl | rfl | rfl | rfl | rfl
  · rw [rd_worker, ev_worker, List.append_nil, cp_worker]
    have e := num_put (n := (x.worker + 0).toNat) (most := 1000) (by omega) (by omega) r
    simp only [e]
    rw [show (((x.worker + 0).toNat : Nat) : Int) - 0 = x.worker by omega]
  · rw [rd_task, ev_task, List.append_nil, cp_task]
    have e := num_put (n := (x.task + 0).toNat) (most := 1000) (by omega) (by omega) r
    simp only [e]
    rw [show (((x.task + 0).toNat : Nat) : Int) - 0 = x.task by omega]
  · rw [rd_peer, ev_peer, List.append_nil, cp_peer]
    have e := num_put (n := (x.peer + 1).toNat) (most := 1000) (by omega) (by omega) r
    simp only [e]
    rw [show (((x.peer + 1).toNat : Nat) : Int) - 1 = x.peer by omega]
  · rw [rd_ch, ev_ch, List.append_nil, cp_ch]
    have e := num_put (n := (x.ch + 0).toNat) (most := 1000) (by omega) (by omega) r
    simp only [e]
    rw [show (((x.ch + 0).toNat : Nat) : Int) - 0 = x.ch by omega]
  · rw [rd_case, ev_case, List.append_nil, cp_case]
    have e := num_put (n := (x.cs + 1).toNat) (most := 1000) (by omega) (by omega) r
    simp only [e]
    rw [show (((x.cs + 1).toNat : Nat) : Int) - 1 = x.cs by omega]
  · rw [rd_peercase, ev_peercase, List.append_nil, cp_peercase]
    have e := num_put (n := (x.pc + 1).toNat) (most := 1000) (by omega) (by omega) r
    simp only [e]
    rw [show (((x.pc + 1).toNat : Nat) : Int) - 1 = x.pc by omega]
  · rw [rd_val, ev_val, List.append_nil, cp_val]
    have e := wide_put h6.1 h6.2 r
    simp only [e]
  · rw [rd_val2, ev_val2, List.append_nil, cp_val2]
    have e := wide_put h7.1 h7.2 r
    simp only [e]
  · rw [rd_ok, ev_ok, List.append_nil, cp_ok]
    have e := flag_put x.ok r
    simp only [e]
  · rw [rd_code, ev_code, List.append_nil, cp_code]
    have e0 : (IntKind.u64.wrap x.code).toNat = x.code.toNat := by rw [IntKind.wrap_u64]; omega
    rw [e0]
    have e := num_put (n := x.code.toNat) (most := 1000) (by omega) (by omega) r
    simp only [e]
    rw [show ((x.code.toNat : Nat) : Int) = x.code by omega]
  · rw [rd_set, ev_set, List.append_nil, cp_set]
    have e := num_put (n := x.set.toNat) (most := 18446744073709551615) (by omega) (by omega) r
    simp only [e]
    rw [show ((x.set.toNat : Nat) : Int) = x.set by omega]
theorem lawA2 {x : EntV} (h : okE x) (r : List UInt8) : ∀ (ns : List ByteArray) (y : EntV), (∀ s ∈ ns, s ∈ all11) → rdNames (y, ⟨evsB (evAll x ns) ++ r, false⟩) ns = (ns.foldl (cpE x) y, ⟨r, false⟩)
  | [], _, _ => rfl
  | s :: ns, y, hs => by
    have e : evAll x (s :: ns) = evOf x s ++ evAll x ns := rfl
    rw [e, evsB_app, List.append_assoc]
    show rdNames (rdName _ s) ns = _
    rw [lawA1 h y _ (hs s (List.mem_cons_self ..)), lawA2 h r ns _ fun t ht => hs t (List.mem_cons_of_mem _ ht)]
    rfl
theorem fold_cp {α : Type} (g : EntV → α) (x : EntV) (t : ByteArray) (h : ∀ y s, g (cpE x y s) = if s = t then g x else g y) : ∀ (ns : List ByteArray) (y : EntV), (t ∉ ns → g x = g y) → g (ns.foldl (cpE x) y) = g x
  | [], y, hz => (hz (by simp)).symm
  | s :: ns, y, hz => by
    show g (ns.foldl (cpE x) (cpE x y s)) = g x
    refine fold_cp g x t h ns _ fun hn => ?_
    rw [h]
    by_cases hs : s = t
    · rw [if_pos hs]
    · rw [if_neg hs]
      exact hz (by simp only [List.mem_cons, not_or]; exact ⟨fun e => hs e.symm, hn⟩)
theorem fold_same {α : Type} (g : EntV → α) (x : EntV) (h : ∀ y s, g (cpE x y s) = g y) : ∀ (ns : List ByteArray) (y : EntV), g (ns.foldl (cpE x) y) = g y
  | [], _ => rfl
  | s :: ns, y => (fold_same g x h ns _).trans (h y s)
theorem fieldE_in {k v : Int} {has : List ByteArray} {s : ByteArray} (h : fieldE k has s v = true) : (s ∈ has ∧ leastOf k s ≤ v ∧ v ≤ mostOf k s) ∨ (s ∉ has ∧ v = 0) := by
  unfold fieldE at h
  by_cases hs : hasS has s = true
  · rw [if_pos hs] at h
    simp only [Bool.and_eq_true, decide_eq_true_eq] at h
    exact .inl ⟨hasS_iff.1 hs, h.1, h.2⟩
  · rw [if_neg hs] at h
    exact .inr ⟨fun hm => hs (hasS_iff.2 hm), by simpa using h⟩
theorem least_worker (k : Int) : leastOf k s_worker = 0 ∧ mostOf k s_worker = 254 := by constructor <;> kernel_rfl
theorem least_task (k : Int) : leastOf k s_task = 0 ∧ mostOf k s_task = 31 := by constructor <;> kernel_rfl
theorem least_peer (k : Int) : leastOf k s_peer = (if k = 11 then -1 else 0) ∧ mostOf k s_peer = 31 := by constructor <;> kernel_rfl
theorem least_ch (k : Int) : leastOf k s_ch = 0 ∧ mostOf k s_ch = 5 := by constructor <;> kernel_rfl
theorem least_case (k : Int) : leastOf k s_case = (if k = 9 then 0 else -1) ∧ mostOf k s_case = (if k = 9 then 7 else 5) := by constructor <;> kernel_rfl
theorem least_peercase (k : Int) : leastOf k s_peercase = (if k = 9 then 0 else -1) ∧ mostOf k s_peercase = (if k = 9 then 7 else 5) := by constructor <;> kernel_rfl
/-- What stands in an entry that may be. -/
theorem entB_facts {x : EntV} (h : entB x = true) : ∃ p, hasOf x.kind = some p ∧ 0 ≤ x.at_ ∧
    ((s_worker ∈ p.2 ∧ 0 ≤ x.worker ∧ x.worker ≤ 254) ∨ (s_worker ∉ p.2 ∧ x.worker = 0)) ∧
    ((s_task ∈ p.2 ∧ 0 ≤ x.task ∧ x.task ≤ 31) ∨ (s_task ∉ p.2 ∧ x.task = 0)) ∧
    ((s_peer ∈ p.2 ∧ (if x.kind = 11 then -1 else 0) ≤ x.peer ∧ x.peer ≤ 31) ∨ (s_peer ∉ p.2 ∧ x.peer = 0)) ∧
    ((s_ch ∈ p.2 ∧ 0 ≤ x.ch ∧ x.ch ≤ 5) ∨ (s_ch ∉ p.2 ∧ x.ch = 0)) ∧
    ((s_case ∈ p.2 ∧ (if x.kind = 9 then 0 else -1) ≤ x.cs ∧ x.cs ≤ (if x.kind = 9 then 7 else 5)) ∨ (s_case ∉ p.2 ∧ x.cs = 0)) ∧
    ((s_peercase ∈ p.2 ∧ (if x.kind = 9 then 0 else -1) ≤ x.pc ∧ x.pc ≤ (if x.kind = 9 then 7 else 5)) ∨ (s_peercase ∉ p.2 ∧ x.pc = 0)) ∧
    (s_val ∈ p.2 ∨ x.val = 0) ∧ (s_val2 ∈ p.2 ∨ x.val2 = 0) ∧ (s_ok ∈ p.2 ∨ x.ok = false) ∧ (s_set ∈ p.2 ∨ x.set = 0) ∧
    ((s_code ∈ p.2 ∧ 140 ≤ x.code ∧ x.code ≤ 143) ∨ (s_code ∉ p.2 ∧ x.code = 0)) := by
  unfold entB at h
  cases hk : hasOf x.kind with
  | none => rw [hk] at h; cases h
  | some p =>
    rw [hk] at h
    simp only [Bool.and_eq_true, decide_eq_true_eq, fieldsE, List.all_eq_true, tailE, Bool.or_eq_true, beq_iff_eq, Bool.not_eq_true'] at h
    obtain ⟨ha, hf, h1, h2, h3, h4, h5⟩ := h
    have g0 := fieldE_in (hf ef0 (.head _))
    have g1 := fieldE_in (hf ef1 (.tail _ (.head _)))
    have g2 := fieldE_in (hf ef2 (.tail _ (.tail _ (.head _))))
    have g3 := fieldE_in (hf ef3 (.tail _ (.tail _ (.tail _ (.head _)))))
    have g4 := fieldE_in (hf ef4 (.tail _ (.tail _ (.tail _ (.tail _ (.head _))))))
    have g5 := fieldE_in (hf ef5 (.tail _ (.tail _ (.tail _ (.tail _ (.tail _ (.head _)))))))
    rw [(least_worker _).1, (least_worker _).2] at g0
    rw [(least_task _).1, (least_task _).2] at g1
    rw [(least_peer _).1, (least_peer _).2] at g2
    rw [(least_ch _).1, (least_ch _).2] at g3
    rw [(least_case _).1, (least_case _).2] at g4
    rw [(least_peercase _).1, (least_peercase _).2] at g5
    refine ⟨p, rfl, ha, g0, g1, g2, g3, g4, g5, h1.imp hasS_iff.1 id, h2.imp hasS_iff.1 id, h3.imp hasS_iff.1 id, h4.imp hasS_iff.1 id, ?_⟩
    by_cases hs : hasS p.2 s_code = true
    · rw [if_pos hs] at h5
      simp only [Bool.and_eq_true, decide_eq_true_eq] at h5
      exact .inl ⟨hasS_iff.1 hs, h5⟩
    · rw [if_neg hs] at h5
      exact .inr ⟨fun hm => hs (hasS_iff.2 hm), by simpa using h5⟩
structure rgE (x : EntV) : Prop where
  at_ : x.at_ ≤ 9223372036854775807
  val : -9223372036854775808 ≤ x.val ∧ x.val ≤ 9223372036854775807
  val2 : -9223372036854775808 ≤ x.val2 ∧ x.val2 ≤ 9223372036854775807
  set : 0 ≤ x.set ∧ x.set < 18446744073709551616
theorem okE_of {x : EntV} (h : entB x = true) (hr : rgE x) : okE x := by
  obtain ⟨p, hk, ha, g0, g1, g2, g3, g4, g5, _, _, _, _, g6⟩ := entB_facts h
  obtain ⟨_, _, _, hk1, hk2⟩ := has_names hk
  refine ⟨⟨ha, hr.at_⟩, ⟨hk1, hk2⟩, by omega, by omega, ?_, by omega, ?_, ?_, hr.val, hr.val2, by omega, hr.set⟩
  · split at g2 <;> omega
  · split at g4 <;> omega
  · split at g5 <;> omega
/-- An entry that may be is made of the fields that its kind names. -/
theorem fold_all {x : EntV} (h : entB x = true) : (namesX x).foldl (cpE x) (ent0 x.at_ x.kind) = x := by
  obtain ⟨p, hk, ha, g0, g1, g2, g3, g4, g5, g6, g7, g8, g9, g10⟩ := entB_facts h
  have hn : namesX x = p.2 := by unfold namesX; rw [hk]
  rw [hn]
  have e0 := fold_same (·.at_) x (fun _ _ => rfl) p.2 (ent0 x.at_ x.kind)
  have e1 := fold_same (·.kind) x (fun _ _ => rfl) p.2 (ent0 x.at_ x.kind)
  have f0 := fold_cp (·.worker) x s_worker (fun _ _ => rfl) p.2 (ent0 x.at_ x.kind) (fun hm => by rcases g0 with h | h <;> first | exact absurd h hm | exact absurd h.1 hm | exact h | exact h.2)
  have f1 := fold_cp (·.task) x s_task (fun _ _ => rfl) p.2 (ent0 x.at_ x.kind) (fun hm => by rcases g1 with h | h <;> first | exact absurd h hm | exact absurd h.1 hm | exact h | exact h.2)
  have f2 := fold_cp (·.peer) x s_peer (fun _ _ => rfl) p.2 (ent0 x.at_ x.kind) (fun hm => by rcases g2 with h | h <;> first | exact absurd h hm | exact absurd h.1 hm | exact h | exact h.2)
  have f3 := fold_cp (·.ch) x s_ch (fun _ _ => rfl) p.2 (ent0 x.at_ x.kind) (fun hm => by rcases g3 with h | h <;> first | exact absurd h hm | exact absurd h.1 hm | exact h | exact h.2)
  have f4 := fold_cp (·.cs) x s_case (fun _ _ => rfl) p.2 (ent0 x.at_ x.kind) (fun hm => by rcases g4 with h | h <;> first | exact absurd h hm | exact absurd h.1 hm | exact h | exact h.2)
  have f5 := fold_cp (·.pc) x s_peercase (fun _ _ => rfl) p.2 (ent0 x.at_ x.kind) (fun hm => by rcases g5 with h | h <;> first | exact absurd h hm | exact absurd h.1 hm | exact h | exact h.2)
  have f6 := fold_cp (·.val) x s_val (fun _ _ => rfl) p.2 (ent0 x.at_ x.kind) (fun hm => by rcases g6 with h | h <;> first | exact absurd h hm | exact absurd h.1 hm | exact h | exact h.2)
  have f7 := fold_cp (·.val2) x s_val2 (fun _ _ => rfl) p.2 (ent0 x.at_ x.kind) (fun hm => by rcases g7 with h | h <;> first | exact absurd h hm | exact absurd h.1 hm | exact h | exact h.2)
  have f8 := fold_cp (·.ok) x s_ok (fun _ _ => rfl) p.2 (ent0 x.at_ x.kind) (fun hm => by rcases g8 with h | h <;> first | exact absurd h hm | exact absurd h.1 hm | exact h | exact h.2)
  have f9 := fold_cp (·.code) x s_code (fun _ _ => rfl) p.2 (ent0 x.at_ x.kind) (fun hm => by rcases g10 with h | h <;> first | exact absurd h hm | exact absurd h.1 hm | exact h | exact h.2)
  have f10 := fold_cp (·.set) x s_set (fun _ _ => rfl) p.2 (ent0 x.at_ x.kind) (fun hm => by rcases g9 with h | h <;> first | exact absurd h hm | exact absurd h.1 hm | exact h | exact h.2)
  generalize p.2.foldl (cpE x) (ent0 x.at_ x.kind) = z at *
  obtain ⟨z0, z1, z2, z3, z4, z5, z6, z7, z8, z9, z10, z11, z12⟩ := z
  obtain ⟨x0, x1, x2, x3, x4, x5, x6, x7, x8, x9, x10, x11, x12⟩ := x
  simp only [ent0] at e0 e1 f0 f1 f2 f3 f4 f5 f6 f7 f8 f9 f10
  subst e0 e1 f0 f1 f2 f3 f4 f5 f6 f7 f8 f9 f10
  rfl
/-- What was put is read as itself. -/
theorem lawA {x : EntV} (h : entB x = true) (hr : rgE x) (r : List UInt8) : rdOne ⟨bytesX x ++ r, false⟩ = (x, ⟨r, false⟩) := by
  have hok := okE_of h hr
  obtain ⟨p, hk, _⟩ := entB_facts h
  have hn : namesX x = p.2 := by unfold namesX; rw [hk]
  have hall : ∀ s ∈ namesX x, s ∈ all11 := by rw [hn]; exact (has_names hk).2.1
  have e1 := num_put (n := x.at_.toNat) (most := 9223372036854775807) (by have := hok.at_; omega) (by have := hok.at_; omega) (numL x.kind.toNat ++ (evsB (evAll x (namesX x)) ++ r))
  have e2 := num_put (n := x.kind.toNat) (most := 255) (by have := hok.kind; omega) (by have := hok.kind; omega) (evsB (evAll x (namesX x)) ++ r)
  have eb : bytesX x ++ r = numL x.at_.toNat ++ (numL x.kind.toNat ++ (evsB (evAll x (namesX x)) ++ r)) := by
    unfold bytesX rowL
    simp [List.append_assoc]
  rw [eb]
  unfold rdOne
  simp only [e1, e2]
  rw [show ((x.kind.toNat : Nat) : Int) = x.kind by have := hok.kind; omega, show ((x.at_.toNat : Nat) : Int) = x.at_ by have := hok.at_; omega]
  have hm : (match hasOf x.kind with | none => [] | some p => p.2) = namesX x := rfl
  rw [hm, lawA2 hok r _ _ hall, fold_all h]
theorem lawB1 {y z : EntV} {q r : Rd} {s : ByteArray} (hs : s ∈ all11) (h : rdName (y, q) s = (z, r)) (hb : r.bad = false) : q.bad = false ∧ q.l = evsB (evOf z s) ++ r.l ∧ (∀ t ∈ all11, t ≠ s → evsB (evOf z t) = evsB (evOf y t)) ∧ z.at_ = y.at_ ∧ z.kind = y.kind ∧ (rgE y → rgE z) := by
  rcases mem11 hs with rfl | rfl | rfl | rfl | rfl | rfl | rfl | rfl | rfl | rfl | rfl
  · rw [rd_worker] at h
    injection h with h1 h2
    obtain ⟨⟨v, r1⟩, hv⟩ : ∃ p, p = q.num 1000 := ⟨_, rfl⟩
    simp only [← hv] at h1 h2
    subst h2
    obtain ⟨g1, g2, g3, g4⟩ := num_get2 hv.symm hb
    subst h1
    refine ⟨g1, ?_, fun t ht hne => ?_, rfl, rfl, ?_⟩
    · rw [ev_worker, List.append_nil, show ((v : Int) - 0 + 0).toNat = v by omega]; exact g2
    · rcases mem11 ht with rfl | rfl | rfl | rfl | rfl | rfl | rfl | rfl | rfl | rfl | rfl <;> first | exact absurd rfl hne | rw [ev_worker, ev_worker] | rw [ev_task, ev_task] | rw [ev_peer, ev_peer] | rw [ev_ch, ev_ch] | rw [ev_case, ev_case] | rw [ev_peercase, ev_peercase] | rw [ev_val, ev_val] | rw [ev_val2, ev_val2] | rw [ev_ok, ev_ok] | rw [ev_code, ev_code] | rw [ev_set, ev_set]
    · exact fun h => ⟨h.at_, h.val, h.val2, h.set⟩
  · rw [rd_task] at h
    injection h with h1 h2
    obtain ⟨⟨v, r1⟩, hv⟩ : ∃ p, p = q.num 1000 := ⟨_, rfl⟩
    simp only [← hv] at h1 h2
    subst h2
    obtain ⟨g1, g2, g3, g4⟩ := num_get2 hv.symm hb
    subst h1
    refine ⟨g1, ?_, fun t ht hne => ?_, rfl, rfl, ?_⟩
    · rw [ev_task, List.append_nil, show ((v : Int) - 0 + 0).toNat = v by omega]; exact g2
    · rcases mem11 ht with rfl | rfl | rfl | rfl | rfl | rfl | rfl | rfl | rfl | rfl | rfl <;> first | exact absurd rfl hne | rw [ev_worker, ev_worker] | rw [ev_task, ev_task] | rw [ev_peer, ev_peer] | rw [ev_ch, ev_ch] | rw [ev_case, ev_case] | rw [ev_peercase, ev_peercase] | rw [ev_val, ev_val] | rw [ev_val2, ev_val2] | rw [ev_ok, ev_ok] | rw [ev_code, ev_code] | rw [ev_set, ev_set]
    · exact fun h => ⟨h.at_, h.val, h.val2, h.set⟩
  · rw [rd_peer] at h
    injection h with h1 h2
    obtain ⟨⟨v, r1⟩, hv⟩ : ∃ p, p = q.num 1000 := ⟨_, rfl⟩
    simp only [← hv] at h1 h2
    subst h2
    obtain ⟨g1, g2, g3, g4⟩ := num_get2 hv.symm hb
    subst h1
    refine ⟨g1, ?_, fun t ht hne => ?_, rfl, rfl, ?_⟩
    · rw [ev_peer, List.append_nil, show ((v : Int) - 1 + 1).toNat = v by omega]; exact g2
    · rcases mem11 ht with rfl | rfl | rfl | rfl | rfl | rfl | rfl | rfl | rfl | rfl | rfl <;> first | exact absurd rfl hne | rw [ev_worker, ev_worker] | rw [ev_task, ev_task] | rw [ev_peer, ev_peer] | rw [ev_ch, ev_ch] | rw [ev_case, ev_case] | rw [ev_peercase, ev_peercase] | rw [ev_val, ev_val] | rw [ev_val2, ev_val2] | rw [ev_ok, ev_ok] | rw [ev_code, ev_code] | rw [ev_set, ev_set]
    · exact fun h => ⟨h.at_, h.val, h.val2, h.set⟩
  · rw [rd_ch] at h
    injection h with h1 h2
    obtain ⟨⟨v, r1⟩, hv⟩ : ∃ p, p = q.num 1000 := ⟨_, rfl⟩
    simp only [← hv] at h1 h2
    subst h2
    obtain ⟨g1, g2, g3, g4⟩ := num_get2 hv.symm hb
    subst h1
    refine ⟨g1, ?_, fun t ht hne => ?_, rfl, rfl, ?_⟩
    · rw [ev_ch, List.append_nil, show ((v : Int) - 0 + 0).toNat = v by omega]; exact g2
    · rcases mem11 ht with rfl | rfl | rfl | rfl | rfl | rfl | rfl | rfl | rfl | rfl | rfl <;> first | exact absurd rfl hne | rw [ev_worker, ev_worker] | rw [ev_task, ev_task] | rw [ev_peer, ev_peer] | rw [ev_ch, ev_ch] | rw [ev_case, ev_case] | rw [ev_peercase, ev_peercase] | rw [ev_val, ev_val] | rw [ev_val2, ev_val2] | rw [ev_ok, ev_ok] | rw [ev_code, ev_code] | rw [ev_set, ev_set]
    · exact fun h => ⟨h.at_, h.val, h.val2, h.set⟩
  · rw [rd_case] at h
    injection h with h1 h2
    obtain ⟨⟨v, r1⟩, hv⟩ : ∃ p, p = q.num 1000 := ⟨_, rfl⟩
    simp only [← hv] at h1 h2
    subst h2
    obtain ⟨g1, g2, g3, g4⟩ := num_get2 hv.symm hb
    subst h1
    refine ⟨g1, ?_, fun t ht hne => ?_, rfl, rfl, ?_⟩
    · rw [ev_case, List.append_nil, show ((v : Int) - 1 + 1).toNat = v by omega]; exact g2
    · rcases mem11 ht with rfl | rfl | rfl | rfl | rfl | rfl | rfl | rfl | rfl | rfl | rfl <;> first | exact absurd rfl hne | rw [ev_worker, ev_worker] | rw [ev_task, ev_task] | rw [ev_peer, ev_peer] | rw [ev_ch, ev_ch] | rw [ev_case, ev_case] | rw [ev_peercase, ev_peercase] | rw [ev_val, ev_val] | rw [ev_val2, ev_val2] | rw [ev_ok, ev_ok] | rw [ev_code, ev_code] | rw [ev_set, ev_set]
    · exact fun h => ⟨h.at_, h.val, h.val2, h.set⟩
  · rw [rd_peercase] at h
    injection h with h1 h2
    obtain ⟨⟨v, r1⟩, hv⟩ : ∃ p, p = q.num 1000 := ⟨_, rfl⟩
    simp only [← hv] at h1 h2
    subst h2
    obtain ⟨g1, g2, g3, g4⟩ := num_get2 hv.symm hb
    subst h1
    refine ⟨g1, ?_, fun t ht hne => ?_, rfl, rfl, ?_⟩
    · rw [ev_peercase, List.append_nil, show ((v : Int) - 1 + 1).toNat = v by omega]; exact g2
    · rcases mem11 ht with rfl | rfl | rfl | rfl | rfl | rfl | rfl | rfl | rfl | rfl | rfl <;> first | exact absurd rfl hne | rw [ev_worker, ev_worker] | rw [ev_task, ev_task] | rw [ev_peer, ev_peer] | rw [ev_ch, ev_ch] | rw [ev_case, ev_case] | rw [ev_peercase, ev_peercase] | rw [ev_val, ev_val] | rw [ev_val2, ev_val2] | rw [ev_ok, ev_ok] | rw [ev_code, ev_code] | rw [ev_set, ev_set]
    · exact fun h => ⟨h.at_, h.val, h.val2, h.set⟩
  · rw [rd_val] at h
    injection h with h1 h2
    obtain ⟨⟨v, r1⟩, hv⟩ : ∃ p, p = q.wide := ⟨_, rfl⟩
    simp only [← hv] at h1 h2
    subst h2
    obtain ⟨g1, g2, g3, g4⟩ := wide_get2 hv.symm hb
    subst h1
    refine ⟨g1, ?_, fun t ht hne => ?_, rfl, rfl, ?_⟩
    · rw [ev_val, List.append_nil]; exact g2
    · rcases mem11 ht with rfl | rfl | rfl | rfl | rfl | rfl | rfl | rfl | rfl | rfl | rfl <;> first | exact absurd rfl hne | rw [ev_worker, ev_worker] | rw [ev_task, ev_task] | rw [ev_peer, ev_peer] | rw [ev_ch, ev_ch] | rw [ev_case, ev_case] | rw [ev_peercase, ev_peercase] | rw [ev_val, ev_val] | rw [ev_val2, ev_val2] | rw [ev_ok, ev_ok] | rw [ev_code, ev_code] | rw [ev_set, ev_set]
    · exact fun h => ⟨h.at_, ⟨g3, g4⟩, h.val2, h.set⟩
  · rw [rd_val2] at h
    injection h with h1 h2
    obtain ⟨⟨v, r1⟩, hv⟩ : ∃ p, p = q.wide := ⟨_, rfl⟩
    simp only [← hv] at h1 h2
    subst h2
    obtain ⟨g1, g2, g3, g4⟩ := wide_get2 hv.symm hb
    subst h1
    refine ⟨g1, ?_, fun t ht hne => ?_, rfl, rfl, ?_⟩
    · rw [ev_val2, List.append_nil]; exact g2
    · rcases mem11 ht with rfl | rfl | rfl | rfl | rfl | rfl | rfl | rfl | rfl | rfl | rfl <;> first | exact absurd rfl hne | rw [ev_worker, ev_worker] | rw [ev_task, ev_task] | rw [ev_peer, ev_peer] | rw [ev_ch, ev_ch] | rw [ev_case, ev_case] | rw [ev_peercase, ev_peercase] | rw [ev_val, ev_val] | rw [ev_val2, ev_val2] | rw [ev_ok, ev_ok] | rw [ev_code, ev_code] | rw [ev_set, ev_set]
    · exact fun h => ⟨h.at_, h.val, ⟨g3, g4⟩, h.set⟩
  · rw [rd_ok] at h
    injection h with h1 h2
    obtain ⟨⟨v, r1⟩, hv⟩ : ∃ p, p = q.flag := ⟨_, rfl⟩
    simp only [← hv] at h1 h2
    subst h2
    obtain ⟨g1, g2⟩ := flag_get2 hv.symm hb
    subst h1
    refine ⟨g1, ?_, fun t ht hne => ?_, rfl, rfl, ?_⟩
    · rw [ev_ok, List.append_nil]; exact g2
    · rcases mem11 ht with rfl | rfl | rfl | rfl | rfl | rfl | rfl | rfl | rfl | rfl | rfl <;> first | exact absurd rfl hne | rw [ev_worker, ev_worker] | rw [ev_task, ev_task] | rw [ev_peer, ev_peer] | rw [ev_ch, ev_ch] | rw [ev_case, ev_case] | rw [ev_peercase, ev_peercase] | rw [ev_val, ev_val] | rw [ev_val2, ev_val2] | rw [ev_ok, ev_ok] | rw [ev_code, ev_code] | rw [ev_set, ev_set]
    · exact fun h => ⟨h.at_, h.val, h.val2, h.set⟩
  · rw [rd_code] at h
    injection h with h1 h2
    obtain ⟨⟨v, r1⟩, hv⟩ : ∃ p, p = q.num 1000 := ⟨_, rfl⟩
    simp only [← hv] at h1 h2
    subst h2
    obtain ⟨g1, g2, g3, g4⟩ := num_get2 hv.symm hb
    subst h1
    refine ⟨g1, ?_, fun t ht hne => ?_, rfl, rfl, ?_⟩
    · rw [ev_code, List.append_nil, show (IntKind.u64.wrap (v : Int)).toNat = v by rw [IntKind.wrap_u64]; omega]; exact g2
    · rcases mem11 ht with rfl | rfl | rfl | rfl | rfl | rfl | rfl | rfl | rfl | rfl | rfl <;> first | exact absurd rfl hne | rw [ev_worker, ev_worker] | rw [ev_task, ev_task] | rw [ev_peer, ev_peer] | rw [ev_ch, ev_ch] | rw [ev_case, ev_case] | rw [ev_peercase, ev_peercase] | rw [ev_val, ev_val] | rw [ev_val2, ev_val2] | rw [ev_ok, ev_ok] | rw [ev_code, ev_code] | rw [ev_set, ev_set]
    · exact fun h => ⟨h.at_, h.val, h.val2, h.set⟩
  · rw [rd_set] at h
    injection h with h1 h2
    obtain ⟨⟨v, r1⟩, hv⟩ : ∃ p, p = q.num 18446744073709551615 := ⟨_, rfl⟩
    simp only [← hv] at h1 h2
    subst h2
    obtain ⟨g1, g2, g3, g4⟩ := num_get2 hv.symm hb
    subst h1
    refine ⟨g1, ?_, fun t ht hne => ?_, rfl, rfl, ?_⟩
    · rw [ev_set, List.append_nil, show ((v : Int)).toNat = v by omega]; exact g2
    · rcases mem11 ht with rfl | rfl | rfl | rfl | rfl | rfl | rfl | rfl | rfl | rfl | rfl <;> first | exact absurd rfl hne | rw [ev_worker, ev_worker] | rw [ev_task, ev_task] | rw [ev_peer, ev_peer] | rw [ev_ch, ev_ch] | rw [ev_case, ev_case] | rw [ev_peercase, ev_peercase] | rw [ev_val, ev_val] | rw [ev_val2, ev_val2] | rw [ev_ok, ev_ok] | rw [ev_code, ev_code] | rw [ev_set, ev_set]
    · exact fun h => ⟨h.at_, h.val, h.val2, ⟨by show (0 : Int) ≤ (v : Int); omega, by show (v : Int) < 18446744073709551616; omega⟩⟩
theorem lawB2 : ∀ (ns : List ByteArray) {y z : EntV} {q r : Rd}, (∀ s ∈ ns, s ∈ all11) → ns.Nodup → rdNames (y, q) ns = (z, r) → r.bad = false → q.bad = false ∧ q.l = evsB (evAll z ns) ++ r.l ∧ (∀ t ∈ all11, t ∉ ns → evsB (evOf z t) = evsB (evOf y t)) ∧ z.at_ = y.at_ ∧ z.kind = y.kind ∧ (rgE y → rgE z)
  | [], y, z, q, r, _, _, h, hb => by
    injection h with h1 h2
    subst h1 h2
    exact ⟨hb, rfl, fun _ _ _ => rfl, rfl, rfl, id⟩
  | s :: ns, y, z, q, r, hs, hn, h, hb => by
    obtain ⟨⟨y1, q1⟩, hy⟩ : ∃ p, p = rdName (y, q) s := ⟨_, rfl⟩
    have h' : rdNames (y1, q1) ns = (z, r) := by rw [hy]; exact h
    obtain ⟨n1, n2⟩ := List.nodup_cons.1 hn
    obtain ⟨a1, a2, a3, a4, a5, a6⟩ := lawB2 ns (fun t ht => hs t (List.mem_cons_of_mem _ ht)) n2 h' hb
    obtain ⟨b1, b2, b3, b4, b5, b6⟩ := lawB1 (hs s (List.mem_cons_self ..)) hy.symm a1
    refine ⟨b1, ?_, fun t ht hne => ?_, a4.trans b4, a5.trans b5, fun h => a6 (b6 h)⟩
    · have e : evAll z (s :: ns) = evOf z s ++ evAll z ns := rfl
      rw [e, evsB_app, List.append_assoc, ← a2, a3 s (hs s (List.mem_cons_self ..)) n1]
      exact b2
    · simp only [List.mem_cons, not_or] at hne
      rw [a3 t ht hne.2, b3 t ht hne.1]
/-- What is read is put as it stood. -/
theorem lawB {x : EntV} {l : List UInt8} {r : Rd} (h : rdOne ⟨l, false⟩ = (x, r)) (hb : r.bad = false) : l = bytesX x ++ r.l ∧ rgE x := by
  unfold rdOne at h
  obtain ⟨⟨a, r1⟩, ha⟩ : ∃ p, p = (⟨l, false⟩ : Rd).num 9223372036854775807 := ⟨_, rfl⟩
  simp only [← ha] at h
  obtain ⟨⟨k, r2⟩, hk⟩ : ∃ p, p = r1.num 255 := ⟨_, rfl⟩
  simp only [← hk] at h
  have hns : ∀ (k : Int), (∀ s ∈ (match hasOf k with | none => [] | some p => p.2 : List ByteArray), s ∈ all11) ∧ (match hasOf k with | none => [] | some p => p.2 : List ByteArray).Nodup := fun k => by
    cases hk : hasOf k with
    | none => exact ⟨by simp, List.nodup_nil⟩
    | some p => exact ⟨(has_names hk).2.1, (has_names hk).1⟩
  obtain ⟨a1, a2, a3, a4, a5, a6⟩ := lawB2 _ (hns k).1 (hns k).2 h hb
  obtain ⟨b1, b2, b3, b4⟩ := num_get2 hk.symm a1
  obtain ⟨c1, c2, c3, c4⟩ := num_get2 ha.symm b1
  have hx : x.at_ = (a : Int) := a4
  have hxk : x.kind = (k : Int) := a5
  refine ⟨?_, a6 ⟨by show (a : Int) ≤ 9223372036854775807; omega, by simp [ent0], by simp [ent0], by simp [ent0]⟩⟩
  unfold bytesX namesX
  rw [hx, hxk, show ((a : Int)).toNat = a by omega, show ((k : Int)).toNat = k by omega]
  have c2' : l = numL a ++ r1.l := c2
  rw [c2', b2, a2]
  simp [rowL, List.append_assoc]
theorem numL_ne (n : Nat) : numL n ≠ [] := by
  by_cases h : n < 128
  · rw [numL_small h]; simp
  · rw [numL_big h]; simp
theorem bytesX_ne (x : EntV) : bytesX x ≠ [] := by
  unfold bytesX rowL
  simp [numL_ne]
def bytesL (l : List EntV) : List UInt8 := l.flatMap bytesX
/-- Two readings of the same bytes are the same as far as both go. -/
theorem bytes_one : ∀ (xs l : List EntV) (rest : List UInt8), (∀ x ∈ xs, entB x = true ∧ rgE x) → (∀ x ∈ l, entB x = true ∧ rgE x) → bytesL l = bytesL xs ++ rest → ∃ m, l = xs ++ m ∧ rest = bytesL m
  | [], l, rest, _, _, h => ⟨l, rfl, h.symm⟩
  | x :: xs, [], rest, _, _, h => by
    have e : bytesL (x :: xs) = bytesX x ++ bytesL xs := rfl
    rw [e] at h
    have : bytesX x = [] := by
      have h' : ([] : List UInt8) = bytesX x ++ bytesL xs ++ rest := h
      simp at h'
      exact h'.1
    exact absurd this (bytesX_ne x)
  | x :: xs, y :: l, rest, hx, hl, h => by
    have e : bytesL (x :: xs) = bytesX x ++ bytesL xs := rfl
    have e2 : bytesL (y :: l) = bytesX y ++ bytesL l := rfl
    rw [e, e2, List.append_assoc] at h
    have h1 := lawA (hx x (List.mem_cons_self ..)).1 (hx x (List.mem_cons_self ..)).2 (bytesL xs ++ rest)
    have h2 := lawA (hl y (List.mem_cons_self ..)).1 (hl y (List.mem_cons_self ..)).2 (bytesL l)
    rw [h, h1] at h2
    injection h2 with h3 h4
    injection h4 with h4
    subst h3
    obtain ⟨m, rfl, hm⟩ := bytes_one xs l rest (fun t ht => hx t (List.mem_cons_of_mem _ ht)) (fun t ht => hl t (List.mem_cons_of_mem _ ht)) h4.symm
    exact ⟨m, rfl, hm⟩
end Go.Proofs.YtljfloopjgpaeabDoor
