/- entry.tell: what it tells of, as events; the iterator of fields between callbacks that write. -/
import Derived.Test.YtljfloopjgpaeabDoorVF
import Derived.Test.YtljfloopjgpaeabDoorEK
import Derived.Test.YtljfloopjgpaeabDoorR
namespace Go.Proofs.YtljfloopjgpaeabDoor
set_option linter.unusedVariables false
set_option linter.unusedSimpArgs false
open Go.RowKit Go.Shelf
attribute [local go_sem] Oper.semAt_some
set_option maxRecDepth 100000
set_option maxHeartbeats 4000000 in
theorem efields1_stopsM (n : Nat) (hn1 : 1 ≤ n) (B C : Nat) (w : World) (Kp : World → World → Prop) (hkp : ∀ W W' p, Kp W W' → W.cell? ⟨B, 0, none⟩ = some (.pointer p) → W'.cell? ⟨B, 0, none⟩ = some (.pointer p)) (hB : B < w.heap.size) (h : w.cell? ⟨B, 0, none⟩ = some (.pointer (some ⟨C, 0, none⟩))) :
    SeqStopsK Fence.wide n Tryd.prog 110 #[.pointer (some ⟨B, 0, none⟩)] (eEnc C) Kp (· = eFields) (· <+: eFields) 6 w := fun l J Jx W hW _ _ hY h0 => by
  have g1 := Below.at hW h hB
  have HKP := Lib.hid hkp
  clear hkp
  have HH := Lib.hid g1
  clear h
  refine callsIn_of_wp Tryd.func110 rfl trivial ?_ rfl
  simp only [Tryd.ntmps110, List.size_toArray, List.length_cons, List.length_nil, Nat.reduceAdd, Nat.reduceSub, Array.replicate_succ, Array.replicate_zero, List.push_toArray, List.append_toArray, List.nil_append, List.cons_append]
  obtain ⟨f1, t1, a1, b1, hy1, hR1⟩ := hY [] ef0 W h0 (by simp)
  dsimp only [eEnc, ef0, ef1, ef2, ef3, ef4, ef5] at hy1
  gi_wp2
  refine hR1.mono ?_
  rintro e W1 (⟨rfl, hJ1, hk1⟩ | ⟨rfl, hx1⟩)
  rotate_left
  · gi_wp2
    refine ⟨fun _ h => (by cases h), ?_⟩
    gi_wp2
    refine ⟨fun _ h => (by cases h), ?_⟩
    gi_wp2
    refine ⟨fun _ h => (by cases h), ?_⟩
    gi_wp2
    refine ⟨fun _ h => (by cases h), ?_⟩
    gi_wp2
    refine ⟨fun _ h => (by cases h), ?_⟩
    gi_wp2
    go_end0
    exact ⟨⟨_, rfl⟩, .inr ⟨_, ⟨eFields.drop 1, rfl⟩, hx1⟩⟩
  clear hy1 hR1 g1
  have HH1 := Lib.hid (HKP.out _ _ _ hk1 HH.out)
  have g1 := HH1.out
  obtain ⟨f2, t2, a2, b2, hy2, hR2⟩ := hY [ef0] ef1 W1 hJ1 (by simp)
  dsimp only [eEnc, ef0, ef1, ef2, ef3, ef4, ef5] at hy2
  clear hk1 hJ1
  gi_wp2
  refine hR2.mono ?_
  rintro e W2 (⟨rfl, hJ2, hk2⟩ | ⟨rfl, hx2⟩)
  rotate_left
  · gi_wp2
    refine ⟨fun _ h => (by cases h), ?_⟩
    gi_wp2
    refine ⟨fun _ h => (by cases h), ?_⟩
    gi_wp2
    refine ⟨fun _ h => (by cases h), ?_⟩
    gi_wp2
    refine ⟨fun _ h => (by cases h), ?_⟩
    gi_wp2
    go_end0
    exact ⟨⟨_, rfl⟩, .inr ⟨_, ⟨eFields.drop 2, rfl⟩, hx2⟩⟩
  clear hy2 hR2 g1
  have HH2 := Lib.hid (HKP.out _ _ _ hk2 HH1.out)
  have g1 := HH2.out
  obtain ⟨f3, t3, a3, b3, hy3, hR3⟩ := hY [ef0, ef1] ef2 W2 hJ2 (by simp)
  dsimp only [eEnc, ef0, ef1, ef2, ef3, ef4, ef5] at hy3
  clear hk2 hJ2
  gi_wp2
  refine hR3.mono ?_
  rintro e W3 (⟨rfl, hJ3, hk3⟩ | ⟨rfl, hx3⟩)
  rotate_left
  · gi_wp2
    refine ⟨fun _ h => (by cases h), ?_⟩
    gi_wp2
    refine ⟨fun _ h => (by cases h), ?_⟩
    gi_wp2
    refine ⟨fun _ h => (by cases h), ?_⟩
    gi_wp2
    go_end0
    exact ⟨⟨_, rfl⟩, .inr ⟨_, ⟨eFields.drop 3, rfl⟩, hx3⟩⟩
  clear hy3 hR3 g1
  have HH3 := Lib.hid (HKP.out _ _ _ hk3 HH2.out)
  have g1 := HH3.out
  obtain ⟨f4, t4, a4, b4, hy4, hR4⟩ := hY [ef0, ef1, ef2] ef3 W3 hJ3 (by simp)
  dsimp only [eEnc, ef0, ef1, ef2, ef3, ef4, ef5] at hy4
  clear hk3 hJ3
  gi_wp2
  refine hR4.mono ?_
  rintro e W4 (⟨rfl, hJ4, hk4⟩ | ⟨rfl, hx4⟩)
  rotate_left
  · gi_wp2
    refine ⟨fun _ h => (by cases h), ?_⟩
    gi_wp2
    refine ⟨fun _ h => (by cases h), ?_⟩
    gi_wp2
    go_end0
    exact ⟨⟨_, rfl⟩, .inr ⟨_, ⟨eFields.drop 4, rfl⟩, hx4⟩⟩
  clear hy4 hR4 g1
  have HH4 := Lib.hid (HKP.out _ _ _ hk4 HH3.out)
  have g1 := HH4.out
  obtain ⟨f5, t5, a5, b5, hy5, hR5⟩ := hY [ef0, ef1, ef2, ef3] ef4 W4 hJ4 (by simp)
  dsimp only [eEnc, ef0, ef1, ef2, ef3, ef4, ef5] at hy5
  clear hk4 hJ4
  gi_wp2
  refine hR5.mono ?_
  rintro e W5 (⟨rfl, hJ5, hk5⟩ | ⟨rfl, hx5⟩)
  rotate_left
  · gi_wp2
    refine ⟨fun _ h => (by cases h), ?_⟩
    gi_wp2
    go_end0
    exact ⟨⟨_, rfl⟩, .inr ⟨_, ⟨eFields.drop 5, rfl⟩, hx5⟩⟩
  clear hy5 hR5 g1
  have HH5 := Lib.hid (HKP.out _ _ _ hk5 HH4.out)
  have g1 := HH5.out
  obtain ⟨f6, t6, a6, b6, hy6, hR6⟩ := hY [ef0, ef1, ef2, ef3, ef4] ef5 W5 hJ5 (by simp)
  dsimp only [eEnc, ef0, ef1, ef2, ef3, ef4, ef5] at hy6
  clear hk5 hJ5
  gi_wp2
  refine hR6.mono ?_
  rintro e W6 (⟨rfl, hJ6, hk6⟩ | ⟨rfl, hx6⟩)
  · gi_wp2
    go_end0
    exact ⟨⟨_, rfl⟩, .inl ⟨_, rfl, hJ6⟩⟩
  · gi_wp2
    go_end0
    exact ⟨⟨_, rfl⟩, .inr ⟨_, ⟨eFields.drop 6, rfl⟩, hx6⟩⟩
/-- The names of what an entry has. -/
def all11 : List ByteArray := [s_worker, s_task, s_peer, s_ch, s_case, s_peercase, s_val, s_val2, s_ok, s_code, s_set]
theorem rows_ok : ∀ j, j < 58 → (match Ef.rowOf j with | none => true | some x => decide x.names.Nodup && (x.names.all (fun s => hasS all11 s) && decide (x.names.length ≤ 7)) && decide (0 ≤ x.key ∧ x.key ≤ 255)) = true := by decide +kernel
theorem has_names {k : Int} {p : ByteArray × List ByteArray} (h : hasOf k = some p) : p.2.Nodup ∧ (∀ s ∈ p.2, s ∈ all11) ∧ p.2.length ≤ 7 ∧ 0 ≤ k ∧ k ≤ 255 := by
  obtain ⟨j, x, h1, rfl, rfl⟩ := row_has h
  have := rows_ok j (Ef.row_lt h1)
  rw [h1] at this
  simp only [Bool.and_eq_true, decide_eq_true_eq, List.all_eq_true] at this
  exact ⟨this.1.1, fun s hs => hasS_iff.1 (this.1.2.1 s hs), this.1.2.2, this.2.1, this.2.2⟩
/-- What is told of an entry. -/
inductive Ev where
  | small (s : ByteArray) (v : Int)
  | wide (v : Int)
  | plain (n : Nat)
/-- What is told at one name. -/
def evSw (x : EntV) (s : ByteArray) : List Ev :=
  if s = s_val then [.wide x.val] else if s = s_val2 then [.wide x.val2] else if s = s_ok then [.plain (if x.ok then 1 else 0)] else if s = s_code then [.plain (IntKind.u64.wrap x.code).toNat] else if s = s_set then [.plain x.set.toNat] else []
def evFd (x : EntV) (s : ByteArray) (ps : List EFd) : List Ev := (ps.filter fun p => decide (p.1.1 = s)).map fun p => .small p.1.1 (x.fld p.1.2)
def evOf (x : EntV) (s : ByteArray) : List Ev := evSw x s ++ evFd x s eFields
def evAll (x : EntV) (ns : List ByteArray) : List Ev := ns.flatMap (evOf x)
theorem evFd_snoc (x : EntV) (s : ByteArray) (ps : List EFd) (p : EFd) : evFd x s (ps ++ [p]) = evFd x s ps ++ if p.1.1 = s then [.small p.1.1 (x.fld p.1.2)] else [] := by
  unfold evFd
  rw [List.filter_append, List.map_append]
  by_cases h : p.1.1 = s <;> simp [h]
theorem evAll_snoc (x : EntV) (ns : List ByteArray) (s : ByteArray) : evAll x (ns ++ [s]) = evAll x ns ++ evOf x s := by simp [evAll]
theorem evSw_len (x : EntV) (s : ByteArray) : (evSw x s).length ≤ 1 := by
  unfold evSw
  (repeat' split) <;> simp
theorem evFd_len (x : EntV) (s : ByteArray) (ps : List EFd) : (evFd x s ps).length ≤ ps.length := by
  unfold evFd
  rw [List.length_map]
  exact List.length_filter_le ..
theorem evOf_len (x : EntV) (s : ByteArray) : (evOf x s).length ≤ 7 := by
  have h1 := evSw_len x s
  have h2 := evFd_len x s eFields
  have h3 : eFields.length = 6 := rfl
  unfold evOf
  rw [List.length_append]
  omega
theorem evAll_len (x : EntV) : ∀ ns : List ByteArray, (evAll x ns).length ≤ 7 * ns.length
  | [] => by simp [evAll]
  | s :: ns => by
    have h1 := evAll_len x ns
    have h2 := evOf_len x s
    have e : evAll x (s :: ns) = evOf x s ++ evAll x ns := rfl
    rw [e, List.length_append, List.length_cons]
    omega
/-- All objects stay, but those that are told of. -/
def KeepsM (Mod : Nat → Obj → Prop) (w w' : World) : Prop := w.heap.size ≤ w'.heap.size ∧ ∀ k o, w.heap[k]? = some o → ¬ Mod k o → w'.heap[k]? = some o
theorem KeepsM.refl (Mod : Nat → Obj → Prop) (w : World) : KeepsM Mod w w := ⟨Nat.le_refl _, fun _ _ h _ => h⟩
theorem KeepsM.trans {Mod : Nat → Obj → Prop} {a b c : World} (h : KeepsM Mod a b) (k : KeepsM Mod b c) : KeepsM Mod a c := ⟨Nat.le_trans h.1 k.1, fun i o h1 h2 => k.2 i o (h.2 i o h1 h2) h2⟩
theorem KeepsM.of_below {Mod : Nat → Obj → Prop} {w w' : World} (h : Below w.heap.size w w') : KeepsM Mod w w' := ⟨h.size, fun k o hk _ => (h.block k (Array.getElem?_eq_some_iff.1 hk).1).trans hk⟩
def CellsKept (w w' : World) : Prop := w.heap.size ≤ w'.heap.size ∧ ∀ (k : Nat) cs T z, w.heap[k]? = some (Obj.cells cs T z) → w'.heap[k]? = some (Obj.cells cs T z)
theorem CellsKept.of_below {w w' : World} (h : Below w.heap.size w w') : CellsKept w w' := ⟨h.size, fun k _ _ _ hk => (h.block k (Array.getElem?_eq_some_iff.1 hk).1).trans hk⟩
theorem CellsKept.of_grown {w w' : World} {row : Option Nat} (h : w.grownBy w' row) (hr : ∀ r, row = some r → ∃ o : Obj, w.heap[r]? = some o ∧ o.isCells = false) : CellsKept w w' := ⟨h.size, fun k cs T z hk => by
  refine (h.block k (Array.getElem?_eq_some_iff.1 hk).1 ?_).trans hk
  intro e
  obtain ⟨o, ho, hc⟩ := hr k e.symm
  rw [hk] at ho
  cases ho
  cases hc⟩
theorem KeepsM.ownFrom {β : Type} {Mod : Nat → Obj → Prop} {w0 : World} {b : Nat} (hb : w0.heap.size ≤ b) : OwnFrom b (fun (_ : β) W => KeepsM Mod w0 W) := fun s W W' row hs hg hr => ⟨Nat.le_trans hs.1 hg.size, fun k o hk hm => by
  refine (hg.block k (Array.getElem?_eq_some_iff.1 (hs.2 k o hk hm)).1 ?_).trans (hs.2 k o hk hm)
  intro e
  have := (hr k e.symm).1
  have := (Array.getElem?_eq_some_iff.1 hk).1
  omega⟩
/-- A sink of what is told: a state that lasts when nothing of it is written, and three calls that take it on. -/
structure Sink (Mod : Nat → Obj → Prop) (B : Nat) (S : List Ev → World → Prop) (ok : Ev → Prop) (gs gw gp : Nat) (vs vw vp : Array Value) : Prop where
  keep : ∀ evs w w', S evs w → CellsKept w w' → S evs w'
  es : ∀ args w, (callFunc gs args).run Tryd.prog w = .ok (.enter gs args) w
  ew : ∀ args w, (callFunc gw args).run Tryd.prog w = .ok (.enter gw args) w
  ep : ∀ args w, (callFunc gp args).run Tryd.prog w = .ok (.enter gp args) w
  small : ∀ evs w s v, S evs w → ok (.small s v) → evs.length ≤ 1000 → B ≤ w.heap.size → Calls Tryd.prog gs (#[.string s, .int .i64 v] ++ vs) w fun e w' => e = .returned (.tuple #[]) ∧ S (evs ++ [.small s v]) w' ∧ KeepsM Mod w w' ∧ Below B w w'
  wide : ∀ evs w v, S evs w → ok (.wide v) → evs.length ≤ 1000 → B ≤ w.heap.size → Calls Tryd.prog gw (#[.int .i64 v] ++ vw) w fun e w' => e = .returned (.tuple #[]) ∧ S (evs ++ [.wide v]) w' ∧ KeepsM Mod w w' ∧ Below B w w'
  plain : ∀ evs w (n : Nat), S evs w → ok (.plain n) → evs.length ≤ 1000 → B ≤ w.heap.size → Calls Tryd.prog gp (#[.int .u64 n] ++ vp) w fun e w' => e = .returned (.tuple #[]) ∧ S (evs ++ [.plain n]) w' ∧ KeepsM Mod w w' ∧ Below B w w'
/-- The objects of entry.tell's own are none of those that the callbacks write. -/
structure Free (Mod : Nat → Obj → Prop) : Prop where
  ent : ∀ k cs z, ¬ Mod k (.cells cs 26 z)
  fn : ∀ k cs z, ¬ Mod k (.cells cs 67 z)
  str : ∀ k (cs : Array Value) z (i : Nat) s, cs[i]? = some (.string s) → s ∈ all11 → ¬ Mod k (.cells cs 9 z)
  ptr : ∀ k cs z, ¬ Mod k (.cells cs 105 z)
  oth : ∀ k o, o.isCells = false → ¬ Mod k o
end Go.Proofs.YtljfloopjgpaeabDoor
